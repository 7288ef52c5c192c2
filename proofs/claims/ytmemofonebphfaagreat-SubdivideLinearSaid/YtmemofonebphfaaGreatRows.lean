/-
  No cell of these rows narrows 'for every input' (looked for: loops, veiled, ifaces, maps, wideKeys, modest, calm, conditions, laid).
  DERIVED. THE GIVEN ROWS OF THIS SEAT. 10 by the template 'for every input the law returns true; each argument reads behind the call as it read before'; 0 by the template 'total and deterministic' (their statements: YtmemofonebphfaaGreatTotals.lean).
  GIVEN WITH THE SEED: the statements are not yours to turn. If you find one false, say at which input.
  Laid BY PROGRAM, IN A SANDBOX (cutbox-rows.mjs): the forced cells as the released guide's own fill.sh prints them over the translation f8ab7dd866ead08d… (all of the seat's roots in one cut). By AI agents, Wed Nov 11 2026. No macro, syntax, notation, axiom, sorry.
-/
import Derived.Test.YtmemofonebphfaaGreatChecked
import GoSem.Claim
import GoSem.ClaimJoined
import GoSem.ClaimMapViews
import Derived.JoinedTies
import Derived.KernelRfl
namespace Go.Proofs.YtmemofonebphfaaGreat
/- THE CELL 'sum', in the pinned program and in every row, IS THE sha256 OF THE DUMP (.gsa) THAT YtmemofonebphfaaGreatProg.lean LOADS. Nothing in Lean hashes anything: it is a label: what it is worth is what the hold of that sum in a sandbox is worth. -/
noncomputable def Tryz.pinned : Pinned := { name := "ytmemofonebphfaagreat", sum := "f8ab7dd866ead08d899c602bec2629bf989573f4c3c537dababe2bf6775998d6", checked := Tryz.checked }
namespace Rows
def none {H : Type} : Left H := { results := [], args := [] }

/-- 'lithophanelaw09.SubdivideFine': WHATEVER THE INPUT: true; the input reads as it did. -/
def subdivideFineSpec : ChangeSpec := { name := "subdivideFine", fn := fun _ => fun
  | [d] => { results := [.lit (.bool true)], args := [d] }
  | _ => none }
def subdivideFineRow : OpenClaim := { program := "ytmemofonebphfaagreat", sum := "f8ab7dd866ead08d899c602bec2629bf989573f4c3c537dababe2bf6775998d6", func := "lithophane/lithophanelaw09.SubdivideFine", spec := "subdivideFine", unfollowed := true, recurses := true, plainKeys := false, apart := false }
def SubdivideFineSaid : Prop := subdivideFineRow.holds Tryz.pinned (OpenSpec.ofChange subdivideFineSpec)

/-- ITS FALSE NEIGHBOUR: 'it returns false'. Refute it at one input. -/
def subdivideFineWrong : ChangeSpec := { name := "subdivideFine", fn := fun _ => fun
  | [d] => { results := [.lit (.bool false)], args := [d] }
  | _ => none }
def SubdivideFineWrongFalsely : Prop := subdivideFineRow.holds Tryz.pinned (OpenSpec.ofChange subdivideFineWrong)

/-- 'lithophanelaw09.SubdivideWrong': WHATEVER THE INPUT: true; the input reads as it did. -/
def subdivideWrongSpec : ChangeSpec := { name := "subdivideWrong", fn := fun _ => fun
  | [d1, d2, d3] => { results := [.lit (.bool true)], args := [d1, d2, d3] }
  | _ => none }
def subdivideWrongRow : OpenClaim := { program := "ytmemofonebphfaagreat", sum := "f8ab7dd866ead08d899c602bec2629bf989573f4c3c537dababe2bf6775998d6", func := "lithophane/lithophanelaw09.SubdivideWrong", spec := "subdivideWrong", unfollowed := true, recurses := true, plainKeys := false, apart := false }
def SubdivideWrongSaid : Prop := subdivideWrongRow.holds Tryz.pinned (OpenSpec.ofChange subdivideWrongSpec)

/-- ITS FALSE NEIGHBOUR: 'it returns false'. Refute it at one input. -/
def subdivideWrongWrong : ChangeSpec := { name := "subdivideWrong", fn := fun _ => fun
  | [d1, d2, d3] => { results := [.lit (.bool false)], args := [d1, d2, d3] }
  | _ => none }
def SubdivideWrongWrongFalsely : Prop := subdivideWrongRow.holds Tryz.pinned (OpenSpec.ofChange subdivideWrongWrong)

/-- 'lithophanelaw09.SubdivideKeeps': WHATEVER THE INPUT: true; the input reads as it did. -/
def subdivideKeepsSpec : ChangeSpec := { name := "subdivideKeeps", fn := fun _ => fun
  | [d] => { results := [.lit (.bool true)], args := [d] }
  | _ => none }
def subdivideKeepsRow : OpenClaim := { program := "ytmemofonebphfaagreat", sum := "f8ab7dd866ead08d899c602bec2629bf989573f4c3c537dababe2bf6775998d6", func := "lithophane/lithophanelaw09.SubdivideKeeps", spec := "subdivideKeeps", unfollowed := true, recurses := true, plainKeys := false, apart := false }
def SubdivideKeepsSaid : Prop := subdivideKeepsRow.holds Tryz.pinned (OpenSpec.ofChange subdivideKeepsSpec)

/-- ITS FALSE NEIGHBOUR: 'it returns false'. Refute it at one input. -/
def subdivideKeepsWrong : ChangeSpec := { name := "subdivideKeeps", fn := fun _ => fun
  | [d] => { results := [.lit (.bool false)], args := [d] }
  | _ => none }
def SubdivideKeepsWrongFalsely : Prop := subdivideKeepsRow.holds Tryz.pinned (OpenSpec.ofChange subdivideKeepsWrong)

/-- 'lithophanelaw09.SubdivideLinear': WHATEVER THE INPUT: true; the input reads as it did. -/
def subdivideLinearSpec : ChangeSpec := { name := "subdivideLinear", fn := fun _ => fun
  | [d1, d2] => { results := [.lit (.bool true)], args := [d1, d2] }
  | _ => none }
def subdivideLinearRow : OpenClaim := { program := "ytmemofonebphfaagreat", sum := "f8ab7dd866ead08d899c602bec2629bf989573f4c3c537dababe2bf6775998d6", func := "lithophane/lithophanelaw09.SubdivideLinear", spec := "subdivideLinear", unfollowed := true, recurses := true, plainKeys := false, apart := false }
def SubdivideLinearSaid : Prop := subdivideLinearRow.holds Tryz.pinned (OpenSpec.ofChange subdivideLinearSpec)

/-- ITS FALSE NEIGHBOUR: 'it returns false'. Refute it at one input. -/
def subdivideLinearWrong : ChangeSpec := { name := "subdivideLinear", fn := fun _ => fun
  | [d1, d2] => { results := [.lit (.bool false)], args := [d1, d2] }
  | _ => none }
def SubdivideLinearWrongFalsely : Prop := subdivideLinearRow.holds Tryz.pinned (OpenSpec.ofChange subdivideLinearWrong)

/-- 'lithophanelaw09.SubdivideSteps': WHATEVER THE INPUT: true; the input reads as it did. -/
def subdivideStepsSpec : ChangeSpec := { name := "subdivideSteps", fn := fun _ => fun
  | [d] => { results := [.lit (.bool true)], args := [d] }
  | _ => none }
def subdivideStepsRow : OpenClaim := { program := "ytmemofonebphfaagreat", sum := "f8ab7dd866ead08d899c602bec2629bf989573f4c3c537dababe2bf6775998d6", func := "lithophane/lithophanelaw09.SubdivideSteps", spec := "subdivideSteps", unfollowed := true, recurses := true, plainKeys := false, apart := false }
def SubdivideStepsSaid : Prop := subdivideStepsRow.holds Tryz.pinned (OpenSpec.ofChange subdivideStepsSpec)

/-- ITS FALSE NEIGHBOUR: 'it returns false'. Refute it at one input. -/
def subdivideStepsWrong : ChangeSpec := { name := "subdivideSteps", fn := fun _ => fun
  | [d] => { results := [.lit (.bool false)], args := [d] }
  | _ => none }
def SubdivideStepsWrongFalsely : Prop := subdivideStepsRow.holds Tryz.pinned (OpenSpec.ofChange subdivideStepsWrong)

/-- 'lithophanelaw09.SubdivideCreases': WHATEVER THE INPUT: true; the input reads as it did. -/
def subdivideCreasesSpec : ChangeSpec := { name := "subdivideCreases", fn := fun _ => fun
  | [d1, d2] => { results := [.lit (.bool true)], args := [d1, d2] }
  | _ => none }
def subdivideCreasesRow : OpenClaim := { program := "ytmemofonebphfaagreat", sum := "f8ab7dd866ead08d899c602bec2629bf989573f4c3c537dababe2bf6775998d6", func := "lithophane/lithophanelaw09.SubdivideCreases", spec := "subdivideCreases", unfollowed := true, recurses := true, plainKeys := false, apart := false }
def SubdivideCreasesSaid : Prop := subdivideCreasesRow.holds Tryz.pinned (OpenSpec.ofChange subdivideCreasesSpec)

/-- ITS FALSE NEIGHBOUR: 'it returns false'. Refute it at one input. -/
def subdivideCreasesWrong : ChangeSpec := { name := "subdivideCreases", fn := fun _ => fun
  | [d1, d2] => { results := [.lit (.bool false)], args := [d1, d2] }
  | _ => none }
def SubdivideCreasesWrongFalsely : Prop := subdivideCreasesRow.holds Tryz.pinned (OpenSpec.ofChange subdivideCreasesWrong)

/-- 'lithophanelaw09.SubdivideSurface': WHATEVER THE INPUT: true; the input reads as it did. -/
def subdivideSurfaceSpec : ChangeSpec := { name := "subdivideSurface", fn := fun _ => fun
  | [d1, d2] => { results := [.lit (.bool true)], args := [d1, d2] }
  | _ => none }
def subdivideSurfaceRow : OpenClaim := { program := "ytmemofonebphfaagreat", sum := "f8ab7dd866ead08d899c602bec2629bf989573f4c3c537dababe2bf6775998d6", func := "lithophane/lithophanelaw09.SubdivideSurface", spec := "subdivideSurface", unfollowed := true, recurses := true, plainKeys := false, apart := false }
def SubdivideSurfaceSaid : Prop := subdivideSurfaceRow.holds Tryz.pinned (OpenSpec.ofChange subdivideSurfaceSpec)

/-- ITS FALSE NEIGHBOUR: 'it returns false'. Refute it at one input. -/
def subdivideSurfaceWrong : ChangeSpec := { name := "subdivideSurface", fn := fun _ => fun
  | [d1, d2] => { results := [.lit (.bool false)], args := [d1, d2] }
  | _ => none }
def SubdivideSurfaceWrongFalsely : Prop := subdivideSurfaceRow.holds Tryz.pinned (OpenSpec.ofChange subdivideSurfaceWrong)

/-- 'lithophanelaw09.SubdivideAnalyse': WHATEVER THE INPUT: true; the input reads as it did. -/
def subdivideAnalyseSpec : ChangeSpec := { name := "subdivideAnalyse", fn := fun _ => fun
  | [d1, d2] => { results := [.lit (.bool true)], args := [d1, d2] }
  | _ => none }
def subdivideAnalyseRow : OpenClaim := { program := "ytmemofonebphfaagreat", sum := "f8ab7dd866ead08d899c602bec2629bf989573f4c3c537dababe2bf6775998d6", func := "lithophane/lithophanelaw09.SubdivideAnalyse", spec := "subdivideAnalyse", unfollowed := true, recurses := true, plainKeys := false, apart := false }
def SubdivideAnalyseSaid : Prop := subdivideAnalyseRow.holds Tryz.pinned (OpenSpec.ofChange subdivideAnalyseSpec)

/-- ITS FALSE NEIGHBOUR: 'it returns false'. Refute it at one input. -/
def subdivideAnalyseWrong : ChangeSpec := { name := "subdivideAnalyse", fn := fun _ => fun
  | [d1, d2] => { results := [.lit (.bool false)], args := [d1, d2] }
  | _ => none }
def SubdivideAnalyseWrongFalsely : Prop := subdivideAnalyseRow.holds Tryz.pinned (OpenSpec.ofChange subdivideAnalyseWrong)

/-- 'lithophanelaw09.SubdivideAnalyses': WHATEVER THE INPUT: true; the input reads as it did. -/
def subdivideAnalysesSpec : ChangeSpec := { name := "subdivideAnalyses", fn := fun _ => fun
  | [d1, d2, d3] => { results := [.lit (.bool true)], args := [d1, d2, d3] }
  | _ => none }
def subdivideAnalysesRow : OpenClaim := { program := "ytmemofonebphfaagreat", sum := "f8ab7dd866ead08d899c602bec2629bf989573f4c3c537dababe2bf6775998d6", func := "lithophane/lithophanelaw09.SubdivideAnalyses", spec := "subdivideAnalyses", unfollowed := true, recurses := true, plainKeys := false, apart := false }
def SubdivideAnalysesSaid : Prop := subdivideAnalysesRow.holds Tryz.pinned (OpenSpec.ofChange subdivideAnalysesSpec)

/-- ITS FALSE NEIGHBOUR: 'it returns false'. Refute it at one input. -/
def subdivideAnalysesWrong : ChangeSpec := { name := "subdivideAnalyses", fn := fun _ => fun
  | [d1, d2, d3] => { results := [.lit (.bool false)], args := [d1, d2, d3] }
  | _ => none }
def SubdivideAnalysesWrongFalsely : Prop := subdivideAnalysesRow.holds Tryz.pinned (OpenSpec.ofChange subdivideAnalysesWrong)

/-- 'lithophanelaw09.SubdivideOwn': WHATEVER THE INPUT: true; the input reads as it did. -/
def subdivideOwnSpec : ChangeSpec := { name := "subdivideOwn", fn := fun _ => fun
  | [d] => { results := [.lit (.bool true)], args := [d] }
  | _ => none }
def subdivideOwnRow : OpenClaim := { program := "ytmemofonebphfaagreat", sum := "f8ab7dd866ead08d899c602bec2629bf989573f4c3c537dababe2bf6775998d6", func := "lithophane/lithophanelaw09.SubdivideOwn", spec := "subdivideOwn", unfollowed := true, recurses := true, plainKeys := false, apart := false }
def SubdivideOwnSaid : Prop := subdivideOwnRow.holds Tryz.pinned (OpenSpec.ofChange subdivideOwnSpec)

/-- ITS FALSE NEIGHBOUR: 'it returns false'. Refute it at one input. -/
def subdivideOwnWrong : ChangeSpec := { name := "subdivideOwn", fn := fun _ => fun
  | [d] => { results := [.lit (.bool false)], args := [d] }
  | _ => none }
def SubdivideOwnWrongFalsely : Prop := subdivideOwnRow.holds Tryz.pinned (OpenSpec.ofChange subdivideOwnWrong)

/- THE SECOND FORM. 'bulk': how many values and letters a reading holds, each counted each time it is reached (what is shared counts as often as it is met; a slice's spare places count too). A statement '..UptoSaid' is the law's where the arguments, and the package variables that the reading takes, are together of bulk at most 1048576: NARROWER than '..Said'. Prove '..Said' where nothing that the law and all that it calls make is longer than what came in: it says more and counts as full. Else prove '..UptoSaid'. A law counts once. -/
mutual
def uptoBulk {H : Type} : DataW H → Nat
  | .lit (.string bytes) => bytes.length + 1
  | .lit _ => 1
  | .nil => 1
  | .ptr d => uptoBulk d + 1
  | .slice elems spare => uptoBulkAll elems + uptoBulkAll spare + 1
  | .agg parts => uptoBulkAll parts + 1
  | .iface _ d => uptoBulk d + 1
  | .map entries => uptoBulkEntries entries + 1
  | .held _ => 1
def uptoBulkAll {H : Type} : List (DataW H) → Nat
  | [] => 0
  | d :: r => uptoBulk d + uptoBulkAll r
def uptoBulkEntries {H : Type} : List (Lit × DataW H) → Nat
  | [] => 0
  | x :: r => uptoBulkEntry x + uptoBulkEntries r
def uptoBulkEntry {H : Type} : Lit × DataW H → Nat
  | (.string bytes, d) => bytes.length + uptoBulk d + 1
  | (_, d) => uptoBulk d + 1
 end
def uptoSmall : (H : Type) → List (DataW H) → Bool := fun _ ds => decide (uptoBulkAll ds ≤ 1048576)
def OpenSpec.upto (s : _root_.Go.ChangeSpec) : _root_.Go.OpenSpec := { _root_.Go.OpenSpec.ofChange s with cond := some uptoSmall }

/-- 'lithophanelaw09.SubdivideFine', WHERE WHAT IT READS IS OF BULK AT MOST 1048576: true; the input reads as it did. -/
def subdivideFineUptoRow : OpenClaim := { program := "ytmemofonebphfaagreat", sum := "f8ab7dd866ead08d899c602bec2629bf989573f4c3c537dababe2bf6775998d6", func := "lithophane/lithophanelaw09.SubdivideFine", spec := "subdivideFine", unfollowed := true, recurses := true, plainKeys := false, apart := false, narrowed := true }
def SubdivideFineUptoSaid : Prop := subdivideFineUptoRow.holds Tryz.pinned (OpenSpec.upto subdivideFineSpec)

/-- 'lithophanelaw09.SubdivideWrong', WHERE WHAT IT READS IS OF BULK AT MOST 1048576: true; the input reads as it did. -/
def subdivideWrongUptoRow : OpenClaim := { program := "ytmemofonebphfaagreat", sum := "f8ab7dd866ead08d899c602bec2629bf989573f4c3c537dababe2bf6775998d6", func := "lithophane/lithophanelaw09.SubdivideWrong", spec := "subdivideWrong", unfollowed := true, recurses := true, plainKeys := false, apart := false, narrowed := true }
def SubdivideWrongUptoSaid : Prop := subdivideWrongUptoRow.holds Tryz.pinned (OpenSpec.upto subdivideWrongSpec)

/-- 'lithophanelaw09.SubdivideKeeps', WHERE WHAT IT READS IS OF BULK AT MOST 1048576: true; the input reads as it did. -/
def subdivideKeepsUptoRow : OpenClaim := { program := "ytmemofonebphfaagreat", sum := "f8ab7dd866ead08d899c602bec2629bf989573f4c3c537dababe2bf6775998d6", func := "lithophane/lithophanelaw09.SubdivideKeeps", spec := "subdivideKeeps", unfollowed := true, recurses := true, plainKeys := false, apart := false, narrowed := true }
def SubdivideKeepsUptoSaid : Prop := subdivideKeepsUptoRow.holds Tryz.pinned (OpenSpec.upto subdivideKeepsSpec)

/-- 'lithophanelaw09.SubdivideLinear', WHERE WHAT IT READS IS OF BULK AT MOST 1048576: true; the input reads as it did. -/
def subdivideLinearUptoRow : OpenClaim := { program := "ytmemofonebphfaagreat", sum := "f8ab7dd866ead08d899c602bec2629bf989573f4c3c537dababe2bf6775998d6", func := "lithophane/lithophanelaw09.SubdivideLinear", spec := "subdivideLinear", unfollowed := true, recurses := true, plainKeys := false, apart := false, narrowed := true }
def SubdivideLinearUptoSaid : Prop := subdivideLinearUptoRow.holds Tryz.pinned (OpenSpec.upto subdivideLinearSpec)

/-- 'lithophanelaw09.SubdivideSteps', WHERE WHAT IT READS IS OF BULK AT MOST 1048576: true; the input reads as it did. -/
def subdivideStepsUptoRow : OpenClaim := { program := "ytmemofonebphfaagreat", sum := "f8ab7dd866ead08d899c602bec2629bf989573f4c3c537dababe2bf6775998d6", func := "lithophane/lithophanelaw09.SubdivideSteps", spec := "subdivideSteps", unfollowed := true, recurses := true, plainKeys := false, apart := false, narrowed := true }
def SubdivideStepsUptoSaid : Prop := subdivideStepsUptoRow.holds Tryz.pinned (OpenSpec.upto subdivideStepsSpec)

/-- 'lithophanelaw09.SubdivideCreases', WHERE WHAT IT READS IS OF BULK AT MOST 1048576: true; the input reads as it did. -/
def subdivideCreasesUptoRow : OpenClaim := { program := "ytmemofonebphfaagreat", sum := "f8ab7dd866ead08d899c602bec2629bf989573f4c3c537dababe2bf6775998d6", func := "lithophane/lithophanelaw09.SubdivideCreases", spec := "subdivideCreases", unfollowed := true, recurses := true, plainKeys := false, apart := false, narrowed := true }
def SubdivideCreasesUptoSaid : Prop := subdivideCreasesUptoRow.holds Tryz.pinned (OpenSpec.upto subdivideCreasesSpec)

/-- 'lithophanelaw09.SubdivideSurface', WHERE WHAT IT READS IS OF BULK AT MOST 1048576: true; the input reads as it did. -/
def subdivideSurfaceUptoRow : OpenClaim := { program := "ytmemofonebphfaagreat", sum := "f8ab7dd866ead08d899c602bec2629bf989573f4c3c537dababe2bf6775998d6", func := "lithophane/lithophanelaw09.SubdivideSurface", spec := "subdivideSurface", unfollowed := true, recurses := true, plainKeys := false, apart := false, narrowed := true }
def SubdivideSurfaceUptoSaid : Prop := subdivideSurfaceUptoRow.holds Tryz.pinned (OpenSpec.upto subdivideSurfaceSpec)

/-- 'lithophanelaw09.SubdivideAnalyse', WHERE WHAT IT READS IS OF BULK AT MOST 1048576: true; the input reads as it did. -/
def subdivideAnalyseUptoRow : OpenClaim := { program := "ytmemofonebphfaagreat", sum := "f8ab7dd866ead08d899c602bec2629bf989573f4c3c537dababe2bf6775998d6", func := "lithophane/lithophanelaw09.SubdivideAnalyse", spec := "subdivideAnalyse", unfollowed := true, recurses := true, plainKeys := false, apart := false, narrowed := true }
def SubdivideAnalyseUptoSaid : Prop := subdivideAnalyseUptoRow.holds Tryz.pinned (OpenSpec.upto subdivideAnalyseSpec)

/-- 'lithophanelaw09.SubdivideAnalyses', WHERE WHAT IT READS IS OF BULK AT MOST 1048576: true; the input reads as it did. -/
def subdivideAnalysesUptoRow : OpenClaim := { program := "ytmemofonebphfaagreat", sum := "f8ab7dd866ead08d899c602bec2629bf989573f4c3c537dababe2bf6775998d6", func := "lithophane/lithophanelaw09.SubdivideAnalyses", spec := "subdivideAnalyses", unfollowed := true, recurses := true, plainKeys := false, apart := false, narrowed := true }
def SubdivideAnalysesUptoSaid : Prop := subdivideAnalysesUptoRow.holds Tryz.pinned (OpenSpec.upto subdivideAnalysesSpec)

/-- 'lithophanelaw09.SubdivideOwn', WHERE WHAT IT READS IS OF BULK AT MOST 1048576: true; the input reads as it did. -/
def subdivideOwnUptoRow : OpenClaim := { program := "ytmemofonebphfaagreat", sum := "f8ab7dd866ead08d899c602bec2629bf989573f4c3c537dababe2bf6775998d6", func := "lithophane/lithophanelaw09.SubdivideOwn", spec := "subdivideOwn", unfollowed := true, recurses := true, plainKeys := false, apart := false, narrowed := true }
def SubdivideOwnUptoSaid : Prop := subdivideOwnUptoRow.holds Tryz.pinned (OpenSpec.upto subdivideOwnSpec)

end Rows
end Go.Proofs.YtmemofonebphfaaGreat
