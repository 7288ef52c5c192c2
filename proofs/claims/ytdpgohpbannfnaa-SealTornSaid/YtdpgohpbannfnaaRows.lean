/-
  No cell of these rows narrows 'for every input' (looked for: loops, veiled, ifaces, maps, wideKeys, modest, calm, conditions, laid).
  DERIVED. THE GIVEN ROWS OF THIS SEAT. 8 by the template 'for every input the law returns true; each argument reads behind the call as it read before'; 0 by the template 'total and deterministic' (their statements: YtdpgohpbannfnaaTotals.lean).
  GIVEN WITH THE SEED: the statements are not yours to turn. If you find one false, say at which input.
  Laid BY PROGRAM, IN A SANDBOX (cutbox-rows.mjs): the forced cells as the released guide's own fill.sh prints them over the translation 3a4fd7876c42f69f… (all of the seat's roots in one cut). By AI agents, Wed Nov 11 2026. No macro, syntax, notation, axiom, sorry.
-/
import Derived.Test.YtdpgohpbannfnaaChecked
import GoSem.Claim
import GoSem.ClaimJoined
import GoSem.ClaimMapViews
import Derived.JoinedTies
import Derived.KernelRfl
namespace Go.Proofs.Ytdpgohpbannfnaa
/- THE CELL 'sum', in the pinned program and in every row, IS THE sha256 OF THE DUMP (.gsa) THAT YtdpgohpbannfnaaProg.lean LOADS. Nothing in Lean hashes anything: it is a label: what it is worth is what the hold of that sum in a sandbox is worth. -/
noncomputable def Try.pinned : Pinned := { name := "ytdpgohpbannfnaa", sum := "3a4fd7876c42f69fed620244d968f44ab4cafa8eb03a27baa493c5352cae0200", checked := Try.checked }
namespace Rows
def none {H : Type} : Left H := { results := [], args := [] }

/-- 'lithophanelaw07.SealFields': WHATEVER THE INPUT: true; the input reads as it did. -/
def sealFieldsSpec : ChangeSpec := { name := "sealFields", fn := fun _ => fun
  | [d1, d2] => { results := [.lit (.bool true)], args := [d1, d2] }
  | _ => none }
def sealFieldsRow : OpenClaim := { program := "ytdpgohpbannfnaa", sum := "3a4fd7876c42f69fed620244d968f44ab4cafa8eb03a27baa493c5352cae0200", func := "lithophane/lithophanelaw07.SealFields", spec := "sealFields", unfollowed := true, recurses := true, plainKeys := false, apart := false }
def SealFieldsSaid : Prop := sealFieldsRow.holds Try.pinned (OpenSpec.ofChange sealFieldsSpec)

/-- ITS FALSE NEIGHBOUR: 'it returns false'. Refute it at one input. -/
def sealFieldsWrong : ChangeSpec := { name := "sealFields", fn := fun _ => fun
  | [d1, d2] => { results := [.lit (.bool false)], args := [d1, d2] }
  | _ => none }
def SealFieldsWrongFalsely : Prop := sealFieldsRow.holds Try.pinned (OpenSpec.ofChange sealFieldsWrong)

/-- 'lithophanelaw07.SealTorn': WHATEVER THE INPUT: true; the input reads as it did. -/
def sealTornSpec : ChangeSpec := { name := "sealTorn", fn := fun _ => fun
  | [d1, d2, d3] => { results := [.lit (.bool true)], args := [d1, d2, d3] }
  | _ => none }
def sealTornRow : OpenClaim := { program := "ytdpgohpbannfnaa", sum := "3a4fd7876c42f69fed620244d968f44ab4cafa8eb03a27baa493c5352cae0200", func := "lithophane/lithophanelaw07.SealTorn", spec := "sealTorn", unfollowed := true, recurses := true, plainKeys := false, apart := false }
def SealTornSaid : Prop := sealTornRow.holds Try.pinned (OpenSpec.ofChange sealTornSpec)

/-- ITS FALSE NEIGHBOUR: 'it returns false'. Refute it at one input. -/
def sealTornWrong : ChangeSpec := { name := "sealTorn", fn := fun _ => fun
  | [d1, d2, d3] => { results := [.lit (.bool false)], args := [d1, d2, d3] }
  | _ => none }
def SealTornWrongFalsely : Prop := sealTornRow.holds Try.pinned (OpenSpec.ofChange sealTornWrong)

/-- 'lithophanelaw07.SealKeeps': WHATEVER THE INPUT: true; the input reads as it did. -/
def sealKeepsSpec : ChangeSpec := { name := "sealKeeps", fn := fun _ => fun
  | [d1, d2] => { results := [.lit (.bool true)], args := [d1, d2] }
  | _ => none }
def sealKeepsRow : OpenClaim := { program := "ytdpgohpbannfnaa", sum := "3a4fd7876c42f69fed620244d968f44ab4cafa8eb03a27baa493c5352cae0200", func := "lithophane/lithophanelaw07.SealKeeps", spec := "sealKeeps", unfollowed := true, recurses := true, plainKeys := false, apart := false }
def SealKeepsSaid : Prop := sealKeepsRow.holds Try.pinned (OpenSpec.ofChange sealKeepsSpec)

/-- ITS FALSE NEIGHBOUR: 'it returns false'. Refute it at one input. -/
def sealKeepsWrong : ChangeSpec := { name := "sealKeeps", fn := fun _ => fun
  | [d1, d2] => { results := [.lit (.bool false)], args := [d1, d2] }
  | _ => none }
def SealKeepsWrongFalsely : Prop := sealKeepsRow.holds Try.pinned (OpenSpec.ofChange sealKeepsWrong)

/-- 'lithophanelaw07.SealMends': WHATEVER THE INPUT: true; the input reads as it did. -/
def sealMendsSpec : ChangeSpec := { name := "sealMends", fn := fun _ => fun
  | [d1, d2, d3] => { results := [.lit (.bool true)], args := [d1, d2, d3] }
  | _ => none }
def sealMendsRow : OpenClaim := { program := "ytdpgohpbannfnaa", sum := "3a4fd7876c42f69fed620244d968f44ab4cafa8eb03a27baa493c5352cae0200", func := "lithophane/lithophanelaw07.SealMends", spec := "sealMends", unfollowed := true, recurses := true, plainKeys := false, apart := false }
def SealMendsSaid : Prop := sealMendsRow.holds Try.pinned (OpenSpec.ofChange sealMendsSpec)

/-- ITS FALSE NEIGHBOUR: 'it returns false'. Refute it at one input. -/
def sealMendsWrong : ChangeSpec := { name := "sealMends", fn := fun _ => fun
  | [d1, d2, d3] => { results := [.lit (.bool false)], args := [d1, d2, d3] }
  | _ => none }
def SealMendsWrongFalsely : Prop := sealMendsRow.holds Try.pinned (OpenSpec.ofChange sealMendsWrong)

/-- 'lithophanelaw07.SealBorder': WHATEVER THE INPUT: true; the input reads as it did. -/
def sealBorderSpec : ChangeSpec := { name := "sealBorder", fn := fun _ => fun
  | [d1, d2] => { results := [.lit (.bool true)], args := [d1, d2] }
  | _ => none }
def sealBorderRow : OpenClaim := { program := "ytdpgohpbannfnaa", sum := "3a4fd7876c42f69fed620244d968f44ab4cafa8eb03a27baa493c5352cae0200", func := "lithophane/lithophanelaw07.SealBorder", spec := "sealBorder", unfollowed := true, recurses := true, plainKeys := false, apart := false }
def SealBorderSaid : Prop := sealBorderRow.holds Try.pinned (OpenSpec.ofChange sealBorderSpec)

/-- ITS FALSE NEIGHBOUR: 'it returns false'. Refute it at one input. -/
def sealBorderWrong : ChangeSpec := { name := "sealBorder", fn := fun _ => fun
  | [d1, d2] => { results := [.lit (.bool false)], args := [d1, d2] }
  | _ => none }
def SealBorderWrongFalsely : Prop := sealBorderRow.holds Try.pinned (OpenSpec.ofChange sealBorderWrong)

/-- 'lithophanelaw07.SealCells': WHATEVER THE INPUT: true; the input reads as it did. -/
def sealCellsSpec : ChangeSpec := { name := "sealCells", fn := fun _ => fun
  | [d1, d2] => { results := [.lit (.bool true)], args := [d1, d2] }
  | _ => none }
def sealCellsRow : OpenClaim := { program := "ytdpgohpbannfnaa", sum := "3a4fd7876c42f69fed620244d968f44ab4cafa8eb03a27baa493c5352cae0200", func := "lithophane/lithophanelaw07.SealCells", spec := "sealCells", unfollowed := true, recurses := true, plainKeys := false, apart := false }
def SealCellsSaid : Prop := sealCellsRow.holds Try.pinned (OpenSpec.ofChange sealCellsSpec)

/-- ITS FALSE NEIGHBOUR: 'it returns false'. Refute it at one input. -/
def sealCellsWrong : ChangeSpec := { name := "sealCells", fn := fun _ => fun
  | [d1, d2] => { results := [.lit (.bool false)], args := [d1, d2] }
  | _ => none }
def SealCellsWrongFalsely : Prop := sealCellsRow.holds Try.pinned (OpenSpec.ofChange sealCellsWrong)

/-- 'lithophanelaw07.SealLevels': WHATEVER THE INPUT: true; the input reads as it did. -/
def sealLevelsSpec : ChangeSpec := { name := "sealLevels", fn := fun _ => fun
  | [d1, d2] => { results := [.lit (.bool true)], args := [d1, d2] }
  | _ => none }
def sealLevelsRow : OpenClaim := { program := "ytdpgohpbannfnaa", sum := "3a4fd7876c42f69fed620244d968f44ab4cafa8eb03a27baa493c5352cae0200", func := "lithophane/lithophanelaw07.SealLevels", spec := "sealLevels", unfollowed := true, recurses := true, plainKeys := false, apart := false }
def SealLevelsSaid : Prop := sealLevelsRow.holds Try.pinned (OpenSpec.ofChange sealLevelsSpec)

/-- ITS FALSE NEIGHBOUR: 'it returns false'. Refute it at one input. -/
def sealLevelsWrong : ChangeSpec := { name := "sealLevels", fn := fun _ => fun
  | [d1, d2] => { results := [.lit (.bool false)], args := [d1, d2] }
  | _ => none }
def SealLevelsWrongFalsely : Prop := sealLevelsRow.holds Try.pinned (OpenSpec.ofChange sealLevelsWrong)

/-- 'lithophanelaw07.SealApart': WHATEVER THE INPUT: true; the input reads as it did. -/
def sealApartSpec : ChangeSpec := { name := "sealApart", fn := fun _ => fun
  | [d1, d2] => { results := [.lit (.bool true)], args := [d1, d2] }
  | _ => none }
def sealApartRow : OpenClaim := { program := "ytdpgohpbannfnaa", sum := "3a4fd7876c42f69fed620244d968f44ab4cafa8eb03a27baa493c5352cae0200", func := "lithophane/lithophanelaw07.SealApart", spec := "sealApart", unfollowed := true, recurses := true, plainKeys := false, apart := false }
def SealApartSaid : Prop := sealApartRow.holds Try.pinned (OpenSpec.ofChange sealApartSpec)

/-- ITS FALSE NEIGHBOUR: 'it returns false'. Refute it at one input. -/
def sealApartWrong : ChangeSpec := { name := "sealApart", fn := fun _ => fun
  | [d1, d2] => { results := [.lit (.bool false)], args := [d1, d2] }
  | _ => none }
def SealApartWrongFalsely : Prop := sealApartRow.holds Try.pinned (OpenSpec.ofChange sealApartWrong)

/- THE SECOND FORM. 'bulk': how many values and letters a reading holds, each counted each time it is reached (what is shared counts as often as it is met; a slice's spare places count too). A statement '..UptoSaid' is the law's where the arguments, and the package variables that the reading takes, are together of bulk at most 1048576: NARROWER than '..Said'. Prove '..Said' where nothing that the law and all that it calls make is longer than what came in: it says more and counts as full. Else prove '..UptoSaid'. A law counts once. -/
mutual
def uptoBulk {H : Type} : DataW H → Nat
  | .lit (.string bytes) => bytes.length + 1
  | .lit _ => 1
  | .nil => 1
  | .ptr d => uptoBulk d + 1
  | .slice elems spare => uptoBulkAll elems + uptoBulkAll spare + 1
  | .agg parts => uptoBulkAll parts + 1
  | .iface _ d => uptoBulk d + 1
  | .map entries => uptoBulkEntries entries + 1
  | .held _ => 1
def uptoBulkAll {H : Type} : List (DataW H) → Nat
  | [] => 0
  | d :: r => uptoBulk d + uptoBulkAll r
def uptoBulkEntries {H : Type} : List (Lit × DataW H) → Nat
  | [] => 0
  | x :: r => uptoBulkEntry x + uptoBulkEntries r
def uptoBulkEntry {H : Type} : Lit × DataW H → Nat
  | (.string bytes, d) => bytes.length + uptoBulk d + 1
  | (_, d) => uptoBulk d + 1
 end
def uptoSmall : (H : Type) → List (DataW H) → Bool := fun _ ds => decide (uptoBulkAll ds ≤ 1048576)
def OpenSpec.upto (s : _root_.Go.ChangeSpec) : _root_.Go.OpenSpec := { _root_.Go.OpenSpec.ofChange s with cond := some uptoSmall }

/-- 'lithophanelaw07.SealFields', WHERE WHAT IT READS IS OF BULK AT MOST 1048576: true; the input reads as it did. -/
def sealFieldsUptoRow : OpenClaim := { program := "ytdpgohpbannfnaa", sum := "3a4fd7876c42f69fed620244d968f44ab4cafa8eb03a27baa493c5352cae0200", func := "lithophane/lithophanelaw07.SealFields", spec := "sealFields", unfollowed := true, recurses := true, plainKeys := false, apart := false, narrowed := true }
def SealFieldsUptoSaid : Prop := sealFieldsUptoRow.holds Try.pinned (OpenSpec.upto sealFieldsSpec)

/-- 'lithophanelaw07.SealTorn', WHERE WHAT IT READS IS OF BULK AT MOST 1048576: true; the input reads as it did. -/
def sealTornUptoRow : OpenClaim := { program := "ytdpgohpbannfnaa", sum := "3a4fd7876c42f69fed620244d968f44ab4cafa8eb03a27baa493c5352cae0200", func := "lithophane/lithophanelaw07.SealTorn", spec := "sealTorn", unfollowed := true, recurses := true, plainKeys := false, apart := false, narrowed := true }
def SealTornUptoSaid : Prop := sealTornUptoRow.holds Try.pinned (OpenSpec.upto sealTornSpec)

/-- 'lithophanelaw07.SealKeeps', WHERE WHAT IT READS IS OF BULK AT MOST 1048576: true; the input reads as it did. -/
def sealKeepsUptoRow : OpenClaim := { program := "ytdpgohpbannfnaa", sum := "3a4fd7876c42f69fed620244d968f44ab4cafa8eb03a27baa493c5352cae0200", func := "lithophane/lithophanelaw07.SealKeeps", spec := "sealKeeps", unfollowed := true, recurses := true, plainKeys := false, apart := false, narrowed := true }
def SealKeepsUptoSaid : Prop := sealKeepsUptoRow.holds Try.pinned (OpenSpec.upto sealKeepsSpec)

/-- 'lithophanelaw07.SealMends', WHERE WHAT IT READS IS OF BULK AT MOST 1048576: true; the input reads as it did. -/
def sealMendsUptoRow : OpenClaim := { program := "ytdpgohpbannfnaa", sum := "3a4fd7876c42f69fed620244d968f44ab4cafa8eb03a27baa493c5352cae0200", func := "lithophane/lithophanelaw07.SealMends", spec := "sealMends", unfollowed := true, recurses := true, plainKeys := false, apart := false, narrowed := true }
def SealMendsUptoSaid : Prop := sealMendsUptoRow.holds Try.pinned (OpenSpec.upto sealMendsSpec)

/-- 'lithophanelaw07.SealBorder', WHERE WHAT IT READS IS OF BULK AT MOST 1048576: true; the input reads as it did. -/
def sealBorderUptoRow : OpenClaim := { program := "ytdpgohpbannfnaa", sum := "3a4fd7876c42f69fed620244d968f44ab4cafa8eb03a27baa493c5352cae0200", func := "lithophane/lithophanelaw07.SealBorder", spec := "sealBorder", unfollowed := true, recurses := true, plainKeys := false, apart := false, narrowed := true }
def SealBorderUptoSaid : Prop := sealBorderUptoRow.holds Try.pinned (OpenSpec.upto sealBorderSpec)

/-- 'lithophanelaw07.SealCells', WHERE WHAT IT READS IS OF BULK AT MOST 1048576: true; the input reads as it did. -/
def sealCellsUptoRow : OpenClaim := { program := "ytdpgohpbannfnaa", sum := "3a4fd7876c42f69fed620244d968f44ab4cafa8eb03a27baa493c5352cae0200", func := "lithophane/lithophanelaw07.SealCells", spec := "sealCells", unfollowed := true, recurses := true, plainKeys := false, apart := false, narrowed := true }
def SealCellsUptoSaid : Prop := sealCellsUptoRow.holds Try.pinned (OpenSpec.upto sealCellsSpec)

/-- 'lithophanelaw07.SealLevels', WHERE WHAT IT READS IS OF BULK AT MOST 1048576: true; the input reads as it did. -/
def sealLevelsUptoRow : OpenClaim := { program := "ytdpgohpbannfnaa", sum := "3a4fd7876c42f69fed620244d968f44ab4cafa8eb03a27baa493c5352cae0200", func := "lithophane/lithophanelaw07.SealLevels", spec := "sealLevels", unfollowed := true, recurses := true, plainKeys := false, apart := false, narrowed := true }
def SealLevelsUptoSaid : Prop := sealLevelsUptoRow.holds Try.pinned (OpenSpec.upto sealLevelsSpec)

/-- 'lithophanelaw07.SealApart', WHERE WHAT IT READS IS OF BULK AT MOST 1048576: true; the input reads as it did. -/
def sealApartUptoRow : OpenClaim := { program := "ytdpgohpbannfnaa", sum := "3a4fd7876c42f69fed620244d968f44ab4cafa8eb03a27baa493c5352cae0200", func := "lithophane/lithophanelaw07.SealApart", spec := "sealApart", unfollowed := true, recurses := true, plainKeys := false, apart := false, narrowed := true }
def SealApartUptoSaid : Prop := sealApartUptoRow.holds Try.pinned (OpenSpec.upto sealApartSpec)

end Rows
end Go.Proofs.Ytdpgohpbannfnaa
