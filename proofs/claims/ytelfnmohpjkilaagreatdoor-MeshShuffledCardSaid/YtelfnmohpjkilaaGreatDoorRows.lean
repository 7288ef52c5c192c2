/-
  NARROWER THAN 'FOR EVERY INPUT', by the rows' own cells (each row's printed sentence says how): MeshChecks: laid · MeshBorders: laid · MeshVolumes: laid · MeshCanons: laid · MeshRaw: laid · MeshEulers: laid · MeshKeeps: laid · MeshParts: laid · MeshShuffled: laid.
  DERIVED. THE GIVEN ROWS OF THIS SEAT. 9 by the template 'for every input the law returns true; each argument reads behind the call as it read before'; 0 by the template 'total and deterministic' (their statements: YtelfnmohpjkilaaGreatDoorTotals.lean).
  GIVEN WITH THE SEED: the statements are not yours to turn. If you find one false, say at which input.
  Laid BY PROGRAM, IN A SANDBOX (cutbox-rows.mjs): the forced cells as the released guide's own fill.sh prints them over the translation 35622090118c4722… (all of the seat's roots in one cut). By AI agents, Wed Nov 11 2026. No macro, syntax, notation, axiom, sorry.
-/
import Derived.Test.YtelfnmohpjkilaaGreatDoorChecked
import GoSem.PinnedTables
import GoSem.Claim
import GoSem.ClaimJoined
import GoSem.ClaimMapViews
import Derived.JoinedTies
import Derived.KernelRfl
namespace Go.Proofs.YtelfnmohpjkilaaGreatDoor
/- THE CELL 'sum', in the pinned program and in every row, IS THE sha256 OF THE DUMP (.gsa) THAT YtelfnmohpjkilaaGreatDoorProg.lean LOADS. Nothing in Lean hashes anything: it is a label: what it is worth is what the hold of that sum in a sandbox is worth. -/
noncomputable def Tryz.pinned : Pinned := { name := "ytelfnmohpjkilaagreatdoor", sum := "35622090118c4722e29fbbbb9f5a50a1c2e34c2578b4fb2f20afce5f72334c71", checked := Tryz.checked }
namespace Rows
def none {H : Type} : Left H := { results := [], args := [] }

/- WHAT THE LISTED PACKAGE-LEVEL VARIABLES READ AS WHEN THE CALL BEGINS. Each datum BY PROGRAM (the guide's laid-datum.mjs) off the statement by which the dump's own 'gosem.cut.vars' lays the variable. In a bare row this is a premise. The card (YtelfnmohpjkilaaGreatDoorCards.lean) ties it to the program's text. -/
def laid_unicode_utf8_acceptRanges {H : Type} : DataW H := .agg [.agg [.lit (.int .u8 128), .lit (.int .u8 191)], .agg [.lit (.int .u8 160), .lit (.int .u8 191)], .agg [.lit (.int .u8 128), .lit (.int .u8 159)], .agg [.lit (.int .u8 144), .lit (.int .u8 191)], .agg [.lit (.int .u8 128), .lit (.int .u8 143)], .agg [.lit (.int .u8 0), .lit (.int .u8 0)], .agg [.lit (.int .u8 0), .lit (.int .u8 0)], .agg [.lit (.int .u8 0), .lit (.int .u8 0)], .agg [.lit (.int .u8 0), .lit (.int .u8 0)], .agg [.lit (.int .u8 0), .lit (.int .u8 0)], .agg [.lit (.int .u8 0), .lit (.int .u8 0)], .agg [.lit (.int .u8 0), .lit (.int .u8 0)], .agg [.lit (.int .u8 0), .lit (.int .u8 0)], .agg [.lit (.int .u8 0), .lit (.int .u8 0)], .agg [.lit (.int .u8 0), .lit (.int .u8 0)], .agg [.lit (.int .u8 0), .lit (.int .u8 0)]]
/-- One of Go's own tables, pinned by name: the form's constant. -/
def laid_unicode_utf8_first : DataW Unit := Go.Pinned.utf8First

/-- 'lithophanelaw04.MeshChecks': WHATEVER THE INPUT: true; the input reads as it did. -/
def meshChecksSpec : ChangeSpec := { name := "meshChecks", fn := fun _ => fun
  | [d] => { results := [.lit (.bool true)], args := [d] }
  | _ => none }
def meshChecksRow : OpenClaim := { program := "ytelfnmohpjkilaagreatdoor", sum := "35622090118c4722e29fbbbb9f5a50a1c2e34c2578b4fb2f20afce5f72334c71", func := "lithophane/lithophanelaw04.MeshChecks", spec := "meshChecks", inPlace := ["internal/bytealg.IndexByteString", "internal/bytealg.IndexString"], unfollowed := true, recurses := true, named := ["unicode/utf8.first", "unicode/utf8.acceptRanges", "internal/bytealg.MaxLen"], plainKeys := false, apart := false, laid := [("unicode/utf8.acceptRanges", laid_unicode_utf8_acceptRanges), ("unicode/utf8.first", laid_unicode_utf8_first)] }
def MeshChecksSaid : Prop := meshChecksRow.holds Tryz.pinned (OpenSpec.ofChange meshChecksSpec)

/-- ITS FALSE NEIGHBOUR: 'it returns false'. Refute it at one input. -/
def meshChecksWrong : ChangeSpec := { name := "meshChecks", fn := fun _ => fun
  | [d] => { results := [.lit (.bool false)], args := [d] }
  | _ => none }
def MeshChecksWrongFalsely : Prop := meshChecksRow.holds Tryz.pinned (OpenSpec.ofChange meshChecksWrong)

/-- 'lithophanelaw04.MeshBorders': WHATEVER THE INPUT: true; the input reads as it did. -/
def meshBordersSpec : ChangeSpec := { name := "meshBorders", fn := fun _ => fun
  | [d] => { results := [.lit (.bool true)], args := [d] }
  | _ => none }
def meshBordersRow : OpenClaim := { program := "ytelfnmohpjkilaagreatdoor", sum := "35622090118c4722e29fbbbb9f5a50a1c2e34c2578b4fb2f20afce5f72334c71", func := "lithophane/lithophanelaw04.MeshBorders", spec := "meshBorders", inPlace := ["internal/bytealg.IndexByteString", "internal/bytealg.IndexString"], unfollowed := true, recurses := true, named := ["unicode/utf8.first", "unicode/utf8.acceptRanges", "internal/bytealg.MaxLen"], plainKeys := false, apart := false, laid := [("unicode/utf8.acceptRanges", laid_unicode_utf8_acceptRanges), ("unicode/utf8.first", laid_unicode_utf8_first)] }
def MeshBordersSaid : Prop := meshBordersRow.holds Tryz.pinned (OpenSpec.ofChange meshBordersSpec)

/-- ITS FALSE NEIGHBOUR: 'it returns false'. Refute it at one input. -/
def meshBordersWrong : ChangeSpec := { name := "meshBorders", fn := fun _ => fun
  | [d] => { results := [.lit (.bool false)], args := [d] }
  | _ => none }
def MeshBordersWrongFalsely : Prop := meshBordersRow.holds Tryz.pinned (OpenSpec.ofChange meshBordersWrong)

/-- 'lithophanelaw04.MeshVolumes': WHATEVER THE INPUT: true; the input reads as it did. -/
def meshVolumesSpec : ChangeSpec := { name := "meshVolumes", fn := fun _ => fun
  | [d1, d2, d3] => { results := [.lit (.bool true)], args := [d1, d2, d3] }
  | _ => none }
def meshVolumesRow : OpenClaim := { program := "ytelfnmohpjkilaagreatdoor", sum := "35622090118c4722e29fbbbb9f5a50a1c2e34c2578b4fb2f20afce5f72334c71", func := "lithophane/lithophanelaw04.MeshVolumes", spec := "meshVolumes", inPlace := ["internal/bytealg.IndexByteString", "internal/bytealg.IndexString"], unfollowed := true, recurses := true, named := ["unicode/utf8.first", "unicode/utf8.acceptRanges", "internal/bytealg.MaxLen"], plainKeys := false, apart := false, laid := [("unicode/utf8.acceptRanges", laid_unicode_utf8_acceptRanges), ("unicode/utf8.first", laid_unicode_utf8_first)] }
def MeshVolumesSaid : Prop := meshVolumesRow.holds Tryz.pinned (OpenSpec.ofChange meshVolumesSpec)

/-- ITS FALSE NEIGHBOUR: 'it returns false'. Refute it at one input. -/
def meshVolumesWrong : ChangeSpec := { name := "meshVolumes", fn := fun _ => fun
  | [d1, d2, d3] => { results := [.lit (.bool false)], args := [d1, d2, d3] }
  | _ => none }
def MeshVolumesWrongFalsely : Prop := meshVolumesRow.holds Tryz.pinned (OpenSpec.ofChange meshVolumesWrong)

/-- 'lithophanelaw04.MeshCanons': WHATEVER THE INPUT: true; the input reads as it did. -/
def meshCanonsSpec : ChangeSpec := { name := "meshCanons", fn := fun _ => fun
  | [d1, d2, d3] => { results := [.lit (.bool true)], args := [d1, d2, d3] }
  | _ => none }
def meshCanonsRow : OpenClaim := { program := "ytelfnmohpjkilaagreatdoor", sum := "35622090118c4722e29fbbbb9f5a50a1c2e34c2578b4fb2f20afce5f72334c71", func := "lithophane/lithophanelaw04.MeshCanons", spec := "meshCanons", inPlace := ["internal/bytealg.IndexByteString", "internal/bytealg.IndexString"], unfollowed := true, recurses := true, named := ["unicode/utf8.first", "unicode/utf8.acceptRanges", "internal/bytealg.MaxLen"], plainKeys := false, apart := false, laid := [("unicode/utf8.acceptRanges", laid_unicode_utf8_acceptRanges), ("unicode/utf8.first", laid_unicode_utf8_first)] }
def MeshCanonsSaid : Prop := meshCanonsRow.holds Tryz.pinned (OpenSpec.ofChange meshCanonsSpec)

/-- ITS FALSE NEIGHBOUR: 'it returns false'. Refute it at one input. -/
def meshCanonsWrong : ChangeSpec := { name := "meshCanons", fn := fun _ => fun
  | [d1, d2, d3] => { results := [.lit (.bool false)], args := [d1, d2, d3] }
  | _ => none }
def MeshCanonsWrongFalsely : Prop := meshCanonsRow.holds Tryz.pinned (OpenSpec.ofChange meshCanonsWrong)

/-- 'lithophanelaw04.MeshRaw': WHATEVER THE INPUT: true; the input reads as it did. -/
def meshRawSpec : ChangeSpec := { name := "meshRaw", fn := fun _ => fun
  | [d] => { results := [.lit (.bool true)], args := [d] }
  | _ => none }
def meshRawRow : OpenClaim := { program := "ytelfnmohpjkilaagreatdoor", sum := "35622090118c4722e29fbbbb9f5a50a1c2e34c2578b4fb2f20afce5f72334c71", func := "lithophane/lithophanelaw04.MeshRaw", spec := "meshRaw", inPlace := ["internal/bytealg.IndexByteString", "internal/bytealg.IndexString"], unfollowed := true, recurses := true, named := ["unicode/utf8.first", "unicode/utf8.acceptRanges", "internal/bytealg.MaxLen"], plainKeys := false, apart := false, laid := [("unicode/utf8.acceptRanges", laid_unicode_utf8_acceptRanges), ("unicode/utf8.first", laid_unicode_utf8_first)] }
def MeshRawSaid : Prop := meshRawRow.holds Tryz.pinned (OpenSpec.ofChange meshRawSpec)

/-- ITS FALSE NEIGHBOUR: 'it returns false'. Refute it at one input. -/
def meshRawWrong : ChangeSpec := { name := "meshRaw", fn := fun _ => fun
  | [d] => { results := [.lit (.bool false)], args := [d] }
  | _ => none }
def MeshRawWrongFalsely : Prop := meshRawRow.holds Tryz.pinned (OpenSpec.ofChange meshRawWrong)

/-- 'lithophanelaw04.MeshEulers': WHATEVER THE INPUT: true; the input reads as it did. -/
def meshEulersSpec : ChangeSpec := { name := "meshEulers", fn := fun _ => fun
  | [d] => { results := [.lit (.bool true)], args := [d] }
  | _ => none }
def meshEulersRow : OpenClaim := { program := "ytelfnmohpjkilaagreatdoor", sum := "35622090118c4722e29fbbbb9f5a50a1c2e34c2578b4fb2f20afce5f72334c71", func := "lithophane/lithophanelaw04.MeshEulers", spec := "meshEulers", inPlace := ["internal/bytealg.IndexByteString", "internal/bytealg.IndexString"], unfollowed := true, recurses := true, named := ["unicode/utf8.first", "unicode/utf8.acceptRanges", "internal/bytealg.MaxLen"], plainKeys := false, apart := false, laid := [("unicode/utf8.acceptRanges", laid_unicode_utf8_acceptRanges), ("unicode/utf8.first", laid_unicode_utf8_first)] }
def MeshEulersSaid : Prop := meshEulersRow.holds Tryz.pinned (OpenSpec.ofChange meshEulersSpec)

/-- ITS FALSE NEIGHBOUR: 'it returns false'. Refute it at one input. -/
def meshEulersWrong : ChangeSpec := { name := "meshEulers", fn := fun _ => fun
  | [d] => { results := [.lit (.bool false)], args := [d] }
  | _ => none }
def MeshEulersWrongFalsely : Prop := meshEulersRow.holds Tryz.pinned (OpenSpec.ofChange meshEulersWrong)

/-- 'lithophanelaw04.MeshKeeps': WHATEVER THE INPUT: true; the input reads as it did. -/
def meshKeepsSpec : ChangeSpec := { name := "meshKeeps", fn := fun _ => fun
  | [d] => { results := [.lit (.bool true)], args := [d] }
  | _ => none }
def meshKeepsRow : OpenClaim := { program := "ytelfnmohpjkilaagreatdoor", sum := "35622090118c4722e29fbbbb9f5a50a1c2e34c2578b4fb2f20afce5f72334c71", func := "lithophane/lithophanelaw04.MeshKeeps", spec := "meshKeeps", inPlace := ["internal/bytealg.IndexByteString", "internal/bytealg.IndexString"], unfollowed := true, recurses := true, named := ["unicode/utf8.first", "unicode/utf8.acceptRanges", "internal/bytealg.MaxLen"], plainKeys := false, apart := false, laid := [("unicode/utf8.acceptRanges", laid_unicode_utf8_acceptRanges), ("unicode/utf8.first", laid_unicode_utf8_first)] }
def MeshKeepsSaid : Prop := meshKeepsRow.holds Tryz.pinned (OpenSpec.ofChange meshKeepsSpec)

/-- ITS FALSE NEIGHBOUR: 'it returns false'. Refute it at one input. -/
def meshKeepsWrong : ChangeSpec := { name := "meshKeeps", fn := fun _ => fun
  | [d] => { results := [.lit (.bool false)], args := [d] }
  | _ => none }
def MeshKeepsWrongFalsely : Prop := meshKeepsRow.holds Tryz.pinned (OpenSpec.ofChange meshKeepsWrong)

/-- 'lithophanelaw04.MeshParts': WHATEVER THE INPUT: true; the input reads as it did. -/
def meshPartsSpec : ChangeSpec := { name := "meshParts", fn := fun _ => fun
  | [d] => { results := [.lit (.bool true)], args := [d] }
  | _ => none }
def meshPartsRow : OpenClaim := { program := "ytelfnmohpjkilaagreatdoor", sum := "35622090118c4722e29fbbbb9f5a50a1c2e34c2578b4fb2f20afce5f72334c71", func := "lithophane/lithophanelaw04.MeshParts", spec := "meshParts", inPlace := ["internal/bytealg.IndexByteString", "internal/bytealg.IndexString"], unfollowed := true, recurses := true, named := ["unicode/utf8.first", "unicode/utf8.acceptRanges", "internal/bytealg.MaxLen"], plainKeys := false, apart := false, laid := [("unicode/utf8.acceptRanges", laid_unicode_utf8_acceptRanges), ("unicode/utf8.first", laid_unicode_utf8_first)] }
def MeshPartsSaid : Prop := meshPartsRow.holds Tryz.pinned (OpenSpec.ofChange meshPartsSpec)

/-- ITS FALSE NEIGHBOUR: 'it returns false'. Refute it at one input. -/
def meshPartsWrong : ChangeSpec := { name := "meshParts", fn := fun _ => fun
  | [d] => { results := [.lit (.bool false)], args := [d] }
  | _ => none }
def MeshPartsWrongFalsely : Prop := meshPartsRow.holds Tryz.pinned (OpenSpec.ofChange meshPartsWrong)

/-- 'lithophanelaw04.MeshShuffled': WHATEVER THE INPUT: true; the input reads as it did. -/
def meshShuffledSpec : ChangeSpec := { name := "meshShuffled", fn := fun _ => fun
  | [d1, d2] => { results := [.lit (.bool true)], args := [d1, d2] }
  | _ => none }
def meshShuffledRow : OpenClaim := { program := "ytelfnmohpjkilaagreatdoor", sum := "35622090118c4722e29fbbbb9f5a50a1c2e34c2578b4fb2f20afce5f72334c71", func := "lithophane/lithophanelaw04.MeshShuffled", spec := "meshShuffled", inPlace := ["internal/bytealg.IndexByteString", "internal/bytealg.IndexString"], unfollowed := true, recurses := true, named := ["unicode/utf8.first", "unicode/utf8.acceptRanges", "internal/bytealg.MaxLen"], plainKeys := false, apart := false, laid := [("unicode/utf8.acceptRanges", laid_unicode_utf8_acceptRanges), ("unicode/utf8.first", laid_unicode_utf8_first)] }
def MeshShuffledSaid : Prop := meshShuffledRow.holds Tryz.pinned (OpenSpec.ofChange meshShuffledSpec)

/-- ITS FALSE NEIGHBOUR: 'it returns false'. Refute it at one input. -/
def meshShuffledWrong : ChangeSpec := { name := "meshShuffled", fn := fun _ => fun
  | [d1, d2] => { results := [.lit (.bool false)], args := [d1, d2] }
  | _ => none }
def MeshShuffledWrongFalsely : Prop := meshShuffledRow.holds Tryz.pinned (OpenSpec.ofChange meshShuffledWrong)

/- THE SECOND FORM. 'bulk': how many values and letters a reading holds, each counted each time it is reached (what is shared counts as often as it is met; a slice's spare places count too). A statement '..UptoSaid' is the law's where the arguments, and the package variables that the reading takes, are together of bulk at most 1048576: NARROWER than '..Said'. Prove '..Said' where nothing that the law and all that it calls make is longer than what came in: it says more and counts as full. Else prove '..UptoSaid'. A law counts once. -/
mutual
def uptoBulk {H : Type} : DataW H → Nat
  | .lit (.string bytes) => bytes.length + 1
  | .lit _ => 1
  | .nil => 1
  | .ptr d => uptoBulk d + 1
  | .slice elems spare => uptoBulkAll elems + uptoBulkAll spare + 1
  | .agg parts => uptoBulkAll parts + 1
  | .iface _ d => uptoBulk d + 1
  | .map entries => uptoBulkEntries entries + 1
  | .held _ => 1
def uptoBulkAll {H : Type} : List (DataW H) → Nat
  | [] => 0
  | d :: r => uptoBulk d + uptoBulkAll r
def uptoBulkEntries {H : Type} : List (Lit × DataW H) → Nat
  | [] => 0
  | x :: r => uptoBulkEntry x + uptoBulkEntries r
def uptoBulkEntry {H : Type} : Lit × DataW H → Nat
  | (.string bytes, d) => bytes.length + uptoBulk d + 1
  | (_, d) => uptoBulk d + 1
 end
def uptoSmall : (H : Type) → List (DataW H) → Bool := fun _ ds => decide (uptoBulkAll ds ≤ 1048576)
def OpenSpec.upto (s : _root_.Go.ChangeSpec) : _root_.Go.OpenSpec := { _root_.Go.OpenSpec.ofChange s with cond := some uptoSmall }

/-- 'lithophanelaw04.MeshChecks', WHERE WHAT IT READS IS OF BULK AT MOST 1048576: true; the input reads as it did. -/
def meshChecksUptoRow : OpenClaim := { program := "ytelfnmohpjkilaagreatdoor", sum := "35622090118c4722e29fbbbb9f5a50a1c2e34c2578b4fb2f20afce5f72334c71", func := "lithophane/lithophanelaw04.MeshChecks", spec := "meshChecks", inPlace := ["internal/bytealg.IndexByteString", "internal/bytealg.IndexString"], unfollowed := true, recurses := true, named := ["unicode/utf8.first", "unicode/utf8.acceptRanges", "internal/bytealg.MaxLen"], plainKeys := false, apart := false, laid := [("unicode/utf8.acceptRanges", laid_unicode_utf8_acceptRanges), ("unicode/utf8.first", laid_unicode_utf8_first)], narrowed := true }
def MeshChecksUptoSaid : Prop := meshChecksUptoRow.holds Tryz.pinned (OpenSpec.upto meshChecksSpec)

/-- 'lithophanelaw04.MeshBorders', WHERE WHAT IT READS IS OF BULK AT MOST 1048576: true; the input reads as it did. -/
def meshBordersUptoRow : OpenClaim := { program := "ytelfnmohpjkilaagreatdoor", sum := "35622090118c4722e29fbbbb9f5a50a1c2e34c2578b4fb2f20afce5f72334c71", func := "lithophane/lithophanelaw04.MeshBorders", spec := "meshBorders", inPlace := ["internal/bytealg.IndexByteString", "internal/bytealg.IndexString"], unfollowed := true, recurses := true, named := ["unicode/utf8.first", "unicode/utf8.acceptRanges", "internal/bytealg.MaxLen"], plainKeys := false, apart := false, laid := [("unicode/utf8.acceptRanges", laid_unicode_utf8_acceptRanges), ("unicode/utf8.first", laid_unicode_utf8_first)], narrowed := true }
def MeshBordersUptoSaid : Prop := meshBordersUptoRow.holds Tryz.pinned (OpenSpec.upto meshBordersSpec)

/-- 'lithophanelaw04.MeshVolumes', WHERE WHAT IT READS IS OF BULK AT MOST 1048576: true; the input reads as it did. -/
def meshVolumesUptoRow : OpenClaim := { program := "ytelfnmohpjkilaagreatdoor", sum := "35622090118c4722e29fbbbb9f5a50a1c2e34c2578b4fb2f20afce5f72334c71", func := "lithophane/lithophanelaw04.MeshVolumes", spec := "meshVolumes", inPlace := ["internal/bytealg.IndexByteString", "internal/bytealg.IndexString"], unfollowed := true, recurses := true, named := ["unicode/utf8.first", "unicode/utf8.acceptRanges", "internal/bytealg.MaxLen"], plainKeys := false, apart := false, laid := [("unicode/utf8.acceptRanges", laid_unicode_utf8_acceptRanges), ("unicode/utf8.first", laid_unicode_utf8_first)], narrowed := true }
def MeshVolumesUptoSaid : Prop := meshVolumesUptoRow.holds Tryz.pinned (OpenSpec.upto meshVolumesSpec)

/-- 'lithophanelaw04.MeshCanons', WHERE WHAT IT READS IS OF BULK AT MOST 1048576: true; the input reads as it did. -/
def meshCanonsUptoRow : OpenClaim := { program := "ytelfnmohpjkilaagreatdoor", sum := "35622090118c4722e29fbbbb9f5a50a1c2e34c2578b4fb2f20afce5f72334c71", func := "lithophane/lithophanelaw04.MeshCanons", spec := "meshCanons", inPlace := ["internal/bytealg.IndexByteString", "internal/bytealg.IndexString"], unfollowed := true, recurses := true, named := ["unicode/utf8.first", "unicode/utf8.acceptRanges", "internal/bytealg.MaxLen"], plainKeys := false, apart := false, laid := [("unicode/utf8.acceptRanges", laid_unicode_utf8_acceptRanges), ("unicode/utf8.first", laid_unicode_utf8_first)], narrowed := true }
def MeshCanonsUptoSaid : Prop := meshCanonsUptoRow.holds Tryz.pinned (OpenSpec.upto meshCanonsSpec)

/-- 'lithophanelaw04.MeshRaw', WHERE WHAT IT READS IS OF BULK AT MOST 1048576: true; the input reads as it did. -/
def meshRawUptoRow : OpenClaim := { program := "ytelfnmohpjkilaagreatdoor", sum := "35622090118c4722e29fbbbb9f5a50a1c2e34c2578b4fb2f20afce5f72334c71", func := "lithophane/lithophanelaw04.MeshRaw", spec := "meshRaw", inPlace := ["internal/bytealg.IndexByteString", "internal/bytealg.IndexString"], unfollowed := true, recurses := true, named := ["unicode/utf8.first", "unicode/utf8.acceptRanges", "internal/bytealg.MaxLen"], plainKeys := false, apart := false, laid := [("unicode/utf8.acceptRanges", laid_unicode_utf8_acceptRanges), ("unicode/utf8.first", laid_unicode_utf8_first)], narrowed := true }
def MeshRawUptoSaid : Prop := meshRawUptoRow.holds Tryz.pinned (OpenSpec.upto meshRawSpec)

/-- 'lithophanelaw04.MeshEulers', WHERE WHAT IT READS IS OF BULK AT MOST 1048576: true; the input reads as it did. -/
def meshEulersUptoRow : OpenClaim := { program := "ytelfnmohpjkilaagreatdoor", sum := "35622090118c4722e29fbbbb9f5a50a1c2e34c2578b4fb2f20afce5f72334c71", func := "lithophane/lithophanelaw04.MeshEulers", spec := "meshEulers", inPlace := ["internal/bytealg.IndexByteString", "internal/bytealg.IndexString"], unfollowed := true, recurses := true, named := ["unicode/utf8.first", "unicode/utf8.acceptRanges", "internal/bytealg.MaxLen"], plainKeys := false, apart := false, laid := [("unicode/utf8.acceptRanges", laid_unicode_utf8_acceptRanges), ("unicode/utf8.first", laid_unicode_utf8_first)], narrowed := true }
def MeshEulersUptoSaid : Prop := meshEulersUptoRow.holds Tryz.pinned (OpenSpec.upto meshEulersSpec)

/-- 'lithophanelaw04.MeshKeeps', WHERE WHAT IT READS IS OF BULK AT MOST 1048576: true; the input reads as it did. -/
def meshKeepsUptoRow : OpenClaim := { program := "ytelfnmohpjkilaagreatdoor", sum := "35622090118c4722e29fbbbb9f5a50a1c2e34c2578b4fb2f20afce5f72334c71", func := "lithophane/lithophanelaw04.MeshKeeps", spec := "meshKeeps", inPlace := ["internal/bytealg.IndexByteString", "internal/bytealg.IndexString"], unfollowed := true, recurses := true, named := ["unicode/utf8.first", "unicode/utf8.acceptRanges", "internal/bytealg.MaxLen"], plainKeys := false, apart := false, laid := [("unicode/utf8.acceptRanges", laid_unicode_utf8_acceptRanges), ("unicode/utf8.first", laid_unicode_utf8_first)], narrowed := true }
def MeshKeepsUptoSaid : Prop := meshKeepsUptoRow.holds Tryz.pinned (OpenSpec.upto meshKeepsSpec)

/-- 'lithophanelaw04.MeshParts', WHERE WHAT IT READS IS OF BULK AT MOST 1048576: true; the input reads as it did. -/
def meshPartsUptoRow : OpenClaim := { program := "ytelfnmohpjkilaagreatdoor", sum := "35622090118c4722e29fbbbb9f5a50a1c2e34c2578b4fb2f20afce5f72334c71", func := "lithophane/lithophanelaw04.MeshParts", spec := "meshParts", inPlace := ["internal/bytealg.IndexByteString", "internal/bytealg.IndexString"], unfollowed := true, recurses := true, named := ["unicode/utf8.first", "unicode/utf8.acceptRanges", "internal/bytealg.MaxLen"], plainKeys := false, apart := false, laid := [("unicode/utf8.acceptRanges", laid_unicode_utf8_acceptRanges), ("unicode/utf8.first", laid_unicode_utf8_first)], narrowed := true }
def MeshPartsUptoSaid : Prop := meshPartsUptoRow.holds Tryz.pinned (OpenSpec.upto meshPartsSpec)

/-- 'lithophanelaw04.MeshShuffled', WHERE WHAT IT READS IS OF BULK AT MOST 1048576: true; the input reads as it did. -/
def meshShuffledUptoRow : OpenClaim := { program := "ytelfnmohpjkilaagreatdoor", sum := "35622090118c4722e29fbbbb9f5a50a1c2e34c2578b4fb2f20afce5f72334c71", func := "lithophane/lithophanelaw04.MeshShuffled", spec := "meshShuffled", inPlace := ["internal/bytealg.IndexByteString", "internal/bytealg.IndexString"], unfollowed := true, recurses := true, named := ["unicode/utf8.first", "unicode/utf8.acceptRanges", "internal/bytealg.MaxLen"], plainKeys := false, apart := false, laid := [("unicode/utf8.acceptRanges", laid_unicode_utf8_acceptRanges), ("unicode/utf8.first", laid_unicode_utf8_first)], narrowed := true }
def MeshShuffledUptoSaid : Prop := meshShuffledUptoRow.holds Tryz.pinned (OpenSpec.upto meshShuffledSpec)

end Rows
end Go.Proofs.YtelfnmohpjkilaaGreatDoor
