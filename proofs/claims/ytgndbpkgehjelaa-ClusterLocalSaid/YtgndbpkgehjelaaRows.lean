/-
  No cell of these rows narrows 'for every input' (looked for: loops, veiled, ifaces, maps, wideKeys, modest, calm, conditions, laid).
  DERIVED. THE GIVEN ROWS OF THIS SEAT. 9 by the template 'for every input the law returns true; each argument reads behind the call as it read before'; 0 by the template 'total and deterministic' (their statements: YtgndbpkgehjelaaTotals.lean).
  GIVEN WITH THE SEED: the statements are not yours to turn. If you find one false, say at which input.
  Laid BY PROGRAM, IN A SANDBOX (cutbox-rows.mjs): the forced cells as the released guide's own fill.sh prints them over the translation 054ac7016541161e… (all of the seat's roots in one cut). By AI agents, Wed Nov 11 2026. No macro, syntax, notation, axiom, sorry.
-/
import Derived.Test.YtgndbpkgehjelaaChecked
import GoSem.Claim
import GoSem.ClaimJoined
import GoSem.ClaimMapViews
import Derived.JoinedTies
import Derived.KernelRfl
namespace Go.Proofs.Ytgndbpkgehjelaa
/- THE CELL 'sum', in the pinned program and in every row, IS THE sha256 OF THE DUMP (.gsa) THAT YtgndbpkgehjelaaProg.lean LOADS. Nothing in Lean hashes anything: it is a label: what it is worth is what the hold of that sum in a sandbox is worth. -/
noncomputable def Try.pinned : Pinned := { name := "ytgndbpkgehjelaa", sum := "054ac7016541161e4ec50c713857247801f4ccafc314f6636701d0dd403589c2", checked := Try.checked }
namespace Rows
def none {H : Type} : Left H := { results := [], args := [] }

/-- 'lithophanelaw13.ClusterBlocks': WHATEVER THE INPUT: true; the input reads as it did. -/
def clusterBlocksSpec : ChangeSpec := { name := "clusterBlocks", fn := fun _ => fun
  | [d1, d2, d3] => { results := [.lit (.bool true)], args := [d1, d2, d3] }
  | _ => none }
def clusterBlocksRow : OpenClaim := { program := "ytgndbpkgehjelaa", sum := "054ac7016541161e4ec50c713857247801f4ccafc314f6636701d0dd403589c2", func := "lithophane/lithophanelaw13.ClusterBlocks", spec := "clusterBlocks", unfollowed := true, recurses := true, plainKeys := false, apart := false }
def ClusterBlocksSaid : Prop := clusterBlocksRow.holds Try.pinned (OpenSpec.ofChange clusterBlocksSpec)

/-- ITS FALSE NEIGHBOUR: 'it returns false'. Refute it at one input. -/
def clusterBlocksWrong : ChangeSpec := { name := "clusterBlocks", fn := fun _ => fun
  | [d1, d2, d3] => { results := [.lit (.bool false)], args := [d1, d2, d3] }
  | _ => none }
def ClusterBlocksWrongFalsely : Prop := clusterBlocksRow.holds Try.pinned (OpenSpec.ofChange clusterBlocksWrong)

/-- 'lithophanelaw13.ClusterSplits': WHATEVER THE INPUT: true; the input reads as it did. -/
def clusterSplitsSpec : ChangeSpec := { name := "clusterSplits", fn := fun _ => fun
  | [d1, d2] => { results := [.lit (.bool true)], args := [d1, d2] }
  | _ => none }
def clusterSplitsRow : OpenClaim := { program := "ytgndbpkgehjelaa", sum := "054ac7016541161e4ec50c713857247801f4ccafc314f6636701d0dd403589c2", func := "lithophane/lithophanelaw13.ClusterSplits", spec := "clusterSplits", unfollowed := true, recurses := true, plainKeys := false, apart := false }
def ClusterSplitsSaid : Prop := clusterSplitsRow.holds Try.pinned (OpenSpec.ofChange clusterSplitsSpec)

/-- ITS FALSE NEIGHBOUR: 'it returns false'. Refute it at one input. -/
def clusterSplitsWrong : ChangeSpec := { name := "clusterSplits", fn := fun _ => fun
  | [d1, d2] => { results := [.lit (.bool false)], args := [d1, d2] }
  | _ => none }
def ClusterSplitsWrongFalsely : Prop := clusterSplitsRow.holds Try.pinned (OpenSpec.ofChange clusterSplitsWrong)

/-- 'lithophanelaw13.ClusterFinest': WHATEVER THE INPUT: true; the input reads as it did. -/
def clusterFinestSpec : ChangeSpec := { name := "clusterFinest", fn := fun _ => fun
  | [d1, d2, d3] => { results := [.lit (.bool true)], args := [d1, d2, d3] }
  | _ => none }
def clusterFinestRow : OpenClaim := { program := "ytgndbpkgehjelaa", sum := "054ac7016541161e4ec50c713857247801f4ccafc314f6636701d0dd403589c2", func := "lithophane/lithophanelaw13.ClusterFinest", spec := "clusterFinest", unfollowed := true, recurses := true, plainKeys := false, apart := false }
def ClusterFinestSaid : Prop := clusterFinestRow.holds Try.pinned (OpenSpec.ofChange clusterFinestSpec)

/-- ITS FALSE NEIGHBOUR: 'it returns false'. Refute it at one input. -/
def clusterFinestWrong : ChangeSpec := { name := "clusterFinest", fn := fun _ => fun
  | [d1, d2, d3] => { results := [.lit (.bool false)], args := [d1, d2, d3] }
  | _ => none }
def ClusterFinestWrongFalsely : Prop := clusterFinestRow.holds Try.pinned (OpenSpec.ofChange clusterFinestWrong)

/-- 'lithophanelaw13.ClusterGroups': WHATEVER THE INPUT: true; the input reads as it did. -/
def clusterGroupsSpec : ChangeSpec := { name := "clusterGroups", fn := fun _ => fun
  | [d1, d2, d3] => { results := [.lit (.bool true)], args := [d1, d2, d3] }
  | _ => none }
def clusterGroupsRow : OpenClaim := { program := "ytgndbpkgehjelaa", sum := "054ac7016541161e4ec50c713857247801f4ccafc314f6636701d0dd403589c2", func := "lithophane/lithophanelaw13.ClusterGroups", spec := "clusterGroups", unfollowed := true, recurses := true, plainKeys := false, apart := false }
def ClusterGroupsSaid : Prop := clusterGroupsRow.holds Try.pinned (OpenSpec.ofChange clusterGroupsSpec)

/-- ITS FALSE NEIGHBOUR: 'it returns false'. Refute it at one input. -/
def clusterGroupsWrong : ChangeSpec := { name := "clusterGroups", fn := fun _ => fun
  | [d1, d2, d3] => { results := [.lit (.bool false)], args := [d1, d2, d3] }
  | _ => none }
def ClusterGroupsWrongFalsely : Prop := clusterGroupsRow.holds Try.pinned (OpenSpec.ofChange clusterGroupsWrong)

/-- 'lithophanelaw13.ClusterSets': WHATEVER THE INPUT: true; the input reads as it did. -/
def clusterSetsSpec : ChangeSpec := { name := "clusterSets", fn := fun _ => fun
  | [d1, d2, d3] => { results := [.lit (.bool true)], args := [d1, d2, d3] }
  | _ => none }
def clusterSetsRow : OpenClaim := { program := "ytgndbpkgehjelaa", sum := "054ac7016541161e4ec50c713857247801f4ccafc314f6636701d0dd403589c2", func := "lithophane/lithophanelaw13.ClusterSets", spec := "clusterSets", unfollowed := true, recurses := true, plainKeys := false, apart := false }
def ClusterSetsSaid : Prop := clusterSetsRow.holds Try.pinned (OpenSpec.ofChange clusterSetsSpec)

/-- ITS FALSE NEIGHBOUR: 'it returns false'. Refute it at one input. -/
def clusterSetsWrong : ChangeSpec := { name := "clusterSets", fn := fun _ => fun
  | [d1, d2, d3] => { results := [.lit (.bool false)], args := [d1, d2, d3] }
  | _ => none }
def ClusterSetsWrongFalsely : Prop := clusterSetsRow.holds Try.pinned (OpenSpec.ofChange clusterSetsWrong)

/-- 'lithophanelaw13.ClusterLocal': WHATEVER THE INPUT: true; the input reads as it did. -/
def clusterLocalSpec : ChangeSpec := { name := "clusterLocal", fn := fun _ => fun
  | [d1, d2, d3] => { results := [.lit (.bool true)], args := [d1, d2, d3] }
  | _ => none }
def clusterLocalRow : OpenClaim := { program := "ytgndbpkgehjelaa", sum := "054ac7016541161e4ec50c713857247801f4ccafc314f6636701d0dd403589c2", func := "lithophane/lithophanelaw13.ClusterLocal", spec := "clusterLocal", unfollowed := true, recurses := true, plainKeys := false, apart := false }
def ClusterLocalSaid : Prop := clusterLocalRow.holds Try.pinned (OpenSpec.ofChange clusterLocalSpec)

/-- ITS FALSE NEIGHBOUR: 'it returns false'. Refute it at one input. -/
def clusterLocalWrong : ChangeSpec := { name := "clusterLocal", fn := fun _ => fun
  | [d1, d2, d3] => { results := [.lit (.bool false)], args := [d1, d2, d3] }
  | _ => none }
def ClusterLocalWrongFalsely : Prop := clusterLocalRow.holds Try.pinned (OpenSpec.ofChange clusterLocalWrong)

/-- 'lithophanelaw13.ClusterCovers': WHATEVER THE INPUT: true; the input reads as it did. -/
def clusterCoversSpec : ChangeSpec := { name := "clusterCovers", fn := fun _ => fun
  | [d1, d2, d3] => { results := [.lit (.bool true)], args := [d1, d2, d3] }
  | _ => none }
def clusterCoversRow : OpenClaim := { program := "ytgndbpkgehjelaa", sum := "054ac7016541161e4ec50c713857247801f4ccafc314f6636701d0dd403589c2", func := "lithophane/lithophanelaw13.ClusterCovers", spec := "clusterCovers", unfollowed := true, recurses := true, plainKeys := false, apart := false }
def ClusterCoversSaid : Prop := clusterCoversRow.holds Try.pinned (OpenSpec.ofChange clusterCoversSpec)

/-- ITS FALSE NEIGHBOUR: 'it returns false'. Refute it at one input. -/
def clusterCoversWrong : ChangeSpec := { name := "clusterCovers", fn := fun _ => fun
  | [d1, d2, d3] => { results := [.lit (.bool false)], args := [d1, d2, d3] }
  | _ => none }
def ClusterCoversWrongFalsely : Prop := clusterCoversRow.holds Try.pinned (OpenSpec.ofChange clusterCoversWrong)

/-- 'lithophanelaw13.ClusterNests': WHATEVER THE INPUT: true; the input reads as it did. -/
def clusterNestsSpec : ChangeSpec := { name := "clusterNests", fn := fun _ => fun
  | [d1, d2] => { results := [.lit (.bool true)], args := [d1, d2] }
  | _ => none }
def clusterNestsRow : OpenClaim := { program := "ytgndbpkgehjelaa", sum := "054ac7016541161e4ec50c713857247801f4ccafc314f6636701d0dd403589c2", func := "lithophane/lithophanelaw13.ClusterNests", spec := "clusterNests", unfollowed := true, recurses := true, plainKeys := false, apart := false }
def ClusterNestsSaid : Prop := clusterNestsRow.holds Try.pinned (OpenSpec.ofChange clusterNestsSpec)

/-- ITS FALSE NEIGHBOUR: 'it returns false'. Refute it at one input. -/
def clusterNestsWrong : ChangeSpec := { name := "clusterNests", fn := fun _ => fun
  | [d1, d2] => { results := [.lit (.bool false)], args := [d1, d2] }
  | _ => none }
def ClusterNestsWrongFalsely : Prop := clusterNestsRow.holds Try.pinned (OpenSpec.ofChange clusterNestsWrong)

/-- 'lithophanelaw13.ClusterKeeps': WHATEVER THE INPUT: true; the input reads as it did. -/
def clusterKeepsSpec : ChangeSpec := { name := "clusterKeeps", fn := fun _ => fun
  | [d1, d2] => { results := [.lit (.bool true)], args := [d1, d2] }
  | _ => none }
def clusterKeepsRow : OpenClaim := { program := "ytgndbpkgehjelaa", sum := "054ac7016541161e4ec50c713857247801f4ccafc314f6636701d0dd403589c2", func := "lithophane/lithophanelaw13.ClusterKeeps", spec := "clusterKeeps", unfollowed := true, recurses := true, plainKeys := false, apart := false }
def ClusterKeepsSaid : Prop := clusterKeepsRow.holds Try.pinned (OpenSpec.ofChange clusterKeepsSpec)

/-- ITS FALSE NEIGHBOUR: 'it returns false'. Refute it at one input. -/
def clusterKeepsWrong : ChangeSpec := { name := "clusterKeeps", fn := fun _ => fun
  | [d1, d2] => { results := [.lit (.bool false)], args := [d1, d2] }
  | _ => none }
def ClusterKeepsWrongFalsely : Prop := clusterKeepsRow.holds Try.pinned (OpenSpec.ofChange clusterKeepsWrong)

/- THE SECOND FORM. 'bulk': how many values and letters a reading holds, each counted each time it is reached (what is shared counts as often as it is met; a slice's spare places count too). A statement '..UptoSaid' is the law's where the arguments, and the package variables that the reading takes, are together of bulk at most 1048576: NARROWER than '..Said'. Prove '..Said' where nothing that the law and all that it calls make is longer than what came in: it says more and counts as full. Else prove '..UptoSaid'. A law counts once. -/
mutual
def uptoBulk {H : Type} : DataW H → Nat
  | .lit (.string bytes) => bytes.length + 1
  | .lit _ => 1
  | .nil => 1
  | .ptr d => uptoBulk d + 1
  | .slice elems spare => uptoBulkAll elems + uptoBulkAll spare + 1
  | .agg parts => uptoBulkAll parts + 1
  | .iface _ d => uptoBulk d + 1
  | .map entries => uptoBulkEntries entries + 1
  | .held _ => 1
def uptoBulkAll {H : Type} : List (DataW H) → Nat
  | [] => 0
  | d :: r => uptoBulk d + uptoBulkAll r
def uptoBulkEntries {H : Type} : List (Lit × DataW H) → Nat
  | [] => 0
  | x :: r => uptoBulkEntry x + uptoBulkEntries r
def uptoBulkEntry {H : Type} : Lit × DataW H → Nat
  | (.string bytes, d) => bytes.length + uptoBulk d + 1
  | (_, d) => uptoBulk d + 1
 end
def uptoSmall : (H : Type) → List (DataW H) → Bool := fun _ ds => decide (uptoBulkAll ds ≤ 1048576)
def OpenSpec.upto (s : _root_.Go.ChangeSpec) : _root_.Go.OpenSpec := { _root_.Go.OpenSpec.ofChange s with cond := some uptoSmall }

/-- 'lithophanelaw13.ClusterBlocks', WHERE WHAT IT READS IS OF BULK AT MOST 1048576: true; the input reads as it did. -/
def clusterBlocksUptoRow : OpenClaim := { program := "ytgndbpkgehjelaa", sum := "054ac7016541161e4ec50c713857247801f4ccafc314f6636701d0dd403589c2", func := "lithophane/lithophanelaw13.ClusterBlocks", spec := "clusterBlocks", unfollowed := true, recurses := true, plainKeys := false, apart := false, narrowed := true }
def ClusterBlocksUptoSaid : Prop := clusterBlocksUptoRow.holds Try.pinned (OpenSpec.upto clusterBlocksSpec)

/-- 'lithophanelaw13.ClusterSplits', WHERE WHAT IT READS IS OF BULK AT MOST 1048576: true; the input reads as it did. -/
def clusterSplitsUptoRow : OpenClaim := { program := "ytgndbpkgehjelaa", sum := "054ac7016541161e4ec50c713857247801f4ccafc314f6636701d0dd403589c2", func := "lithophane/lithophanelaw13.ClusterSplits", spec := "clusterSplits", unfollowed := true, recurses := true, plainKeys := false, apart := false, narrowed := true }
def ClusterSplitsUptoSaid : Prop := clusterSplitsUptoRow.holds Try.pinned (OpenSpec.upto clusterSplitsSpec)

/-- 'lithophanelaw13.ClusterFinest', WHERE WHAT IT READS IS OF BULK AT MOST 1048576: true; the input reads as it did. -/
def clusterFinestUptoRow : OpenClaim := { program := "ytgndbpkgehjelaa", sum := "054ac7016541161e4ec50c713857247801f4ccafc314f6636701d0dd403589c2", func := "lithophane/lithophanelaw13.ClusterFinest", spec := "clusterFinest", unfollowed := true, recurses := true, plainKeys := false, apart := false, narrowed := true }
def ClusterFinestUptoSaid : Prop := clusterFinestUptoRow.holds Try.pinned (OpenSpec.upto clusterFinestSpec)

/-- 'lithophanelaw13.ClusterGroups', WHERE WHAT IT READS IS OF BULK AT MOST 1048576: true; the input reads as it did. -/
def clusterGroupsUptoRow : OpenClaim := { program := "ytgndbpkgehjelaa", sum := "054ac7016541161e4ec50c713857247801f4ccafc314f6636701d0dd403589c2", func := "lithophane/lithophanelaw13.ClusterGroups", spec := "clusterGroups", unfollowed := true, recurses := true, plainKeys := false, apart := false, narrowed := true }
def ClusterGroupsUptoSaid : Prop := clusterGroupsUptoRow.holds Try.pinned (OpenSpec.upto clusterGroupsSpec)

/-- 'lithophanelaw13.ClusterSets', WHERE WHAT IT READS IS OF BULK AT MOST 1048576: true; the input reads as it did. -/
def clusterSetsUptoRow : OpenClaim := { program := "ytgndbpkgehjelaa", sum := "054ac7016541161e4ec50c713857247801f4ccafc314f6636701d0dd403589c2", func := "lithophane/lithophanelaw13.ClusterSets", spec := "clusterSets", unfollowed := true, recurses := true, plainKeys := false, apart := false, narrowed := true }
def ClusterSetsUptoSaid : Prop := clusterSetsUptoRow.holds Try.pinned (OpenSpec.upto clusterSetsSpec)

/-- 'lithophanelaw13.ClusterLocal', WHERE WHAT IT READS IS OF BULK AT MOST 1048576: true; the input reads as it did. -/
def clusterLocalUptoRow : OpenClaim := { program := "ytgndbpkgehjelaa", sum := "054ac7016541161e4ec50c713857247801f4ccafc314f6636701d0dd403589c2", func := "lithophane/lithophanelaw13.ClusterLocal", spec := "clusterLocal", unfollowed := true, recurses := true, plainKeys := false, apart := false, narrowed := true }
def ClusterLocalUptoSaid : Prop := clusterLocalUptoRow.holds Try.pinned (OpenSpec.upto clusterLocalSpec)

/-- 'lithophanelaw13.ClusterCovers', WHERE WHAT IT READS IS OF BULK AT MOST 1048576: true; the input reads as it did. -/
def clusterCoversUptoRow : OpenClaim := { program := "ytgndbpkgehjelaa", sum := "054ac7016541161e4ec50c713857247801f4ccafc314f6636701d0dd403589c2", func := "lithophane/lithophanelaw13.ClusterCovers", spec := "clusterCovers", unfollowed := true, recurses := true, plainKeys := false, apart := false, narrowed := true }
def ClusterCoversUptoSaid : Prop := clusterCoversUptoRow.holds Try.pinned (OpenSpec.upto clusterCoversSpec)

/-- 'lithophanelaw13.ClusterNests', WHERE WHAT IT READS IS OF BULK AT MOST 1048576: true; the input reads as it did. -/
def clusterNestsUptoRow : OpenClaim := { program := "ytgndbpkgehjelaa", sum := "054ac7016541161e4ec50c713857247801f4ccafc314f6636701d0dd403589c2", func := "lithophane/lithophanelaw13.ClusterNests", spec := "clusterNests", unfollowed := true, recurses := true, plainKeys := false, apart := false, narrowed := true }
def ClusterNestsUptoSaid : Prop := clusterNestsUptoRow.holds Try.pinned (OpenSpec.upto clusterNestsSpec)

/-- 'lithophanelaw13.ClusterKeeps', WHERE WHAT IT READS IS OF BULK AT MOST 1048576: true; the input reads as it did. -/
def clusterKeepsUptoRow : OpenClaim := { program := "ytgndbpkgehjelaa", sum := "054ac7016541161e4ec50c713857247801f4ccafc314f6636701d0dd403589c2", func := "lithophane/lithophanelaw13.ClusterKeeps", spec := "clusterKeeps", unfollowed := true, recurses := true, plainKeys := false, apart := false, narrowed := true }
def ClusterKeepsUptoSaid : Prop := clusterKeepsUptoRow.holds Try.pinned (OpenSpec.upto clusterKeepsSpec)

end Rows
end Go.Proofs.Ytgndbpkgehjelaa
