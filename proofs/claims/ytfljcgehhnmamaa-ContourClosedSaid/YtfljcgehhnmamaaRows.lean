/-
  No cell of these rows narrows 'for every input' (looked for: loops, veiled, ifaces, maps, wideKeys, modest, calm, conditions, laid).
  DERIVED. THE GIVEN ROWS OF THIS SEAT. 9 by the template 'for every input the law returns true; each argument reads behind the call as it read before'; 0 by the template 'total and deterministic' (their statements: YtfljcgehhnmamaaTotals.lean).
  GIVEN WITH THE SEED: the statements are not yours to turn. If you find one false, say at which input.
  Laid BY PROGRAM, IN A SANDBOX (cutbox-rows.mjs): the forced cells as the released guide's own fill.sh prints them over the translation 83d4d9ae82db7496… (all of the seat's roots in one cut). By AI agents, Wed Nov 11 2026. No macro, syntax, notation, axiom, sorry.
-/
import Derived.Test.YtfljcgehhnmamaaChecked
import GoSem.Claim
import GoSem.ClaimJoined
import GoSem.ClaimMapViews
import Derived.JoinedTies
import Derived.KernelRfl
namespace Go.Proofs.Ytfljcgehhnmamaa
/- THE CELL 'sum', in the pinned program and in every row, IS THE sha256 OF THE DUMP (.gsa) THAT YtfljcgehhnmamaaProg.lean LOADS. Nothing in Lean hashes anything: it is a label: what it is worth is what the hold of that sum in a sandbox is worth. -/
noncomputable def Try.pinned : Pinned := { name := "ytfljcgehhnmamaa", sum := "83d4d9ae82db7496e8bb03b72751090fb9cfce8bf5a88fffb6f6481b272943b8", checked := Try.checked }
namespace Rows
def none {H : Type} : Left H := { results := [], args := [] }

/-- 'lithophanelaw08.ContourExact': WHATEVER THE INPUT: true; the input reads as it did. -/
def contourExactSpec : ChangeSpec := { name := "contourExact", fn := fun _ => fun
  | [d1, d2] => { results := [.lit (.bool true)], args := [d1, d2] }
  | _ => none }
def contourExactRow : OpenClaim := { program := "ytfljcgehhnmamaa", sum := "83d4d9ae82db7496e8bb03b72751090fb9cfce8bf5a88fffb6f6481b272943b8", func := "lithophane/lithophanelaw08.ContourExact", spec := "contourExact", unfollowed := true, recurses := true, plainKeys := false, apart := false }
def ContourExactSaid : Prop := contourExactRow.holds Try.pinned (OpenSpec.ofChange contourExactSpec)

/-- ITS FALSE NEIGHBOUR: 'it returns false'. Refute it at one input. -/
def contourExactWrong : ChangeSpec := { name := "contourExact", fn := fun _ => fun
  | [d1, d2] => { results := [.lit (.bool false)], args := [d1, d2] }
  | _ => none }
def ContourExactWrongFalsely : Prop := contourExactRow.holds Try.pinned (OpenSpec.ofChange contourExactWrong)

/-- 'lithophanelaw08.ContourBits': WHATEVER THE INPUT: true; the input reads as it did. -/
def contourBitsSpec : ChangeSpec := { name := "contourBits", fn := fun _ => fun
  | [d] => { results := [.lit (.bool true)], args := [d] }
  | _ => none }
def contourBitsRow : OpenClaim := { program := "ytfljcgehhnmamaa", sum := "83d4d9ae82db7496e8bb03b72751090fb9cfce8bf5a88fffb6f6481b272943b8", func := "lithophane/lithophanelaw08.ContourBits", spec := "contourBits", unfollowed := true, recurses := true, plainKeys := false, apart := false }
def ContourBitsSaid : Prop := contourBitsRow.holds Try.pinned (OpenSpec.ofChange contourBitsSpec)

/-- ITS FALSE NEIGHBOUR: 'it returns false'. Refute it at one input. -/
def contourBitsWrong : ChangeSpec := { name := "contourBits", fn := fun _ => fun
  | [d] => { results := [.lit (.bool false)], args := [d] }
  | _ => none }
def ContourBitsWrongFalsely : Prop := contourBitsRow.holds Try.pinned (OpenSpec.ofChange contourBitsWrong)

/-- 'lithophanelaw08.ContourClosed': WHATEVER THE INPUT: true; the input reads as it did. -/
def contourClosedSpec : ChangeSpec := { name := "contourClosed", fn := fun _ => fun
  | [d1, d2] => { results := [.lit (.bool true)], args := [d1, d2] }
  | _ => none }
def contourClosedRow : OpenClaim := { program := "ytfljcgehhnmamaa", sum := "83d4d9ae82db7496e8bb03b72751090fb9cfce8bf5a88fffb6f6481b272943b8", func := "lithophane/lithophanelaw08.ContourClosed", spec := "contourClosed", unfollowed := true, recurses := true, plainKeys := false, apart := false }
def ContourClosedSaid : Prop := contourClosedRow.holds Try.pinned (OpenSpec.ofChange contourClosedSpec)

/-- ITS FALSE NEIGHBOUR: 'it returns false'. Refute it at one input. -/
def contourClosedWrong : ChangeSpec := { name := "contourClosed", fn := fun _ => fun
  | [d1, d2] => { results := [.lit (.bool false)], args := [d1, d2] }
  | _ => none }
def ContourClosedWrongFalsely : Prop := contourClosedRow.holds Try.pinned (OpenSpec.ofChange contourClosedWrong)

/-- 'lithophanelaw08.ContourCrossings': WHATEVER THE INPUT: true; the input reads as it did. -/
def contourCrossingsSpec : ChangeSpec := { name := "contourCrossings", fn := fun _ => fun
  | [d1, d2] => { results := [.lit (.bool true)], args := [d1, d2] }
  | _ => none }
def contourCrossingsRow : OpenClaim := { program := "ytfljcgehhnmamaa", sum := "83d4d9ae82db7496e8bb03b72751090fb9cfce8bf5a88fffb6f6481b272943b8", func := "lithophane/lithophanelaw08.ContourCrossings", spec := "contourCrossings", unfollowed := true, recurses := true, plainKeys := false, apart := false }
def ContourCrossingsSaid : Prop := contourCrossingsRow.holds Try.pinned (OpenSpec.ofChange contourCrossingsSpec)

/-- ITS FALSE NEIGHBOUR: 'it returns false'. Refute it at one input. -/
def contourCrossingsWrong : ChangeSpec := { name := "contourCrossings", fn := fun _ => fun
  | [d1, d2] => { results := [.lit (.bool false)], args := [d1, d2] }
  | _ => none }
def ContourCrossingsWrongFalsely : Prop := contourCrossingsRow.holds Try.pinned (OpenSpec.ofChange contourCrossingsWrong)

/-- 'lithophanelaw08.ContourMoved': WHATEVER THE INPUT: true; the input reads as it did. -/
def contourMovedSpec : ChangeSpec := { name := "contourMoved", fn := fun _ => fun
  | [d1, d2] => { results := [.lit (.bool true)], args := [d1, d2] }
  | _ => none }
def contourMovedRow : OpenClaim := { program := "ytfljcgehhnmamaa", sum := "83d4d9ae82db7496e8bb03b72751090fb9cfce8bf5a88fffb6f6481b272943b8", func := "lithophane/lithophanelaw08.ContourMoved", spec := "contourMoved", unfollowed := true, recurses := true, plainKeys := false, apart := false }
def ContourMovedSaid : Prop := contourMovedRow.holds Try.pinned (OpenSpec.ofChange contourMovedSpec)

/-- ITS FALSE NEIGHBOUR: 'it returns false'. Refute it at one input. -/
def contourMovedWrong : ChangeSpec := { name := "contourMoved", fn := fun _ => fun
  | [d1, d2] => { results := [.lit (.bool false)], args := [d1, d2] }
  | _ => none }
def ContourMovedWrongFalsely : Prop := contourMovedRow.holds Try.pinned (OpenSpec.ofChange contourMovedWrong)

/-- 'lithophanelaw08.ContourTurned': WHATEVER THE INPUT: true; the input reads as it did. -/
def contourTurnedSpec : ChangeSpec := { name := "contourTurned", fn := fun _ => fun
  | [d1, d2] => { results := [.lit (.bool true)], args := [d1, d2] }
  | _ => none }
def contourTurnedRow : OpenClaim := { program := "ytfljcgehhnmamaa", sum := "83d4d9ae82db7496e8bb03b72751090fb9cfce8bf5a88fffb6f6481b272943b8", func := "lithophane/lithophanelaw08.ContourTurned", spec := "contourTurned", unfollowed := true, recurses := true, plainKeys := false, apart := false }
def ContourTurnedSaid : Prop := contourTurnedRow.holds Try.pinned (OpenSpec.ofChange contourTurnedSpec)

/-- ITS FALSE NEIGHBOUR: 'it returns false'. Refute it at one input. -/
def contourTurnedWrong : ChangeSpec := { name := "contourTurned", fn := fun _ => fun
  | [d1, d2] => { results := [.lit (.bool false)], args := [d1, d2] }
  | _ => none }
def ContourTurnedWrongFalsely : Prop := contourTurnedRow.holds Try.pinned (OpenSpec.ofChange contourTurnedWrong)

/-- 'lithophanelaw08.ContourLocal': WHATEVER THE INPUT: true; the input reads as it did. -/
def contourLocalSpec : ChangeSpec := { name := "contourLocal", fn := fun _ => fun
  | [d1, d2] => { results := [.lit (.bool true)], args := [d1, d2] }
  | _ => none }
def contourLocalRow : OpenClaim := { program := "ytfljcgehhnmamaa", sum := "83d4d9ae82db7496e8bb03b72751090fb9cfce8bf5a88fffb6f6481b272943b8", func := "lithophane/lithophanelaw08.ContourLocal", spec := "contourLocal", unfollowed := true, recurses := true, plainKeys := false, apart := false }
def ContourLocalSaid : Prop := contourLocalRow.holds Try.pinned (OpenSpec.ofChange contourLocalSpec)

/-- ITS FALSE NEIGHBOUR: 'it returns false'. Refute it at one input. -/
def contourLocalWrong : ChangeSpec := { name := "contourLocal", fn := fun _ => fun
  | [d1, d2] => { results := [.lit (.bool false)], args := [d1, d2] }
  | _ => none }
def ContourLocalWrongFalsely : Prop := contourLocalRow.holds Try.pinned (OpenSpec.ofChange contourLocalWrong)

/-- 'lithophanelaw08.ContourApart': WHATEVER THE INPUT: true; the input reads as it did. -/
def contourApartSpec : ChangeSpec := { name := "contourApart", fn := fun _ => fun
  | [d1, d2] => { results := [.lit (.bool true)], args := [d1, d2] }
  | _ => none }
def contourApartRow : OpenClaim := { program := "ytfljcgehhnmamaa", sum := "83d4d9ae82db7496e8bb03b72751090fb9cfce8bf5a88fffb6f6481b272943b8", func := "lithophane/lithophanelaw08.ContourApart", spec := "contourApart", unfollowed := true, recurses := true, plainKeys := false, apart := false }
def ContourApartSaid : Prop := contourApartRow.holds Try.pinned (OpenSpec.ofChange contourApartSpec)

/-- ITS FALSE NEIGHBOUR: 'it returns false'. Refute it at one input. -/
def contourApartWrong : ChangeSpec := { name := "contourApart", fn := fun _ => fun
  | [d1, d2] => { results := [.lit (.bool false)], args := [d1, d2] }
  | _ => none }
def ContourApartWrongFalsely : Prop := contourApartRow.holds Try.pinned (OpenSpec.ofChange contourApartWrong)

/-- 'lithophanelaw08.ContourWrong': WHATEVER THE INPUT: true; the input reads as it did. -/
def contourWrongSpec : ChangeSpec := { name := "contourWrong", fn := fun _ => fun
  | [d1, d2, d3] => { results := [.lit (.bool true)], args := [d1, d2, d3] }
  | _ => none }
def contourWrongRow : OpenClaim := { program := "ytfljcgehhnmamaa", sum := "83d4d9ae82db7496e8bb03b72751090fb9cfce8bf5a88fffb6f6481b272943b8", func := "lithophane/lithophanelaw08.ContourWrong", spec := "contourWrong", unfollowed := true, recurses := true, plainKeys := false, apart := false }
def ContourWrongSaid : Prop := contourWrongRow.holds Try.pinned (OpenSpec.ofChange contourWrongSpec)

/-- ITS FALSE NEIGHBOUR: 'it returns false'. Refute it at one input. -/
def contourWrongWrong : ChangeSpec := { name := "contourWrong", fn := fun _ => fun
  | [d1, d2, d3] => { results := [.lit (.bool false)], args := [d1, d2, d3] }
  | _ => none }
def ContourWrongWrongFalsely : Prop := contourWrongRow.holds Try.pinned (OpenSpec.ofChange contourWrongWrong)

/- THE SECOND FORM. 'bulk': how many values and letters a reading holds, each counted each time it is reached (what is shared counts as often as it is met; a slice's spare places count too). A statement '..UptoSaid' is the law's where the arguments, and the package variables that the reading takes, are together of bulk at most 1048576: NARROWER than '..Said'. Prove '..Said' where nothing that the law and all that it calls make is longer than what came in: it says more and counts as full. Else prove '..UptoSaid'. A law counts once. -/
mutual
def uptoBulk {H : Type} : DataW H → Nat
  | .lit (.string bytes) => bytes.length + 1
  | .lit _ => 1
  | .nil => 1
  | .ptr d => uptoBulk d + 1
  | .slice elems spare => uptoBulkAll elems + uptoBulkAll spare + 1
  | .agg parts => uptoBulkAll parts + 1
  | .iface _ d => uptoBulk d + 1
  | .map entries => uptoBulkEntries entries + 1
  | .held _ => 1
def uptoBulkAll {H : Type} : List (DataW H) → Nat
  | [] => 0
  | d :: r => uptoBulk d + uptoBulkAll r
def uptoBulkEntries {H : Type} : List (Lit × DataW H) → Nat
  | [] => 0
  | x :: r => uptoBulkEntry x + uptoBulkEntries r
def uptoBulkEntry {H : Type} : Lit × DataW H → Nat
  | (.string bytes, d) => bytes.length + uptoBulk d + 1
  | (_, d) => uptoBulk d + 1
 end
def uptoSmall : (H : Type) → List (DataW H) → Bool := fun _ ds => decide (uptoBulkAll ds ≤ 1048576)
def OpenSpec.upto (s : _root_.Go.ChangeSpec) : _root_.Go.OpenSpec := { _root_.Go.OpenSpec.ofChange s with cond := some uptoSmall }

/-- 'lithophanelaw08.ContourExact', WHERE WHAT IT READS IS OF BULK AT MOST 1048576: true; the input reads as it did. -/
def contourExactUptoRow : OpenClaim := { program := "ytfljcgehhnmamaa", sum := "83d4d9ae82db7496e8bb03b72751090fb9cfce8bf5a88fffb6f6481b272943b8", func := "lithophane/lithophanelaw08.ContourExact", spec := "contourExact", unfollowed := true, recurses := true, plainKeys := false, apart := false, narrowed := true }
def ContourExactUptoSaid : Prop := contourExactUptoRow.holds Try.pinned (OpenSpec.upto contourExactSpec)

/-- 'lithophanelaw08.ContourBits', WHERE WHAT IT READS IS OF BULK AT MOST 1048576: true; the input reads as it did. -/
def contourBitsUptoRow : OpenClaim := { program := "ytfljcgehhnmamaa", sum := "83d4d9ae82db7496e8bb03b72751090fb9cfce8bf5a88fffb6f6481b272943b8", func := "lithophane/lithophanelaw08.ContourBits", spec := "contourBits", unfollowed := true, recurses := true, plainKeys := false, apart := false, narrowed := true }
def ContourBitsUptoSaid : Prop := contourBitsUptoRow.holds Try.pinned (OpenSpec.upto contourBitsSpec)

/-- 'lithophanelaw08.ContourClosed', WHERE WHAT IT READS IS OF BULK AT MOST 1048576: true; the input reads as it did. -/
def contourClosedUptoRow : OpenClaim := { program := "ytfljcgehhnmamaa", sum := "83d4d9ae82db7496e8bb03b72751090fb9cfce8bf5a88fffb6f6481b272943b8", func := "lithophane/lithophanelaw08.ContourClosed", spec := "contourClosed", unfollowed := true, recurses := true, plainKeys := false, apart := false, narrowed := true }
def ContourClosedUptoSaid : Prop := contourClosedUptoRow.holds Try.pinned (OpenSpec.upto contourClosedSpec)

/-- 'lithophanelaw08.ContourCrossings', WHERE WHAT IT READS IS OF BULK AT MOST 1048576: true; the input reads as it did. -/
def contourCrossingsUptoRow : OpenClaim := { program := "ytfljcgehhnmamaa", sum := "83d4d9ae82db7496e8bb03b72751090fb9cfce8bf5a88fffb6f6481b272943b8", func := "lithophane/lithophanelaw08.ContourCrossings", spec := "contourCrossings", unfollowed := true, recurses := true, plainKeys := false, apart := false, narrowed := true }
def ContourCrossingsUptoSaid : Prop := contourCrossingsUptoRow.holds Try.pinned (OpenSpec.upto contourCrossingsSpec)

/-- 'lithophanelaw08.ContourMoved', WHERE WHAT IT READS IS OF BULK AT MOST 1048576: true; the input reads as it did. -/
def contourMovedUptoRow : OpenClaim := { program := "ytfljcgehhnmamaa", sum := "83d4d9ae82db7496e8bb03b72751090fb9cfce8bf5a88fffb6f6481b272943b8", func := "lithophane/lithophanelaw08.ContourMoved", spec := "contourMoved", unfollowed := true, recurses := true, plainKeys := false, apart := false, narrowed := true }
def ContourMovedUptoSaid : Prop := contourMovedUptoRow.holds Try.pinned (OpenSpec.upto contourMovedSpec)

/-- 'lithophanelaw08.ContourTurned', WHERE WHAT IT READS IS OF BULK AT MOST 1048576: true; the input reads as it did. -/
def contourTurnedUptoRow : OpenClaim := { program := "ytfljcgehhnmamaa", sum := "83d4d9ae82db7496e8bb03b72751090fb9cfce8bf5a88fffb6f6481b272943b8", func := "lithophane/lithophanelaw08.ContourTurned", spec := "contourTurned", unfollowed := true, recurses := true, plainKeys := false, apart := false, narrowed := true }
def ContourTurnedUptoSaid : Prop := contourTurnedUptoRow.holds Try.pinned (OpenSpec.upto contourTurnedSpec)

/-- 'lithophanelaw08.ContourLocal', WHERE WHAT IT READS IS OF BULK AT MOST 1048576: true; the input reads as it did. -/
def contourLocalUptoRow : OpenClaim := { program := "ytfljcgehhnmamaa", sum := "83d4d9ae82db7496e8bb03b72751090fb9cfce8bf5a88fffb6f6481b272943b8", func := "lithophane/lithophanelaw08.ContourLocal", spec := "contourLocal", unfollowed := true, recurses := true, plainKeys := false, apart := false, narrowed := true }
def ContourLocalUptoSaid : Prop := contourLocalUptoRow.holds Try.pinned (OpenSpec.upto contourLocalSpec)

/-- 'lithophanelaw08.ContourApart', WHERE WHAT IT READS IS OF BULK AT MOST 1048576: true; the input reads as it did. -/
def contourApartUptoRow : OpenClaim := { program := "ytfljcgehhnmamaa", sum := "83d4d9ae82db7496e8bb03b72751090fb9cfce8bf5a88fffb6f6481b272943b8", func := "lithophane/lithophanelaw08.ContourApart", spec := "contourApart", unfollowed := true, recurses := true, plainKeys := false, apart := false, narrowed := true }
def ContourApartUptoSaid : Prop := contourApartUptoRow.holds Try.pinned (OpenSpec.upto contourApartSpec)

/-- 'lithophanelaw08.ContourWrong', WHERE WHAT IT READS IS OF BULK AT MOST 1048576: true; the input reads as it did. -/
def contourWrongUptoRow : OpenClaim := { program := "ytfljcgehhnmamaa", sum := "83d4d9ae82db7496e8bb03b72751090fb9cfce8bf5a88fffb6f6481b272943b8", func := "lithophane/lithophanelaw08.ContourWrong", spec := "contourWrong", unfollowed := true, recurses := true, plainKeys := false, apart := false, narrowed := true }
def ContourWrongUptoSaid : Prop := contourWrongUptoRow.holds Try.pinned (OpenSpec.upto contourWrongSpec)

end Rows
end Go.Proofs.Ytfljcgehhnmamaa
