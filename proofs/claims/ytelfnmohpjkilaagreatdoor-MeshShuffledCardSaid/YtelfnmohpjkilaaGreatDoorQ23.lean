/- Msh0 Msh1. -/
import Derived.WalkKit
import Derived.WalkSpells
import Derived.WalkLawsBesides
import Derived.Laws.OwnMore
import Derived.Deep.AppendLies
import Derived.Deep.Draws
import Derived.Maps.AppendAt
import Derived.OwnWalk
import Derived.Sort.Grow
import Derived.Shelf.GgSortFunc.RowK
import Derived.RangeFuncNested
import Derived.RangeFuncBox
import Derived.Test.YtelfnmohpjkilaaGreatDoorRows
import Derived.Handy
import Derived.Maps.Own
import Derived.Maps.Views
import Derived.DeepKeys4
import Derived.DeepKeys
import Derived.Laws.StructEq
import Derived.Deep.QuietTactic
import Derived.BigQuiet
import Derived.LoopN
import Derived.Laws.EntriesVeiled
import Derived.Shelf.SlSortCmp.QuietGrown
import Derived.Deep.RegionHeld3
import Derived.Deep.DrawnRows
import Derived.Sort.Statements
import Derived.Shelf.SlSortCmp.NoneTotal
import Derived.OrdersHeld
import Derived.OrdersIn
import Derived.RangeFuncCalls
import Derived.OwnWalkIn
import Derived.Deep.CutBlock
import Derived.Deep.DeepCutAuto
import Derived.Maps.OwnSet
import Derived.Maps.RangeWalk
import Derived.IntWalk
import Derived.Deep.MidRow
import Derived.StillTailTactics
import Derived.Shelf.RegionOpen
import Derived.Test.YtelfnmohpjkilaaGreatDoorQ10
import Derived.Test.YtelfnmohpjkilaaGreatDoorQ21
namespace Go.Proofs.YtelfnmohpjkilaaGreatDoor
open Go.RowKit Go.WideMaps Go.Maps
set_option maxRecDepth 100000
theorem laid_ok4 : laidOutB Tryz.prog = true := by kernel_rfl
theorem fits_wf4 {c : Int} (h : fits c) : (Lit.int .i64 c).wf = true := by
  obtain ⟨h1, h2⟩ := h
  simp only [Lit.wf, IntKind.min, IntKind.max, IntKind.signed, IntKind.bits, Bool.and_eq_true, decide_eq_true_eq, if_true]
  omega
theorem vP_inj4 {p q : Pt} (h : vP p = vP q) : p = q := by
  obtain ⟨a, b, c⟩ := p
  obtain ⟨d, e, f⟩ := q
  simpa using h
theorem vE_inj4 {p q : Ed} (h : vE p = vE q) : p = q := by
  obtain ⟨⟨a, b, c⟩, d, e, f⟩ := p
  obtain ⟨⟨a', b', c'⟩, d', e', f'⟩ := q
  simpa [and_assoc] using h
theorem rowP4 : (41 : TypeId) < Tryz.prog.types.size := of_decide_eq_true (by kernel_rfl)
theorem wideP4 : (match Tryz.prog.underlying 41 with | some (.array _ _) | some (.struct _) => true | _ => false) = true := by rw [Tryz.underlying41]
theorem lawP4 : KeyLaw Tryz.prog 41 := deep_law_laid laid_ok4 (m := 2) (by omega) rowP4 (by kernel_rfl) wideP4
theorem keyedP4 : Keyed Tryz.prog 41 := Keyed.of_law lawP4
theorem key_someP4 (p : Pt) (hp : fitsP p) : ∃ l, keyOf Tryz.prog 41 (vP p) = some l := by
  obtain ⟨h0, h1, h2⟩ := hp
  have w0 := fits_wf4 h0
  have w1 := fits_wf4 h1
  have w2 := fits_wf4 h2
  have k : Tryz.prog.keyType 41 = true := by kernel_rfl
  have c : Tryz.prog.cellsOf 41 = 3 := by kernel_rfl
  have c1 : Tryz.prog.cellsOf 3 = 1 := by kernel_rfl
  obtain ⟨n, hn⟩ : ∃ n, Tryz.prog.types.size + 1 = n + 1 + 1 := ⟨Tryz.prog.types.size - 1, by have : (41 : Nat) < Tryz.prog.types.size := rowP4; omega⟩
  unfold keyOf
  simp only [Tryz.underlying41, k, Value.formed, c, hn, Bool.true_and]
  simp [Program.keyLits, Tryz.underlying41, Tryz.underlying3, c, c1, w0, w1, w2, Value.cells]
theorem kfP4 : KeyFit Tryz.prog 41 vP fitsP := ⟨keyedP4, key_someP4, fun _ _ => vP_inj4⟩
theorem rowE4 : (81 : TypeId) < Tryz.prog.types.size := of_decide_eq_true (by kernel_rfl)
theorem wideE4 : (match Tryz.prog.underlying 81 with | some (.array _ _) | some (.struct _) => true | _ => false) = true := by rw [Tryz.underlying81]
theorem lawE4 : KeyLaw Tryz.prog 81 := deep_law_laid laid_ok4 (m := 3) (by omega) rowE4 (by kernel_rfl) wideE4
theorem keyedE4 : Keyed Tryz.prog 81 := Keyed.of_law lawE4
theorem lits_n4 (p : Pt) (hp : fitsP p) (n : Nat) : Tryz.prog.keyLits (n + 1 + 1) 41 [.int .i64 p.1, .int .i64 p.2.1, .int .i64 p.2.2] = some [.int .i64 p.1, .int .i64 p.2.1, .int .i64 p.2.2] := by
  obtain ⟨h0, h1, h2⟩ := hp
  have w0 := fits_wf4 h0
  have w1 := fits_wf4 h1
  have w2 := fits_wf4 h2
  have c : Tryz.prog.cellsOf 41 = 3 := by kernel_rfl
  have c1 : Tryz.prog.cellsOf 3 = 1 := by kernel_rfl
  simp [Program.keyLits, Tryz.underlying41, Tryz.underlying3, c, c1, w0, w1, w2]
theorem key_someE4 (e : Ed) (he : fitsE e) : ∃ l, keyOf Tryz.prog 81 (vE e) = some l := by
  have k : Tryz.prog.keyType 81 = true := by kernel_rfl
  have c : Tryz.prog.cellsOf 81 = 6 := by kernel_rfl
  have c3 : Tryz.prog.cellsOf 41 = 3 := by kernel_rfl
  obtain ⟨n, hn⟩ : ∃ n, Tryz.prog.types.size + 1 = n + 1 + 1 + 1 := ⟨Tryz.prog.types.size - 2, by have : (81 : Nat) < Tryz.prog.types.size := rowE4; omega⟩
  have h0 := lits_n4 e.1 he.1 n
  have h1 := lits_n4 e.2 he.2 n
  unfold keyOf
  simp only [Tryz.underlying81, k, Value.formed, c, hn, Bool.true_and]
  unfold Program.keyLits
  simp [Tryz.underlying81, c, c3, h0, h1, Value.cells]
theorem kfE4 : KeyFit Tryz.prog 81 vE fitsE := ⟨keyedE4, key_someE4, fun _ _ => vE_inj4⟩
section
variable {κ : Type} [DecidableEq κ]
def setK4 (L : List κ) (p : κ) : Option Value := if p ∈ L then some (.bool true) else none
def memB (L : List κ) (p : κ) : Bool := decide (p ∈ L)
theorem memB_iff {L : List κ} {p : κ} : memB L p = true ↔ p ∈ L := decide_eq_true_iff
theorem memB_on {L : List κ} {p : κ} (h : p ∈ L) : memB L p = true := memB_iff.2 h
theorem memB_off {L : List κ} {p : κ} (h : p ∉ L) : memB L p = false := by
  cases hb : memB L p with
  | false => rfl
  | true => exact absurd (memB_iff.1 hb) h
theorem setK4_get (L : List κ) (p : κ) : (setK4 L p).getD (.bool false) = .bool (memB L p) := by
  unfold setK4
  by_cases h : p ∈ L
  · rw [if_pos h, memB_on h]; rfl
  · rw [if_neg h, memB_off h]; rfl
theorem setK4_add (L : List κ) (p : κ) : (fun q => if q = p then some (Value.bool true) else setK4 L q) = setK4 (addL L p) := by
  funext q
  unfold setK4
  by_cases hq : q = p
  · subst hq
    rw [if_pos rfl, if_pos (addL_mem.2 (.inr rfl))]
  · rw [if_neg hq]
    by_cases h : q ∈ L
    · rw [if_pos h, if_pos (addL_mem.2 (.inl h))]
    · rw [if_neg h, if_neg (fun h' => (addL_mem.1 h').elim h hq)]
theorem addL_old {L : List κ} {p : κ} (h : p ∈ L) : addL L p = L := if_pos h
end
/-- Block b is a map of at most n entries: the set of the points L. -/
def SetPM (w : World) (b n : Nat) (L : List Pt) : Prop := MapK Tryz.prog 41 vP fitsP w b n (setK4 L)
def SetEM (w : World) (b n : Nat) (L : List Ed) : Prop := MapK Tryz.prog 81 vE fitsE w b n (setK4 L)
set_option maxHeartbeats 4000000 in
theorem addP_any (mb n : Nat) (L : List Pt) (p : Pt) (w : World) (hM : SetPM w mb n L) (hf : fitsP p) (hn : n < maxLen) :
    Calls Tryz.prog 44 #[.map (some mb), vP p] w fun r w' => r = .returned (.bool (!memB L p)) ∧ SetPM w' mb (n + 1) (addL L p) ∧ w.grownBy w' (some mb) := by
  have hlt := hM.lt
  go_enter Tryz.func44, Tryz.ntmps44
  go_upto_region 1 with fail
  obtain ⟨X, hX⟩ : ∃ X, X = w.alloc (.cells #[.int .i64 p.1, .int .i64 p.2.1, .int .i64 p.2.2] 41) := ⟨_, rfl⟩
  rw [← hX]
  have heX : Blk X w.heap.size 41 #[.int .i64 p.1, .int .i64 p.2.1, .int .i64 p.2.2] := by rw [hX]; exact Blk.new _ _ _
  have hB : Below w.heap.size w X := by rw [hX]; exact (Below.refl _ w).alloc (Nat.le_refl _) _
  have hMX : MapK Tryz.prog 41 vP fitsP X mb n (setK4 L) := hM.below hB hlt
  obtain ⟨a0, a1, a2⟩ := heX.three
  have hl := hMX.lookup kfP4 (t := 68) (e := 4) Tryz.underlying68 (z := .bool false) rfl p hf
  rw [setK4_get] at hl
  by_cases hE : p ∈ L
  · rw [memB_on hE] at hl
    have HE := hide (And.intro hMX (And.intro hB hE))
    clear hX heX hB hMX hM hE
    go_wp2
    go_ret
    refine ⟨by rw [memB_on HE.out.2.2]; rfl, ?_, ⟨HE.out.2.1.os, HE.out.2.1.tape, HE.out.2.1.output, HE.out.2.1.size, fun i hi _ => HE.out.2.1.block i hi⟩⟩
    rw [addL_old HE.out.2.2]
    exact HE.out.1.mono (by omega)
  · rw [memB_off hE] at hl
    obtain ⟨w5, hrun, hm5, hg5, hz5⟩ := hMX.update kfP4 (t := 68) (e := 4) Tryz.underlying68 hn p hf (.bool true)
    rw [setK4_add] at hm5
    have HE := hide (And.intro hm5 (And.intro (grown_below hB hg5) hE))
    clear hm5 hg5 hz5 hX heX hB hMX hM hE
    go_wp2
    go_ret
    exact ⟨by rw [memB_off HE.out.2.2]; rfl, HE.out.1, HE.out.2.1⟩
theorem Blk.six4 {w : World} {g : Nat} {t : TypeId} {a b c d e f : Value} (h : Blk w g t #[a, b, c, d, e, f]) : w.cell? ⟨g, 0, none⟩ = some a ∧ w.cell? ⟨g, 1, none⟩ = some b ∧ w.cell? ⟨g, 2, none⟩ = some c ∧ w.cell? ⟨g, 3, none⟩ = some d ∧ w.cell? ⟨g, 4, none⟩ = some e ∧ w.cell? ⟨g, 5, none⟩ = some f :=
  ⟨h.cell 0, h.cell 1, h.cell 2, h.cell 3, h.cell 4, h.cell 5⟩
abbrev cE (e : Ed) : Array Value := #[.int .i64 e.1.1, .int .i64 e.1.2.1, .int .i64 e.1.2.2, .int .i64 e.2.1, .int .i64 e.2.2.1, .int .i64 e.2.2.2]
set_option maxHeartbeats 4000000 in
theorem addE_any (mb n : Nat) (L : List Ed) (p : Ed) (w : World) (hM : SetEM w mb n L) (hf : fitsE p) (hn : n < maxLen) :
    Calls Tryz.prog 75 #[.map (some mb), vE p] w fun r w' => r = .returned (.bool (!memB L p)) ∧ SetEM w' mb (n + 1) (addL L p) ∧ w.grownBy w' (some mb) := by
  have hlt := hM.lt
  go_enter Tryz.func75, Tryz.ntmps75
  go_upto_region 1 with fail
  obtain ⟨X, hX⟩ : ∃ X, X = w.alloc (.cells (cE p) 81) := ⟨_, rfl⟩
  rw [← hX]
  have heX : Blk X w.heap.size 81 (cE p) := by rw [hX]; exact Blk.new _ _ _
  have hB : Below w.heap.size w X := by rw [hX]; exact (Below.refl _ w).alloc (Nat.le_refl _) _
  have hMX : MapK Tryz.prog 81 vE fitsE X mb n (setK4 L) := hM.below hB hlt
  obtain ⟨a0, a1, a2, a3, a4, a5⟩ := heX.six4
  have hl := hMX.lookup kfE4 (t := 74) (e := 4) Tryz.underlying74 (z := .bool false) rfl p hf
  rw [setK4_get] at hl
  by_cases hE : p ∈ L
  · rw [memB_on hE] at hl
    have HE := hide (And.intro hMX (And.intro hB hE))
    clear hX heX hB hMX hM hE
    go_wp2
    go_ret
    refine ⟨by rw [memB_on HE.out.2.2]; rfl, ?_, ⟨HE.out.2.1.os, HE.out.2.1.tape, HE.out.2.1.output, HE.out.2.1.size, fun i hi _ => HE.out.2.1.block i hi⟩⟩
    rw [addL_old HE.out.2.2]
    exact HE.out.1.mono (by omega)
  · rw [memB_off hE] at hl
    obtain ⟨w5, hrun, hm5, hg5, hz5⟩ := hMX.update kfE4 (t := 74) (e := 4) Tryz.underlying74 hn p hf (.bool true)
    rw [setK4_add] at hm5
    have HE := hide (And.intro hm5 (And.intro (grown_below hB hg5) hE))
    clear hm5 hg5 hz5 hX heX hB hMX hM hE
    go_wp2
    go_ret
    exact ⟨by rw [memB_off HE.out.2.2]; rfl, HE.out.1, HE.out.2.1⟩
end Go.Proofs.YtelfnmohpjkilaaGreatDoor
namespace Go.Proofs.YtelfnmohpjkilaaGreatDoor
open Go.RowKit Go.Sort Go.Lib
set_option maxRecDepth 100000
instance : Inhabited Pt := ⟨(0, 0, 0)⟩
instance : Inhabited Ed := ⟨((0, 0, 0), (0, 0, 0))⟩
def or2 (x y : Int) : Int := if x ≠ 0 then x else y
set_option maxHeartbeats 1000000 in
theorem or2_any (b c : Nat) (x y : Int) (w : World) (h0 : w.cell? ⟨b, 0, none⟩ = some (vi x)) (h1 : w.cell? ⟨b, 1, none⟩ = some (vi y)) :
    Calls Tryz.prog 52 #[.slice (some ⟨b, 0, none⟩) 2 c] w fun e w' => e = .returned (vi (or2 x y)) ∧ w = w' := by
  by_cases hx : x = 0
  · have ex : (x != 0) = false := by simp [hx]
    have HX := hide hx
    clear hx
    by_cases hy : y = 0
    · have ey : (y != 0) = false := by simp [hy]
      have HY := hide hy
      clear hy
      go_enter Tryz.func52, Tryz.ntmps52
      go_wp2
      go_rounds 3
      go_ret
      exact ⟨by simp [or2, HX.out, HY.out], rfl⟩
    · have ey : (y != 0) = true := by simp [hy]
      go_enter Tryz.func52, Tryz.ntmps52
      go_wp2
      go_rounds 3
      go_ret
      exact ⟨by simp [or2, HX.out], rfl⟩
  · have ex : (x != 0) = true := by simp [hx]
    go_enter Tryz.func52, Tryz.ntmps52
    go_wp2
    go_rounds 3
    go_ret
    exact ⟨by simp [or2, hx], rfl⟩
def cmpEd (s t : Ed) : Int := or2 (cmpP s.1 t.1) (cmpP s.2 t.2)
theorem ltOf_cmpEd : ltOf cmpEd = ltE := by
  rw [ltE_lex]
  funext s t
  obtain ⟨a, b⟩ := s
  obtain ⟨d, e⟩ := t
  unfold ltOf cmpEd or2 lexB
  rw [Bool.eq_iff_iff]
  simp only [decide_eq_true_eq, Bool.or_eq_true, Bool.and_eq_true, ← cmpP_neg, ← cmpP_zero]
  by_cases h1 : cmpP a d = 0
  · simp [h1]
  · simp [h1]
section
attribute [local go_sem ↓] Go.wp_at_zero Go.wp_at_succ
set_option maxHeartbeats 4000000 in
theorem cmpEd_any (s t : Ed) (w : World) : Calls Tryz.prog 51 #[vE s, vE t] w fun e w' => e = .returned (vi (cmpEd s t)) ∧ Lay w w' := by
  go_enter Tryz.func51, Tryz.ntmps51
  go_wp2_with fail
  obtain ⟨W, hW⟩ : ∃ W, W = (w.alloc (.cells (cE s) 81)).alloc (.cells (cE t) 81) := ⟨_, rfl⟩
  rw [← hW]
  have hL : Lay w W := by rw [hW]; exact ((Lay.refl _).alloc _).alloc _
  have b0 : Blk W w.heap.size 81 (cE s) := by rw [hW]; exact (Blk.new _ _ _).alloc _
  have b1 : Blk W (w.heap.size + 1) 81 (cE t) := by rw [hW]; exact Blk.new' _ _ _ _ (by simp)
  clear hW
  have cl0 : W.cell? ⟨w.heap.size, 0, none⟩ = some (.int .i64 s.1.1) := b0.cell 0
  have cl1 : W.cell? ⟨w.heap.size, 1, none⟩ = some (.int .i64 s.1.2.1) := b0.cell 1
  have cl2 : W.cell? ⟨w.heap.size, 2, none⟩ = some (.int .i64 s.1.2.2) := b0.cell 2
  have cl3 : W.cell? ⟨w.heap.size, 3, none⟩ = some (.int .i64 s.2.1) := b0.cell 3
  have cl4 : W.cell? ⟨w.heap.size, 4, none⟩ = some (.int .i64 s.2.2.1) := b0.cell 4
  have cl5 : W.cell? ⟨w.heap.size, 5, none⟩ = some (.int .i64 s.2.2.2) := b0.cell 5
  have cl6 : W.cell? ⟨w.heap.size + 1, 0, none⟩ = some (.int .i64 t.1.1) := b1.cell 0
  have cl7 : W.cell? ⟨w.heap.size + 1, 1, none⟩ = some (.int .i64 t.1.2.1) := b1.cell 1
  have cl8 : W.cell? ⟨w.heap.size + 1, 2, none⟩ = some (.int .i64 t.1.2.2) := b1.cell 2
  have cl9 : W.cell? ⟨w.heap.size + 1, 3, none⟩ = some (.int .i64 t.2.1) := b1.cell 3
  have cl10 : W.cell? ⟨w.heap.size + 1, 4, none⟩ = some (.int .i64 t.2.2.1) := b1.cell 4
  have cl11 : W.cell? ⟨w.heap.size + 1, 5, none⟩ = some (.int .i64 t.2.2.2) := b1.cell 5
  clear b0 b1
  go_region_held3 (fun w' => Lay w w' ∧ w'.cell? ⟨w.heap.size, 0, none⟩ = some (.int .i64 s.1.1) ∧ w'.cell? ⟨w.heap.size, 1, none⟩ = some (.int .i64 s.1.2.1) ∧ w'.cell? ⟨w.heap.size, 2, none⟩ = some (.int .i64 s.1.2.2) ∧ w'.cell? ⟨w.heap.size, 3, none⟩ = some (.int .i64 s.2.1) ∧ w'.cell? ⟨w.heap.size, 4, none⟩ = some (.int .i64 s.2.2.1) ∧ w'.cell? ⟨w.heap.size, 5, none⟩ = some (.int .i64 s.2.2.2) ∧ w'.cell? ⟨w.heap.size + 1, 0, none⟩ = some (.int .i64 t.1.1) ∧ w'.cell? ⟨w.heap.size + 1, 1, none⟩ = some (.int .i64 t.1.2.1) ∧ w'.cell? ⟨w.heap.size + 1, 2, none⟩ = some (.int .i64 t.1.2.2) ∧ w'.cell? ⟨w.heap.size + 1, 3, none⟩ = some (.int .i64 t.2.1) ∧ w'.cell? ⟨w.heap.size + 1, 4, none⟩ = some (.int .i64 t.2.2.1) ∧ w'.cell? ⟨w.heap.size + 1, 5, none⟩ = some (.int .i64 t.2.2.2))
    ((go_split_ands; first
      | (refine ⟨Lay.trans (by with_reducible assumption) hLx, ?_, ?_, ?_, ?_, ?_, ?_, ?_, ?_, ?_, ?_, ?_, ?_⟩ <;> exact cell_lay hLx (by with_reducible assumption))
      | (refine ⟨Lay.alloc (by with_reducible assumption) _, ?_, ?_, ?_, ?_, ?_, ?_, ?_, ?_, ?_, ?_, ?_, ?_⟩ <;> exact cell_lay (Lay.alloc1 _ _) (by with_reducible assumption))
      | (refine ⟨Lay.drew (by with_reducible assumption), ?_, ?_, ?_, ?_, ?_, ?_, ?_, ?_, ?_, ?_, ?_, ?_⟩ <;> exact cell_lay (Lay.drew1 _) (by with_reducible assumption))
      | go_keep))
    (first | (go_at_call 46; refine (cmpPoints_any _ _ _).mono ?_; rintro e wx ⟨rfl, hLx⟩) | (go_at_call 52; refine (or2_any _ 2 _ _ _ ((Blk.new wx 3 _).cell 0) ((Blk.new wx 3 _).cell 1)).mono ?_; rintro e wx ⟨rfl, rfl⟩))
  go_wp2
  go_ret
  go_split_ands
  exact ⟨rfl, by with_reducible assumption⟩
end
theorem sort_pt_none (p : Option Addr) (c : Nat) (w : World) : Calls Tryz.prog 82 #[.slice p 0 c, .func (.func 46) #[] #[]] w fun e w' => e = .returned (.tuple #[]) ∧ w = w' := by
  have h := AnyF.slices_SortFunc_none sortPtL p c (.func (.func 46) #[] #[]) w
  exact h.mono fun e w' h => ⟨h.1, h.2.symm⟩
theorem sort_pt_own (g cap n base : Nat) (ts : List Pt) (w : World) (hO : Own encP 3 41 w base (.slice (some ⟨g, 0, none⟩) n cap) n ts) (hn : ts.length < 4611686018427387904) :
    Calls Tryz.prog 82 #[.slice (some ⟨g, 0, none⟩) n cap, .func (.func 46) #[] #[]] w fun e w' =>
      e = .returned (.tuple #[]) ∧ w.grownBy w' (some g) ∧ Own encP 3 41 w' base (.slice (some ⟨g, 0, none⟩) n cap) n (sortG ltP ts) := by
  have hH := hO.holdsK encP_len
  have hlen := hO.1
  rcases hO.2.2 with ⟨h0, _⟩ | ⟨g', cap', cur, hv, hbg, hg, hc, hm, hs, _⟩
  · cases h0
  injection hv with hv _ hcc
  injection hv with hv
  injection hv with hv
  subst hv
  subst hcc
  have hlt : g < w.heap.size := (Array.getElem?_eq_some_iff.1 hg).1
  have eg : ∀ args w, (callFunc 46 args).run Tryz.prog w = .ok (.enter 46 args) w := enters_of Tryz.func46 (by kernel_rfl) rfl
  have hO : SWO (ltOf cmpP) := by rw [ltOf_cmpP]; exact sto_P.swo
  have hT : ∀ x y, ltOf cmpP x y = false → ltOf cmpP y x = false → x = y := by rw [ltOf_cmpP]; exact sto_P.total
  have h := AnyQ.slices_SortFunc_total sortPtL 3 Tryz.isAgg41 Tryz.sizeOf41 encP encP_len encP_one cmpP hO 46 #[] g 0 cap ts.toArray w eg
    (fun _ _ _ _ x y => cmpPoints_any x y _) hH hlt (by simpa using hn) hT
  change Calls Tryz.prog 82 _ _ _ at h
  rw [ltOf_cmpP] at h
  rw [show ts.toArray.size = n by simp [hlen]] at h
  refine h.mono ?_
  rintro e w' ⟨rfl, m, os, rfl⟩
  refine ⟨rfl, sortWorldK_grownBy, ?_⟩
  have hHs : HoldsK encP 3 (sortWorldK encP 3 w g 0 m (sortG ltP ts).toArray os) g 0 (sortG ltP ts).toArray := sortWorldK_holds hlt hH (by simp [sortG])
  have hgs : ∃ cur', (sortWorldK encP 3 w g 0 m (sortG ltP ts).toArray os).heap[g]? = some (.cells cur' 41 (0, 0)) ∧ cur'.size = cur.size := by
    unfold sortWorldK
    rw [heap_grow_old _ _ (by simpa [putRowK] using hlt)]
    simp only [putRowK, putRow, mapBlock, heap_ahead, Array.getElem?_modify, hg, if_true, Option.map_some]
    exact ⟨_, rfl, by simp [putCells]⟩
  obtain ⟨cur', hg', hsz⟩ := hgs
  exact Own.of_holdsK encP_len hbg hg' hc hm (by rw [hsz, hs]) (by rw [hlen]; simp [sortG]) hHs
theorem sort_ed_none (p : Option Addr) (c : Nat) (w : World) : Calls Tryz.prog 84 #[.slice p 0 c, .func (.func 51) #[] #[]] w fun e w' => e = .returned (.tuple #[]) ∧ w = w' := by
  have h := AnyF.slices_SortFunc_none sortEdL p c (.func (.func 51) #[] #[]) w
  exact h.mono fun e w' h => ⟨h.1, h.2.symm⟩
theorem sort_ed_own (g cap n base : Nat) (ts : List Ed) (w : World) (hO : Own encE 6 81 w base (.slice (some ⟨g, 0, none⟩) n cap) n ts) (hn : ts.length < 4611686018427387904) :
    Calls Tryz.prog 84 #[.slice (some ⟨g, 0, none⟩) n cap, .func (.func 51) #[] #[]] w fun e w' =>
      e = .returned (.tuple #[]) ∧ w.grownBy w' (some g) ∧ Own encE 6 81 w' base (.slice (some ⟨g, 0, none⟩) n cap) n (sortG ltE ts) := by
  have hH := hO.holdsK encE_len
  have hlen := hO.1
  rcases hO.2.2 with ⟨h0, _⟩ | ⟨g', cap', cur, hv, hbg, hg, hc, hm, hs, _⟩
  · cases h0
  injection hv with hv _ hcc
  injection hv with hv
  injection hv with hv
  subst hv
  subst hcc
  have hlt : g < w.heap.size := (Array.getElem?_eq_some_iff.1 hg).1
  have eg : ∀ args w, (callFunc 51 args).run Tryz.prog w = .ok (.enter 51 args) w := enters_of Tryz.func51 (by kernel_rfl) rfl
  have hO : SWO (ltOf cmpEd) := by rw [ltOf_cmpEd]; exact sto_E.swo
  have hT : ∀ x y, ltOf cmpEd x y = false → ltOf cmpEd y x = false → x = y := by rw [ltOf_cmpEd]; exact sto_E.total
  have h := AnyQ.slices_SortFunc_total sortEdL 6 Tryz.isAgg81 Tryz.sizeOf81 encE encE_len encE_one cmpEd hO 51 #[] g 0 cap ts.toArray w eg
    (fun _ _ _ _ x y => cmpEd_any x y _) hH hlt (by simpa using hn) hT
  change Calls Tryz.prog 84 _ _ _ at h
  rw [ltOf_cmpEd] at h
  rw [show ts.toArray.size = n by simp [hlen]] at h
  refine h.mono ?_
  rintro e w' ⟨rfl, m, os, rfl⟩
  refine ⟨rfl, sortWorldK_grownBy, ?_⟩
  have hHs : HoldsK encE 6 (sortWorldK encE 6 w g 0 m (sortG ltE ts).toArray os) g 0 (sortG ltE ts).toArray := sortWorldK_holds hlt hH (by simp [sortG])
  have hgs : ∃ cur', (sortWorldK encE 6 w g 0 m (sortG ltE ts).toArray os).heap[g]? = some (.cells cur' 81 (0, 0)) ∧ cur'.size = cur.size := by
    unfold sortWorldK
    rw [heap_grow_old _ _ (by simpa [putRowK] using hlt)]
    simp only [putRowK, putRow, mapBlock, heap_ahead, Array.getElem?_modify, hg, if_true, Option.map_some]
    exact ⟨_, rfl, by simp [putCells]⟩
  obtain ⟨cur', hg', hsz⟩ := hgs
  exact Own.of_holdsK encE_len hbg hg' hc hm (by rw [hsz, hs]) (by rw [hlen]; simp [sortG]) hHs

end Go.Proofs.YtelfnmohpjkilaaGreatDoor
