/- ref08.Field: a field of a level from 1 to 3, whatever the numbers; nothing at its border is inside (printed by mk_Field.py). -/
import Derived.Deep.DeepCutAuto
import Derived.Test.YtfljcgehhnmamaaCB19
import Derived.Test.YtfljcgehhnmamaaCB29
import Derived.Test.YtfljcgehhnmamaaCMixT
namespace Go.Proofs.Ytfljcgehhnmamaa
open Go.RowKit Go.Sort
theorem okF_set {F : List Bool} {n m i : Nat} {b : Bool} (h : okF F n m = true) (hi : ∀ j, j < 3 → badC n (compK (n + 1) i j) = false) : okF (F.set i b) n m = true := by
  unfold okF at h ⊢
  refine List.all_eq_true.2 fun k hk => ?_
  have h0 := List.all_eq_true.1 h k hk
  unfold okK at h0 ⊢
  by_cases hik : i = k
  · subst hik
    rw [Bool.or_eq_true]
    refine .inr (List.all_eq_true.2 fun j hj => ?_)
    rw [hi j (List.mem_range.1 hj)]; rfl
  · have e : (F.set i b).getD k false = F.getD k false := by
      rw [List.getD_eq_getElem?_getD, List.getD_eq_getElem?_getD, List.getElem?_set_ne hik]
    rw [e]; exact h0
theorem okF_none (N n m : Nat) : okF (List.replicate N false) n m = true := by
  unfold okF
  refine List.all_eq_true.2 fun k _ => ?_
  unfold okK
  rw [List.getD_eq_getElem?_getD, List.getElem?_replicate]
  split <;> rfl
theorem inner_ok {n x y z : Nat} (hx : x + 1 < n) (hy : y + 1 < n) (hz : z + 1 < n) : ∀ j, j < 3 → badC n (compK (n + 1) (((1 + z) * (n + 1) + (1 + y)) * (n + 1) + (1 + x)) j) = false := by
  obtain ⟨e1, e2, e3⟩ := cell_no (n := n + 1) (x := 1 + x) (y := 1 + y) (z := 1 + z) (by omega) (by omega)
  intro j hj
  have hc : j = 0 ∨ j = 1 ∨ j = 2 := by omega
  unfold badC compK
  rcases hc with rfl | rfl | rfl
  · rw [if_pos rfl, e1]; simp; omega
  · rw [if_neg (by omega), if_pos rfl, e2]; simp; omega
  · rw [if_neg (by omega), if_neg (by omega), e3]; simp; omega
theorem inner_lt {n x y z : Nat} (hx : x + 1 < n) (hy : y + 1 < n) (hz : z + 1 < n) : ((1 + z) * (n + 1) + (1 + y)) * (n + 1) + (1 + x) < (n + 1) * (n + 1) * (n + 1) := by
  have h1 : (1 + z) * (n + 1) + (1 + y) + 1 ≤ (n + 1) * (n + 1) := by
    have : (1 + z + 1) * (n + 1) ≤ (n + 1) * (n + 1) := Nat.mul_le_mul_right _ (by omega)
    rw [Nat.succ_mul] at this
    omega
  have h2 : ((1 + z) * (n + 1) + (1 + y) + 1) * (n + 1) ≤ (n + 1) * (n + 1) * (n + 1) := Nat.mul_le_mul_right _ h1
  rw [Nat.succ_mul] at h2
  omega
theorem fld_ret {w V : World} {L : Int} {g N : Nat} {a0 a1 : Value} {fn : Func} {R : Ending → World → Prop} {a : Act} {w' : World} (hd : a.defers = []) (h : Blk V w.heap.size 26 #[a0, a1])
    (hr : ∀ Z : World, Z.cell? ⟨w.heap.size, 0, none⟩ = some (.int .i64 L) → Z.cell? ⟨w.heap.size, 1, none⟩ = some (.slice (some ⟨g, 0, none⟩) N N) → (results fn a.tmps).run Try.prog Z = .ok (.agg #[.int .i64 L, .slice (some ⟨g, 0, none⟩) N N]) Z)
    (hw : w' = (V.setCell ⟨w.heap.size, 0, none⟩ (.int .i64 L)).setCell ⟨w.heap.size, 1, none⟩ (.slice (some ⟨g, 0, none⟩) N N))
    (hR : ∀ W, W = (V.setCell ⟨w.heap.size, 0, none⟩ (.int .i64 L)).setCell ⟨w.heap.size, 1, none⟩ (.slice (some ⟨g, 0, none⟩) N N) → R (.returned (.agg #[.int .i64 L, .slice (some ⟨g, 0, none⟩) N N])) W) : bodyPost Try.prog fn R .ret a w' := by
  subst hw
  have h2 := (h.set_ 0 (.int .i64 L)).set_ 1 (.slice (some ⟨g, 0, none⟩) N N)
  exact bodyPost_ret (hr _ (h2.cell 0) (h2.cell 1)) hd (hR _ rfl)
/-- What the loop has: a field whose border is outside. -/
structure FdS (l N s b0 : Nat) (X0 wx : World) (gf g : Nat) (F : List Bool) : Prop where
  box : FBox wx gf g l F
  len : F.length = N
  ok : okF F s N = true
  bel : Below b0 X0 wx
theorem FdS.put {l N s b0 : Nat} {X0 wx : World} {gf g : Nat} {F : List Bool} (h : FdS l N s b0 X0 wx gf g F) (hne : gf ≠ g) (hg : b0 ≤ g) {i : Nat} {b : Bool} (hi : ∀ j, j < 3 → badC s (compK (s + 1) i j) = false) :
    FdS l N s b0 X0 (wx.setCell ⟨g, i, none⟩ (.bool b)).drew gf g (F.set i b) :=
  ⟨(h.box.set hne i b).drew, by rw [List.length_set]; exact h.len, okF_set h.ok hi, (h.bel.setCell (by dsimp only; omega) _).drew⟩
end Go.Proofs.Ytfljcgehhnmamaa
