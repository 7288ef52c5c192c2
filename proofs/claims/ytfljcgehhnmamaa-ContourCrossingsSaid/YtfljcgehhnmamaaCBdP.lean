/- Layer 8, plain: a surface's corners are in range, its triangles not many. No program. -/
import Derived.Test.YtfljcgehhnmamaaCCrossP
namespace Go.Proofs.Ytfljcgehhnmamaa
open Go.RowKit
def rangeP (p : Pt) : Prop := (0 ≤ p.1 ∧ p.1 ≤ 2097152) ∧ (0 ≤ p.2.1 ∧ p.2.1 ≤ 2097152) ∧ (0 ≤ p.2.2 ∧ p.2.2 ≤ 2097152)
def rangeT (t : Tri) : Prop := rangeP t.1 ∧ rangeP t.2.1 ∧ rangeP t.2.2
theorem contour_cor {l : Nat} {F : List Bool} (h1 : 1 ≤ l) (h3 : l ≤ 3) (hv : validF l F = true) {t : Tri} (ht : t ∈ contourP l F) {p : Pt} (hp : CorOf t p) : rangeP p := by
  rw [contour_lvl hv] at ht
  obtain ⟨u, hu, rfl⟩ := canon_mem.1 ht
  have hb := ctr_bd (sideE h1 h3) hu (CorOf.rot.1 hp)
  have e : ((2 ^ l : Nat) : Int) * ((2 ^ (21 - l) : Nat) : Int) = 2097152 := by
    have hc : l = 1 ∨ l = 2 ∨ l = 3 := by omega
    rcases hc with rfl | rfl | rfl <;> decide
  rw [e] at hb
  exact hb
theorem contour_range {l : Nat} {F : List Bool} (h1 : 1 ≤ l) (h3 : l ≤ 3) (hv : validF l F = true) : ∀ t ∈ contourP l F, rangeT t := fun _ ht =>
  ⟨contour_cor h1 h3 hv ht (.inl rfl), contour_cor h1 h3 hv ht (.inr (.inl rfl)), contour_cor h1 h3 hv ht (.inr (.inr rfl))⟩
theorem rangeP.fit {p : Pt} (h : rangeP p) : fitsP p := by
  unfold rangeP at h
  unfold fitsP fits
  omega
theorem rangeT.fit {t : Tri} (h : rangeT t) : fitsT t := ⟨h.1.fit, h.2.1.fit, h.2.2.fit⟩
theorem ctrL_few (F : List Bool) (n : Nat) (h : Int) (m : Nat) : (ctrL F n h m).length ≤ 24 * m := by
  induction m with
  | zero => simp [ctrL]
  | succ m ih =>
    rw [ctrL_succ, List.length_append]
    have := cellTs_few (bitsF_length F n m) (cellAt n m) h
    omega
theorem contour_few {l : Nat} {F : List Bool} (h1 : 1 ≤ l) (h3 : l ≤ 3) (hv : validF l F = true) : (contourP l F).length ≤ 12288 := by
  rw [contour_lvl hv, (canonT_perm _).length_eq, List.length_map]
  have h := ctrL_few F (2 ^ l) ((2 ^ (21 - l) : Nat) : Int) (2 ^ l * 2 ^ l * 2 ^ l)
  have hc : l = 1 ∨ l = 2 ∨ l = 3 := by omega
  have : 2 ^ l * 2 ^ l * 2 ^ l ≤ 512 := by rcases hc with rfl | rfl | rfl <;> decide
  omega
end Go.Proofs.Ytfljcgehhnmamaa
