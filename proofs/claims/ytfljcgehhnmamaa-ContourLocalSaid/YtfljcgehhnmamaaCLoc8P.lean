/- Layer 8, plain: a vertex has an effect only on the triangles of its eight cells. No program. -/
import Derived.Test.YtfljcgehhnmamaaCBdP
namespace Go.Proofs.Ytfljcgehhnmamaa
open Go.RowKit
/-- Where vertex x, y, z stands among 9 in each direction. -/
def at9 (x y z : Nat) : Nat := (z * 9 + y) * 9 + x
def flipF (F : List Bool) (i : Nat) : List Bool := F.set i (!F.getD i false)
def boxP (x y z : Nat) (p : Pt) : Prop := ((((x : Int) - 1) * 262144 ≤ p.1 ∧ p.1 ≤ ((x : Int) + 1) * 262144) ∧ (((y : Int) - 1) * 262144 ≤ p.2.1 ∧ p.2.1 ≤ ((y : Int) + 1) * 262144)) ∧ ((z : Int) - 1) * 262144 ≤ p.2.2 ∧ p.2.2 ≤ ((z : Int) + 1) * 262144
def boxT (x y z : Nat) (t : Tri) : Prop := boxP x y z t.1 ∧ boxP x y z t.2.1 ∧ boxP x y z t.2.2
theorem boxT_cor {x y z : Nat} {t : Tri} (h : ∀ p, CorOf t p → boxP x y z p) : boxT x y z t := ⟨h _ (.inl rfl), h _ (.inr (.inl rfl)), h _ (.inr (.inr rfl))⟩
theorem flip_get {F : List Bool} {i : Nat} (hi : i < F.length) : (flipF F i).getD i false = !F.getD i false := by
  unfold flipF
  rw [List.getD_eq_getElem?_getD, List.getElem?_set_self hi]; rfl
theorem flip_ne (F : List Bool) {i j : Nat} (h : i ≠ j) : (flipF F i).getD j false = F.getD j false := by
  unfold flipF
  rw [List.getD_eq_getElem?_getD, List.getElem?_set_ne h, ← List.getD_eq_getElem?_getD]
theorem flip_length (F : List Bool) (i : Nat) : (flipF F i).length = F.length := by simp [flipF]
theorem flip_flip {F : List Bool} {i : Nat} (hi : i < F.length) : flipF (flipF F i) i = F := by
  have h := flip_get hi
  unfold flipF at h ⊢
  rw [h, List.set_set, Bool.not_not, List.getD_eq_getElem?_getD, List.getElem?_eq_getElem hi]
  exact List.set_getElem_self hi
theorem flip_valid {F : List Bool} {x y z : Nat} (hv : validF 3 F = true) (hx : 1 ≤ x ∧ x ≤ 7) (hy : 1 ≤ y ∧ y ≤ 7) (hz : 1 ≤ z ∧ z ≤ 7) : validF 3 (flipF F (at9 x y z)) = true := by
  obtain ⟨hl, hok⟩ := valid_parts (l := 3) hv
  refine valid_of (l := 3) (by omega) (by omega) (by rw [flip_length]; exact hl) ?_
  rw [flip_length]
  unfold flipF
  refine okF_set hok fun j hj => ?_
  have := inner_ok (n := 8) (x := x - 1) (y := y - 1) (z := z - 1) (by omega) (by omega) (by omega) j hj
  rw [show (1 + (z - 1)) = z by omega, show (1 + (y - 1)) = y by omega, show (1 + (x - 1)) = x by omega] at this
  exact this
theorem loc_half {F G : List Bool} {x y z : Nat} (hF : validF 3 F = true) (hG : validF 3 G = true) (hd : ∀ j, j ≠ at9 x y z → G.getD j false = F.getD j false) (hx : x ≤ 8) (hy : y ≤ 8) :
    ∀ t ∈ contourP 3 F, t ∈ contourP 3 G ∨ boxT x y z t := by
  have hh : SideH 262144 := .inl rfl
  have e1 := contour_lvl (l := 3) hF
  have e2 := contour_lvl (l := 3) hG
  rw [show (((3 : Nat) : Int)) = 3 from rfl] at e1 e2
  simp only [Nat.reducePow, Nat.reduceSub, Int.cast_ofNat_Int] at e1 e2
  rw [e1, e2]
  intro t ht
  obtain ⟨u', hu', rfl⟩ := canon_mem.1 ht
  obtain ⟨k, u, hk, hu, rfl⟩ := ctr_mem hu'
  obtain ⟨a1, a2, a3, a4⟩ := three_of hk
  by_cases hin : (k % 8 ≤ x ∧ x ≤ k % 8 + 1) ∧ (k / 8 % 8 ≤ y ∧ y ≤ k / 8 % 8 + 1) ∧ (k / 8 / 8 ≤ z ∧ z ≤ k / 8 / 8 + 1)
  · refine .inr (boxT_cor fun p hp => ?_)
    obtain ⟨q, rfl, hq⟩ := corOf_sh (CorOf.rot.1 hp)
    have hb := cor_bd hh (bitsF_length F 8 k) hu hq
    unfold boxP addP cellAt
    dsimp only
    omega
  · refine .inl (canon_mem.2 ⟨_, mem_ctr hk ?_, rfl⟩)
    have e : bitsF G 8 k = bitsF F 8 k := by
      unfold bitsF
      refine List.map_congr_left fun v hv => ?_
      unfold insF
      refine hd _ fun e => hin ?_
      unfold vtx at9 at e
      omega
    rw [e]
    exact hu
theorem mid_only {x y z x' y' z' a' : Nat} (ha : a' < 3) (h : midG 262144 x y z 0 = midG 262144 x' y' z' a') : x' = x ∧ y' = y ∧ z' = z ∧ a' = 0 := by
  unfold midG at h
  have hc : a' = 0 ∨ a' = 1 ∨ a' = 2 := by omega
  simp only [Prod.mk.injEq] at h
  rcases hc with rfl | rfl | rfl
  · simp [axU] at h
    omega
  · simp [axU] at h
    omega
  · simp [axU] at h
    omega
theorem loc_ne {F G : List Bool} {x y z : Nat} (hF : validF 3 F = true) (hG : validF 3 G = true) (hx : x < 8) (hy : y < 8) (hz : z < 8) (hX : XG F 8 x y z 0) (hN : ¬ XG G 8 x y z 0) : contourP 3 F ≠ contourP 3 G := by
  intro he
  have hh : SideH 262144 := .inl rfl
  have e1 := contour_lvl (l := 3) hF
  have e2 := contour_lvl (l := 3) hG
  rw [show (((3 : Nat) : Int)) = 3 from rfl] at e1 e2
  simp only [Nat.reducePow, Nat.reduceSub, Int.cast_ofNat_Int] at e1 e2
  obtain ⟨t, ht, hc⟩ := cor_ctr hh (by omega) hx hy hz hX
  have hm : rotT t ∈ contourP 3 G := by rw [← he, e1]; exact canon_mem.2 ⟨t, ht, rfl⟩
  rw [e2] at hm
  obtain ⟨u, hu, hr⟩ := canon_mem.1 hm
  have hcu : CorOf u (midG 262144 x y z 0) := CorOf.rot.1 (by rw [hr]; exact CorOf.rot.2 hc)
  rcases ctr_cor hh hu hcu with ⟨c, q, hq, hp⟩ | ⟨x', y', z', a', ha', _, _, _, hX', hp⟩
  · unfold midG addP at hp
    simp only [Prod.mk.injEq, axU, if_true] at hp
    obtain ⟨h1, h2, h3⟩ := hq
    omega
  · obtain ⟨rfl, rfl, rfl, rfl⟩ := mid_only ha' hp
    exact hN hX'
theorem loc_diff {F : List Bool} {x y z : Nat} (hl : F.length = 729) (hx : x < 8) (hy : y < 9) (hz : z < 9) : XG (flipF F (at9 x y z)) 8 x y z 0 ↔ ¬ XG F 8 x y z 0 := by
  have hi : at9 x y z < F.length := by unfold at9; omega
  have h1 : VF (flipF F (at9 x y z)) 8 x y z = !VF F 8 x y z := flip_get hi
  have h2 : VF (flipF F (at9 x y z)) 8 (x + 1) y z = VF F 8 (x + 1) y z := flip_ne F (by unfold at9; omega)
  have e : axU 0 = (1, 0, 0) := rfl
  unfold XG
  rw [e]
  dsimp only
  simp only [Nat.add_zero]
  rw [h1, h2]
  cases VF F 8 x y z <;> cases VF F 8 (x + 1) y z <;> simp
/-- The law. -/
theorem loc_law {F : List Bool} {x y z : Nat} (hv : validF 3 F = true) (hx : 1 ≤ x ∧ x ≤ 7) (hy : 1 ≤ y ∧ y ≤ 7) (hz : 1 ≤ z ∧ z ≤ 7) :
    (∀ t ∈ contourP 3 F, t ∈ contourP 3 (flipF F (at9 x y z)) ∨ boxT x y z t) ∧ (∀ t ∈ contourP 3 (flipF F (at9 x y z)), t ∈ contourP 3 F ∨ boxT x y z t) ∧ contourP 3 F ≠ contourP 3 (flipF F (at9 x y z)) := by
  have hl : F.length = 729 := (valid_parts (l := 3) hv).1
  have hG := flip_valid hv hx hy hz
  refine ⟨loc_half hv hG (fun j hj => flip_ne F hj.symm) (by omega) (by omega), loc_half hG hv (fun j hj => (flip_ne F hj.symm).symm) (by omega) (by omega), ?_⟩
  have hd := loc_diff (x := x) (y := y) (z := z) hl (by omega) (by omega) (by omega)
  by_cases hX : XG F 8 x y z 0
  · exact loc_ne hv hG (by omega) (by omega) (by omega) hX fun h => hd.1 h hX
  · exact fun e => loc_ne hG hv (by omega) (by omega) (by omega) (hd.2 hX) hX e.symm
end Go.Proofs.Ytfljcgehhnmamaa
