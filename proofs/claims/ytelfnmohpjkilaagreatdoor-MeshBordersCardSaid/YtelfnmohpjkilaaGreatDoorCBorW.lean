/- law04.MeshBorders (printed by mk_ChkW.py). -/
import Derived.Test.YtelfnmohpjkilaaGreatDoorCB21
import Derived.Test.YtelfnmohpjkilaaGreatDoorCB23
import Derived.Test.YtelfnmohpjkilaaGreatDoorCB24
import Derived.Test.YtelfnmohpjkilaaGreatDoorCTri
namespace Go.Proofs.YtelfnmohpjkilaaGreatDoor
open Go.RowKit Go.Sort
set_option maxRecDepth 100000 in
set_option maxHeartbeats 32000000 in
theorem borders_of (hsan : ∀ W : World, Calls Tryz.prog 12 #[] W fun e w' => e = .returned (.bool true) ∧ Below W.heap.size W w') (op : Bool) (b0 : Nat) (A : Option Addr) (c : Nat) (ns : List Int) (s0 s1 s2 s3 s4 s5 : Int) (w : World) (hb0 : b0 < 4294967296) (hs : ns ≠ [] → Sl encZ4 1 w w.heap.size A ns) (hf : ∀ n ∈ ns, fits n) (hlc : ns.length ≤ c) (hlm : ns.length ≤ 9223372036854775807) :
    Calls Tryz.prog 4 #[.agg (vSh op b0 A ns.length c s0 s1 s2 s3 s4 s5)] w fun e w' => e = .returned (.bool true) ∧ Below w.heap.size w w' := by
  have htr := fun W (hW : Below w.heap.size w W) => tris_any op b0 A c ns s0 s1 s2 s3 s4 s5 W hb0 (fun h => ((hs h).below hW).more hW.size) hf hlc hlm
  obtain ⟨M, hM⟩ : ∃ M, M = ns.length := ⟨_, rfl⟩
  simp only [← hM] at htr ⊢
  have HT := hide htr
  have HS := hide hsan
  clear htr hsan hs hf hM hlc hlm
  go_enter Tryz.func4, Tryz.ntmps4
  go_upto_region 1 with fail
  obtain ⟨xb, hxb⟩ : ∃ g, g = w.heap.size := ⟨_, rfl⟩
  obtain ⟨W0, hW0⟩ : ∃ W, W = w.alloc (.cells (vSh op b0 A M c s0 s1 s2 s3 s4 s5) 26) := ⟨_, rfl⟩
  rw [← hW0, ← hxb]
  have hbx : Blk W0 xb 26 (vSh op b0 A M c s0 s1 s2 s3 s4 s5) := by rw [hW0, hxb]; exact Blk.new _ _ _
  have hB0 : Below w.heap.size w W0 := by rw [hW0]; exact (Below.refl _ w).alloc (Nat.le_refl _) _
  have H0 := hide (And.intro hbx hB0)
  clear hbx hB0 hW0 hxb
  go_upto_region 2 with (go_at_call 12; refine (HS.out W0).mono ?_; rintro e X ⟨rfl, hB⟩; have h1 := H0.out.1.below hB H0.out.1.lt; have h2 := H0.out.2.trans (hB.mono H0.out.2.size); have H1 := hide (And.intro h1 h2); clear h1 h2 hB)
  have x0 : X.cell? ⟨xb, 0, none⟩ = some (.bool op) := H1.out.1.cell 0
  have x1 : X.cell? ⟨xb, 1, none⟩ = some (.int .u32 b0) := H1.out.1.cell 1
  have x2 : X.cell? ⟨xb, 2, none⟩ = some (.slice A M c) := H1.out.1.cell 2
  have x3 : X.cell? ⟨xb, 3, none⟩ = some (.int .i64 s0) := H1.out.1.cell 3
  have x4 : X.cell? ⟨xb, 4, none⟩ = some (.int .i64 s1) := H1.out.1.cell 4
  have x5 : X.cell? ⟨xb, 5, none⟩ = some (.int .i64 s2) := H1.out.1.cell 5
  have x6 : X.cell? ⟨xb, 6, none⟩ = some (.int .i64 s3) := H1.out.1.cell 6
  have x7 : X.cell? ⟨xb, 7, none⟩ = some (.int .i64 s4) := H1.out.1.cell 7
  have x8 : X.cell? ⟨xb, 8, none⟩ = some (.int .i64 s5) := H1.out.1.cell 8
  have hxl := H1.out.1.lt
  go_upto_region 3 with (go_at_call 13; refine (HT.out X H1.out.2).mono ?_; rintro e Y ⟨v, rfl, L, ho, hl, hf, hB⟩; obtain ⟨TA, tc, rfl⟩ := ho.form; have h1 := ho.sl encT_len (Nat.le_refl _); have H2 := hide (And.intro h1 (And.intro hl (And.intro hf (H1.out.2.trans (hB.mono H1.out.2.size))))); clear ho hl hf hB h1)
  clear x0 x1 x2 x3 x4 x5 x6 x7 x8 hxl H1 H0
  obtain ⟨N, hN⟩ : ∃ n, n = L.length := ⟨_, rfl⟩
  have hN4 : N ≤ 401 := by rw [hN]; exact H2.out.2.1
  rw [← hN]
  obtain ⟨E, hE⟩ : ∃ E, E = checkP L false := ⟨_, rfl⟩
  have hsl := fun W (h : Below Y.heap.size Y W) => (H2.out.1.below h).more h.size
  have k1 : ∀ W, Below Y.heap.size Y W → Calls Tryz.prog 14 #[.slice TA N tc] W fun e w' => e = .returned (.int .i64 E) ∧ Below W.heap.size W w' := fun W h => by
    have := Check4_any TA tc L W (hsl W h) (by omega) H2.out.2.2.1
    rw [← hN, ← hE] at this; exact this
  have k2 : ∀ W, Below Y.heap.size Y W → Calls Tryz.prog 19 #[.slice TA N tc] W fun e w' => ∃ A c, e = .returned (.slice A (cornersP L).length c) ∧ Sl encP 3 w' w'.heap.size A (cornersP L) ∧ Below W.heap.size W w' := fun W h => by
    have := corners4_any TA tc L W (hsl W h) (by omega) H2.out.2.2.1
    rw [← hN] at this
    refine Calls.mono this ?_
    rintro e w' ⟨v, rfl, ho, hB⟩
    obtain ⟨A, c, rfl⟩ := ho.form
    exact ⟨A, c, rfl, ho.sl encP_len (Nat.le_refl _), hB⟩
  have k3 : ∀ W, Below Y.heap.size Y W → Calls Tryz.prog 20 #[.slice TA N tc] W fun e w' => ∃ A c, e = .returned (.slice A (cornersP L).length c) ∧ Sl encP 3 w' w'.heap.size A (cornersP L) ∧ Below W.heap.size W w' ∧ ∀ p ∈ cornersP L, fitsP p := fun W h => by
    have := corners_any TA tc L W (hsl W h) (by omega) H2.out.2.2.1
    rw [← hN] at this
    refine Calls.mono this ?_
    rintro e w' ⟨A, c, rfl, h1, _, h2, h3⟩
    exact ⟨A, c, rfl, h1, h2, h3⟩
  have k4 : ∀ W, Below Y.heap.size Y W → Calls Tryz.prog 22 #[.slice TA N tc] W fun e w' => ∃ A c, e = .returned (.slice A (borderP L).length c) ∧ Sl encE 6 w' w'.heap.size A (borderP L) ∧ Below W.heap.size W w' := fun W h => by
    have := Border4_any TA tc L W (hsl W h) (by omega) H2.out.2.2.1
    rw [← hN] at this
    refine Calls.mono this ?_
    rintro e w' ⟨v, rfl, ho, hB⟩
    obtain ⟨A, c, rfl⟩ := ho.form
    exact ⟨A, c, rfl, ho.sl encE_len (Nat.le_refl _), hB⟩
  have k5 : ∀ W, Below Y.heap.size Y W → Calls Tryz.prog 23 #[.slice TA N tc] W fun e w' => ∃ A c, e = .returned (.slice A (borderP L).length c) ∧ Sl encE 6 w' w'.heap.size A (borderP L) ∧ Below W.heap.size W w' := fun W h => by
    have := border_any TA tc L W (hsl W h) (by omega) H2.out.2.2.1
    rw [← hN] at this
    refine Calls.mono this ?_
    rintro e w' ⟨A, c, rfl, h1, _, h2⟩
    exact ⟨A, c, rfl, h1, h2⟩
  have hfe : ∀ e ∈ borderP L, fitsE e := fun e he => edgesP_fits H2.out.2.2.1 e (((border_both L).2 e).1 he).1
  have hbl := borderP_le L
  have hcl := cornersP_le L
  have h0 : E = 0 → (borderP L).length = 0 := fun h => by
    have h1 := (check_iff.1 (hE.symm.trans h)).2.2.1
    rcases h1 with h1 | h1
    · cases h1
    · rw [h1]; rfl
  obtain ⟨CP, hCP⟩ : ∃ l, l = cornersP L := ⟨_, rfl⟩
  obtain ⟨BP, hBP⟩ : ∃ l, l = borderP L := ⟨_, rfl⟩
  obtain ⟨q1, hq1⟩ : ∃ n, n = CP.length := ⟨_, rfl⟩
  obtain ⟨q2, hq2⟩ : ∃ n, n = BP.length := ⟨_, rfl⟩
  simp only [← hCP, ← hq1] at k2 k3 hcl
  simp only [← hBP, ← hq2] at k4 k5 hfe hbl h0
  have hp : ∀ (A B : Option Addr) (c d : Nat) W n1 n2, Sl encP 3 W n1 A CP → Sl encP 3 W n2 B CP → (∀ p ∈ CP, fitsP p) → Calls Tryz.prog 18 #[.slice A q1 c, .slice B q1 d] W fun e w' => e = .returned (.bool true) ∧ ∃ k, w' = W.drewN k := fun A B c d W n1 n2 h1 h2 h3 => by
    have := pts4_any A B c d CP CP W n1 n2 h1 h2 (by omega) (by omega) h3 h3
    rw [← hq1, decide_eq_true (rfl : CP = CP)] at this; exact this
  have hpr : ∀ (A B : Option Addr) (c d : Nat) W n1 n2, Sl encE 6 W n1 A BP → Sl encE 6 W n2 B BP → Calls Tryz.prog 21 #[.slice A q2 c, .slice B q2 d] W fun e w' => e = .returned (.bool true) ∧ ∃ k, w' = W.drewN k := fun A B c d W n1 n2 h1 h2 => by
    have := prs4_any A B c d BP BP W n1 n2 h1 h2 (by omega) (by omega) hfe hfe
    rw [← hq2, decide_eq_true (rfl : BP = BP)] at this; exact this
  have K := hide (And.intro k1 (And.intro k2 (And.intro k3 (And.intro k4 (And.intro k5 (And.intro hp hpr))))))
  have HZ := hide H2.out.2.2.2
  clear k1 k2 k3 k4 k5 hp hpr hsl hE hN H2 hfe hbl hcl hCP hBP hq1 hq2
  by_cases hE0 : E = 0
  · have h00 := h0 hE0
    subst h00
    subst hE0
    clear h0
    go_wp2_with (first
      | (go_at_call 22; refine (K.out.2.2.2.1 W7 J7.out).mono ?_; rintro e W8 ⟨A8, c8, rfl, hx, hB⟩; have J8 := hide (J7.out.trans (hB.mono J7.out.size)); clear hB hx)
      | (go_at_call 14; refine (K.out.1 W6 J6.out).mono ?_; rintro e W7 ⟨rfl, hB⟩; have J7 := hide (J6.out.trans (hB.mono J6.out.size)); clear hB)
      | (go_at_call 21; refine (K.out.2.2.2.2.2.2 A4 A5 c4 c5 W5 _ _ J5.out.2.1 J5.out.2.2).mono ?_; rintro e W6 ⟨rfl, kd, hw⟩; have J6 := hide (show Below Y.heap.size Y W6 by rw [hw]; exact below_drewN J5.out.1 kd); clear hw)
      | (go_at_call 23; refine (K.out.2.2.2.2.1 W4 J4.out.1).mono ?_; rintro e W5 ⟨A5, c5, rfl, hx, hB⟩; have J5 := hide (And.intro (J4.out.1.trans (hB.mono J4.out.1.size)) (And.intro (J4.out.2.below hB) hx)); clear hB hx)
      | (go_at_call 22; refine (K.out.2.2.2.1 W3 J3.out).mono ?_; rintro e W4 ⟨A4, c4, rfl, hx, hB⟩; have J4 := hide (And.intro (J3.out.trans (hB.mono J3.out.size)) hx); clear hB hx)
      | (go_at_call 18; refine (K.out.2.2.2.2.2.1 A1 A2 c1 c2 W2 _ _ J2.out.2.1 J2.out.2.2.1 J2.out.2.2.2).mono ?_; rintro e W3 ⟨rfl, kd, hw⟩; have J3 := hide (show Below Y.heap.size Y W3 by rw [hw]; exact below_drewN J2.out.1 kd); clear hw)
      | (go_at_call 20; refine (K.out.2.2.1 W1 J1.out.1).mono ?_; rintro e W2 ⟨A2, c2, rfl, hx, hB, hp⟩; have J2 := hide (And.intro (J1.out.1.trans (hB.mono J1.out.1.size)) (And.intro (J1.out.2.below hB) (And.intro hx hp))); clear hB hx hp)
      | (go_at_call 19; refine (K.out.2.1 Y (Below.refl _ Y)).mono ?_; rintro e W1 ⟨A1, c1, rfl, hx, hB⟩; have J1 := hide (And.intro hB hx); clear hB hx))
    go_ret
    exact ⟨rfl, HZ.out.trans (J8.out.mono HZ.out.size)⟩
  · have e1 : (E != 0) = true := by simp [hE0]
    have e2 : (E == 0) = false := by simp [hE0]
    have HE0 := hide hE0
    clear hE0 h0
    go_wp2_with (first
      | (go_at_call 14; refine (K.out.1 W6 J6.out).mono ?_; rintro e W7 ⟨rfl, hB⟩; have J7 := hide (J6.out.trans (hB.mono J6.out.size)); clear hB)
      | (go_at_call 21; refine (K.out.2.2.2.2.2.2 A4 A5 c4 c5 W5 _ _ J5.out.2.1 J5.out.2.2).mono ?_; rintro e W6 ⟨rfl, kd, hw⟩; have J6 := hide (show Below Y.heap.size Y W6 by rw [hw]; exact below_drewN J5.out.1 kd); clear hw)
      | (go_at_call 23; refine (K.out.2.2.2.2.1 W4 J4.out.1).mono ?_; rintro e W5 ⟨A5, c5, rfl, hx, hB⟩; have J5 := hide (And.intro (J4.out.1.trans (hB.mono J4.out.1.size)) (And.intro (J4.out.2.below hB) hx)); clear hB hx)
      | (go_at_call 22; refine (K.out.2.2.2.1 W3 J3.out).mono ?_; rintro e W4 ⟨A4, c4, rfl, hx, hB⟩; have J4 := hide (And.intro (J3.out.trans (hB.mono J3.out.size)) hx); clear hB hx)
      | (go_at_call 18; refine (K.out.2.2.2.2.2.1 A1 A2 c1 c2 W2 _ _ J2.out.2.1 J2.out.2.2.1 J2.out.2.2.2).mono ?_; rintro e W3 ⟨rfl, kd, hw⟩; have J3 := hide (show Below Y.heap.size Y W3 by rw [hw]; exact below_drewN J2.out.1 kd); clear hw)
      | (go_at_call 20; refine (K.out.2.2.1 W1 J1.out.1).mono ?_; rintro e W2 ⟨A2, c2, rfl, hx, hB, hp⟩; have J2 := hide (And.intro (J1.out.1.trans (hB.mono J1.out.1.size)) (And.intro (J1.out.2.below hB) (And.intro hx hp))); clear hB hx hp)
      | (go_at_call 19; refine (K.out.2.1 Y (Below.refl _ Y)).mono ?_; rintro e W1 ⟨A1, c1, rfl, hx, hB⟩; have J1 := hide (And.intro hB hx); clear hB hx))
    go_ret
    exact ⟨rfl, HZ.out.trans (J7.out.mono HZ.out.size)⟩
end Go.Proofs.YtelfnmohpjkilaaGreatDoor
