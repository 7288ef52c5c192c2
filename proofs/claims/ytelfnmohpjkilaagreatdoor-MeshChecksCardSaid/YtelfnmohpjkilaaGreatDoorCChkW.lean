/- law04.MeshChecks (printed by mk_ChkW.py). -/
import Derived.Test.YtelfnmohpjkilaaGreatDoorCB24
import Derived.Test.YtelfnmohpjkilaaGreatDoorCTri
namespace Go.Proofs.YtelfnmohpjkilaaGreatDoor
open Go.RowKit Go.Sort
set_option maxRecDepth 100000 in
set_option maxHeartbeats 32000000 in
theorem checks_of (hsan : ∀ W : World, Calls Tryz.prog 12 #[] W fun e w' => e = .returned (.bool true) ∧ Below W.heap.size W w') (op : Bool) (b0 : Nat) (A : Option Addr) (c : Nat) (ns : List Int) (s0 s1 s2 s3 s4 s5 : Int) (w : World) (hb0 : b0 < 4294967296) (hs : ns ≠ [] → Sl encZ4 1 w w.heap.size A ns) (hf : ∀ n ∈ ns, fits n) (hlc : ns.length ≤ c) (hlm : ns.length ≤ 9223372036854775807) :
    Calls Tryz.prog 3 #[.agg (vSh op b0 A ns.length c s0 s1 s2 s3 s4 s5)] w fun e w' => e = .returned (.bool true) ∧ Below w.heap.size w w' := by
  have htr := fun W (hW : Below w.heap.size w W) => tris_any op b0 A c ns s0 s1 s2 s3 s4 s5 W hb0 (fun h => ((hs h).below hW).more hW.size) hf hlc hlm
  obtain ⟨M, hM⟩ : ∃ M, M = ns.length := ⟨_, rfl⟩
  simp only [← hM] at htr ⊢
  have HT := hide htr
  have HS := hide hsan
  clear htr hsan hs hf hM hlc hlm
  go_enter Tryz.func3, Tryz.ntmps3
  go_upto_region 1 with fail
  obtain ⟨xb, hxb⟩ : ∃ g, g = w.heap.size := ⟨_, rfl⟩
  obtain ⟨W0, hW0⟩ : ∃ W, W = w.alloc (.cells (vSh op b0 A M c s0 s1 s2 s3 s4 s5) 26) := ⟨_, rfl⟩
  rw [← hW0, ← hxb]
  have hbx : Blk W0 xb 26 (vSh op b0 A M c s0 s1 s2 s3 s4 s5) := by rw [hW0, hxb]; exact Blk.new _ _ _
  have hB0 : Below w.heap.size w W0 := by rw [hW0]; exact (Below.refl _ w).alloc (Nat.le_refl _) _
  have H0 := hide (And.intro hbx hB0)
  clear hbx hB0 hW0 hxb
  go_upto_region 2 with (go_at_call 12; refine (HS.out W0).mono ?_; rintro e X ⟨rfl, hB⟩; have h1 := H0.out.1.below hB H0.out.1.lt; have h2 := H0.out.2.trans (hB.mono H0.out.2.size); have H1 := hide (And.intro h1 h2); clear h1 h2 hB)
  have x0 : X.cell? ⟨xb, 0, none⟩ = some (.bool op) := H1.out.1.cell 0
  have x1 : X.cell? ⟨xb, 1, none⟩ = some (.int .u32 b0) := H1.out.1.cell 1
  have x2 : X.cell? ⟨xb, 2, none⟩ = some (.slice A M c) := H1.out.1.cell 2
  have x3 : X.cell? ⟨xb, 3, none⟩ = some (.int .i64 s0) := H1.out.1.cell 3
  have x4 : X.cell? ⟨xb, 4, none⟩ = some (.int .i64 s1) := H1.out.1.cell 4
  have x5 : X.cell? ⟨xb, 5, none⟩ = some (.int .i64 s2) := H1.out.1.cell 5
  have x6 : X.cell? ⟨xb, 6, none⟩ = some (.int .i64 s3) := H1.out.1.cell 6
  have x7 : X.cell? ⟨xb, 7, none⟩ = some (.int .i64 s4) := H1.out.1.cell 7
  have x8 : X.cell? ⟨xb, 8, none⟩ = some (.int .i64 s5) := H1.out.1.cell 8
  have hxl := H1.out.1.lt
  go_upto_region 3 with (go_at_call 13; refine (HT.out X H1.out.2).mono ?_; rintro e Y ⟨v, rfl, L, ho, hl, hf, hB⟩; obtain ⟨TA, tc, rfl⟩ := ho.form; have h1 := ho.sl encT_len (Nat.le_refl _); have H2 := hide (And.intro h1 (And.intro hl (And.intro hf (H1.out.2.trans (hB.mono H1.out.2.size))))); clear ho hl hf hB h1)
  clear x0 x1 x2 x3 x4 x5 x6 x7 x8 hxl H1 H0
  obtain ⟨N, hN⟩ : ∃ n, n = L.length := ⟨_, rfl⟩
  have hN4 : N ≤ 401 := by rw [hN]; exact H2.out.2.1
  rw [← hN]
  obtain ⟨E, hE⟩ : ∃ E, E = checkP L false := ⟨_, rfl⟩
  obtain ⟨E2, hE2⟩ : ∃ E, E = checkP L true := ⟨_, rfl⟩
  have hsl := fun W (h : Below Y.heap.size Y W) => (H2.out.1.below h).more h.size
  have k1 : ∀ W, Below Y.heap.size Y W → Calls Tryz.prog 14 #[.slice TA N tc] W fun e w' => e = .returned (.int .i64 E) ∧ Below W.heap.size W w' := fun W h => by
    have := Check4_any TA tc L W (hsl W h) (by omega) H2.out.2.2.1
    rw [← hN, ← hE] at this; exact this
  have k2 : ∀ W, Below Y.heap.size Y W → Calls Tryz.prog 15 #[.slice TA N tc] W fun e w' => e = .returned (.int .i64 E) ∧ Below W.heap.size W w' := fun W h => by
    have := Check_any TA tc L W (hsl W h) (by omega) H2.out.2.2.1
    rw [← hN, ← hE] at this; exact this
  have k3 : ∀ W, Below Y.heap.size Y W → Calls Tryz.prog 16 #[.slice TA N tc] W fun e w' => e = .returned (.int .i64 E2) ∧ Below W.heap.size W w' := fun W h => by
    have := CheckOpen4_any TA tc L W (hsl W h) (by omega) H2.out.2.2.1
    rw [← hN, ← hE2] at this; exact this
  have k4 : ∀ W, Below Y.heap.size Y W → Calls Tryz.prog 17 #[.slice TA N tc] W fun e w' => e = .returned (.int .i64 E2) ∧ Below W.heap.size W w' := fun W h => by
    have := RCheckOpen_any TA tc L W (hsl W h) (by omega) H2.out.2.2.1
    rw [← hN, ← hE2] at this; exact this
  have K := hide (And.intro k1 (And.intro k2 (And.intro k3 k4)))
  have HZ := hide H2.out.2.2.2
  clear k1 k2 k3 k4 hsl hE hE2 hN H2
  go_wp2_with (first
    | (go_at_call 17; refine (K.out.2.2.2 W3 J3.out).mono ?_; rintro e W4 ⟨rfl, hB⟩; have J4 := hide (J3.out.trans (hB.mono J3.out.size)); clear hB)
    | (go_at_call 16; refine (K.out.2.2.1 W2 J2.out).mono ?_; rintro e W3 ⟨rfl, hB⟩; have J3 := hide (J2.out.trans (hB.mono J2.out.size)); clear hB)
    | (go_at_call 15; refine (K.out.2.1 W1 J1.out).mono ?_; rintro e W2 ⟨rfl, hB⟩; have J2 := hide (J1.out.trans (hB.mono J1.out.size)); clear hB)
    | (go_at_call 14; refine (K.out.1 Y (Below.refl _ Y)).mono ?_; rintro e W1 ⟨rfl, hB⟩; have J1 := hide hB; clear hB))
  go_ret
  exact ⟨rfl, HZ.out.trans (J4.out.mono HZ.out.size)⟩
end Go.Proofs.YtelfnmohpjkilaaGreatDoor
