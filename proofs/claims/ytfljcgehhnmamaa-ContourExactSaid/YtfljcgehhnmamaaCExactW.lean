/- ContourExact: the walk. -/
import Derived.Test.YtfljcgehhnmamaaCRefC
import Derived.Test.YtfljcgehhnmamaaCFieldA
import Derived.Test.YtfljcgehhnmamaaCSame05
namespace Go.Proofs.Ytfljcgehhnmamaa
open Go.RowKit Go.Sort
set_option maxRecDepth 100000 in
set_option maxHeartbeats 32000000 in
theorem exact_walk (x0 : Nat) (A1 : Option Addr) (c1 : Nat) (ns1 : List Int) (w : World) (hx0 : x0 < 256) (hs1 : ns1 ≠ [] → Sl encZ 1 w w.heap.size A1 ns1) (hf1 : ∀ x ∈ ns1, fits x) (hl1 : ns1.length ≤ 9223372036854775807) :
    Calls Try.prog 3 #[.int .u8 x0, .slice A1 ns1.length c1] w fun e w' => e = .returned (.bool true) ∧ Below w.heap.size w w' := by
  have hfd := fun W (hW : Below w.heap.size w W) => lfield_any x0 hx0 A1 c1 ns1 W (fun hne => ((hs1 hne).below hW).more hW.size) hf1 hl1
  obtain ⟨nl, hnl⟩ : ∃ nl, nl = ns1.length := ⟨_, rfl⟩
  rw [← hnl] at hfd ⊢
  have HF := hide hfd
  clear hfd hs1 hf1 hl1 hnl
  obtain ⟨l, hl⟩ : ∃ l, l = lvlP x0 := ⟨_, rfl⟩
  have hl13 : 1 ≤ l ∧ l ≤ 3 := by rw [hl]; exact lvl_b x0
  rw [← hl] at HF
  clear hl
  go_enter Try.func3, Try.ntmps3
  go_wp2_with fail
  refine (sanity8_any w).mono ?_
  rintro e w1 ⟨rfl, hB1⟩
  have hz1 := hB1.size
  have HB1 := hide hB1
  clear hB1
  go_wp2_with fail
  refine (HF.out w1 HB1.out).mono ?_
  rintro e w2 ⟨gF, F, rfl, hb, hg, hv, hB2⟩
  have hz2 := hB2.size
  have hlF : F.length ≤ 729 := by
    rw [(valid_parts hv).1]
    have hc : l = 1 ∨ l = 2 ∨ l = 3 := by omega
    rcases hc with rfl | rfl | rfl <;> decide
  obtain ⟨N, hN⟩ : ∃ N, N = F.length := ⟨_, rfl⟩
  obtain ⟨X, hX⟩ : ∃ X, X = w2.alloc (.cells #[.int .i64 l, .slice (some ⟨gF, 0, none⟩) N N] 26) := ⟨_, rfl⟩
  have hFX : FBox X w2.heap.size gF l F := by rw [hX]; exact ⟨by rw [← hN]; exact Blk.new _ _ _, hb.alloc _⟩
  have hBX : Below w.heap.size w X := by rw [hX]; exact HB1.out.trans ((hB2.alloc hz2 _).mono hz1)
  have hslF : ∀ W, Below X.heap.size X W → Sl encBl 1 W W.heap.size (some ⟨gF, 0, none⟩) F := fun W hW => ((hFX.sl (Nat.le_refl _)).below hW).more hW.size
  have hmax : (contourP l F).length ≤ 12288 := contour_few hl13.1 hl13.2 hv
  have hft : ∀ t ∈ contourP l F, fitsT t := fun t ht => (contour_range hl13.1 hl13.2 hv t ht).fit
  have hcon := fun W (hW : Below X.heap.size X W) => contour_any (l : Int) (some ⟨gF, 0, none⟩) N F W (hslF W hW) (by unfold maxLen; omega)
  have href := fun W (hW : Below X.heap.size X W) => refcon_any l hl13.1 hl13.2 (some ⟨gF, 0, none⟩) N F W (hslF W hW) hv
  obtain ⟨C, hC⟩ : ∃ C, C = contourP l F := ⟨_, rfl⟩
  obtain ⟨m, hm⟩ : ∃ m, m = C.length := ⟨_, rfl⟩
  rw [← hN, ← hC, ← hm] at href
  rw [← hN, ← hC, ← hm] at hcon
  rw [← hC] at hmax hft
  have hbox := hFX.two
  rw [← hN] at hbox ⊢
  have HX := hide (And.intro hcon (And.intro href (And.intro hBX (And.intro hm (And.intro hmax hft)))))
  have hS : ∀ W, Below X.heap.size X W → W.cell? ⟨w2.heap.size, 0, none⟩ = some (.int .i64 l) ∧ W.cell? ⟨w2.heap.size, 1, none⟩ = some (.slice (some ⟨gF, 0, none⟩) N N) := fun W hW => by
    have hlt := hFX.box.lt
    exact ⟨(hW.cell (p := ⟨w2.heap.size, 0, none⟩) hlt).trans hbox.1, (hW.cell (p := ⟨w2.heap.size, 1, none⟩) hlt).trans hbox.2⟩
  have HS := hide hS
  have HQ := hide (hS X.drew (Below.refl _ X).drew)
  have HXe := hide hX
  clear hcon href hBX hm hmax hft hbox hS hslF hFX hX hC hN hb hg hv hB2 hlF
  go_upto_region 3 with fail
  rw [← HXe.out]
  refine wp_region_mix (fun W => W.cell? ⟨w2.heap.size, 0, none⟩ = some (.int .i64 l) ∧ W.cell? ⟨w2.heap.size, 1, none⟩ = some (.slice (some ⟨gF, 0, none⟩) N N)) [0, 1, 2, 4] [0, 1, 2, 4, 3, 5, 6, 7, 8] mixed_ok (by kernel_rfl) ?_
  refine wpMix_q (v := .bool true) rfl rfl (fun _ _ _ h => h) HQ.out ⟨rfl, fun _ _ => by simp [go_sem]⟩ ?_
  refine wpMix_q (v := .bool true) rfl rfl (fun _ _ _ h => h) HQ.out ⟨rfl, fun _ _ => by simp [go_sem]⟩ ?_
  refine wpMix_q (v := .agg #[.int .i64 l, .slice (some ⟨gF, 0, none⟩) N N]) rfl rfl (fun _ _ _ h => h) HQ.out ⟨rfl, fun _ h' => by simp [go_sem, h'.1, h'.2]⟩ ?_
  refine wpMix_q (v := .agg #[.int .i64 l, .slice (some ⟨gF, 0, none⟩) N N]) rfl rfl (fun _ _ _ h => h) HQ.out ⟨rfl, fun _ h' => by simp [go_sem, h'.1, h'.2]⟩ ?_
  simp only [List.getElem_toArray, List.getElem_cons_succ, List.getElem_cons_zero]
  refine wpMix_n rfl rfl ?_
  go_wp2_with fail
  refine (HX.out.1 X.drew (Below.refl _ X).drew).mono ?_
  rintro e w5 ⟨v5, rfl, hown5, hB5⟩
  obtain ⟨A5, c5, rfl⟩ := hown5.form
  have hB5 : Below X.heap.size X w5 := (Below.refl X.heap.size X).drew.trans hB5
  have H5 := hide (And.intro hown5 hB5)
  clear hown5 hB5
  go_wp2_with fail
  refine ⟨fun _ => HS.out w5 H5.out.2, ?_⟩
  refine wpMix_tail _ [_, _, _, _] (by kernel_rfl) rfl ?_
  simp only [List.getElem_toArray, List.getElem_cons_succ, List.getElem_cons_zero]
  go_wp2_with fail
  refine (HX.out.2.1 w5 H5.out.2).mono ?_
  rintro e w6 ⟨A6, c6, rfl, hB6, hsl6⟩
  have hsl5 := (H5.out.1.sl encT_len (Nat.le_refl _)).below hB6
  have hsame := same05_any A5 A6 c5 c6 C C w6 w5.heap.size w6.heap.size hsl5 hsl6 (by have := HX.out.2.2.2.2.1; omega) (by have := HX.out.2.2.2.2.1; omega) HX.out.2.2.2.2.2 HX.out.2.2.2.2.2
  rw [decide_eq_true (rfl : C = C), ← HX.out.2.2.2.1] at hsame
  have H6 := hide (And.intro hsame hB6)
  clear hsame hB6 hsl5 hsl6
  go_wp2_with fail
  refine H6.out.1.mono ?_
  rintro e w7 ⟨rfl, q7, rfl⟩
  have HE := hide (below_drewN (HX.out.2.2.1.trans ((H5.out.2.trans (H6.out.2.mono H5.out.2.size)).mono HX.out.2.2.1.size)) q7)
  go_wp2
  go_ret
  exact ⟨rfl, HE.out⟩
end Go.Proofs.Ytfljcgehhnmamaa
