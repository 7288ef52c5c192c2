/- SealTorn: the walk. -/
import Derived.Test.YtdpgohpbannfnaaCS9X
import Derived.Test.YtdpgohpbannfnaaCS9H
namespace Go.Proofs.Ytdpgohpbannfnaa
open Go.RowKit Go.Sort Go.WideMaps Go.Maps
set_option maxRecDepth 100000 in
set_option maxHeartbeats 32000000 in
theorem torn7_walk (A0 : Option Addr) (c0 : Nat) (ns0 : List Int) (A1 : Option Addr) (c1 : Nat) (ns1 : List Int) (x2 : Int) (w : World) (hs0 : ns0 ≠ [] → Sl encZ 1 w w.heap.size A0 ns0) (_hf0 : ∀ x ∈ ns0, fits x) (hl0 : ns0.length ≤ 9223372036854775807) (hs1 : ns1 ≠ [] → Sl encZ 1 w w.heap.size A1 ns1) (hf1 : ∀ x ∈ ns1, fits x) (hl1 : ns1.length ≤ 9223372036854775807) (_hx2 : fits x2) :
    Calls Try.prog 4 #[.slice A0 ns0.length c0, .slice A1 ns1.length c1, .int .i64 x2] w fun e w' => e = .returned (.bool true) ∧ Below w.heap.size w w' := by
  have hmade := fun (W : World) (hW : Below w.heap.size w W) => made7_any x2 A0 c0 ns0 W (fun hne => ((hs0 hne).below hW).more hW.size) hl0
  have hsome := fun (W : World) (hW : Below w.heap.size w W) => some7_any A1 c1 ns1 x2 W (fun hne => ((hs1 hne).below hW).more hW.size) hf1 hl1
  obtain ⟨N0, hN0⟩ : ∃ N, N = ns0.length := ⟨_, rfl⟩
  obtain ⟨N1, hN1⟩ : ∃ N, N = ns1.length := ⟨_, rfl⟩
  rw [← hN0] at hmade ⊢
  rw [← hN1] at hsome ⊢
  have hlev := level7_any x2
  obtain ⟨hL1, hL3⟩ := levP_bound x2
  obtain ⟨L, hL⟩ : ∃ L, L = levP x2 := ⟨_, rfl⟩
  rw [← hL] at hmade hlev hL1 hL3
  have H0 := hide (And.intro hmade (And.intro hsome (And.intro hlev (And.intro hL1 hL3))))
  clear hmade hsome hlev hL1 hL3 hL hs0 hl0 hN0 hs1 hf1 hl1 hN1
  go_enter Try.func4, Try.ntmps4
  go_wp2_with fail
  refine (sanity7_any w).mono ?_
  rintro e w1 ⟨rfl, hB1⟩
  have H1 := hide hB1
  clear hB1
  go_wp2_with fail
  refine (H0.out.1 w1 H1.out).mono ?_
  rintro e w2 ⟨g, F, rfl, hr, hg, hout, hB2⟩
  obtain ⟨m, hm⟩ : ∃ m, m = F.length := ⟨_, rfl⟩
  rw [← hm]
  have H2 := hide (And.intro hr (And.intro hm (And.intro hout (H1.out.trans (hB2.mono H1.out.size)))))
  clear hr hg hout hB2 hm
  go_wp2_with fail
  refine (edges7_any L g H0.out.2.2.2.1 H0.out.2.2.2.2 F m H2.out.2.1 H2.out.2.2.1.1 w2 H2.out.1).mono ?_
  rintro e w3 ⟨A3, c3, rfl, ho3, hB3⟩
  obtain ⟨el, hel⟩ : ∃ el, el = edgL F (2 ^ L + 1) := ⟨_, rfl⟩
  obtain ⟨N3, hN3⟩ : ∃ N, N = el.length := ⟨_, rfl⟩
  rw [← hel, ← hN3] at ho3
  rw [← hel, ← hN3]
  have hm729 : m ≤ 729 ∧ 2 ^ L ≤ 8 ∧ m = (2 ^ L + 1) * (2 ^ L + 1) * (2 ^ L + 1) := by
    have h1 := H2.out.2.2.1.1
    rw [← H2.out.2.1] at h1
    have h2 := H0.out.2.2.2
    have hc : L = 1 ∨ L = 2 ∨ L = 3 := by omega
    rcases hc with rfl | rfl | rfl <;> (refine ⟨?_, by decide, h1⟩; rw [h1]; decide)
  have hfl : ∀ e ∈ el, fitsF e := by rw [hel]; exact edgP_fits (by omega)
  have hN30 : N3 ≤ 2916 := by have h : N3 ≤ 4 * m := by rw [hN3, hel]; exact edgL_few hm729.2.2
                              omega
  have HE := hide (And.intro hN3 (And.intro hfl (H2.out.2.2.2.trans (hB3.mono H2.out.2.2.2.size))))
  have HO := hide ho3
  have h23 := hB3.size
  clear hN3 hel hfl hm729 hB3 ho3
  go_wp2_with fail
  refine (H0.out.2.1 w3 HE.out.2.2).mono ?_
  rintro e w4 ⟨v4, es, rfl, hown, hlen, hes, hB4⟩
  obtain ⟨A4, c4, rfl⟩ := hown.form
  have h34 := hB4.size
  have hb4 : w2.heap.size ≤ w4.heap.size := by omega
  have ho4 := HO.out.below hB4 (Nat.le_refl _)
  have hs4 := hown.sl encF_len (Nat.le_refl _)
  have hmx : N3 + es.length ≤ maxLen := by unfold maxLen; omega
  have hmb : (N3 + es.length) * 32 ≤ 140737488355328 := by omega
  have H4 := hide (And.intro ho4 (And.intro hs4 (And.intro hlen (And.intro (some_list hes) (HE.out.2.2.trans (hB4.mono HE.out.2.2.size))))))
  clear hown hlen hes hB4 ho4 hs4
  go_wp2_with (at_builtin; refine wpList_appendS rfl _ _ _ rfl Try.underlying25 infoEd rfl (by omega) encF_len encF_one rfl H4.out.1 A4 c4 w4.heap.size es rfl H4.out.2.1 hmx hmb hb4 ?_; intro v7 U7 ho7 hg7 hB7 hat7; obtain ⟨N7, hN7⟩ : ∃ n7, n7 = N3 + es.length := ⟨_, rfl⟩; rw [← hN7] at ho7; have HN7 := hide hN7; clear hN7; obtain ⟨A7, c7, rfl⟩ := ho7.form)
  refine (H0.out.2.2.1 U7).mono ?_
  rintro e w5 ⟨rfl, hw3⟩
  obtain rfl : U7 = w5 := hw3.symm
  have hN7 : N7 = (el ++ es).length := by rw [HN7.out, List.length_append, ← HE.out.1]
  have hl7 : (el ++ es).length ≤ 10000 := by have h := H4.out.2.2.1; rw [← hN7, HN7.out]; omega
  have hf7 : ∀ e ∈ el ++ es, fitsF e := fun e he => (List.mem_append.1 he).elim (HE.out.2.1 e) (H4.out.2.2.2.1 e)
  have hb7 : Below w.heap.size w U7 := H4.out.2.2.2.2.trans (hB7.mono (by have := H2.out.2.2.2.size; omega))
  have H7 := hide (And.intro hN7 (And.intro hl7 (And.intro hf7 (And.intro hb7 (ho7.sl encF_len (Nat.le_refl _))))))
  clear hN7 hl7 hf7 hb7 ho7 hg7 hB7 hat7
  go_wp2_with fail
  refine (agrees7_any H0.out.2.2.2.1 H0.out.2.2.2.2 N7 A7 c7 (el ++ es) H7.out.1 U7 H7.out.2.2.2.2 H7.out.2.1 H7.out.2.2.1).mono ?_
  rintro e w6 ⟨rfl, hB6⟩
  have HZ := hide (H7.out.2.2.2.1.trans (hB6.mono H7.out.2.2.2.1.size))
  clear hB6
  go_wp2_with fail
  go_ret
  exact ⟨rfl, HZ.out⟩
end Go.Proofs.Ytdpgohpbannfnaa
