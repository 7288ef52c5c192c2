/- SealBorder: the walk (printed by mk_S9E.py). -/
import Derived.Test.YtdpgohpbannfnaaCS9K
namespace Go.Proofs.Ytdpgohpbannfnaa
open Go.RowKit Go.Sort Go.WideMaps Go.Maps
theorem inn_x0 {n : Int} {a : Int} {q : Int × Int} (h : a ≠ 0) : innE n (a, 0, q) = false := by unfold innE; simp [h]
theorem inn_z0 {n : Int} {a x y : Int} (h : a ≠ 2) : innE n (a, x, y, 0) = false := by unfold innE; simp [h]
theorem inn_yn {n : Int} {a x z : Int} : innE n (a, x, n, z) = false := by unfold innE; simp
/-- The list with the edges at the border, so far. -/
structure BrdS (n : Int) (es ys : List EF) (k : Nat) : Prop where
  same : ys.filter (innE n) = (es.take k).filter (innE n)
  few : ys.length ≤ 2 * k
  fit : ∀ e ∈ ys, fitsF e
theorem BrdS.one {n : Int} {es ys : List EF} {k : Nat} {e : EF} (h : BrdS n es ys k) (he : es[k]? = some e) (hf : fitsF e) : BrdS n es (ys ++ [e]) (k + 1) := by
  refine ⟨?_, ?_, ?_⟩
  · rw [List.take_add_one, he, List.filter_append, List.filter_append, h.same]; rfl
  · rw [List.length_append]; have := h.few; simp; omega
  · intro x hx
    rcases List.mem_append.1 hx with hx | hx
    · exact h.fit x hx
    · rw [List.mem_singleton.1 hx]; exact hf
theorem BrdS.two {n : Int} {es ys : List EF} {k : Nat} {e z : EF} (h : BrdS n es ys k) (he : es[k]? = some e) (hf : fitsF e) (hz : innE n z = false) (hzf : fitsF z) : BrdS n es (ys ++ [e] ++ [z]) (k + 1) := by
  have h1 := h.one he hf
  refine ⟨?_, ?_, ?_⟩
  · rw [List.filter_append, h1.same, List.filter_cons_of_neg (by rw [hz]; simp), List.filter_nil, List.append_nil]
  · have := h.few; simp; omega
  · intro x hx
    rcases List.mem_append.1 hx with hx | hx
    · exact h1.fit x hx
    · rw [List.mem_singleton.1 hx]; exact hzf
theorem some_list {es : List EF} (h : someL es) : ∀ e ∈ es, fitsF e := fun e he => (h e he).fits
theorem fitsF_some {e : EF} (h : someE e) : fitsF e := h.fits
theorem cells_at7 {B tb oo : Nat} {V U : World} {a b c d : Value} (h : Below B V U) (ht : tb < B) (g0 : V.cell? ⟨tb, oo, none⟩ = some a) (g1 : V.cell? ⟨tb, oo + 1, none⟩ = some b) (g2 : V.cell? ⟨tb, oo + 2, none⟩ = some c) (g3 : V.cell? ⟨tb, oo + 3, none⟩ = some d) : U.cell? ⟨tb, oo, none⟩ = some a ∧ U.cell? ⟨tb, oo + 1, none⟩ = some b ∧ U.cell? ⟨tb, oo + 2, none⟩ = some c ∧ U.cell? ⟨tb, oo + 3, none⟩ = some d :=
  ⟨(h.cell (p := ⟨tb, oo, none⟩) ht).trans g0, (h.cell (p := ⟨tb, oo + 1, none⟩) ht).trans g1, (h.cell (p := ⟨tb, oo + 2, none⟩) ht).trans g2, (h.cell (p := ⟨tb, oo + 3, none⟩) ht).trans g3⟩
theorem fitsI {x : Int} (h : -1000 ≤ x ∧ x ≤ 1000) : fits x := by unfold fits; omega
theorem sameField_as (m : Nat) (L : Int) (g1 g2 c1 c2 : Nat) (F : List Bool) (w : World) (h1 : RowB w g1 F) (h2 : RowB w g2 F) (hm : m = F.length) (hl : F.length ≤ 100000000) :
    Calls Try.prog 19 #[.agg #[.int .i64 L, .slice (some ⟨g1, 0, none⟩) m c1], .agg #[.int .i64 L, .slice (some ⟨g2, 0, none⟩) m c2]] w fun e w' => e = .returned (.bool true) ∧ Below w.heap.size w w' := by
  subst hm
  exact sameField_true L g1 g2 c1 c2 F w h1 h2 hl
theorem pchs_few {n : Nat} {l : List EF} (h : l.length ≤ 10000) : (pchsP n l).length ≤ 100000000 := by
  unfold pchsP
  rw [List.length_map]
  refine Nat.le_trans (parts_few _) (Nat.le_trans (odd_few n l) (by omega))
theorem pchs_fit {n : Nat} (hn : n ≤ 256) (l : List EF) : ∀ p ∈ pchsP n l, fitsPch p := by
  intro p hp
  unfold pchsP at hp
  obtain ⟨P, hP, rfl⟩ := List.mem_map.1 hp
  obtain ⟨hg, hne, _⟩ := part_facts (n := n) (E := givE (n : Int) l) hP
  have h5 := bestN_le (sizD n P) 5
  have h6 := cntE_few n hn (patE n (dirP n P) P)
  obtain ⟨f, P', rfl⟩ := List.exists_cons_of_ne_nil hne
  have hf := hg f (by simp)
  unfold grdF at hf
  unfold pchP fitsPch fitsF fitsP
  unfold dirP sizD at *
  simp only [List.headD_cons]
  generalize bestN (fun d => cntE (n + 1) (patE (n : Int) d (f :: P'))) 5 = d at *
  generalize cntE (n + 1) (patE (n : Int) d (f :: P')) = c at *
  unfold fits
  omega
/-- Whether a vertex lies at the border, as a walk has it. -/
def BdB (n a b c : Nat) (v : Value) : Prop := ∃ t : Bool, v = .bool t ∧ (t = true → bdV n a b c = true)
theorem border_bool {n s a b c : Nat} (hs : s = n + 1) : (((min (min (a : Int) (b : Int)) (c : Int)) == 0) || (max (max (a : Int) (b : Int)) (c : Int)) == (s : Int) - 1) = true → (a < s ∧ b < s ∧ c < s) → bdV n a b c = true := by
  intro h hb
  simp only [Bool.or_eq_true, beq_iff_eq] at h
  unfold bdV
  rw [decide_eq_true_eq]
  omega
set_option maxRecDepth 100000 in
set_option maxHeartbeats 32000000 in
theorem border7_walk (A0 : Option Addr) (c0 : Nat) (ns0 : List Int) (x1 : Int) (w : World) (hs0 : ns0 ≠ [] → Sl encZ 1 w w.heap.size A0 ns0) (hf0 : ∀ x ∈ ns0, fits x) (hl0 : ns0.length ≤ 9223372036854775807) (_hx1 : fits x1) :
    Calls Try.prog 7 #[.slice A0 ns0.length c0, .int .i64 x1] w fun e w' => e = .returned (.bool true) ∧ Below w.heap.size w w' := by
  have hsome := fun (W : World) (hW : Below w.heap.size w W) => some7_any A0 c0 ns0 x1 W (fun hne => ((hs0 hne).below hW).more hW.size) hf0 hl0
  obtain ⟨N0, hN0⟩ : ∃ N, N = ns0.length := ⟨_, rfl⟩
  rw [← hN0] at hsome ⊢
  have hlev := level7_any x1
  obtain ⟨hL1, hL3⟩ := levP_bound x1
  obtain ⟨L, hL⟩ : ∃ L, L = levP x1 := ⟨_, rfl⟩
  rw [← hL] at hlev hL1 hL3
  have hL8 : 1 ≤ (L : Int) ∧ (L : Int) ≤ 8 := by omega
  have hL8n : L ≤ 8 := by omega
  have hsd := side7_any (L : Int)
  rw [sideP_in hL8, Int.toNat_natCast] at hsd
  obtain ⟨n, s, q, m, hn, hs, hm, ⟨hs3, hs9, hm7⟩, hw1, hw2⟩ := lev_nums3 hL1 hL3
  rw [← hn, ← hs] at hsd
  have HN := hide (And.intro hn (And.intro hs (And.intro hm (And.intro hL1 hL8n))))
  have H0 := hide (And.intro hsome (And.intro hlev hsd))
  have HW := hide (And.intro hw1 hw2)
  clear hsome hlev hsd hn hs hm hL1 hL3 hL8 hL8n hL hs0 hf0 hl0 hN0 hw1 hw2
  go_enter Try.func7, Try.ntmps7
  go_wp2_with fail
  refine (sanity7_any w).mono ?_
  rintro e w1 ⟨rfl, hB1⟩
  have H1 := hide hB1
  clear hB1
  go_wp2_with fail
  refine (H0.out.1 w1 H1.out).mono ?_
  rintro e w3 ⟨v2, es, rfl, hown, hlen, hes, hB2⟩
  obtain ⟨A2, c2, rfl⟩ := hown.form
  obtain ⟨N2, hN2⟩ : ∃ N, N = es.length := ⟨_, rfl⟩
  rw [← hN2] at hown hlen ⊢
  have H2 := hide (And.intro (hown.sl encF_len (Nat.le_refl _)) (And.intro hN2 (And.intro hlen (And.intro (some_list hes) (And.intro (H1.out.trans (hB2.mono H1.out.size)) hes)))))
  have hN30 : N2 ≤ 30 := hlen
  clear hown hN2 hlen hes hB2
  go_wp2_with fail
  refine (H0.out.2.1 w3).mono ?_
  rintro e w2 ⟨rfl, hw3⟩
  obtain rfl : w3 = w2 := hw3.symm
  go_wp2_with fail
  refine (H0.out.2.2 w3).mono ?_
  rintro e w2 ⟨rfl, hw3⟩
  obtain rfl : w3 = w2 := hw3.symm
  go_wp2_with fail
  go_loopw [8, 9] (fun ov iv wr => ∃ (k : Nat) (ys : List EF), k ≤ N2 ∧ iv = .int .i64 k ∧ Own encF 4 44 wr w3.heap.size ov ys.length ys ∧ BrdS (n : Int) es ys k ∧ Below w3.heap.size w3 wr) (fun _ iv _ => N2 - (intOf iv).toNat)
  case atStart => exact ⟨0, [], by omega, rfl, Own.nil, ⟨rfl, by simp, fun e he => by cases he⟩, Below.refl _ _⟩
  case round =>
    obtain ⟨k, ys, hk, rfl, hown, hbr, hB⟩ := hrel
    obtain ⟨V, rfl⟩ : ∃ V, V = wr := ⟨_, rfl⟩
    obtain ⟨M1, hM1⟩ : ∃ M, M = ys.length := ⟨_, rfl⟩
    rw [← hM1] at hown
    have HV := hide (And.intro hown (And.intro hbr (And.intro hB hM1)))
    have hM60 : M1 ≤ 60 := by rw [hM1]; have := hbr.few; omega
    clear hown hbr hB hM1
    by_cases hkM : k < N2
    · have i1 : (k : Int) < (N2 : Int) := by omega
      obtain ⟨e, he⟩ : ∃ e, es[k]? = some e := ⟨_, List.getElem?_eq_getElem (by rw [← H2.out.2.1]; exact hkM)⟩
      have hse : someE e := H2.out.2.2.2.2.2 e (List.mem_of_getElem? he)
      obtain ⟨tb, oo, hA, htb, g0, g1, g2, g3⟩ := (H2.out.1.below HV.out.2.2.1).four he
      subst hA
      have HE := hide (And.intro he (And.intro hse (fitsF_some hse)))
      obtain ⟨ea, ex, ey, ez⟩ := e
      unfold someE at hse
      dsimp only at hse g0 g1 g2 g3
      obtain ⟨⟨e1, e2⟩, ⟨e3, e4⟩, ⟨e5, e6⟩, e7, e8⟩ := hse
      clear he
      have hwV := HV.out.2.2.1.size
      go_upto_region 9 with (at_builtin; refine wpList_append1 rfl _ _ _ rfl Try.underlying25 infoEd rfl (by omega) encF_len encF_one rfl (HV.out.1.alloc _) V.heap.size 1 (ea, (ex, ey, ez)) rfl (Blk.new _ _ _) (by unfold maxLen; omega) (by omega) (by simp; omega) ?_; intro gp cap U ho7 hg7 hB7 hat7 hgb7 hlt7; have hVU := ((Below.refl w3.heap.size V).alloc hwV _).trans hB7; obtain ⟨q0, q1, q2, q3⟩ := cells_at7 hVU htb g0 g1 g2 g3)
      have HU := hide (And.intro ho7 (HV.out.2.2.1.trans hVU))
      have hUs := hVU.size
      clear ho7 hg7 hB7 hat7 hVU g0 g1 g2 g3
      go_upto_region 10 with fail
      obtain ⟨Y, hY⟩ : ∃ Y, Y = U.alloc (.cells #[.int .i64 ea, .int .i64 ex, .int .i64 ey, .int .i64 ez] 44) := ⟨_, rfl⟩
      rw [← hY]
      have hbY : Blk Y U.heap.size 44 #[.int .i64 ea, .int .i64 ex, .int .i64 ey, .int .i64 ez] := by rw [hY]; exact Blk.new _ _ _
      have hBY : Below U.heap.size U Y := by rw [hY]; exact (Below.refl _ U).alloc (Nat.le_refl _) _
      have hzY : Y.heap.size = U.heap.size + 1 := by rw [hY]; simp
      have hoY := HU.out.1.below hBY (Nat.le_refl _)
      have hbk : ∀ r, (Value.slice (some ⟨gp, 0, none⟩) (M1 + 1) cap).ownBlock = some r → w3.heap.size ≤ r ∧ r < U.heap.size := HU.out.1.blk
      have HY := hide (And.intro hbY (And.intro hoY (And.intro (HU.out.2.trans (hBY.mono (by omega))) hbk)))
      obtain ⟨b0, b1, b2, b3⟩ := hbY.four
      have f1 := hbY.frozen 1
      have f2 := hbY.frozen 2
      have f3 := hbY.frozen 3
      clear hbY hBY hoY hbk hY q0 q1 q2 q3
      have hc : k % 3 = 0 ∨ k % 3 = 1 ∨ k % 3 = 2 := by omega
      rcases hc with hr | hr | hr
      · have r1 : (k : Int) % 3 = 0 := by omega
        have r2 : (k : Int).tmod 3 = 0 := by rw [Int.tmod_eq_emod_of_nonneg (by omega)]; exact r1
        have HR := hide hr
        clear hr
        go_upto_region 17 with fail
        obtain ⟨Z, hZ⟩ : ∃ Z, Z = Y.setCell ⟨U.heap.size, 1, none⟩ (.int .i64 (0)) := ⟨_, rfl⟩
        rw [← hZ]
        have hbZ : Blk Z U.heap.size 44 #[.int .i64 ea, .int .i64 0, .int .i64 ey, .int .i64 ez] := by rw [hZ]; exact HY.out.1.set_ 1 _
        have hoZ := HY.out.2.1.kept (grown_set7 Y U.heap.size 1 (.int .i64 (0))) (.inr fun e => by have := (HY.out.2.2.2 _ e).2; omega)
        have hBZ : Below w3.heap.size w3 (Y.setCell ⟨U.heap.size, 1, none⟩ (.int .i64 (0))) := HY.out.2.2.1.setCell (by dsimp only; omega) _
        rw [← hZ] at hoZ hBZ
        have hzZ : Z.heap.size = U.heap.size + 1 := by rw [hZ]; simp [hzY]
        clear b0 b1 b2 b3 f1 f2 f3 hZ
        obtain ⟨b0, b1, b2, b3⟩ := hbZ.four
        have HZ := hide (And.intro hbZ (And.intro hoZ hBZ))
        clear hbZ hoZ hBZ
        by_cases hax : ¬ ea = 0 ∧ ea < 3
        · obtain ⟨x1a, x2a⟩ := hax
          go_wp2_with (at_builtin; refine wpList_append1 rfl _ _ _ rfl Try.underlying25 infoEd rfl (by omega) encF_len encF_one rfl (HZ.out.2.1.alloc _) (U.heap.size + 1) 1 (ea, (0, ey, ez)) rfl (Blk.new' _ _ _ _ hzZ.symm) (by unfold maxLen; omega) (by omega) (by simp; omega) ?_; intro gp2 cap2 U2 ho8 hg8 hB8 hat8 hgb8 hlt8)
          go_roundw
          case rel =>
            refine ⟨k + 1, ys ++ [(ea, (ex, ey, ez))] ++ [(ea, (0, ey, ez))], by omega, by go_num, ?_, HV.out.2.1.two HE.out.1 HE.out.2.2 ?_ ?_, HZ.out.2.2.trans (((Below.refl w3.heap.size Z).alloc (by omega) _).trans hB8)⟩
            · rw [List.length_append, List.length_append, ← HV.out.2.2.2]; exact ho8
            · exact inn_x0 x1a
            · unfold fitsF fitsP; refine ⟨?_, ?_, ?_, ?_⟩ <;> exact fitsI (by dsimp only; omega)
          case measure => simp [intOf]; omega
        · by_cases hx1 : ea = 0
          · go_wp2_with fail
            go_roundw
            case rel =>
              refine ⟨k + 1, ys ++ [(ea, (ex, ey, ez))], by omega, by go_num, ?_, HV.out.2.1.one HE.out.1 HE.out.2.2, HZ.out.2.2⟩
              rw [List.length_append, ← HV.out.2.2.2]; exact HZ.out.2.1
            case measure => simp [intOf]; omega
          · have hx3 : ea = 3 := by omega
            clear hax hx1
            go_wp2_with fail
            go_roundw
            case rel =>
              refine ⟨k + 1, ys ++ [(ea, (ex, ey, ez))], by omega, by go_num, ?_, HV.out.2.1.one HE.out.1 HE.out.2.2, HZ.out.2.2⟩
              rw [List.length_append, ← HV.out.2.2.2]; exact HZ.out.2.1
            case measure => simp [intOf]; omega
      · have r1 : (k : Int) % 3 = 1 := by omega
        have r2 : (k : Int).tmod 3 = 1 := by rw [Int.tmod_eq_emod_of_nonneg (by omega)]; exact r1
        have HR := hide hr
        clear hr
        go_upto_region 17 with fail
        obtain ⟨Z, hZ⟩ : ∃ Z, Z = Y.setCell ⟨U.heap.size, 2, none⟩ (.int .i64 ((s : Int) - 1)) := ⟨_, rfl⟩
        rw [← hZ]
        have hbZ : Blk Z U.heap.size 44 #[.int .i64 ea, .int .i64 ex, .int .i64 ((s : Int) - 1), .int .i64 ez] := by rw [hZ]; exact HY.out.1.set_ 2 _
        have hoZ := HY.out.2.1.kept (grown_set7 Y U.heap.size 2 (.int .i64 ((s : Int) - 1))) (.inr fun e => by have := (HY.out.2.2.2 _ e).2; omega)
        have hBZ : Below w3.heap.size w3 (Y.setCell ⟨U.heap.size, 2, none⟩ (.int .i64 ((s : Int) - 1))) := HY.out.2.2.1.setCell (by dsimp only; omega) _
        rw [← hZ] at hoZ hBZ
        have hzZ : Z.heap.size = U.heap.size + 1 := by rw [hZ]; simp [hzY]
        clear b0 b1 b2 b3 f1 f2 f3 hZ
        obtain ⟨b0, b1, b2, b3⟩ := hbZ.four
        have HZ := hide (And.intro hbZ (And.intro hoZ hBZ))
        clear hbZ hoZ hBZ
        by_cases hax : ¬ ea = 1 ∧ ea < 3
        · obtain ⟨x1a, x2a⟩ := hax
          go_wp2_with (at_builtin; refine wpList_append1 rfl _ _ _ rfl Try.underlying25 infoEd rfl (by omega) encF_len encF_one rfl (HZ.out.2.1.alloc _) (U.heap.size + 1) 1 (ea, (ex, ((s : Int) - 1), ez)) rfl (Blk.new' _ _ _ _ hzZ.symm) (by unfold maxLen; omega) (by omega) (by simp; omega) ?_; intro gp2 cap2 U2 ho8 hg8 hB8 hat8 hgb8 hlt8)
          go_roundw
          case rel =>
            refine ⟨k + 1, ys ++ [(ea, (ex, ey, ez))] ++ [(ea, (ex, ((s : Int) - 1), ez))], by omega, by go_num, ?_, HV.out.2.1.two HE.out.1 HE.out.2.2 ?_ ?_, HZ.out.2.2.trans (((Below.refl w3.heap.size Z).alloc (by omega) _).trans hB8)⟩
            · rw [List.length_append, List.length_append, ← HV.out.2.2.2]; exact ho8
            · rw [show ((s : Int) - 1) = (n : Int) by have := HN.out.2.1; omega]; exact inn_yn
            · unfold fitsF fitsP; refine ⟨?_, ?_, ?_, ?_⟩ <;> exact fitsI (by dsimp only; omega)
          case measure => simp [intOf]; omega
        · by_cases hx1 : ea = 1
          · go_wp2_with fail
            go_roundw
            case rel =>
              refine ⟨k + 1, ys ++ [(ea, (ex, ey, ez))], by omega, by go_num, ?_, HV.out.2.1.one HE.out.1 HE.out.2.2, HZ.out.2.2⟩
              rw [List.length_append, ← HV.out.2.2.2]; exact HZ.out.2.1
            case measure => simp [intOf]; omega
          · have hx3 : ea = 3 := by omega
            clear hax hx1
            go_wp2_with fail
            go_roundw
            case rel =>
              refine ⟨k + 1, ys ++ [(ea, (ex, ey, ez))], by omega, by go_num, ?_, HV.out.2.1.one HE.out.1 HE.out.2.2, HZ.out.2.2⟩
              rw [List.length_append, ← HV.out.2.2.2]; exact HZ.out.2.1
            case measure => simp [intOf]; omega
      · have r1 : (k : Int) % 3 = 2 := by omega
        have r2 : (k : Int).tmod 3 = 2 := by rw [Int.tmod_eq_emod_of_nonneg (by omega)]; exact r1
        have HR := hide hr
        clear hr
        go_upto_region 17 with fail
        obtain ⟨Z, hZ⟩ : ∃ Z, Z = Y.setCell ⟨U.heap.size, 3, none⟩ (.int .i64 (0)) := ⟨_, rfl⟩
        rw [← hZ]
        have hbZ : Blk Z U.heap.size 44 #[.int .i64 ea, .int .i64 ex, .int .i64 ey, .int .i64 0] := by rw [hZ]; exact HY.out.1.set_ 3 _
        have hoZ := HY.out.2.1.kept (grown_set7 Y U.heap.size 3 (.int .i64 (0))) (.inr fun e => by have := (HY.out.2.2.2 _ e).2; omega)
        have hBZ : Below w3.heap.size w3 (Y.setCell ⟨U.heap.size, 3, none⟩ (.int .i64 (0))) := HY.out.2.2.1.setCell (by dsimp only; omega) _
        rw [← hZ] at hoZ hBZ
        have hzZ : Z.heap.size = U.heap.size + 1 := by rw [hZ]; simp [hzY]
        clear b0 b1 b2 b3 f1 f2 f3 hZ
        obtain ⟨b0, b1, b2, b3⟩ := hbZ.four
        have HZ := hide (And.intro hbZ (And.intro hoZ hBZ))
        clear hbZ hoZ hBZ
        by_cases hax : ¬ ea = 2 ∧ ea < 3
        · obtain ⟨x1a, x2a⟩ := hax
          go_wp2_with (at_builtin; refine wpList_append1 rfl _ _ _ rfl Try.underlying25 infoEd rfl (by omega) encF_len encF_one rfl (HZ.out.2.1.alloc _) (U.heap.size + 1) 1 (ea, (ex, ey, 0)) rfl (Blk.new' _ _ _ _ hzZ.symm) (by unfold maxLen; omega) (by omega) (by simp; omega) ?_; intro gp2 cap2 U2 ho8 hg8 hB8 hat8 hgb8 hlt8)
          go_roundw
          case rel =>
            refine ⟨k + 1, ys ++ [(ea, (ex, ey, ez))] ++ [(ea, (ex, ey, 0))], by omega, by go_num, ?_, HV.out.2.1.two HE.out.1 HE.out.2.2 ?_ ?_, HZ.out.2.2.trans (((Below.refl w3.heap.size Z).alloc (by omega) _).trans hB8)⟩
            · rw [List.length_append, List.length_append, ← HV.out.2.2.2]; exact ho8
            · exact inn_z0 x1a
            · unfold fitsF fitsP; refine ⟨?_, ?_, ?_, ?_⟩ <;> exact fitsI (by dsimp only; omega)
          case measure => simp [intOf]; omega
        · by_cases hx1 : ea = 2
          · go_wp2_with fail
            go_roundw
            case rel =>
              refine ⟨k + 1, ys ++ [(ea, (ex, ey, ez))], by omega, by go_num, ?_, HV.out.2.1.one HE.out.1 HE.out.2.2, HZ.out.2.2⟩
              rw [List.length_append, ← HV.out.2.2.2]; exact HZ.out.2.1
            case measure => simp [intOf]; omega
          · have hx3 : ea = 3 := by omega
            clear hax hx1
            go_wp2_with fail
            go_roundw
            case rel =>
              refine ⟨k + 1, ys ++ [(ea, (ex, ey, ez))], by omega, by go_num, ?_, HV.out.2.1.one HE.out.1 HE.out.2.2, HZ.out.2.2⟩
              rw [List.length_append, ← HV.out.2.2.2]; exact HZ.out.2.1
            case measure => simp [intOf]; omega
    · have i1 : ¬ (k : Int) < (N2 : Int) := by omega
      obtain ⟨A5, c5, rfl⟩ := HV.out.1.form
      have hgiv : givE (n : Int) ys = givE (n : Int) es := same_filter (by rw [HV.out.2.1.same, List.take_of_length_le (by rw [← H2.out.2.1]; omega)])
      have HG := hide (And.intro (same_fldP hgiv) (same_pchs hgiv))
      have hmm : m = (n + 1) * (n + 1) * (n + 1) := by rw [HN.out.2.2.1, HN.out.2.1]
      have HM := hide hmm
      clear hgiv hmm
      go_wp2_with fail
      refine (H0.out.2.1 V).mono ?_
      rintro e w4 ⟨rfl, hw3⟩
      obtain rfl : V = w4 := hw3.symm
      go_wp2_with fail
      obtain ⟨F, hF⟩ : ∃ F, F = fldP n es := ⟨_, rfl⟩
      obtain ⟨ps, hps⟩ : ∃ ps, ps = pchsP n es := ⟨_, rfl⟩
      obtain ⟨q4, hq4⟩ : ∃ q4, q4 = ps.length := ⟨_, rfl⟩
      have hpf : ∀ p ∈ ps, fitsPch p := by rw [hps]; exact pchs_fit (by have := HN.out.2.1; omega) es
      have hpl : ps.length ≤ 100000000 := by rw [hps]; exact pchs_few (by have := H2.out.2.1; omega)
      have HF := hide (And.intro hF (And.intro hps (And.intro hq4 (And.intro hpf hpl))))
      clear hpf hpl
      refine (Seal7_as (L := L) (n := n) (m := m) (k := N2) (q := q4) (l := es) (F := F) (ps := ps) (Lz := (L : Int)) HN.out.2.2.2.1 HN.out.2.2.2.2 rfl HN.out.1 HM.out H2.out.2.1 hF.symm hps.symm hq4 (by omega) H2.out.2.2.2.1 _ _ V (H2.out.1.below HV.out.2.2.1 |>.more HV.out.2.2.1.size)).mono ?_
      clear hF hps hq4
      rintro e w4 ⟨gi, A4, c4, rfl, hr4, hg4, ho4, hB4⟩
      have H4 := hide (And.intro hr4 (And.intro ho4 hB4))
      clear hr4 hg4 ho4 hB4
      go_upto_region 20 with fail
      obtain ⟨X1, hX1⟩ : ∃ X, X = w4.alloc (.cells #[.int .i64 (L : Int), .slice (some ⟨gi, 0, none⟩) m m] 32) := ⟨_, rfl⟩
      rw [← hX1]
      obtain ⟨hb, hB⟩ := box7 hX1
      have hB4 := H4.out.2.2.trans (hB.mono H4.out.2.2.size)
      have K1 := hide (And.intro hb (And.intro (H4.out.1.on hB) (And.intro ((H4.out.2.1.below hB (Nat.le_refl _)).sl encPch_len (Nat.le_refl _)) (And.intro ((HV.out.1.below hB4 (Nat.le_refl _)).sl encF_len (Nat.le_refl _)) (HV.out.2.2.1.trans (hB4.mono HV.out.2.2.1.size))))))
      clear hb hB hB4 hX1
      obtain ⟨n1, hn1⟩ : ∃ n, n = w4.heap.size := ⟨_, rfl⟩
      rw [← hn1] at K1 ⊢
      clear hn1
      go_wp2_with fail
      refine (H0.out.2.1 X1).mono ?_
      rintro e w5 ⟨rfl, hw3⟩
      obtain rfl : X1 = w5 := hw3.symm
      go_wp2_with fail
      refine (Seal7_as (L := L) (n := n) (m := m) (k := M1) (q := q4) (l := ys) (F := F) (ps := ps) (Lz := (L : Int)) HN.out.2.2.2.1 HN.out.2.2.2.2 rfl HN.out.1 HM.out HV.out.2.2.2 (HG.out.1.trans HF.out.1.symm) (HG.out.2.trans HF.out.2.1.symm) HF.out.2.2.1 (by omega) HV.out.2.1.fit A5 c5 X1 K1.out.2.2.2.1).mono ?_
      rintro e w5 ⟨gj, A6, c6, rfl, hr5, hg5, ho5, hB5⟩
      have H5 := hide (And.intro hr5 (And.intro ho5 hB5))
      clear hr5 hg5 ho5 hB5
      go_upto_region 21 with fail
      obtain ⟨X2, hX2⟩ : ∃ X, X = w5.alloc (.cells #[.int .i64 (L : Int), .slice (some ⟨gj, 0, none⟩) m m] 32) := ⟨_, rfl⟩
      rw [← hX2]
      obtain ⟨hb, hB⟩ := box7 hX2
      have hB5 := H5.out.2.2.trans (hB.mono H5.out.2.2.size)
      have K2 := hide (And.intro hb (And.intro (H5.out.1.on hB) (And.intro ((H5.out.2.1.below hB (Nat.le_refl _)).sl encPch_len (Nat.le_refl _)) (And.intro (K1.out.1.on hB5) (And.intro (K1.out.2.1.on hB5) (And.intro (K1.out.2.2.1.on hB5) (K1.out.2.2.2.2.trans (hB5.mono K1.out.2.2.2.2.size))))))))
      obtain ⟨n2, hn2⟩ : ∃ n, n = w5.heap.size := ⟨_, rfl⟩
      rw [← hn2] at K2 ⊢
      clear hb hB hB5 hX2 hn2
      obtain ⟨d0, d1⟩ := K2.out.2.2.2.1.two7
      obtain ⟨hw1, hw2⟩ := HW.out
      have HLV := hide H0.out.2.1
      go_quiet ((go_at_call 14; exact Calls.quiet_of_same (unhide HLV _)))
      clear hw1 hw2
      go_wp2_with fail
      go_loopw [15] (fun iv wr => ∃ j : Nat, j ≤ m ∧ iv = .int .i64 j ∧ Below X2.heap.size X2 wr) (fun iv _ => m - (intOf iv).toNat)
      case atStart => exact ⟨0, by omega, rfl, below_drewN (Below.refl _ X2) nq⟩
      case round =>
        obtain ⟨j, hj, rfl, hB⟩ := hrel
        obtain ⟨T0, rfl⟩ : ∃ T0, T0 = wr := ⟨_, rfl⟩
        clear d0 d1
        have hbt := K2.out.2.2.2.1.on hB
        have hrt := K2.out.2.2.2.2.1.on hB
        obtain ⟨d0, d1⟩ := hbt.two7
        have HT := hide (And.intro hbt (And.intro hrt hB))
        clear hbt hrt hB
        by_cases hjm : j < m
        · have i2 : (j : Int) < (m : Int) := by omega
          have hs0 : 0 < s := by omega
          obtain ⟨kx, kq, ky, kz, ⟨v1, v2, v3, v4⟩, t0, t1, t2, t3, ⟨z1, z2, z3, z4⟩, u0, u1, u2, u3⟩ := vtx_nums hs0 (Nat.le_trans hs9 (by decide)) (by rw [← HN.out.2.2.1]; exact hjm)
          have hs0n : ¬ s = 0 := by omega
          obtain ⟨b, hb⟩ : ∃ b, F[j]? = some b := ⟨_, List.getElem?_eq_getElem (by rw [HF.out.1, fldP_len, ← HM.out]; exact hjm)⟩
          have hbd : b = true → bdV n kx ky kz = false := by
            rintro rfl
            rw [HF.out.1] at hb
            have := fldP_in hb
            rw [← HN.out.2.1, ← v1, ← v2, ← v3] at this
            exact this
          have eF := HT.out.2.1.cell hb
          have HJ := hide hbd
          have HBk := hide hb
          clear hbd hb v1 v2 v3 v4
          go_wp2_with fail
          refine wp_region_mix (fun _ => True) [0, 1, 2, 3, 4, 5, 6, 7, 8, 9, 10, 11, 12, 13] [0, 1, 2, 3, 4, 5, 6, 7, 8, 9, 10, 11, 12, 13, 14, 15] mixed_ok (by kernel_rfl) ?_
          refine wpMix_q (v := .int .i64 j) rfl rfl (fun _ _ _ h => h) trivial ⟨rfl, fun _ _ => by simp [go_sem]⟩ ?_
          refine wpMix_q (v := .int .i64 s) rfl rfl (fun _ _ _ h => h) trivial ⟨rfl, fun _ _ => by simp [go_sem]⟩ ?_
          refine wpMix_q (v := .int .i64 kx) rfl rfl (fun _ _ _ h => h) trivial ⟨rfl, fun _ _ => by simp [go_sem, t0, hs0n]⟩ ?_
          refine wpMix_q (v := .int .i64 j) rfl rfl (fun _ _ _ h => h) trivial ⟨rfl, fun _ _ => by simp [go_sem]⟩ ?_
          refine wpMix_q (v := .int .i64 s) rfl rfl (fun _ _ _ h => h) trivial ⟨rfl, fun _ _ => by simp [go_sem]⟩ ?_
          simp only [List.getElem_toArray, List.getElem_cons_succ, List.getElem_cons_zero, Act.put, List.setIfInBounds_toArray, List.set_cons_succ, List.set_cons_zero]
          refine wpMix_q (v := .int .i64 kq) rfl rfl (fun _ _ _ h => h) trivial ⟨rfl, fun _ _ => by simp [go_sem, t1, hs0n, u1]⟩ ?_
          refine wpMix_q (v := .int .i64 s) rfl rfl (fun _ _ _ h => h) trivial ⟨rfl, fun _ _ => by simp [go_sem]⟩ ?_
          refine wpMix_q (v := .int .i64 ky) rfl rfl (fun _ _ _ h => h) trivial ⟨rfl, fun _ _ => by simp [go_sem, t2, hs0n]⟩ ?_
          refine wpMix_q (v := .int .i64 j) rfl rfl (fun _ _ _ h => h) trivial ⟨rfl, fun _ _ => by simp [go_sem]⟩ ?_
          refine wpMix_q (v := .int .i64 s) rfl rfl (fun _ _ _ h => h) trivial ⟨rfl, fun _ _ => by simp [go_sem]⟩ ?_
          simp only [List.getElem_toArray, List.getElem_cons_succ, List.getElem_cons_zero, Act.put, List.setIfInBounds_toArray, List.set_cons_succ, List.set_cons_zero]
          refine wpMix_q (v := .int .i64 kq) rfl rfl (fun _ _ _ h => h) trivial ⟨rfl, fun _ _ => by simp [go_sem, t1, hs0n, u1]⟩ ?_
          refine wpMix_q (v := .int .i64 s) rfl rfl (fun _ _ _ h => h) trivial ⟨rfl, fun _ _ => by simp [go_sem]⟩ ?_
          refine wpMix_q (v := .int .i64 kz) rfl rfl (fun _ _ _ h => h) trivial ⟨rfl, fun _ _ => by simp [go_sem, t3, hs0n, u3]⟩ ?_
          refine wpMix_q (v := .agg #[.int .i64 kx, .int .i64 ky, .int .i64 kz]) rfl rfl (fun _ _ _ h => h) trivial ⟨rfl, fun _ _ => by simp [go_sem]⟩ ?_
          refine wpMix_n rfl rfl ?_
          go_wp2_with fail
          refine ⟨fun _ => trivial, ?_⟩
          refine wpMix_n rfl rfl ?_
          go_wp2_with fail
          refine ⟨fun _ => trivial, ?_⟩
          refine wpMix_nil ?_
          go_upto_region 27 with fail
          obtain ⟨T, hT⟩ : ∃ T, T = (T0.alloc (.cells #[.int .i64 kx, .int .i64 ky, .int .i64 kz] 42)).drew := ⟨_, rfl⟩
          rw [← hT]
          have hBT : Below T0.heap.size T0 T := by rw [hT]; exact ((Below.refl _ T0).alloc (Nat.le_refl _) _).drew
          have hpT : Blk T T0.heap.size 42 #[.int .i64 kx, .int .i64 ky, .int .i64 kz] := by rw [hT]; exact Blk.new T0 _ _
          clear d0 d1 eF hT t0 t1 t2 t3 u0 u1 u2 u3
          obtain ⟨d0, d1⟩ := (HT.out.1.on hBT).two7
          obtain ⟨c0x, c1x, c2x⟩ := hpT.three
          have HTT := hide (And.intro hBT (HT.out.2.1.on hBT))
          clear hBT hpT
          go_cut [17] (fun v wx => BdB n kx ky kz v ∧ wx = T)
          case first =>
            go_wp2_with fail
            all_goals (
              go_meet
              case rel =>
                refine ⟨⟨_, rfl, fun h => ?_⟩, rfl⟩
                have hsn := HN.out.2.1
                try simp only [Bool.or_eq_true, beq_iff_eq] at h
                unfold bdV
                rw [decide_eq_true_eq]
                omega)
          case rest =>
            obtain ⟨⟨tb2, rfl, hbd⟩, hwc⟩ := hcut
            obtain rfl : T = wc := hwc.symm
            cases b with
            | false =>
              have eF := HTT.out.2.cell HBk.out
              go_wp2_with fail
              go_roundw
              case rel => exact ⟨j + 1, by omega, by go_num, HT.out.2.2.trans (HTT.out.1.mono HT.out.2.2.size)⟩
              case measure => simp [intOf]; omega
            | true =>
              have htb : tb2 = false := by
                cases htb : tb2 with
                | false => rfl
                | true => rw [hbd htb] at HJ; cases HJ.out rfl
              subst htb
              have eF := HTT.out.2.cell HBk.out
              go_wp2_with fail
              go_roundw
              case rel => exact ⟨j + 1, by omega, by go_num, HT.out.2.2.trans (HTT.out.1.mono HT.out.2.2.size)⟩
              case measure => simp [intOf]; omega
        · have i2 : ¬ (j : Int) < (m : Int) := by omega
          have hB2 := K2.out.1.on HT.out.2.2
          obtain ⟨e0, e1⟩ := hB2.two7
          have hsf := sameField_as m (L : Int) gi gj m m F T0 HT.out.2.1 (K2.out.2.1.on HT.out.2.2) (by rw [HF.out.1, fldP_len, ← HM.out]) (by rw [HF.out.1, fldP_len, ← HM.out]; omega)
          have hps1 := K2.out.2.2.2.2.2.1.on HT.out.2.2
          have hps2 := K2.out.2.2.1.on HT.out.2.2
          have HS := hide (And.intro hsf (And.intro hps1 (And.intro hps2 (HT.out.2.2))))
          clear hsf hps1 hps2 hB2
          go_wp2_with fail
          refine HS.out.1.mono ?_
          rintro e w7 ⟨rfl, hB7⟩
          have H7 := hide (And.intro (HS.out.2.1.on hB7) (And.intro (HS.out.2.2.1.on hB7) (HS.out.2.2.2.trans (hB7.mono HS.out.2.2.2.size))))
          clear hB7
          go_wp2_with fail
          refine (samePatches_as q4 ps HF.out.2.2.1 _ _ _ _ _ _ _ H7.out.1 H7.out.2.1 HF.out.2.2.2.2 HF.out.2.2.2.1).mono ?_
          rintro e w8 ⟨rfl, q8, rfl⟩
          go_wp2_with fail
          go_ret
          exact ⟨rfl, below_drewN (H2.out.2.2.2.2.1.trans ((K2.out.2.2.2.2.2.2.trans (H7.out.2.2.mono K2.out.2.2.2.2.2.2.size)).mono H2.out.2.2.2.2.1.size)) q8⟩
end Go.Proofs.Ytdpgohpbannfnaa
