/- ContourCrossings: the walk (printed by mk_CrossW.py). -/
import Derived.Test.YtfljcgehhnmamaaCCrsW
import Derived.Test.YtfljcgehhnmamaaCFieldA
namespace Go.Proofs.Ytfljcgehhnmamaa
open Go.RowKit Go.Sort
theorem count_succ {α : Type} {f : α → Bool} {l : List α} {k : Nat} {x : α} (h : l[k]? = some x) : (l.take (k + 1)).countP f = (l.take k).countP f + if f x = true then 1 else 0 := by
  rw [List.take_add_one, h, Option.toList_some, List.countP_append, List.countP_singleton]
set_option maxRecDepth 100000 in
set_option maxHeartbeats 32000000 in
theorem cross_walk (x0 : Nat) (A1 : Option Addr) (c1 : Nat) (ns1 : List Int) (w : World) (hx0 : x0 < 256) (hs1 : ns1 ≠ [] → Sl encZ 1 w w.heap.size A1 ns1) (hf1 : ∀ x ∈ ns1, fits x) (hl1 : ns1.length ≤ 9223372036854775807) :
    Calls Try.prog 6 #[.int .u8 x0, .slice A1 ns1.length c1] w fun e w' => e = .returned (.bool true) ∧ Below w.heap.size w w' := by
  have hfd := fun W (hW : Below w.heap.size w W) => lfield_any x0 hx0 A1 c1 ns1 W (fun hne => ((hs1 hne).below hW).more hW.size) hf1 hl1
  obtain ⟨nl, hnl⟩ : ∃ nl, nl = ns1.length := ⟨_, rfl⟩
  rw [← hnl] at hfd ⊢
  have HF := hide hfd
  clear hfd hs1 hf1 hl1 hnl
  obtain ⟨l, hl⟩ : ∃ l, l = lvlP x0 := ⟨_, rfl⟩
  have hl13 : 1 ≤ l ∧ l ≤ 3 := by rw [hl]; exact lvl_b x0
  rw [← hl] at HF
  clear hl
  go_enter Try.func6, Try.ntmps6
  go_wp2_with fail
  refine (sanity8_any w).mono ?_
  rintro e w1 ⟨rfl, hB1⟩
  have hz1 := hB1.size
  have HB1 := hide hB1
  clear hB1
  go_wp2_with fail
  refine (HF.out w1 HB1.out).mono ?_
  rintro e w2 ⟨gF, F, rfl, hb, hg, hv, hB2⟩
  have hz2 := hB2.size
  have hgFl := hb.lt
  obtain ⟨hlen, _⟩ := valid_parts hv
  have hlaw := cross_law hl13.1 hl13.2 hv
  have hrng : ∀ p ∈ cornersP (contourP l F), rangeP p := fun p hp => by
    obtain ⟨t, ht, hc⟩ := cornersP_mem.1 hp
    exact contour_cor hl13.1 hl13.2 hv ht hc
  have hfit : ∀ t ∈ contourP l F, fitsT t := fun t ht => (contour_range hl13.1 hl13.2 hv t ht).fit
  have hfew := contour_few hl13.1 hl13.2 hv
  have hSd : SideH ((2 ^ (21 - l) : Nat) : Int) := sideE hl13.1 hl13.2
  have hcx := fun (c : Nat) (W : World) (hs : Sl encBl 1 W W.heap.size (some ⟨gF, 0, none⟩) F) => crossings_any l hl13.1 hl13.2 (some ⟨gF, 0, none⟩) c F W hs hlen
  have hcc := fun (c : Nat) (W : World) (hs : Sl encBl 1 W W.heap.size (some ⟨gF, 0, none⟩) F) => contour_any l (some ⟨gF, 0, none⟩) c F W hs (by
    have hc : l = 1 ∨ l = 2 ∨ l = 3 := by omega
    rw [hlen]
    rcases hc with rfl | rfl | rfl <;> decide)
  have hN729 : F.length ≤ 729 := by
    have hc : l = 1 ∨ l = 2 ∨ l = 3 := by omega
    rw [hlen]
    rcases hc with rfl | rfl | rfl <;> decide
  have hwl := crsN_few F (2 ^ l) ((2 ^ (21 - l) : Nat) : Int) F.length
  obtain ⟨h, hh⟩ : ∃ h : Int, h = ((2 ^ (21 - l) : Nat) : Int) := ⟨_, rfl⟩
  rw [← hh] at hlaw hSd hcx hwl
  obtain ⟨N, hN⟩ : ∃ N, N = F.length := ⟨_, rfl⟩
  rw [← hN] at hlaw hcx hcc hN729 hwl ⊢
  obtain ⟨want, hwant⟩ : ∃ x, x = crsN F (2 ^ l) h N := ⟨_, rfl⟩
  obtain ⟨S, hSS⟩ : ∃ x, x = contourP l F := ⟨_, rfl⟩
  rw [← hwant] at hlaw hcx hwl
  rw [← hSS] at hlaw hrng hfit hfew hcc
  obtain ⟨C, hC⟩ : ∃ x, x = cornersP S := ⟨_, rfl⟩
  have hcor := corners_any
  rw [← hC] at hlaw hrng
  have hwfit : ∀ p ∈ want, fitsP p := fun p hp => by
    rw [hwant] at hp
    obtain ⟨k, a, hk, ha, _, rfl⟩ := mem_cross.1 hp
    have hk' : k < (2 ^ l + 1) * (2 ^ l + 1) * (2 ^ l + 1) := by omega
    obtain ⟨d1, d2, d3, _⟩ := three_of hk'
    have hn8 : 2 ^ l ≤ 8 := by
      have hc : l = 1 ∨ l = 2 ∨ l = 3 := by omega
      rcases hc with rfl | rfl | rfl <;> decide
    have hh2 : 0 < h ∧ h ≤ 1048576 := by rcases hSd with rfl | rfl | rfl <;> decide
    have hq : ∀ q : Nat, q < 2 ^ l + 1 → 0 ≤ (q : Int) * h ∧ (q : Int) * h ≤ 8388608 := fun q hq => by
      refine ⟨Int.mul_nonneg (by omega) (by omega), ?_⟩
      have h1 := Int.mul_le_mul_of_nonneg_right (show (q : Int) ≤ 8 by omega) (show (0 : Int) ≤ h by omega)
      omega
    have q1 := hq _ d1
    have q2 := hq _ d2
    have q3 := hq _ d3
    have ha3 : ∀ m : Nat, m ≤ 1 → 0 ≤ (m : Int) * (h / 2) ∧ (m : Int) * (h / 2) ≤ 1048576 := fun m hm => by
      have hc : m = 0 ∨ m = 1 := by omega
      rcases hc with rfl | rfl <;> simp <;> omega
    have hax : (axU a).1 ≤ 1 ∧ (axU a).2.1 ≤ 1 ∧ (axU a).2.2 ≤ 1 := by
      have hc : a = 0 ∨ a = 1 ∨ a = 2 := by omega
      rcases hc with rfl | rfl | rfl <;> decide
    have m1 := ha3 _ hax.1
    have m2 := ha3 _ hax.2.1
    have m3 := ha3 _ hax.2.2
    unfold midK midG fitsP fits
    dsimp only
    omega
  obtain ⟨X, hX⟩ : ∃ X, X = w2.alloc (.cells #[.int .i64 l, .slice (some ⟨gF, 0, none⟩) N N] 26) := ⟨_, rfl⟩
  have hFX : FBox X w2.heap.size gF l F := by rw [hX]; exact ⟨by rw [← hN]; exact Blk.new _ _ _, hb.alloc _⟩
  have hBX : Below w.heap.size w X := by rw [hX]; exact (HB1.out.trans (hB2.mono hz1)).alloc (by omega) _
  have hzX : X.heap.size = w2.heap.size + 1 := by rw [hX]; simp
  have HX := hide (And.intro hFX (And.intro hBX (And.intro hh (And.intro hSd (And.intro hN hX)))))
  have HL := hide (And.intro hlaw (And.intro hrng (And.intro hfit (And.intro hC (And.intro hwfit (And.intro hcx hcc))))))
  have hhp : 0 < h := by rcases hSd with rfl | rfl | rfl <;> decide
  have hw9 : want.length ≤ 2187 := by omega
  clear hFX hBX hX hh hSd hN hb hB2 hv hlaw hrng hfit hC hwfit hcx hcc hwant hSS hcor hlen hwl
  have hc13 : l = 1 ∨ l = 2 ∨ l = 3 := by omega
  go_upto_region 3 with fail
  rw [← HX.out.2.2.2.2.2]
  have c0 := HX.out.1.two.1
  go_cut [7] (fun v wx => v = .int .i64 h ∧ wx = X)
  case first =>
    have hse := HX.out.2.2.1
    rcases hc13 with rfl | rfl | rfl
    · go_wp2_with fail
      go_meet
      case rel => exact ⟨by rw [hse]; rfl, rfl⟩
    · go_wp2_with fail
      go_meet
      case rel => exact ⟨by rw [hse]; rfl, rfl⟩
    · go_wp2_with fail
      go_meet
      case rel => exact ⟨by rw [hse]; rfl, rfl⟩
  case rest =>
    obtain ⟨rfl, rfl⟩ := hcut
    obtain ⟨X, rfl⟩ : ∃ X, X = wc := ⟨_, rfl⟩
    have c1' := HX.out.1.two.2
    rw [← HX.out.2.2.2.2.1] at c1'
    obtain ⟨M, hM⟩ : ∃ M, M = S.length := ⟨_, rfl⟩
    have hMs : M ≤ 12288 := by rw [hM]; exact hfew
    have hk1 := HL.out.2.2.2.2.2.2 N X (HX.out.1.sl (Nat.le_refl _))
    rw [← hM] at hk1
    have HK := hide (And.intro hM hk1)
    clear hM hk1 hfew
    go_wp2_with fail
    refine HK.out.2.mono ?_
    rintro e w4 ⟨v4, rfl, hown4, hB4⟩
    obtain ⟨As, cs, rfl⟩ := hown4.form
    have hz4 := hB4.size
    have hq := corners_any As cs S w4 (by have h := hown4.sl encT_len (Nat.le_refl w4.heap.size); exact h) (by rw [← HK.out.1]; omega) HL.out.2.2.1
    rw [← HK.out.1, ← HL.out.2.2.2.1] at hq
    obtain ⟨cl, hcl⟩ : ∃ c, c = C.length := ⟨_, rfl⟩
    rw [← hcl] at hq
    have H4 := hide (And.intro hB4 (And.intro hq hcl))
    clear hown4 hB4 hq hcl
    go_wp2_with fail
    refine H4.out.2.1.mono ?_
    rintro e w5 ⟨Ac, cc, rfl, hsl5, hcap5, hB5, _⟩
    have hBX5 : Below X.heap.size X w5 := H4.out.1.trans (hB5.mono hz4)
    have hz5 := hBX5.size
    have hFX5 := HX.out.1.below hBX5 (by omega) (by omega)
    have d0 : w5.cell? ⟨w2.heap.size, 0, none⟩ = some (.int .i64 l) := hFX5.two.1
    have d1 : w5.cell? ⟨w2.heap.size, 1, none⟩ = some (.slice (some ⟨gF, 0, none⟩) N N) := by have h := hFX5.two.2; rw [← HX.out.2.2.2.2.1] at h; exact h
    have hk2 := HL.out.2.2.2.2.2.1 N w5 (hFX5.sl (Nat.le_refl _))
    obtain ⟨wl, hwl⟩ : ∃ c, c = want.length := ⟨_, rfl⟩
    rw [← hwl] at hk2
    have H5 := hide (And.intro hsl5 (And.intro hBX5 (And.intro hk2 hwl)))
    clear hsl5 hBX5 hB5 hFX5 hk2 hwl c0 c1' hcap5
    go_wp2_with fail
    refine H5.out.2.2.1.mono ?_
    rintro e w6 ⟨v6, rfl, hown6, hB6⟩
    obtain ⟨Aw, cw, rfl⟩ := hown6.form
    have hz6 := hB6.size
    have hBX6 : Below X.heap.size X w6 := H5.out.2.1.trans (hB6.mono hz5)
    have hslC := (H5.out.1.below hB6).more hB6.size
    have hslW := hown6.sl encP_len (Nat.le_refl w6.heap.size)
    have hcl12 : cl ≤ 1000000 := by
      rw [H4.out.2.2, HL.out.2.2.2.1]
      have : ∀ (ts : List Tri) (l0 : List Pt), (ts.foldl (fun l t => corN l t 3) l0).length ≤ l0.length + 3 * ts.length := by
        intro ts
        induction ts with
        | nil => intro l0; simp
        | cons t ts ih =>
          intro l0
          rw [List.foldl_cons]
          have h1 := ih (corN l0 t 3)
          have hw : ∀ (l : List Pt) (p : Pt), (withP l p).length ≤ l.length + 1 := fun l p => by
            unfold withP
            split
            · omega
            · rw [List.length_append, List.length_cons, List.length_take, List.length_drop]; omega
          have h2 : (corN l0 t 3).length ≤ l0.length + 3 := by
            show (withP (withP (withP l0 t.1) t.2.1) t.2.2).length ≤ _
            have a := hw (withP (withP l0 t.1) t.2.1) t.2.2
            have b := hw (withP l0 t.1) t.2.1
            have c := hw l0 t.1
            omega
          rw [List.length_cons]
          omega
      have h1 := this S []
      unfold cornersP
      rw [← HK.out.1] at h1
      simp only [List.length_nil] at h1
      omega
    have hwl9 : wl ≤ 2187 := by rw [H5.out.2.2.2]; exact hw9
    have H6 := hide (And.intro hslC (And.intro hslW hBX6))
    clear hown6 hB6 hslC hslW hBX6 d0 d1 hw9
    go_wp2_with fail
    go_loopw [10, 11] (fun hv kv wr => ∃ k : Nat, k ≤ cl ∧ kv = .int .i64 k ∧ hv = .int .i64 (((C.take k).countP fun p => decide (wholeP h p = 2) : Nat) : Int) ∧ Below w6.heap.size w6 wr) (fun _ kv _ => cl - (intOf kv).toNat)
    case atStart => exact ⟨0, by omega, rfl, by simp, Below.refl _ w6⟩
    case round =>
      obtain ⟨k, hk, rfl, rfl, hB⟩ := hrel
      obtain ⟨V, rfl⟩ : ∃ V, V = wr := ⟨_, rfl⟩
      have hzV := hB.size
      obtain ⟨hv, hhv⟩ : ∃ x, x = (C.take k).countP fun p => decide (wholeP h p = 2) := ⟨_, rfl⟩
      rw [← hhv]
      have hvk : hv ≤ k := by
        rw [hhv]
        exact Nat.le_trans List.countP_le_length (by rw [List.length_take]; omega)
      by_cases hlt : k < cl
      · have i1 : (k : Int) < (cl : Int) := by omega
        obtain ⟨p, hp⟩ : ∃ p, C[k]? = some p := ⟨_, List.getElem?_eq_getElem (by rw [← H4.out.2.2]; exact hlt)⟩
        have hpm := List.mem_of_getElem? hp
        have hpr := HL.out.2.1 p hpm
        have hpl := HL.out.1.1 p hpm
        have hcs := count_succ (f := fun p => decide (wholeP h p = 2)) hp
        rw [← hhv] at hcs
        obtain ⟨bC, oC, rfl, hbC, hcell⟩ := ((H6.out.1.below hB)).at hp
        have g0 := hcell 0 _ rfl
        have g1 := hcell 1 _ rfl
        have g2 := hcell 2 _ rfl
        simp only [Nat.add_zero] at g0
        have HP := hide (And.intro hpr (And.intro hpl (And.intro hcs (And.intro hB hhv))))
        unfold rangeP at hpr
        obtain ⟨⟨r0, r1⟩, ⟨r2, r3⟩, r4, r5⟩ := hpr
        clear hpm hpl hcs hp hcell hB hhv
        go_upto_region 11 with fail
        obtain ⟨Y, hY⟩ : ∃ Y, Y = V.alloc (.cells #[.int .i64 p.1, .int .i64 p.2.1, .int .i64 p.2.2] 38) := ⟨_, rfl⟩
        rw [← hY]
        have hbY : Blk Y V.heap.size 38 #[.int .i64 p.1, .int .i64 p.2.1, .int .i64 p.2.2] := by rw [hY]; exact Blk.new _ _ _
        have y0 : Y.cell? ⟨V.heap.size, 0, none⟩ = some (.int .i64 p.1) := hbY.cell 0
        have y1 : Y.cell? ⟨V.heap.size, 1, none⟩ = some (.int .i64 p.2.1) := hbY.cell 1
        have y2 : Y.cell? ⟨V.heap.size, 2, none⟩ = some (.int .i64 p.2.2) := hbY.cell 2
        have hBY : Below w6.heap.size w6 Y := by rw [hY]; exact HP.out.2.2.2.1.alloc hzV _
        have HYB := hide hBY
        clear hbY hBY hY g0 g1 g2
        have hw3 : wholeP h p = (if p.1 % h = 0 then 1 else 0) + (if p.2.1 % h = 0 then 1 else 0) + (if p.2.2 % h = 0 then 1 else 0) := rfl
        have hpl := HP.out.2.1
        have hcs := HP.out.2.2.1
        have hnz : ¬ h = 0 := by omega
        obtain ⟨q0, hq0⟩ : ∃ q, q = p.1 % h := ⟨_, rfl⟩
        obtain ⟨q1, hq1⟩ : ∃ q, q = p.2.1 % h := ⟨_, rfl⟩
        obtain ⟨q2, hq2⟩ : ∃ q, q = p.2.2 % h := ⟨_, rfl⟩
        rw [← hq0, ← hq1, ← hq2] at hw3
        have t0 : Int.tmod p.1 h = q0 := by rw [hq0]; exact Int.tmod_eq_emod_of_nonneg r0
        have t1 : Int.tmod p.2.1 h = q1 := by rw [hq1]; exact Int.tmod_eq_emod_of_nonneg r2
        have t2 : Int.tmod p.2.2 h = q2 := by rw [hq2]; exact Int.tmod_eq_emod_of_nonneg r4
        have s0 := hq0.symm
        have s1 := hq1.symm
        have s2 := hq2.symm
        clear hq0 hq1 hq2 r0 r1 r2 r3 r4 r5
        by_cases z0 : q0 = 0
        · by_cases z1 : q1 = 0
          · by_cases z2 : q2 = 0
            · exfalso
              rw [if_pos z0, if_pos z1, if_pos z2] at hw3
              rcases hpl with h1 | h1 <;> omega
            · rw [if_pos z0, if_pos z1, if_neg z2] at hw3
              have hpw : p ∈ want := by
                rcases hpl with h1 | h1
                · omega
                · exact h1.2
              have hcs1 : (C.take (k + 1)).countP (fun p => decide (wholeP h p = 2)) = hv + 1 := by
                rw [hcs, if_pos (by simp [hw3])]
              have HC := hide (And.intro hcs1 hpw)
              clear hcs hpl hw3 hcs1 hpw
              go_wp2_with fail
              go_loopw [14, 15] (fun fv jv wr => ∃ j n : Nat, j ≤ wl ∧ jv = .int .i64 j ∧ fv = .bool (decide (p ∈ want.take j)) ∧ wr = Y.drewN n) (fun _ jv _ => wl - (intOf jv).toNat)
              case atStart => exact ⟨0, 0, by omega, rfl, by simp, rfl⟩
              case round =>
                obtain ⟨j, n, hj, rfl, rfl, rfl⟩ := hrel
                by_cases hjl : j < wl
                · have i2 : (j : Int) < (wl : Int) := by omega
                  obtain ⟨v, hv'⟩ : ∃ v, want[j]? = some v := ⟨_, List.getElem?_eq_getElem (by rw [← H5.out.2.2.2]; exact hjl)⟩
                  have hvf := HL.out.2.2.2.2.1 v (List.mem_of_getElem? hv')
                  obtain ⟨bB, oB, hBB, hbB, hcell⟩ := ((H6.out.2.1.below HYB.out)).at hv'
                  subst hBB
                  have k0 := hcell 0 _ rfl
                  have k1 := hcell 1 _ rfl
                  have k2 := hcell 2 _ rfl
                  simp only [Nat.add_zero] at k0
                  have hsnoc : want.take (j + 1) = want.take j ++ [v] := by rw [List.take_add_one, hv']; rfl
                  obtain ⟨b, hb'⟩ : ∃ b, b = decide (p ∈ want.take j) := ⟨_, rfl⟩
                  rw [← hb']
                  have hq := eqP v p hvf HP.out.1.fit
                  cases b with
                  | true =>
                    have hnext : decide (p ∈ want.take (j + 1)) = true := by
                      have hm := of_decide_eq_true hb'.symm
                      rw [hsnoc]; exact decide_eq_true (List.mem_append.2 (.inl hm))
                    have HN := hide hnext
                    clear hv' hvf hsnoc hb' hq hnext k0 k1 k2 hcell
                    go_wp2_with fail
                    go_quiet (fail)
                    go_wp2
                    go_roundw
                    case rel => exact ⟨j + 1, n + nq, by omega, by go_num, by rw [HN.out], rfl⟩
                    case measure => simp [intOf]; omega
                  | false =>
                    have hnm := of_decide_eq_false hb'.symm
                    by_cases huv : v = p
                    · have hd : decide (v = p) = true := decide_eq_true huv
                      have hnext : decide (p ∈ want.take (j + 1)) = true := by
                        rw [hsnoc, huv]; exact decide_eq_true (List.mem_append.2 (.inr (by simp)))
                      rw [hd] at hq
                      have HN := hide hnext
                      clear hv' hvf hsnoc hb' hnext hd huv hnm hcell
                      go_wp2_with fail
                      go_quiet (fail)
                      go_wp2
                      go_roundw
                      case rel => exact ⟨j + 1, n + nq, by omega, by go_num, by rw [HN.out], rfl⟩
                      case measure => simp [intOf]; omega
                    · have hd : decide (v = p) = false := decide_eq_false huv
                      have hnext : decide (p ∈ want.take (j + 1)) = false := by
                        rw [hsnoc]
                        refine decide_eq_false fun h => ?_
                        rcases List.mem_append.1 h with h | h
                        · exact hnm h
                        · exact huv (List.mem_singleton.1 h).symm
                      rw [hd] at hq
                      have HN := hide hnext
                      clear hv' hvf hsnoc hb' hnext hd huv hnm hcell
                      go_wp2_with fail
                      go_quiet (fail)
                      go_wp2
                      go_roundw
                      case rel => exact ⟨j + 1, n + nq, by omega, by go_num, by rw [HN.out], rfl⟩
                      case measure => simp [intOf]; omega
                · have hje : j = wl := by omega
                  have htk : decide (p ∈ want.take j) = true := by
                    rw [hje, H5.out.2.2.2, List.take_length]; exact decide_eq_true HC.out.2
                  rw [htk]
                  have HBn := hide (below_drewN HYB.out n)
                  clear htk
                  go_wp2
                  go_roundw
                  case rel => exact ⟨k + 1, by omega, by go_num, by rw [HC.out.1]; push_cast; rfl, HBn.out⟩
                  case measure => simp [intOf]; omega
          · by_cases z2 : q2 = 0
            · rw [if_pos z0, if_neg z1, if_pos z2] at hw3
              have hpw : p ∈ want := by
                rcases hpl with h1 | h1
                · omega
                · exact h1.2
              have hcs1 : (C.take (k + 1)).countP (fun p => decide (wholeP h p = 2)) = hv + 1 := by
                rw [hcs, if_pos (by simp [hw3])]
              have HC := hide (And.intro hcs1 hpw)
              clear hcs hpl hw3 hcs1 hpw
              go_wp2_with fail
              go_loopw [14, 15] (fun fv jv wr => ∃ j n : Nat, j ≤ wl ∧ jv = .int .i64 j ∧ fv = .bool (decide (p ∈ want.take j)) ∧ wr = Y.drewN n) (fun _ jv _ => wl - (intOf jv).toNat)
              case atStart => exact ⟨0, 0, by omega, rfl, by simp, rfl⟩
              case round =>
                obtain ⟨j, n, hj, rfl, rfl, rfl⟩ := hrel
                by_cases hjl : j < wl
                · have i2 : (j : Int) < (wl : Int) := by omega
                  obtain ⟨v, hv'⟩ : ∃ v, want[j]? = some v := ⟨_, List.getElem?_eq_getElem (by rw [← H5.out.2.2.2]; exact hjl)⟩
                  have hvf := HL.out.2.2.2.2.1 v (List.mem_of_getElem? hv')
                  obtain ⟨bB, oB, hBB, hbB, hcell⟩ := ((H6.out.2.1.below HYB.out)).at hv'
                  subst hBB
                  have k0 := hcell 0 _ rfl
                  have k1 := hcell 1 _ rfl
                  have k2 := hcell 2 _ rfl
                  simp only [Nat.add_zero] at k0
                  have hsnoc : want.take (j + 1) = want.take j ++ [v] := by rw [List.take_add_one, hv']; rfl
                  obtain ⟨b, hb'⟩ : ∃ b, b = decide (p ∈ want.take j) := ⟨_, rfl⟩
                  rw [← hb']
                  have hq := eqP v p hvf HP.out.1.fit
                  cases b with
                  | true =>
                    have hnext : decide (p ∈ want.take (j + 1)) = true := by
                      have hm := of_decide_eq_true hb'.symm
                      rw [hsnoc]; exact decide_eq_true (List.mem_append.2 (.inl hm))
                    have HN := hide hnext
                    clear hv' hvf hsnoc hb' hq hnext k0 k1 k2 hcell
                    go_wp2_with fail
                    go_quiet (fail)
                    go_wp2
                    go_roundw
                    case rel => exact ⟨j + 1, n + nq, by omega, by go_num, by rw [HN.out], rfl⟩
                    case measure => simp [intOf]; omega
                  | false =>
                    have hnm := of_decide_eq_false hb'.symm
                    by_cases huv : v = p
                    · have hd : decide (v = p) = true := decide_eq_true huv
                      have hnext : decide (p ∈ want.take (j + 1)) = true := by
                        rw [hsnoc, huv]; exact decide_eq_true (List.mem_append.2 (.inr (by simp)))
                      rw [hd] at hq
                      have HN := hide hnext
                      clear hv' hvf hsnoc hb' hnext hd huv hnm hcell
                      go_wp2_with fail
                      go_quiet (fail)
                      go_wp2
                      go_roundw
                      case rel => exact ⟨j + 1, n + nq, by omega, by go_num, by rw [HN.out], rfl⟩
                      case measure => simp [intOf]; omega
                    · have hd : decide (v = p) = false := decide_eq_false huv
                      have hnext : decide (p ∈ want.take (j + 1)) = false := by
                        rw [hsnoc]
                        refine decide_eq_false fun h => ?_
                        rcases List.mem_append.1 h with h | h
                        · exact hnm h
                        · exact huv (List.mem_singleton.1 h).symm
                      rw [hd] at hq
                      have HN := hide hnext
                      clear hv' hvf hsnoc hb' hnext hd huv hnm hcell
                      go_wp2_with fail
                      go_quiet (fail)
                      go_wp2
                      go_roundw
                      case rel => exact ⟨j + 1, n + nq, by omega, by go_num, by rw [HN.out], rfl⟩
                      case measure => simp [intOf]; omega
                · have hje : j = wl := by omega
                  have htk : decide (p ∈ want.take j) = true := by
                    rw [hje, H5.out.2.2.2, List.take_length]; exact decide_eq_true HC.out.2
                  rw [htk]
                  have HBn := hide (below_drewN HYB.out n)
                  clear htk
                  go_wp2
                  go_roundw
                  case rel => exact ⟨k + 1, by omega, by go_num, by rw [HC.out.1]; push_cast; rfl, HBn.out⟩
                  case measure => simp [intOf]; omega
            · exfalso
              rw [if_pos z0, if_neg z1, if_neg z2] at hw3
              rcases hpl with h1 | h1 <;> omega
        · by_cases z1 : q1 = 0
          · by_cases z2 : q2 = 0
            · rw [if_neg z0, if_pos z1, if_pos z2] at hw3
              have hpw : p ∈ want := by
                rcases hpl with h1 | h1
                · omega
                · exact h1.2
              have hcs1 : (C.take (k + 1)).countP (fun p => decide (wholeP h p = 2)) = hv + 1 := by
                rw [hcs, if_pos (by simp [hw3])]
              have HC := hide (And.intro hcs1 hpw)
              clear hcs hpl hw3 hcs1 hpw
              go_wp2_with fail
              go_loopw [14, 15] (fun fv jv wr => ∃ j n : Nat, j ≤ wl ∧ jv = .int .i64 j ∧ fv = .bool (decide (p ∈ want.take j)) ∧ wr = Y.drewN n) (fun _ jv _ => wl - (intOf jv).toNat)
              case atStart => exact ⟨0, 0, by omega, rfl, by simp, rfl⟩
              case round =>
                obtain ⟨j, n, hj, rfl, rfl, rfl⟩ := hrel
                by_cases hjl : j < wl
                · have i2 : (j : Int) < (wl : Int) := by omega
                  obtain ⟨v, hv'⟩ : ∃ v, want[j]? = some v := ⟨_, List.getElem?_eq_getElem (by rw [← H5.out.2.2.2]; exact hjl)⟩
                  have hvf := HL.out.2.2.2.2.1 v (List.mem_of_getElem? hv')
                  obtain ⟨bB, oB, hBB, hbB, hcell⟩ := ((H6.out.2.1.below HYB.out)).at hv'
                  subst hBB
                  have k0 := hcell 0 _ rfl
                  have k1 := hcell 1 _ rfl
                  have k2 := hcell 2 _ rfl
                  simp only [Nat.add_zero] at k0
                  have hsnoc : want.take (j + 1) = want.take j ++ [v] := by rw [List.take_add_one, hv']; rfl
                  obtain ⟨b, hb'⟩ : ∃ b, b = decide (p ∈ want.take j) := ⟨_, rfl⟩
                  rw [← hb']
                  have hq := eqP v p hvf HP.out.1.fit
                  cases b with
                  | true =>
                    have hnext : decide (p ∈ want.take (j + 1)) = true := by
                      have hm := of_decide_eq_true hb'.symm
                      rw [hsnoc]; exact decide_eq_true (List.mem_append.2 (.inl hm))
                    have HN := hide hnext
                    clear hv' hvf hsnoc hb' hq hnext k0 k1 k2 hcell
                    go_wp2_with fail
                    go_quiet (fail)
                    go_wp2
                    go_roundw
                    case rel => exact ⟨j + 1, n + nq, by omega, by go_num, by rw [HN.out], rfl⟩
                    case measure => simp [intOf]; omega
                  | false =>
                    have hnm := of_decide_eq_false hb'.symm
                    by_cases huv : v = p
                    · have hd : decide (v = p) = true := decide_eq_true huv
                      have hnext : decide (p ∈ want.take (j + 1)) = true := by
                        rw [hsnoc, huv]; exact decide_eq_true (List.mem_append.2 (.inr (by simp)))
                      rw [hd] at hq
                      have HN := hide hnext
                      clear hv' hvf hsnoc hb' hnext hd huv hnm hcell
                      go_wp2_with fail
                      go_quiet (fail)
                      go_wp2
                      go_roundw
                      case rel => exact ⟨j + 1, n + nq, by omega, by go_num, by rw [HN.out], rfl⟩
                      case measure => simp [intOf]; omega
                    · have hd : decide (v = p) = false := decide_eq_false huv
                      have hnext : decide (p ∈ want.take (j + 1)) = false := by
                        rw [hsnoc]
                        refine decide_eq_false fun h => ?_
                        rcases List.mem_append.1 h with h | h
                        · exact hnm h
                        · exact huv (List.mem_singleton.1 h).symm
                      rw [hd] at hq
                      have HN := hide hnext
                      clear hv' hvf hsnoc hb' hnext hd huv hnm hcell
                      go_wp2_with fail
                      go_quiet (fail)
                      go_wp2
                      go_roundw
                      case rel => exact ⟨j + 1, n + nq, by omega, by go_num, by rw [HN.out], rfl⟩
                      case measure => simp [intOf]; omega
                · have hje : j = wl := by omega
                  have htk : decide (p ∈ want.take j) = true := by
                    rw [hje, H5.out.2.2.2, List.take_length]; exact decide_eq_true HC.out.2
                  rw [htk]
                  have HBn := hide (below_drewN HYB.out n)
                  clear htk
                  go_wp2
                  go_roundw
                  case rel => exact ⟨k + 1, by omega, by go_num, by rw [HC.out.1]; push_cast; rfl, HBn.out⟩
                  case measure => simp [intOf]; omega
            · exfalso
              rw [if_neg z0, if_pos z1, if_neg z2] at hw3
              rcases hpl with h1 | h1 <;> omega
          · by_cases z2 : q2 = 0
            · exfalso
              rw [if_neg z0, if_neg z1, if_pos z2] at hw3
              rcases hpl with h1 | h1 <;> omega
            · rw [if_neg z0, if_neg z1, if_neg z2] at hw3
              have hcs0 : (C.take (k + 1)).countP (fun p => decide (wholeP h p = 2)) = hv := by
                rw [hcs, if_neg (by simp [hw3])]; rfl
              have HC := hide hcs0
              clear hcs hpl hw3 hcs0
              go_wp2
              go_roundw
              case rel => exact ⟨k + 1, by omega, by go_num, by rw [HC.out], HYB.out⟩
              case measure => simp [intOf]; omega
      · have hke : k = cl := by omega
        have hfin : hv = wl := by
          rw [hhv, hke, H4.out.2.2, List.take_length, HL.out.1.2, H5.out.2.2.2]
        have hfinI : (hv : Int) = (wl : Int) := by rw [hfin]
        have hBf := HX.out.2.1.trans ((H6.out.2.2.trans (hB.mono (by omega))).mono (by have := HX.out.2.1.size; omega))
        have HFin := hide hBf
        clear hBf hB hhv
        subst hfin
        go_wp2
        go_ret
        exact ⟨rfl, HFin.out⟩
end Go.Proofs.Ytfljcgehhnmamaa
