/- ref08.Contour. -/
import Derived.Test.YtfljcgehhnmamaaCB38
import Derived.Test.YtfljcgehhnmamaaCRefT
import Derived.Test.YtfljcgehhnmamaaCValid
namespace Go.Proofs.Ytfljcgehhnmamaa
open Go.RowKit Go.Sort
theorem ctr_fits {l : Nat} (h1 : 1 ≤ l) (h3 : l ≤ 3) (F : List Bool) : ∀ t ∈ ctrL F (2 ^ l) ((2 ^ (21 - l) : Nat) : Int) (2 ^ l * 2 ^ l * 2 ^ l), fitsT t := by
  intro t ht
  have e : ((2 ^ l : Nat) : Int) * ((2 ^ (21 - l) : Nat) : Int) = 2097152 := by
    have hc : l = 1 ∨ l = 2 ∨ l = 3 := by omega
    rcases hc with rfl | rfl | rfl <;> decide
  have key : ∀ p, CorOf t p → fitsP p := fun p hp => by
    have hb := ctr_bd (sideE h1 h3) ht hp
    rw [e] at hb
    exact rangeP.fit hb
  exact ⟨key _ (.inl rfl), key _ (.inr (.inl rfl)), key _ (.inr (.inr rfl))⟩
set_option maxRecDepth 100000 in
set_option maxHeartbeats 16000000 in
theorem refcon_any (l : Nat) (hl1 : 1 ≤ l) (hl3 : l ≤ 3) (A : Option Addr) (c : Nat) (F : List Bool) (w : World) (hs : Sl encBl 1 w w.heap.size A F) (hv : validF l F = true) :
    Calls Try.prog 16 #[.agg #[.int .i64 l, .slice A F.length c]] w fun e w' => ∃ A' c', e = .returned (.slice A' (contourP l F).length c') ∧ Below w.heap.size w w' ∧ Sl encT 9 w' w'.heap.size A' (contourP l F) := by
  have hval := fun w1 (h1 : Sl encBl 1 w1 w1.heap.size A F) => valid_true l hl1 hl3 A c F w1 h1 hv
  have hFl := (valid_parts hv).1
  have hres : contourP l F = canonO (ctrL F (2 ^ l) ((2 ^ (21 - l) : Nat) : Int) (2 ^ l * 2 ^ l * 2 ^ l)) := by rw [contour_lvl hv]; rfl
  have hfit := ctr_fits hl1 hl3 F
  obtain ⟨n, hn⟩ : ∃ n, n = 2 ^ l := ⟨_, rfl⟩
  obtain ⟨h, hh⟩ : ∃ h : Int, h = ((2 ^ (21 - l) : Nat) : Int) := ⟨_, rfl⟩
  have hn8 : n ≤ 8 := by have : l = 1 ∨ l = 2 ∨ l = 3 := by omega
                         rcases this with rfl | rfl | rfl <;> omega
  have hok : ∀ x y z : Nat, x < n → y < n → z < n → cellOk ((x : Int), (y : Int), (z : Int)) h := fun x y z hx hy hz => by rw [hh]; exact side_ok hl1 (by omega) hn hx hy hz
  rw [← hn, ← hh] at hres hfit
  rw [← hn] at hFl
  obtain ⟨R, hR⟩ : ∃ R, R = contourP l F := ⟨_, rfl⟩
  rw [← hR] at hres ⊢
  have hcell : ∀ (x y z : Nat) (w1 : World), x < n → y < n → z < n → Sl encBl 1 w1 w1.heap.size A F →
      Calls Try.prog 31 #[.agg #[.int .i64 l, .slice A F.length c], .agg #[.int .i64 x, .int .i64 y, .int .i64 z]] w1 fun e w' => ∃ v, e = .returned v ∧ Own encT 9 40 w' w1.heap.size v (cellTs (bitsF F n ((z * n + y) * n + x)) (cellAt n ((z * n + y) * n + x)) h).length (cellTs (bitsF F n ((z * n + y) * n + x)) (cellAt n ((z * n + y) * n + x)) h) ∧ Below w1.heap.size w1 w' := fun x y z w1 hx hy hz h1 => by
    obtain ⟨e1, e2, e3⟩ := cell_no (z := z) hx hy
    unfold cellAt bitsF
    rw [e1, e2, e3]
    exact tris_any F A c l n x y z h w1 h1 hl1 hl3 hn hx hy hz hFl hh (hok x y z hx hy hz) _ rfl
  obtain ⟨m, hm⟩ : ∃ m, m = F.length := ⟨_, rfl⟩
  rw [← hm] at hval hcell ⊢
  have hlc : (l = 1 ∧ n = 2) ∨ (l = 2 ∧ n = 4) ∨ (l = 3 ∧ n = 8) := by
    have : l = 1 ∨ l = 2 ∨ l = 3 := by omega
    rcases this with rfl | rfl | rfl <;> simp [hn]
  have hfew := ctrL_few F n h
  have HS := hide (And.intro hs (And.intro hm (And.intro hres (And.intro hlc (And.intro hfew hfit)))))
  have HC := hide hcell
  have HV := hide hval
  clear hs hm hFl hres hok hcell hR hn hh hval hv hlc hfew hfit
  go_enter Try.func16, Try.ntmps16
  go_wp2_with fail
  refine (HV.out _ ((HS.out.1.below ((Below.refl _ w).alloc (Nat.le_refl _) _)).more (by simp))).mono ?_
  rintro e w1 ⟨rfl, hB1⟩
  have hB : Below w.heap.size w w1 := ((Below.refl _ w).alloc (Nat.le_refl _) _).trans (hB1.mono (by simp))
  have hf1 := (Blk.new w 26 #[.int .i64 l, .slice A m c]).below hB1 (by simp)
  have hlf := hf1.lt
  obtain ⟨bf, hbf⟩ : ∃ b, b = w.heap.size := ⟨_, rfl⟩
  rw [← hbf] at hf1 hlf ⊢
  have HB := hide (And.intro hB (And.intro hf1 hbf))
  have f0 := hf1.cell 0
  simp only [List.getElem?_toArray, List.getElem?_cons_zero] at f0
  clear hB hB1 hf1 hbf
  go_upto_region 4 with fail
  go_cut [4] (fun v wx => v = .int .i64 n ∧ wx = w1)
  case first =>
    rcases HS.out.2.2.2.1 with ⟨rfl, rfl⟩ | ⟨rfl, rfl⟩ | ⟨rfl, rfl⟩
    · go_wp2_with fail
      go_meet
      case rel => exact ⟨rfl, rfl⟩
    · go_wp2_with fail
      go_meet
      case rel => exact ⟨rfl, rfl⟩
    · go_wp2_with fail
      go_meet
      case rel => exact ⟨rfl, rfl⟩
  case rest =>
    obtain ⟨rfl, rfl⟩ := hcut
    obtain ⟨w1, rfl⟩ : ∃ w, w = wc := ⟨_, rfl⟩
    clear f0
    go_wp2
    go_loopw [5, 6] (fun v iv wr => ∃ (z : Nat) (ts : List Tri), z ≤ n ∧ iv = .int .i64 z ∧ Own encT 9 40 wr w1.heap.size v ts.length ts ∧ ts = ctrL F n h (z * n * n) ∧ Below w1.heap.size w1 wr) (fun _ iv _ => n - (intOf iv).toNat)
    case atStart => exact ⟨0, [], by omega, rfl, Own.nil, by simp [ctrL], Below.refl _ w1⟩
    case round =>
      obtain ⟨z, ts, hz, rfl, hown, hct, hB⟩ := hrel
      obtain ⟨A1, c1, rfl⟩ := hown.form
      by_cases hlt : z < n
      · have i1 : (z : Int) < (n : Int) := by omega
        have HZ := hide (And.intro hown (And.intro hct hB))
        clear hown hct hB
        obtain ⟨tl, htl⟩ : ∃ tl, tl = ts.length := ⟨_, rfl⟩
        rw [← htl]
        have HT := hide htl
        clear htl
        go_wp2
        go_loopw [5, 7] (fun v iv wr => ∃ (y : Nat) (ts : List Tri), y ≤ n ∧ iv = .int .i64 y ∧ Own encT 9 40 wr w1.heap.size v ts.length ts ∧ ts = ctrL F n h ((z * n + y) * n) ∧ Below w1.heap.size w1 wr) (fun _ iv _ => n - (intOf iv).toNat)
        case atStart => exact ⟨0, ts, by omega, rfl, by rw [HT.out]; exact HZ.out.1, HZ.out.2.1, HZ.out.2.2⟩
        case round =>
          obtain ⟨y, us, hy, rfl, hown, hct, hB⟩ := hrel
          obtain ⟨A2, c2, rfl⟩ := hown.form
          obtain ⟨ul, hul⟩ : ∃ ul, ul = us.length := ⟨_, rfl⟩
          rw [← hul] at hown ⊢
          have HY := hide (And.intro hown (And.intro hct (And.intro hB hul)))
          clear hown hct hB hul
          by_cases hlt2 : y < n
          · have i2 : (y : Int) < (n : Int) := by omega
            go_wp2
            go_loopw [5, 8] (fun v iv wr => ∃ (x : Nat) (ts : List Tri), x ≤ n ∧ iv = .int .i64 x ∧ Own encT 9 40 wr w1.heap.size v ts.length ts ∧ ts = ctrL F n h ((z * n + y) * n + x) ∧ Below w1.heap.size w1 wr) (fun _ iv _ => n - (intOf iv).toNat)
            case atStart => exact ⟨0, us, by omega, rfl, by rw [← HY.out.2.2.2]; exact HY.out.1, HY.out.2.1, HY.out.2.2.1⟩
            case round =>
              obtain ⟨x, vs, hx, rfl, hown, hct, hB⟩ := hrel
              obtain ⟨A3, c3, rfl⟩ := hown.form
              have hfr := HB.out.2.1.below hB hlf
              have fa := hfr.cell 0
              have fb := hfr.cell 1
              simp only [List.getElem?_toArray, List.getElem?_cons_zero, List.getElem?_cons_succ] at fa fb
              have hzr := hB.size
              obtain ⟨vl, hvl⟩ : ∃ vl, vl = vs.length := ⟨_, rfl⟩
              rw [← hvl] at hown ⊢
              have HX := hide (And.intro hown (And.intro hct (And.intro hB hvl)))
              clear hown hct hB hvl hfr
              by_cases hlt3 : x < n
              · have i3 : (x : Int) < (n : Int) := by omega
                have hvb : vl ≤ 500000000 := by
                  have h1 := HS.out.2.2.2.2.1 ((z * n + y) * n + x)
                  have h2 := idx_lt (by omega) hlt hlt2 hlt3
                  rw [HX.out.2.2.2, HX.out.2.1]
                  omega
                go_wp2_with fail
                refine (HC.out x y z wr hlt3 hlt2 hlt ((HS.out.1.below HB.out.1).below (HX.out.2.2.1.mono HB.out.1.size) |>.more (by have := HB.out.1.size; omega))).mono ?_
                rintro e w4 ⟨v4, rfl, hown4, hB4⟩
                obtain ⟨A4, c4, rfl⟩ := hown4.form
                have hst := ctrL_succ F n h ((z * n + y) * n + x)
                have hf24 := cellTs_few (bitsF_length F n ((z * n + y) * n + x)) (cellAt n ((z * n + y) * n + x)) h
                obtain ⟨us4, hus4⟩ : ∃ u, u = cellTs (bitsF F n ((z * n + y) * n + x)) (cellAt n ((z * n + y) * n + x)) h := ⟨_, rfl⟩
                rw [← hus4] at hown4 hst hf24 ⊢
                obtain ⟨ul4, hul4⟩ : ∃ u, u = us4.length := ⟨_, rfl⟩
                have hl4 : ul4 ≤ 24 := by rw [hul4]; exact hf24
                have hB04 : Below w1.heap.size w1 w4 := HX.out.2.2.1.trans (hB4.mono hzr)
                have hz4 := hB4.size
                have hown3 := HX.out.1.below hB4 (Nat.le_refl _)
                have hsl4 := hown4.sl encT_len (Nat.le_refl _)
                have H4 := hide (And.intro hst (And.intro hB04 (And.intro hown3 (And.intro hsl4 hul4))))
                rw [← hul4]
                clear hown4 hB4 hst hB04 hown3 hsl4 hul4 hus4 hf24 fa fb
                go_wp2_with (at_builtin; refine wpList_appendS rfl _ _ _ rfl Try.underlying29 infoT rfl (by omega) encT_len encT_one rfl H4.out.2.2.1 A4 c4 w4.heap.size us4 (by rw [← H4.out.2.2.2.2]; rfl) H4.out.2.2.2.1 (by have := H4.out.2.2.2.2; unfold maxLen; omega) (by have := H4.out.2.2.2.2; omega) (by omega) ?_; intro v5 w5 hown5 hg5 hB5 hat5)
                go_roundw
                case rel => exact ⟨x + 1, vs ++ us4, by omega, by go_num, by rw [List.length_append, ← HX.out.2.2.2]; exact hown5, by rw [← Nat.add_assoc, H4.out.1, HX.out.2.1], H4.out.2.1.trans hB5⟩
                case measure => simp [intOf]; omega
              · have hxe : n = x := by omega
                subst hxe
                clear fa fb
                go_wp2
                go_roundw
                case rel => exact ⟨y + 1, vs, by omega, by go_num, by rw [← HX.out.2.2.2]; exact HX.out.1, by have := HX.out.2.1; rw [show (z * n + (y + 1)) * n = (z * n + y) * n + n by rw [← Nat.add_assoc, Nat.succ_mul]]; exact this, HX.out.2.2.1⟩
                case measure => simp [intOf]; omega
          · have hye : n = y := by omega
            subst hye
            go_wp2
            go_roundw
            case rel => exact ⟨z + 1, us, by omega, by go_num, by rw [← HY.out.2.2.2]; exact HY.out.1, by have := HY.out.2.1; rw [show (z + 1) * n * n = (z * n + n) * n by rw [Nat.succ_mul]]; exact this, HY.out.2.2.1⟩
            case measure => simp [intOf]; omega
      · have hze : n = z := by omega
        subst hze
        have hfw := HS.out.2.2.2.2.1 (n * n * n)
        have h24 : n * n * n ≤ 16777216 := Nat.mul_le_mul (Nat.mul_le_mul (show n ≤ 256 by omega) (show n ≤ 256 by omega)) (show n ≤ 256 by omega)
        have hcal := canon04_any A1 c1 ts wr (hown.sl encT_len (Nat.le_refl _)) (by rw [hct]; omega) (by rw [hct]; exact HS.out.2.2.2.2.2)
        have hcl : (canonO ts).length = ts.length := by
          have h1 := (canonT_perm ts).length_eq
          rw [List.length_map] at h1
          exact h1
        rw [hct, ← HS.out.2.2.1, ← hct] at hcl
        rw [hct, ← HS.out.2.2.1, ← hct] at hcal
        obtain ⟨tl, htl⟩ : ∃ tl, tl = ts.length := ⟨_, rfl⟩
        rw [← htl] at hcal hcl ⊢
        have hBw := HB.out.1.trans (hB.mono HB.out.1.size)
        have HT := hide (And.intro hcal (And.intro hcl hBw))
        clear hown hcal hct hB htl hcl hBw hfw
        go_wp2_with fail
        refine HT.out.1.mono ?_
        rintro e w4 ⟨A', c', rfl, hB4, hsl4, hc4⟩
        have HE := hide (And.intro hsl4 (HT.out.2.2.trans (hB4.mono HT.out.2.2.size)))
        clear hB4 hsl4 hc4
        go_wp2
        go_ret
        exact ⟨A', c', by rw [HT.out.2.1]; rfl, HE.out.2, HE.out.1⟩
end Go.Proofs.Ytfljcgehhnmamaa
