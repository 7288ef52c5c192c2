/- (ref08.cell).face along axis 1 (printed by mk_RefF.py). -/
import Derived.Test.YtfljcgehhnmamaaCRefF0
namespace Go.Proofs.Ytfljcgehhnmamaa
open Go.RowKit Go.Sort
set_option maxRecDepth 100000 in
set_option maxHeartbeats 16000000 in
theorem faceR_1 (bj : Nat) (ins : Nat → Bool) (ms : List (Nat × Nat)) (pos : Bool) (w : World) (hb : Blk w bj 91 (cellL ins ms).toArray) :
    Calls Try.prog 48 #[.pointer (some ⟨bj, 0, none⟩), .int .i64 1, .bool pos] w fun e w' => e = .returned (.tuple #[]) ∧ Blk w' bj 91 (cellL ins (ms ++ faceE ins 1 pos)).toArray ∧ w.grownBy w' (some bj) := by
  have hlt := hb.lt
  obtain ⟨s, hs⟩ : ∃ s : Nat, s = if pos then 2 else 0 := ⟨_, rfl⟩
  have hs4 : s ≤ 4 := by rw [hs]; split <;> omega
  have hfv : ∀ k : Nat, k < 4 → faceV 1 pos k = s + k % 2 * 4 + k / 2 * 1 := fun k _ => by rw [hs]; cases pos <;> rfl
  have HB := hide (And.intro hb (And.intro hs hfv))
  clear hb hs hfv
  go_enter Try.func48, Try.ntmps48
  go_upto_if 15 with fail
  go_cut [6] (fun v wx => v = .int .i64 s ∧ wx = w)
  case first =>
    have hse := HB.out.2.1
    cases pos
    · go_wp2_with fail
      go_meet
      case rel => exact ⟨by rw [hse]; rfl, rfl⟩
    · go_wp2_with fail
      go_meet
      case rel => exact ⟨by rw [hse]; rfl, rfl⟩
  case rest =>
    obtain ⟨rfl, rfl⟩ := hcut
    obtain ⟨w, rfl⟩ : ∃ w, w = wc := ⟨_, rfl⟩
    go_wp2
    go_loopw [9, 10, 11] (fun lv iv kv wr => ∃ k : Nat, k ≤ 4 ∧ kv = .int .i64 k ∧ Own encI 1 3 wr w.heap.size lv (crossE ins 1 pos k).length (crossE ins 1 pos k) ∧ iv = .int .i64 (lastE ins 1 pos k) ∧ Below w.heap.size w wr) (fun _ _ kv _ => 4 - (intOf kv).toNat)
    case atStart => exact ⟨0, by omega, rfl, Own.nil, rfl, Below.refl _ w⟩
    case round =>
      obtain ⟨k, hk, rfl, hown, rfl, hB⟩ := hrel
      have hcf := crossE_few ins 1 pos k
      have hcs := crossE_succ ins 1 pos k
      obtain ⟨C, hC⟩ : ∃ C, C = crossE ins 1 pos k := ⟨_, rfl⟩
      obtain ⟨l0, hl0⟩ : ∃ l, l = lastE ins 1 pos k := ⟨_, rfl⟩
      obtain ⟨R, rfl⟩ : ∃ R, R = wr := ⟨_, rfl⟩
      rw [← hC] at hown hcf hcs
      rw [← hl0]
      obtain ⟨Ac, cc, rfl⟩ := hown.form
      obtain ⟨cl, hcl⟩ : ∃ cl, cl = C.length := ⟨_, rfl⟩
      rw [← hcl] at hown hcf ⊢
      by_cases hlt4 : k < 4
      · obtain ⟨v, hv⟩ : ∃ v, v = faceV 1 pos k := ⟨_, rfl⟩
        have hve := HB.out.2.2 k hlt4
        have hv8 : v < 8 := by rw [hv]; exact faceV_lt (by omega) pos hlt4
        have hvb : k % 2 = 0 → v + 4 < 8 := fun h => by rw [hv]; exact faceV_b (by omega) pos hlt4 h
        have hvd : k / 2 = 0 → v + 1 < 8 := fun h => by rw [hv]; exact faceV_d (by omega) pos hlt4 h
        rw [← hv] at hve hcs
        have hlx : lastE ins 1 pos (k + 1) = if ins v then (v : Int) else l0 := by rw [hv, hl0]; rfl
        have hx1 : xb1 ins 1 pos k = (decide (k % 2 = 0) && (ins v != ins (v + 4))) := by rw [hv]; rfl
        have hx2 : xb2 ins 1 pos k = (decide (k / 2 = 0) && (ins v != ins (v + 1))) := by rw [hv]; rfl
        obtain ⟨x1, hx1e⟩ : ∃ x, x = xb1 ins 1 pos k := ⟨_, rfl⟩
        obtain ⟨x2, hx2e⟩ : ∃ x, x = xb2 ins 1 pos k := ⟨_, rfl⟩
        rw [← hx1e, ← hx2e] at hcs
        rw [← hx1e] at hx1
        rw [← hx2e] at hx2
        have hbR := HB.out.1.below hB hlt
        have i1 : (k : Int) < 4 := by omega
        have HR := hide (And.intro hown (And.intro hB (And.intro hcs (And.intro hlx (And.intro hve hcl)))))
        have HX := hide (And.intro hx1 (And.intro hx2 (And.intro hvb (And.intro hvd hbR))))
        clear hown hB hcs hlx hve hcl hx1 hx2 hvb hvd hbR hx1e hx2e hv hC hl0
        go_upto_region 10 with fail
        go_cut [12] (fun vv wx => vv = .int .i64 v ∧ ∃ q, wx = R.drewN q)
        case first =>
          have hve := HR.out.2.2.2.2.1
          have hcs : k = 0 ∨ k = 1 ∨ k = 2 ∨ k = 3 := by omega
          have hss : s = 0 ∨ s = 2 := by rw [HB.out.2.1]; cases pos <;> simp
          rcases hcs with rfl | rfl | rfl | rfl <;> rcases hss with rfl | rfl
          all_goals
            go_quiet (fail)
            go_wp2_with fail
            go_meet
            case rel => exact ⟨by rw [hve]; rfl, nq, rfl⟩
        case rest =>
          obtain ⟨rfl, q, rfl⟩ := hcut
          have hcell := HX.out.2.2.2.2
          have c1 : (R.drewN q).cell? ⟨bj, v, none⟩ = some (.bool (ins v)) := by rw [Blk.cell (hcell.drewN q), List.getElem?_toArray]; exact cellL_in ins ms hv8
          obtain ⟨V, hV⟩ : ∃ V, V = R.drewN q := ⟨_, rfl⟩
          have hBV : Below R.heap.size R V := by rw [hV]; exact below_drewN (Below.refl _ R) q
          have hbV : Blk V bj 91 (cellL ins ms).toArray := by rw [hV]; exact hcell.drewN q
          rw [← hV] at c1 ⊢
          have v1 : (v : Int) < 8 := by omega
          obtain ⟨iv, hiv⟩ : ∃ iv, iv = ins v := ⟨_, rfl⟩
          obtain ⟨l1, hl1⟩ : ∃ l1, l1 = lastE ins 1 pos (k + 1) := ⟨_, rfl⟩
          have hlx := HR.out.2.2.2.1
          rw [← hl1, ← hiv] at hlx
          rw [← hiv] at c1
          have HV := hide (And.intro hBV (And.intro hbV (And.intro hlx hl1)))
          clear hcell hV hBV hbV hlx hl1 hiv
          go_upto_if 44 with fail
          go_cut [10] (fun lv wx => lv = .int .i64 l1 ∧ wx = V)
          case first =>
            have hlx := HV.out.2.2.1
            cases iv
            · go_wp2_with fail
              go_meet
              case rel => exact ⟨by rw [hlx]; rfl, rfl⟩
            · go_wp2_with fail
              go_meet
              case rel => exact ⟨by rw [hlx]; rfl, rfl⟩
          case rest =>
            obtain ⟨rfl, rfl⟩ := hcut
            obtain ⟨V, rfl⟩ : ∃ V, V = wc := ⟨_, rfl⟩
            clear c1
            go_upto_region 13 with fail
            go_cut [66] (fun bv wx => bv = .bool x1 ∧ ∃ q, wx = V.drewN q)
            case first =>
              have hve := HR.out.2.2.2.2.1
              have hbV := HV.out.2.1
              have hx := HX.out.1
              have hcs : k = 0 ∨ k = 1 ∨ k = 2 ∨ k = 3 := by omega
              have hss : s = 0 ∨ s = 2 := by rw [HB.out.2.1]; cases pos <;> simp
              rcases hcs with rfl | rfl | rfl | rfl <;> rcases hss with rfl | rfl
              · obtain rfl : v = 0 := hve
                have c1 : V.cell? ⟨bj, 0, none⟩ = some (.bool (ins 0)) := by rw [hbV.cell, List.getElem?_toArray]; exact cellL_in ins ms (by omega)
                have c2 : V.cell? ⟨bj, 4, none⟩ = some (.bool (ins 4)) := by rw [hbV.cell, List.getElem?_toArray]; exact cellL_in ins ms (by omega)
                obtain ⟨ya, hya⟩ : ∃ y, y = ins 0 := ⟨_, rfl⟩
                obtain ⟨yb, hyb⟩ : ∃ y, y = ins 4 := ⟨_, rfl⟩
                have HQ := hide (show x1 = (ya != yb) by rw [hx, hya, hyb]; rfl)
                rw [← hya] at c1
                rw [← hyb] at c2
                clear hya hyb hx
                cases ya <;> cases yb
                all_goals
                  go_quiet (fail)
                  go_wp2_with fail
                  go_meet
                  case rel => exact ⟨by rw [HQ.out]; rfl, nq, rfl⟩
              · obtain rfl : v = 2 := hve
                have c1 : V.cell? ⟨bj, 2, none⟩ = some (.bool (ins 2)) := by rw [hbV.cell, List.getElem?_toArray]; exact cellL_in ins ms (by omega)
                have c2 : V.cell? ⟨bj, 6, none⟩ = some (.bool (ins 6)) := by rw [hbV.cell, List.getElem?_toArray]; exact cellL_in ins ms (by omega)
                obtain ⟨ya, hya⟩ : ∃ y, y = ins 2 := ⟨_, rfl⟩
                obtain ⟨yb, hyb⟩ : ∃ y, y = ins 6 := ⟨_, rfl⟩
                have HQ := hide (show x1 = (ya != yb) by rw [hx, hya, hyb]; rfl)
                rw [← hya] at c1
                rw [← hyb] at c2
                clear hya hyb hx
                cases ya <;> cases yb
                all_goals
                  go_quiet (fail)
                  go_wp2_with fail
                  go_meet
                  case rel => exact ⟨by rw [HQ.out]; rfl, nq, rfl⟩
              · obtain rfl : v = 4 := hve
                have HQ := hide (show x1 = false by rw [hx]; rfl)
                clear hx
                go_quiet (fail)
                go_wp2_with fail
                go_meet
                case rel => exact ⟨by rw [HQ.out], nq, rfl⟩
              · obtain rfl : v = 6 := hve
                have HQ := hide (show x1 = false by rw [hx]; rfl)
                clear hx
                go_quiet (fail)
                go_wp2_with fail
                go_meet
                case rel => exact ⟨by rw [HQ.out], nq, rfl⟩
              · obtain rfl : v = 1 := hve
                have c1 : V.cell? ⟨bj, 1, none⟩ = some (.bool (ins 1)) := by rw [hbV.cell, List.getElem?_toArray]; exact cellL_in ins ms (by omega)
                have c2 : V.cell? ⟨bj, 5, none⟩ = some (.bool (ins 5)) := by rw [hbV.cell, List.getElem?_toArray]; exact cellL_in ins ms (by omega)
                obtain ⟨ya, hya⟩ : ∃ y, y = ins 1 := ⟨_, rfl⟩
                obtain ⟨yb, hyb⟩ : ∃ y, y = ins 5 := ⟨_, rfl⟩
                have HQ := hide (show x1 = (ya != yb) by rw [hx, hya, hyb]; rfl)
                rw [← hya] at c1
                rw [← hyb] at c2
                clear hya hyb hx
                cases ya <;> cases yb
                all_goals
                  go_quiet (fail)
                  go_wp2_with fail
                  go_meet
                  case rel => exact ⟨by rw [HQ.out]; rfl, nq, rfl⟩
              · obtain rfl : v = 3 := hve
                have c1 : V.cell? ⟨bj, 3, none⟩ = some (.bool (ins 3)) := by rw [hbV.cell, List.getElem?_toArray]; exact cellL_in ins ms (by omega)
                have c2 : V.cell? ⟨bj, 7, none⟩ = some (.bool (ins 7)) := by rw [hbV.cell, List.getElem?_toArray]; exact cellL_in ins ms (by omega)
                obtain ⟨ya, hya⟩ : ∃ y, y = ins 3 := ⟨_, rfl⟩
                obtain ⟨yb, hyb⟩ : ∃ y, y = ins 7 := ⟨_, rfl⟩
                have HQ := hide (show x1 = (ya != yb) by rw [hx, hya, hyb]; rfl)
                rw [← hya] at c1
                rw [← hyb] at c2
                clear hya hyb hx
                cases ya <;> cases yb
                all_goals
                  go_quiet (fail)
                  go_wp2_with fail
                  go_meet
                  case rel => exact ⟨by rw [HQ.out]; rfl, nq, rfl⟩
              · obtain rfl : v = 5 := hve
                have HQ := hide (show x1 = false by rw [hx]; rfl)
                clear hx
                go_quiet (fail)
                go_wp2_with fail
                go_meet
                case rel => exact ⟨by rw [HQ.out], nq, rfl⟩
              · obtain rfl : v = 7 := hve
                have HQ := hide (show x1 = false by rw [hx]; rfl)
                clear hx
                go_quiet (fail)
                go_wp2_with fail
                go_meet
                case rel => exact ⟨by rw [HQ.out], nq, rfl⟩
            case rest =>
              obtain ⟨rfl, q1, rfl⟩ := hcut
              obtain ⟨V1, hV1⟩ : ∃ V1, V1 = V.drewN q1 := ⟨_, rfl⟩
              rw [← hV1]
              have hB1 : Below w.heap.size w V1 := by rw [hV1]; exact below_drewN (HR.out.2.1.trans (HV.out.1.mono HR.out.2.1.size)) q1
              have hb1 : Blk V1 bj 91 (cellL ins ms).toArray := by rw [hV1]; exact HV.out.2.1.drewN q1
              have ho1 : Own encI 1 3 V1 w.heap.size (.slice Ac cl cc) cl C := by rw [hV1]; exact HR.out.1.below (below_drewN HV.out.1 q1) (Nat.le_refl _)
              have he : ∀ W, Calls Try.prog 76 #[.int .i64 v, .int .i64 2] W fun e w' => e = .returned (.int .i64 (edgeE v 2 : Nat)) ∧ w' = W := fun W => edge_any v 2 hv8 (by omega) W
              obtain ⟨e1, he1⟩ : ∃ e, e = edgeE v 2 := ⟨_, rfl⟩
              rw [← he1] at he
              obtain ⟨C1, hC1⟩ : ∃ C1, C1 = C ++ (if x1 = true then [e1] else []) := ⟨_, rfl⟩
              have HW := hide (And.intro hB1 (And.intro hb1 (And.intro ho1 (And.intro he (And.intro he1 hC1)))))
              have hz1 := hB1.size
              clear hV1 hB1 hb1 ho1 he he1 hC1
              go_upto_if 66 with fail
              go_cut [9] (fun lv wx => Own encI 1 3 wx w.heap.size lv C1.length C1 ∧ Below w.heap.size w wx ∧ Blk wx bj 91 (cellL ins ms).toArray ∧ V1.heap.size ≤ wx.heap.size)
              case first =>
                have hC1 := HW.out.2.2.2.2.2
                have hcl := HR.out.2.2.2.2.2
                cases x1
                · go_wp2_with fail
                  go_meet
                  case rel =>
                    rw [if_neg (by simp), List.append_nil] at hC1
                    rw [hC1, ← hcl]
                    exact ⟨HW.out.2.2.1, HW.out.1, HW.out.2.1, Nat.le_refl _⟩
                · clear hC1 hcl
                  go_wp2_with fail
                  with_reducible refine (HW.out.2.2.2.1 _).mono ?_
                  rintro e w6 ⟨rfl, rfl⟩
                  obtain ⟨V1, rfl⟩ : ∃ V1, V1 = w6 := ⟨_, rfl⟩
                  have ho1 := HW.out.2.2.1.alloc (.cells (encI e1).toArray 3)
                  have HO := hide ho1
                  clear ho1
                  go_wp2_with (at_builtin; refine wpList_append1 rfl _ _ _ rfl Try.underlying22 infoI rfl (by omega) encI_len encI_one rfl HO.out V1.heap.size 1 e1 rfl (Blk.new _ _ _) (by unfold maxLen; omega) (by omega) (by simp; omega) ?_; intro g cap w7 hown7 hg7 hB7 hat7 hgb7 hlt7)
                  go_meet
                  case rel =>
                    have hC1 := HW.out.2.2.2.2.2
                    have hcl := HR.out.2.2.2.2.2
                    have hBB := (HW.out.1.alloc hz1 (.cells (encI e1).toArray 3)).trans hB7
                    rw [if_pos trivial] at hC1
                    rw [hC1, List.length_append, ← hcl]
                    exact ⟨hown7, hBB, HB.out.1.below hBB hlt, by have := hg7.size; simp at this; omega⟩
              case rest =>
                obtain ⟨ho2, hB2, hb2, hz2⟩ := hcut
                obtain ⟨V2, rfl⟩ : ∃ V2, V2 = wc := ⟨_, rfl⟩
                obtain ⟨A2, c2, rfl⟩ := ho2.form
                obtain ⟨cl2, hcl2⟩ : ∃ cl, cl = C1.length := ⟨_, rfl⟩
                rw [← hcl2] at ho2 ⊢
                have hcl2b : cl2 ≤ 9 := by rw [hcl2, HW.out.2.2.2.2.2, List.length_append, ← HR.out.2.2.2.2.2]; cases x1 <;> simp <;> omega
                have H2 := hide (And.intro ho2 (And.intro hB2 (And.intro hb2 hcl2)))
                have hzw := hB2.size
                clear ho2 hB2 hb2 hcl2
                go_upto_region 15 with fail
                go_cut [93] (fun bv wx => bv = .bool x2 ∧ ∃ q, wx = V2.drewN q)
                case first =>
                  have hve := HR.out.2.2.2.2.1
                  have hbV := H2.out.2.2.1
                  have hx := HX.out.2.1
                  have hcs : k = 0 ∨ k = 1 ∨ k = 2 ∨ k = 3 := by omega
                  have hss : s = 0 ∨ s = 2 := by rw [HB.out.2.1]; cases pos <;> simp
                  rcases hcs with rfl | rfl | rfl | rfl <;> rcases hss with rfl | rfl
                  · obtain rfl : v = 0 := hve
                    have c1 : V2.cell? ⟨bj, 0, none⟩ = some (.bool (ins 0)) := by rw [hbV.cell, List.getElem?_toArray]; exact cellL_in ins ms (by omega)
                    have c2 : V2.cell? ⟨bj, 1, none⟩ = some (.bool (ins 1)) := by rw [hbV.cell, List.getElem?_toArray]; exact cellL_in ins ms (by omega)
                    obtain ⟨ya, hya⟩ : ∃ y, y = ins 0 := ⟨_, rfl⟩
                    obtain ⟨yb, hyb⟩ : ∃ y, y = ins 1 := ⟨_, rfl⟩
                    have HQ := hide (show x2 = (ya != yb) by rw [hx, hya, hyb]; rfl)
                    rw [← hya] at c1
                    rw [← hyb] at c2
                    clear hya hyb hx
                    cases ya <;> cases yb
                    all_goals
                      go_quiet (fail)
                      go_wp2_with fail
                      go_meet
                      case rel => exact ⟨by rw [HQ.out]; rfl, nq, rfl⟩
                  · obtain rfl : v = 2 := hve
                    have c1 : V2.cell? ⟨bj, 2, none⟩ = some (.bool (ins 2)) := by rw [hbV.cell, List.getElem?_toArray]; exact cellL_in ins ms (by omega)
                    have c2 : V2.cell? ⟨bj, 3, none⟩ = some (.bool (ins 3)) := by rw [hbV.cell, List.getElem?_toArray]; exact cellL_in ins ms (by omega)
                    obtain ⟨ya, hya⟩ : ∃ y, y = ins 2 := ⟨_, rfl⟩
                    obtain ⟨yb, hyb⟩ : ∃ y, y = ins 3 := ⟨_, rfl⟩
                    have HQ := hide (show x2 = (ya != yb) by rw [hx, hya, hyb]; rfl)
                    rw [← hya] at c1
                    rw [← hyb] at c2
                    clear hya hyb hx
                    cases ya <;> cases yb
                    all_goals
                      go_quiet (fail)
                      go_wp2_with fail
                      go_meet
                      case rel => exact ⟨by rw [HQ.out]; rfl, nq, rfl⟩
                  · obtain rfl : v = 4 := hve
                    have c1 : V2.cell? ⟨bj, 4, none⟩ = some (.bool (ins 4)) := by rw [hbV.cell, List.getElem?_toArray]; exact cellL_in ins ms (by omega)
                    have c2 : V2.cell? ⟨bj, 5, none⟩ = some (.bool (ins 5)) := by rw [hbV.cell, List.getElem?_toArray]; exact cellL_in ins ms (by omega)
                    obtain ⟨ya, hya⟩ : ∃ y, y = ins 4 := ⟨_, rfl⟩
                    obtain ⟨yb, hyb⟩ : ∃ y, y = ins 5 := ⟨_, rfl⟩
                    have HQ := hide (show x2 = (ya != yb) by rw [hx, hya, hyb]; rfl)
                    rw [← hya] at c1
                    rw [← hyb] at c2
                    clear hya hyb hx
                    cases ya <;> cases yb
                    all_goals
                      go_quiet (fail)
                      go_wp2_with fail
                      go_meet
                      case rel => exact ⟨by rw [HQ.out]; rfl, nq, rfl⟩
                  · obtain rfl : v = 6 := hve
                    have c1 : V2.cell? ⟨bj, 6, none⟩ = some (.bool (ins 6)) := by rw [hbV.cell, List.getElem?_toArray]; exact cellL_in ins ms (by omega)
                    have c2 : V2.cell? ⟨bj, 7, none⟩ = some (.bool (ins 7)) := by rw [hbV.cell, List.getElem?_toArray]; exact cellL_in ins ms (by omega)
                    obtain ⟨ya, hya⟩ : ∃ y, y = ins 6 := ⟨_, rfl⟩
                    obtain ⟨yb, hyb⟩ : ∃ y, y = ins 7 := ⟨_, rfl⟩
                    have HQ := hide (show x2 = (ya != yb) by rw [hx, hya, hyb]; rfl)
                    rw [← hya] at c1
                    rw [← hyb] at c2
                    clear hya hyb hx
                    cases ya <;> cases yb
                    all_goals
                      go_quiet (fail)
                      go_wp2_with fail
                      go_meet
                      case rel => exact ⟨by rw [HQ.out]; rfl, nq, rfl⟩
                  · obtain rfl : v = 1 := hve
                    have HQ := hide (show x2 = false by rw [hx]; rfl)
                    clear hx
                    go_quiet (fail)
                    go_wp2_with fail
                    go_meet
                    case rel => exact ⟨by rw [HQ.out], nq, rfl⟩
                  · obtain rfl : v = 3 := hve
                    have HQ := hide (show x2 = false by rw [hx]; rfl)
                    clear hx
                    go_quiet (fail)
                    go_wp2_with fail
                    go_meet
                    case rel => exact ⟨by rw [HQ.out], nq, rfl⟩
                  · obtain rfl : v = 5 := hve
                    have HQ := hide (show x2 = false by rw [hx]; rfl)
                    clear hx
                    go_quiet (fail)
                    go_wp2_with fail
                    go_meet
                    case rel => exact ⟨by rw [HQ.out], nq, rfl⟩
                  · obtain rfl : v = 7 := hve
                    have HQ := hide (show x2 = false by rw [hx]; rfl)
                    clear hx
                    go_quiet (fail)
                    go_wp2_with fail
                    go_meet
                    case rel => exact ⟨by rw [HQ.out], nq, rfl⟩
                case rest =>
                  obtain ⟨rfl, q2, rfl⟩ := hcut
                  obtain ⟨V3, hV3⟩ : ∃ V3, V3 = V2.drewN q2 := ⟨_, rfl⟩
                  rw [← hV3]
                  have hB3 : Below w.heap.size w V3 := by rw [hV3]; exact below_drewN H2.out.2.1 q2
                  have ho3 : Own encI 1 3 V3 w.heap.size (.slice A2 cl2 c2) cl2 C1 := by rw [hV3]; exact H2.out.1.below (below_drewN (Below.refl _ V2) q2) (Nat.le_refl _)
                  have he : ∀ W, Calls Try.prog 76 #[.int .i64 v, .int .i64 0] W fun e w' => e = .returned (.int .i64 (edgeE v 0 : Nat)) ∧ w' = W := fun W => edge_any v 0 hv8 (by omega) W
                  obtain ⟨e2, he2⟩ : ∃ e, e = edgeE v 0 := ⟨_, rfl⟩
                  rw [← he2] at he
                  have hcs : crossE ins 1 pos (k + 1) = C1 ++ (if x2 = true then [e2] else []) := by
                    rw [HR.out.2.2.1, HW.out.2.2.2.2.2, HW.out.2.2.2.2.1, he2]
                  have H3 := hide (And.intro hB3 (And.intro ho3 (And.intro he hcs)))
                  have hz3 := hB3.size
                  clear hV3 hB3 ho3 he hcs he2
                  cases x2
                  · go_wp2_with fail
                    go_roundw
                    case rel =>
                      refine ⟨k + 1, by omega, by go_num, ?_, ?_, H3.out.1⟩
                      · rw [H3.out.2.2.2, if_neg (by simp), List.append_nil, ← H2.out.2.2.2]
                        exact H3.out.2.1
                      · rw [← HV.out.2.2.2]
                    case measure => simp [intOf]; omega
                  · go_wp2_with fail
                    with_reducible refine (H3.out.2.2.1 _).mono ?_
                    rintro e w6 ⟨rfl, rfl⟩
                    obtain ⟨V3, rfl⟩ : ∃ V3, V3 = w6 := ⟨_, rfl⟩
                    have ho1 := H3.out.2.1.alloc (.cells (encI e2).toArray 3)
                    have HO := hide ho1
                    clear ho1
                    go_wp2_with (at_builtin; refine wpList_append1 rfl _ _ _ rfl Try.underlying22 infoI rfl (by omega) encI_len encI_one rfl HO.out V3.heap.size 1 e2 rfl (Blk.new _ _ _) (by unfold maxLen; omega) (by omega) (by simp; omega) ?_; intro g cap w7 hown7 hg7 hB7 hat7 hgb7 hlt7)
                    go_roundw
                    case rel =>
                      refine ⟨k + 1, by omega, by go_num, ?_, ?_, (H3.out.1.alloc hz3 _).trans hB7⟩
                      · rw [H3.out.2.2.2, if_pos trivial, List.length_append, ← H2.out.2.2.2]
                        exact hown7
                      · rw [← HV.out.2.2.2]
                    case measure => simp [intOf]; omega
      · obtain rfl : k = 4 := by omega
        have hbR := HB.out.1.below hB hlt
        have hgR : w.grownBy R (some bj) := ⟨hB.os, hB.tape, hB.output, hB.size, fun i hi _ => hB.block i hi⟩
        rcases crossE_cases ins (a := 1) (by omega) pos with h0 | ⟨p, q, vv, h2, hp, hq, hv8, hl⟩ | ⟨ea, eb, ec, ed, h4⟩
        · have hcl0 : cl = 0 := by rw [hcl, hC, h0]; rfl
          subst hcl0
          have HE := hide (And.intro hbR (And.intro hgR h0))
          clear hown hB hcs hcf hC hl0 hbR hgR h0 hcl
          go_wp2
          go_end0
          refine ⟨rfl, ?_, HE.out.2.1⟩
          have hf : faceE ins 1 pos = [] := by unfold faceE; rw [HE.out.2.2]
          rw [hf, List.append_nil]
          exact HE.out.1
        · have hcl0 : cl = 2 := by rw [hcl, hC, h2]; rfl
          rw [hl] at hl0
          rw [h2] at hC
          subst hcl0 hC hl0
          obtain ⟨g, cap0, hv0, hgb, hgl⟩ := hown.at (by simp)
          obtain rfl : Ac = some ⟨g, 0, none⟩ := by injection hv0
          obtain ⟨b1, o1, e1, _, hc0⟩ := (hown.sl encI_len (Nat.le_refl _)).at (i := 0) (x := p) rfl
          cases e1
          obtain ⟨b1, o1, e1, _, hc1⟩ := (hown.sl encI_len (Nat.le_refl _)).at (i := 1) (x := q) rfl
          cases e1
          have p0 := hc0 0 _ rfl
          have q0 := hc1 0 _ rfl
          simp only [Nat.zero_add, Nat.zero_mul, Nat.one_mul, Nat.add_zero] at p0 q0
          have hS : R.drew.cell? ⟨g, 0, none⟩ = some (.int .i64 p) ∧ R.drew.cell? ⟨g, 1, none⟩ = some (.int .i64 q) := ⟨p0, q0⟩
          have hcall : Calls Try.prog 77 #[.pointer (some ⟨bj, 0, none⟩), .int .i64 p, .int .i64 q, .int .i64 vv, .int .i64 1, .bool pos] R.drew fun r w' => r = .returned (.tuple #[]) ∧ Blk w' bj 91 (cellL ins (ms ++ [joinE p q vv 1 pos])).toArray ∧ R.drew.grownBy w' (some bj) := joinE_any bj ins ms p q vv 1 hp hq hv8 (by omega) pos R.drew hbR.drew
          have HE := hide (And.intro hS (And.intro hcall (And.intro hgR (And.intro h2 hl))))
          clear hown hB hcs hbR hgR h2 hl hS hcall p0 q0 hc0 hc1 hcf hcl
          go_wp2_with fail
          refine wp_region_mix (fun W => W.cell? ⟨g, 0, none⟩ = some (.int .i64 p) ∧ W.cell? ⟨g, 1, none⟩ = some (.int .i64 q)) [0, 1, 2, 3, 4, 5, 6, 7, 8, 9] [0, 1, 2, 3, 4, 5, 6, 7, 8, 9, 10] mixed_ok (by kernel_rfl) ?_
          refine wpMix_q (v := .pointer (some ⟨bj, 0, none⟩)) rfl rfl (fun _ _ _ h => h) HE.out.1 ⟨rfl, fun _ _ => by simp [go_sem]⟩ ?_
          refine wpMix_q (v := .slice (some ⟨g, 0, none⟩) 2 cc) rfl rfl (fun _ _ _ h => h) HE.out.1 ⟨rfl, fun _ _ => by simp [go_sem]⟩ ?_
          refine wpMix_q (v := .pointer (some ⟨g, 0, none⟩)) rfl rfl (fun _ _ _ h => h) HE.out.1 ⟨rfl, fun _ _ => by simp [go_sem]⟩ ?_
          refine wpMix_q (v := .int .i64 p) rfl rfl (fun _ _ _ h => h) HE.out.1 ⟨rfl, fun _ h' => by simp [go_sem, h'.1]⟩ ?_
          refine wpMix_q (v := .slice (some ⟨g, 0, none⟩) 2 cc) rfl rfl (fun _ _ _ h => h) HE.out.1 ⟨rfl, fun _ _ => by simp [go_sem]⟩ ?_
          refine wpMix_q (v := .pointer (some ⟨g, 1, none⟩)) rfl rfl (fun _ _ _ h => h) HE.out.1 ⟨rfl, fun _ _ => by simp [go_sem]⟩ ?_
          refine wpMix_q (v := .int .i64 q) rfl rfl (fun _ _ _ h => h) HE.out.1 ⟨rfl, fun _ h' => by simp [go_sem, h'.2]⟩ ?_
          refine wpMix_q (v := .int .i64 vv) rfl rfl (fun _ _ _ h => h) HE.out.1 ⟨rfl, fun _ _ => by simp [go_sem]⟩ ?_
          refine wpMix_q (v := .int .i64 1) rfl rfl (fun _ _ _ h => h) HE.out.1 ⟨rfl, fun _ _ => by simp [go_sem]⟩ ?_
          refine wpMix_q (v := .bool pos) rfl rfl (fun _ _ _ h => h) HE.out.1 ⟨rfl, fun _ _ => by simp [go_sem]⟩ ?_
          refine wpMix_tail _ [_] (by kernel_rfl) rfl ?_
          simp only [List.getElem_toArray, List.getElem_cons_succ, List.getElem_cons_zero]
          go_wp2_with fail
          with_reducible refine HE.out.2.1.mono ?_
          rintro e w9 ⟨rfl, hJ9, hg9⟩
          have H9 := hide (And.intro hJ9 hg9)
          clear hJ9 hg9
          go_wp2
          go_end0
          refine ⟨rfl, ?_, ?_⟩
          · have hf : faceE ins 1 pos = [joinE p q vv 1 pos] := by
              unfold faceE
              rw [HE.out.2.2.2.1, HE.out.2.2.2.2]
              rfl
            rw [hf]
            exact H9.out.1
          · exact HE.out.2.2.1.andThen (grown_drew9 H9.out.2) (fun j hj => .inr hj)
        · have hcl0 : cl = 4 := by rw [hcl, hC, h4]; rfl
          subst hcl0
          have HE := hide (And.intro hbR (And.intro hgR h4))
          obtain ⟨R0, hR0⟩ : ∃ R0, R0 = R := ⟨_, rfl⟩
          rw [← hR0] at HE ⊢
          clear hown hB hcs hcf hC hl0 hbR hgR h4 hcl hR0
          go_wp2
          rw [show ((4 : Nat) : Int) = 4 from rfl]
          go_loopw [13] (fun iv wx => ∃ k : Nat, k ≤ 4 ∧ iv = .int .i64 k ∧ Blk wx bj 91 (cellL ins (ms ++ fourE ins 1 pos k)).toArray ∧ R0.grownBy wx (some bj)) (fun iv _ => 4 - (intOf iv).toNat)
          case atStart => exact ⟨0, by omega, rfl, by simpa [fourE] using HE.out.1, World.grownBy.refl _ _⟩
          case round =>
            obtain ⟨k, hk, rfl, hb, hg⟩ := hrel
            obtain ⟨W, rfl⟩ : ∃ W, W = wr := ⟨_, rfl⟩
            by_cases hlt4 : k < 4
            · obtain ⟨v, hv⟩ : ∃ v, v = faceV 1 pos k := ⟨_, rfl⟩
              have hve := HB.out.2.2 k hlt4
              have hv8 : v < 8 := by rw [hv]; exact faceV_lt (by omega) pos hlt4
              rw [← hv] at hve
              have hfs := fourE_succ ins 1 pos k
              rw [← hv] at hfs
              obtain ⟨M, hM⟩ : ∃ M, M = ms ++ fourE ins 1 pos k := ⟨_, rfl⟩
              rw [← hM] at hb
              have i1 : (k : Int) < 4 := by omega
              have HR := hide (And.intro hb (And.intro hg (And.intro hfs (And.intro hve hM))))
              clear hb hg hfs hve hM hv
              go_upto_region 23 with fail
              go_cut [14] (fun vv wx => vv = .int .i64 v ∧ ∃ q, wx = W.drewN q)
              case first =>
                have hve := HR.out.2.2.2.1
                have hcs : k = 0 ∨ k = 1 ∨ k = 2 ∨ k = 3 := by omega
                have hss : s = 0 ∨ s = 2 := by rw [HB.out.2.1]; cases pos <;> simp
                rcases hcs with rfl | rfl | rfl | rfl <;> rcases hss with rfl | rfl
                all_goals
                  go_quiet (fail)
                  go_wp2_with fail
                  go_meet
                  case rel => exact ⟨by rw [hve]; rfl, nq, rfl⟩
              case rest =>
                obtain ⟨rfl, q, rfl⟩ := hcut
                obtain ⟨V, hV⟩ : ∃ V, V = W.drewN q := ⟨_, rfl⟩
                have hbV : Blk V bj 91 (cellL ins M).toArray := by rw [hV]; exact HR.out.1.drewN q
                have hgV : R0.grownBy V (some bj) := by rw [hV]; exact grown_drewN9 HR.out.2.1 q
                rw [← hV]
                have c1 : V.cell? ⟨bj, v, none⟩ = some (.bool (ins v)) := by rw [hbV.cell, List.getElem?_toArray]; exact cellL_in ins M hv8
                obtain ⟨iv, hiv⟩ : ∃ iv, iv = ins v := ⟨_, rfl⟩
                have hfs := HR.out.2.2.1
                rw [← hiv] at c1 hfs
                have he1 : ∀ W, Calls Try.prog 76 #[.int .i64 v, .int .i64 2] W fun e w' => e = .returned (.int .i64 (edgeE v 2 : Nat)) ∧ w' = W := fun W => edge_any v 2 hv8 (by omega) W
                have he2 : ∀ W, Calls Try.prog 76 #[.int .i64 v, .int .i64 0] W fun e w' => e = .returned (.int .i64 (edgeE v 0 : Nat)) ∧ w' = W := fun W => edge_any v 0 hv8 (by omega) W
                have hj : ∀ W, Blk W bj 91 (cellL ins M).toArray → Calls Try.prog 77 #[.pointer (some ⟨bj, 0, none⟩), .int .i64 (edgeE v 2 : Nat), .int .i64 (edgeE v 0 : Nat), .int .i64 v, .int .i64 1, .bool pos] W fun r w' => r = .returned (.tuple #[]) ∧ Blk w' bj 91 (cellL ins (M ++ [joinE (edgeE v 2) (edgeE v 0) v 1 pos])).toArray ∧ W.grownBy w' (some bj) := fun W hW => joinE_any bj ins M _ _ v 1 (edgeE_lt hv8 (by omega)) (edgeE_lt hv8 (by omega)) hv8 (by omega) pos W hW
                have v1 : (v : Int) < 8 := by omega
                have HV := hide (And.intro hbV (And.intro hgV (And.intro hfs (And.intro he1 (And.intro he2 hj)))))
                clear hV hbV hgV hfs he1 he2 hj hiv
                cases iv
                · go_wp2
                  go_roundw
                  case rel =>
                    refine ⟨k + 1, by omega, by go_num, ?_, HV.out.2.1⟩
                    rw [HV.out.2.2.1, if_neg (by simp), List.append_nil, ← HR.out.2.2.2.2]
                    exact HV.out.1
                  case measure => simp [intOf]; omega
                · go_wp2_with fail
                  with_reducible refine (HV.out.2.2.2.1 _).mono ?_
                  rintro e w6 ⟨rfl, rfl⟩
                  go_wp2_with fail
                  with_reducible refine (HV.out.2.2.2.2.1 _).mono ?_
                  rintro e w7 ⟨rfl, rfl⟩
                  go_wp2_with fail
                  with_reducible refine (HV.out.2.2.2.2.2 _ HV.out.1).mono ?_
                  rintro e w8 ⟨rfl, hb8, hg8⟩
                  have H8 := hide (And.intro hb8 hg8)
                  clear hb8 hg8 c1
                  go_wp2
                  go_roundw
                  case rel =>
                    refine ⟨k + 1, by omega, by go_num, ?_, HV.out.2.1.trans H8.out.2⟩
                    rw [HV.out.2.2.1, if_pos trivial, ← List.append_assoc, ← HR.out.2.2.2.2]
                    exact H8.out.1
                  case measure => simp [intOf]; omega
            · obtain rfl : k = 4 := by omega
              have HX := hide (And.intro hb hg)
              clear hb hg
              go_wp2
              go_end0
              refine ⟨rfl, ?_, HE.out.2.1.trans HX.out.2⟩
              have hf : faceE ins 1 pos = fourE ins 1 pos 4 := by unfold faceE; rw [HE.out.2.2]
              rw [hf]
              exact HX.out.1
end Go.Proofs.Ytfljcgehhnmamaa
