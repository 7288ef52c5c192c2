/- Joined texts: Blk13. -/
import Derived.Test.YtgndbpkgehjelaaCB8
import Derived.Test.YtgndbpkgehjelaaCB9
/- ref13.Block. -/
namespace Go.Proofs.Ytgndbpkgehjelaa
open Go.RowKit
/-- The least corner behind k triangles and j corners of the next. -/
def minA (ts : List Tri) (k : Nat) (t : Tri) (j : Nat) : Pt := if k = 0 then (if j = 0 then (0, 0, 0) else ancN t.1 t j) else ancN (anc (ts.take k)) t j
def minB (ts : List Tri) (k : Nat) : Pt := anc (ts.take k)
theorem anc_snoc (ts : List Tri) (k : Nat) (t : Tri) (h : ts[k]? = some t) (hk : 0 < k) : anc (ts.take (k + 1)) = ancT (anc (ts.take k)) t := by
  obtain ⟨s, r, rfl⟩ : ∃ s r, ts = s :: r := by
    cases ts with
    | nil => simp at h
    | cons s r => exact ⟨s, r, rfl⟩
  obtain ⟨m, rfl⟩ : ∃ m, k = m + 1 := ⟨k - 1, by omega⟩
  rw [List.take_add_one, h]
  simp [anc, List.foldl_append]
theorem minA_three (ts : List Tri) (k : Nat) (t : Tri) (h : ts[k]? = some t) : minA ts k t 3 = minB ts (k + 1) := by
  unfold minA minB
  by_cases hk : k = 0
  · subst hk
    rw [if_pos rfl, if_neg (by omega)]
    cases ts with
    | nil => simp at h
    | cons s r =>
      simp at h
      subst h
      simp [anc, ancT]
  · rw [if_neg hk, anc_snoc ts k t h (by omega)]
    rfl
theorem minA_zero (ts : List Tri) (k : Nat) (t : Tri) : minA ts k t 0 = minB ts k := by
  unfold minA minB
  by_cases hk : k = 0
  · subst hk; simp [anc]
  · rw [if_neg hk]; rfl
theorem ancP_min (a p : Pt) : ancP a p = (min a.1 p.1, min a.2.1 p.2.1, min a.2.2 p.2.2) := by
  have h : ∀ x y : Int, (if y < x then y else x) = min x y := fun x y => by rw [Int.min_def]; repeat' split
                                                                            all_goals omega
  simp only [ancP, h]
theorem minA_next (ts : List Tri) (k : Nat) (t : Tri) (j : Nat) (h : ¬ (k = 0 ∧ j = 0)) : minA ts k t (j + 1) = (min (minA ts k t j).1 (corner t j).1, min (minA ts k t j).2.1 (corner t j).2.1, min (minA ts k t j).2.2 (corner t j).2.2) := by
  rw [← ancP_min]
  unfold minA
  by_cases hk : k = 0
  · have hj : j ≠ 0 := fun e => h ⟨hk, e⟩
    rw [if_pos hk, if_neg (by omega), if_pos hk, if_neg hj]
    rfl
  · rw [if_neg hk, if_neg hk]
    rfl
theorem minA_first (ts : List Tri) (t : Tri) : minA ts 0 t 1 = t.1 := by
  show ancP t.1 (corner t 0) = t.1
  rw [ancP_min]
  show (min t.1.1 t.1.1, min t.1.2.1 t.1.2.1, min t.1.2.2 t.1.2.2) = t.1
  simp
set_option maxRecDepth 100000 in
set_option maxHeartbeats 4000000 in
theorem Block13_any (A : Option Addr) (c : Nat) (ts : List Tri) (b : Int) (sh : Bool) (w : World) (hs : Sl encT 9 w w.heap.size A ts) (hl : ts.length ≤ 4294967296)
    (hf : fits (anc ts).1 ∧ fits (anc ts).2.1 ∧ fits (anc ts).2.2) :
    Calls Try.prog 15 #[.slice A ts.length c, .int .i64 b, .bool sh] w fun e w' => e = .returned (vP (blockP ts b sh)) ∧ Below w.heap.size w w' := by
  go_enter Try.func15, Try.ntmps15
  have HF := hide hf
  clear hf
  go_wp2
  go_loopw [8] (fun i wr => ∃ k : Nat, k ≤ ts.length ∧ i = .int .i64 k ∧ Below w.heap.size w wr ∧ Blk wr w.heap.size 23 #[.int .i64 0, .int .i64 0, .int .i64 0] ∧ Blk wr (w.heap.size + 1) 23 #[.int .i64 (minB ts k).1, .int .i64 (minB ts k).2.1, .int .i64 (minB ts k).2.2]) (fun i _ => ts.length - (intOf i).toNat)
  case atStart => exact ⟨0, Nat.zero_le _, rfl, ((Below.refl _ w).alloc (Nat.le_refl _) _).alloc (by simp) _, (Blk.new w _ _).alloc _, Blk.new' _ _ _ _ (by simp)⟩
  case round =>
    obtain ⟨k, hk, rfl, hB, hz, ha⟩ := hrel
    by_cases hlt : k < ts.length
    · obtain ⟨t, ht⟩ : ∃ t, ts[k]? = some t := ⟨_, List.getElem?_eq_getElem hlt⟩
      have i1 : (k : Int) < (ts.length : Int) := by omega
      obtain ⟨bb, o, hA, hbb, hcs⟩ := hs.tri ht
      subst hA
      rw [← minA_zero ts k t] at ha
      have H := hide (And.intro hs (And.intro ht hcs))
      have HB := hide (And.intro hB (And.intro hz ha))
      clear hs ht hcs hB hz ha
      go_wp2
      go_loopw [9] (fun i wr => ∃ j : Nat, j ≤ 3 ∧ i = .int .i64 j ∧ Below w.heap.size w wr ∧ Blk wr w.heap.size 23 #[.int .i64 0, .int .i64 0, .int .i64 0] ∧ Blk wr (w.heap.size + 1) 23 #[.int .i64 (minA ts k t j).1, .int .i64 (minA ts k t j).2.1, .int .i64 (minA ts k t j).2.2]) (fun i _ => 3 - (intOf i).toNat)
      case atStart => exact ⟨0, by omega, rfl, HB.out.1, HB.out.2.1, HB.out.2.2⟩
      case round =>
        obtain ⟨j, hj, rfl, hB, hz, ha⟩ := hrel
        have hz0 := hz.lt
        have hz1 := ha.lt
        have hneA : wr.heap.size ≠ w.heap.size + 1 := by omega
        have hneB : w.heap.size + 1 ≠ wr.heap.size := by omega
        have f0 := ha.frozen 0
        have f1 := ha.frozen 1
        have f2 := ha.frozen 2
        have hc : j = 0 ∨ j = 1 ∨ j = 2 ∨ j = 3 := by omega
        rcases hc with rfl | rfl | rfl | rfl
        · have g0 : wr.cell? ⟨bb, o + k * 9, none⟩ = some (.int .i64 t.1.1) := (hB.cell (p := ⟨bb, _, none⟩) hbb).trans H.out.2.2.1
          have g1 : wr.cell? ⟨bb, o + k * 9 + 1, none⟩ = some (.int .i64 t.1.2.1) := (hB.cell (p := ⟨bb, _, none⟩) hbb).trans H.out.2.2.2.1
          have g2 : wr.cell? ⟨bb, o + k * 9 + 2, none⟩ = some (.int .i64 t.1.2.2) := (hB.cell (p := ⟨bb, _, none⟩) hbb).trans H.out.2.2.2.2.1
          by_cases hk0 : k = 0
          · subst hk0
            simp only [Nat.zero_mul, Nat.add_zero] at g0 g1 g2
            have a0 : wr.cell? ⟨w.heap.size + 1, 0, none⟩ = some (.int .i64 (minA ts 0 t 0).1) := ha.cell 0
            have a1 : wr.cell? ⟨w.heap.size + 1, 1, none⟩ = some (.int .i64 (minA ts 0 t 0).2.1) := ha.cell 1
            have a2 : wr.cell? ⟨w.heap.size + 1, 2, none⟩ = some (.int .i64 (minA ts 0 t 0).2.2) := ha.cell 2
            have HT := hide (And.intro hB (And.intro hz ha))
            clear hB hz ha
            go_wp2
            go_roundw
            case rel =>
              refine ⟨1, by omega, rfl, ?_, ((HT.out.2.1.far3 (by omega) _ _ _).far3 (by omega) _ _ _).alloc _, ?_⟩
              · exact (((((((HT.out.1.setCell (by simp) _).setCell (by simp) _).setCell (by simp) _).setCell (by simp) _).setCell (by simp) _).setCell (by simp) _).alloc (by simp; omega) _)
              · rw [minA_first ts t]
                exact ((HT.out.2.2.set3 (.int .i64 t.1.1) (.int .i64 t.1.2.1) (.int .i64 t.1.2.2)).set3 (.int .i64 t.1.1) (.int .i64 t.1.2.1) (.int .i64 t.1.2.2)).alloc _
            case measure => simp [intOf]
          · have he : ((k : Int) + 0 == 0) = false := by simp; omega
            have he0 : ((k : Int) == 0) = false := by simp; omega
            have a0 : wr.cell? ⟨w.heap.size + 1, 0, none⟩ = some (.int .i64 (minA ts k t 0).1) := ha.cell 0
            have a1 : wr.cell? ⟨w.heap.size + 1, 1, none⟩ = some (.int .i64 (minA ts k t 0).2.1) := ha.cell 1
            have a2 : wr.cell? ⟨w.heap.size + 1, 2, none⟩ = some (.int .i64 (minA ts k t 0).2.2) := ha.cell 2
            have HT := hide (And.intro hB (And.intro hz ha))
            clear hB hz ha
            go_wp2
            go_roundw
            case rel =>
              refine ⟨1, by omega, rfl, ?_, (HT.out.2.1.far3 (by omega) _ _ _).alloc _, ?_⟩
              · exact (((HT.out.1.setCell (by simp) _).setCell (by simp) _).setCell (by simp) _).alloc (by simp; omega) _
              · rw [minA_next ts k t 0 (by omega)]
                exact (HT.out.2.2.set3 (.int .i64 (min (minA ts k t 0).1 t.1.1)) (.int .i64 (min (minA ts k t 0).2.1 t.1.2.1)) (.int .i64 (min (minA ts k t 0).2.2 t.1.2.2))).alloc _
            case measure => simp [intOf]
        · have g0 : wr.cell? ⟨bb, o + k * 9 + 3, none⟩ = some (.int .i64 t.2.1.1) := (hB.cell (p := ⟨bb, _, none⟩) hbb).trans H.out.2.2.2.2.2.1
          have g1 : wr.cell? ⟨bb, o + k * 9 + 4, none⟩ = some (.int .i64 t.2.1.2.1) := (hB.cell (p := ⟨bb, _, none⟩) hbb).trans H.out.2.2.2.2.2.2.1
          have g2 : wr.cell? ⟨bb, o + k * 9 + 5, none⟩ = some (.int .i64 t.2.1.2.2) := (hB.cell (p := ⟨bb, _, none⟩) hbb).trans H.out.2.2.2.2.2.2.2.1
          by_cases hk0 : k = 0
          · subst hk0
            simp only [Nat.zero_mul, Nat.add_zero] at g0 g1 g2
            have a0 : wr.cell? ⟨w.heap.size + 1, 0, none⟩ = some (.int .i64 (minA ts 0 t 1).1) := ha.cell 0
            have a1 : wr.cell? ⟨w.heap.size + 1, 1, none⟩ = some (.int .i64 (minA ts 0 t 1).2.1) := ha.cell 1
            have a2 : wr.cell? ⟨w.heap.size + 1, 2, none⟩ = some (.int .i64 (minA ts 0 t 1).2.2) := ha.cell 2
            have HT := hide (And.intro hB (And.intro hz ha))
            clear hB hz ha
            go_wp2
            go_roundw
            case rel =>
              refine ⟨2, by omega, rfl, ?_, (HT.out.2.1.far3 (by omega) _ _ _).alloc _, ?_⟩
              · exact (((HT.out.1.setCell (by simp) _).setCell (by simp) _).setCell (by simp) _).alloc (by simp; omega) _
              · rw [minA_next ts 0 t 1 (by omega)]
                exact (HT.out.2.2.set3 (.int .i64 (min (minA ts 0 t 1).1 t.2.1.1)) (.int .i64 (min (minA ts 0 t 1).2.1 t.2.1.2.1)) (.int .i64 (min (minA ts 0 t 1).2.2 t.2.1.2.2))).alloc _
            case measure => simp [intOf]
          · have he : ((k : Int) + 1 == 0) = false := by simp; omega
            have he0 : ((k : Int) == 0) = false := by simp; omega
            have a0 : wr.cell? ⟨w.heap.size + 1, 0, none⟩ = some (.int .i64 (minA ts k t 1).1) := ha.cell 0
            have a1 : wr.cell? ⟨w.heap.size + 1, 1, none⟩ = some (.int .i64 (minA ts k t 1).2.1) := ha.cell 1
            have a2 : wr.cell? ⟨w.heap.size + 1, 2, none⟩ = some (.int .i64 (minA ts k t 1).2.2) := ha.cell 2
            have HT := hide (And.intro hB (And.intro hz ha))
            clear hB hz ha
            go_wp2
            go_roundw
            case rel =>
              refine ⟨2, by omega, rfl, ?_, (HT.out.2.1.far3 (by omega) _ _ _).alloc _, ?_⟩
              · exact (((HT.out.1.setCell (by simp) _).setCell (by simp) _).setCell (by simp) _).alloc (by simp; omega) _
              · rw [minA_next ts k t 1 (by omega)]
                exact (HT.out.2.2.set3 (.int .i64 (min (minA ts k t 1).1 t.2.1.1)) (.int .i64 (min (minA ts k t 1).2.1 t.2.1.2.1)) (.int .i64 (min (minA ts k t 1).2.2 t.2.1.2.2))).alloc _
            case measure => simp [intOf]
        · have g0 : wr.cell? ⟨bb, o + k * 9 + 6, none⟩ = some (.int .i64 t.2.2.1) := (hB.cell (p := ⟨bb, _, none⟩) hbb).trans H.out.2.2.2.2.2.2.2.2.1
          have g1 : wr.cell? ⟨bb, o + k * 9 + 7, none⟩ = some (.int .i64 t.2.2.2.1) := (hB.cell (p := ⟨bb, _, none⟩) hbb).trans H.out.2.2.2.2.2.2.2.2.2.1
          have g2 : wr.cell? ⟨bb, o + k * 9 + 8, none⟩ = some (.int .i64 t.2.2.2.2) := (hB.cell (p := ⟨bb, _, none⟩) hbb).trans H.out.2.2.2.2.2.2.2.2.2.2
          by_cases hk0 : k = 0
          · subst hk0
            simp only [Nat.zero_mul, Nat.add_zero] at g0 g1 g2
            have a0 : wr.cell? ⟨w.heap.size + 1, 0, none⟩ = some (.int .i64 (minA ts 0 t 2).1) := ha.cell 0
            have a1 : wr.cell? ⟨w.heap.size + 1, 1, none⟩ = some (.int .i64 (minA ts 0 t 2).2.1) := ha.cell 1
            have a2 : wr.cell? ⟨w.heap.size + 1, 2, none⟩ = some (.int .i64 (minA ts 0 t 2).2.2) := ha.cell 2
            have HT := hide (And.intro hB (And.intro hz ha))
            clear hB hz ha
            go_wp2
            go_roundw
            case rel =>
              refine ⟨3, by omega, rfl, ?_, (HT.out.2.1.far3 (by omega) _ _ _).alloc _, ?_⟩
              · exact (((HT.out.1.setCell (by simp) _).setCell (by simp) _).setCell (by simp) _).alloc (by simp; omega) _
              · rw [minA_next ts 0 t 2 (by omega)]
                exact (HT.out.2.2.set3 (.int .i64 (min (minA ts 0 t 2).1 t.2.2.1)) (.int .i64 (min (minA ts 0 t 2).2.1 t.2.2.2.1)) (.int .i64 (min (minA ts 0 t 2).2.2 t.2.2.2.2))).alloc _
            case measure => simp [intOf]
          · have he : ((k : Int) + 2 == 0) = false := by simp; omega
            have he0 : ((k : Int) == 0) = false := by simp; omega
            have a0 : wr.cell? ⟨w.heap.size + 1, 0, none⟩ = some (.int .i64 (minA ts k t 2).1) := ha.cell 0
            have a1 : wr.cell? ⟨w.heap.size + 1, 1, none⟩ = some (.int .i64 (minA ts k t 2).2.1) := ha.cell 1
            have a2 : wr.cell? ⟨w.heap.size + 1, 2, none⟩ = some (.int .i64 (minA ts k t 2).2.2) := ha.cell 2
            have HT := hide (And.intro hB (And.intro hz ha))
            clear hB hz ha
            go_wp2
            go_roundw
            case rel =>
              refine ⟨3, by omega, rfl, ?_, (HT.out.2.1.far3 (by omega) _ _ _).alloc _, ?_⟩
              · exact (((HT.out.1.setCell (by simp) _).setCell (by simp) _).setCell (by simp) _).alloc (by simp; omega) _
              · rw [minA_next ts k t 2 (by omega)]
                exact (HT.out.2.2.set3 (.int .i64 (min (minA ts k t 2).1 t.2.2.1)) (.int .i64 (min (minA ts k t 2).2.1 t.2.2.2.1)) (.int .i64 (min (minA ts k t 2).2.2 t.2.2.2.2))).alloc _
            case measure => simp [intOf]
        · clear hneA hneB f0 f1 f2
          rw [minA_three ts k t H.out.2.1] at ha
          have HT := hide (And.intro hB (And.intro hz ha))
          clear hB hz ha
          go_wp2
          go_roundw
          case rel => exact ⟨k + 1, by omega, by go_num, HT.out.1, HT.out.2.1, HT.out.2.2⟩
          case measure => simp [intOf]; omega
    · have hke : k = ts.length := by omega
      subst hke
      have hbP : minB ts ts.length = anc ts := by unfold minB; rw [List.take_length]
      rw [hbP] at ha
      have c0 : wr.cell? ⟨w.heap.size + 1, 0, none⟩ = some (.int .i64 (anc ts).1) := ha.cell 0
      have c1 : wr.cell? ⟨w.heap.size + 1, 1, none⟩ = some (.int .i64 (anc ts).2.1) := ha.cell 1
      have c2 : wr.cell? ⟨w.heap.size + 1, 2, none⟩ = some (.int .i64 (anc ts).2.2) := ha.cell 2
      have r0 : wr.cell? ⟨w.heap.size, 0, none⟩ = some (.int .i64 0) := hz.cell 0
      have r1 : wr.cell? ⟨w.heap.size, 1, none⟩ = some (.int .i64 0) := hz.cell 1
      have r2 : wr.cell? ⟨w.heap.size, 2, none⟩ = some (.int .i64 0) := hz.cell 2
      have f0 := hz.frozen 0
      have f1 := hz.frozen 1
      have f2 := hz.frozen 2
      have hb0 : 0 ≤ min (max b 0) 40 := by omega
      have hb4 : min (max b 0) 40 ≤ 40 := by omega
      have HW := hide (And.intro hz hB)
      clear hbP hz hB ha
      obtain ⟨q, hq⟩ : ∃ q, q = min (max b 0) 40 := ⟨_, rfl⟩
      rw [← hq] at hb0 hb4 ⊢
      have HQ := hide hq
      clear hq
      have hne : w.heap.size + 1 ≠ w.heap.size := by omega
      have hne2 : w.heap.size ≠ w.heap.size + 1 := by omega
      go_wp2_with fail
      go_region_held3 (fun w' => w'.cell? ⟨w.heap.size + 1, 0, none⟩ = some (.int .i64 (anc ts).1) ∧ w'.cell? ⟨w.heap.size + 1, 1, none⟩ = some (.int .i64 (anc ts).2.1) ∧ w'.cell? ⟨w.heap.size + 1, 2, none⟩ = some (.int .i64 (anc ts).2.2)) (go_keep) (first | (go_at_call 34; refine (block13_any _ (by first | exact HF.out.1 | exact HF.out.2.1 | exact HF.out.2.2) _ hb0 hb4 _ _).mono ?_; rintro e w' ⟨rfl, rfl⟩))
      have hR := (HW.out.1.set3 (.int .i64 (blockC (anc ts).1 q.toNat sh)) (.int .i64 (blockC (anc ts).2.1 q.toNat sh)) (.int .i64 (blockC (anc ts).2.2 q.toNat sh))).drew
      have hBV : Below w.heap.size w (((wr.setCell ⟨w.heap.size, 0, none⟩ (.int .i64 (blockC (anc ts).1 q.toNat sh))).setCell ⟨w.heap.size, 1, none⟩ (.int .i64 (blockC (anc ts).2.1 q.toNat sh))).setCell ⟨w.heap.size, 2, none⟩ (.int .i64 (blockC (anc ts).2.2 q.toNat sh))).drew := (((HW.out.2.setCell (by simp) _).setCell (by simp) _).setCell (by simp) _).drew
      generalize (((wr.setCell ⟨w.heap.size, 0, none⟩ (.int .i64 (blockC (anc ts).1 q.toNat sh))).setCell ⟨w.heap.size, 1, none⟩ (.int .i64 (blockC (anc ts).2.1 q.toNat sh))).setCell ⟨w.heap.size, 2, none⟩ (.int .i64 (blockC (anc ts).2.2 q.toNat sh))).drew = V at hR hBV ⊢
      have s0 := hR.cell 0
      have s1 := hR.cell 1
      have s2 := hR.cell 2
      simp only [List.getElem?_toArray, List.getElem?_cons_zero, List.getElem?_cons_succ] at s0 s1 s2
      have hbc : bitsC b = q.toNat := by rw [HQ.out]; rfl
      go_wp2
      refine bodyPost_ret (v := vP (blockP ts b sh)) (by simp only [blockP, hbc]; simp [results, Try.results15, go_sem, s0, s1, s2]) rfl ⟨rfl, hBV⟩
end Go.Proofs.Ytgndbpkgehjelaa
