/- Joined texts: FaceK FaceA FaceB FaceC Fan. -/
import Derived.Deep.RegionHeld3
import Derived.IntWalk
import Derived.Test.YtfljcgehhnmamaaCB3
import Derived.Test.YtfljcgehhnmamaaCB6
import Derived.Test.YtfljcgehhnmamaaCB7
import Derived.Test.YtfljcgehhnmamaaCB8
import Derived.Test.YtfljcgehhnmamaaCB15
/- (*contour.joiner).face. -/
namespace Go.Proofs.Ytfljcgehhnmamaa
open Go.RowKit Go.WideMaps Go.Maps Go.Sort
theorem join_any (bj mb n v axis : Nat) (ins : Nat → Bool) (ms : List (Pt × Pt)) (p q : Pt) (pos : Bool) (s : Int) (hs : s = sgn pos) (w : World) (hJ : Jn w bj mb n ins ms) (ha : axis < 3) (hv : v < 8) (hp : smallP p) (hq : smallP q) (hn : n ≤ 1000) :
    Calls Try.prog 68 #[.pointer (some ⟨bj, 0, none⟩), vP p, vP q, .int .i64 v, .int .i64 axis, .int .i64 s] w fun e w' => e = .returned (.tuple #[]) ∧ Jn w' bj mb (n + 1) ins (ms ++ [joinJ p q v axis pos]) ∧ w.grownBy w' (some mb) := by
  have hc : axis = 0 ∨ axis = 1 ∨ axis = 2 := by omega
  rcases hc with rfl | rfl | rfl
  · exact join0 bj mb n v ins ms p q pos s hs w hJ hv hp hq hn
  · exact join1 bj mb n v ins ms p q pos s hs w hJ hv hp hq hn
  · exact join2 bj mb n v ins ms p q pos s hs w hJ hv hp hq hn
theorem grown_drew {W Z : World} {row : Option Nat} (h : W.drew.grownBy Z row) : W.grownBy Z row := ⟨h.os, h.tape, h.output, h.size, h.block⟩
theorem infoV : (Try.prog.info? 61).map (fun i => (i.zero, i.size, i.bytes)) = some (some (.agg #[.int .i64 0, .int .i64 0, .int .i64 0]), 3, 24) := by kernel_rfl
theorem encP_len8 (p : Pt) : (encP p).length = 3 := rfl
theorem encP_one8 (p : Pt) : ∀ u ∈ encP p, u.oneCell' = true := by
  intro u hu
  simp only [encP, List.mem_cons, List.not_mem_nil, or_false] at hu
  rcases hu with rfl | rfl | rfl <;> rfl
theorem ringV_lt (axis : Nat) (ha : axis < 3) (pos : Bool) (k : Nat) : ringV axis pos k < 8 := by
  have hc : axis = 0 ∨ axis = 1 ∨ axis = 2 := by omega
  have hk : k % 4 = 0 ∨ k % 4 = 1 ∨ k % 4 = 2 ∨ k % 4 = 3 := by omega
  unfold ringV
  rcases hc with rfl | rfl | rfl <;> rcases hk with h | h | h | h <;> rw [h] <;> cases pos <;> decide
theorem ringV_mod (axis : Nat) (pos : Bool) (k : Nat) : ringV axis pos (k % 4) = ringV axis pos k := by
  unfold ringV
  rw [Nat.mod_mod]
theorem smallP_mid (u v : Nat) : smallP (midP u v) := by
  have a := cornerP_bd u
  have b := cornerP_bd v
  unfold smallP midP
  refine ⟨⟨?_, ?_⟩, ⟨?_, ?_⟩, ?_, ?_⟩ <;> (dsimp only; omega)
theorem crossN_small (ins : Nat → Bool) (axis : Nat) (pos : Bool) (k : Nat) : ∀ p ∈ crossN ins axis pos k, smallP p := by
  intro p hp
  obtain ⟨i, _, rfl⟩ := List.mem_map.1 hp
  exact smallP_mid _ _
theorem crossN_succ (ins : Nat → Bool) (axis : Nat) (pos : Bool) (k : Nat) : crossN ins axis pos (k + 1) = crossN ins axis pos k ++ if ins (ringV axis pos k) != ins (ringV axis pos (k + 1)) then [midP (ringV axis pos k) (ringV axis pos (k + 1))] else [] := by
  unfold crossN
  rw [List.range_succ, List.filter_append, List.map_append]
  congr 1
  cases h : (ins (ringV axis pos k) != ins (ringV axis pos (k + 1))) <;> simp [h]
theorem fourN_succ (ins : Nat → Bool) (axis : Nat) (pos : Bool) (k : Nat) : fourN ins axis pos (k + 1) = fourN ins axis pos k ++ if ins (ringV axis pos k) then [joinJ (midP (ringV axis pos (k + 3)) (ringV axis pos k)) (midP (ringV axis pos k) (ringV axis pos (k + 1))) (ringV axis pos k) axis pos] else [] := by
  unfold fourN
  rw [List.range_succ, List.filter_append, List.map_append]
  congr 1
  cases h : ins (ringV axis pos k) <;> simp [h]
theorem crossN_len (ins : Nat → Bool) (axis : Nat) (pos : Bool) : (crossN ins axis pos 4 = [] ∨ ∃ p q, crossN ins axis pos 4 = [p, q] ∧ ∃ k, lastIn ins axis pos 4 = (ringV axis pos k : Nat)) ∨ ∃ a b c d, crossN ins axis pos 4 = [a, b, c, d] := by
  have h4 : ringV axis pos 4 = ringV axis pos 0 := by rw [← ringV_mod axis pos 4]
  have e : crossN ins axis pos 4 = [] ++ (if ins (ringV axis pos 0) != ins (ringV axis pos 1) then [midP (ringV axis pos 0) (ringV axis pos 1)] else []) ++ (if ins (ringV axis pos 1) != ins (ringV axis pos 2) then [midP (ringV axis pos 1) (ringV axis pos 2)] else []) ++ (if ins (ringV axis pos 2) != ins (ringV axis pos 3) then [midP (ringV axis pos 2) (ringV axis pos 3)] else []) ++ (if ins (ringV axis pos 3) != ins (ringV axis pos 0) then [midP (ringV axis pos 3) (ringV axis pos 0)] else []) := by
    rw [crossN_succ, crossN_succ, crossN_succ, crossN_succ, h4]; rfl
  have l : lastIn ins axis pos 4 = if ins (ringV axis pos 3) then ((ringV axis pos 3 : Nat) : Int) else if ins (ringV axis pos 2) then ((ringV axis pos 2 : Nat) : Int) else if ins (ringV axis pos 1) then ((ringV axis pos 1 : Nat) : Int) else if ins (ringV axis pos 0) then ((ringV axis pos 0 : Nat) : Int) else (-1 : Int) := rfl
  rw [e, l]
  generalize hr0 : ringV axis pos 0 = r0
  generalize hr1 : ringV axis pos 1 = r1
  generalize hr2 : ringV axis pos 2 = r2
  generalize hr3 : ringV axis pos 3 = r3
  have hk0 : ∃ k, ((r0 : Nat) : Int) = (ringV axis pos k : Nat) := ⟨0, by rw [hr0]⟩
  have hk1 : ∃ k, ((r1 : Nat) : Int) = (ringV axis pos k : Nat) := ⟨1, by rw [hr1]⟩
  have hk2 : ∃ k, ((r2 : Nat) : Int) = (ringV axis pos k : Nat) := ⟨2, by rw [hr2]⟩
  have hk3 : ∃ k, ((r3 : Nat) : Int) = (ringV axis pos k : Nat) := ⟨3, by rw [hr3]⟩
  cases ins r0 <;> cases ins r1 <;> cases ins r2 <;> cases ins r3
  all_goals
    first
    | exact .inl (.inl rfl)
    | exact .inl (.inr ⟨_, _, rfl, hk3⟩)
    | exact .inl (.inr ⟨_, _, rfl, hk2⟩)
    | exact .inl (.inr ⟨_, _, rfl, hk1⟩)
    | exact .inl (.inr ⟨_, _, rfl, hk0⟩)
    | exact .inr ⟨_, _, _, _, rfl⟩
end Go.Proofs.Ytfljcgehhnmamaa
/- (*contour.joiner).face, axis 0. -/
namespace Go.Proofs.Ytfljcgehhnmamaa
open Go.RowKit Go.WideMaps Go.Maps Go.Sort
set_option maxRecDepth 100000 in
set_option maxHeartbeats 8000000 in
theorem face0f (bj mb n : Nat) (ins : Nat → Bool) (ms : List (Pt × Pt)) (w : World) (hJ : Jn w bj mb n ins ms) (hn : n ≤ 900) :
    Calls Try.prog 41 #[.pointer (some ⟨bj, 0, none⟩), .int .i64 0, .int .i64 (-1 : Int)] w fun e w' => e = .returned (.tuple #[]) ∧ (∃ n', n' ≤ n + 4 ∧ Jn w' bj mb n' ins (ms ++ faceJ ins 0 false)) ∧ w.grownBy w' (some mb) := by
  have ob1 : bits BinOp.or IntKind.i64 0 2 = 2 := by decide +kernel
  have ob2 : bits BinOp.or IntKind.i64 2 4 = 6 := by decide +kernel
  have ob3 : bits BinOp.or IntKind.i64 0 4 = 4 := by decide +kernel
  have ow1 : IntKind.i64.wrap 1 = 1 := by decide +kernel
  have ow2 : IntKind.i64.wrap 2 = 2 := by decide +kernel
  have ow4 : IntKind.i64.wrap 4 = 4 := by decide +kernel
  have hlt := hJ.1.lt
  have hltm := hJ.2.lt
  have HJ := hide hJ
  clear hJ
  go_enter Try.func41, Try.ntmps41
  go_wp2_with fail
  refine (axes8_any 0 (by omega) _).mono ?_
  rintro e w1 ⟨rfl, rfl⟩
  go_wp2_with fail
  refine wp_region_mix (fun _ => True) [0, 1, 2, 3, 4, 5, 6, 7, 8, 9, 10, 11, 12, 13, 14, 15, 16] [0, 1, 2, 3, 4, 5, 6, 7, 8, 9, 10, 11, 12, 13, 14, 15, 16, 17, 18] mixed_ok (by kernel_rfl) ?_
  refine wpMix_q (v := .int .i64 0) rfl rfl (fun _ _ _ h => h) trivial ⟨rfl, fun _ _ => by simp [go_sem]⟩ ?_
  refine wpMix_q (v := .int .i64 0) rfl rfl (fun _ _ _ h => h) trivial ⟨rfl, fun _ _ => by simp [go_sem]⟩ ?_
  refine wpMix_q (v := .int .i64 1) rfl rfl (fun _ _ _ h => h) trivial ⟨rfl, fun _ _ => by simp [go_sem]⟩ ?_
  refine wpMix_q (v := .int .i64 2) rfl rfl (fun _ _ _ h => h) trivial ⟨rfl, fun _ _ => by simp [go_sem, ow2]⟩ ?_
  refine wpMix_q (v := .int .i64 2) rfl rfl (fun _ _ _ h => h) trivial ⟨rfl, fun _ _ => by simp [go_sem, ob1]⟩ ?_
  refine wpMix_q (v := .int .i64 0) rfl rfl (fun _ _ _ h => h) trivial ⟨rfl, fun _ _ => by simp [go_sem]⟩ ?_
  refine wpMix_q (v := .int .i64 1) rfl rfl (fun _ _ _ h => h) trivial ⟨rfl, fun _ _ => by simp [go_sem]⟩ ?_
  refine wpMix_q (v := .int .i64 2) rfl rfl (fun _ _ _ h => h) trivial ⟨rfl, fun _ _ => by simp [go_sem, ow2]⟩ ?_
  refine wpMix_q (v := .int .i64 2) rfl rfl (fun _ _ _ h => h) trivial ⟨rfl, fun _ _ => by simp [go_sem, ob1]⟩ ?_
  refine wpMix_q (v := .int .i64 2) rfl rfl (fun _ _ _ h => h) trivial ⟨rfl, fun _ _ => by simp [go_sem]⟩ ?_
  refine wpMix_q (v := .int .i64 4) rfl rfl (fun _ _ _ h => h) trivial ⟨rfl, fun _ _ => by simp [go_sem, ow4]⟩ ?_
  refine wpMix_q (v := .int .i64 6) rfl rfl (fun _ _ _ h => h) trivial ⟨rfl, fun _ _ => by simp [go_sem, ob2]⟩ ?_
  refine wpMix_q (v := .int .i64 0) rfl rfl (fun _ _ _ h => h) trivial ⟨rfl, fun _ _ => by simp [go_sem]⟩ ?_
  refine wpMix_q (v := .int .i64 2) rfl rfl (fun _ _ _ h => h) trivial ⟨rfl, fun _ _ => by simp [go_sem]⟩ ?_
  refine wpMix_q (v := .int .i64 4) rfl rfl (fun _ _ _ h => h) trivial ⟨rfl, fun _ _ => by simp [go_sem, ow4]⟩ ?_
  refine wpMix_q (v := .int .i64 4) rfl rfl (fun _ _ _ h => h) trivial ⟨rfl, fun _ _ => by simp [go_sem, ob3]⟩ ?_
  refine wpMix_q (v := .agg #[.int .i64 0, .int .i64 2, .int .i64 6, .int .i64 4]) rfl rfl (fun _ _ _ h => h) trivial ⟨rfl, fun _ _ => by simp [go_sem]⟩ ?_
  refine wpMix_n rfl rfl ?_
  go_wp2_with fail
  refine ⟨fun _ => trivial, ?_⟩
  refine wpMix_tail _ [_] (by kernel_rfl) rfl ?_
  simp only [List.getElem_toArray, List.getElem_cons_succ, List.getElem_cons_zero]
  clear ob1 ob2 ob3 ow1 ow2 ow4
  go_wp2_with fail
  obtain ⟨Y, hY⟩ : ∃ Y, Y = (w1.alloc (.cells #[.int .i64 0, .int .i64 2, .int .i64 6, .int .i64 4] 111)).drew := ⟨_, rfl⟩
  rw [← hY]
  have hBY : Below w1.heap.size w1 Y := by rw [hY]; exact ((Below.refl _ w1).alloc (Nat.le_refl _) _).drew
  have hbr : Blk Y w1.heap.size 111 #[.int .i64 0, .int .i64 2, .int .i64 6, .int .i64 4] := by rw [hY]; exact (Blk.new _ _ _).drew
  have hJY := HJ.out.below hBY hlt hltm
  have hring : ∀ r : Nat, r < 4 → Y.cell? ⟨w1.heap.size, r, none⟩ = some (.int .i64 (ringV 0 false r)) := fun r hr => by
    have hc : r = 0 ∨ r = 1 ∨ r = 2 ∨ r = 3 := by omega
    rw [hbr.cell]
    rcases hc with rfl | rfl | rfl | rfl <;> rfl
  have q0 : ∀ W, (Instr.index 111 (.agg #[.int .i64 0, .int .i64 2, .int .i64 6, .int .i64 4]) (.int .i64 0)).run Try.prog W = .ok (.int .i64 0) W := fun _ => by kernel_rfl
  have q1 : ∀ W, (Instr.index 111 (.agg #[.int .i64 0, .int .i64 2, .int .i64 6, .int .i64 4]) (.int .i64 1)).run Try.prog W = .ok (.int .i64 2) W := fun _ => by kernel_rfl
  have q2 : ∀ W, (Instr.index 111 (.agg #[.int .i64 0, .int .i64 2, .int .i64 6, .int .i64 4]) (.int .i64 2)).run Try.prog W = .ok (.int .i64 6) W := fun _ => by kernel_rfl
  have q3 : ∀ W, (Instr.index 111 (.agg #[.int .i64 0, .int .i64 2, .int .i64 6, .int .i64 4]) (.int .i64 3)).run Try.prog W = .ok (.int .i64 4) W := fun _ => by kernel_rfl
  have hidx : ∀ r : Nat, r < 4 → ∀ W, (Instr.index 111 (.agg #[.int .i64 0, .int .i64 2, .int .i64 6, .int .i64 4]) (.int .i64 r)).run Try.prog W = .ok (.int .i64 (ringV 0 false r)) W := fun r hr W => by
    have hc : r = 0 ∨ r = 1 ∨ r = 2 ∨ r = 3 := by omega
    rcases hc with rfl | rfl | rfl | rfl
    · exact q0 W
    · exact q1 W
    · exact q2 W
    · exact q3 W
  have HY := hide (And.intro hBY (And.intro hJY (And.intro hring (And.intro hidx hbr))))
  have hltY := hJY.1.lt
  have hltYm := hJY.2.lt
  have hltr := hbr.lt
  clear hBY hbr hJY hring hidx hY q0 q1 q2 q3
  go_loopw [10, 11, 44] (fun cv iv kv wr => ∃ k : Nat, k ≤ 4 ∧ kv = .int .i64 k ∧ Own encP 3 61 wr Y.heap.size cv (crossN ins 0 false k).length (crossN ins 0 false k) ∧ iv = .int .i64 (lastIn ins 0 false k) ∧ Below Y.heap.size Y wr) (fun _ _ kv _ => 4 - (intOf kv).toNat)
  case atStart => exact ⟨0, by omega, rfl, Own.nil, rfl, Below.refl _ Y⟩
  case round =>
    obtain ⟨k, hk, rfl, hown, rfl, hB⟩ := hrel
    have hszB := hB.size
    have hcl : (crossN ins 0 false k).length ≤ 4 := by
      unfold crossN
      rw [List.length_map]
      exact Nat.le_trans (List.length_filter_le _ _) (by rw [List.length_range]; exact hk)
    have hcs := crossN_succ ins 0 false k
    obtain ⟨C, hC⟩ : ∃ C, C = crossN ins 0 false k := ⟨_, rfl⟩
    rw [← hC] at hown hcl hcs
    obtain ⟨l, hl⟩ : ∃ l, l = lastIn ins 0 false k := ⟨_, rfl⟩
    rw [← hl]
    obtain ⟨Ac, cc, rfl⟩ := hown.form
    by_cases hlt4 : k < 4
    · obtain ⟨v, hv⟩ : ∃ v, v = ringV 0 false k := ⟨_, rfl⟩
      obtain ⟨nx, hnx⟩ : ∃ nx, nx = ringV 0 false (k + 1) := ⟨_, rfl⟩
      have hv8 : v < 8 := by rw [hv]; exact ringV_lt 0 (by omega) false k
      have hx8 : nx < 8 := by rw [hnx]; exact ringV_lt 0 (by omega) false (k + 1)
      have hid := HY.out.2.2.2.1 k hlt4
      rw [← hv] at hid
      obtain ⟨r, hr⟩ : ∃ r, r = (k + 1) % 4 := ⟨_, rfl⟩
      have hr4 : r < 4 := by omega
      have hmod : ((k : Int) + 1) % 4 = (r : Int) := by omega
      have cr : wr.cell? ⟨w1.heap.size, r, none⟩ = some (.int .i64 nx) := by
        rw [hnx, ← ringV_mod 0 false (k + 1), ← hr]
        exact (hB.cell (p := ⟨w1.heap.size, r, none⟩) hltr).trans (HY.out.2.2.1 r hr4)
      have hJr := HY.out.2.1.below hB hltY hltYm
      have c1 := hJr.in_ hv8
      have c2 := hJr.in_ hx8
      obtain ⟨iv, hiv⟩ : ∃ iv, iv = ins v := ⟨_, rfl⟩
      obtain ⟨ix, hix⟩ : ∃ ix, ix = ins nx := ⟨_, rfl⟩
      rw [← hiv] at c1
      rw [← hix] at c2
      have i1 : (k : Int) < 4 := by omega
      have i2 : (r : Int) < 4 := by omega
      have i3 : (v : Int) < 8 := by omega
      have i4 : (nx : Int) < 8 := by omega
      have j2 : (0 : Int) ≤ (r : Int) := by omega
      have j3 : (0 : Int) ≤ (v : Int) := by omega
      have j4 : (0 : Int) ≤ (nx : Int) := by omega
      have HR := hide (And.intro hown (And.intro hB (And.intro hcs (And.intro hv (And.intro hnx (And.intro hiv hix))))))
      have HRl := hide (And.intro hl hr)
      clear hown hB hcs hv hnx hiv hix hJr hr hl hC
      cases iv
      · cases ix
        · go_wp2_with fail
          go_quiet (fail)
          go_wp2
          go_roundw
          case rel =>
            refine ⟨k + 1, by omega, by go_num, ?_, ?_, below_drewN HR.out.2.1 _⟩
            · rw [HR.out.2.2.1, if_neg (by rw [← HR.out.2.2.2.1, ← HR.out.2.2.2.2.1, ← HR.out.2.2.2.2.2.1, ← HR.out.2.2.2.2.2.2]; decide), List.append_nil]
              exact HR.out.1
            · show _ = Value.int .i64 (lastIn ins 0 false (k + 1))
              unfold lastIn
              rw [← HR.out.2.2.2.1, ← HR.out.2.2.2.2.2.1, ← HRl.out.1]
              rfl
          case measure => simp [intOf]; omega
        · go_wp2_with fail
          go_quiet (fail)
          go_wp2_with fail
          with_reducible refine (middle_any v nx hv8 hx8 _).mono ?_
          rintro e w6 ⟨rfl, hB6⟩
          have hB06 : Below wr.heap.size wr w6 := (below_drewN (Below.refl _ wr) _).trans hB6
          have hz6 := hB06.size
          have HO := hide (And.intro ((HR.out.1.below hB06 (Nat.le_refl _)).alloc (.cells #[.int .i64 (midP v nx).1, .int .i64 (midP v nx).2.1, .int .i64 (midP v nx).2.2] 61)) hB06)
          have cv6 : (w6.alloc (.cells #[.int .i64 (midP v nx).1, .int .i64 (midP v nx).2.1, .int .i64 (midP v nx).2.2] 61)).cell? ⟨bj, v, none⟩ = some (.bool false) := (((Below.refl _ w6).alloc (Nat.le_refl _) _).cell (p := ⟨bj, v, none⟩) (by simp; omega)).trans ((hB06.cell (p := ⟨bj, v, none⟩) (by simp; omega)).trans c1)
          clear hB6 hB06 c1 c2 cr
          go_wp2_with (at_builtin; refine wpList_append1 rfl _ _ _ rfl Try.underlying82 infoV rfl (by omega) encP_len8 encP_one8 rfl HO.out.1 w6.heap.size 1 (midP v nx) rfl (Blk.new _ _ _) (by unfold maxLen; omega) (by omega) (by simp; omega) ?_; intro g cap w7 hown7 hg7 hB7 hat7 hgb7 hlt7; have cv7 := (hB7.cell (p := ⟨bj, v, none⟩) (by omega)).trans cv6; clear cv6)
          go_roundw
          case rel =>
            refine ⟨k + 1, by omega, by go_num, ?_, ?_, ((HR.out.2.1.trans (HO.out.2.mono HR.out.2.1.size)).alloc (by omega) _).trans hB7⟩
            · rw [HR.out.2.2.1, if_pos (by rw [← HR.out.2.2.2.1, ← HR.out.2.2.2.2.1, ← HR.out.2.2.2.2.2.1, ← HR.out.2.2.2.2.2.2]; rfl), ← HR.out.2.2.2.1, ← HR.out.2.2.2.2.1, List.length_append]
              exact hown7
            · show _ = Value.int .i64 (lastIn ins 0 false (k + 1))
              unfold lastIn
              rw [← HR.out.2.2.2.1, ← HR.out.2.2.2.2.2.1, ← HRl.out.1]
              rfl
          case measure => simp [intOf]; omega
      · cases ix
        · go_wp2_with fail
          go_quiet (fail)
          go_wp2_with fail
          with_reducible refine (middle_any v nx hv8 hx8 _).mono ?_
          rintro e w6 ⟨rfl, hB6⟩
          have hB06 : Below wr.heap.size wr w6 := (below_drewN (Below.refl _ wr) _).trans hB6
          have hz6 := hB06.size
          have HO := hide (And.intro ((HR.out.1.below hB06 (Nat.le_refl _)).alloc (.cells #[.int .i64 (midP v nx).1, .int .i64 (midP v nx).2.1, .int .i64 (midP v nx).2.2] 61)) hB06)
          have cv6 : (w6.alloc (.cells #[.int .i64 (midP v nx).1, .int .i64 (midP v nx).2.1, .int .i64 (midP v nx).2.2] 61)).cell? ⟨bj, v, none⟩ = some (.bool true) := (((Below.refl _ w6).alloc (Nat.le_refl _) _).cell (p := ⟨bj, v, none⟩) (by simp; omega)).trans ((hB06.cell (p := ⟨bj, v, none⟩) (by simp; omega)).trans c1)
          clear hB6 hB06 c1 c2 cr
          go_wp2_with (at_builtin; refine wpList_append1 rfl _ _ _ rfl Try.underlying82 infoV rfl (by omega) encP_len8 encP_one8 rfl HO.out.1 w6.heap.size 1 (midP v nx) rfl (Blk.new _ _ _) (by unfold maxLen; omega) (by omega) (by simp; omega) ?_; intro g cap w7 hown7 hg7 hB7 hat7 hgb7 hlt7; have cv7 := (hB7.cell (p := ⟨bj, v, none⟩) (by omega)).trans cv6; clear cv6)
          go_roundw
          case rel =>
            refine ⟨k + 1, by omega, by go_num, ?_, ?_, ((HR.out.2.1.trans (HO.out.2.mono HR.out.2.1.size)).alloc (by omega) _).trans hB7⟩
            · rw [HR.out.2.2.1, if_pos (by rw [← HR.out.2.2.2.1, ← HR.out.2.2.2.2.1, ← HR.out.2.2.2.2.2.1, ← HR.out.2.2.2.2.2.2]; rfl), ← HR.out.2.2.2.1, ← HR.out.2.2.2.2.1, List.length_append]
              exact hown7
            · show _ = Value.int .i64 (lastIn ins 0 false (k + 1))
              unfold lastIn
              rw [← HR.out.2.2.2.1, ← HR.out.2.2.2.2.2.1]
              rfl
          case measure => simp [intOf]; omega
        · go_wp2_with fail
          go_quiet (fail)
          go_wp2
          go_roundw
          case rel =>
            refine ⟨k + 1, by omega, by go_num, ?_, ?_, below_drewN HR.out.2.1 _⟩
            · rw [HR.out.2.2.1, if_neg (by rw [← HR.out.2.2.2.1, ← HR.out.2.2.2.2.1, ← HR.out.2.2.2.2.2.1, ← HR.out.2.2.2.2.2.2]; decide), List.append_nil]
              exact HR.out.1
            · show _ = Value.int .i64 (lastIn ins 0 false (k + 1))
              unfold lastIn
              rw [← HR.out.2.2.2.1, ← HR.out.2.2.2.2.2.1]
              rfl
          case measure => simp [intOf]; omega
    · have hke : k = 4 := by omega
      subst hke
      have hJr := HY.out.2.1.below hB hltY hltYm
      have hring : ∀ r : Nat, r < 4 → wr.cell? ⟨w1.heap.size, r, none⟩ = some (.int .i64 (ringV 0 false r)) := fun r hr => (hB.cell (p := ⟨w1.heap.size, r, none⟩) hltr).trans (HY.out.2.2.1 r hr)
      have hgr : w1.grownBy wr (some mb) := by
        have hB1 : Below w1.heap.size w1 wr := HY.out.1.trans (hB.mono HY.out.1.size)
        exact ⟨hB1.os, hB1.tape, hB1.output, hB1.size, fun i hi _ => hB1.block i hi⟩
      have hltw := hgr.size
      rcases crossN_len ins 0 false with (h0 | ⟨p, q, h2, kk, hl2⟩) | ⟨ca, cb, cd, ce, h4⟩
      · rw [h0] at hC
        subst hC
        have HE := hide (And.intro hJr (And.intro hgr h0))
        clear hown hB hcs hl hJr hring hgr h0
        go_wp2
        go_end0
        refine ⟨rfl, ⟨n, by omega, ?_⟩, HE.out.2.1⟩
        have hf : faceJ ins 0 false = [] := by unfold faceJ; rw [HE.out.2.2]
        rw [hf, List.append_nil]
        exact HE.out.1
      · have hps : smallP p ∧ smallP q := by
          have := crossN_small ins 0 false 4
          rw [h2] at this
          exact ⟨this p (by simp), this q (by simp)⟩
        rw [h2] at hC
        rw [hl2] at hl
        subst hC
        obtain ⟨vv, hvv⟩ : ∃ vv, vv = ringV 0 false kk := ⟨_, rfl⟩
        have hv8 : vv < 8 := by rw [hvv]; exact ringV_lt 0 (by omega) false kk
        rw [← hvv] at hl
        subst hl
        obtain ⟨g, cap0, hv0, hgb, hgl⟩ := hown.at (by simp)
        obtain rfl : Ac = some ⟨g, 0, none⟩ := by injection hv0
        obtain ⟨b1, o1, e1, _, hc0⟩ := (hown.sl encP_len8 (Nat.le_refl _)).at (i := 0) (x := p) rfl
        cases e1
        obtain ⟨b1, o1, e1, _, hc1⟩ := (hown.sl encP_len8 (Nat.le_refl _)).at (i := 1) (x := q) rfl
        cases e1
        have p0 := hc0 0 _ rfl
        have p1 := hc0 1 _ rfl
        have p2 := hc0 2 _ rfl
        have q0 := hc1 0 _ rfl
        have q1 := hc1 1 _ rfl
        have q2 := hc1 2 _ rfl
        simp only [Nat.zero_add, Nat.zero_mul, Nat.one_mul, Nat.add_zero] at p0 p1 p2 q0 q1 q2
        have hS : (wr.drew.cell? ⟨g, 0, none⟩ = some (.int .i64 p.1) ∧ wr.drew.cell? ⟨g, 1, none⟩ = some (.int .i64 p.2.1) ∧ wr.drew.cell? ⟨g, 2, none⟩ = some (.int .i64 p.2.2)) ∧ wr.drew.cell? ⟨g, 3, none⟩ = some (.int .i64 q.1) ∧ wr.drew.cell? ⟨g, 3 + 1, none⟩ = some (.int .i64 q.2.1) ∧ wr.drew.cell? ⟨g, 3 + 2, none⟩ = some (.int .i64 q.2.2) := ⟨⟨p0, p1, p2⟩, q0, q1, q2⟩
        have hcall := join_any bj mb n vv 0 ins ms p q false (-1 : Int) rfl wr.drew ⟨hJr.1.drew, hJr.2⟩ (by omega) hv8 hps.1 hps.2 (by omega)
        rw [show ((0 : Nat) : Int) = 0 from rfl] at hcall
        have HE := hide (And.intro hS (And.intro hcall (And.intro hgr (And.intro h2 (And.intro hl2 hvv)))))
        clear hown hB hcs hJr hring hgr h2 hl2 hvv hps hS hcall p0 p1 p2 q0 q1 q2 hc0 hc1
        go_wp2_with fail
        refine wp_region_mix (fun W => (W.cell? ⟨g, 0, none⟩ = some (.int .i64 p.1) ∧ W.cell? ⟨g, 1, none⟩ = some (.int .i64 p.2.1) ∧ W.cell? ⟨g, 2, none⟩ = some (.int .i64 p.2.2)) ∧ W.cell? ⟨g, 3, none⟩ = some (.int .i64 q.1) ∧ W.cell? ⟨g, 3 + 1, none⟩ = some (.int .i64 q.2.1) ∧ W.cell? ⟨g, 3 + 2, none⟩ = some (.int .i64 q.2.2)) [0, 1, 2, 3, 4, 5, 6, 7, 8, 9] [0, 1, 2, 3, 4, 5, 6, 7, 8, 9, 10] mixed_ok (by kernel_rfl) ?_
        refine wpMix_q (v := .pointer (some ⟨bj, 0, none⟩)) rfl rfl (fun _ _ _ h => h) HE.out.1 ⟨rfl, fun _ _ => by simp [go_sem]⟩ ?_
        refine wpMix_q (v := .slice (some ⟨g, 0, none⟩) 2 cc) rfl rfl (fun _ _ _ h => h) HE.out.1 ⟨rfl, fun _ _ => by simp [go_sem]⟩ ?_
        refine wpMix_q (v := .pointer (some ⟨g, 0, none⟩)) rfl rfl (fun _ _ _ h => h) HE.out.1 ⟨rfl, fun _ _ => by simp [go_sem]⟩ ?_
        refine wpMix_q (v := vP p) rfl rfl (fun _ _ _ h => h) HE.out.1 ⟨rfl, fun _ h' => by obtain ⟨⟨a0, a1, a2⟩, _⟩ := h'; simp [go_sem, a0, a1, a2]⟩ ?_
        refine wpMix_q (v := .slice (some ⟨g, 0, none⟩) 2 cc) rfl rfl (fun _ _ _ h => h) HE.out.1 ⟨rfl, fun _ _ => by simp [go_sem]⟩ ?_
        refine wpMix_q (v := .pointer (some ⟨g, 3, none⟩)) rfl rfl (fun _ _ _ h => h) HE.out.1 ⟨rfl, fun _ _ => by simp [go_sem]⟩ ?_
        refine wpMix_q (v := vP q) rfl rfl (fun _ _ _ h => h) HE.out.1 ⟨rfl, fun _ h' => by obtain ⟨_, a0, a1, a2⟩ := h'; simp [go_sem, a0, a1, a2]⟩ ?_
        refine wpMix_q (v := .int .i64 vv) rfl rfl (fun _ _ _ h => h) HE.out.1 ⟨rfl, fun _ _ => by simp [go_sem]⟩ ?_
        refine wpMix_q (v := .int .i64 0) rfl rfl (fun _ _ _ h => h) HE.out.1 ⟨rfl, fun _ _ => by simp [go_sem]⟩ ?_
        refine wpMix_q (v := .int .i64 (-1 : Int)) rfl rfl (fun _ _ _ h => h) HE.out.1 ⟨rfl, fun _ _ => by simp [go_sem]⟩ ?_
        refine wpMix_tail _ [_] (by kernel_rfl) rfl ?_
        simp only [List.getElem_toArray, List.getElem_cons_succ, List.getElem_cons_zero]
        go_wp2_with fail
        with_reducible refine HE.out.2.1.mono ?_
        rintro e w9 ⟨rfl, hJ9, hg9⟩
        have H9 := hide (And.intro hJ9 hg9)
        clear hJ9 hg9
        go_wp2
        go_end0
        refine ⟨rfl, ⟨n + 1, by omega, ?_⟩, ?_⟩
        · have hf : faceJ ins 0 false = [joinJ p q vv 0 false] := by
            unfold faceJ
            rw [HE.out.2.2.2.1, HE.out.2.2.2.2.1, ← HE.out.2.2.2.2.2]
            rfl
          rw [hf]
          exact H9.out.1
        · exact HE.out.2.2.1.andThen (grown_drew H9.out.2) (fun j hj => .inr hj)
      · rw [h4] at hC
        subst hC
        have hbw := HY.out.2.2.2.2.below hB hltr
        have z0 := hbw.cell 0
        have z1 := hbw.cell 1
        have z2 := hbw.cell 2
        have z3 := hbw.cell 3
        simp only [List.getElem?_toArray, List.getElem?_cons_zero, List.getElem?_cons_succ] at z0 z1 z2 z3
        have hltwr : w1.heap.size < wr.heap.size := hbw.lt
        obtain ⟨R, hR⟩ : ∃ R, R = wr := ⟨_, rfl⟩
        have HE := hide (And.intro hJr (And.intro hgr (And.intro h4 hring)))
        clear hown hB hcs hl hJr hring hgr h4 hbw
        go_wp2_with fail
        clear z0 z1 z2 z3
        rw [← hR] at HE hltwr ⊢
        rw [show ([ca, cb, cd, ce] : List Pt).length = 4 from rfl, show ((4 : Nat) : Int) = 4 from rfl]
        clear hR
        go_loopw [98] (fun iv wx => ∃ k n' : Nat, k ≤ 4 ∧ iv = .int .i64 k ∧ n' ≤ n + k ∧ Jn wx bj mb n' ins (ms ++ fourN ins 0 false k) ∧ R.grownBy wx (some mb)) (fun iv _ => 4 - (intOf iv).toNat)
        case atStart => exact ⟨0, n, by omega, rfl, by omega, by simpa [fourN] using HE.out.1, World.grownBy.refl _ _⟩
        case round =>
          obtain ⟨k, n', hk, rfl, hn', hJx, hgx⟩ := hrel
          by_cases hlt4 : k < 4
          · obtain ⟨v, hv⟩ : ∃ v, v = ringV 0 false k := ⟨_, rfl⟩
            obtain ⟨nx, hnx⟩ : ∃ nx, nx = ringV 0 false (k + 1) := ⟨_, rfl⟩
            obtain ⟨pv, hpv⟩ : ∃ pv, pv = ringV 0 false (k + 3) := ⟨_, rfl⟩
            have hv8 : v < 8 := by rw [hv]; exact ringV_lt 0 (by omega) false k
            have hx8 : nx < 8 := by rw [hnx]; exact ringV_lt 0 (by omega) false (k + 1)
            have hp8 : pv < 8 := by rw [hpv]; exact ringV_lt 0 (by omega) false (k + 3)
            have hid := HY.out.2.2.2.1 k hlt4
            rw [← hv] at hid
            obtain ⟨r, hr⟩ : ∃ r, r = (k + 1) % 4 := ⟨_, rfl⟩
            obtain ⟨r3, hr3⟩ : ∃ r, r = (k + 3) % 4 := ⟨_, rfl⟩
            have hr4 : r < 4 := by omega
            have hr34 : r3 < 4 := by omega
            have t1 : ((k : Int) + 1).tmod 4 = (r : Int) := by rw [Int.tmod_eq_emod_of_nonneg (by omega)]; omega
            have t3 : ((k : Int) + 3).tmod 4 = (r3 : Int) := by rw [Int.tmod_eq_emod_of_nonneg (by omega)]; omega
            have wk1 : IntKind.i64.wrap ((k : Int) + 1) = (k : Int) + 1 := wrap_small (by omega)
            have wk3 : IntKind.i64.wrap ((k : Int) + 3) = (k : Int) + 3 := wrap_small (by omega)
            have wr1 : IntKind.i64.wrap (r : Int) = (r : Int) := wrap_small (by omega)
            have wr3 : IntKind.i64.wrap (r3 : Int) = (r3 : Int) := wrap_small (by omega)
            have hne : (some w1.heap.size : Option Nat) ≠ some mb := by intro e; injection e; omega
            have cr : wr.cell? ⟨w1.heap.size, r, none⟩ = some (.int .i64 nx) := by
              rw [hnx, ← ringV_mod 0 false (k + 1), ← hr]
              exact hgx.cell (HE.out.2.2.2 r hr4) hne
            have cr3 : wr.cell? ⟨w1.heap.size, r3, none⟩ = some (.int .i64 pv) := by
              rw [hpv, ← ringV_mod 0 false (k + 3), ← hr3]
              exact hgx.cell (HE.out.2.2.2 r3 hr34) hne
            have c1 := hJx.in_ hv8
            obtain ⟨iv, hiv⟩ : ∃ iv, iv = ins v := ⟨_, rfl⟩
            rw [← hiv] at c1
            have hfs := fourN_succ ins 0 false k
            rw [← hv, ← hnx, ← hpv, ← hiv] at hfs
            have i1 : (k : Int) < 4 := by omega
            have i3 : (v : Int) < 8 := by omega
            have j3 : (0 : Int) ≤ (v : Int) := by omega
            have i2 : (r : Int) < 4 := by omega
            have j2 : (0 : Int) ≤ (r : Int) := by omega
            have i5 : (r3 : Int) < 4 := by omega
            have j5 : (0 : Int) ≤ (r3 : Int) := by omega
            have hltJ := hJx.1.lt
            have hltM := hJx.2.lt
            have hltw := Nat.lt_of_lt_of_le hltwr hgx.size
            have HR := hide (And.intro hJx (And.intro hgx hfs))
            clear hJx hgx hfs hv hnx hpv hiv hr hr3 hne
            cases iv
            · clear t1 t3 wk1 wk3 wr1 wr3
              go_wp2
              go_roundw
              case rel =>
                refine ⟨k + 1, n', by omega, by go_num, by omega, ?_, HR.out.2.1⟩
                rw [HR.out.2.2, if_neg (by decide), List.append_nil]
                exact HR.out.1
              case measure => simp [intOf]; omega
            · have HT := hide (And.intro t1 (And.intro t3 (And.intro wk1 (And.intro wk3 (And.intro wr1 wr3)))))
              have hS : wr.drew.cell? ⟨w1.heap.size, r3, none⟩ = some (.int .i64 pv) ∧ wr.drew.cell? ⟨w1.heap.size, r, none⟩ = some (.int .i64 nx) := ⟨cr3, cr⟩
              have HS := hide hS
              clear t1 t3 wk1 wk3 wr1 wr3 hS
              go_wp2_with fail
              refine wp_region_mix (fun W => W.cell? ⟨w1.heap.size, r3, none⟩ = some (.int .i64 pv) ∧ W.cell? ⟨w1.heap.size, r, none⟩ = some (.int .i64 nx)) [0, 1, 2, 3, 4, 5, 6, 8, 9, 10, 11, 12, 13, 15, 16, 17] [0, 1, 2, 3, 4, 5, 6, 8, 9, 10, 11, 12, 13, 15, 16, 17, 7, 14, 18] mixed_ok (by kernel_rfl) ?_
              refine wpMix_q (v := .pointer (some ⟨bj, 0, none⟩)) rfl rfl (fun _ _ _ h => h) HS.out ⟨rfl, fun _ _ => by simp [go_sem]⟩ ?_
              refine wpMix_q (v := .int .i64 k) rfl rfl (fun _ _ _ h => h) HS.out ⟨rfl, fun _ _ => by simp [go_sem]⟩ ?_
              refine wpMix_q (v := .int .i64 ((k : Int) + 3)) rfl rfl (fun _ _ _ h => h) HS.out ⟨rfl, fun _ _ => by simp [go_sem, HT.out.2.2.2.1]⟩ ?_
              refine wpMix_q (v := .int .i64 r3) rfl rfl (fun _ _ _ h => h) HS.out ⟨rfl, fun _ _ => by simp [go_sem, HT.out.2.1]⟩ ?_
              refine wpMix_q (v := .pointer (some ⟨w1.heap.size, r3, none⟩)) rfl rfl (fun _ _ _ h => h) HS.out ⟨rfl, fun _ _ => by simp [go_sem, i5, j5]⟩ ?_
              refine wpMix_q (v := .int .i64 pv) rfl rfl (fun _ _ _ h => h) HS.out ⟨rfl, fun _ h' => by simp [go_sem, h'.1]⟩ ?_
              refine wpMix_q (v := .int .i64 v) rfl rfl (fun _ _ _ h => h) HS.out ⟨rfl, fun _ _ => by simp [go_sem]⟩ ?_
              refine wpMix_q (v := .int .i64 v) rfl rfl (fun _ _ _ h => h) HS.out ⟨rfl, fun _ _ => by simp [go_sem]⟩ ?_
              refine wpMix_q (v := .int .i64 k) rfl rfl (fun _ _ _ h => h) HS.out ⟨rfl, fun _ _ => by simp [go_sem]⟩ ?_
              refine wpMix_q (v := .int .i64 ((k : Int) + 1)) rfl rfl (fun _ _ _ h => h) HS.out ⟨rfl, fun _ _ => by simp [go_sem, HT.out.2.2.1]⟩ ?_
              refine wpMix_q (v := .int .i64 r) rfl rfl (fun _ _ _ h => h) HS.out ⟨rfl, fun _ _ => by simp [go_sem, HT.out.1]⟩ ?_
              refine wpMix_q (v := .pointer (some ⟨w1.heap.size, r, none⟩)) rfl rfl (fun _ _ _ h => h) HS.out ⟨rfl, fun _ _ => by simp [go_sem, i2, j2]⟩ ?_
              refine wpMix_q (v := .int .i64 nx) rfl rfl (fun _ _ _ h => h) HS.out ⟨rfl, fun _ h' => by simp [go_sem, h'.2]⟩ ?_
              refine wpMix_q (v := .int .i64 v) rfl rfl (fun _ _ _ h => h) HS.out ⟨rfl, fun _ _ => by simp [go_sem]⟩ ?_
              refine wpMix_q (v := .int .i64 0) rfl rfl (fun _ _ _ h => h) HS.out ⟨rfl, fun _ _ => by simp [go_sem]⟩ ?_
              refine wpMix_q (v := .int .i64 (-1 : Int)) rfl rfl (fun _ _ _ h => h) HS.out ⟨rfl, fun _ _ => by simp [go_sem]⟩ ?_
              refine wpMix_n rfl rfl ?_
              clear cr cr3 c1
              go_wp2_with fail
              with_reducible refine (middle_any pv v hp8 hv8 _).mono ?_
              rintro e w6 ⟨rfl, hB6⟩
              have hS6 : w6.cell? ⟨w1.heap.size, r3, none⟩ = some (.int .i64 pv) ∧ w6.cell? ⟨w1.heap.size, r, none⟩ = some (.int .i64 nx) := ⟨(hB6.cell (p := ⟨w1.heap.size, r3, none⟩) hltw).trans HS.out.1, (hB6.cell (p := ⟨w1.heap.size, r, none⟩) hltw).trans HS.out.2⟩
              have HB6 := hide (And.intro hB6 hS6)
              clear hB6 hS6
              go_wp2_with fail
              refine ⟨fun _ => HB6.out.2, ?_⟩
              refine wpMix_n rfl rfl ?_
              go_wp2_with fail
              with_reducible refine (middle_any v nx hv8 hx8 _).mono ?_
              rintro e w7 ⟨rfl, hB7⟩
              have hz6 : wr.heap.size ≤ w6.heap.size := HB6.out.1.size
              have hS7 : w7.cell? ⟨w1.heap.size, r3, none⟩ = some (.int .i64 pv) ∧ w7.cell? ⟨w1.heap.size, r, none⟩ = some (.int .i64 nx) := ⟨(hB7.cell (p := ⟨w1.heap.size, r3, none⟩) (by simp; omega)).trans HB6.out.2.1, (hB7.cell (p := ⟨w1.heap.size, r, none⟩) (by simp; omega)).trans HB6.out.2.2⟩
              have hB06 : Below wr.heap.size wr w7 := ((below_drewN (Below.refl _ wr) 1).trans (show Below wr.heap.size wr.drew w6 from HB6.out.1)).trans (hB7.mono hz6)
              have hcall := join_any bj mb n' v 0 ins (ms ++ fourN ins 0 false k) (midP pv v) (midP v nx) false (-1 : Int) rfl w7 (HR.out.1.below hB06 hltJ hltM) (by omega) hv8 (smallP_mid _ _) (smallP_mid _ _) (by omega)
              rw [show ((0 : Nat) : Int) = 0 from rfl] at hcall
              have HC := hide (And.intro hcall (And.intro hB06 hS7))
              clear hB7 hB06 hcall hS7
              go_wp2_with fail
              refine ⟨fun _ => HC.out.2.2, ?_⟩
              refine wpMix_tail _ [_] (by kernel_rfl) rfl ?_
              simp only [List.getElem_toArray, List.getElem_cons_succ, List.getElem_cons_zero]
              go_wp2_with fail
              with_reducible refine HC.out.1.mono ?_
              rintro e w9 ⟨rfl, hJ9, hg9⟩
              have H9 := hide (And.intro hJ9 hg9)
              clear hJ9 hg9
              go_wp2
              go_roundw
              case rel =>
                refine ⟨k + 1, n' + 1, by omega, by go_num, by omega, ?_, ?_⟩
                · rw [HR.out.2.2, if_pos trivial, ← List.append_assoc]
                  exact H9.out.1
                · exact HR.out.2.1.andThen (grown_below' HC.out.2.1 H9.out.2) (fun j hj => .inr hj)
              case measure => simp [intOf]; omega
          · have hke : k = 4 := by omega
            subst hke
            have HX := hide (And.intro hJx hgx)
            clear hJx hgx
            go_wp2
            go_end0
            refine ⟨rfl, ⟨n', by omega, ?_⟩, ?_⟩
            · have hf : faceJ ins 0 false = fourN ins 0 false 4 := by unfold faceJ; rw [HE.out.2.2.1]
              rw [hf]
              exact HX.out.1
            · exact HE.out.2.1.andThen HX.out.2 (fun j hj => .inr hj)
set_option maxRecDepth 100000 in
set_option maxHeartbeats 8000000 in
theorem face0t (bj mb n : Nat) (ins : Nat → Bool) (ms : List (Pt × Pt)) (w : World) (hJ : Jn w bj mb n ins ms) (hn : n ≤ 900) :
    Calls Try.prog 41 #[.pointer (some ⟨bj, 0, none⟩), .int .i64 0, .int .i64 1] w fun e w' => e = .returned (.tuple #[]) ∧ (∃ n', n' ≤ n + 4 ∧ Jn w' bj mb n' ins (ms ++ faceJ ins 0 true)) ∧ w.grownBy w' (some mb) := by
  have ob1 : bits BinOp.or IntKind.i64 1 2 = 3 := by decide +kernel
  have ob2 : bits BinOp.or IntKind.i64 3 4 = 7 := by decide +kernel
  have ob3 : bits BinOp.or IntKind.i64 1 4 = 5 := by decide +kernel
  have ow1 : IntKind.i64.wrap 1 = 1 := by decide +kernel
  have ow2 : IntKind.i64.wrap 2 = 2 := by decide +kernel
  have ow4 : IntKind.i64.wrap 4 = 4 := by decide +kernel
  have hlt := hJ.1.lt
  have hltm := hJ.2.lt
  have HJ := hide hJ
  clear hJ
  go_enter Try.func41, Try.ntmps41
  go_wp2_with fail
  refine (axes8_any 0 (by omega) _).mono ?_
  rintro e w1 ⟨rfl, rfl⟩
  go_wp2_with fail
  refine wp_region_mix (fun _ => True) [0, 1, 2, 3, 4, 5, 6, 7, 8, 9, 10, 11, 12, 13, 14, 15, 16] [0, 1, 2, 3, 4, 5, 6, 7, 8, 9, 10, 11, 12, 13, 14, 15, 16, 17, 18] mixed_ok (by kernel_rfl) ?_
  refine wpMix_q (v := .int .i64 1) rfl rfl (fun _ _ _ h => h) trivial ⟨rfl, fun _ _ => by simp [go_sem]⟩ ?_
  refine wpMix_q (v := .int .i64 1) rfl rfl (fun _ _ _ h => h) trivial ⟨rfl, fun _ _ => by simp [go_sem]⟩ ?_
  refine wpMix_q (v := .int .i64 1) rfl rfl (fun _ _ _ h => h) trivial ⟨rfl, fun _ _ => by simp [go_sem]⟩ ?_
  refine wpMix_q (v := .int .i64 2) rfl rfl (fun _ _ _ h => h) trivial ⟨rfl, fun _ _ => by simp [go_sem, ow2]⟩ ?_
  refine wpMix_q (v := .int .i64 3) rfl rfl (fun _ _ _ h => h) trivial ⟨rfl, fun _ _ => by simp [go_sem, ob1]⟩ ?_
  refine wpMix_q (v := .int .i64 1) rfl rfl (fun _ _ _ h => h) trivial ⟨rfl, fun _ _ => by simp [go_sem]⟩ ?_
  refine wpMix_q (v := .int .i64 1) rfl rfl (fun _ _ _ h => h) trivial ⟨rfl, fun _ _ => by simp [go_sem]⟩ ?_
  refine wpMix_q (v := .int .i64 2) rfl rfl (fun _ _ _ h => h) trivial ⟨rfl, fun _ _ => by simp [go_sem, ow2]⟩ ?_
  refine wpMix_q (v := .int .i64 3) rfl rfl (fun _ _ _ h => h) trivial ⟨rfl, fun _ _ => by simp [go_sem, ob1]⟩ ?_
  refine wpMix_q (v := .int .i64 2) rfl rfl (fun _ _ _ h => h) trivial ⟨rfl, fun _ _ => by simp [go_sem]⟩ ?_
  refine wpMix_q (v := .int .i64 4) rfl rfl (fun _ _ _ h => h) trivial ⟨rfl, fun _ _ => by simp [go_sem, ow4]⟩ ?_
  refine wpMix_q (v := .int .i64 7) rfl rfl (fun _ _ _ h => h) trivial ⟨rfl, fun _ _ => by simp [go_sem, ob2]⟩ ?_
  refine wpMix_q (v := .int .i64 1) rfl rfl (fun _ _ _ h => h) trivial ⟨rfl, fun _ _ => by simp [go_sem]⟩ ?_
  refine wpMix_q (v := .int .i64 2) rfl rfl (fun _ _ _ h => h) trivial ⟨rfl, fun _ _ => by simp [go_sem]⟩ ?_
  refine wpMix_q (v := .int .i64 4) rfl rfl (fun _ _ _ h => h) trivial ⟨rfl, fun _ _ => by simp [go_sem, ow4]⟩ ?_
  refine wpMix_q (v := .int .i64 5) rfl rfl (fun _ _ _ h => h) trivial ⟨rfl, fun _ _ => by simp [go_sem, ob3]⟩ ?_
  refine wpMix_q (v := .agg #[.int .i64 1, .int .i64 3, .int .i64 7, .int .i64 5]) rfl rfl (fun _ _ _ h => h) trivial ⟨rfl, fun _ _ => by simp [go_sem]⟩ ?_
  refine wpMix_n rfl rfl ?_
  go_wp2_with fail
  refine ⟨fun _ => trivial, ?_⟩
  refine wpMix_tail _ [_] (by kernel_rfl) rfl ?_
  simp only [List.getElem_toArray, List.getElem_cons_succ, List.getElem_cons_zero]
  clear ob1 ob2 ob3 ow1 ow2 ow4
  go_wp2_with fail
  obtain ⟨Y, hY⟩ : ∃ Y, Y = (w1.alloc (.cells #[.int .i64 1, .int .i64 3, .int .i64 7, .int .i64 5] 111)).drew := ⟨_, rfl⟩
  rw [← hY]
  have hBY : Below w1.heap.size w1 Y := by rw [hY]; exact ((Below.refl _ w1).alloc (Nat.le_refl _) _).drew
  have hbr : Blk Y w1.heap.size 111 #[.int .i64 1, .int .i64 3, .int .i64 7, .int .i64 5] := by rw [hY]; exact (Blk.new _ _ _).drew
  have hJY := HJ.out.below hBY hlt hltm
  have hring : ∀ r : Nat, r < 4 → Y.cell? ⟨w1.heap.size, r, none⟩ = some (.int .i64 (ringV 0 true r)) := fun r hr => by
    have hc : r = 0 ∨ r = 1 ∨ r = 2 ∨ r = 3 := by omega
    rw [hbr.cell]
    rcases hc with rfl | rfl | rfl | rfl <;> rfl
  have q0 : ∀ W, (Instr.index 111 (.agg #[.int .i64 1, .int .i64 3, .int .i64 7, .int .i64 5]) (.int .i64 0)).run Try.prog W = .ok (.int .i64 1) W := fun _ => by kernel_rfl
  have q1 : ∀ W, (Instr.index 111 (.agg #[.int .i64 1, .int .i64 3, .int .i64 7, .int .i64 5]) (.int .i64 1)).run Try.prog W = .ok (.int .i64 3) W := fun _ => by kernel_rfl
  have q2 : ∀ W, (Instr.index 111 (.agg #[.int .i64 1, .int .i64 3, .int .i64 7, .int .i64 5]) (.int .i64 2)).run Try.prog W = .ok (.int .i64 7) W := fun _ => by kernel_rfl
  have q3 : ∀ W, (Instr.index 111 (.agg #[.int .i64 1, .int .i64 3, .int .i64 7, .int .i64 5]) (.int .i64 3)).run Try.prog W = .ok (.int .i64 5) W := fun _ => by kernel_rfl
  have hidx : ∀ r : Nat, r < 4 → ∀ W, (Instr.index 111 (.agg #[.int .i64 1, .int .i64 3, .int .i64 7, .int .i64 5]) (.int .i64 r)).run Try.prog W = .ok (.int .i64 (ringV 0 true r)) W := fun r hr W => by
    have hc : r = 0 ∨ r = 1 ∨ r = 2 ∨ r = 3 := by omega
    rcases hc with rfl | rfl | rfl | rfl
    · exact q0 W
    · exact q1 W
    · exact q2 W
    · exact q3 W
  have HY := hide (And.intro hBY (And.intro hJY (And.intro hring (And.intro hidx hbr))))
  have hltY := hJY.1.lt
  have hltYm := hJY.2.lt
  have hltr := hbr.lt
  clear hBY hbr hJY hring hidx hY q0 q1 q2 q3
  go_loopw [10, 11, 44] (fun cv iv kv wr => ∃ k : Nat, k ≤ 4 ∧ kv = .int .i64 k ∧ Own encP 3 61 wr Y.heap.size cv (crossN ins 0 true k).length (crossN ins 0 true k) ∧ iv = .int .i64 (lastIn ins 0 true k) ∧ Below Y.heap.size Y wr) (fun _ _ kv _ => 4 - (intOf kv).toNat)
  case atStart => exact ⟨0, by omega, rfl, Own.nil, rfl, Below.refl _ Y⟩
  case round =>
    obtain ⟨k, hk, rfl, hown, rfl, hB⟩ := hrel
    have hszB := hB.size
    have hcl : (crossN ins 0 true k).length ≤ 4 := by
      unfold crossN
      rw [List.length_map]
      exact Nat.le_trans (List.length_filter_le _ _) (by rw [List.length_range]; exact hk)
    have hcs := crossN_succ ins 0 true k
    obtain ⟨C, hC⟩ : ∃ C, C = crossN ins 0 true k := ⟨_, rfl⟩
    rw [← hC] at hown hcl hcs
    obtain ⟨l, hl⟩ : ∃ l, l = lastIn ins 0 true k := ⟨_, rfl⟩
    rw [← hl]
    obtain ⟨Ac, cc, rfl⟩ := hown.form
    by_cases hlt4 : k < 4
    · obtain ⟨v, hv⟩ : ∃ v, v = ringV 0 true k := ⟨_, rfl⟩
      obtain ⟨nx, hnx⟩ : ∃ nx, nx = ringV 0 true (k + 1) := ⟨_, rfl⟩
      have hv8 : v < 8 := by rw [hv]; exact ringV_lt 0 (by omega) true k
      have hx8 : nx < 8 := by rw [hnx]; exact ringV_lt 0 (by omega) true (k + 1)
      have hid := HY.out.2.2.2.1 k hlt4
      rw [← hv] at hid
      obtain ⟨r, hr⟩ : ∃ r, r = (k + 1) % 4 := ⟨_, rfl⟩
      have hr4 : r < 4 := by omega
      have hmod : ((k : Int) + 1) % 4 = (r : Int) := by omega
      have cr : wr.cell? ⟨w1.heap.size, r, none⟩ = some (.int .i64 nx) := by
        rw [hnx, ← ringV_mod 0 true (k + 1), ← hr]
        exact (hB.cell (p := ⟨w1.heap.size, r, none⟩) hltr).trans (HY.out.2.2.1 r hr4)
      have hJr := HY.out.2.1.below hB hltY hltYm
      have c1 := hJr.in_ hv8
      have c2 := hJr.in_ hx8
      obtain ⟨iv, hiv⟩ : ∃ iv, iv = ins v := ⟨_, rfl⟩
      obtain ⟨ix, hix⟩ : ∃ ix, ix = ins nx := ⟨_, rfl⟩
      rw [← hiv] at c1
      rw [← hix] at c2
      have i1 : (k : Int) < 4 := by omega
      have i2 : (r : Int) < 4 := by omega
      have i3 : (v : Int) < 8 := by omega
      have i4 : (nx : Int) < 8 := by omega
      have j2 : (0 : Int) ≤ (r : Int) := by omega
      have j3 : (0 : Int) ≤ (v : Int) := by omega
      have j4 : (0 : Int) ≤ (nx : Int) := by omega
      have HR := hide (And.intro hown (And.intro hB (And.intro hcs (And.intro hv (And.intro hnx (And.intro hiv hix))))))
      have HRl := hide (And.intro hl hr)
      clear hown hB hcs hv hnx hiv hix hJr hr hl hC
      cases iv
      · cases ix
        · go_wp2_with fail
          go_quiet (fail)
          go_wp2
          go_roundw
          case rel =>
            refine ⟨k + 1, by omega, by go_num, ?_, ?_, below_drewN HR.out.2.1 _⟩
            · rw [HR.out.2.2.1, if_neg (by rw [← HR.out.2.2.2.1, ← HR.out.2.2.2.2.1, ← HR.out.2.2.2.2.2.1, ← HR.out.2.2.2.2.2.2]; decide), List.append_nil]
              exact HR.out.1
            · show _ = Value.int .i64 (lastIn ins 0 true (k + 1))
              unfold lastIn
              rw [← HR.out.2.2.2.1, ← HR.out.2.2.2.2.2.1, ← HRl.out.1]
              rfl
          case measure => simp [intOf]; omega
        · go_wp2_with fail
          go_quiet (fail)
          go_wp2_with fail
          with_reducible refine (middle_any v nx hv8 hx8 _).mono ?_
          rintro e w6 ⟨rfl, hB6⟩
          have hB06 : Below wr.heap.size wr w6 := (below_drewN (Below.refl _ wr) _).trans hB6
          have hz6 := hB06.size
          have HO := hide (And.intro ((HR.out.1.below hB06 (Nat.le_refl _)).alloc (.cells #[.int .i64 (midP v nx).1, .int .i64 (midP v nx).2.1, .int .i64 (midP v nx).2.2] 61)) hB06)
          have cv6 : (w6.alloc (.cells #[.int .i64 (midP v nx).1, .int .i64 (midP v nx).2.1, .int .i64 (midP v nx).2.2] 61)).cell? ⟨bj, v, none⟩ = some (.bool false) := (((Below.refl _ w6).alloc (Nat.le_refl _) _).cell (p := ⟨bj, v, none⟩) (by simp; omega)).trans ((hB06.cell (p := ⟨bj, v, none⟩) (by simp; omega)).trans c1)
          clear hB6 hB06 c1 c2 cr
          go_wp2_with (at_builtin; refine wpList_append1 rfl _ _ _ rfl Try.underlying82 infoV rfl (by omega) encP_len8 encP_one8 rfl HO.out.1 w6.heap.size 1 (midP v nx) rfl (Blk.new _ _ _) (by unfold maxLen; omega) (by omega) (by simp; omega) ?_; intro g cap w7 hown7 hg7 hB7 hat7 hgb7 hlt7; have cv7 := (hB7.cell (p := ⟨bj, v, none⟩) (by omega)).trans cv6; clear cv6)
          go_roundw
          case rel =>
            refine ⟨k + 1, by omega, by go_num, ?_, ?_, ((HR.out.2.1.trans (HO.out.2.mono HR.out.2.1.size)).alloc (by omega) _).trans hB7⟩
            · rw [HR.out.2.2.1, if_pos (by rw [← HR.out.2.2.2.1, ← HR.out.2.2.2.2.1, ← HR.out.2.2.2.2.2.1, ← HR.out.2.2.2.2.2.2]; rfl), ← HR.out.2.2.2.1, ← HR.out.2.2.2.2.1, List.length_append]
              exact hown7
            · show _ = Value.int .i64 (lastIn ins 0 true (k + 1))
              unfold lastIn
              rw [← HR.out.2.2.2.1, ← HR.out.2.2.2.2.2.1, ← HRl.out.1]
              rfl
          case measure => simp [intOf]; omega
      · cases ix
        · go_wp2_with fail
          go_quiet (fail)
          go_wp2_with fail
          with_reducible refine (middle_any v nx hv8 hx8 _).mono ?_
          rintro e w6 ⟨rfl, hB6⟩
          have hB06 : Below wr.heap.size wr w6 := (below_drewN (Below.refl _ wr) _).trans hB6
          have hz6 := hB06.size
          have HO := hide (And.intro ((HR.out.1.below hB06 (Nat.le_refl _)).alloc (.cells #[.int .i64 (midP v nx).1, .int .i64 (midP v nx).2.1, .int .i64 (midP v nx).2.2] 61)) hB06)
          have cv6 : (w6.alloc (.cells #[.int .i64 (midP v nx).1, .int .i64 (midP v nx).2.1, .int .i64 (midP v nx).2.2] 61)).cell? ⟨bj, v, none⟩ = some (.bool true) := (((Below.refl _ w6).alloc (Nat.le_refl _) _).cell (p := ⟨bj, v, none⟩) (by simp; omega)).trans ((hB06.cell (p := ⟨bj, v, none⟩) (by simp; omega)).trans c1)
          clear hB6 hB06 c1 c2 cr
          go_wp2_with (at_builtin; refine wpList_append1 rfl _ _ _ rfl Try.underlying82 infoV rfl (by omega) encP_len8 encP_one8 rfl HO.out.1 w6.heap.size 1 (midP v nx) rfl (Blk.new _ _ _) (by unfold maxLen; omega) (by omega) (by simp; omega) ?_; intro g cap w7 hown7 hg7 hB7 hat7 hgb7 hlt7; have cv7 := (hB7.cell (p := ⟨bj, v, none⟩) (by omega)).trans cv6; clear cv6)
          go_roundw
          case rel =>
            refine ⟨k + 1, by omega, by go_num, ?_, ?_, ((HR.out.2.1.trans (HO.out.2.mono HR.out.2.1.size)).alloc (by omega) _).trans hB7⟩
            · rw [HR.out.2.2.1, if_pos (by rw [← HR.out.2.2.2.1, ← HR.out.2.2.2.2.1, ← HR.out.2.2.2.2.2.1, ← HR.out.2.2.2.2.2.2]; rfl), ← HR.out.2.2.2.1, ← HR.out.2.2.2.2.1, List.length_append]
              exact hown7
            · show _ = Value.int .i64 (lastIn ins 0 true (k + 1))
              unfold lastIn
              rw [← HR.out.2.2.2.1, ← HR.out.2.2.2.2.2.1]
              rfl
          case measure => simp [intOf]; omega
        · go_wp2_with fail
          go_quiet (fail)
          go_wp2
          go_roundw
          case rel =>
            refine ⟨k + 1, by omega, by go_num, ?_, ?_, below_drewN HR.out.2.1 _⟩
            · rw [HR.out.2.2.1, if_neg (by rw [← HR.out.2.2.2.1, ← HR.out.2.2.2.2.1, ← HR.out.2.2.2.2.2.1, ← HR.out.2.2.2.2.2.2]; decide), List.append_nil]
              exact HR.out.1
            · show _ = Value.int .i64 (lastIn ins 0 true (k + 1))
              unfold lastIn
              rw [← HR.out.2.2.2.1, ← HR.out.2.2.2.2.2.1]
              rfl
          case measure => simp [intOf]; omega
    · have hke : k = 4 := by omega
      subst hke
      have hJr := HY.out.2.1.below hB hltY hltYm
      have hring : ∀ r : Nat, r < 4 → wr.cell? ⟨w1.heap.size, r, none⟩ = some (.int .i64 (ringV 0 true r)) := fun r hr => (hB.cell (p := ⟨w1.heap.size, r, none⟩) hltr).trans (HY.out.2.2.1 r hr)
      have hgr : w1.grownBy wr (some mb) := by
        have hB1 : Below w1.heap.size w1 wr := HY.out.1.trans (hB.mono HY.out.1.size)
        exact ⟨hB1.os, hB1.tape, hB1.output, hB1.size, fun i hi _ => hB1.block i hi⟩
      have hltw := hgr.size
      rcases crossN_len ins 0 true with (h0 | ⟨p, q, h2, kk, hl2⟩) | ⟨ca, cb, cd, ce, h4⟩
      · rw [h0] at hC
        subst hC
        have HE := hide (And.intro hJr (And.intro hgr h0))
        clear hown hB hcs hl hJr hring hgr h0
        go_wp2
        go_end0
        refine ⟨rfl, ⟨n, by omega, ?_⟩, HE.out.2.1⟩
        have hf : faceJ ins 0 true = [] := by unfold faceJ; rw [HE.out.2.2]
        rw [hf, List.append_nil]
        exact HE.out.1
      · have hps : smallP p ∧ smallP q := by
          have := crossN_small ins 0 true 4
          rw [h2] at this
          exact ⟨this p (by simp), this q (by simp)⟩
        rw [h2] at hC
        rw [hl2] at hl
        subst hC
        obtain ⟨vv, hvv⟩ : ∃ vv, vv = ringV 0 true kk := ⟨_, rfl⟩
        have hv8 : vv < 8 := by rw [hvv]; exact ringV_lt 0 (by omega) true kk
        rw [← hvv] at hl
        subst hl
        obtain ⟨g, cap0, hv0, hgb, hgl⟩ := hown.at (by simp)
        obtain rfl : Ac = some ⟨g, 0, none⟩ := by injection hv0
        obtain ⟨b1, o1, e1, _, hc0⟩ := (hown.sl encP_len8 (Nat.le_refl _)).at (i := 0) (x := p) rfl
        cases e1
        obtain ⟨b1, o1, e1, _, hc1⟩ := (hown.sl encP_len8 (Nat.le_refl _)).at (i := 1) (x := q) rfl
        cases e1
        have p0 := hc0 0 _ rfl
        have p1 := hc0 1 _ rfl
        have p2 := hc0 2 _ rfl
        have q0 := hc1 0 _ rfl
        have q1 := hc1 1 _ rfl
        have q2 := hc1 2 _ rfl
        simp only [Nat.zero_add, Nat.zero_mul, Nat.one_mul, Nat.add_zero] at p0 p1 p2 q0 q1 q2
        have hS : (wr.drew.cell? ⟨g, 0, none⟩ = some (.int .i64 p.1) ∧ wr.drew.cell? ⟨g, 1, none⟩ = some (.int .i64 p.2.1) ∧ wr.drew.cell? ⟨g, 2, none⟩ = some (.int .i64 p.2.2)) ∧ wr.drew.cell? ⟨g, 3, none⟩ = some (.int .i64 q.1) ∧ wr.drew.cell? ⟨g, 3 + 1, none⟩ = some (.int .i64 q.2.1) ∧ wr.drew.cell? ⟨g, 3 + 2, none⟩ = some (.int .i64 q.2.2) := ⟨⟨p0, p1, p2⟩, q0, q1, q2⟩
        have hcall := join_any bj mb n vv 0 ins ms p q true 1 rfl wr.drew ⟨hJr.1.drew, hJr.2⟩ (by omega) hv8 hps.1 hps.2 (by omega)
        rw [show ((0 : Nat) : Int) = 0 from rfl] at hcall
        have HE := hide (And.intro hS (And.intro hcall (And.intro hgr (And.intro h2 (And.intro hl2 hvv)))))
        clear hown hB hcs hJr hring hgr h2 hl2 hvv hps hS hcall p0 p1 p2 q0 q1 q2 hc0 hc1
        go_wp2_with fail
        refine wp_region_mix (fun W => (W.cell? ⟨g, 0, none⟩ = some (.int .i64 p.1) ∧ W.cell? ⟨g, 1, none⟩ = some (.int .i64 p.2.1) ∧ W.cell? ⟨g, 2, none⟩ = some (.int .i64 p.2.2)) ∧ W.cell? ⟨g, 3, none⟩ = some (.int .i64 q.1) ∧ W.cell? ⟨g, 3 + 1, none⟩ = some (.int .i64 q.2.1) ∧ W.cell? ⟨g, 3 + 2, none⟩ = some (.int .i64 q.2.2)) [0, 1, 2, 3, 4, 5, 6, 7, 8, 9] [0, 1, 2, 3, 4, 5, 6, 7, 8, 9, 10] mixed_ok (by kernel_rfl) ?_
        refine wpMix_q (v := .pointer (some ⟨bj, 0, none⟩)) rfl rfl (fun _ _ _ h => h) HE.out.1 ⟨rfl, fun _ _ => by simp [go_sem]⟩ ?_
        refine wpMix_q (v := .slice (some ⟨g, 0, none⟩) 2 cc) rfl rfl (fun _ _ _ h => h) HE.out.1 ⟨rfl, fun _ _ => by simp [go_sem]⟩ ?_
        refine wpMix_q (v := .pointer (some ⟨g, 0, none⟩)) rfl rfl (fun _ _ _ h => h) HE.out.1 ⟨rfl, fun _ _ => by simp [go_sem]⟩ ?_
        refine wpMix_q (v := vP p) rfl rfl (fun _ _ _ h => h) HE.out.1 ⟨rfl, fun _ h' => by obtain ⟨⟨a0, a1, a2⟩, _⟩ := h'; simp [go_sem, a0, a1, a2]⟩ ?_
        refine wpMix_q (v := .slice (some ⟨g, 0, none⟩) 2 cc) rfl rfl (fun _ _ _ h => h) HE.out.1 ⟨rfl, fun _ _ => by simp [go_sem]⟩ ?_
        refine wpMix_q (v := .pointer (some ⟨g, 3, none⟩)) rfl rfl (fun _ _ _ h => h) HE.out.1 ⟨rfl, fun _ _ => by simp [go_sem]⟩ ?_
        refine wpMix_q (v := vP q) rfl rfl (fun _ _ _ h => h) HE.out.1 ⟨rfl, fun _ h' => by obtain ⟨_, a0, a1, a2⟩ := h'; simp [go_sem, a0, a1, a2]⟩ ?_
        refine wpMix_q (v := .int .i64 vv) rfl rfl (fun _ _ _ h => h) HE.out.1 ⟨rfl, fun _ _ => by simp [go_sem]⟩ ?_
        refine wpMix_q (v := .int .i64 0) rfl rfl (fun _ _ _ h => h) HE.out.1 ⟨rfl, fun _ _ => by simp [go_sem]⟩ ?_
        refine wpMix_q (v := .int .i64 1) rfl rfl (fun _ _ _ h => h) HE.out.1 ⟨rfl, fun _ _ => by simp [go_sem]⟩ ?_
        refine wpMix_tail _ [_] (by kernel_rfl) rfl ?_
        simp only [List.getElem_toArray, List.getElem_cons_succ, List.getElem_cons_zero]
        go_wp2_with fail
        with_reducible refine HE.out.2.1.mono ?_
        rintro e w9 ⟨rfl, hJ9, hg9⟩
        have H9 := hide (And.intro hJ9 hg9)
        clear hJ9 hg9
        go_wp2
        go_end0
        refine ⟨rfl, ⟨n + 1, by omega, ?_⟩, ?_⟩
        · have hf : faceJ ins 0 true = [joinJ p q vv 0 true] := by
            unfold faceJ
            rw [HE.out.2.2.2.1, HE.out.2.2.2.2.1, ← HE.out.2.2.2.2.2]
            rfl
          rw [hf]
          exact H9.out.1
        · exact HE.out.2.2.1.andThen (grown_drew H9.out.2) (fun j hj => .inr hj)
      · rw [h4] at hC
        subst hC
        have hbw := HY.out.2.2.2.2.below hB hltr
        have z0 := hbw.cell 0
        have z1 := hbw.cell 1
        have z2 := hbw.cell 2
        have z3 := hbw.cell 3
        simp only [List.getElem?_toArray, List.getElem?_cons_zero, List.getElem?_cons_succ] at z0 z1 z2 z3
        have hltwr : w1.heap.size < wr.heap.size := hbw.lt
        obtain ⟨R, hR⟩ : ∃ R, R = wr := ⟨_, rfl⟩
        have HE := hide (And.intro hJr (And.intro hgr (And.intro h4 hring)))
        clear hown hB hcs hl hJr hring hgr h4 hbw
        go_wp2_with fail
        clear z0 z1 z2 z3
        rw [← hR] at HE hltwr ⊢
        rw [show ([ca, cb, cd, ce] : List Pt).length = 4 from rfl, show ((4 : Nat) : Int) = 4 from rfl]
        clear hR
        go_loopw [98] (fun iv wx => ∃ k n' : Nat, k ≤ 4 ∧ iv = .int .i64 k ∧ n' ≤ n + k ∧ Jn wx bj mb n' ins (ms ++ fourN ins 0 true k) ∧ R.grownBy wx (some mb)) (fun iv _ => 4 - (intOf iv).toNat)
        case atStart => exact ⟨0, n, by omega, rfl, by omega, by simpa [fourN] using HE.out.1, World.grownBy.refl _ _⟩
        case round =>
          obtain ⟨k, n', hk, rfl, hn', hJx, hgx⟩ := hrel
          by_cases hlt4 : k < 4
          · obtain ⟨v, hv⟩ : ∃ v, v = ringV 0 true k := ⟨_, rfl⟩
            obtain ⟨nx, hnx⟩ : ∃ nx, nx = ringV 0 true (k + 1) := ⟨_, rfl⟩
            obtain ⟨pv, hpv⟩ : ∃ pv, pv = ringV 0 true (k + 3) := ⟨_, rfl⟩
            have hv8 : v < 8 := by rw [hv]; exact ringV_lt 0 (by omega) true k
            have hx8 : nx < 8 := by rw [hnx]; exact ringV_lt 0 (by omega) true (k + 1)
            have hp8 : pv < 8 := by rw [hpv]; exact ringV_lt 0 (by omega) true (k + 3)
            have hid := HY.out.2.2.2.1 k hlt4
            rw [← hv] at hid
            obtain ⟨r, hr⟩ : ∃ r, r = (k + 1) % 4 := ⟨_, rfl⟩
            obtain ⟨r3, hr3⟩ : ∃ r, r = (k + 3) % 4 := ⟨_, rfl⟩
            have hr4 : r < 4 := by omega
            have hr34 : r3 < 4 := by omega
            have t1 : ((k : Int) + 1).tmod 4 = (r : Int) := by rw [Int.tmod_eq_emod_of_nonneg (by omega)]; omega
            have t3 : ((k : Int) + 3).tmod 4 = (r3 : Int) := by rw [Int.tmod_eq_emod_of_nonneg (by omega)]; omega
            have wk1 : IntKind.i64.wrap ((k : Int) + 1) = (k : Int) + 1 := wrap_small (by omega)
            have wk3 : IntKind.i64.wrap ((k : Int) + 3) = (k : Int) + 3 := wrap_small (by omega)
            have wr1 : IntKind.i64.wrap (r : Int) = (r : Int) := wrap_small (by omega)
            have wr3 : IntKind.i64.wrap (r3 : Int) = (r3 : Int) := wrap_small (by omega)
            have hne : (some w1.heap.size : Option Nat) ≠ some mb := by intro e; injection e; omega
            have cr : wr.cell? ⟨w1.heap.size, r, none⟩ = some (.int .i64 nx) := by
              rw [hnx, ← ringV_mod 0 true (k + 1), ← hr]
              exact hgx.cell (HE.out.2.2.2 r hr4) hne
            have cr3 : wr.cell? ⟨w1.heap.size, r3, none⟩ = some (.int .i64 pv) := by
              rw [hpv, ← ringV_mod 0 true (k + 3), ← hr3]
              exact hgx.cell (HE.out.2.2.2 r3 hr34) hne
            have c1 := hJx.in_ hv8
            obtain ⟨iv, hiv⟩ : ∃ iv, iv = ins v := ⟨_, rfl⟩
            rw [← hiv] at c1
            have hfs := fourN_succ ins 0 true k
            rw [← hv, ← hnx, ← hpv, ← hiv] at hfs
            have i1 : (k : Int) < 4 := by omega
            have i3 : (v : Int) < 8 := by omega
            have j3 : (0 : Int) ≤ (v : Int) := by omega
            have i2 : (r : Int) < 4 := by omega
            have j2 : (0 : Int) ≤ (r : Int) := by omega
            have i5 : (r3 : Int) < 4 := by omega
            have j5 : (0 : Int) ≤ (r3 : Int) := by omega
            have hltJ := hJx.1.lt
            have hltM := hJx.2.lt
            have hltw := Nat.lt_of_lt_of_le hltwr hgx.size
            have HR := hide (And.intro hJx (And.intro hgx hfs))
            clear hJx hgx hfs hv hnx hpv hiv hr hr3 hne
            cases iv
            · clear t1 t3 wk1 wk3 wr1 wr3
              go_wp2
              go_roundw
              case rel =>
                refine ⟨k + 1, n', by omega, by go_num, by omega, ?_, HR.out.2.1⟩
                rw [HR.out.2.2, if_neg (by decide), List.append_nil]
                exact HR.out.1
              case measure => simp [intOf]; omega
            · have HT := hide (And.intro t1 (And.intro t3 (And.intro wk1 (And.intro wk3 (And.intro wr1 wr3)))))
              have hS : wr.drew.cell? ⟨w1.heap.size, r3, none⟩ = some (.int .i64 pv) ∧ wr.drew.cell? ⟨w1.heap.size, r, none⟩ = some (.int .i64 nx) := ⟨cr3, cr⟩
              have HS := hide hS
              clear t1 t3 wk1 wk3 wr1 wr3 hS
              go_wp2_with fail
              refine wp_region_mix (fun W => W.cell? ⟨w1.heap.size, r3, none⟩ = some (.int .i64 pv) ∧ W.cell? ⟨w1.heap.size, r, none⟩ = some (.int .i64 nx)) [0, 1, 2, 3, 4, 5, 6, 8, 9, 10, 11, 12, 13, 15, 16, 17] [0, 1, 2, 3, 4, 5, 6, 8, 9, 10, 11, 12, 13, 15, 16, 17, 7, 14, 18] mixed_ok (by kernel_rfl) ?_
              refine wpMix_q (v := .pointer (some ⟨bj, 0, none⟩)) rfl rfl (fun _ _ _ h => h) HS.out ⟨rfl, fun _ _ => by simp [go_sem]⟩ ?_
              refine wpMix_q (v := .int .i64 k) rfl rfl (fun _ _ _ h => h) HS.out ⟨rfl, fun _ _ => by simp [go_sem]⟩ ?_
              refine wpMix_q (v := .int .i64 ((k : Int) + 3)) rfl rfl (fun _ _ _ h => h) HS.out ⟨rfl, fun _ _ => by simp [go_sem, HT.out.2.2.2.1]⟩ ?_
              refine wpMix_q (v := .int .i64 r3) rfl rfl (fun _ _ _ h => h) HS.out ⟨rfl, fun _ _ => by simp [go_sem, HT.out.2.1]⟩ ?_
              refine wpMix_q (v := .pointer (some ⟨w1.heap.size, r3, none⟩)) rfl rfl (fun _ _ _ h => h) HS.out ⟨rfl, fun _ _ => by simp [go_sem, i5, j5]⟩ ?_
              refine wpMix_q (v := .int .i64 pv) rfl rfl (fun _ _ _ h => h) HS.out ⟨rfl, fun _ h' => by simp [go_sem, h'.1]⟩ ?_
              refine wpMix_q (v := .int .i64 v) rfl rfl (fun _ _ _ h => h) HS.out ⟨rfl, fun _ _ => by simp [go_sem]⟩ ?_
              refine wpMix_q (v := .int .i64 v) rfl rfl (fun _ _ _ h => h) HS.out ⟨rfl, fun _ _ => by simp [go_sem]⟩ ?_
              refine wpMix_q (v := .int .i64 k) rfl rfl (fun _ _ _ h => h) HS.out ⟨rfl, fun _ _ => by simp [go_sem]⟩ ?_
              refine wpMix_q (v := .int .i64 ((k : Int) + 1)) rfl rfl (fun _ _ _ h => h) HS.out ⟨rfl, fun _ _ => by simp [go_sem, HT.out.2.2.1]⟩ ?_
              refine wpMix_q (v := .int .i64 r) rfl rfl (fun _ _ _ h => h) HS.out ⟨rfl, fun _ _ => by simp [go_sem, HT.out.1]⟩ ?_
              refine wpMix_q (v := .pointer (some ⟨w1.heap.size, r, none⟩)) rfl rfl (fun _ _ _ h => h) HS.out ⟨rfl, fun _ _ => by simp [go_sem, i2, j2]⟩ ?_
              refine wpMix_q (v := .int .i64 nx) rfl rfl (fun _ _ _ h => h) HS.out ⟨rfl, fun _ h' => by simp [go_sem, h'.2]⟩ ?_
              refine wpMix_q (v := .int .i64 v) rfl rfl (fun _ _ _ h => h) HS.out ⟨rfl, fun _ _ => by simp [go_sem]⟩ ?_
              refine wpMix_q (v := .int .i64 0) rfl rfl (fun _ _ _ h => h) HS.out ⟨rfl, fun _ _ => by simp [go_sem]⟩ ?_
              refine wpMix_q (v := .int .i64 1) rfl rfl (fun _ _ _ h => h) HS.out ⟨rfl, fun _ _ => by simp [go_sem]⟩ ?_
              refine wpMix_n rfl rfl ?_
              clear cr cr3 c1
              go_wp2_with fail
              with_reducible refine (middle_any pv v hp8 hv8 _).mono ?_
              rintro e w6 ⟨rfl, hB6⟩
              have hS6 : w6.cell? ⟨w1.heap.size, r3, none⟩ = some (.int .i64 pv) ∧ w6.cell? ⟨w1.heap.size, r, none⟩ = some (.int .i64 nx) := ⟨(hB6.cell (p := ⟨w1.heap.size, r3, none⟩) hltw).trans HS.out.1, (hB6.cell (p := ⟨w1.heap.size, r, none⟩) hltw).trans HS.out.2⟩
              have HB6 := hide (And.intro hB6 hS6)
              clear hB6 hS6
              go_wp2_with fail
              refine ⟨fun _ => HB6.out.2, ?_⟩
              refine wpMix_n rfl rfl ?_
              go_wp2_with fail
              with_reducible refine (middle_any v nx hv8 hx8 _).mono ?_
              rintro e w7 ⟨rfl, hB7⟩
              have hz6 : wr.heap.size ≤ w6.heap.size := HB6.out.1.size
              have hS7 : w7.cell? ⟨w1.heap.size, r3, none⟩ = some (.int .i64 pv) ∧ w7.cell? ⟨w1.heap.size, r, none⟩ = some (.int .i64 nx) := ⟨(hB7.cell (p := ⟨w1.heap.size, r3, none⟩) (by simp; omega)).trans HB6.out.2.1, (hB7.cell (p := ⟨w1.heap.size, r, none⟩) (by simp; omega)).trans HB6.out.2.2⟩
              have hB06 : Below wr.heap.size wr w7 := ((below_drewN (Below.refl _ wr) 1).trans (show Below wr.heap.size wr.drew w6 from HB6.out.1)).trans (hB7.mono hz6)
              have hcall := join_any bj mb n' v 0 ins (ms ++ fourN ins 0 true k) (midP pv v) (midP v nx) true 1 rfl w7 (HR.out.1.below hB06 hltJ hltM) (by omega) hv8 (smallP_mid _ _) (smallP_mid _ _) (by omega)
              rw [show ((0 : Nat) : Int) = 0 from rfl] at hcall
              have HC := hide (And.intro hcall (And.intro hB06 hS7))
              clear hB7 hB06 hcall hS7
              go_wp2_with fail
              refine ⟨fun _ => HC.out.2.2, ?_⟩
              refine wpMix_tail _ [_] (by kernel_rfl) rfl ?_
              simp only [List.getElem_toArray, List.getElem_cons_succ, List.getElem_cons_zero]
              go_wp2_with fail
              with_reducible refine HC.out.1.mono ?_
              rintro e w9 ⟨rfl, hJ9, hg9⟩
              have H9 := hide (And.intro hJ9 hg9)
              clear hJ9 hg9
              go_wp2
              go_roundw
              case rel =>
                refine ⟨k + 1, n' + 1, by omega, by go_num, by omega, ?_, ?_⟩
                · rw [HR.out.2.2, if_pos trivial, ← List.append_assoc]
                  exact H9.out.1
                · exact HR.out.2.1.andThen (grown_below' HC.out.2.1 H9.out.2) (fun j hj => .inr hj)
              case measure => simp [intOf]; omega
          · have hke : k = 4 := by omega
            subst hke
            have HX := hide (And.intro hJx hgx)
            clear hJx hgx
            go_wp2
            go_end0
            refine ⟨rfl, ⟨n', by omega, ?_⟩, ?_⟩
            · have hf : faceJ ins 0 true = fourN ins 0 true 4 := by unfold faceJ; rw [HE.out.2.2.1]
              rw [hf]
              exact HX.out.1
            · exact HE.out.2.1.andThen HX.out.2 (fun j hj => .inr hj)
end Go.Proofs.Ytfljcgehhnmamaa
/- (*contour.joiner).face, axis 1. -/
namespace Go.Proofs.Ytfljcgehhnmamaa
open Go.RowKit Go.WideMaps Go.Maps Go.Sort
set_option maxRecDepth 100000 in
set_option maxHeartbeats 8000000 in
theorem face1f (bj mb n : Nat) (ins : Nat → Bool) (ms : List (Pt × Pt)) (w : World) (hJ : Jn w bj mb n ins ms) (hn : n ≤ 900) :
    Calls Try.prog 41 #[.pointer (some ⟨bj, 0, none⟩), .int .i64 1, .int .i64 (-1 : Int)] w fun e w' => e = .returned (.tuple #[]) ∧ (∃ n', n' ≤ n + 4 ∧ Jn w' bj mb n' ins (ms ++ faceJ ins 1 false)) ∧ w.grownBy w' (some mb) := by
  have ob1 : bits BinOp.or IntKind.i64 0 4 = 4 := by decide +kernel
  have ob2 : bits BinOp.or IntKind.i64 4 1 = 5 := by decide +kernel
  have ob3 : bits BinOp.or IntKind.i64 0 1 = 1 := by decide +kernel
  have ow1 : IntKind.i64.wrap 1 = 1 := by decide +kernel
  have ow2 : IntKind.i64.wrap 2 = 2 := by decide +kernel
  have ow4 : IntKind.i64.wrap 4 = 4 := by decide +kernel
  have hlt := hJ.1.lt
  have hltm := hJ.2.lt
  have HJ := hide hJ
  clear hJ
  go_enter Try.func41, Try.ntmps41
  go_wp2_with fail
  refine (axes8_any 1 (by omega) _).mono ?_
  rintro e w1 ⟨rfl, rfl⟩
  go_wp2_with fail
  refine wp_region_mix (fun _ => True) [0, 1, 2, 3, 4, 5, 6, 7, 8, 9, 10, 11, 12, 13, 14, 15, 16] [0, 1, 2, 3, 4, 5, 6, 7, 8, 9, 10, 11, 12, 13, 14, 15, 16, 17, 18] mixed_ok (by kernel_rfl) ?_
  refine wpMix_q (v := .int .i64 0) rfl rfl (fun _ _ _ h => h) trivial ⟨rfl, fun _ _ => by simp [go_sem]⟩ ?_
  refine wpMix_q (v := .int .i64 0) rfl rfl (fun _ _ _ h => h) trivial ⟨rfl, fun _ _ => by simp [go_sem]⟩ ?_
  refine wpMix_q (v := .int .i64 2) rfl rfl (fun _ _ _ h => h) trivial ⟨rfl, fun _ _ => by simp [go_sem]⟩ ?_
  refine wpMix_q (v := .int .i64 4) rfl rfl (fun _ _ _ h => h) trivial ⟨rfl, fun _ _ => by simp [go_sem, ow4]⟩ ?_
  refine wpMix_q (v := .int .i64 4) rfl rfl (fun _ _ _ h => h) trivial ⟨rfl, fun _ _ => by simp [go_sem, ob1]⟩ ?_
  refine wpMix_q (v := .int .i64 0) rfl rfl (fun _ _ _ h => h) trivial ⟨rfl, fun _ _ => by simp [go_sem]⟩ ?_
  refine wpMix_q (v := .int .i64 2) rfl rfl (fun _ _ _ h => h) trivial ⟨rfl, fun _ _ => by simp [go_sem]⟩ ?_
  refine wpMix_q (v := .int .i64 4) rfl rfl (fun _ _ _ h => h) trivial ⟨rfl, fun _ _ => by simp [go_sem, ow4]⟩ ?_
  refine wpMix_q (v := .int .i64 4) rfl rfl (fun _ _ _ h => h) trivial ⟨rfl, fun _ _ => by simp [go_sem, ob1]⟩ ?_
  refine wpMix_q (v := .int .i64 0) rfl rfl (fun _ _ _ h => h) trivial ⟨rfl, fun _ _ => by simp [go_sem]⟩ ?_
  refine wpMix_q (v := .int .i64 1) rfl rfl (fun _ _ _ h => h) trivial ⟨rfl, fun _ _ => by simp [go_sem, ow1]⟩ ?_
  refine wpMix_q (v := .int .i64 5) rfl rfl (fun _ _ _ h => h) trivial ⟨rfl, fun _ _ => by simp [go_sem, ob2]⟩ ?_
  refine wpMix_q (v := .int .i64 0) rfl rfl (fun _ _ _ h => h) trivial ⟨rfl, fun _ _ => by simp [go_sem]⟩ ?_
  refine wpMix_q (v := .int .i64 0) rfl rfl (fun _ _ _ h => h) trivial ⟨rfl, fun _ _ => by simp [go_sem]⟩ ?_
  refine wpMix_q (v := .int .i64 1) rfl rfl (fun _ _ _ h => h) trivial ⟨rfl, fun _ _ => by simp [go_sem, ow1]⟩ ?_
  refine wpMix_q (v := .int .i64 1) rfl rfl (fun _ _ _ h => h) trivial ⟨rfl, fun _ _ => by simp [go_sem, ob3]⟩ ?_
  refine wpMix_q (v := .agg #[.int .i64 0, .int .i64 4, .int .i64 5, .int .i64 1]) rfl rfl (fun _ _ _ h => h) trivial ⟨rfl, fun _ _ => by simp [go_sem]⟩ ?_
  refine wpMix_n rfl rfl ?_
  go_wp2_with fail
  refine ⟨fun _ => trivial, ?_⟩
  refine wpMix_tail _ [_] (by kernel_rfl) rfl ?_
  simp only [List.getElem_toArray, List.getElem_cons_succ, List.getElem_cons_zero]
  clear ob1 ob2 ob3 ow1 ow2 ow4
  go_wp2_with fail
  obtain ⟨Y, hY⟩ : ∃ Y, Y = (w1.alloc (.cells #[.int .i64 0, .int .i64 4, .int .i64 5, .int .i64 1] 111)).drew := ⟨_, rfl⟩
  rw [← hY]
  have hBY : Below w1.heap.size w1 Y := by rw [hY]; exact ((Below.refl _ w1).alloc (Nat.le_refl _) _).drew
  have hbr : Blk Y w1.heap.size 111 #[.int .i64 0, .int .i64 4, .int .i64 5, .int .i64 1] := by rw [hY]; exact (Blk.new _ _ _).drew
  have hJY := HJ.out.below hBY hlt hltm
  have hring : ∀ r : Nat, r < 4 → Y.cell? ⟨w1.heap.size, r, none⟩ = some (.int .i64 (ringV 1 false r)) := fun r hr => by
    have hc : r = 0 ∨ r = 1 ∨ r = 2 ∨ r = 3 := by omega
    rw [hbr.cell]
    rcases hc with rfl | rfl | rfl | rfl <;> rfl
  have q0 : ∀ W, (Instr.index 111 (.agg #[.int .i64 0, .int .i64 4, .int .i64 5, .int .i64 1]) (.int .i64 0)).run Try.prog W = .ok (.int .i64 0) W := fun _ => by kernel_rfl
  have q1 : ∀ W, (Instr.index 111 (.agg #[.int .i64 0, .int .i64 4, .int .i64 5, .int .i64 1]) (.int .i64 1)).run Try.prog W = .ok (.int .i64 4) W := fun _ => by kernel_rfl
  have q2 : ∀ W, (Instr.index 111 (.agg #[.int .i64 0, .int .i64 4, .int .i64 5, .int .i64 1]) (.int .i64 2)).run Try.prog W = .ok (.int .i64 5) W := fun _ => by kernel_rfl
  have q3 : ∀ W, (Instr.index 111 (.agg #[.int .i64 0, .int .i64 4, .int .i64 5, .int .i64 1]) (.int .i64 3)).run Try.prog W = .ok (.int .i64 1) W := fun _ => by kernel_rfl
  have hidx : ∀ r : Nat, r < 4 → ∀ W, (Instr.index 111 (.agg #[.int .i64 0, .int .i64 4, .int .i64 5, .int .i64 1]) (.int .i64 r)).run Try.prog W = .ok (.int .i64 (ringV 1 false r)) W := fun r hr W => by
    have hc : r = 0 ∨ r = 1 ∨ r = 2 ∨ r = 3 := by omega
    rcases hc with rfl | rfl | rfl | rfl
    · exact q0 W
    · exact q1 W
    · exact q2 W
    · exact q3 W
  have HY := hide (And.intro hBY (And.intro hJY (And.intro hring (And.intro hidx hbr))))
  have hltY := hJY.1.lt
  have hltYm := hJY.2.lt
  have hltr := hbr.lt
  clear hBY hbr hJY hring hidx hY q0 q1 q2 q3
  go_loopw [10, 11, 44] (fun cv iv kv wr => ∃ k : Nat, k ≤ 4 ∧ kv = .int .i64 k ∧ Own encP 3 61 wr Y.heap.size cv (crossN ins 1 false k).length (crossN ins 1 false k) ∧ iv = .int .i64 (lastIn ins 1 false k) ∧ Below Y.heap.size Y wr) (fun _ _ kv _ => 4 - (intOf kv).toNat)
  case atStart => exact ⟨0, by omega, rfl, Own.nil, rfl, Below.refl _ Y⟩
  case round =>
    obtain ⟨k, hk, rfl, hown, rfl, hB⟩ := hrel
    have hszB := hB.size
    have hcl : (crossN ins 1 false k).length ≤ 4 := by
      unfold crossN
      rw [List.length_map]
      exact Nat.le_trans (List.length_filter_le _ _) (by rw [List.length_range]; exact hk)
    have hcs := crossN_succ ins 1 false k
    obtain ⟨C, hC⟩ : ∃ C, C = crossN ins 1 false k := ⟨_, rfl⟩
    rw [← hC] at hown hcl hcs
    obtain ⟨l, hl⟩ : ∃ l, l = lastIn ins 1 false k := ⟨_, rfl⟩
    rw [← hl]
    obtain ⟨Ac, cc, rfl⟩ := hown.form
    by_cases hlt4 : k < 4
    · obtain ⟨v, hv⟩ : ∃ v, v = ringV 1 false k := ⟨_, rfl⟩
      obtain ⟨nx, hnx⟩ : ∃ nx, nx = ringV 1 false (k + 1) := ⟨_, rfl⟩
      have hv8 : v < 8 := by rw [hv]; exact ringV_lt 1 (by omega) false k
      have hx8 : nx < 8 := by rw [hnx]; exact ringV_lt 1 (by omega) false (k + 1)
      have hid := HY.out.2.2.2.1 k hlt4
      rw [← hv] at hid
      obtain ⟨r, hr⟩ : ∃ r, r = (k + 1) % 4 := ⟨_, rfl⟩
      have hr4 : r < 4 := by omega
      have hmod : ((k : Int) + 1) % 4 = (r : Int) := by omega
      have cr : wr.cell? ⟨w1.heap.size, r, none⟩ = some (.int .i64 nx) := by
        rw [hnx, ← ringV_mod 1 false (k + 1), ← hr]
        exact (hB.cell (p := ⟨w1.heap.size, r, none⟩) hltr).trans (HY.out.2.2.1 r hr4)
      have hJr := HY.out.2.1.below hB hltY hltYm
      have c1 := hJr.in_ hv8
      have c2 := hJr.in_ hx8
      obtain ⟨iv, hiv⟩ : ∃ iv, iv = ins v := ⟨_, rfl⟩
      obtain ⟨ix, hix⟩ : ∃ ix, ix = ins nx := ⟨_, rfl⟩
      rw [← hiv] at c1
      rw [← hix] at c2
      have i1 : (k : Int) < 4 := by omega
      have i2 : (r : Int) < 4 := by omega
      have i3 : (v : Int) < 8 := by omega
      have i4 : (nx : Int) < 8 := by omega
      have j2 : (0 : Int) ≤ (r : Int) := by omega
      have j3 : (0 : Int) ≤ (v : Int) := by omega
      have j4 : (0 : Int) ≤ (nx : Int) := by omega
      have HR := hide (And.intro hown (And.intro hB (And.intro hcs (And.intro hv (And.intro hnx (And.intro hiv hix))))))
      have HRl := hide (And.intro hl hr)
      clear hown hB hcs hv hnx hiv hix hJr hr hl hC
      cases iv
      · cases ix
        · go_wp2_with fail
          go_quiet (fail)
          go_wp2
          go_roundw
          case rel =>
            refine ⟨k + 1, by omega, by go_num, ?_, ?_, below_drewN HR.out.2.1 _⟩
            · rw [HR.out.2.2.1, if_neg (by rw [← HR.out.2.2.2.1, ← HR.out.2.2.2.2.1, ← HR.out.2.2.2.2.2.1, ← HR.out.2.2.2.2.2.2]; decide), List.append_nil]
              exact HR.out.1
            · show _ = Value.int .i64 (lastIn ins 1 false (k + 1))
              unfold lastIn
              rw [← HR.out.2.2.2.1, ← HR.out.2.2.2.2.2.1, ← HRl.out.1]
              rfl
          case measure => simp [intOf]; omega
        · go_wp2_with fail
          go_quiet (fail)
          go_wp2_with fail
          with_reducible refine (middle_any v nx hv8 hx8 _).mono ?_
          rintro e w6 ⟨rfl, hB6⟩
          have hB06 : Below wr.heap.size wr w6 := (below_drewN (Below.refl _ wr) _).trans hB6
          have hz6 := hB06.size
          have HO := hide (And.intro ((HR.out.1.below hB06 (Nat.le_refl _)).alloc (.cells #[.int .i64 (midP v nx).1, .int .i64 (midP v nx).2.1, .int .i64 (midP v nx).2.2] 61)) hB06)
          have cv6 : (w6.alloc (.cells #[.int .i64 (midP v nx).1, .int .i64 (midP v nx).2.1, .int .i64 (midP v nx).2.2] 61)).cell? ⟨bj, v, none⟩ = some (.bool false) := (((Below.refl _ w6).alloc (Nat.le_refl _) _).cell (p := ⟨bj, v, none⟩) (by simp; omega)).trans ((hB06.cell (p := ⟨bj, v, none⟩) (by simp; omega)).trans c1)
          clear hB6 hB06 c1 c2 cr
          go_wp2_with (at_builtin; refine wpList_append1 rfl _ _ _ rfl Try.underlying82 infoV rfl (by omega) encP_len8 encP_one8 rfl HO.out.1 w6.heap.size 1 (midP v nx) rfl (Blk.new _ _ _) (by unfold maxLen; omega) (by omega) (by simp; omega) ?_; intro g cap w7 hown7 hg7 hB7 hat7 hgb7 hlt7; have cv7 := (hB7.cell (p := ⟨bj, v, none⟩) (by omega)).trans cv6; clear cv6)
          go_roundw
          case rel =>
            refine ⟨k + 1, by omega, by go_num, ?_, ?_, ((HR.out.2.1.trans (HO.out.2.mono HR.out.2.1.size)).alloc (by omega) _).trans hB7⟩
            · rw [HR.out.2.2.1, if_pos (by rw [← HR.out.2.2.2.1, ← HR.out.2.2.2.2.1, ← HR.out.2.2.2.2.2.1, ← HR.out.2.2.2.2.2.2]; rfl), ← HR.out.2.2.2.1, ← HR.out.2.2.2.2.1, List.length_append]
              exact hown7
            · show _ = Value.int .i64 (lastIn ins 1 false (k + 1))
              unfold lastIn
              rw [← HR.out.2.2.2.1, ← HR.out.2.2.2.2.2.1, ← HRl.out.1]
              rfl
          case measure => simp [intOf]; omega
      · cases ix
        · go_wp2_with fail
          go_quiet (fail)
          go_wp2_with fail
          with_reducible refine (middle_any v nx hv8 hx8 _).mono ?_
          rintro e w6 ⟨rfl, hB6⟩
          have hB06 : Below wr.heap.size wr w6 := (below_drewN (Below.refl _ wr) _).trans hB6
          have hz6 := hB06.size
          have HO := hide (And.intro ((HR.out.1.below hB06 (Nat.le_refl _)).alloc (.cells #[.int .i64 (midP v nx).1, .int .i64 (midP v nx).2.1, .int .i64 (midP v nx).2.2] 61)) hB06)
          have cv6 : (w6.alloc (.cells #[.int .i64 (midP v nx).1, .int .i64 (midP v nx).2.1, .int .i64 (midP v nx).2.2] 61)).cell? ⟨bj, v, none⟩ = some (.bool true) := (((Below.refl _ w6).alloc (Nat.le_refl _) _).cell (p := ⟨bj, v, none⟩) (by simp; omega)).trans ((hB06.cell (p := ⟨bj, v, none⟩) (by simp; omega)).trans c1)
          clear hB6 hB06 c1 c2 cr
          go_wp2_with (at_builtin; refine wpList_append1 rfl _ _ _ rfl Try.underlying82 infoV rfl (by omega) encP_len8 encP_one8 rfl HO.out.1 w6.heap.size 1 (midP v nx) rfl (Blk.new _ _ _) (by unfold maxLen; omega) (by omega) (by simp; omega) ?_; intro g cap w7 hown7 hg7 hB7 hat7 hgb7 hlt7; have cv7 := (hB7.cell (p := ⟨bj, v, none⟩) (by omega)).trans cv6; clear cv6)
          go_roundw
          case rel =>
            refine ⟨k + 1, by omega, by go_num, ?_, ?_, ((HR.out.2.1.trans (HO.out.2.mono HR.out.2.1.size)).alloc (by omega) _).trans hB7⟩
            · rw [HR.out.2.2.1, if_pos (by rw [← HR.out.2.2.2.1, ← HR.out.2.2.2.2.1, ← HR.out.2.2.2.2.2.1, ← HR.out.2.2.2.2.2.2]; rfl), ← HR.out.2.2.2.1, ← HR.out.2.2.2.2.1, List.length_append]
              exact hown7
            · show _ = Value.int .i64 (lastIn ins 1 false (k + 1))
              unfold lastIn
              rw [← HR.out.2.2.2.1, ← HR.out.2.2.2.2.2.1]
              rfl
          case measure => simp [intOf]; omega
        · go_wp2_with fail
          go_quiet (fail)
          go_wp2
          go_roundw
          case rel =>
            refine ⟨k + 1, by omega, by go_num, ?_, ?_, below_drewN HR.out.2.1 _⟩
            · rw [HR.out.2.2.1, if_neg (by rw [← HR.out.2.2.2.1, ← HR.out.2.2.2.2.1, ← HR.out.2.2.2.2.2.1, ← HR.out.2.2.2.2.2.2]; decide), List.append_nil]
              exact HR.out.1
            · show _ = Value.int .i64 (lastIn ins 1 false (k + 1))
              unfold lastIn
              rw [← HR.out.2.2.2.1, ← HR.out.2.2.2.2.2.1]
              rfl
          case measure => simp [intOf]; omega
    · have hke : k = 4 := by omega
      subst hke
      have hJr := HY.out.2.1.below hB hltY hltYm
      have hring : ∀ r : Nat, r < 4 → wr.cell? ⟨w1.heap.size, r, none⟩ = some (.int .i64 (ringV 1 false r)) := fun r hr => (hB.cell (p := ⟨w1.heap.size, r, none⟩) hltr).trans (HY.out.2.2.1 r hr)
      have hgr : w1.grownBy wr (some mb) := by
        have hB1 : Below w1.heap.size w1 wr := HY.out.1.trans (hB.mono HY.out.1.size)
        exact ⟨hB1.os, hB1.tape, hB1.output, hB1.size, fun i hi _ => hB1.block i hi⟩
      have hltw := hgr.size
      rcases crossN_len ins 1 false with (h0 | ⟨p, q, h2, kk, hl2⟩) | ⟨ca, cb, cd, ce, h4⟩
      · rw [h0] at hC
        subst hC
        have HE := hide (And.intro hJr (And.intro hgr h0))
        clear hown hB hcs hl hJr hring hgr h0
        go_wp2
        go_end0
        refine ⟨rfl, ⟨n, by omega, ?_⟩, HE.out.2.1⟩
        have hf : faceJ ins 1 false = [] := by unfold faceJ; rw [HE.out.2.2]
        rw [hf, List.append_nil]
        exact HE.out.1
      · have hps : smallP p ∧ smallP q := by
          have := crossN_small ins 1 false 4
          rw [h2] at this
          exact ⟨this p (by simp), this q (by simp)⟩
        rw [h2] at hC
        rw [hl2] at hl
        subst hC
        obtain ⟨vv, hvv⟩ : ∃ vv, vv = ringV 1 false kk := ⟨_, rfl⟩
        have hv8 : vv < 8 := by rw [hvv]; exact ringV_lt 1 (by omega) false kk
        rw [← hvv] at hl
        subst hl
        obtain ⟨g, cap0, hv0, hgb, hgl⟩ := hown.at (by simp)
        obtain rfl : Ac = some ⟨g, 0, none⟩ := by injection hv0
        obtain ⟨b1, o1, e1, _, hc0⟩ := (hown.sl encP_len8 (Nat.le_refl _)).at (i := 0) (x := p) rfl
        cases e1
        obtain ⟨b1, o1, e1, _, hc1⟩ := (hown.sl encP_len8 (Nat.le_refl _)).at (i := 1) (x := q) rfl
        cases e1
        have p0 := hc0 0 _ rfl
        have p1 := hc0 1 _ rfl
        have p2 := hc0 2 _ rfl
        have q0 := hc1 0 _ rfl
        have q1 := hc1 1 _ rfl
        have q2 := hc1 2 _ rfl
        simp only [Nat.zero_add, Nat.zero_mul, Nat.one_mul, Nat.add_zero] at p0 p1 p2 q0 q1 q2
        have hS : (wr.drew.cell? ⟨g, 0, none⟩ = some (.int .i64 p.1) ∧ wr.drew.cell? ⟨g, 1, none⟩ = some (.int .i64 p.2.1) ∧ wr.drew.cell? ⟨g, 2, none⟩ = some (.int .i64 p.2.2)) ∧ wr.drew.cell? ⟨g, 3, none⟩ = some (.int .i64 q.1) ∧ wr.drew.cell? ⟨g, 3 + 1, none⟩ = some (.int .i64 q.2.1) ∧ wr.drew.cell? ⟨g, 3 + 2, none⟩ = some (.int .i64 q.2.2) := ⟨⟨p0, p1, p2⟩, q0, q1, q2⟩
        have hcall := join_any bj mb n vv 1 ins ms p q false (-1 : Int) rfl wr.drew ⟨hJr.1.drew, hJr.2⟩ (by omega) hv8 hps.1 hps.2 (by omega)
        rw [show ((1 : Nat) : Int) = 1 from rfl] at hcall
        have HE := hide (And.intro hS (And.intro hcall (And.intro hgr (And.intro h2 (And.intro hl2 hvv)))))
        clear hown hB hcs hJr hring hgr h2 hl2 hvv hps hS hcall p0 p1 p2 q0 q1 q2 hc0 hc1
        go_wp2_with fail
        refine wp_region_mix (fun W => (W.cell? ⟨g, 0, none⟩ = some (.int .i64 p.1) ∧ W.cell? ⟨g, 1, none⟩ = some (.int .i64 p.2.1) ∧ W.cell? ⟨g, 2, none⟩ = some (.int .i64 p.2.2)) ∧ W.cell? ⟨g, 3, none⟩ = some (.int .i64 q.1) ∧ W.cell? ⟨g, 3 + 1, none⟩ = some (.int .i64 q.2.1) ∧ W.cell? ⟨g, 3 + 2, none⟩ = some (.int .i64 q.2.2)) [0, 1, 2, 3, 4, 5, 6, 7, 8, 9] [0, 1, 2, 3, 4, 5, 6, 7, 8, 9, 10] mixed_ok (by kernel_rfl) ?_
        refine wpMix_q (v := .pointer (some ⟨bj, 0, none⟩)) rfl rfl (fun _ _ _ h => h) HE.out.1 ⟨rfl, fun _ _ => by simp [go_sem]⟩ ?_
        refine wpMix_q (v := .slice (some ⟨g, 0, none⟩) 2 cc) rfl rfl (fun _ _ _ h => h) HE.out.1 ⟨rfl, fun _ _ => by simp [go_sem]⟩ ?_
        refine wpMix_q (v := .pointer (some ⟨g, 0, none⟩)) rfl rfl (fun _ _ _ h => h) HE.out.1 ⟨rfl, fun _ _ => by simp [go_sem]⟩ ?_
        refine wpMix_q (v := vP p) rfl rfl (fun _ _ _ h => h) HE.out.1 ⟨rfl, fun _ h' => by obtain ⟨⟨a0, a1, a2⟩, _⟩ := h'; simp [go_sem, a0, a1, a2]⟩ ?_
        refine wpMix_q (v := .slice (some ⟨g, 0, none⟩) 2 cc) rfl rfl (fun _ _ _ h => h) HE.out.1 ⟨rfl, fun _ _ => by simp [go_sem]⟩ ?_
        refine wpMix_q (v := .pointer (some ⟨g, 3, none⟩)) rfl rfl (fun _ _ _ h => h) HE.out.1 ⟨rfl, fun _ _ => by simp [go_sem]⟩ ?_
        refine wpMix_q (v := vP q) rfl rfl (fun _ _ _ h => h) HE.out.1 ⟨rfl, fun _ h' => by obtain ⟨_, a0, a1, a2⟩ := h'; simp [go_sem, a0, a1, a2]⟩ ?_
        refine wpMix_q (v := .int .i64 vv) rfl rfl (fun _ _ _ h => h) HE.out.1 ⟨rfl, fun _ _ => by simp [go_sem]⟩ ?_
        refine wpMix_q (v := .int .i64 1) rfl rfl (fun _ _ _ h => h) HE.out.1 ⟨rfl, fun _ _ => by simp [go_sem]⟩ ?_
        refine wpMix_q (v := .int .i64 (-1 : Int)) rfl rfl (fun _ _ _ h => h) HE.out.1 ⟨rfl, fun _ _ => by simp [go_sem]⟩ ?_
        refine wpMix_tail _ [_] (by kernel_rfl) rfl ?_
        simp only [List.getElem_toArray, List.getElem_cons_succ, List.getElem_cons_zero]
        go_wp2_with fail
        with_reducible refine HE.out.2.1.mono ?_
        rintro e w9 ⟨rfl, hJ9, hg9⟩
        have H9 := hide (And.intro hJ9 hg9)
        clear hJ9 hg9
        go_wp2
        go_end0
        refine ⟨rfl, ⟨n + 1, by omega, ?_⟩, ?_⟩
        · have hf : faceJ ins 1 false = [joinJ p q vv 1 false] := by
            unfold faceJ
            rw [HE.out.2.2.2.1, HE.out.2.2.2.2.1, ← HE.out.2.2.2.2.2]
            rfl
          rw [hf]
          exact H9.out.1
        · exact HE.out.2.2.1.andThen (grown_drew H9.out.2) (fun j hj => .inr hj)
      · rw [h4] at hC
        subst hC
        have hbw := HY.out.2.2.2.2.below hB hltr
        have z0 := hbw.cell 0
        have z1 := hbw.cell 1
        have z2 := hbw.cell 2
        have z3 := hbw.cell 3
        simp only [List.getElem?_toArray, List.getElem?_cons_zero, List.getElem?_cons_succ] at z0 z1 z2 z3
        have hltwr : w1.heap.size < wr.heap.size := hbw.lt
        obtain ⟨R, hR⟩ : ∃ R, R = wr := ⟨_, rfl⟩
        have HE := hide (And.intro hJr (And.intro hgr (And.intro h4 hring)))
        clear hown hB hcs hl hJr hring hgr h4 hbw
        go_wp2_with fail
        clear z0 z1 z2 z3
        rw [← hR] at HE hltwr ⊢
        rw [show ([ca, cb, cd, ce] : List Pt).length = 4 from rfl, show ((4 : Nat) : Int) = 4 from rfl]
        clear hR
        go_loopw [98] (fun iv wx => ∃ k n' : Nat, k ≤ 4 ∧ iv = .int .i64 k ∧ n' ≤ n + k ∧ Jn wx bj mb n' ins (ms ++ fourN ins 1 false k) ∧ R.grownBy wx (some mb)) (fun iv _ => 4 - (intOf iv).toNat)
        case atStart => exact ⟨0, n, by omega, rfl, by omega, by simpa [fourN] using HE.out.1, World.grownBy.refl _ _⟩
        case round =>
          obtain ⟨k, n', hk, rfl, hn', hJx, hgx⟩ := hrel
          by_cases hlt4 : k < 4
          · obtain ⟨v, hv⟩ : ∃ v, v = ringV 1 false k := ⟨_, rfl⟩
            obtain ⟨nx, hnx⟩ : ∃ nx, nx = ringV 1 false (k + 1) := ⟨_, rfl⟩
            obtain ⟨pv, hpv⟩ : ∃ pv, pv = ringV 1 false (k + 3) := ⟨_, rfl⟩
            have hv8 : v < 8 := by rw [hv]; exact ringV_lt 1 (by omega) false k
            have hx8 : nx < 8 := by rw [hnx]; exact ringV_lt 1 (by omega) false (k + 1)
            have hp8 : pv < 8 := by rw [hpv]; exact ringV_lt 1 (by omega) false (k + 3)
            have hid := HY.out.2.2.2.1 k hlt4
            rw [← hv] at hid
            obtain ⟨r, hr⟩ : ∃ r, r = (k + 1) % 4 := ⟨_, rfl⟩
            obtain ⟨r3, hr3⟩ : ∃ r, r = (k + 3) % 4 := ⟨_, rfl⟩
            have hr4 : r < 4 := by omega
            have hr34 : r3 < 4 := by omega
            have t1 : ((k : Int) + 1).tmod 4 = (r : Int) := by rw [Int.tmod_eq_emod_of_nonneg (by omega)]; omega
            have t3 : ((k : Int) + 3).tmod 4 = (r3 : Int) := by rw [Int.tmod_eq_emod_of_nonneg (by omega)]; omega
            have wk1 : IntKind.i64.wrap ((k : Int) + 1) = (k : Int) + 1 := wrap_small (by omega)
            have wk3 : IntKind.i64.wrap ((k : Int) + 3) = (k : Int) + 3 := wrap_small (by omega)
            have wr1 : IntKind.i64.wrap (r : Int) = (r : Int) := wrap_small (by omega)
            have wr3 : IntKind.i64.wrap (r3 : Int) = (r3 : Int) := wrap_small (by omega)
            have hne : (some w1.heap.size : Option Nat) ≠ some mb := by intro e; injection e; omega
            have cr : wr.cell? ⟨w1.heap.size, r, none⟩ = some (.int .i64 nx) := by
              rw [hnx, ← ringV_mod 1 false (k + 1), ← hr]
              exact hgx.cell (HE.out.2.2.2 r hr4) hne
            have cr3 : wr.cell? ⟨w1.heap.size, r3, none⟩ = some (.int .i64 pv) := by
              rw [hpv, ← ringV_mod 1 false (k + 3), ← hr3]
              exact hgx.cell (HE.out.2.2.2 r3 hr34) hne
            have c1 := hJx.in_ hv8
            obtain ⟨iv, hiv⟩ : ∃ iv, iv = ins v := ⟨_, rfl⟩
            rw [← hiv] at c1
            have hfs := fourN_succ ins 1 false k
            rw [← hv, ← hnx, ← hpv, ← hiv] at hfs
            have i1 : (k : Int) < 4 := by omega
            have i3 : (v : Int) < 8 := by omega
            have j3 : (0 : Int) ≤ (v : Int) := by omega
            have i2 : (r : Int) < 4 := by omega
            have j2 : (0 : Int) ≤ (r : Int) := by omega
            have i5 : (r3 : Int) < 4 := by omega
            have j5 : (0 : Int) ≤ (r3 : Int) := by omega
            have hltJ := hJx.1.lt
            have hltM := hJx.2.lt
            have hltw := Nat.lt_of_lt_of_le hltwr hgx.size
            have HR := hide (And.intro hJx (And.intro hgx hfs))
            clear hJx hgx hfs hv hnx hpv hiv hr hr3 hne
            cases iv
            · clear t1 t3 wk1 wk3 wr1 wr3
              go_wp2
              go_roundw
              case rel =>
                refine ⟨k + 1, n', by omega, by go_num, by omega, ?_, HR.out.2.1⟩
                rw [HR.out.2.2, if_neg (by decide), List.append_nil]
                exact HR.out.1
              case measure => simp [intOf]; omega
            · have HT := hide (And.intro t1 (And.intro t3 (And.intro wk1 (And.intro wk3 (And.intro wr1 wr3)))))
              have hS : wr.drew.cell? ⟨w1.heap.size, r3, none⟩ = some (.int .i64 pv) ∧ wr.drew.cell? ⟨w1.heap.size, r, none⟩ = some (.int .i64 nx) := ⟨cr3, cr⟩
              have HS := hide hS
              clear t1 t3 wk1 wk3 wr1 wr3 hS
              go_wp2_with fail
              refine wp_region_mix (fun W => W.cell? ⟨w1.heap.size, r3, none⟩ = some (.int .i64 pv) ∧ W.cell? ⟨w1.heap.size, r, none⟩ = some (.int .i64 nx)) [0, 1, 2, 3, 4, 5, 6, 8, 9, 10, 11, 12, 13, 15, 16, 17] [0, 1, 2, 3, 4, 5, 6, 8, 9, 10, 11, 12, 13, 15, 16, 17, 7, 14, 18] mixed_ok (by kernel_rfl) ?_
              refine wpMix_q (v := .pointer (some ⟨bj, 0, none⟩)) rfl rfl (fun _ _ _ h => h) HS.out ⟨rfl, fun _ _ => by simp [go_sem]⟩ ?_
              refine wpMix_q (v := .int .i64 k) rfl rfl (fun _ _ _ h => h) HS.out ⟨rfl, fun _ _ => by simp [go_sem]⟩ ?_
              refine wpMix_q (v := .int .i64 ((k : Int) + 3)) rfl rfl (fun _ _ _ h => h) HS.out ⟨rfl, fun _ _ => by simp [go_sem, HT.out.2.2.2.1]⟩ ?_
              refine wpMix_q (v := .int .i64 r3) rfl rfl (fun _ _ _ h => h) HS.out ⟨rfl, fun _ _ => by simp [go_sem, HT.out.2.1]⟩ ?_
              refine wpMix_q (v := .pointer (some ⟨w1.heap.size, r3, none⟩)) rfl rfl (fun _ _ _ h => h) HS.out ⟨rfl, fun _ _ => by simp [go_sem, i5, j5]⟩ ?_
              refine wpMix_q (v := .int .i64 pv) rfl rfl (fun _ _ _ h => h) HS.out ⟨rfl, fun _ h' => by simp [go_sem, h'.1]⟩ ?_
              refine wpMix_q (v := .int .i64 v) rfl rfl (fun _ _ _ h => h) HS.out ⟨rfl, fun _ _ => by simp [go_sem]⟩ ?_
              refine wpMix_q (v := .int .i64 v) rfl rfl (fun _ _ _ h => h) HS.out ⟨rfl, fun _ _ => by simp [go_sem]⟩ ?_
              refine wpMix_q (v := .int .i64 k) rfl rfl (fun _ _ _ h => h) HS.out ⟨rfl, fun _ _ => by simp [go_sem]⟩ ?_
              refine wpMix_q (v := .int .i64 ((k : Int) + 1)) rfl rfl (fun _ _ _ h => h) HS.out ⟨rfl, fun _ _ => by simp [go_sem, HT.out.2.2.1]⟩ ?_
              refine wpMix_q (v := .int .i64 r) rfl rfl (fun _ _ _ h => h) HS.out ⟨rfl, fun _ _ => by simp [go_sem, HT.out.1]⟩ ?_
              refine wpMix_q (v := .pointer (some ⟨w1.heap.size, r, none⟩)) rfl rfl (fun _ _ _ h => h) HS.out ⟨rfl, fun _ _ => by simp [go_sem, i2, j2]⟩ ?_
              refine wpMix_q (v := .int .i64 nx) rfl rfl (fun _ _ _ h => h) HS.out ⟨rfl, fun _ h' => by simp [go_sem, h'.2]⟩ ?_
              refine wpMix_q (v := .int .i64 v) rfl rfl (fun _ _ _ h => h) HS.out ⟨rfl, fun _ _ => by simp [go_sem]⟩ ?_
              refine wpMix_q (v := .int .i64 1) rfl rfl (fun _ _ _ h => h) HS.out ⟨rfl, fun _ _ => by simp [go_sem]⟩ ?_
              refine wpMix_q (v := .int .i64 (-1 : Int)) rfl rfl (fun _ _ _ h => h) HS.out ⟨rfl, fun _ _ => by simp [go_sem]⟩ ?_
              refine wpMix_n rfl rfl ?_
              clear cr cr3 c1
              go_wp2_with fail
              with_reducible refine (middle_any pv v hp8 hv8 _).mono ?_
              rintro e w6 ⟨rfl, hB6⟩
              have hS6 : w6.cell? ⟨w1.heap.size, r3, none⟩ = some (.int .i64 pv) ∧ w6.cell? ⟨w1.heap.size, r, none⟩ = some (.int .i64 nx) := ⟨(hB6.cell (p := ⟨w1.heap.size, r3, none⟩) hltw).trans HS.out.1, (hB6.cell (p := ⟨w1.heap.size, r, none⟩) hltw).trans HS.out.2⟩
              have HB6 := hide (And.intro hB6 hS6)
              clear hB6 hS6
              go_wp2_with fail
              refine ⟨fun _ => HB6.out.2, ?_⟩
              refine wpMix_n rfl rfl ?_
              go_wp2_with fail
              with_reducible refine (middle_any v nx hv8 hx8 _).mono ?_
              rintro e w7 ⟨rfl, hB7⟩
              have hz6 : wr.heap.size ≤ w6.heap.size := HB6.out.1.size
              have hS7 : w7.cell? ⟨w1.heap.size, r3, none⟩ = some (.int .i64 pv) ∧ w7.cell? ⟨w1.heap.size, r, none⟩ = some (.int .i64 nx) := ⟨(hB7.cell (p := ⟨w1.heap.size, r3, none⟩) (by simp; omega)).trans HB6.out.2.1, (hB7.cell (p := ⟨w1.heap.size, r, none⟩) (by simp; omega)).trans HB6.out.2.2⟩
              have hB06 : Below wr.heap.size wr w7 := ((below_drewN (Below.refl _ wr) 1).trans (show Below wr.heap.size wr.drew w6 from HB6.out.1)).trans (hB7.mono hz6)
              have hcall := join_any bj mb n' v 1 ins (ms ++ fourN ins 1 false k) (midP pv v) (midP v nx) false (-1 : Int) rfl w7 (HR.out.1.below hB06 hltJ hltM) (by omega) hv8 (smallP_mid _ _) (smallP_mid _ _) (by omega)
              rw [show ((1 : Nat) : Int) = 1 from rfl] at hcall
              have HC := hide (And.intro hcall (And.intro hB06 hS7))
              clear hB7 hB06 hcall hS7
              go_wp2_with fail
              refine ⟨fun _ => HC.out.2.2, ?_⟩
              refine wpMix_tail _ [_] (by kernel_rfl) rfl ?_
              simp only [List.getElem_toArray, List.getElem_cons_succ, List.getElem_cons_zero]
              go_wp2_with fail
              with_reducible refine HC.out.1.mono ?_
              rintro e w9 ⟨rfl, hJ9, hg9⟩
              have H9 := hide (And.intro hJ9 hg9)
              clear hJ9 hg9
              go_wp2
              go_roundw
              case rel =>
                refine ⟨k + 1, n' + 1, by omega, by go_num, by omega, ?_, ?_⟩
                · rw [HR.out.2.2, if_pos trivial, ← List.append_assoc]
                  exact H9.out.1
                · exact HR.out.2.1.andThen (grown_below' HC.out.2.1 H9.out.2) (fun j hj => .inr hj)
              case measure => simp [intOf]; omega
          · have hke : k = 4 := by omega
            subst hke
            have HX := hide (And.intro hJx hgx)
            clear hJx hgx
            go_wp2
            go_end0
            refine ⟨rfl, ⟨n', by omega, ?_⟩, ?_⟩
            · have hf : faceJ ins 1 false = fourN ins 1 false 4 := by unfold faceJ; rw [HE.out.2.2.1]
              rw [hf]
              exact HX.out.1
            · exact HE.out.2.1.andThen HX.out.2 (fun j hj => .inr hj)
set_option maxRecDepth 100000 in
set_option maxHeartbeats 8000000 in
theorem face1t (bj mb n : Nat) (ins : Nat → Bool) (ms : List (Pt × Pt)) (w : World) (hJ : Jn w bj mb n ins ms) (hn : n ≤ 900) :
    Calls Try.prog 41 #[.pointer (some ⟨bj, 0, none⟩), .int .i64 1, .int .i64 1] w fun e w' => e = .returned (.tuple #[]) ∧ (∃ n', n' ≤ n + 4 ∧ Jn w' bj mb n' ins (ms ++ faceJ ins 1 true)) ∧ w.grownBy w' (some mb) := by
  have ob1 : bits BinOp.or IntKind.i64 2 4 = 6 := by decide +kernel
  have ob2 : bits BinOp.or IntKind.i64 6 1 = 7 := by decide +kernel
  have ob3 : bits BinOp.or IntKind.i64 2 1 = 3 := by decide +kernel
  have ow1 : IntKind.i64.wrap 1 = 1 := by decide +kernel
  have ow2 : IntKind.i64.wrap 2 = 2 := by decide +kernel
  have ow4 : IntKind.i64.wrap 4 = 4 := by decide +kernel
  have hlt := hJ.1.lt
  have hltm := hJ.2.lt
  have HJ := hide hJ
  clear hJ
  go_enter Try.func41, Try.ntmps41
  go_wp2_with fail
  refine (axes8_any 1 (by omega) _).mono ?_
  rintro e w1 ⟨rfl, rfl⟩
  go_wp2_with fail
  refine wp_region_mix (fun _ => True) [0, 1, 2, 3, 4, 5, 6, 7, 8, 9, 10, 11, 12, 13, 14, 15, 16] [0, 1, 2, 3, 4, 5, 6, 7, 8, 9, 10, 11, 12, 13, 14, 15, 16, 17, 18] mixed_ok (by kernel_rfl) ?_
  refine wpMix_q (v := .int .i64 2) rfl rfl (fun _ _ _ h => h) trivial ⟨rfl, fun _ _ => by simp [go_sem]⟩ ?_
  refine wpMix_q (v := .int .i64 2) rfl rfl (fun _ _ _ h => h) trivial ⟨rfl, fun _ _ => by simp [go_sem]⟩ ?_
  refine wpMix_q (v := .int .i64 2) rfl rfl (fun _ _ _ h => h) trivial ⟨rfl, fun _ _ => by simp [go_sem]⟩ ?_
  refine wpMix_q (v := .int .i64 4) rfl rfl (fun _ _ _ h => h) trivial ⟨rfl, fun _ _ => by simp [go_sem, ow4]⟩ ?_
  refine wpMix_q (v := .int .i64 6) rfl rfl (fun _ _ _ h => h) trivial ⟨rfl, fun _ _ => by simp [go_sem, ob1]⟩ ?_
  refine wpMix_q (v := .int .i64 2) rfl rfl (fun _ _ _ h => h) trivial ⟨rfl, fun _ _ => by simp [go_sem]⟩ ?_
  refine wpMix_q (v := .int .i64 2) rfl rfl (fun _ _ _ h => h) trivial ⟨rfl, fun _ _ => by simp [go_sem]⟩ ?_
  refine wpMix_q (v := .int .i64 4) rfl rfl (fun _ _ _ h => h) trivial ⟨rfl, fun _ _ => by simp [go_sem, ow4]⟩ ?_
  refine wpMix_q (v := .int .i64 6) rfl rfl (fun _ _ _ h => h) trivial ⟨rfl, fun _ _ => by simp [go_sem, ob1]⟩ ?_
  refine wpMix_q (v := .int .i64 0) rfl rfl (fun _ _ _ h => h) trivial ⟨rfl, fun _ _ => by simp [go_sem]⟩ ?_
  refine wpMix_q (v := .int .i64 1) rfl rfl (fun _ _ _ h => h) trivial ⟨rfl, fun _ _ => by simp [go_sem, ow1]⟩ ?_
  refine wpMix_q (v := .int .i64 7) rfl rfl (fun _ _ _ h => h) trivial ⟨rfl, fun _ _ => by simp [go_sem, ob2]⟩ ?_
  refine wpMix_q (v := .int .i64 2) rfl rfl (fun _ _ _ h => h) trivial ⟨rfl, fun _ _ => by simp [go_sem]⟩ ?_
  refine wpMix_q (v := .int .i64 0) rfl rfl (fun _ _ _ h => h) trivial ⟨rfl, fun _ _ => by simp [go_sem]⟩ ?_
  refine wpMix_q (v := .int .i64 1) rfl rfl (fun _ _ _ h => h) trivial ⟨rfl, fun _ _ => by simp [go_sem, ow1]⟩ ?_
  refine wpMix_q (v := .int .i64 3) rfl rfl (fun _ _ _ h => h) trivial ⟨rfl, fun _ _ => by simp [go_sem, ob3]⟩ ?_
  refine wpMix_q (v := .agg #[.int .i64 2, .int .i64 6, .int .i64 7, .int .i64 3]) rfl rfl (fun _ _ _ h => h) trivial ⟨rfl, fun _ _ => by simp [go_sem]⟩ ?_
  refine wpMix_n rfl rfl ?_
  go_wp2_with fail
  refine ⟨fun _ => trivial, ?_⟩
  refine wpMix_tail _ [_] (by kernel_rfl) rfl ?_
  simp only [List.getElem_toArray, List.getElem_cons_succ, List.getElem_cons_zero]
  clear ob1 ob2 ob3 ow1 ow2 ow4
  go_wp2_with fail
  obtain ⟨Y, hY⟩ : ∃ Y, Y = (w1.alloc (.cells #[.int .i64 2, .int .i64 6, .int .i64 7, .int .i64 3] 111)).drew := ⟨_, rfl⟩
  rw [← hY]
  have hBY : Below w1.heap.size w1 Y := by rw [hY]; exact ((Below.refl _ w1).alloc (Nat.le_refl _) _).drew
  have hbr : Blk Y w1.heap.size 111 #[.int .i64 2, .int .i64 6, .int .i64 7, .int .i64 3] := by rw [hY]; exact (Blk.new _ _ _).drew
  have hJY := HJ.out.below hBY hlt hltm
  have hring : ∀ r : Nat, r < 4 → Y.cell? ⟨w1.heap.size, r, none⟩ = some (.int .i64 (ringV 1 true r)) := fun r hr => by
    have hc : r = 0 ∨ r = 1 ∨ r = 2 ∨ r = 3 := by omega
    rw [hbr.cell]
    rcases hc with rfl | rfl | rfl | rfl <;> rfl
  have q0 : ∀ W, (Instr.index 111 (.agg #[.int .i64 2, .int .i64 6, .int .i64 7, .int .i64 3]) (.int .i64 0)).run Try.prog W = .ok (.int .i64 2) W := fun _ => by kernel_rfl
  have q1 : ∀ W, (Instr.index 111 (.agg #[.int .i64 2, .int .i64 6, .int .i64 7, .int .i64 3]) (.int .i64 1)).run Try.prog W = .ok (.int .i64 6) W := fun _ => by kernel_rfl
  have q2 : ∀ W, (Instr.index 111 (.agg #[.int .i64 2, .int .i64 6, .int .i64 7, .int .i64 3]) (.int .i64 2)).run Try.prog W = .ok (.int .i64 7) W := fun _ => by kernel_rfl
  have q3 : ∀ W, (Instr.index 111 (.agg #[.int .i64 2, .int .i64 6, .int .i64 7, .int .i64 3]) (.int .i64 3)).run Try.prog W = .ok (.int .i64 3) W := fun _ => by kernel_rfl
  have hidx : ∀ r : Nat, r < 4 → ∀ W, (Instr.index 111 (.agg #[.int .i64 2, .int .i64 6, .int .i64 7, .int .i64 3]) (.int .i64 r)).run Try.prog W = .ok (.int .i64 (ringV 1 true r)) W := fun r hr W => by
    have hc : r = 0 ∨ r = 1 ∨ r = 2 ∨ r = 3 := by omega
    rcases hc with rfl | rfl | rfl | rfl
    · exact q0 W
    · exact q1 W
    · exact q2 W
    · exact q3 W
  have HY := hide (And.intro hBY (And.intro hJY (And.intro hring (And.intro hidx hbr))))
  have hltY := hJY.1.lt
  have hltYm := hJY.2.lt
  have hltr := hbr.lt
  clear hBY hbr hJY hring hidx hY q0 q1 q2 q3
  go_loopw [10, 11, 44] (fun cv iv kv wr => ∃ k : Nat, k ≤ 4 ∧ kv = .int .i64 k ∧ Own encP 3 61 wr Y.heap.size cv (crossN ins 1 true k).length (crossN ins 1 true k) ∧ iv = .int .i64 (lastIn ins 1 true k) ∧ Below Y.heap.size Y wr) (fun _ _ kv _ => 4 - (intOf kv).toNat)
  case atStart => exact ⟨0, by omega, rfl, Own.nil, rfl, Below.refl _ Y⟩
  case round =>
    obtain ⟨k, hk, rfl, hown, rfl, hB⟩ := hrel
    have hszB := hB.size
    have hcl : (crossN ins 1 true k).length ≤ 4 := by
      unfold crossN
      rw [List.length_map]
      exact Nat.le_trans (List.length_filter_le _ _) (by rw [List.length_range]; exact hk)
    have hcs := crossN_succ ins 1 true k
    obtain ⟨C, hC⟩ : ∃ C, C = crossN ins 1 true k := ⟨_, rfl⟩
    rw [← hC] at hown hcl hcs
    obtain ⟨l, hl⟩ : ∃ l, l = lastIn ins 1 true k := ⟨_, rfl⟩
    rw [← hl]
    obtain ⟨Ac, cc, rfl⟩ := hown.form
    by_cases hlt4 : k < 4
    · obtain ⟨v, hv⟩ : ∃ v, v = ringV 1 true k := ⟨_, rfl⟩
      obtain ⟨nx, hnx⟩ : ∃ nx, nx = ringV 1 true (k + 1) := ⟨_, rfl⟩
      have hv8 : v < 8 := by rw [hv]; exact ringV_lt 1 (by omega) true k
      have hx8 : nx < 8 := by rw [hnx]; exact ringV_lt 1 (by omega) true (k + 1)
      have hid := HY.out.2.2.2.1 k hlt4
      rw [← hv] at hid
      obtain ⟨r, hr⟩ : ∃ r, r = (k + 1) % 4 := ⟨_, rfl⟩
      have hr4 : r < 4 := by omega
      have hmod : ((k : Int) + 1) % 4 = (r : Int) := by omega
      have cr : wr.cell? ⟨w1.heap.size, r, none⟩ = some (.int .i64 nx) := by
        rw [hnx, ← ringV_mod 1 true (k + 1), ← hr]
        exact (hB.cell (p := ⟨w1.heap.size, r, none⟩) hltr).trans (HY.out.2.2.1 r hr4)
      have hJr := HY.out.2.1.below hB hltY hltYm
      have c1 := hJr.in_ hv8
      have c2 := hJr.in_ hx8
      obtain ⟨iv, hiv⟩ : ∃ iv, iv = ins v := ⟨_, rfl⟩
      obtain ⟨ix, hix⟩ : ∃ ix, ix = ins nx := ⟨_, rfl⟩
      rw [← hiv] at c1
      rw [← hix] at c2
      have i1 : (k : Int) < 4 := by omega
      have i2 : (r : Int) < 4 := by omega
      have i3 : (v : Int) < 8 := by omega
      have i4 : (nx : Int) < 8 := by omega
      have j2 : (0 : Int) ≤ (r : Int) := by omega
      have j3 : (0 : Int) ≤ (v : Int) := by omega
      have j4 : (0 : Int) ≤ (nx : Int) := by omega
      have HR := hide (And.intro hown (And.intro hB (And.intro hcs (And.intro hv (And.intro hnx (And.intro hiv hix))))))
      have HRl := hide (And.intro hl hr)
      clear hown hB hcs hv hnx hiv hix hJr hr hl hC
      cases iv
      · cases ix
        · go_wp2_with fail
          go_quiet (fail)
          go_wp2
          go_roundw
          case rel =>
            refine ⟨k + 1, by omega, by go_num, ?_, ?_, below_drewN HR.out.2.1 _⟩
            · rw [HR.out.2.2.1, if_neg (by rw [← HR.out.2.2.2.1, ← HR.out.2.2.2.2.1, ← HR.out.2.2.2.2.2.1, ← HR.out.2.2.2.2.2.2]; decide), List.append_nil]
              exact HR.out.1
            · show _ = Value.int .i64 (lastIn ins 1 true (k + 1))
              unfold lastIn
              rw [← HR.out.2.2.2.1, ← HR.out.2.2.2.2.2.1, ← HRl.out.1]
              rfl
          case measure => simp [intOf]; omega
        · go_wp2_with fail
          go_quiet (fail)
          go_wp2_with fail
          with_reducible refine (middle_any v nx hv8 hx8 _).mono ?_
          rintro e w6 ⟨rfl, hB6⟩
          have hB06 : Below wr.heap.size wr w6 := (below_drewN (Below.refl _ wr) _).trans hB6
          have hz6 := hB06.size
          have HO := hide (And.intro ((HR.out.1.below hB06 (Nat.le_refl _)).alloc (.cells #[.int .i64 (midP v nx).1, .int .i64 (midP v nx).2.1, .int .i64 (midP v nx).2.2] 61)) hB06)
          have cv6 : (w6.alloc (.cells #[.int .i64 (midP v nx).1, .int .i64 (midP v nx).2.1, .int .i64 (midP v nx).2.2] 61)).cell? ⟨bj, v, none⟩ = some (.bool false) := (((Below.refl _ w6).alloc (Nat.le_refl _) _).cell (p := ⟨bj, v, none⟩) (by simp; omega)).trans ((hB06.cell (p := ⟨bj, v, none⟩) (by simp; omega)).trans c1)
          clear hB6 hB06 c1 c2 cr
          go_wp2_with (at_builtin; refine wpList_append1 rfl _ _ _ rfl Try.underlying82 infoV rfl (by omega) encP_len8 encP_one8 rfl HO.out.1 w6.heap.size 1 (midP v nx) rfl (Blk.new _ _ _) (by unfold maxLen; omega) (by omega) (by simp; omega) ?_; intro g cap w7 hown7 hg7 hB7 hat7 hgb7 hlt7; have cv7 := (hB7.cell (p := ⟨bj, v, none⟩) (by omega)).trans cv6; clear cv6)
          go_roundw
          case rel =>
            refine ⟨k + 1, by omega, by go_num, ?_, ?_, ((HR.out.2.1.trans (HO.out.2.mono HR.out.2.1.size)).alloc (by omega) _).trans hB7⟩
            · rw [HR.out.2.2.1, if_pos (by rw [← HR.out.2.2.2.1, ← HR.out.2.2.2.2.1, ← HR.out.2.2.2.2.2.1, ← HR.out.2.2.2.2.2.2]; rfl), ← HR.out.2.2.2.1, ← HR.out.2.2.2.2.1, List.length_append]
              exact hown7
            · show _ = Value.int .i64 (lastIn ins 1 true (k + 1))
              unfold lastIn
              rw [← HR.out.2.2.2.1, ← HR.out.2.2.2.2.2.1, ← HRl.out.1]
              rfl
          case measure => simp [intOf]; omega
      · cases ix
        · go_wp2_with fail
          go_quiet (fail)
          go_wp2_with fail
          with_reducible refine (middle_any v nx hv8 hx8 _).mono ?_
          rintro e w6 ⟨rfl, hB6⟩
          have hB06 : Below wr.heap.size wr w6 := (below_drewN (Below.refl _ wr) _).trans hB6
          have hz6 := hB06.size
          have HO := hide (And.intro ((HR.out.1.below hB06 (Nat.le_refl _)).alloc (.cells #[.int .i64 (midP v nx).1, .int .i64 (midP v nx).2.1, .int .i64 (midP v nx).2.2] 61)) hB06)
          have cv6 : (w6.alloc (.cells #[.int .i64 (midP v nx).1, .int .i64 (midP v nx).2.1, .int .i64 (midP v nx).2.2] 61)).cell? ⟨bj, v, none⟩ = some (.bool true) := (((Below.refl _ w6).alloc (Nat.le_refl _) _).cell (p := ⟨bj, v, none⟩) (by simp; omega)).trans ((hB06.cell (p := ⟨bj, v, none⟩) (by simp; omega)).trans c1)
          clear hB6 hB06 c1 c2 cr
          go_wp2_with (at_builtin; refine wpList_append1 rfl _ _ _ rfl Try.underlying82 infoV rfl (by omega) encP_len8 encP_one8 rfl HO.out.1 w6.heap.size 1 (midP v nx) rfl (Blk.new _ _ _) (by unfold maxLen; omega) (by omega) (by simp; omega) ?_; intro g cap w7 hown7 hg7 hB7 hat7 hgb7 hlt7; have cv7 := (hB7.cell (p := ⟨bj, v, none⟩) (by omega)).trans cv6; clear cv6)
          go_roundw
          case rel =>
            refine ⟨k + 1, by omega, by go_num, ?_, ?_, ((HR.out.2.1.trans (HO.out.2.mono HR.out.2.1.size)).alloc (by omega) _).trans hB7⟩
            · rw [HR.out.2.2.1, if_pos (by rw [← HR.out.2.2.2.1, ← HR.out.2.2.2.2.1, ← HR.out.2.2.2.2.2.1, ← HR.out.2.2.2.2.2.2]; rfl), ← HR.out.2.2.2.1, ← HR.out.2.2.2.2.1, List.length_append]
              exact hown7
            · show _ = Value.int .i64 (lastIn ins 1 true (k + 1))
              unfold lastIn
              rw [← HR.out.2.2.2.1, ← HR.out.2.2.2.2.2.1]
              rfl
          case measure => simp [intOf]; omega
        · go_wp2_with fail
          go_quiet (fail)
          go_wp2
          go_roundw
          case rel =>
            refine ⟨k + 1, by omega, by go_num, ?_, ?_, below_drewN HR.out.2.1 _⟩
            · rw [HR.out.2.2.1, if_neg (by rw [← HR.out.2.2.2.1, ← HR.out.2.2.2.2.1, ← HR.out.2.2.2.2.2.1, ← HR.out.2.2.2.2.2.2]; decide), List.append_nil]
              exact HR.out.1
            · show _ = Value.int .i64 (lastIn ins 1 true (k + 1))
              unfold lastIn
              rw [← HR.out.2.2.2.1, ← HR.out.2.2.2.2.2.1]
              rfl
          case measure => simp [intOf]; omega
    · have hke : k = 4 := by omega
      subst hke
      have hJr := HY.out.2.1.below hB hltY hltYm
      have hring : ∀ r : Nat, r < 4 → wr.cell? ⟨w1.heap.size, r, none⟩ = some (.int .i64 (ringV 1 true r)) := fun r hr => (hB.cell (p := ⟨w1.heap.size, r, none⟩) hltr).trans (HY.out.2.2.1 r hr)
      have hgr : w1.grownBy wr (some mb) := by
        have hB1 : Below w1.heap.size w1 wr := HY.out.1.trans (hB.mono HY.out.1.size)
        exact ⟨hB1.os, hB1.tape, hB1.output, hB1.size, fun i hi _ => hB1.block i hi⟩
      have hltw := hgr.size
      rcases crossN_len ins 1 true with (h0 | ⟨p, q, h2, kk, hl2⟩) | ⟨ca, cb, cd, ce, h4⟩
      · rw [h0] at hC
        subst hC
        have HE := hide (And.intro hJr (And.intro hgr h0))
        clear hown hB hcs hl hJr hring hgr h0
        go_wp2
        go_end0
        refine ⟨rfl, ⟨n, by omega, ?_⟩, HE.out.2.1⟩
        have hf : faceJ ins 1 true = [] := by unfold faceJ; rw [HE.out.2.2]
        rw [hf, List.append_nil]
        exact HE.out.1
      · have hps : smallP p ∧ smallP q := by
          have := crossN_small ins 1 true 4
          rw [h2] at this
          exact ⟨this p (by simp), this q (by simp)⟩
        rw [h2] at hC
        rw [hl2] at hl
        subst hC
        obtain ⟨vv, hvv⟩ : ∃ vv, vv = ringV 1 true kk := ⟨_, rfl⟩
        have hv8 : vv < 8 := by rw [hvv]; exact ringV_lt 1 (by omega) true kk
        rw [← hvv] at hl
        subst hl
        obtain ⟨g, cap0, hv0, hgb, hgl⟩ := hown.at (by simp)
        obtain rfl : Ac = some ⟨g, 0, none⟩ := by injection hv0
        obtain ⟨b1, o1, e1, _, hc0⟩ := (hown.sl encP_len8 (Nat.le_refl _)).at (i := 0) (x := p) rfl
        cases e1
        obtain ⟨b1, o1, e1, _, hc1⟩ := (hown.sl encP_len8 (Nat.le_refl _)).at (i := 1) (x := q) rfl
        cases e1
        have p0 := hc0 0 _ rfl
        have p1 := hc0 1 _ rfl
        have p2 := hc0 2 _ rfl
        have q0 := hc1 0 _ rfl
        have q1 := hc1 1 _ rfl
        have q2 := hc1 2 _ rfl
        simp only [Nat.zero_add, Nat.zero_mul, Nat.one_mul, Nat.add_zero] at p0 p1 p2 q0 q1 q2
        have hS : (wr.drew.cell? ⟨g, 0, none⟩ = some (.int .i64 p.1) ∧ wr.drew.cell? ⟨g, 1, none⟩ = some (.int .i64 p.2.1) ∧ wr.drew.cell? ⟨g, 2, none⟩ = some (.int .i64 p.2.2)) ∧ wr.drew.cell? ⟨g, 3, none⟩ = some (.int .i64 q.1) ∧ wr.drew.cell? ⟨g, 3 + 1, none⟩ = some (.int .i64 q.2.1) ∧ wr.drew.cell? ⟨g, 3 + 2, none⟩ = some (.int .i64 q.2.2) := ⟨⟨p0, p1, p2⟩, q0, q1, q2⟩
        have hcall := join_any bj mb n vv 1 ins ms p q true 1 rfl wr.drew ⟨hJr.1.drew, hJr.2⟩ (by omega) hv8 hps.1 hps.2 (by omega)
        rw [show ((1 : Nat) : Int) = 1 from rfl] at hcall
        have HE := hide (And.intro hS (And.intro hcall (And.intro hgr (And.intro h2 (And.intro hl2 hvv)))))
        clear hown hB hcs hJr hring hgr h2 hl2 hvv hps hS hcall p0 p1 p2 q0 q1 q2 hc0 hc1
        go_wp2_with fail
        refine wp_region_mix (fun W => (W.cell? ⟨g, 0, none⟩ = some (.int .i64 p.1) ∧ W.cell? ⟨g, 1, none⟩ = some (.int .i64 p.2.1) ∧ W.cell? ⟨g, 2, none⟩ = some (.int .i64 p.2.2)) ∧ W.cell? ⟨g, 3, none⟩ = some (.int .i64 q.1) ∧ W.cell? ⟨g, 3 + 1, none⟩ = some (.int .i64 q.2.1) ∧ W.cell? ⟨g, 3 + 2, none⟩ = some (.int .i64 q.2.2)) [0, 1, 2, 3, 4, 5, 6, 7, 8, 9] [0, 1, 2, 3, 4, 5, 6, 7, 8, 9, 10] mixed_ok (by kernel_rfl) ?_
        refine wpMix_q (v := .pointer (some ⟨bj, 0, none⟩)) rfl rfl (fun _ _ _ h => h) HE.out.1 ⟨rfl, fun _ _ => by simp [go_sem]⟩ ?_
        refine wpMix_q (v := .slice (some ⟨g, 0, none⟩) 2 cc) rfl rfl (fun _ _ _ h => h) HE.out.1 ⟨rfl, fun _ _ => by simp [go_sem]⟩ ?_
        refine wpMix_q (v := .pointer (some ⟨g, 0, none⟩)) rfl rfl (fun _ _ _ h => h) HE.out.1 ⟨rfl, fun _ _ => by simp [go_sem]⟩ ?_
        refine wpMix_q (v := vP p) rfl rfl (fun _ _ _ h => h) HE.out.1 ⟨rfl, fun _ h' => by obtain ⟨⟨a0, a1, a2⟩, _⟩ := h'; simp [go_sem, a0, a1, a2]⟩ ?_
        refine wpMix_q (v := .slice (some ⟨g, 0, none⟩) 2 cc) rfl rfl (fun _ _ _ h => h) HE.out.1 ⟨rfl, fun _ _ => by simp [go_sem]⟩ ?_
        refine wpMix_q (v := .pointer (some ⟨g, 3, none⟩)) rfl rfl (fun _ _ _ h => h) HE.out.1 ⟨rfl, fun _ _ => by simp [go_sem]⟩ ?_
        refine wpMix_q (v := vP q) rfl rfl (fun _ _ _ h => h) HE.out.1 ⟨rfl, fun _ h' => by obtain ⟨_, a0, a1, a2⟩ := h'; simp [go_sem, a0, a1, a2]⟩ ?_
        refine wpMix_q (v := .int .i64 vv) rfl rfl (fun _ _ _ h => h) HE.out.1 ⟨rfl, fun _ _ => by simp [go_sem]⟩ ?_
        refine wpMix_q (v := .int .i64 1) rfl rfl (fun _ _ _ h => h) HE.out.1 ⟨rfl, fun _ _ => by simp [go_sem]⟩ ?_
        refine wpMix_q (v := .int .i64 1) rfl rfl (fun _ _ _ h => h) HE.out.1 ⟨rfl, fun _ _ => by simp [go_sem]⟩ ?_
        refine wpMix_tail _ [_] (by kernel_rfl) rfl ?_
        simp only [List.getElem_toArray, List.getElem_cons_succ, List.getElem_cons_zero]
        go_wp2_with fail
        with_reducible refine HE.out.2.1.mono ?_
        rintro e w9 ⟨rfl, hJ9, hg9⟩
        have H9 := hide (And.intro hJ9 hg9)
        clear hJ9 hg9
        go_wp2
        go_end0
        refine ⟨rfl, ⟨n + 1, by omega, ?_⟩, ?_⟩
        · have hf : faceJ ins 1 true = [joinJ p q vv 1 true] := by
            unfold faceJ
            rw [HE.out.2.2.2.1, HE.out.2.2.2.2.1, ← HE.out.2.2.2.2.2]
            rfl
          rw [hf]
          exact H9.out.1
        · exact HE.out.2.2.1.andThen (grown_drew H9.out.2) (fun j hj => .inr hj)
      · rw [h4] at hC
        subst hC
        have hbw := HY.out.2.2.2.2.below hB hltr
        have z0 := hbw.cell 0
        have z1 := hbw.cell 1
        have z2 := hbw.cell 2
        have z3 := hbw.cell 3
        simp only [List.getElem?_toArray, List.getElem?_cons_zero, List.getElem?_cons_succ] at z0 z1 z2 z3
        have hltwr : w1.heap.size < wr.heap.size := hbw.lt
        obtain ⟨R, hR⟩ : ∃ R, R = wr := ⟨_, rfl⟩
        have HE := hide (And.intro hJr (And.intro hgr (And.intro h4 hring)))
        clear hown hB hcs hl hJr hring hgr h4 hbw
        go_wp2_with fail
        clear z0 z1 z2 z3
        rw [← hR] at HE hltwr ⊢
        rw [show ([ca, cb, cd, ce] : List Pt).length = 4 from rfl, show ((4 : Nat) : Int) = 4 from rfl]
        clear hR
        go_loopw [98] (fun iv wx => ∃ k n' : Nat, k ≤ 4 ∧ iv = .int .i64 k ∧ n' ≤ n + k ∧ Jn wx bj mb n' ins (ms ++ fourN ins 1 true k) ∧ R.grownBy wx (some mb)) (fun iv _ => 4 - (intOf iv).toNat)
        case atStart => exact ⟨0, n, by omega, rfl, by omega, by simpa [fourN] using HE.out.1, World.grownBy.refl _ _⟩
        case round =>
          obtain ⟨k, n', hk, rfl, hn', hJx, hgx⟩ := hrel
          by_cases hlt4 : k < 4
          · obtain ⟨v, hv⟩ : ∃ v, v = ringV 1 true k := ⟨_, rfl⟩
            obtain ⟨nx, hnx⟩ : ∃ nx, nx = ringV 1 true (k + 1) := ⟨_, rfl⟩
            obtain ⟨pv, hpv⟩ : ∃ pv, pv = ringV 1 true (k + 3) := ⟨_, rfl⟩
            have hv8 : v < 8 := by rw [hv]; exact ringV_lt 1 (by omega) true k
            have hx8 : nx < 8 := by rw [hnx]; exact ringV_lt 1 (by omega) true (k + 1)
            have hp8 : pv < 8 := by rw [hpv]; exact ringV_lt 1 (by omega) true (k + 3)
            have hid := HY.out.2.2.2.1 k hlt4
            rw [← hv] at hid
            obtain ⟨r, hr⟩ : ∃ r, r = (k + 1) % 4 := ⟨_, rfl⟩
            obtain ⟨r3, hr3⟩ : ∃ r, r = (k + 3) % 4 := ⟨_, rfl⟩
            have hr4 : r < 4 := by omega
            have hr34 : r3 < 4 := by omega
            have t1 : ((k : Int) + 1).tmod 4 = (r : Int) := by rw [Int.tmod_eq_emod_of_nonneg (by omega)]; omega
            have t3 : ((k : Int) + 3).tmod 4 = (r3 : Int) := by rw [Int.tmod_eq_emod_of_nonneg (by omega)]; omega
            have wk1 : IntKind.i64.wrap ((k : Int) + 1) = (k : Int) + 1 := wrap_small (by omega)
            have wk3 : IntKind.i64.wrap ((k : Int) + 3) = (k : Int) + 3 := wrap_small (by omega)
            have wr1 : IntKind.i64.wrap (r : Int) = (r : Int) := wrap_small (by omega)
            have wr3 : IntKind.i64.wrap (r3 : Int) = (r3 : Int) := wrap_small (by omega)
            have hne : (some w1.heap.size : Option Nat) ≠ some mb := by intro e; injection e; omega
            have cr : wr.cell? ⟨w1.heap.size, r, none⟩ = some (.int .i64 nx) := by
              rw [hnx, ← ringV_mod 1 true (k + 1), ← hr]
              exact hgx.cell (HE.out.2.2.2 r hr4) hne
            have cr3 : wr.cell? ⟨w1.heap.size, r3, none⟩ = some (.int .i64 pv) := by
              rw [hpv, ← ringV_mod 1 true (k + 3), ← hr3]
              exact hgx.cell (HE.out.2.2.2 r3 hr34) hne
            have c1 := hJx.in_ hv8
            obtain ⟨iv, hiv⟩ : ∃ iv, iv = ins v := ⟨_, rfl⟩
            rw [← hiv] at c1
            have hfs := fourN_succ ins 1 true k
            rw [← hv, ← hnx, ← hpv, ← hiv] at hfs
            have i1 : (k : Int) < 4 := by omega
            have i3 : (v : Int) < 8 := by omega
            have j3 : (0 : Int) ≤ (v : Int) := by omega
            have i2 : (r : Int) < 4 := by omega
            have j2 : (0 : Int) ≤ (r : Int) := by omega
            have i5 : (r3 : Int) < 4 := by omega
            have j5 : (0 : Int) ≤ (r3 : Int) := by omega
            have hltJ := hJx.1.lt
            have hltM := hJx.2.lt
            have hltw := Nat.lt_of_lt_of_le hltwr hgx.size
            have HR := hide (And.intro hJx (And.intro hgx hfs))
            clear hJx hgx hfs hv hnx hpv hiv hr hr3 hne
            cases iv
            · clear t1 t3 wk1 wk3 wr1 wr3
              go_wp2
              go_roundw
              case rel =>
                refine ⟨k + 1, n', by omega, by go_num, by omega, ?_, HR.out.2.1⟩
                rw [HR.out.2.2, if_neg (by decide), List.append_nil]
                exact HR.out.1
              case measure => simp [intOf]; omega
            · have HT := hide (And.intro t1 (And.intro t3 (And.intro wk1 (And.intro wk3 (And.intro wr1 wr3)))))
              have hS : wr.drew.cell? ⟨w1.heap.size, r3, none⟩ = some (.int .i64 pv) ∧ wr.drew.cell? ⟨w1.heap.size, r, none⟩ = some (.int .i64 nx) := ⟨cr3, cr⟩
              have HS := hide hS
              clear t1 t3 wk1 wk3 wr1 wr3 hS
              go_wp2_with fail
              refine wp_region_mix (fun W => W.cell? ⟨w1.heap.size, r3, none⟩ = some (.int .i64 pv) ∧ W.cell? ⟨w1.heap.size, r, none⟩ = some (.int .i64 nx)) [0, 1, 2, 3, 4, 5, 6, 8, 9, 10, 11, 12, 13, 15, 16, 17] [0, 1, 2, 3, 4, 5, 6, 8, 9, 10, 11, 12, 13, 15, 16, 17, 7, 14, 18] mixed_ok (by kernel_rfl) ?_
              refine wpMix_q (v := .pointer (some ⟨bj, 0, none⟩)) rfl rfl (fun _ _ _ h => h) HS.out ⟨rfl, fun _ _ => by simp [go_sem]⟩ ?_
              refine wpMix_q (v := .int .i64 k) rfl rfl (fun _ _ _ h => h) HS.out ⟨rfl, fun _ _ => by simp [go_sem]⟩ ?_
              refine wpMix_q (v := .int .i64 ((k : Int) + 3)) rfl rfl (fun _ _ _ h => h) HS.out ⟨rfl, fun _ _ => by simp [go_sem, HT.out.2.2.2.1]⟩ ?_
              refine wpMix_q (v := .int .i64 r3) rfl rfl (fun _ _ _ h => h) HS.out ⟨rfl, fun _ _ => by simp [go_sem, HT.out.2.1]⟩ ?_
              refine wpMix_q (v := .pointer (some ⟨w1.heap.size, r3, none⟩)) rfl rfl (fun _ _ _ h => h) HS.out ⟨rfl, fun _ _ => by simp [go_sem, i5, j5]⟩ ?_
              refine wpMix_q (v := .int .i64 pv) rfl rfl (fun _ _ _ h => h) HS.out ⟨rfl, fun _ h' => by simp [go_sem, h'.1]⟩ ?_
              refine wpMix_q (v := .int .i64 v) rfl rfl (fun _ _ _ h => h) HS.out ⟨rfl, fun _ _ => by simp [go_sem]⟩ ?_
              refine wpMix_q (v := .int .i64 v) rfl rfl (fun _ _ _ h => h) HS.out ⟨rfl, fun _ _ => by simp [go_sem]⟩ ?_
              refine wpMix_q (v := .int .i64 k) rfl rfl (fun _ _ _ h => h) HS.out ⟨rfl, fun _ _ => by simp [go_sem]⟩ ?_
              refine wpMix_q (v := .int .i64 ((k : Int) + 1)) rfl rfl (fun _ _ _ h => h) HS.out ⟨rfl, fun _ _ => by simp [go_sem, HT.out.2.2.1]⟩ ?_
              refine wpMix_q (v := .int .i64 r) rfl rfl (fun _ _ _ h => h) HS.out ⟨rfl, fun _ _ => by simp [go_sem, HT.out.1]⟩ ?_
              refine wpMix_q (v := .pointer (some ⟨w1.heap.size, r, none⟩)) rfl rfl (fun _ _ _ h => h) HS.out ⟨rfl, fun _ _ => by simp [go_sem, i2, j2]⟩ ?_
              refine wpMix_q (v := .int .i64 nx) rfl rfl (fun _ _ _ h => h) HS.out ⟨rfl, fun _ h' => by simp [go_sem, h'.2]⟩ ?_
              refine wpMix_q (v := .int .i64 v) rfl rfl (fun _ _ _ h => h) HS.out ⟨rfl, fun _ _ => by simp [go_sem]⟩ ?_
              refine wpMix_q (v := .int .i64 1) rfl rfl (fun _ _ _ h => h) HS.out ⟨rfl, fun _ _ => by simp [go_sem]⟩ ?_
              refine wpMix_q (v := .int .i64 1) rfl rfl (fun _ _ _ h => h) HS.out ⟨rfl, fun _ _ => by simp [go_sem]⟩ ?_
              refine wpMix_n rfl rfl ?_
              clear cr cr3 c1
              go_wp2_with fail
              with_reducible refine (middle_any pv v hp8 hv8 _).mono ?_
              rintro e w6 ⟨rfl, hB6⟩
              have hS6 : w6.cell? ⟨w1.heap.size, r3, none⟩ = some (.int .i64 pv) ∧ w6.cell? ⟨w1.heap.size, r, none⟩ = some (.int .i64 nx) := ⟨(hB6.cell (p := ⟨w1.heap.size, r3, none⟩) hltw).trans HS.out.1, (hB6.cell (p := ⟨w1.heap.size, r, none⟩) hltw).trans HS.out.2⟩
              have HB6 := hide (And.intro hB6 hS6)
              clear hB6 hS6
              go_wp2_with fail
              refine ⟨fun _ => HB6.out.2, ?_⟩
              refine wpMix_n rfl rfl ?_
              go_wp2_with fail
              with_reducible refine (middle_any v nx hv8 hx8 _).mono ?_
              rintro e w7 ⟨rfl, hB7⟩
              have hz6 : wr.heap.size ≤ w6.heap.size := HB6.out.1.size
              have hS7 : w7.cell? ⟨w1.heap.size, r3, none⟩ = some (.int .i64 pv) ∧ w7.cell? ⟨w1.heap.size, r, none⟩ = some (.int .i64 nx) := ⟨(hB7.cell (p := ⟨w1.heap.size, r3, none⟩) (by simp; omega)).trans HB6.out.2.1, (hB7.cell (p := ⟨w1.heap.size, r, none⟩) (by simp; omega)).trans HB6.out.2.2⟩
              have hB06 : Below wr.heap.size wr w7 := ((below_drewN (Below.refl _ wr) 1).trans (show Below wr.heap.size wr.drew w6 from HB6.out.1)).trans (hB7.mono hz6)
              have hcall := join_any bj mb n' v 1 ins (ms ++ fourN ins 1 true k) (midP pv v) (midP v nx) true 1 rfl w7 (HR.out.1.below hB06 hltJ hltM) (by omega) hv8 (smallP_mid _ _) (smallP_mid _ _) (by omega)
              rw [show ((1 : Nat) : Int) = 1 from rfl] at hcall
              have HC := hide (And.intro hcall (And.intro hB06 hS7))
              clear hB7 hB06 hcall hS7
              go_wp2_with fail
              refine ⟨fun _ => HC.out.2.2, ?_⟩
              refine wpMix_tail _ [_] (by kernel_rfl) rfl ?_
              simp only [List.getElem_toArray, List.getElem_cons_succ, List.getElem_cons_zero]
              go_wp2_with fail
              with_reducible refine HC.out.1.mono ?_
              rintro e w9 ⟨rfl, hJ9, hg9⟩
              have H9 := hide (And.intro hJ9 hg9)
              clear hJ9 hg9
              go_wp2
              go_roundw
              case rel =>
                refine ⟨k + 1, n' + 1, by omega, by go_num, by omega, ?_, ?_⟩
                · rw [HR.out.2.2, if_pos trivial, ← List.append_assoc]
                  exact H9.out.1
                · exact HR.out.2.1.andThen (grown_below' HC.out.2.1 H9.out.2) (fun j hj => .inr hj)
              case measure => simp [intOf]; omega
          · have hke : k = 4 := by omega
            subst hke
            have HX := hide (And.intro hJx hgx)
            clear hJx hgx
            go_wp2
            go_end0
            refine ⟨rfl, ⟨n', by omega, ?_⟩, ?_⟩
            · have hf : faceJ ins 1 true = fourN ins 1 true 4 := by unfold faceJ; rw [HE.out.2.2.1]
              rw [hf]
              exact HX.out.1
            · exact HE.out.2.1.andThen HX.out.2 (fun j hj => .inr hj)
end Go.Proofs.Ytfljcgehhnmamaa
/- (*contour.joiner).face, axis 2. -/
namespace Go.Proofs.Ytfljcgehhnmamaa
open Go.RowKit Go.WideMaps Go.Maps Go.Sort
set_option maxRecDepth 100000 in
set_option maxHeartbeats 8000000 in
theorem face2f (bj mb n : Nat) (ins : Nat → Bool) (ms : List (Pt × Pt)) (w : World) (hJ : Jn w bj mb n ins ms) (hn : n ≤ 900) :
    Calls Try.prog 41 #[.pointer (some ⟨bj, 0, none⟩), .int .i64 2, .int .i64 (-1 : Int)] w fun e w' => e = .returned (.tuple #[]) ∧ (∃ n', n' ≤ n + 4 ∧ Jn w' bj mb n' ins (ms ++ faceJ ins 2 false)) ∧ w.grownBy w' (some mb) := by
  have ob1 : bits BinOp.or IntKind.i64 0 1 = 1 := by decide +kernel
  have ob2 : bits BinOp.or IntKind.i64 1 2 = 3 := by decide +kernel
  have ob3 : bits BinOp.or IntKind.i64 0 2 = 2 := by decide +kernel
  have ow1 : IntKind.i64.wrap 1 = 1 := by decide +kernel
  have ow2 : IntKind.i64.wrap 2 = 2 := by decide +kernel
  have ow4 : IntKind.i64.wrap 4 = 4 := by decide +kernel
  have hlt := hJ.1.lt
  have hltm := hJ.2.lt
  have HJ := hide hJ
  clear hJ
  go_enter Try.func41, Try.ntmps41
  go_wp2_with fail
  refine (axes8_any 2 (by omega) _).mono ?_
  rintro e w1 ⟨rfl, rfl⟩
  go_wp2_with fail
  refine wp_region_mix (fun _ => True) [0, 1, 2, 3, 4, 5, 6, 7, 8, 9, 10, 11, 12, 13, 14, 15, 16] [0, 1, 2, 3, 4, 5, 6, 7, 8, 9, 10, 11, 12, 13, 14, 15, 16, 17, 18] mixed_ok (by kernel_rfl) ?_
  refine wpMix_q (v := .int .i64 0) rfl rfl (fun _ _ _ h => h) trivial ⟨rfl, fun _ _ => by simp [go_sem]⟩ ?_
  refine wpMix_q (v := .int .i64 0) rfl rfl (fun _ _ _ h => h) trivial ⟨rfl, fun _ _ => by simp [go_sem]⟩ ?_
  refine wpMix_q (v := .int .i64 0) rfl rfl (fun _ _ _ h => h) trivial ⟨rfl, fun _ _ => by simp [go_sem]⟩ ?_
  refine wpMix_q (v := .int .i64 1) rfl rfl (fun _ _ _ h => h) trivial ⟨rfl, fun _ _ => by simp [go_sem, ow1]⟩ ?_
  refine wpMix_q (v := .int .i64 1) rfl rfl (fun _ _ _ h => h) trivial ⟨rfl, fun _ _ => by simp [go_sem, ob1]⟩ ?_
  refine wpMix_q (v := .int .i64 0) rfl rfl (fun _ _ _ h => h) trivial ⟨rfl, fun _ _ => by simp [go_sem]⟩ ?_
  refine wpMix_q (v := .int .i64 0) rfl rfl (fun _ _ _ h => h) trivial ⟨rfl, fun _ _ => by simp [go_sem]⟩ ?_
  refine wpMix_q (v := .int .i64 1) rfl rfl (fun _ _ _ h => h) trivial ⟨rfl, fun _ _ => by simp [go_sem, ow1]⟩ ?_
  refine wpMix_q (v := .int .i64 1) rfl rfl (fun _ _ _ h => h) trivial ⟨rfl, fun _ _ => by simp [go_sem, ob1]⟩ ?_
  refine wpMix_q (v := .int .i64 1) rfl rfl (fun _ _ _ h => h) trivial ⟨rfl, fun _ _ => by simp [go_sem]⟩ ?_
  refine wpMix_q (v := .int .i64 2) rfl rfl (fun _ _ _ h => h) trivial ⟨rfl, fun _ _ => by simp [go_sem, ow2]⟩ ?_
  refine wpMix_q (v := .int .i64 3) rfl rfl (fun _ _ _ h => h) trivial ⟨rfl, fun _ _ => by simp [go_sem, ob2]⟩ ?_
  refine wpMix_q (v := .int .i64 0) rfl rfl (fun _ _ _ h => h) trivial ⟨rfl, fun _ _ => by simp [go_sem]⟩ ?_
  refine wpMix_q (v := .int .i64 1) rfl rfl (fun _ _ _ h => h) trivial ⟨rfl, fun _ _ => by simp [go_sem]⟩ ?_
  refine wpMix_q (v := .int .i64 2) rfl rfl (fun _ _ _ h => h) trivial ⟨rfl, fun _ _ => by simp [go_sem, ow2]⟩ ?_
  refine wpMix_q (v := .int .i64 2) rfl rfl (fun _ _ _ h => h) trivial ⟨rfl, fun _ _ => by simp [go_sem, ob3]⟩ ?_
  refine wpMix_q (v := .agg #[.int .i64 0, .int .i64 1, .int .i64 3, .int .i64 2]) rfl rfl (fun _ _ _ h => h) trivial ⟨rfl, fun _ _ => by simp [go_sem]⟩ ?_
  refine wpMix_n rfl rfl ?_
  go_wp2_with fail
  refine ⟨fun _ => trivial, ?_⟩
  refine wpMix_tail _ [_] (by kernel_rfl) rfl ?_
  simp only [List.getElem_toArray, List.getElem_cons_succ, List.getElem_cons_zero]
  clear ob1 ob2 ob3 ow1 ow2 ow4
  go_wp2_with fail
  obtain ⟨Y, hY⟩ : ∃ Y, Y = (w1.alloc (.cells #[.int .i64 0, .int .i64 1, .int .i64 3, .int .i64 2] 111)).drew := ⟨_, rfl⟩
  rw [← hY]
  have hBY : Below w1.heap.size w1 Y := by rw [hY]; exact ((Below.refl _ w1).alloc (Nat.le_refl _) _).drew
  have hbr : Blk Y w1.heap.size 111 #[.int .i64 0, .int .i64 1, .int .i64 3, .int .i64 2] := by rw [hY]; exact (Blk.new _ _ _).drew
  have hJY := HJ.out.below hBY hlt hltm
  have hring : ∀ r : Nat, r < 4 → Y.cell? ⟨w1.heap.size, r, none⟩ = some (.int .i64 (ringV 2 false r)) := fun r hr => by
    have hc : r = 0 ∨ r = 1 ∨ r = 2 ∨ r = 3 := by omega
    rw [hbr.cell]
    rcases hc with rfl | rfl | rfl | rfl <;> rfl
  have q0 : ∀ W, (Instr.index 111 (.agg #[.int .i64 0, .int .i64 1, .int .i64 3, .int .i64 2]) (.int .i64 0)).run Try.prog W = .ok (.int .i64 0) W := fun _ => by kernel_rfl
  have q1 : ∀ W, (Instr.index 111 (.agg #[.int .i64 0, .int .i64 1, .int .i64 3, .int .i64 2]) (.int .i64 1)).run Try.prog W = .ok (.int .i64 1) W := fun _ => by kernel_rfl
  have q2 : ∀ W, (Instr.index 111 (.agg #[.int .i64 0, .int .i64 1, .int .i64 3, .int .i64 2]) (.int .i64 2)).run Try.prog W = .ok (.int .i64 3) W := fun _ => by kernel_rfl
  have q3 : ∀ W, (Instr.index 111 (.agg #[.int .i64 0, .int .i64 1, .int .i64 3, .int .i64 2]) (.int .i64 3)).run Try.prog W = .ok (.int .i64 2) W := fun _ => by kernel_rfl
  have hidx : ∀ r : Nat, r < 4 → ∀ W, (Instr.index 111 (.agg #[.int .i64 0, .int .i64 1, .int .i64 3, .int .i64 2]) (.int .i64 r)).run Try.prog W = .ok (.int .i64 (ringV 2 false r)) W := fun r hr W => by
    have hc : r = 0 ∨ r = 1 ∨ r = 2 ∨ r = 3 := by omega
    rcases hc with rfl | rfl | rfl | rfl
    · exact q0 W
    · exact q1 W
    · exact q2 W
    · exact q3 W
  have HY := hide (And.intro hBY (And.intro hJY (And.intro hring (And.intro hidx hbr))))
  have hltY := hJY.1.lt
  have hltYm := hJY.2.lt
  have hltr := hbr.lt
  clear hBY hbr hJY hring hidx hY q0 q1 q2 q3
  go_loopw [10, 11, 44] (fun cv iv kv wr => ∃ k : Nat, k ≤ 4 ∧ kv = .int .i64 k ∧ Own encP 3 61 wr Y.heap.size cv (crossN ins 2 false k).length (crossN ins 2 false k) ∧ iv = .int .i64 (lastIn ins 2 false k) ∧ Below Y.heap.size Y wr) (fun _ _ kv _ => 4 - (intOf kv).toNat)
  case atStart => exact ⟨0, by omega, rfl, Own.nil, rfl, Below.refl _ Y⟩
  case round =>
    obtain ⟨k, hk, rfl, hown, rfl, hB⟩ := hrel
    have hszB := hB.size
    have hcl : (crossN ins 2 false k).length ≤ 4 := by
      unfold crossN
      rw [List.length_map]
      exact Nat.le_trans (List.length_filter_le _ _) (by rw [List.length_range]; exact hk)
    have hcs := crossN_succ ins 2 false k
    obtain ⟨C, hC⟩ : ∃ C, C = crossN ins 2 false k := ⟨_, rfl⟩
    rw [← hC] at hown hcl hcs
    obtain ⟨l, hl⟩ : ∃ l, l = lastIn ins 2 false k := ⟨_, rfl⟩
    rw [← hl]
    obtain ⟨Ac, cc, rfl⟩ := hown.form
    by_cases hlt4 : k < 4
    · obtain ⟨v, hv⟩ : ∃ v, v = ringV 2 false k := ⟨_, rfl⟩
      obtain ⟨nx, hnx⟩ : ∃ nx, nx = ringV 2 false (k + 1) := ⟨_, rfl⟩
      have hv8 : v < 8 := by rw [hv]; exact ringV_lt 2 (by omega) false k
      have hx8 : nx < 8 := by rw [hnx]; exact ringV_lt 2 (by omega) false (k + 1)
      have hid := HY.out.2.2.2.1 k hlt4
      rw [← hv] at hid
      obtain ⟨r, hr⟩ : ∃ r, r = (k + 1) % 4 := ⟨_, rfl⟩
      have hr4 : r < 4 := by omega
      have hmod : ((k : Int) + 1) % 4 = (r : Int) := by omega
      have cr : wr.cell? ⟨w1.heap.size, r, none⟩ = some (.int .i64 nx) := by
        rw [hnx, ← ringV_mod 2 false (k + 1), ← hr]
        exact (hB.cell (p := ⟨w1.heap.size, r, none⟩) hltr).trans (HY.out.2.2.1 r hr4)
      have hJr := HY.out.2.1.below hB hltY hltYm
      have c1 := hJr.in_ hv8
      have c2 := hJr.in_ hx8
      obtain ⟨iv, hiv⟩ : ∃ iv, iv = ins v := ⟨_, rfl⟩
      obtain ⟨ix, hix⟩ : ∃ ix, ix = ins nx := ⟨_, rfl⟩
      rw [← hiv] at c1
      rw [← hix] at c2
      have i1 : (k : Int) < 4 := by omega
      have i2 : (r : Int) < 4 := by omega
      have i3 : (v : Int) < 8 := by omega
      have i4 : (nx : Int) < 8 := by omega
      have j2 : (0 : Int) ≤ (r : Int) := by omega
      have j3 : (0 : Int) ≤ (v : Int) := by omega
      have j4 : (0 : Int) ≤ (nx : Int) := by omega
      have HR := hide (And.intro hown (And.intro hB (And.intro hcs (And.intro hv (And.intro hnx (And.intro hiv hix))))))
      have HRl := hide (And.intro hl hr)
      clear hown hB hcs hv hnx hiv hix hJr hr hl hC
      cases iv
      · cases ix
        · go_wp2_with fail
          go_quiet (fail)
          go_wp2
          go_roundw
          case rel =>
            refine ⟨k + 1, by omega, by go_num, ?_, ?_, below_drewN HR.out.2.1 _⟩
            · rw [HR.out.2.2.1, if_neg (by rw [← HR.out.2.2.2.1, ← HR.out.2.2.2.2.1, ← HR.out.2.2.2.2.2.1, ← HR.out.2.2.2.2.2.2]; decide), List.append_nil]
              exact HR.out.1
            · show _ = Value.int .i64 (lastIn ins 2 false (k + 1))
              unfold lastIn
              rw [← HR.out.2.2.2.1, ← HR.out.2.2.2.2.2.1, ← HRl.out.1]
              rfl
          case measure => simp [intOf]; omega
        · go_wp2_with fail
          go_quiet (fail)
          go_wp2_with fail
          with_reducible refine (middle_any v nx hv8 hx8 _).mono ?_
          rintro e w6 ⟨rfl, hB6⟩
          have hB06 : Below wr.heap.size wr w6 := (below_drewN (Below.refl _ wr) _).trans hB6
          have hz6 := hB06.size
          have HO := hide (And.intro ((HR.out.1.below hB06 (Nat.le_refl _)).alloc (.cells #[.int .i64 (midP v nx).1, .int .i64 (midP v nx).2.1, .int .i64 (midP v nx).2.2] 61)) hB06)
          have cv6 : (w6.alloc (.cells #[.int .i64 (midP v nx).1, .int .i64 (midP v nx).2.1, .int .i64 (midP v nx).2.2] 61)).cell? ⟨bj, v, none⟩ = some (.bool false) := (((Below.refl _ w6).alloc (Nat.le_refl _) _).cell (p := ⟨bj, v, none⟩) (by simp; omega)).trans ((hB06.cell (p := ⟨bj, v, none⟩) (by simp; omega)).trans c1)
          clear hB6 hB06 c1 c2 cr
          go_wp2_with (at_builtin; refine wpList_append1 rfl _ _ _ rfl Try.underlying82 infoV rfl (by omega) encP_len8 encP_one8 rfl HO.out.1 w6.heap.size 1 (midP v nx) rfl (Blk.new _ _ _) (by unfold maxLen; omega) (by omega) (by simp; omega) ?_; intro g cap w7 hown7 hg7 hB7 hat7 hgb7 hlt7; have cv7 := (hB7.cell (p := ⟨bj, v, none⟩) (by omega)).trans cv6; clear cv6)
          go_roundw
          case rel =>
            refine ⟨k + 1, by omega, by go_num, ?_, ?_, ((HR.out.2.1.trans (HO.out.2.mono HR.out.2.1.size)).alloc (by omega) _).trans hB7⟩
            · rw [HR.out.2.2.1, if_pos (by rw [← HR.out.2.2.2.1, ← HR.out.2.2.2.2.1, ← HR.out.2.2.2.2.2.1, ← HR.out.2.2.2.2.2.2]; rfl), ← HR.out.2.2.2.1, ← HR.out.2.2.2.2.1, List.length_append]
              exact hown7
            · show _ = Value.int .i64 (lastIn ins 2 false (k + 1))
              unfold lastIn
              rw [← HR.out.2.2.2.1, ← HR.out.2.2.2.2.2.1, ← HRl.out.1]
              rfl
          case measure => simp [intOf]; omega
      · cases ix
        · go_wp2_with fail
          go_quiet (fail)
          go_wp2_with fail
          with_reducible refine (middle_any v nx hv8 hx8 _).mono ?_
          rintro e w6 ⟨rfl, hB6⟩
          have hB06 : Below wr.heap.size wr w6 := (below_drewN (Below.refl _ wr) _).trans hB6
          have hz6 := hB06.size
          have HO := hide (And.intro ((HR.out.1.below hB06 (Nat.le_refl _)).alloc (.cells #[.int .i64 (midP v nx).1, .int .i64 (midP v nx).2.1, .int .i64 (midP v nx).2.2] 61)) hB06)
          have cv6 : (w6.alloc (.cells #[.int .i64 (midP v nx).1, .int .i64 (midP v nx).2.1, .int .i64 (midP v nx).2.2] 61)).cell? ⟨bj, v, none⟩ = some (.bool true) := (((Below.refl _ w6).alloc (Nat.le_refl _) _).cell (p := ⟨bj, v, none⟩) (by simp; omega)).trans ((hB06.cell (p := ⟨bj, v, none⟩) (by simp; omega)).trans c1)
          clear hB6 hB06 c1 c2 cr
          go_wp2_with (at_builtin; refine wpList_append1 rfl _ _ _ rfl Try.underlying82 infoV rfl (by omega) encP_len8 encP_one8 rfl HO.out.1 w6.heap.size 1 (midP v nx) rfl (Blk.new _ _ _) (by unfold maxLen; omega) (by omega) (by simp; omega) ?_; intro g cap w7 hown7 hg7 hB7 hat7 hgb7 hlt7; have cv7 := (hB7.cell (p := ⟨bj, v, none⟩) (by omega)).trans cv6; clear cv6)
          go_roundw
          case rel =>
            refine ⟨k + 1, by omega, by go_num, ?_, ?_, ((HR.out.2.1.trans (HO.out.2.mono HR.out.2.1.size)).alloc (by omega) _).trans hB7⟩
            · rw [HR.out.2.2.1, if_pos (by rw [← HR.out.2.2.2.1, ← HR.out.2.2.2.2.1, ← HR.out.2.2.2.2.2.1, ← HR.out.2.2.2.2.2.2]; rfl), ← HR.out.2.2.2.1, ← HR.out.2.2.2.2.1, List.length_append]
              exact hown7
            · show _ = Value.int .i64 (lastIn ins 2 false (k + 1))
              unfold lastIn
              rw [← HR.out.2.2.2.1, ← HR.out.2.2.2.2.2.1]
              rfl
          case measure => simp [intOf]; omega
        · go_wp2_with fail
          go_quiet (fail)
          go_wp2
          go_roundw
          case rel =>
            refine ⟨k + 1, by omega, by go_num, ?_, ?_, below_drewN HR.out.2.1 _⟩
            · rw [HR.out.2.2.1, if_neg (by rw [← HR.out.2.2.2.1, ← HR.out.2.2.2.2.1, ← HR.out.2.2.2.2.2.1, ← HR.out.2.2.2.2.2.2]; decide), List.append_nil]
              exact HR.out.1
            · show _ = Value.int .i64 (lastIn ins 2 false (k + 1))
              unfold lastIn
              rw [← HR.out.2.2.2.1, ← HR.out.2.2.2.2.2.1]
              rfl
          case measure => simp [intOf]; omega
    · have hke : k = 4 := by omega
      subst hke
      have hJr := HY.out.2.1.below hB hltY hltYm
      have hring : ∀ r : Nat, r < 4 → wr.cell? ⟨w1.heap.size, r, none⟩ = some (.int .i64 (ringV 2 false r)) := fun r hr => (hB.cell (p := ⟨w1.heap.size, r, none⟩) hltr).trans (HY.out.2.2.1 r hr)
      have hgr : w1.grownBy wr (some mb) := by
        have hB1 : Below w1.heap.size w1 wr := HY.out.1.trans (hB.mono HY.out.1.size)
        exact ⟨hB1.os, hB1.tape, hB1.output, hB1.size, fun i hi _ => hB1.block i hi⟩
      have hltw := hgr.size
      rcases crossN_len ins 2 false with (h0 | ⟨p, q, h2, kk, hl2⟩) | ⟨ca, cb, cd, ce, h4⟩
      · rw [h0] at hC
        subst hC
        have HE := hide (And.intro hJr (And.intro hgr h0))
        clear hown hB hcs hl hJr hring hgr h0
        go_wp2
        go_end0
        refine ⟨rfl, ⟨n, by omega, ?_⟩, HE.out.2.1⟩
        have hf : faceJ ins 2 false = [] := by unfold faceJ; rw [HE.out.2.2]
        rw [hf, List.append_nil]
        exact HE.out.1
      · have hps : smallP p ∧ smallP q := by
          have := crossN_small ins 2 false 4
          rw [h2] at this
          exact ⟨this p (by simp), this q (by simp)⟩
        rw [h2] at hC
        rw [hl2] at hl
        subst hC
        obtain ⟨vv, hvv⟩ : ∃ vv, vv = ringV 2 false kk := ⟨_, rfl⟩
        have hv8 : vv < 8 := by rw [hvv]; exact ringV_lt 2 (by omega) false kk
        rw [← hvv] at hl
        subst hl
        obtain ⟨g, cap0, hv0, hgb, hgl⟩ := hown.at (by simp)
        obtain rfl : Ac = some ⟨g, 0, none⟩ := by injection hv0
        obtain ⟨b1, o1, e1, _, hc0⟩ := (hown.sl encP_len8 (Nat.le_refl _)).at (i := 0) (x := p) rfl
        cases e1
        obtain ⟨b1, o1, e1, _, hc1⟩ := (hown.sl encP_len8 (Nat.le_refl _)).at (i := 1) (x := q) rfl
        cases e1
        have p0 := hc0 0 _ rfl
        have p1 := hc0 1 _ rfl
        have p2 := hc0 2 _ rfl
        have q0 := hc1 0 _ rfl
        have q1 := hc1 1 _ rfl
        have q2 := hc1 2 _ rfl
        simp only [Nat.zero_add, Nat.zero_mul, Nat.one_mul, Nat.add_zero] at p0 p1 p2 q0 q1 q2
        have hS : (wr.drew.cell? ⟨g, 0, none⟩ = some (.int .i64 p.1) ∧ wr.drew.cell? ⟨g, 1, none⟩ = some (.int .i64 p.2.1) ∧ wr.drew.cell? ⟨g, 2, none⟩ = some (.int .i64 p.2.2)) ∧ wr.drew.cell? ⟨g, 3, none⟩ = some (.int .i64 q.1) ∧ wr.drew.cell? ⟨g, 3 + 1, none⟩ = some (.int .i64 q.2.1) ∧ wr.drew.cell? ⟨g, 3 + 2, none⟩ = some (.int .i64 q.2.2) := ⟨⟨p0, p1, p2⟩, q0, q1, q2⟩
        have hcall := join_any bj mb n vv 2 ins ms p q false (-1 : Int) rfl wr.drew ⟨hJr.1.drew, hJr.2⟩ (by omega) hv8 hps.1 hps.2 (by omega)
        rw [show ((2 : Nat) : Int) = 2 from rfl] at hcall
        have HE := hide (And.intro hS (And.intro hcall (And.intro hgr (And.intro h2 (And.intro hl2 hvv)))))
        clear hown hB hcs hJr hring hgr h2 hl2 hvv hps hS hcall p0 p1 p2 q0 q1 q2 hc0 hc1
        go_wp2_with fail
        refine wp_region_mix (fun W => (W.cell? ⟨g, 0, none⟩ = some (.int .i64 p.1) ∧ W.cell? ⟨g, 1, none⟩ = some (.int .i64 p.2.1) ∧ W.cell? ⟨g, 2, none⟩ = some (.int .i64 p.2.2)) ∧ W.cell? ⟨g, 3, none⟩ = some (.int .i64 q.1) ∧ W.cell? ⟨g, 3 + 1, none⟩ = some (.int .i64 q.2.1) ∧ W.cell? ⟨g, 3 + 2, none⟩ = some (.int .i64 q.2.2)) [0, 1, 2, 3, 4, 5, 6, 7, 8, 9] [0, 1, 2, 3, 4, 5, 6, 7, 8, 9, 10] mixed_ok (by kernel_rfl) ?_
        refine wpMix_q (v := .pointer (some ⟨bj, 0, none⟩)) rfl rfl (fun _ _ _ h => h) HE.out.1 ⟨rfl, fun _ _ => by simp [go_sem]⟩ ?_
        refine wpMix_q (v := .slice (some ⟨g, 0, none⟩) 2 cc) rfl rfl (fun _ _ _ h => h) HE.out.1 ⟨rfl, fun _ _ => by simp [go_sem]⟩ ?_
        refine wpMix_q (v := .pointer (some ⟨g, 0, none⟩)) rfl rfl (fun _ _ _ h => h) HE.out.1 ⟨rfl, fun _ _ => by simp [go_sem]⟩ ?_
        refine wpMix_q (v := vP p) rfl rfl (fun _ _ _ h => h) HE.out.1 ⟨rfl, fun _ h' => by obtain ⟨⟨a0, a1, a2⟩, _⟩ := h'; simp [go_sem, a0, a1, a2]⟩ ?_
        refine wpMix_q (v := .slice (some ⟨g, 0, none⟩) 2 cc) rfl rfl (fun _ _ _ h => h) HE.out.1 ⟨rfl, fun _ _ => by simp [go_sem]⟩ ?_
        refine wpMix_q (v := .pointer (some ⟨g, 3, none⟩)) rfl rfl (fun _ _ _ h => h) HE.out.1 ⟨rfl, fun _ _ => by simp [go_sem]⟩ ?_
        refine wpMix_q (v := vP q) rfl rfl (fun _ _ _ h => h) HE.out.1 ⟨rfl, fun _ h' => by obtain ⟨_, a0, a1, a2⟩ := h'; simp [go_sem, a0, a1, a2]⟩ ?_
        refine wpMix_q (v := .int .i64 vv) rfl rfl (fun _ _ _ h => h) HE.out.1 ⟨rfl, fun _ _ => by simp [go_sem]⟩ ?_
        refine wpMix_q (v := .int .i64 2) rfl rfl (fun _ _ _ h => h) HE.out.1 ⟨rfl, fun _ _ => by simp [go_sem]⟩ ?_
        refine wpMix_q (v := .int .i64 (-1 : Int)) rfl rfl (fun _ _ _ h => h) HE.out.1 ⟨rfl, fun _ _ => by simp [go_sem]⟩ ?_
        refine wpMix_tail _ [_] (by kernel_rfl) rfl ?_
        simp only [List.getElem_toArray, List.getElem_cons_succ, List.getElem_cons_zero]
        go_wp2_with fail
        with_reducible refine HE.out.2.1.mono ?_
        rintro e w9 ⟨rfl, hJ9, hg9⟩
        have H9 := hide (And.intro hJ9 hg9)
        clear hJ9 hg9
        go_wp2
        go_end0
        refine ⟨rfl, ⟨n + 1, by omega, ?_⟩, ?_⟩
        · have hf : faceJ ins 2 false = [joinJ p q vv 2 false] := by
            unfold faceJ
            rw [HE.out.2.2.2.1, HE.out.2.2.2.2.1, ← HE.out.2.2.2.2.2]
            rfl
          rw [hf]
          exact H9.out.1
        · exact HE.out.2.2.1.andThen (grown_drew H9.out.2) (fun j hj => .inr hj)
      · rw [h4] at hC
        subst hC
        have hbw := HY.out.2.2.2.2.below hB hltr
        have z0 := hbw.cell 0
        have z1 := hbw.cell 1
        have z2 := hbw.cell 2
        have z3 := hbw.cell 3
        simp only [List.getElem?_toArray, List.getElem?_cons_zero, List.getElem?_cons_succ] at z0 z1 z2 z3
        have hltwr : w1.heap.size < wr.heap.size := hbw.lt
        obtain ⟨R, hR⟩ : ∃ R, R = wr := ⟨_, rfl⟩
        have HE := hide (And.intro hJr (And.intro hgr (And.intro h4 hring)))
        clear hown hB hcs hl hJr hring hgr h4 hbw
        go_wp2_with fail
        clear z0 z1 z2 z3
        rw [← hR] at HE hltwr ⊢
        rw [show ([ca, cb, cd, ce] : List Pt).length = 4 from rfl, show ((4 : Nat) : Int) = 4 from rfl]
        clear hR
        go_loopw [98] (fun iv wx => ∃ k n' : Nat, k ≤ 4 ∧ iv = .int .i64 k ∧ n' ≤ n + k ∧ Jn wx bj mb n' ins (ms ++ fourN ins 2 false k) ∧ R.grownBy wx (some mb)) (fun iv _ => 4 - (intOf iv).toNat)
        case atStart => exact ⟨0, n, by omega, rfl, by omega, by simpa [fourN] using HE.out.1, World.grownBy.refl _ _⟩
        case round =>
          obtain ⟨k, n', hk, rfl, hn', hJx, hgx⟩ := hrel
          by_cases hlt4 : k < 4
          · obtain ⟨v, hv⟩ : ∃ v, v = ringV 2 false k := ⟨_, rfl⟩
            obtain ⟨nx, hnx⟩ : ∃ nx, nx = ringV 2 false (k + 1) := ⟨_, rfl⟩
            obtain ⟨pv, hpv⟩ : ∃ pv, pv = ringV 2 false (k + 3) := ⟨_, rfl⟩
            have hv8 : v < 8 := by rw [hv]; exact ringV_lt 2 (by omega) false k
            have hx8 : nx < 8 := by rw [hnx]; exact ringV_lt 2 (by omega) false (k + 1)
            have hp8 : pv < 8 := by rw [hpv]; exact ringV_lt 2 (by omega) false (k + 3)
            have hid := HY.out.2.2.2.1 k hlt4
            rw [← hv] at hid
            obtain ⟨r, hr⟩ : ∃ r, r = (k + 1) % 4 := ⟨_, rfl⟩
            obtain ⟨r3, hr3⟩ : ∃ r, r = (k + 3) % 4 := ⟨_, rfl⟩
            have hr4 : r < 4 := by omega
            have hr34 : r3 < 4 := by omega
            have t1 : ((k : Int) + 1).tmod 4 = (r : Int) := by rw [Int.tmod_eq_emod_of_nonneg (by omega)]; omega
            have t3 : ((k : Int) + 3).tmod 4 = (r3 : Int) := by rw [Int.tmod_eq_emod_of_nonneg (by omega)]; omega
            have wk1 : IntKind.i64.wrap ((k : Int) + 1) = (k : Int) + 1 := wrap_small (by omega)
            have wk3 : IntKind.i64.wrap ((k : Int) + 3) = (k : Int) + 3 := wrap_small (by omega)
            have wr1 : IntKind.i64.wrap (r : Int) = (r : Int) := wrap_small (by omega)
            have wr3 : IntKind.i64.wrap (r3 : Int) = (r3 : Int) := wrap_small (by omega)
            have hne : (some w1.heap.size : Option Nat) ≠ some mb := by intro e; injection e; omega
            have cr : wr.cell? ⟨w1.heap.size, r, none⟩ = some (.int .i64 nx) := by
              rw [hnx, ← ringV_mod 2 false (k + 1), ← hr]
              exact hgx.cell (HE.out.2.2.2 r hr4) hne
            have cr3 : wr.cell? ⟨w1.heap.size, r3, none⟩ = some (.int .i64 pv) := by
              rw [hpv, ← ringV_mod 2 false (k + 3), ← hr3]
              exact hgx.cell (HE.out.2.2.2 r3 hr34) hne
            have c1 := hJx.in_ hv8
            obtain ⟨iv, hiv⟩ : ∃ iv, iv = ins v := ⟨_, rfl⟩
            rw [← hiv] at c1
            have hfs := fourN_succ ins 2 false k
            rw [← hv, ← hnx, ← hpv, ← hiv] at hfs
            have i1 : (k : Int) < 4 := by omega
            have i3 : (v : Int) < 8 := by omega
            have j3 : (0 : Int) ≤ (v : Int) := by omega
            have i2 : (r : Int) < 4 := by omega
            have j2 : (0 : Int) ≤ (r : Int) := by omega
            have i5 : (r3 : Int) < 4 := by omega
            have j5 : (0 : Int) ≤ (r3 : Int) := by omega
            have hltJ := hJx.1.lt
            have hltM := hJx.2.lt
            have hltw := Nat.lt_of_lt_of_le hltwr hgx.size
            have HR := hide (And.intro hJx (And.intro hgx hfs))
            clear hJx hgx hfs hv hnx hpv hiv hr hr3 hne
            cases iv
            · clear t1 t3 wk1 wk3 wr1 wr3
              go_wp2
              go_roundw
              case rel =>
                refine ⟨k + 1, n', by omega, by go_num, by omega, ?_, HR.out.2.1⟩
                rw [HR.out.2.2, if_neg (by decide), List.append_nil]
                exact HR.out.1
              case measure => simp [intOf]; omega
            · have HT := hide (And.intro t1 (And.intro t3 (And.intro wk1 (And.intro wk3 (And.intro wr1 wr3)))))
              have hS : wr.drew.cell? ⟨w1.heap.size, r3, none⟩ = some (.int .i64 pv) ∧ wr.drew.cell? ⟨w1.heap.size, r, none⟩ = some (.int .i64 nx) := ⟨cr3, cr⟩
              have HS := hide hS
              clear t1 t3 wk1 wk3 wr1 wr3 hS
              go_wp2_with fail
              refine wp_region_mix (fun W => W.cell? ⟨w1.heap.size, r3, none⟩ = some (.int .i64 pv) ∧ W.cell? ⟨w1.heap.size, r, none⟩ = some (.int .i64 nx)) [0, 1, 2, 3, 4, 5, 6, 8, 9, 10, 11, 12, 13, 15, 16, 17] [0, 1, 2, 3, 4, 5, 6, 8, 9, 10, 11, 12, 13, 15, 16, 17, 7, 14, 18] mixed_ok (by kernel_rfl) ?_
              refine wpMix_q (v := .pointer (some ⟨bj, 0, none⟩)) rfl rfl (fun _ _ _ h => h) HS.out ⟨rfl, fun _ _ => by simp [go_sem]⟩ ?_
              refine wpMix_q (v := .int .i64 k) rfl rfl (fun _ _ _ h => h) HS.out ⟨rfl, fun _ _ => by simp [go_sem]⟩ ?_
              refine wpMix_q (v := .int .i64 ((k : Int) + 3)) rfl rfl (fun _ _ _ h => h) HS.out ⟨rfl, fun _ _ => by simp [go_sem, HT.out.2.2.2.1]⟩ ?_
              refine wpMix_q (v := .int .i64 r3) rfl rfl (fun _ _ _ h => h) HS.out ⟨rfl, fun _ _ => by simp [go_sem, HT.out.2.1]⟩ ?_
              refine wpMix_q (v := .pointer (some ⟨w1.heap.size, r3, none⟩)) rfl rfl (fun _ _ _ h => h) HS.out ⟨rfl, fun _ _ => by simp [go_sem, i5, j5]⟩ ?_
              refine wpMix_q (v := .int .i64 pv) rfl rfl (fun _ _ _ h => h) HS.out ⟨rfl, fun _ h' => by simp [go_sem, h'.1]⟩ ?_
              refine wpMix_q (v := .int .i64 v) rfl rfl (fun _ _ _ h => h) HS.out ⟨rfl, fun _ _ => by simp [go_sem]⟩ ?_
              refine wpMix_q (v := .int .i64 v) rfl rfl (fun _ _ _ h => h) HS.out ⟨rfl, fun _ _ => by simp [go_sem]⟩ ?_
              refine wpMix_q (v := .int .i64 k) rfl rfl (fun _ _ _ h => h) HS.out ⟨rfl, fun _ _ => by simp [go_sem]⟩ ?_
              refine wpMix_q (v := .int .i64 ((k : Int) + 1)) rfl rfl (fun _ _ _ h => h) HS.out ⟨rfl, fun _ _ => by simp [go_sem, HT.out.2.2.1]⟩ ?_
              refine wpMix_q (v := .int .i64 r) rfl rfl (fun _ _ _ h => h) HS.out ⟨rfl, fun _ _ => by simp [go_sem, HT.out.1]⟩ ?_
              refine wpMix_q (v := .pointer (some ⟨w1.heap.size, r, none⟩)) rfl rfl (fun _ _ _ h => h) HS.out ⟨rfl, fun _ _ => by simp [go_sem, i2, j2]⟩ ?_
              refine wpMix_q (v := .int .i64 nx) rfl rfl (fun _ _ _ h => h) HS.out ⟨rfl, fun _ h' => by simp [go_sem, h'.2]⟩ ?_
              refine wpMix_q (v := .int .i64 v) rfl rfl (fun _ _ _ h => h) HS.out ⟨rfl, fun _ _ => by simp [go_sem]⟩ ?_
              refine wpMix_q (v := .int .i64 2) rfl rfl (fun _ _ _ h => h) HS.out ⟨rfl, fun _ _ => by simp [go_sem]⟩ ?_
              refine wpMix_q (v := .int .i64 (-1 : Int)) rfl rfl (fun _ _ _ h => h) HS.out ⟨rfl, fun _ _ => by simp [go_sem]⟩ ?_
              refine wpMix_n rfl rfl ?_
              clear cr cr3 c1
              go_wp2_with fail
              with_reducible refine (middle_any pv v hp8 hv8 _).mono ?_
              rintro e w6 ⟨rfl, hB6⟩
              have hS6 : w6.cell? ⟨w1.heap.size, r3, none⟩ = some (.int .i64 pv) ∧ w6.cell? ⟨w1.heap.size, r, none⟩ = some (.int .i64 nx) := ⟨(hB6.cell (p := ⟨w1.heap.size, r3, none⟩) hltw).trans HS.out.1, (hB6.cell (p := ⟨w1.heap.size, r, none⟩) hltw).trans HS.out.2⟩
              have HB6 := hide (And.intro hB6 hS6)
              clear hB6 hS6
              go_wp2_with fail
              refine ⟨fun _ => HB6.out.2, ?_⟩
              refine wpMix_n rfl rfl ?_
              go_wp2_with fail
              with_reducible refine (middle_any v nx hv8 hx8 _).mono ?_
              rintro e w7 ⟨rfl, hB7⟩
              have hz6 : wr.heap.size ≤ w6.heap.size := HB6.out.1.size
              have hS7 : w7.cell? ⟨w1.heap.size, r3, none⟩ = some (.int .i64 pv) ∧ w7.cell? ⟨w1.heap.size, r, none⟩ = some (.int .i64 nx) := ⟨(hB7.cell (p := ⟨w1.heap.size, r3, none⟩) (by simp; omega)).trans HB6.out.2.1, (hB7.cell (p := ⟨w1.heap.size, r, none⟩) (by simp; omega)).trans HB6.out.2.2⟩
              have hB06 : Below wr.heap.size wr w7 := ((below_drewN (Below.refl _ wr) 1).trans (show Below wr.heap.size wr.drew w6 from HB6.out.1)).trans (hB7.mono hz6)
              have hcall := join_any bj mb n' v 2 ins (ms ++ fourN ins 2 false k) (midP pv v) (midP v nx) false (-1 : Int) rfl w7 (HR.out.1.below hB06 hltJ hltM) (by omega) hv8 (smallP_mid _ _) (smallP_mid _ _) (by omega)
              rw [show ((2 : Nat) : Int) = 2 from rfl] at hcall
              have HC := hide (And.intro hcall (And.intro hB06 hS7))
              clear hB7 hB06 hcall hS7
              go_wp2_with fail
              refine ⟨fun _ => HC.out.2.2, ?_⟩
              refine wpMix_tail _ [_] (by kernel_rfl) rfl ?_
              simp only [List.getElem_toArray, List.getElem_cons_succ, List.getElem_cons_zero]
              go_wp2_with fail
              with_reducible refine HC.out.1.mono ?_
              rintro e w9 ⟨rfl, hJ9, hg9⟩
              have H9 := hide (And.intro hJ9 hg9)
              clear hJ9 hg9
              go_wp2
              go_roundw
              case rel =>
                refine ⟨k + 1, n' + 1, by omega, by go_num, by omega, ?_, ?_⟩
                · rw [HR.out.2.2, if_pos trivial, ← List.append_assoc]
                  exact H9.out.1
                · exact HR.out.2.1.andThen (grown_below' HC.out.2.1 H9.out.2) (fun j hj => .inr hj)
              case measure => simp [intOf]; omega
          · have hke : k = 4 := by omega
            subst hke
            have HX := hide (And.intro hJx hgx)
            clear hJx hgx
            go_wp2
            go_end0
            refine ⟨rfl, ⟨n', by omega, ?_⟩, ?_⟩
            · have hf : faceJ ins 2 false = fourN ins 2 false 4 := by unfold faceJ; rw [HE.out.2.2.1]
              rw [hf]
              exact HX.out.1
            · exact HE.out.2.1.andThen HX.out.2 (fun j hj => .inr hj)
set_option maxRecDepth 100000 in
set_option maxHeartbeats 8000000 in
theorem face2t (bj mb n : Nat) (ins : Nat → Bool) (ms : List (Pt × Pt)) (w : World) (hJ : Jn w bj mb n ins ms) (hn : n ≤ 900) :
    Calls Try.prog 41 #[.pointer (some ⟨bj, 0, none⟩), .int .i64 2, .int .i64 1] w fun e w' => e = .returned (.tuple #[]) ∧ (∃ n', n' ≤ n + 4 ∧ Jn w' bj mb n' ins (ms ++ faceJ ins 2 true)) ∧ w.grownBy w' (some mb) := by
  have ob1 : bits BinOp.or IntKind.i64 4 1 = 5 := by decide +kernel
  have ob2 : bits BinOp.or IntKind.i64 5 2 = 7 := by decide +kernel
  have ob3 : bits BinOp.or IntKind.i64 4 2 = 6 := by decide +kernel
  have ow1 : IntKind.i64.wrap 1 = 1 := by decide +kernel
  have ow2 : IntKind.i64.wrap 2 = 2 := by decide +kernel
  have ow4 : IntKind.i64.wrap 4 = 4 := by decide +kernel
  have hlt := hJ.1.lt
  have hltm := hJ.2.lt
  have HJ := hide hJ
  clear hJ
  go_enter Try.func41, Try.ntmps41
  go_wp2_with fail
  refine (axes8_any 2 (by omega) _).mono ?_
  rintro e w1 ⟨rfl, rfl⟩
  go_wp2_with fail
  refine wp_region_mix (fun _ => True) [0, 1, 2, 3, 4, 5, 6, 7, 8, 9, 10, 11, 12, 13, 14, 15, 16] [0, 1, 2, 3, 4, 5, 6, 7, 8, 9, 10, 11, 12, 13, 14, 15, 16, 17, 18] mixed_ok (by kernel_rfl) ?_
  refine wpMix_q (v := .int .i64 4) rfl rfl (fun _ _ _ h => h) trivial ⟨rfl, fun _ _ => by simp [go_sem]⟩ ?_
  refine wpMix_q (v := .int .i64 4) rfl rfl (fun _ _ _ h => h) trivial ⟨rfl, fun _ _ => by simp [go_sem]⟩ ?_
  refine wpMix_q (v := .int .i64 0) rfl rfl (fun _ _ _ h => h) trivial ⟨rfl, fun _ _ => by simp [go_sem]⟩ ?_
  refine wpMix_q (v := .int .i64 1) rfl rfl (fun _ _ _ h => h) trivial ⟨rfl, fun _ _ => by simp [go_sem, ow1]⟩ ?_
  refine wpMix_q (v := .int .i64 5) rfl rfl (fun _ _ _ h => h) trivial ⟨rfl, fun _ _ => by simp [go_sem, ob1]⟩ ?_
  refine wpMix_q (v := .int .i64 4) rfl rfl (fun _ _ _ h => h) trivial ⟨rfl, fun _ _ => by simp [go_sem]⟩ ?_
  refine wpMix_q (v := .int .i64 0) rfl rfl (fun _ _ _ h => h) trivial ⟨rfl, fun _ _ => by simp [go_sem]⟩ ?_
  refine wpMix_q (v := .int .i64 1) rfl rfl (fun _ _ _ h => h) trivial ⟨rfl, fun _ _ => by simp [go_sem, ow1]⟩ ?_
  refine wpMix_q (v := .int .i64 5) rfl rfl (fun _ _ _ h => h) trivial ⟨rfl, fun _ _ => by simp [go_sem, ob1]⟩ ?_
  refine wpMix_q (v := .int .i64 1) rfl rfl (fun _ _ _ h => h) trivial ⟨rfl, fun _ _ => by simp [go_sem]⟩ ?_
  refine wpMix_q (v := .int .i64 2) rfl rfl (fun _ _ _ h => h) trivial ⟨rfl, fun _ _ => by simp [go_sem, ow2]⟩ ?_
  refine wpMix_q (v := .int .i64 7) rfl rfl (fun _ _ _ h => h) trivial ⟨rfl, fun _ _ => by simp [go_sem, ob2]⟩ ?_
  refine wpMix_q (v := .int .i64 4) rfl rfl (fun _ _ _ h => h) trivial ⟨rfl, fun _ _ => by simp [go_sem]⟩ ?_
  refine wpMix_q (v := .int .i64 1) rfl rfl (fun _ _ _ h => h) trivial ⟨rfl, fun _ _ => by simp [go_sem]⟩ ?_
  refine wpMix_q (v := .int .i64 2) rfl rfl (fun _ _ _ h => h) trivial ⟨rfl, fun _ _ => by simp [go_sem, ow2]⟩ ?_
  refine wpMix_q (v := .int .i64 6) rfl rfl (fun _ _ _ h => h) trivial ⟨rfl, fun _ _ => by simp [go_sem, ob3]⟩ ?_
  refine wpMix_q (v := .agg #[.int .i64 4, .int .i64 5, .int .i64 7, .int .i64 6]) rfl rfl (fun _ _ _ h => h) trivial ⟨rfl, fun _ _ => by simp [go_sem]⟩ ?_
  refine wpMix_n rfl rfl ?_
  go_wp2_with fail
  refine ⟨fun _ => trivial, ?_⟩
  refine wpMix_tail _ [_] (by kernel_rfl) rfl ?_
  simp only [List.getElem_toArray, List.getElem_cons_succ, List.getElem_cons_zero]
  clear ob1 ob2 ob3 ow1 ow2 ow4
  go_wp2_with fail
  obtain ⟨Y, hY⟩ : ∃ Y, Y = (w1.alloc (.cells #[.int .i64 4, .int .i64 5, .int .i64 7, .int .i64 6] 111)).drew := ⟨_, rfl⟩
  rw [← hY]
  have hBY : Below w1.heap.size w1 Y := by rw [hY]; exact ((Below.refl _ w1).alloc (Nat.le_refl _) _).drew
  have hbr : Blk Y w1.heap.size 111 #[.int .i64 4, .int .i64 5, .int .i64 7, .int .i64 6] := by rw [hY]; exact (Blk.new _ _ _).drew
  have hJY := HJ.out.below hBY hlt hltm
  have hring : ∀ r : Nat, r < 4 → Y.cell? ⟨w1.heap.size, r, none⟩ = some (.int .i64 (ringV 2 true r)) := fun r hr => by
    have hc : r = 0 ∨ r = 1 ∨ r = 2 ∨ r = 3 := by omega
    rw [hbr.cell]
    rcases hc with rfl | rfl | rfl | rfl <;> rfl
  have q0 : ∀ W, (Instr.index 111 (.agg #[.int .i64 4, .int .i64 5, .int .i64 7, .int .i64 6]) (.int .i64 0)).run Try.prog W = .ok (.int .i64 4) W := fun _ => by kernel_rfl
  have q1 : ∀ W, (Instr.index 111 (.agg #[.int .i64 4, .int .i64 5, .int .i64 7, .int .i64 6]) (.int .i64 1)).run Try.prog W = .ok (.int .i64 5) W := fun _ => by kernel_rfl
  have q2 : ∀ W, (Instr.index 111 (.agg #[.int .i64 4, .int .i64 5, .int .i64 7, .int .i64 6]) (.int .i64 2)).run Try.prog W = .ok (.int .i64 7) W := fun _ => by kernel_rfl
  have q3 : ∀ W, (Instr.index 111 (.agg #[.int .i64 4, .int .i64 5, .int .i64 7, .int .i64 6]) (.int .i64 3)).run Try.prog W = .ok (.int .i64 6) W := fun _ => by kernel_rfl
  have hidx : ∀ r : Nat, r < 4 → ∀ W, (Instr.index 111 (.agg #[.int .i64 4, .int .i64 5, .int .i64 7, .int .i64 6]) (.int .i64 r)).run Try.prog W = .ok (.int .i64 (ringV 2 true r)) W := fun r hr W => by
    have hc : r = 0 ∨ r = 1 ∨ r = 2 ∨ r = 3 := by omega
    rcases hc with rfl | rfl | rfl | rfl
    · exact q0 W
    · exact q1 W
    · exact q2 W
    · exact q3 W
  have HY := hide (And.intro hBY (And.intro hJY (And.intro hring (And.intro hidx hbr))))
  have hltY := hJY.1.lt
  have hltYm := hJY.2.lt
  have hltr := hbr.lt
  clear hBY hbr hJY hring hidx hY q0 q1 q2 q3
  go_loopw [10, 11, 44] (fun cv iv kv wr => ∃ k : Nat, k ≤ 4 ∧ kv = .int .i64 k ∧ Own encP 3 61 wr Y.heap.size cv (crossN ins 2 true k).length (crossN ins 2 true k) ∧ iv = .int .i64 (lastIn ins 2 true k) ∧ Below Y.heap.size Y wr) (fun _ _ kv _ => 4 - (intOf kv).toNat)
  case atStart => exact ⟨0, by omega, rfl, Own.nil, rfl, Below.refl _ Y⟩
  case round =>
    obtain ⟨k, hk, rfl, hown, rfl, hB⟩ := hrel
    have hszB := hB.size
    have hcl : (crossN ins 2 true k).length ≤ 4 := by
      unfold crossN
      rw [List.length_map]
      exact Nat.le_trans (List.length_filter_le _ _) (by rw [List.length_range]; exact hk)
    have hcs := crossN_succ ins 2 true k
    obtain ⟨C, hC⟩ : ∃ C, C = crossN ins 2 true k := ⟨_, rfl⟩
    rw [← hC] at hown hcl hcs
    obtain ⟨l, hl⟩ : ∃ l, l = lastIn ins 2 true k := ⟨_, rfl⟩
    rw [← hl]
    obtain ⟨Ac, cc, rfl⟩ := hown.form
    by_cases hlt4 : k < 4
    · obtain ⟨v, hv⟩ : ∃ v, v = ringV 2 true k := ⟨_, rfl⟩
      obtain ⟨nx, hnx⟩ : ∃ nx, nx = ringV 2 true (k + 1) := ⟨_, rfl⟩
      have hv8 : v < 8 := by rw [hv]; exact ringV_lt 2 (by omega) true k
      have hx8 : nx < 8 := by rw [hnx]; exact ringV_lt 2 (by omega) true (k + 1)
      have hid := HY.out.2.2.2.1 k hlt4
      rw [← hv] at hid
      obtain ⟨r, hr⟩ : ∃ r, r = (k + 1) % 4 := ⟨_, rfl⟩
      have hr4 : r < 4 := by omega
      have hmod : ((k : Int) + 1) % 4 = (r : Int) := by omega
      have cr : wr.cell? ⟨w1.heap.size, r, none⟩ = some (.int .i64 nx) := by
        rw [hnx, ← ringV_mod 2 true (k + 1), ← hr]
        exact (hB.cell (p := ⟨w1.heap.size, r, none⟩) hltr).trans (HY.out.2.2.1 r hr4)
      have hJr := HY.out.2.1.below hB hltY hltYm
      have c1 := hJr.in_ hv8
      have c2 := hJr.in_ hx8
      obtain ⟨iv, hiv⟩ : ∃ iv, iv = ins v := ⟨_, rfl⟩
      obtain ⟨ix, hix⟩ : ∃ ix, ix = ins nx := ⟨_, rfl⟩
      rw [← hiv] at c1
      rw [← hix] at c2
      have i1 : (k : Int) < 4 := by omega
      have i2 : (r : Int) < 4 := by omega
      have i3 : (v : Int) < 8 := by omega
      have i4 : (nx : Int) < 8 := by omega
      have j2 : (0 : Int) ≤ (r : Int) := by omega
      have j3 : (0 : Int) ≤ (v : Int) := by omega
      have j4 : (0 : Int) ≤ (nx : Int) := by omega
      have HR := hide (And.intro hown (And.intro hB (And.intro hcs (And.intro hv (And.intro hnx (And.intro hiv hix))))))
      have HRl := hide (And.intro hl hr)
      clear hown hB hcs hv hnx hiv hix hJr hr hl hC
      cases iv
      · cases ix
        · go_wp2_with fail
          go_quiet (fail)
          go_wp2
          go_roundw
          case rel =>
            refine ⟨k + 1, by omega, by go_num, ?_, ?_, below_drewN HR.out.2.1 _⟩
            · rw [HR.out.2.2.1, if_neg (by rw [← HR.out.2.2.2.1, ← HR.out.2.2.2.2.1, ← HR.out.2.2.2.2.2.1, ← HR.out.2.2.2.2.2.2]; decide), List.append_nil]
              exact HR.out.1
            · show _ = Value.int .i64 (lastIn ins 2 true (k + 1))
              unfold lastIn
              rw [← HR.out.2.2.2.1, ← HR.out.2.2.2.2.2.1, ← HRl.out.1]
              rfl
          case measure => simp [intOf]; omega
        · go_wp2_with fail
          go_quiet (fail)
          go_wp2_with fail
          with_reducible refine (middle_any v nx hv8 hx8 _).mono ?_
          rintro e w6 ⟨rfl, hB6⟩
          have hB06 : Below wr.heap.size wr w6 := (below_drewN (Below.refl _ wr) _).trans hB6
          have hz6 := hB06.size
          have HO := hide (And.intro ((HR.out.1.below hB06 (Nat.le_refl _)).alloc (.cells #[.int .i64 (midP v nx).1, .int .i64 (midP v nx).2.1, .int .i64 (midP v nx).2.2] 61)) hB06)
          have cv6 : (w6.alloc (.cells #[.int .i64 (midP v nx).1, .int .i64 (midP v nx).2.1, .int .i64 (midP v nx).2.2] 61)).cell? ⟨bj, v, none⟩ = some (.bool false) := (((Below.refl _ w6).alloc (Nat.le_refl _) _).cell (p := ⟨bj, v, none⟩) (by simp; omega)).trans ((hB06.cell (p := ⟨bj, v, none⟩) (by simp; omega)).trans c1)
          clear hB6 hB06 c1 c2 cr
          go_wp2_with (at_builtin; refine wpList_append1 rfl _ _ _ rfl Try.underlying82 infoV rfl (by omega) encP_len8 encP_one8 rfl HO.out.1 w6.heap.size 1 (midP v nx) rfl (Blk.new _ _ _) (by unfold maxLen; omega) (by omega) (by simp; omega) ?_; intro g cap w7 hown7 hg7 hB7 hat7 hgb7 hlt7; have cv7 := (hB7.cell (p := ⟨bj, v, none⟩) (by omega)).trans cv6; clear cv6)
          go_roundw
          case rel =>
            refine ⟨k + 1, by omega, by go_num, ?_, ?_, ((HR.out.2.1.trans (HO.out.2.mono HR.out.2.1.size)).alloc (by omega) _).trans hB7⟩
            · rw [HR.out.2.2.1, if_pos (by rw [← HR.out.2.2.2.1, ← HR.out.2.2.2.2.1, ← HR.out.2.2.2.2.2.1, ← HR.out.2.2.2.2.2.2]; rfl), ← HR.out.2.2.2.1, ← HR.out.2.2.2.2.1, List.length_append]
              exact hown7
            · show _ = Value.int .i64 (lastIn ins 2 true (k + 1))
              unfold lastIn
              rw [← HR.out.2.2.2.1, ← HR.out.2.2.2.2.2.1, ← HRl.out.1]
              rfl
          case measure => simp [intOf]; omega
      · cases ix
        · go_wp2_with fail
          go_quiet (fail)
          go_wp2_with fail
          with_reducible refine (middle_any v nx hv8 hx8 _).mono ?_
          rintro e w6 ⟨rfl, hB6⟩
          have hB06 : Below wr.heap.size wr w6 := (below_drewN (Below.refl _ wr) _).trans hB6
          have hz6 := hB06.size
          have HO := hide (And.intro ((HR.out.1.below hB06 (Nat.le_refl _)).alloc (.cells #[.int .i64 (midP v nx).1, .int .i64 (midP v nx).2.1, .int .i64 (midP v nx).2.2] 61)) hB06)
          have cv6 : (w6.alloc (.cells #[.int .i64 (midP v nx).1, .int .i64 (midP v nx).2.1, .int .i64 (midP v nx).2.2] 61)).cell? ⟨bj, v, none⟩ = some (.bool true) := (((Below.refl _ w6).alloc (Nat.le_refl _) _).cell (p := ⟨bj, v, none⟩) (by simp; omega)).trans ((hB06.cell (p := ⟨bj, v, none⟩) (by simp; omega)).trans c1)
          clear hB6 hB06 c1 c2 cr
          go_wp2_with (at_builtin; refine wpList_append1 rfl _ _ _ rfl Try.underlying82 infoV rfl (by omega) encP_len8 encP_one8 rfl HO.out.1 w6.heap.size 1 (midP v nx) rfl (Blk.new _ _ _) (by unfold maxLen; omega) (by omega) (by simp; omega) ?_; intro g cap w7 hown7 hg7 hB7 hat7 hgb7 hlt7; have cv7 := (hB7.cell (p := ⟨bj, v, none⟩) (by omega)).trans cv6; clear cv6)
          go_roundw
          case rel =>
            refine ⟨k + 1, by omega, by go_num, ?_, ?_, ((HR.out.2.1.trans (HO.out.2.mono HR.out.2.1.size)).alloc (by omega) _).trans hB7⟩
            · rw [HR.out.2.2.1, if_pos (by rw [← HR.out.2.2.2.1, ← HR.out.2.2.2.2.1, ← HR.out.2.2.2.2.2.1, ← HR.out.2.2.2.2.2.2]; rfl), ← HR.out.2.2.2.1, ← HR.out.2.2.2.2.1, List.length_append]
              exact hown7
            · show _ = Value.int .i64 (lastIn ins 2 true (k + 1))
              unfold lastIn
              rw [← HR.out.2.2.2.1, ← HR.out.2.2.2.2.2.1]
              rfl
          case measure => simp [intOf]; omega
        · go_wp2_with fail
          go_quiet (fail)
          go_wp2
          go_roundw
          case rel =>
            refine ⟨k + 1, by omega, by go_num, ?_, ?_, below_drewN HR.out.2.1 _⟩
            · rw [HR.out.2.2.1, if_neg (by rw [← HR.out.2.2.2.1, ← HR.out.2.2.2.2.1, ← HR.out.2.2.2.2.2.1, ← HR.out.2.2.2.2.2.2]; decide), List.append_nil]
              exact HR.out.1
            · show _ = Value.int .i64 (lastIn ins 2 true (k + 1))
              unfold lastIn
              rw [← HR.out.2.2.2.1, ← HR.out.2.2.2.2.2.1]
              rfl
          case measure => simp [intOf]; omega
    · have hke : k = 4 := by omega
      subst hke
      have hJr := HY.out.2.1.below hB hltY hltYm
      have hring : ∀ r : Nat, r < 4 → wr.cell? ⟨w1.heap.size, r, none⟩ = some (.int .i64 (ringV 2 true r)) := fun r hr => (hB.cell (p := ⟨w1.heap.size, r, none⟩) hltr).trans (HY.out.2.2.1 r hr)
      have hgr : w1.grownBy wr (some mb) := by
        have hB1 : Below w1.heap.size w1 wr := HY.out.1.trans (hB.mono HY.out.1.size)
        exact ⟨hB1.os, hB1.tape, hB1.output, hB1.size, fun i hi _ => hB1.block i hi⟩
      have hltw := hgr.size
      rcases crossN_len ins 2 true with (h0 | ⟨p, q, h2, kk, hl2⟩) | ⟨ca, cb, cd, ce, h4⟩
      · rw [h0] at hC
        subst hC
        have HE := hide (And.intro hJr (And.intro hgr h0))
        clear hown hB hcs hl hJr hring hgr h0
        go_wp2
        go_end0
        refine ⟨rfl, ⟨n, by omega, ?_⟩, HE.out.2.1⟩
        have hf : faceJ ins 2 true = [] := by unfold faceJ; rw [HE.out.2.2]
        rw [hf, List.append_nil]
        exact HE.out.1
      · have hps : smallP p ∧ smallP q := by
          have := crossN_small ins 2 true 4
          rw [h2] at this
          exact ⟨this p (by simp), this q (by simp)⟩
        rw [h2] at hC
        rw [hl2] at hl
        subst hC
        obtain ⟨vv, hvv⟩ : ∃ vv, vv = ringV 2 true kk := ⟨_, rfl⟩
        have hv8 : vv < 8 := by rw [hvv]; exact ringV_lt 2 (by omega) true kk
        rw [← hvv] at hl
        subst hl
        obtain ⟨g, cap0, hv0, hgb, hgl⟩ := hown.at (by simp)
        obtain rfl : Ac = some ⟨g, 0, none⟩ := by injection hv0
        obtain ⟨b1, o1, e1, _, hc0⟩ := (hown.sl encP_len8 (Nat.le_refl _)).at (i := 0) (x := p) rfl
        cases e1
        obtain ⟨b1, o1, e1, _, hc1⟩ := (hown.sl encP_len8 (Nat.le_refl _)).at (i := 1) (x := q) rfl
        cases e1
        have p0 := hc0 0 _ rfl
        have p1 := hc0 1 _ rfl
        have p2 := hc0 2 _ rfl
        have q0 := hc1 0 _ rfl
        have q1 := hc1 1 _ rfl
        have q2 := hc1 2 _ rfl
        simp only [Nat.zero_add, Nat.zero_mul, Nat.one_mul, Nat.add_zero] at p0 p1 p2 q0 q1 q2
        have hS : (wr.drew.cell? ⟨g, 0, none⟩ = some (.int .i64 p.1) ∧ wr.drew.cell? ⟨g, 1, none⟩ = some (.int .i64 p.2.1) ∧ wr.drew.cell? ⟨g, 2, none⟩ = some (.int .i64 p.2.2)) ∧ wr.drew.cell? ⟨g, 3, none⟩ = some (.int .i64 q.1) ∧ wr.drew.cell? ⟨g, 3 + 1, none⟩ = some (.int .i64 q.2.1) ∧ wr.drew.cell? ⟨g, 3 + 2, none⟩ = some (.int .i64 q.2.2) := ⟨⟨p0, p1, p2⟩, q0, q1, q2⟩
        have hcall := join_any bj mb n vv 2 ins ms p q true 1 rfl wr.drew ⟨hJr.1.drew, hJr.2⟩ (by omega) hv8 hps.1 hps.2 (by omega)
        rw [show ((2 : Nat) : Int) = 2 from rfl] at hcall
        have HE := hide (And.intro hS (And.intro hcall (And.intro hgr (And.intro h2 (And.intro hl2 hvv)))))
        clear hown hB hcs hJr hring hgr h2 hl2 hvv hps hS hcall p0 p1 p2 q0 q1 q2 hc0 hc1
        go_wp2_with fail
        refine wp_region_mix (fun W => (W.cell? ⟨g, 0, none⟩ = some (.int .i64 p.1) ∧ W.cell? ⟨g, 1, none⟩ = some (.int .i64 p.2.1) ∧ W.cell? ⟨g, 2, none⟩ = some (.int .i64 p.2.2)) ∧ W.cell? ⟨g, 3, none⟩ = some (.int .i64 q.1) ∧ W.cell? ⟨g, 3 + 1, none⟩ = some (.int .i64 q.2.1) ∧ W.cell? ⟨g, 3 + 2, none⟩ = some (.int .i64 q.2.2)) [0, 1, 2, 3, 4, 5, 6, 7, 8, 9] [0, 1, 2, 3, 4, 5, 6, 7, 8, 9, 10] mixed_ok (by kernel_rfl) ?_
        refine wpMix_q (v := .pointer (some ⟨bj, 0, none⟩)) rfl rfl (fun _ _ _ h => h) HE.out.1 ⟨rfl, fun _ _ => by simp [go_sem]⟩ ?_
        refine wpMix_q (v := .slice (some ⟨g, 0, none⟩) 2 cc) rfl rfl (fun _ _ _ h => h) HE.out.1 ⟨rfl, fun _ _ => by simp [go_sem]⟩ ?_
        refine wpMix_q (v := .pointer (some ⟨g, 0, none⟩)) rfl rfl (fun _ _ _ h => h) HE.out.1 ⟨rfl, fun _ _ => by simp [go_sem]⟩ ?_
        refine wpMix_q (v := vP p) rfl rfl (fun _ _ _ h => h) HE.out.1 ⟨rfl, fun _ h' => by obtain ⟨⟨a0, a1, a2⟩, _⟩ := h'; simp [go_sem, a0, a1, a2]⟩ ?_
        refine wpMix_q (v := .slice (some ⟨g, 0, none⟩) 2 cc) rfl rfl (fun _ _ _ h => h) HE.out.1 ⟨rfl, fun _ _ => by simp [go_sem]⟩ ?_
        refine wpMix_q (v := .pointer (some ⟨g, 3, none⟩)) rfl rfl (fun _ _ _ h => h) HE.out.1 ⟨rfl, fun _ _ => by simp [go_sem]⟩ ?_
        refine wpMix_q (v := vP q) rfl rfl (fun _ _ _ h => h) HE.out.1 ⟨rfl, fun _ h' => by obtain ⟨_, a0, a1, a2⟩ := h'; simp [go_sem, a0, a1, a2]⟩ ?_
        refine wpMix_q (v := .int .i64 vv) rfl rfl (fun _ _ _ h => h) HE.out.1 ⟨rfl, fun _ _ => by simp [go_sem]⟩ ?_
        refine wpMix_q (v := .int .i64 2) rfl rfl (fun _ _ _ h => h) HE.out.1 ⟨rfl, fun _ _ => by simp [go_sem]⟩ ?_
        refine wpMix_q (v := .int .i64 1) rfl rfl (fun _ _ _ h => h) HE.out.1 ⟨rfl, fun _ _ => by simp [go_sem]⟩ ?_
        refine wpMix_tail _ [_] (by kernel_rfl) rfl ?_
        simp only [List.getElem_toArray, List.getElem_cons_succ, List.getElem_cons_zero]
        go_wp2_with fail
        with_reducible refine HE.out.2.1.mono ?_
        rintro e w9 ⟨rfl, hJ9, hg9⟩
        have H9 := hide (And.intro hJ9 hg9)
        clear hJ9 hg9
        go_wp2
        go_end0
        refine ⟨rfl, ⟨n + 1, by omega, ?_⟩, ?_⟩
        · have hf : faceJ ins 2 true = [joinJ p q vv 2 true] := by
            unfold faceJ
            rw [HE.out.2.2.2.1, HE.out.2.2.2.2.1, ← HE.out.2.2.2.2.2]
            rfl
          rw [hf]
          exact H9.out.1
        · exact HE.out.2.2.1.andThen (grown_drew H9.out.2) (fun j hj => .inr hj)
      · rw [h4] at hC
        subst hC
        have hbw := HY.out.2.2.2.2.below hB hltr
        have z0 := hbw.cell 0
        have z1 := hbw.cell 1
        have z2 := hbw.cell 2
        have z3 := hbw.cell 3
        simp only [List.getElem?_toArray, List.getElem?_cons_zero, List.getElem?_cons_succ] at z0 z1 z2 z3
        have hltwr : w1.heap.size < wr.heap.size := hbw.lt
        obtain ⟨R, hR⟩ : ∃ R, R = wr := ⟨_, rfl⟩
        have HE := hide (And.intro hJr (And.intro hgr (And.intro h4 hring)))
        clear hown hB hcs hl hJr hring hgr h4 hbw
        go_wp2_with fail
        clear z0 z1 z2 z3
        rw [← hR] at HE hltwr ⊢
        rw [show ([ca, cb, cd, ce] : List Pt).length = 4 from rfl, show ((4 : Nat) : Int) = 4 from rfl]
        clear hR
        go_loopw [98] (fun iv wx => ∃ k n' : Nat, k ≤ 4 ∧ iv = .int .i64 k ∧ n' ≤ n + k ∧ Jn wx bj mb n' ins (ms ++ fourN ins 2 true k) ∧ R.grownBy wx (some mb)) (fun iv _ => 4 - (intOf iv).toNat)
        case atStart => exact ⟨0, n, by omega, rfl, by omega, by simpa [fourN] using HE.out.1, World.grownBy.refl _ _⟩
        case round =>
          obtain ⟨k, n', hk, rfl, hn', hJx, hgx⟩ := hrel
          by_cases hlt4 : k < 4
          · obtain ⟨v, hv⟩ : ∃ v, v = ringV 2 true k := ⟨_, rfl⟩
            obtain ⟨nx, hnx⟩ : ∃ nx, nx = ringV 2 true (k + 1) := ⟨_, rfl⟩
            obtain ⟨pv, hpv⟩ : ∃ pv, pv = ringV 2 true (k + 3) := ⟨_, rfl⟩
            have hv8 : v < 8 := by rw [hv]; exact ringV_lt 2 (by omega) true k
            have hx8 : nx < 8 := by rw [hnx]; exact ringV_lt 2 (by omega) true (k + 1)
            have hp8 : pv < 8 := by rw [hpv]; exact ringV_lt 2 (by omega) true (k + 3)
            have hid := HY.out.2.2.2.1 k hlt4
            rw [← hv] at hid
            obtain ⟨r, hr⟩ : ∃ r, r = (k + 1) % 4 := ⟨_, rfl⟩
            obtain ⟨r3, hr3⟩ : ∃ r, r = (k + 3) % 4 := ⟨_, rfl⟩
            have hr4 : r < 4 := by omega
            have hr34 : r3 < 4 := by omega
            have t1 : ((k : Int) + 1).tmod 4 = (r : Int) := by rw [Int.tmod_eq_emod_of_nonneg (by omega)]; omega
            have t3 : ((k : Int) + 3).tmod 4 = (r3 : Int) := by rw [Int.tmod_eq_emod_of_nonneg (by omega)]; omega
            have wk1 : IntKind.i64.wrap ((k : Int) + 1) = (k : Int) + 1 := wrap_small (by omega)
            have wk3 : IntKind.i64.wrap ((k : Int) + 3) = (k : Int) + 3 := wrap_small (by omega)
            have wr1 : IntKind.i64.wrap (r : Int) = (r : Int) := wrap_small (by omega)
            have wr3 : IntKind.i64.wrap (r3 : Int) = (r3 : Int) := wrap_small (by omega)
            have hne : (some w1.heap.size : Option Nat) ≠ some mb := by intro e; injection e; omega
            have cr : wr.cell? ⟨w1.heap.size, r, none⟩ = some (.int .i64 nx) := by
              rw [hnx, ← ringV_mod 2 true (k + 1), ← hr]
              exact hgx.cell (HE.out.2.2.2 r hr4) hne
            have cr3 : wr.cell? ⟨w1.heap.size, r3, none⟩ = some (.int .i64 pv) := by
              rw [hpv, ← ringV_mod 2 true (k + 3), ← hr3]
              exact hgx.cell (HE.out.2.2.2 r3 hr34) hne
            have c1 := hJx.in_ hv8
            obtain ⟨iv, hiv⟩ : ∃ iv, iv = ins v := ⟨_, rfl⟩
            rw [← hiv] at c1
            have hfs := fourN_succ ins 2 true k
            rw [← hv, ← hnx, ← hpv, ← hiv] at hfs
            have i1 : (k : Int) < 4 := by omega
            have i3 : (v : Int) < 8 := by omega
            have j3 : (0 : Int) ≤ (v : Int) := by omega
            have i2 : (r : Int) < 4 := by omega
            have j2 : (0 : Int) ≤ (r : Int) := by omega
            have i5 : (r3 : Int) < 4 := by omega
            have j5 : (0 : Int) ≤ (r3 : Int) := by omega
            have hltJ := hJx.1.lt
            have hltM := hJx.2.lt
            have hltw := Nat.lt_of_lt_of_le hltwr hgx.size
            have HR := hide (And.intro hJx (And.intro hgx hfs))
            clear hJx hgx hfs hv hnx hpv hiv hr hr3 hne
            cases iv
            · clear t1 t3 wk1 wk3 wr1 wr3
              go_wp2
              go_roundw
              case rel =>
                refine ⟨k + 1, n', by omega, by go_num, by omega, ?_, HR.out.2.1⟩
                rw [HR.out.2.2, if_neg (by decide), List.append_nil]
                exact HR.out.1
              case measure => simp [intOf]; omega
            · have HT := hide (And.intro t1 (And.intro t3 (And.intro wk1 (And.intro wk3 (And.intro wr1 wr3)))))
              have hS : wr.drew.cell? ⟨w1.heap.size, r3, none⟩ = some (.int .i64 pv) ∧ wr.drew.cell? ⟨w1.heap.size, r, none⟩ = some (.int .i64 nx) := ⟨cr3, cr⟩
              have HS := hide hS
              clear t1 t3 wk1 wk3 wr1 wr3 hS
              go_wp2_with fail
              refine wp_region_mix (fun W => W.cell? ⟨w1.heap.size, r3, none⟩ = some (.int .i64 pv) ∧ W.cell? ⟨w1.heap.size, r, none⟩ = some (.int .i64 nx)) [0, 1, 2, 3, 4, 5, 6, 8, 9, 10, 11, 12, 13, 15, 16, 17] [0, 1, 2, 3, 4, 5, 6, 8, 9, 10, 11, 12, 13, 15, 16, 17, 7, 14, 18] mixed_ok (by kernel_rfl) ?_
              refine wpMix_q (v := .pointer (some ⟨bj, 0, none⟩)) rfl rfl (fun _ _ _ h => h) HS.out ⟨rfl, fun _ _ => by simp [go_sem]⟩ ?_
              refine wpMix_q (v := .int .i64 k) rfl rfl (fun _ _ _ h => h) HS.out ⟨rfl, fun _ _ => by simp [go_sem]⟩ ?_
              refine wpMix_q (v := .int .i64 ((k : Int) + 3)) rfl rfl (fun _ _ _ h => h) HS.out ⟨rfl, fun _ _ => by simp [go_sem, HT.out.2.2.2.1]⟩ ?_
              refine wpMix_q (v := .int .i64 r3) rfl rfl (fun _ _ _ h => h) HS.out ⟨rfl, fun _ _ => by simp [go_sem, HT.out.2.1]⟩ ?_
              refine wpMix_q (v := .pointer (some ⟨w1.heap.size, r3, none⟩)) rfl rfl (fun _ _ _ h => h) HS.out ⟨rfl, fun _ _ => by simp [go_sem, i5, j5]⟩ ?_
              refine wpMix_q (v := .int .i64 pv) rfl rfl (fun _ _ _ h => h) HS.out ⟨rfl, fun _ h' => by simp [go_sem, h'.1]⟩ ?_
              refine wpMix_q (v := .int .i64 v) rfl rfl (fun _ _ _ h => h) HS.out ⟨rfl, fun _ _ => by simp [go_sem]⟩ ?_
              refine wpMix_q (v := .int .i64 v) rfl rfl (fun _ _ _ h => h) HS.out ⟨rfl, fun _ _ => by simp [go_sem]⟩ ?_
              refine wpMix_q (v := .int .i64 k) rfl rfl (fun _ _ _ h => h) HS.out ⟨rfl, fun _ _ => by simp [go_sem]⟩ ?_
              refine wpMix_q (v := .int .i64 ((k : Int) + 1)) rfl rfl (fun _ _ _ h => h) HS.out ⟨rfl, fun _ _ => by simp [go_sem, HT.out.2.2.1]⟩ ?_
              refine wpMix_q (v := .int .i64 r) rfl rfl (fun _ _ _ h => h) HS.out ⟨rfl, fun _ _ => by simp [go_sem, HT.out.1]⟩ ?_
              refine wpMix_q (v := .pointer (some ⟨w1.heap.size, r, none⟩)) rfl rfl (fun _ _ _ h => h) HS.out ⟨rfl, fun _ _ => by simp [go_sem, i2, j2]⟩ ?_
              refine wpMix_q (v := .int .i64 nx) rfl rfl (fun _ _ _ h => h) HS.out ⟨rfl, fun _ h' => by simp [go_sem, h'.2]⟩ ?_
              refine wpMix_q (v := .int .i64 v) rfl rfl (fun _ _ _ h => h) HS.out ⟨rfl, fun _ _ => by simp [go_sem]⟩ ?_
              refine wpMix_q (v := .int .i64 2) rfl rfl (fun _ _ _ h => h) HS.out ⟨rfl, fun _ _ => by simp [go_sem]⟩ ?_
              refine wpMix_q (v := .int .i64 1) rfl rfl (fun _ _ _ h => h) HS.out ⟨rfl, fun _ _ => by simp [go_sem]⟩ ?_
              refine wpMix_n rfl rfl ?_
              clear cr cr3 c1
              go_wp2_with fail
              with_reducible refine (middle_any pv v hp8 hv8 _).mono ?_
              rintro e w6 ⟨rfl, hB6⟩
              have hS6 : w6.cell? ⟨w1.heap.size, r3, none⟩ = some (.int .i64 pv) ∧ w6.cell? ⟨w1.heap.size, r, none⟩ = some (.int .i64 nx) := ⟨(hB6.cell (p := ⟨w1.heap.size, r3, none⟩) hltw).trans HS.out.1, (hB6.cell (p := ⟨w1.heap.size, r, none⟩) hltw).trans HS.out.2⟩
              have HB6 := hide (And.intro hB6 hS6)
              clear hB6 hS6
              go_wp2_with fail
              refine ⟨fun _ => HB6.out.2, ?_⟩
              refine wpMix_n rfl rfl ?_
              go_wp2_with fail
              with_reducible refine (middle_any v nx hv8 hx8 _).mono ?_
              rintro e w7 ⟨rfl, hB7⟩
              have hz6 : wr.heap.size ≤ w6.heap.size := HB6.out.1.size
              have hS7 : w7.cell? ⟨w1.heap.size, r3, none⟩ = some (.int .i64 pv) ∧ w7.cell? ⟨w1.heap.size, r, none⟩ = some (.int .i64 nx) := ⟨(hB7.cell (p := ⟨w1.heap.size, r3, none⟩) (by simp; omega)).trans HB6.out.2.1, (hB7.cell (p := ⟨w1.heap.size, r, none⟩) (by simp; omega)).trans HB6.out.2.2⟩
              have hB06 : Below wr.heap.size wr w7 := ((below_drewN (Below.refl _ wr) 1).trans (show Below wr.heap.size wr.drew w6 from HB6.out.1)).trans (hB7.mono hz6)
              have hcall := join_any bj mb n' v 2 ins (ms ++ fourN ins 2 true k) (midP pv v) (midP v nx) true 1 rfl w7 (HR.out.1.below hB06 hltJ hltM) (by omega) hv8 (smallP_mid _ _) (smallP_mid _ _) (by omega)
              rw [show ((2 : Nat) : Int) = 2 from rfl] at hcall
              have HC := hide (And.intro hcall (And.intro hB06 hS7))
              clear hB7 hB06 hcall hS7
              go_wp2_with fail
              refine ⟨fun _ => HC.out.2.2, ?_⟩
              refine wpMix_tail _ [_] (by kernel_rfl) rfl ?_
              simp only [List.getElem_toArray, List.getElem_cons_succ, List.getElem_cons_zero]
              go_wp2_with fail
              with_reducible refine HC.out.1.mono ?_
              rintro e w9 ⟨rfl, hJ9, hg9⟩
              have H9 := hide (And.intro hJ9 hg9)
              clear hJ9 hg9
              go_wp2
              go_roundw
              case rel =>
                refine ⟨k + 1, n' + 1, by omega, by go_num, by omega, ?_, ?_⟩
                · rw [HR.out.2.2, if_pos trivial, ← List.append_assoc]
                  exact H9.out.1
                · exact HR.out.2.1.andThen (grown_below' HC.out.2.1 H9.out.2) (fun j hj => .inr hj)
              case measure => simp [intOf]; omega
          · have hke : k = 4 := by omega
            subst hke
            have HX := hide (And.intro hJx hgx)
            clear hJx hgx
            go_wp2
            go_end0
            refine ⟨rfl, ⟨n', by omega, ?_⟩, ?_⟩
            · have hf : faceJ ins 2 true = fourN ins 2 true 4 := by unfold faceJ; rw [HE.out.2.2.1]
              rw [hf]
              exact HX.out.1
            · exact HE.out.2.1.andThen HX.out.2 (fun j hj => .inr hj)
end Go.Proofs.Ytfljcgehhnmamaa
/- contour.fan. -/
namespace Go.Proofs.Ytfljcgehhnmamaa
open Go.RowKit Go.Sort
theorem infoT8 : (Try.prog.info? 40).map (fun i => (i.zero, i.size, i.bytes)) = some (some (.agg #[.int .i64 0, .int .i64 0, .int .i64 0, .int .i64 0, .int .i64 0, .int .i64 0, .int .i64 0, .int .i64 0, .int .i64 0]), 9, 72) := by kernel_rfl
theorem below_dd {n : Nat} {A B : World} (h : Below n A B) : Below n A.drew B.drew := ⟨h.os, h.tape, h.output, h.size, h.block⟩
theorem encT_len8 (t : Tri) : (encT t).length = 9 := rfl
theorem encT_one8 (t : Tri) : ∀ u ∈ encT t, u.oneCell' = true := by
  intro u hu
  simp only [encT, List.mem_cons, List.not_mem_nil, or_false] at hu
  rcases hu with rfl | rfl | rfl | rfl | rfl | rfl | rfl | rfl | rfl <;> rfl
theorem Sl.pt {w : World} {B b o : Nat} {ps : List Pt} (h : Sl encP 3 w B (some ⟨b, o, none⟩) ps) {i : Nat} {p : Pt} (hi : ps[i]? = some p) :
    w.cell? ⟨b, o + i * 3, none⟩ = some (.int .i64 p.1) ∧ w.cell? ⟨b, o + i * 3 + 1, none⟩ = some (.int .i64 p.2.1) ∧ w.cell? ⟨b, o + i * 3 + 2, none⟩ = some (.int .i64 p.2.2) := by
  obtain ⟨b', o', ha, _, hc⟩ := h.at hi
  cases ha
  exact ⟨hc 0 _ rfl, hc 1 _ rfl, hc 2 _ rfl⟩
set_option maxRecDepth 100000 in
set_option maxHeartbeats 8000000 in
theorem fan_three (b o c : Nat) (p q r : Pt) (w : World) (hs : Sl encP 3 w w.heap.size (some ⟨b, o, none⟩) [p, q, r]) :
    Calls Try.prog 44 #[.slice (some ⟨b, o, none⟩) 3 c] w fun e w' => ∃ v, e = .returned v ∧ Own encT 9 40 w' w.heap.size v 1 [(p, q, r)] ∧ Below w.heap.size w w' := by
  obtain ⟨p0, p1, p2⟩ := hs.pt (i := 0) (p := p) rfl
  obtain ⟨q0, q1, q2⟩ := hs.pt (i := 1) (p := q) rfl
  obtain ⟨r0, r1, r2⟩ := hs.pt (i := 2) (p := r) rfl
  simp only [Nat.zero_mul, Nat.one_mul, Nat.add_zero, Nat.reduceMul] at p0 p1 p2 q0 q1 q2 r0 r1 r2
  have hS : (w.drew.cell? ⟨b, o, none⟩ = some (.int .i64 p.1) ∧ w.drew.cell? ⟨b, o + 1, none⟩ = some (.int .i64 p.2.1) ∧ w.drew.cell? ⟨b, o + 2, none⟩ = some (.int .i64 p.2.2)) ∧ (w.drew.cell? ⟨b, o + 3, none⟩ = some (.int .i64 q.1) ∧ w.drew.cell? ⟨b, o + 3 + 1, none⟩ = some (.int .i64 q.2.1) ∧ w.drew.cell? ⟨b, o + 3 + 2, none⟩ = some (.int .i64 q.2.2)) ∧ (w.drew.cell? ⟨b, o + 6, none⟩ = some (.int .i64 r.1) ∧ w.drew.cell? ⟨b, o + 6 + 1, none⟩ = some (.int .i64 r.2.1) ∧ w.drew.cell? ⟨b, o + 6 + 2, none⟩ = some (.int .i64 r.2.2)) := ⟨⟨p0, p1, p2⟩, ⟨q0, q1, q2⟩, r0, r1, r2⟩
  have HS := hide hS
  clear hS p0 p1 p2 q0 q1 q2 r0 r1 r2 hs
  go_enter Try.func44, Try.ntmps44
  go_wp2_with fail
  refine wp_region_mix (fun W => (W.cell? ⟨b, o, none⟩ = some (.int .i64 p.1) ∧ W.cell? ⟨b, o + 1, none⟩ = some (.int .i64 p.2.1) ∧ W.cell? ⟨b, o + 2, none⟩ = some (.int .i64 p.2.2)) ∧ (W.cell? ⟨b, o + 3, none⟩ = some (.int .i64 q.1) ∧ W.cell? ⟨b, o + 3 + 1, none⟩ = some (.int .i64 q.2.1) ∧ W.cell? ⟨b, o + 3 + 2, none⟩ = some (.int .i64 q.2.2)) ∧ (W.cell? ⟨b, o + 6, none⟩ = some (.int .i64 r.1) ∧ W.cell? ⟨b, o + 6 + 1, none⟩ = some (.int .i64 r.2.1) ∧ W.cell? ⟨b, o + 6 + 2, none⟩ = some (.int .i64 r.2.2))) [0, 1, 2, 3, 4, 5, 6, 7, 8, 9] [0, 1, 2, 3, 4, 5, 6, 7, 8, 9, 10, 11] mixed_ok (by kernel_rfl) ?_
  refine wpMix_q (v := .slice (some ⟨b, o, none⟩) 3 c) rfl rfl (fun _ _ _ h => h) HS.out ⟨rfl, fun _ _ => by simp [go_sem]⟩ ?_
  refine wpMix_q (v := .pointer (some ⟨b, o, none⟩)) rfl rfl (fun _ _ _ h => h) HS.out ⟨rfl, fun _ _ => by simp [go_sem]⟩ ?_
  refine wpMix_q (v := vP p) rfl rfl (fun _ _ _ h => h) HS.out ⟨rfl, fun _ h' => by obtain ⟨⟨a0, a1, a2⟩, _⟩ := h'; simp [go_sem, a0, a1, a2]⟩ ?_
  refine wpMix_q (v := .slice (some ⟨b, o, none⟩) 3 c) rfl rfl (fun _ _ _ h => h) HS.out ⟨rfl, fun _ _ => by simp [go_sem]⟩ ?_
  refine wpMix_q (v := .pointer (some ⟨b, o + 3, none⟩)) rfl rfl (fun _ _ _ h => h) HS.out ⟨rfl, fun _ _ => by simp [go_sem]⟩ ?_
  refine wpMix_q (v := vP q) rfl rfl (fun _ _ _ h => h) HS.out ⟨rfl, fun _ h' => by obtain ⟨_, ⟨a0, a1, a2⟩, _⟩ := h'; simp [go_sem, a0, a1, a2]⟩ ?_
  refine wpMix_q (v := .slice (some ⟨b, o, none⟩) 3 c) rfl rfl (fun _ _ _ h => h) HS.out ⟨rfl, fun _ _ => by simp [go_sem]⟩ ?_
  refine wpMix_q (v := .pointer (some ⟨b, o + 6, none⟩)) rfl rfl (fun _ _ _ h => h) HS.out ⟨rfl, fun _ _ => by simp [go_sem]⟩ ?_
  refine wpMix_q (v := vP r) rfl rfl (fun _ _ _ h => h) HS.out ⟨rfl, fun _ h' => by obtain ⟨_, _, a0, a1, a2⟩ := h'; simp [go_sem, a0, a1, a2]⟩ ?_
  refine wpMix_q (v := vT (p, q, r)) rfl rfl (fun _ _ _ h => h) HS.out ⟨rfl, fun _ _ => by simp [go_sem]⟩ ?_
  refine wpMix_tail _ [_, _] (by kernel_rfl) rfl ?_
  simp only [List.getElem_toArray, List.getElem_cons_succ, List.getElem_cons_zero]
  go_wp2
  go_ret
  refine ⟨_, rfl, ?_, ((Below.refl _ w).alloc (Nat.le_refl _) _).drew⟩
  exact (show Own encT 9 40 (w.alloc (.cells (encT (p, q, r)).toArray 40)) w.heap.size (.slice (some ⟨w.heap.size, 0, none⟩) 1 1) 1 [(p, q, r)] from ⟨rfl, by simpa using World.ownsRow_lit (e := 40) (size := 9) w (encT (p, q, r)).toArray 1 (Nat.le_refl _) (by unfold maxLen; omega) (by simp [encT])⟩)
set_option maxRecDepth 100000 in
set_option maxHeartbeats 16000000 in
theorem fan_many (b o c : Nat) (ps : List Pt) (w : World) (hs : Sl encP 3 w w.heap.size (some ⟨b, o, none⟩) ps) (h0 : 0 < ps.length) (h3 : ps.length ≠ 3) (hl : ps.length ≤ 100) (hg : ∀ p ∈ ps, gridP p) :
    Calls Try.prog 44 #[.slice (some ⟨b, o, none⟩) ps.length c] w fun e w' => ∃ v, e = .returned v ∧ Own encT 9 40 w' w.heap.size v ps.length (fanN ps ps.length) ∧ Below w.heap.size w w' := by
  have hbd := sumP_bd ps hg
  have hcb := ctr_grid ps hg h0
  have hctr : ctrP ps = ((sumP ps).1 / ps.length, (sumP ps).2.1 / ps.length, (sumP ps).2.2 / ps.length) := rfl
  obtain ⟨m, hm⟩ : ∃ m, m = ps.length := ⟨_, rfl⟩
  have t3 : ((m : Int) == 3) = false := by simp; omega
  have t0 : ((m : Int) == 0) = false := by simp; omega
  have hm0 : 0 < m := by omega
  have hm1 : m ≤ 100 := by omega
  have HP := hide (And.intro hs (And.intro hg (And.intro hbd (And.intro hcb (And.intro hctr hm)))))
  rw [← hm]
  clear hs hg hbd hcb hctr hm h0 h3 hl
  go_enter Try.func44, Try.ntmps44
  go_wp2
  have hz0 : Blk (w.alloc (.cells #[.int .i64 0, .int .i64 0, .int .i64 0] 38)) w.heap.size 38 #[.int .i64 0, .int .i64 0, .int .i64 0] := Blk.new _ _ _
  go_loopw [27] (fun iv wr => ∃ k : Nat, k ≤ m ∧ iv = .int .i64 k ∧ Blk wr w.heap.size 38 #[.int .i64 (sumP (ps.take k)).1, .int .i64 (sumP (ps.take k)).2.1, .int .i64 (sumP (ps.take k)).2.2] ∧ Below w.heap.size w wr) (fun iv _ => m - (intOf iv).toNat)
  case atStart => exact ⟨0, by omega, rfl, by simpa [sumP] using hz0, (Below.refl _ w).alloc (Nat.le_refl _) _⟩
  case round =>
    obtain ⟨k, hk, rfl, hbs, hB⟩ := hrel
    have hbk := HP.out.2.2.1 k (by rw [← HP.out.2.2.2.2.2]; exact hk)
    by_cases hlt : k < m
    · obtain ⟨p, hp⟩ : ∃ p, ps[k]? = some p := ⟨_, List.getElem?_eq_getElem (by rw [← HP.out.2.2.2.2.2]; exact hlt)⟩
      have hgp := HP.out.2.1 p (List.mem_of_getElem? hp)
      have hst := sumP_take ps k p hp
      obtain ⟨p0, p1, p2⟩ := (HP.out.1.below hB).pt hp
      obtain ⟨s, hsd⟩ : ∃ s, s = sumP (ps.take k) := ⟨_, rfl⟩
      rw [← hsd] at hbk hst hbs
      have s0 := hbs.cell 0
      have s1 := hbs.cell 1
      have s2 := hbs.cell 2
      have f0 := hbs.frozen 0
      have f1 := hbs.frozen 1
      have f2 := hbs.frozen 2
      simp only [List.getElem?_toArray, List.getElem?_cons_zero, List.getElem?_cons_succ] at s0 s1 s2
      obtain ⟨⟨a1, a2⟩, ⟨b1, b2⟩, c1, c2⟩ := hbk
      obtain ⟨⟨d1, d2⟩, ⟨e1, e2⟩, g1, g2⟩ := hgp
      have hltw := hbs.lt
      have i1 : (k : Int) < (m : Int) := by omega
      have HR := hide (And.intro hbs (And.intro hB hst))
      clear hbs hB hst hp hsd
      go_wp2
      go_roundw
      case rel =>
        refine ⟨k + 1, by omega, by go_num, ?_, ?_⟩
        · rw [HR.out.2.2]
          exact (HR.out.1.set3 _ _ _).alloc _
        · exact (((HR.out.2.1.setCell (Nat.le_refl _) _).setCell (Nat.le_refl _) _).setCell (Nat.le_refl _) _).alloc (by simp; omega) _
      case measure => simp [intOf]; omega
    · have hke : k = m := by omega
      subst hke
      have hall : ps.take k = ps := List.take_of_length_le (by rw [← HP.out.2.2.2.2.2]; exact Nat.le_refl _)
      rw [hall] at hbs hbk
      obtain ⟨s, hsd⟩ : ∃ s, s = sumP ps := ⟨_, rfl⟩
      rw [← hsd] at hbs hbk
      have hctr : ctrP ps = (s.1 / k, s.2.1 / k, s.2.2 / k) := by rw [HP.out.2.2.2.2.1, ← hsd, ← HP.out.2.2.2.2.2]
      obtain ⟨⟨a1, a2⟩, ⟨b1, b2⟩, c1, c2⟩ := hbk
      have hcb := HP.out.2.2.2.1
      rw [hctr] at hcb
      obtain ⟨⟨d1, d2⟩, ⟨e1, e2⟩, g1, g2⟩ := hcb
      have u1 : s.1.tdiv k = s.1 / k := Int.tdiv_eq_ediv_of_nonneg a1
      have u2 : s.2.1.tdiv k = s.2.1 / k := Int.tdiv_eq_ediv_of_nonneg b1
      have u3 : s.2.2.tdiv k = s.2.2 / k := Int.tdiv_eq_ediv_of_nonneg c1
      have v1 : IntKind.i64.wrap (s.1 / (k : Int)) = s.1 / (k : Int) := IntWalk.i64_in _ (by dsimp only at d1 d2; omega)
      have v2 : IntKind.i64.wrap (s.2.1 / (k : Int)) = s.2.1 / (k : Int) := IntWalk.i64_in _ (by dsimp only at e1 e2; omega)
      have v3 : IntKind.i64.wrap (s.2.2 / (k : Int)) = s.2.2 / (k : Int) := IntWalk.i64_in _ (by dsimp only at g1 g2; omega)
      obtain ⟨q, hq⟩ : ∃ q : Pt, q = (s.1 / (k : Int), s.2.1 / (k : Int), s.2.2 / (k : Int)) := ⟨_, rfl⟩
      have hS : wr.drew.cell? ⟨w.heap.size, 0, none⟩ = some (.int .i64 s.1) ∧ wr.drew.cell? ⟨w.heap.size, 1, none⟩ = some (.int .i64 s.2.1) ∧ wr.drew.cell? ⟨w.heap.size, 2, none⟩ = some (.int .i64 s.2.2) := hbs.three
      have HR := hide (And.intro hbs (And.intro hB (And.intro hctr (And.intro hS hq))))
      have HU := hide (And.intro u1 (And.intro u2 (And.intro u3 (And.intro v1 (And.intro v2 v3)))))
      have f0 := hbs.frozen 0
      have f1 := hbs.frozen 1
      have f2 := hbs.frozen 2
      have hkn : k ≠ 0 := by omega
      obtain ⟨s0, s1, s2⟩ := hbs.three
      clear hbs hB hctr hS hsd u1 u2 u3 v1 v2 v3 hall d1 d2 e1 e2 g1 g2 a1 a2 b1 b2 c1 c2 hq
      go_wp2_with fail
      refine wp_region_mix (fun W => W.cell? ⟨w.heap.size, 0, none⟩ = some (.int .i64 s.1) ∧ W.cell? ⟨w.heap.size, 1, none⟩ = some (.int .i64 s.2.1) ∧ W.cell? ⟨w.heap.size, 2, none⟩ = some (.int .i64 s.2.2)) [0, 1, 2, 3, 4, 5, 6, 7, 8, 9, 10, 11, 12] [0, 1, 2, 3, 4, 5, 6, 7, 8, 9, 10, 11, 12, 13] mixed_ok (by kernel_rfl) ?_
      refine wpMix_q (v := .pointer (some ⟨w.heap.size, 0, none⟩)) rfl rfl (fun _ _ _ h => h) HR.out.2.2.2.1 ⟨rfl, fun _ _ => by simp [go_sem]⟩ ?_
      refine wpMix_q (v := .int .i64 s.1) rfl rfl (fun _ _ _ h => h) HR.out.2.2.2.1 ⟨rfl, fun _ h' => by simp [go_sem, h'.1]⟩ ?_
      refine wpMix_q (v := .int .i64 k) rfl rfl (fun _ _ _ h => h) HR.out.2.2.2.1 ⟨rfl, fun _ _ => by simp [go_sem]⟩ ?_
      refine wpMix_q (v := .int .i64 (s.1 / (k : Int))) rfl rfl (fun _ _ _ h => h) HR.out.2.2.2.1 ⟨rfl, fun _ _ => by simp [go_sem, hkn, HU.out.1, HU.out.2.2.2.1]⟩ ?_
      refine wpMix_q (v := .pointer (some ⟨w.heap.size, 1, none⟩)) rfl rfl (fun _ _ _ h => h) HR.out.2.2.2.1 ⟨rfl, fun _ _ => by simp [go_sem]⟩ ?_
      refine wpMix_q (v := .int .i64 s.2.1) rfl rfl (fun _ _ _ h => h) HR.out.2.2.2.1 ⟨rfl, fun _ h' => by simp [go_sem, h'.2.1]⟩ ?_
      refine wpMix_q (v := .int .i64 k) rfl rfl (fun _ _ _ h => h) HR.out.2.2.2.1 ⟨rfl, fun _ _ => by simp [go_sem]⟩ ?_
      refine wpMix_q (v := .int .i64 (s.2.1 / (k : Int))) rfl rfl (fun _ _ _ h => h) HR.out.2.2.2.1 ⟨rfl, fun _ _ => by simp [go_sem, hkn, HU.out.2.1, HU.out.2.2.2.2.1]⟩ ?_
      refine wpMix_q (v := .pointer (some ⟨w.heap.size, 2, none⟩)) rfl rfl (fun _ _ _ h => h) HR.out.2.2.2.1 ⟨rfl, fun _ _ => by simp [go_sem]⟩ ?_
      refine wpMix_q (v := .int .i64 s.2.2) rfl rfl (fun _ _ _ h => h) HR.out.2.2.2.1 ⟨rfl, fun _ h' => by simp [go_sem, h'.2.2]⟩ ?_
      refine wpMix_q (v := .int .i64 k) rfl rfl (fun _ _ _ h => h) HR.out.2.2.2.1 ⟨rfl, fun _ _ => by simp [go_sem]⟩ ?_
      refine wpMix_q (v := .int .i64 (s.2.2 / (k : Int))) rfl rfl (fun _ _ _ h => h) HR.out.2.2.2.1 ⟨rfl, fun _ _ => by simp [go_sem, hkn, HU.out.2.2.1, HU.out.2.2.2.2.2]⟩ ?_
      refine wpMix_q (v := vP (s.1 / (k : Int), s.2.1 / (k : Int), s.2.2 / (k : Int))) rfl rfl (fun _ _ _ h => h) HR.out.2.2.2.1 ⟨rfl, fun _ _ => by simp [go_sem]⟩ ?_
      refine wpMix_tail _ [_] (by kernel_rfl) rfl ?_
      simp only [List.getElem_toArray, List.getElem_cons_succ, List.getElem_cons_zero]
      go_wp2_with fail
      clear s0 s1 s2 f0 f1 f2
      obtain ⟨Y, hY⟩ : ∃ Y, Y = (((wr.setCell ⟨w.heap.size, 0, none⟩ (.int .i64 (s.1 / (k : Int)))).setCell ⟨w.heap.size, 1, none⟩ (.int .i64 (s.2.1 / (k : Int)))).setCell ⟨w.heap.size, 2, none⟩ (.int .i64 (s.2.2 / (k : Int)))).drew := ⟨_, rfl⟩
      rw [← hY]
      have hYb : Blk Y w.heap.size 38 #[.int .i64 q.1, .int .i64 q.2.1, .int .i64 q.2.2] := by rw [hY, HR.out.2.2.2.2]; exact (HR.out.1.set3 _ _ _).drew
      have hYB : Below w.heap.size w Y := by rw [hY]; exact (((HR.out.2.1.setCell (Nat.le_refl _) _).setCell (Nat.le_refl _) _).setCell (Nat.le_refl _) _).drew
      have hcq : ctrP ps = q := by rw [HR.out.2.2.1, HR.out.2.2.2.2]
      have hltY := hYb.lt
      have HY := hide (And.intro hYb (And.intro hYB hcq))
      clear hYb hYB hcq hY HU t0
      clear HR hkn hlt hk t3
      go_loopw [7, 63] (fun ov iv wx => ∃ j : Nat, j ≤ k ∧ iv = .int .i64 j ∧ Own encT 9 40 wx Y.heap.size ov j (fanN ps j) ∧ Below Y.heap.size Y wx) (fun _ iv _ => k - (intOf iv).toNat)
      case atStart => exact ⟨0, by omega, rfl, Own.nil, Below.refl _ Y⟩
      case round =>
        obtain ⟨j, hj, rfl, hown, hBx⟩ := hrel
        obtain ⟨Ao, co, rfl⟩ := hown.form
        have hszx := hBx.size
        by_cases hlj : j < k
        · obtain ⟨p, hp⟩ : ∃ p, ps[j]? = some p := ⟨_, List.getElem?_eq_getElem (by rw [← HP.out.2.2.2.2.2]; exact hlj)⟩
          obtain ⟨r, hr⟩ : ∃ r, r = (j + 1) % k := ⟨_, rfl⟩
          have hrm : r < k := by rw [hr]; exact Nat.mod_lt _ hm0
          obtain ⟨x, hx⟩ : ∃ x, ps[r]? = some x := ⟨_, List.getElem?_eq_getElem (by rw [← HP.out.2.2.2.2.2]; exact hrm)⟩
          have hBw : Below w.heap.size w wr := HY.out.2.1.trans (hBx.mono HY.out.2.1.size)
          have hsr := HP.out.1.below hBw
          obtain ⟨p0, p1, p2⟩ := hsr.pt hp
          obtain ⟨x0, x1, x2⟩ := hsr.pt hx
          have hblt : b < w.heap.size := by
            obtain ⟨b', o', ha, hb, _⟩ := HP.out.1.at hp
            cases ha
            exact hb
          have hbq := HY.out.1.below hBx hltY
          have hfs := fanN_succ ps j
          rw [nthP_get hp, HY.out.2.2, ← HP.out.2.2.2.2.2, ← hr, nthP_get hx] at hfs
          have w1 : IntKind.i64.wrap ((j : Int) + 1) = (j : Int) + 1 := IntWalk.i64_in _ (by omega)
          have t1 : ((j : Int) + 1).tmod (k : Int) = (r : Int) := by
            rw [Int.tmod_eq_emod_of_nonneg (by omega), hr]
            exact (Int.natCast_emod (j + 1) k).symm
          have wr1 : IntKind.i64.wrap (r : Int) = (r : Int) := IntWalk.i64_in _ (by omega)
          have i1 : (j : Int) < (k : Int) := by omega
          have i2 : (r : Int) < (k : Int) := by omega
          have j2 : (0 : Int) ≤ (r : Int) := by omega
          have hmn : k ≠ 0 := by omega
          obtain ⟨R, hRe⟩ : ∃ R, R = wr := ⟨_, rfl⟩
          rw [← hRe] at hown hBx hBw p0 p1 p2 x0 x1 x2 hbq hszx
          obtain ⟨X0, hX0⟩ : ∃ X0, X0 = R.alloc (.cells #[.int .i64 p.1, .int .i64 p.2.1, .int .i64 p.2.2] 38) := ⟨_, rfl⟩
          have hBX : Below R.heap.size R X0 := by rw [hX0]; exact (Below.refl _ R).alloc (Nat.le_refl _) _
          have hbp : Blk X0 R.heap.size 38 #[.int .i64 p.1, .int .i64 p.2.1, .int .i64 p.2.2] := by rw [hX0]; exact Blk.new _ _ _
          have hzX : X0.heap.size = R.heap.size + 1 := by rw [hX0]; simp
          have hbqX := hbq.below hBX hbq.lt
          have hzb : b < R.heap.size := Nat.lt_of_lt_of_le hblt hBw.size
          have hS : (X0.drew.cell? ⟨R.heap.size, 0, none⟩ = some (.int .i64 p.1) ∧ X0.drew.cell? ⟨R.heap.size, 1, none⟩ = some (.int .i64 p.2.1) ∧ X0.drew.cell? ⟨R.heap.size, 2, none⟩ = some (.int .i64 p.2.2)) ∧ (X0.drew.cell? ⟨b, o + r * 3, none⟩ = some (.int .i64 x.1) ∧ X0.drew.cell? ⟨b, o + r * 3 + 1, none⟩ = some (.int .i64 x.2.1) ∧ X0.drew.cell? ⟨b, o + r * 3 + 2, none⟩ = some (.int .i64 x.2.2)) ∧ (X0.drew.cell? ⟨w.heap.size, 0, none⟩ = some (.int .i64 q.1) ∧ X0.drew.cell? ⟨w.heap.size, 1, none⟩ = some (.int .i64 q.2.1) ∧ X0.drew.cell? ⟨w.heap.size, 2, none⟩ = some (.int .i64 q.2.2)) :=
            ⟨hbp.three, ⟨(hBX.cell (p := ⟨_, _, none⟩) hzb).trans x0, (hBX.cell (p := ⟨_, _, none⟩) hzb).trans x1, (hBX.cell (p := ⟨_, _, none⟩) hzb).trans x2⟩, hbqX.three⟩
          have hownX : Own encT 9 40 (X0.alloc (.cells (encT (p, x, q)).toArray 40)).drew Y.heap.size (.slice Ao j co) j (fanN ps j) := (show Own encT 9 40 (X0.alloc (.cells (encT (p, x, q)).toArray 40)) Y.heap.size (.slice Ao j co) j (fanN ps j) from (hown.below hBX (Nat.le_refl _)).alloc _)
          have HQ := hide (And.intro hS (And.intro hownX (And.intro hfs (And.intro (hBx.trans (hBX.mono hszx)) hX0))))
          have HW := hide (And.intro w1 (And.intro t1 wr1))
          clear hS hownX hfs hown hBx hBX hbp hbqX hBw hbq hsr hp hx hr w1 t1 wr1
          subst hRe
          go_wp2_with fail
          rw [← hX0]
          clear hX0 p0 p1 p2 x0 x1 x2
          refine wp_region_mix (fun W => (W.cell? ⟨R.heap.size, 0, none⟩ = some (.int .i64 p.1) ∧ W.cell? ⟨R.heap.size, 1, none⟩ = some (.int .i64 p.2.1) ∧ W.cell? ⟨R.heap.size, 2, none⟩ = some (.int .i64 p.2.2)) ∧ (W.cell? ⟨b, o + r * 3, none⟩ = some (.int .i64 x.1) ∧ W.cell? ⟨b, o + r * 3 + 1, none⟩ = some (.int .i64 x.2.1) ∧ W.cell? ⟨b, o + r * 3 + 2, none⟩ = some (.int .i64 x.2.2)) ∧ (W.cell? ⟨w.heap.size, 0, none⟩ = some (.int .i64 q.1) ∧ W.cell? ⟨w.heap.size, 1, none⟩ = some (.int .i64 q.2.1) ∧ W.cell? ⟨w.heap.size, 2, none⟩ = some (.int .i64 q.2.2))) [0, 1, 2, 3, 4, 5, 6, 7, 8, 9, 10] [0, 1, 2, 3, 4, 5, 6, 7, 8, 9, 10, 11, 12, 13] mixed_ok (by kernel_rfl) ?_
          refine wpMix_q (v := .slice Ao j co) rfl rfl (fun _ _ _ h => h) HQ.out.1 ⟨rfl, fun _ _ => by simp [go_sem]⟩ ?_
          refine wpMix_q (v := vP p) rfl rfl (fun _ _ _ h => h) HQ.out.1 ⟨rfl, fun _ h' => by obtain ⟨⟨a0, a1, a2⟩, _⟩ := h'; simp [go_sem, a0, a1, a2]⟩ ?_
          refine wpMix_q (v := .slice (some ⟨b, o, none⟩) k c) rfl rfl (fun _ _ _ h => h) HQ.out.1 ⟨rfl, fun _ _ => by simp [go_sem]⟩ ?_
          refine wpMix_q (v := .int .i64 j) rfl rfl (fun _ _ _ h => h) HQ.out.1 ⟨rfl, fun _ _ => by simp [go_sem]⟩ ?_
          refine wpMix_q (v := .int .i64 ((j : Int) + 1)) rfl rfl (fun _ _ _ h => h) HQ.out.1 ⟨rfl, fun _ _ => by simp [go_sem, HW.out.1]⟩ ?_
          refine wpMix_q (v := .int .i64 k) rfl rfl (fun _ _ _ h => h) HQ.out.1 ⟨rfl, fun _ _ => by simp [go_sem]⟩ ?_
          refine wpMix_q (v := .int .i64 r) rfl rfl (fun _ _ _ h => h) HQ.out.1 ⟨rfl, fun _ _ => by simp [go_sem, hmn, HW.out.2.1]⟩ ?_
          refine wpMix_q (v := .pointer (some ⟨b, o + r * 3, none⟩)) rfl rfl (fun _ _ _ h => h) HQ.out.1 ⟨rfl, fun _ _ => by simp [go_sem, i2, j2]⟩ ?_
          refine wpMix_q (v := vP x) rfl rfl (fun _ _ _ h => h) HQ.out.1 ⟨rfl, fun _ h' => by obtain ⟨_, ⟨a0, a1, a2⟩, _⟩ := h'; simp [go_sem, a0, a1, a2]⟩ ?_
          refine wpMix_q (v := vP q) rfl rfl (fun _ _ _ h => h) HQ.out.1 ⟨rfl, fun _ h' => by obtain ⟨_, _, a0, a1, a2⟩ := h'; simp [go_sem, a0, a1, a2]⟩ ?_
          refine wpMix_q (v := vT (p, x, q)) rfl rfl (fun _ _ _ h => h) HQ.out.1 ⟨rfl, fun _ _ => by simp [go_sem]⟩ ?_
          refine wpMix_n rfl rfl ?_
          go_wp2_with fail
          have hAl : Below X0.heap.size X0.drew (X0.alloc (.cells (encT (p, x, q)).toArray 40)).drew := below_dd ((Below.refl _ X0).alloc (Nat.le_refl _) _)
          have hltX : w.heap.size < X0.heap.size := by have := HY.out.2.1.size; omega
          have hSA : (((X0.alloc (.cells (encT (p, x, q)).toArray 40)).drew.cell? ⟨R.heap.size, 0, none⟩ = some (.int .i64 p.1) ∧ (X0.alloc (.cells (encT (p, x, q)).toArray 40)).drew.cell? ⟨R.heap.size, 1, none⟩ = some (.int .i64 p.2.1) ∧ (X0.alloc (.cells (encT (p, x, q)).toArray 40)).drew.cell? ⟨R.heap.size, 2, none⟩ = some (.int .i64 p.2.2)) ∧ ((X0.alloc (.cells (encT (p, x, q)).toArray 40)).drew.cell? ⟨b, o + r * 3, none⟩ = some (.int .i64 x.1) ∧ (X0.alloc (.cells (encT (p, x, q)).toArray 40)).drew.cell? ⟨b, o + r * 3 + 1, none⟩ = some (.int .i64 x.2.1) ∧ (X0.alloc (.cells (encT (p, x, q)).toArray 40)).drew.cell? ⟨b, o + r * 3 + 2, none⟩ = some (.int .i64 x.2.2)) ∧ ((X0.alloc (.cells (encT (p, x, q)).toArray 40)).drew.cell? ⟨w.heap.size, 0, none⟩ = some (.int .i64 q.1) ∧ (X0.alloc (.cells (encT (p, x, q)).toArray 40)).drew.cell? ⟨w.heap.size, 1, none⟩ = some (.int .i64 q.2.1) ∧ (X0.alloc (.cells (encT (p, x, q)).toArray 40)).drew.cell? ⟨w.heap.size, 2, none⟩ = some (.int .i64 q.2.2))) := by
            obtain ⟨⟨a0, a1, a2⟩, ⟨b0, b1, b2⟩, c0, c1, c2⟩ := HQ.out.1
            exact ⟨⟨(hAl.cell (p := ⟨_, _, none⟩) (by simp; omega)).trans a0, (hAl.cell (p := ⟨_, _, none⟩) (by simp; omega)).trans a1, (hAl.cell (p := ⟨_, _, none⟩) (by simp; omega)).trans a2⟩, ⟨(hAl.cell (p := ⟨_, _, none⟩) (by simp; omega)).trans b0, (hAl.cell (p := ⟨_, _, none⟩) (by simp; omega)).trans b1, (hAl.cell (p := ⟨_, _, none⟩) (by simp; omega)).trans b2⟩, (hAl.cell (p := ⟨_, _, none⟩) hltX).trans c0, (hAl.cell (p := ⟨_, _, none⟩) hltX).trans c1, (hAl.cell (p := ⟨_, _, none⟩) hltX).trans c2⟩
          have HSA := hide hSA
          clear hSA hAl
          refine ⟨fun _ => HSA.out, ?_⟩
          refine wpMix_tail _ [_, _] (by kernel_rfl) rfl ?_
          simp only [List.getElem_toArray, List.getElem_cons_succ, List.getElem_cons_zero]
          go_wp2_with (at_builtin; refine wpList_append1 rfl _ _ _ rfl Try.underlying29 infoT8 rfl (by omega) encT_len8 encT_one8 rfl HQ.out.2.1 (R.heap.size + 1) 1 (p, x, q) rfl (Blk.new' _ _ _ _ hzX.symm).drew (by unfold maxLen; omega) (by omega) (by simp [World.drew]; omega) ?_; intro g cap w5 hown5 hg5 hB5 hat5 hgb5 hlt5)
          go_roundw
          case rel =>
            refine ⟨j + 1, by omega, by go_num, ?_, ?_⟩
            · rw [HQ.out.2.2.1]
              exact hown5
            · exact (((HQ.out.2.2.2.1).alloc (by omega) _).drew).trans hB5
          case measure => simp [intOf]; omega
        · have hje : j = k := by omega
          subst hje
          have HE := hide (And.intro (hown.base_le HY.out.2.1.size) (HY.out.2.1.trans (hBx.mono HY.out.2.1.size)))
          clear hown hBx
          go_wp2
          go_ret
          exact ⟨_, rfl, HE.out.1, HE.out.2⟩
end Go.Proofs.Ytfljcgehhnmamaa
