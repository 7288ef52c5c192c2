/- cluster.Split. -/
import Derived.Test.YtgndbpkgehjelaaChunk
import Derived.Test.YtgndbpkgehjelaaPcs
namespace Go.Proofs.Ytgndbpkgehjelaa
open Go.RowKit Go.Sort Go.Shelf
attribute [local go_sem] Oper.semAt_some

/-- Piece number k. -/
def pieceT (m : Nat) (ts : List Tri) (k : Nat) : List Tri := (ts.drop (k * m)).take m
def splitT (most : Int) (ts : List Tri) : List (List Tri) := (List.range (nChunks (canonT ts).length (max most 1).toNat)).map (pieceT (max most 1).toNat (canonT ts))
theorem pieceT_length (m : Nat) (ts : List Tri) (k : Nat) : (pieceT m ts k).length = min m (ts.length - k * m) := by
  simp [pieceT]
/-- A piece reads as it should. -/
theorem Sl.piece {w : World} {B b o : Nat} {ts : List Tri} (m k : Nat) (h : Sl encT 9 w B (some ⟨b, o, none⟩) ts) : Sl encT 9 w B (some ⟨b, o + k * m * 9, none⟩) (pieceT m ts k) := by
  rcases h with ⟨_, h⟩ | ⟨b', o', ha, hb, hc⟩
  · cases h
  · cases ha
    refine .inr ⟨b, _, rfl, hb, fun i x hx j u hu => ?_⟩
    have hx' : ts[k * m + i]? = some x := by
      unfold pieceT at hx
      rw [List.getElem?_take] at hx
      split at hx
      · rwa [List.getElem?_drop] at hx
      · cases hx
    have := hc _ x hx' j u hu
    rw [Nat.add_mul, ← Nat.add_assoc] at this
    exact this
theorem info27 : (Try.prog.info? 27).map (fun i => (i.zero, i.size, i.bytes)) = some (some (.slice none 0 0), 1, 24) := by kernel_rfl
theorem canonT_length (ts : List Tri) : (canonT ts).length = ts.length := by simp [canonT, sortT]
set_option maxRecDepth 100000 in
set_option maxHeartbeats 2000000 in
theorem split_any (A : Option Addr) (c : Nat) (most : Int) (ts : List Tri) (w : World) (hs : Sl encT 9 w w.heap.size A ts) (hl : ts.length ≤ 4294967296) (hm : most ≤ 9223372036854775807) :
    Calls Try.prog 17 #[.slice A ts.length c, .int .i64 most] w fun e w' => ∃ v, e = .returned v ∧ Pcs encT 9 26 27 w' w.heap.size v (splitT most ts) ∧ Below w.heap.size w w' := by
  refine callsIn_wide.1 (callsIn_of_wp_marks (n := 3) Try.func17 rfl trivial ?_ rfl)
  simp only [Try.ntmps17, List.size_toArray, List.length_cons, List.length_nil, Nat.reduceAdd, Nat.reduceSub, Array.replicate_succ, Array.replicate_zero, List.push_toArray, List.append_toArray, List.nil_append, List.cons_append]
  obtain ⟨m, hmm⟩ : ∃ m : Nat, max most 1 = (m : Int) ∧ 1 ≤ m ∧ m ≤ 9223372036854775807 := ⟨(max most 1).toNat, by omega, by omega, by omega⟩
  have hs1 : Sl encT 9 (w.alloc (.cells #[.slice none 0 0] 28)) (w.alloc (.cells #[.slice none 0 0] 28)).heap.size A ts := (hs.below ((Below.refl _ w).alloc (Nat.le_refl _) _)).more (by simp)
  have HS := hide hs1
  have HM := hide hmm
  clear hs hs1 hmm
  gi_wp2_with fail
  refine ⟨trivial, callsIn_wide.2 ((canon_any A c ts _ HS.out hl).mono ?_)⟩
  rintro e w2 ⟨A2, c2, rfl, hB2, hs2, hc2, hpl⟩
  have hcl : (canonT ts).length = ts.length := canonT_length ts
  have hmax := HM.out.1
  have HP := hide (And.intro hB2 (And.intro hs2 (And.intro hc2 (And.intro hpl hcl))))
  clear hB2 hs2 hc2 hpl hcl
  gi_wp2_with fail
  refine ⟨trivial, callsIn_wide.2 ((chunk_any A2 ts.length c2 m (by have := HM.out; omega) w2).mono ?_)⟩
  rintro e w3 ⟨rfl, hw3⟩
  have HW3 := hide hw3
  have hsz3 : w3.heap.size = w2.heap.size + 2 := by rw [hw3]; simp
  have hd0 : w3.cell? ⟨w2.heap.size, 0, none⟩ = some (.slice A2 (canonT ts).length c2) := by
    rw [hw3, HP.out.2.2.2.2]
    exact ((Blk.new w2 _ _).alloc _).cell 0
  have hd1 : w3.cell? ⟨w2.heap.size + 1, 0, none⟩ = some (.int .i64 m) := by
    rw [hw3]
    have := (Blk.new (w2.alloc (.cells #[.slice A2 ts.length c2] 27)) 3 #[.int .i64 m]).cell 0
    rwa [World.size_alloc] at this
  have hB23 : Below w2.heap.size w2 w3 := by rw [hw3]; exact ((Below.refl _ w2).alloc (Nat.le_refl _) _).alloc (by simp) _
  have hbox : Boxed w3 w.heap.size 28 (.slice none 0 0) := by
    have h0 : Boxed (w.alloc (.cells #[.slice none 0 0] 28)) w.heap.size 28 (.slice none 0 0) := Boxed.new _ _ _
    have h1 : w.heap.size < (w.alloc (.cells #[.slice none 0 0] 28)).heap.size := by simp
    exact (hB23.block _ (Nat.lt_of_lt_of_le h1 HP.out.1.size)).trans ((HP.out.1.block _ h1).trans h0)
  have hsz2 : w.heap.size + 1 ≤ w2.heap.size := by have := HP.out.1.size; simp at this; exact this
  obtain ⟨b, o, hbo⟩ : ∃ b o, canonT ts = [] ∧ A2 = none ∨ A2 = some ⟨b, o, none⟩ := by
    rcases HP.out.2.1 with h | ⟨b, o, h, _⟩
    · exact ⟨0, 0, .inl h⟩
    · exact ⟨b, o, .inr h⟩
  have hm1 := HM.out.2.1
  have hm2 := HM.out.2.2
  have hst := chunk_stops 2 w2.heap.size (w2.heap.size + 1) c2 m A2 (canonT ts) w3 (by rw [HP.out.2.2.2.2]; exact hl) (by rw [HP.out.2.2.2.2]; exact HP.out.2.2.1) (by omega) hm2 (by omega) (by omega) (by omega) hd0 hd1 b o hbo
  have HD := hide (And.intro hst (And.intro hbox (And.intro hB23 hbo)))
  clear hst hd0 hd1 hw3 hbox hB23 hbo
  have HN : nChunks (canonT ts).length m ≤ 4294967296 := by
    have h1 := nChunks_le (len := (canonT ts).length) (m := m) (by omega)
    have h2 := HP.out.2.2.2.2
    omega
  gi_wp2_with fail
  refine wpIn_rangeFunc_ownG rfl (by omega) (gf := 46) (lb := #[.pointer (some ⟨w2.heap.size, 0, none⟩), .pointer (some ⟨w2.heap.size + 1, 0, none⟩)]) rfl trivial (enters_of Try.func46 (by kernel_rfl) rfl)
    HD.out.1 Kp2.trans (Kp2.putObj (by omega) (by omega)) (Below.refl _ _) (fun _ => rfl)
    (fun pre W => ∃ v, Boxed W w.heap.size 28 v ∧ Pcs encT 9 26 27 W w3.heap.size v (pre.map (pieceT m (canonT ts))) ∧ w3.grownBy W (some w.heap.size))
    (fun _ _ _ => False) ?own (fun _ _ _ _ _ hs _ _ => hs)
    ⟨_, HD.out.2.1, Pcs.nil, ⟨rfl, rfl, rfl, Nat.le_refl _, fun _ _ _ => rfl⟩⟩
    ?a1 ?assign ?body ?done ?stop
  case own =>
    rintro s X Y row ⟨v, hb, hp, hg⟩ hgr hr
    refine ⟨v, hb.kept hgr (fun e => ?_), hp.step hgr (fun r e => .inr (hr r e).2), grown_row hg hgr (fun r e => (hr r e).1)⟩
    have := (hr _ e.symm).1
    omega
  case assign =>
    intro l x W K hK
    gi_wp2
    exact hK
  case body =>
    rintro l pre x W ⟨v, hbx, hp, hg⟩ hlt
    have hbc := hbx.cell
    have hx : chunkV b o (canonT ts).length m x = .slice (some ⟨b, o + x * m * 9, none⟩) (pieceT m (canonT ts) x).length (pieceT m (canonT ts) x).length := by
      rw [pieceT_length]; rfl
    obtain ⟨P, hP⟩ : ∃ P, P = pieceT m (canonT ts) x := ⟨_, rfl⟩
    obtain ⟨PA, hPA⟩ : ∃ PA, PA = some (⟨b, o + x * m * 9, none⟩ : Addr) := ⟨_, rfl⟩
    have hsP : Sl encT 9 W W.heap.size PA P := by
      have hA2 : A2 = some ⟨b, o, none⟩ := by
        rcases HD.out.2.2.2 with ⟨h0, _⟩ | h
        · rw [h0] at hlt
          rw [List.length_nil, nChunks_zero (by omega)] at hlt
          omega
        · exact h
      have h2 := HP.out.2.1
      have hbb : w.heap.size + 1 ≤ b := by
        rcases HP.out.2.2.2.1 with ⟨_, h0⟩ | ⟨g, hg', hg1, _⟩
        · rw [hA2] at h0; cases h0
        · rw [hA2] at hg'; cases hg'
          simp at hg1; exact hg1
      rw [hA2] at h2
      have h3 := ((h2.below HD.out.2.2.1).grown hg (by omega) (by simp; omega)).more (B' := W.heap.size) (by have := hg.size; omega)
      rw [hPA, hP]
      exact h3.piece m x
    have hPl : P.length ≤ 4294967296 := by
      have := HP.out.2.2.2.2
      rw [hP, pieceT_length]; omega
    rw [← hP, ← hPA] at hx
    rw [hx]
    obtain ⟨vA, vc, rfl⟩ := hp.form
    have HX := hide (And.intro hx (And.intro hg (And.intro hsP (And.intro hp hbx))))
    have HPE := hide (And.intro hP hPA)
    have hnp : (List.map (pieceT m (canonT ts)) pre).length = pre.length := List.length_map ..
    rw [hnp] at hbc HX
    clear hx hg hsP hp hbx hP hPA
    gi_wp2_with fail
    refine wpIn_region_mix (fun W' => W'.cell? ⟨w.heap.size, 0, none⟩ = some (.slice vA pre.length vc)) [0] [0, 1, 2, 3, 4, 5] mixed_ok (by kernel_rfl) (by kernel_rfl) (by rintro ⟨_, _, h⟩; exact h) ?_
    refine wpMix_q (v := .slice vA pre.length vc) rfl rfl (fun _ _ _ h => h) hbc ⟨rfl, fun W' h' => by simp [go_sem, h']⟩ ?_
    refine wpMix_n rfl rfl ?_
    have hBW : Below W.heap.size W W.drew := below_drewN (Below.refl _ W) 1
    go_wp2_with fail
    refine ⟨fun _ => hbc, ?_⟩
    refine wpMix_n rfl rfl ?_
    go_wp2_with fail
    refine (clone_any PA P.length P W.heap.size W.drew HX.out.2.2.1 hPl).mono ?_
    rintro e w4 ⟨u4, rfl, hown4, hB4⟩
    obtain ⟨cA, cc, rfl⟩ := hown4.form
    have hbc4 : w4.cell? ⟨w.heap.size, 0, none⟩ = some (.slice vA pre.length vc) := (hB4.cell (p := ⟨w.heap.size, 0, none⟩) HX.out.2.2.2.2.lt).trans hbc
    have HO := hide (And.intro hown4 hB4)
    clear hown4 hB4
    go_wp2_with fail
    refine ⟨fun _ => hbc4, ?_⟩
    refine wpMix_n rfl rfl ?_
    go_wp2_with fail
    refine ⟨fun _ => ?_, ?_⟩
    · show (w4.alloc _).cell? _ = _
      have h4 : w.heap.size < w4.heap.size := Nat.lt_of_lt_of_le HX.out.2.2.2.2.lt HO.out.2.size
      exact (((Below.refl _ w4).alloc (Nat.le_refl _) _).cell (p := ⟨w.heap.size, 0, none⟩) h4).trans hbc4
    refine wpMix_tail _ [_, _] (by kernel_rfl) rfl ?_
    simp only [List.getElem_toArray, List.getElem_cons_succ, List.getElem_cons_zero]
    have hB04 : Below W.heap.size W w4 := hBW.trans (show Below W.heap.size W.drew w4 from HO.out.2)
    have hp4 : Pcs encT 9 26 27 (w4.alloc (.cells #[.slice cA P.length cc] 27)) w3.heap.size (.slice vA pre.length vc) (pre.map (pieceT m (canonT ts))) := (HX.out.2.2.2.1.below hB04 (Nat.le_refl _)).alloc _
    obtain ⟨ss, hss4, hpp4⟩ := hp4
    have hW3 : w3.heap.size ≤ W.heap.size := HX.out.2.1.size
    have hW4 : W.heap.size ≤ w4.heap.size := HO.out.2.size
    have hss4' := hss4
    rw [hnp] at hss4'
    have hbx4 : Boxed (w4.alloc (.cells #[.slice cA P.length cc] 27)) w.heap.size 28 (.slice vA pre.length vc) := Boxed.alloc ((hB04.block _ HX.out.2.2.2.2.lt).trans HX.out.2.2.2.2) _
    have HQ := hide (And.intro hss4 (And.intro hpp4 hB04))
    clear hss4 hpp4 hB04
    go_wp2_with (at_builtin; refine wpList_append1 rfl _ _ _ rfl Try.underlying28 info27 rfl (by omega) encS_len encS_one rfl hss4' w4.heap.size 1 (cA, P.length, cc) rfl (Blk.new _ _ _) (by unfold maxLen; omega) (by omega) (by simp; omega) ?_; intro g cap w5 hown5 hg5 hB5 hat5 hgb5 hlt5; have hbx5 := hbx4.kept hg5 (hbx4.not_row (by decide) hss4'.2); have hc5 := hbx5.cell; have hf5 := hbx5.frozen)
    have hT : Turns w3.heap.size w.heap.size W (w5.setCell ⟨w.heap.size, 0, none⟩ (.slice (some ⟨g, 0, none⟩) (pre.length + 1) cap)) :=
      (Turns.of_below HQ.out.2.2).trans ((Turns.alloc w4 _).trans ((Turns.row hg5 (fun r hr => .inr ⟨(hss4'.blk r hr).1, by obtain ⟨cs, hc⟩ := hss4'.cells r hr; exact ⟨cs, _, _, hc⟩⟩)).trans (Turns.set w5 _)))
    refine ⟨hT.keeps (by omega), ⟨hT.cell (by simp; omega) (by simp; omega) (by simp; omega), hT.cell (by simp; omega) (by simp; omega) (by simp; omega)⟩, _, hbx5.set _, ?_, hT.grown HX.out.2.1⟩
    rw [List.map_append, List.map_cons, List.map_nil, ← HPE.out.1]
    refine Pcs.step (Pcs.snoc (by decide) HQ.out.1 HQ.out.2.1 ((HO.out.1.base_le (show w3.heap.size ≤ W.drew.heap.size from hW3)).alloc _) hg5 ?_) (grownBy_setCell' w5 w.heap.size _) (fun r e => .inl (by cases e; omega))
    rw [hnp]
    exact hown5
  case done =>
    rintro D ys W hD rfl ⟨v, hbx, hp, hg⟩ hK
    have hc := hbx.cell
    obtain ⟨vA, vc, rfl⟩ := hp.form
    have HX := hide (And.intro hp (And.intro hbx hg))
    have hps : Try.prog = Try.prog := rfl
    clear hp hbx hg
    gi_wp2
    refine ⟨by simp, .inl ⟨_, _, rfl, run_takeDeferred hK, ?_⟩⟩
    refine ⟨_, results_tmp rfl _ _ _, _, rfl, ?_, ?_⟩
    · have := HX.out.1.step (grownBy_putObj' W D (.deferred none)) (fun r e => .inr (by cases e; exact ⟨_, hK, rfl⟩))
      simp only [List.length_map, List.length_range] at this
      have hh := HM.out.1
      unfold splitT
      rw [hh, Int.toNat_natCast]
      exact this.base_le (show w.heap.size ≤ w3.heap.size by omega)
    · have h1 : Below w.heap.size w (w.alloc (.cells #[.slice none 0 0] 28)) := (Below.refl _ w).alloc (Nat.le_refl _) _
      have h2 := (h1.trans (HP.out.1.mono (by simp))).trans (HD.out.2.2.1.mono (show w.heap.size ≤ w2.heap.size by omega))
      have h3 := h2.grown HX.out.2.2 (show w.heap.size ≤ w3.heap.size by omega) (fun r e => by cases e; exact Nat.le_refl _)
      exact h3.trans (belowK_b (w := w) (Nat.le_refl _) W D _ _ (by omega) hK rfl rfl)
  case stop =>
    rintro D c pre W _ _ h _
    exact h.elim
end Go.Proofs.Ytgndbpkgehjelaa
