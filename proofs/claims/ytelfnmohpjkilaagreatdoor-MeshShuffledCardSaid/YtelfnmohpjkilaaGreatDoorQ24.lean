/- Msh2 Msh3 Msh4 Msh5 Msh6 Prs. -/
import Derived.WalkKit
import Derived.WalkSpells
import Derived.WalkLawsBesides
import Derived.Laws.OwnMore
import Derived.Deep.AppendLies
import Derived.Deep.Draws
import Derived.Maps.AppendAt
import Derived.OwnWalk
import Derived.Sort.Grow
import Derived.Shelf.GgSortFunc.RowK
import Derived.RangeFuncNested
import Derived.RangeFuncBox
import Derived.Test.YtelfnmohpjkilaaGreatDoorRows
import Derived.Handy
import Derived.Maps.Own
import Derived.Maps.Views
import Derived.DeepKeys4
import Derived.DeepKeys
import Derived.Laws.StructEq
import Derived.Deep.QuietTactic
import Derived.BigQuiet
import Derived.LoopN
import Derived.Laws.EntriesVeiled
import Derived.Shelf.SlSortCmp.QuietGrown
import Derived.Deep.RegionHeld3
import Derived.Deep.DrawnRows
import Derived.Sort.Statements
import Derived.Shelf.SlSortCmp.NoneTotal
import Derived.OrdersHeld
import Derived.OrdersIn
import Derived.RangeFuncCalls
import Derived.OwnWalkIn
import Derived.Deep.CutBlock
import Derived.Deep.DeepCutAuto
import Derived.Maps.OwnSet
import Derived.Maps.RangeWalk
import Derived.IntWalk
import Derived.Deep.MidRow
import Derived.StillTailTactics
import Derived.Shelf.RegionOpen
import Derived.Deep.WholeRow
import Derived.Test.YtelfnmohpjkilaaGreatDoorQ23
namespace Go.Proofs.YtelfnmohpjkilaaGreatDoor
open Go.RowKit Go.Sort Go.WideMaps Go.Maps
set_option maxRecDepth 100000
set_option maxHeartbeats 4000000 in
theorem opp_any (e : Ed) (w : World) : Calls Tryz.prog 72 #[vE e] w fun r w' => r = .returned (vE (swapE e)) ∧ Below w.heap.size w w' := by
  go_enter Tryz.func72, Tryz.ntmps72
  go_wp2
  refine ret_at (v := vE (swapE e)) (fun W => Blk W (w.heap.size + 1) 81 (cE (swapE e))) (Blk.new' _ _ _ _ (by simp)) (fun W h => ?_) rfl ⟨rfl, ((Below.refl _ w).alloc (Nat.le_refl _) _).alloc (by simp) _⟩
  obtain ⟨a0, a1, a2, a3, a4, a5⟩ := h.six4
  simp [results, Tryz.results72, go_sem, a0, a1, a2, a3, a4, a5]
/-- The three edges, as a value. -/
abbrev cE3 (t : Tri) : Array Value := #[.int .i64 t.1.1, .int .i64 t.1.2.1, .int .i64 t.1.2.2, .int .i64 t.2.1.1, .int .i64 t.2.1.2.1, .int .i64 t.2.1.2.2, .int .i64 t.2.1.1, .int .i64 t.2.1.2.1, .int .i64 t.2.1.2.2, .int .i64 t.2.2.1, .int .i64 t.2.2.2.1, .int .i64 t.2.2.2.2, .int .i64 t.2.2.1, .int .i64 t.2.2.2.1, .int .i64 t.2.2.2.2, .int .i64 t.1.1, .int .i64 t.1.2.1, .int .i64 t.1.2.2]
abbrev vE3 (t : Tri) : Value := .agg (cE3 t)
theorem idxE30 (t : Tri) (w : World) : (Instr.index 96 (vE3 t) (.int .i64 0)).run Tryz.prog w = .ok (vE (t.1, t.2.1)) w := by kernel_rfl
theorem idxE31 (t : Tri) (w : World) : (Instr.index 96 (vE3 t) (.int .i64 1)).run Tryz.prog w = .ok (vE (t.2.1, t.2.2)) w := by kernel_rfl
theorem idxE32 (t : Tri) (w : World) : (Instr.index 96 (vE3 t) (.int .i64 2)).run Tryz.prog w = .ok (vE (t.2.2, t.1)) w := by kernel_rfl
def edK (t : Tri) (j : Nat) : Ed := if j = 0 then (t.1, t.2.1) else if j = 1 then (t.2.1, t.2.2) else (t.2.2, t.1)
theorem idxE3 (t : Tri) (j : Nat) (hj : j < 3) (w : World) : (Instr.index 96 (vE3 t) (.int .i64 j)).run Tryz.prog w = .ok (vE (edK t j)) w := by
  have : j = 0 ∨ j = 1 ∨ j = 2 := by omega
  rcases this with rfl | rfl | rfl
  · exact idxE30 t w
  · exact idxE31 t w
  · exact idxE32 t w
set_option maxHeartbeats 4000000 in
theorem edges4_let (a b c d e f g h i : Value) (ha : a.oneCell' = true) (hb : b.oneCell' = true) (hc : c.oneCell' = true) (hd : d.oneCell' = true) (he : e.oneCell' = true) (hf : f.oneCell' = true) (hg : g.oneCell' = true) (hh : h.oneCell' = true) (hi : i.oneCell' = true) (w : World) : Calls Tryz.prog 71 #[.agg #[a, b, c, d, e, f, g, h, i]] w fun r w' => r = .returned (.agg #[a, b, c, d, e, f, d, e, f, g, h, i, g, h, i, a, b, c]) ∧ Below w.heap.size w w' := by
  have hone : (#[a, b, c, d, e, f, d, e, f, g, h, i, g, h, i, a, b, c] : Array Value).all (·.oneCell') = true := by simp [ha, hb, hc, hd, he, hf, hg, hh, hi]
  have HONE := hide hone
  clear ha hb hc hd he hf hg hh hi hone
  go_enter Tryz.func71, Tryz.ntmps71
  go_upto_region 1 with fail
  obtain ⟨W1, hW1⟩ : ∃ X, X = w.alloc (.cells #[a, b, c, d, e, f, g, h, i] 58) := ⟨_, rfl⟩
  rw [← hW1]
  have hz1 : w.heap.size + 1 = W1.heap.size := by rw [hW1]; simp
  rw [hz1]
  obtain ⟨X, hX⟩ : ∃ X, X = W1.alloc (.cells #[.int .i64 0, .int .i64 0, .int .i64 0, .int .i64 0, .int .i64 0, .int .i64 0, .int .i64 0, .int .i64 0, .int .i64 0, .int .i64 0, .int .i64 0, .int .i64 0, .int .i64 0, .int .i64 0, .int .i64 0, .int .i64 0, .int .i64 0, .int .i64 0] 96) := ⟨_, rfl⟩
  have hst := run_storeAt_new (P := Tryz.prog) W1 96 #[.int .i64 0, .int .i64 0, .int .i64 0, .int .i64 0, .int .i64 0, .int .i64 0, .int .i64 0, .int .i64 0, .int .i64 0, .int .i64 0, .int .i64 0, .int .i64 0, .int .i64 0, .int .i64 0, .int .i64 0, .int .i64 0, .int .i64 0, .int .i64 0] #[a, b, c, d, e, f, d, e, f, g, h, i, g, h, i, a, b, c] (by kernel_rfl) rfl HONE.out
  rw [← hX] at hst ⊢
  obtain ⟨g0, hg0⟩ : ∃ n, n = w.heap.size := ⟨_, rfl⟩
  have hb0 : Blk X g0 58 #[a, b, c, d, e, f, g, h, i] := by rw [hX, hg0, hW1]; exact (Blk.new _ _ _).alloc _
  obtain ⟨Z, hZ⟩ : ∃ Z, Z = W1.alloc (.cells #[a, b, c, d, e, f, d, e, f, g, h, i, g, h, i, a, b, c] 96) := ⟨_, rfl⟩
  rw [← hZ] at hst
  obtain ⟨g1, hg1⟩ : ∃ n, n = W1.heap.size := ⟨_, rfl⟩
  have hb1 : Blk Z g1 96 #[a, b, c, d, e, f, d, e, f, g, h, i, g, h, i, a, b, c] := by rw [hZ, hg1]; exact Blk.new _ _ _
  have hBZ : Below w.heap.size w Z := by rw [hZ, hW1]; exact ((Below.refl _ w).alloc (Nat.le_refl _) _).alloc (by simp) _
  rw [← hg1] at hst ⊢
  have HX := hide (And.intro hb1 hBZ)
  have c0 := hb0.cell 0
  have c1 := hb0.cell 1
  have c2 := hb0.cell 2
  have c3 := hb0.cell 3
  have c4 := hb0.cell 4
  have c5 := hb0.cell 5
  have c6 := hb0.cell 6
  have c7 := hb0.cell 7
  have c8 := hb0.cell 8
  simp only [List.getElem?_toArray, List.getElem?_cons_zero, List.getElem?_cons_succ] at c0 c1 c2 c3 c4 c5 c6 c7 c8
  rw [← hg0]
  clear hX hg0 hb0 hb1 hBZ hZ hW1 hz1 hg1
  simp [go_sem] at hst
  go_wp2
  clear hst
  refine ret_at (v := .agg #[a, b, c, d, e, f, d, e, f, g, h, i, g, h, i, a, b, c]) (fun W => Blk W g1 96 #[a, b, c, d, e, f, d, e, f, g, h, i, g, h, i, a, b, c]) HX.out.1 (fun W hb => ?_) rfl ⟨rfl, HX.out.2⟩
  clear HX c0 c1 c2 c3 c4 c5 c6 c7 c8
  have c0 := hb.cell 0
  have c1 := hb.cell 1
  have c2 := hb.cell 2
  have c3 := hb.cell 3
  have c4 := hb.cell 4
  have c5 := hb.cell 5
  have c6 := hb.cell 6
  have c7 := hb.cell 7
  have c8 := hb.cell 8
  have c9 := hb.cell 9
  have c10 := hb.cell 10
  have c11 := hb.cell 11
  have c12 := hb.cell 12
  have c13 := hb.cell 13
  have c14 := hb.cell 14
  have c15 := hb.cell 15
  have c16 := hb.cell 16
  have c17 := hb.cell 17
  clear hb
  simp [results, Tryz.results71, go_sem, c0, c1, c2, c3, c4, c5, c6, c7, c8, c9, c10, c11, c12, c13, c14, c15, c16, c17]
theorem edges4_any (t : Tri) (w : World) : Calls Tryz.prog 71 #[vT t] w fun r w' => r = .returned (vE3 t) ∧ Below w.heap.size w w' := edges4_let _ _ _ _ _ _ _ _ _ rfl rfl rfl rfl rfl rfl rfl rfl rfl w
end Go.Proofs.YtelfnmohpjkilaaGreatDoor
namespace Go.Proofs.YtelfnmohpjkilaaGreatDoor
open Go.RowKit Go.Sort Go.WideMaps Go.Maps
set_option maxRecDepth 100000
theorem nodup_sub_len {α : Type} [DecidableEq α] : ∀ {ks L : List α}, ks.Nodup → (∀ p ∈ ks, p ∈ L) → ks.length ≤ L.length
  | [], _, _, _ => Nat.zero_le _
  | k :: ks, L, hn, h => by
    rw [List.nodup_cons] at hn
    have hk : k ∈ L := h k (by simp)
    have ih := nodup_sub_len (L := L.erase k) hn.2 (fun p hp => (List.mem_erase_of_ne (fun e => hn.1 (by rw [← e]; exact hp))).2 (h p (by simp [hp])))
    rw [List.length_erase_of_mem hk] at ih
    have := List.length_pos_of_mem hk
    simp only [List.length_cons]
    omega
theorem infoEd4 : (Tryz.prog.info? 81).map (fun i => (i.zero, i.size, i.bytes)) = some (some (.agg #[.int .i64 0, .int .i64 0, .int .i64 0, .int .i64 0, .int .i64 0, .int .i64 0]), 6, 48) := by kernel_rfl
set_option maxHeartbeats 8000000 in
theorem sortedP_any (mb n : Nat) (L : List Pt) (w : World) (hM : SetPM w mb n L) (hn : L.Nodup) (hf : ∀ p ∈ L, fitsP p) (hl : L.length ≤ 1073741824) :
    Calls Tryz.prog 45 #[.map (some mb), .func (.func 46) #[] #[]] w fun e w' => ∃ v, e = .returned v ∧ Own encP 3 41 w' w.heap.size v L.length (sortG ltP L) ∧ Below w.heap.size w w' := by
  obtain ⟨w1, c0, hrun, hrg, hg1, hz1, _⟩ := MapK.range_le kfP4 (t := 68) (e := 4) (show MapK Tryz.prog 41 vP fitsP w mb n (setK4 L) from hM) Tryz.underlying68
  have hB1 := below_of_grown_none hg1 (Nat.le_refl _)
  have hmb := hM.lt
  have hrg0 : ∀ p, (setK4 L p).isSome = true ↔ p ∈ L := fun p => by
    unfold setK4
    by_cases h : p ∈ L
    · rw [if_pos h]; exact ⟨fun _ => h, fun _ => rfl⟩
    · rw [if_neg h]; exact ⟨fun h' => (by cases h'), fun h' => absurd h' h⟩
  have HG := hide (And.intro hrg (And.intro hB1 (And.intro hz1 (And.intro hn (And.intro hf (And.intro hl (And.intro hmb hrg0)))))))
  clear hrg hB1 hg1 hM hn hf hl hmb hrg0
  have hz1' : w.heap.size + 1 ≤ w1.heap.size := by omega
  clear hz1
  go_enter Tryz.func45, Tryz.ntmps45
  go_wp2_with fail
  go_loopw [5] (fun v wr => ∃ (left : Pt → Bool) (c m : Nat) (ks : List Pt), RngK Tryz.prog 41 vP fitsP wr mb w.heap.size n (setK4 L) left c ∧ Own encP 3 41 wr w1.heap.size v m ks ∧ m ≤ 1073741824 ∧ ks.Nodup ∧ (∀ p ∈ ks, p ∈ L) ∧ (∀ p ∈ L, p ∈ ks ∨ left p = true) ∧ (∀ p, left p = true → p ∈ L ∧ p ∉ ks) ∧ Below w.heap.size w wr ∧ w1.heap.size ≤ wr.heap.size) (fun _ wr => wr.rangeLeft mb w.heap.size)
  case atStart => exact ⟨_, c0, 0, [], HG.out.1, Own.nil, by omega, List.nodup_nil, (fun p h => by cases h), fun p h => .inr ((HG.out.2.2.2.2.2.2.2 p).2 h), fun p h => ⟨(HG.out.2.2.2.2.2.2.2 p).1 h, by simp⟩, HG.out.2.1, Nat.le_refl _⟩
  case round =>
    obtain ⟨left, c, m, ks, hrg, hown, hm, hnd, hsub, hcov, hlf, hB, hz⟩ := hrel
    obtain ⟨V, rfl⟩ : ∃ V, V = wr := ⟨_, rfl⟩
    obtain ⟨A1, c1, rfl⟩ := hown.form
    rcases hrg.next kfP4 0 with ⟨_, hdone, hrunN⟩ | ⟨p, pv, w8, c', hok, hleft, hm8, hrunN, hr8, hlt8, hg8, hz8, hent⟩
    · have hall : ∀ p ∈ L, p ∈ ks := fun p hp => by
        rcases hcov p hp with h | h
        · exact h
        · rw [hdone p (HG.out.2.2.2.2.1 p hp)] at h; cases h
      have hperm : ks.Perm L := (List.perm_ext_iff_of_nodup hnd HG.out.2.2.2.1).2 fun p => ⟨hsub p, hall p⟩
      have hlen : m = L.length := hown.1.trans hperm.length_eq
      have hsort : sortG ltP ks = sortG ltP L := srt_uniq sto_P (sortG_srt sto_P hnd) (sortG_srt sto_P HG.out.2.2.2.1) fun p => by rw [sortG_mem, sortG_mem]; exact ⟨hsub p, hall p⟩
      by_cases hne : ks = []
      · subst hne
        have hm0 : m = 0 := hown.1
        subst hm0
        have HO := hide (And.intro hown (And.intro hsort (And.intro hlen hB)))
        clear hrg hown hm hnd hsub hcov hlf hB hz hdone hall hperm hlen hsort hrun
        go_wp2_with (go_at_call 82; refine (sort_pt_none _ _ _).mono ?_; rintro e w1 ⟨rfl, rfl⟩)
        go_ret
        refine ⟨_, rfl, ?_, HO.out.2.2.2⟩
        rw [← HO.out.2.2.1, ← HO.out.2.1, show sortG ltP ([] : List Pt) = [] by simp [sortG]]
        exact HO.out.1.lower (by omega)
      · obtain ⟨g, cap, hv, hbg, hlt⟩ := hown.at hne
        injection hv with e1 _ e3
        subst e1 e3
        have hcon := sort_pt_own g c1 m w1.heap.size ks V hown (by rw [← hown.1]; omega)
        rw [hsort, hlen] at hcon
        have HC := hide (And.intro hcon (And.intro hlen (And.intro hB (show w.heap.size ≤ g by omega))))
        clear hrg hown hnd hsub hcov hlf hB hz hdone hall hperm hsort hrun hcon hbg hne
        rw [hlen]
        clear hlen hm
        go_wp2_with (go_at_call 82; refine (unhide HC).1.mono ?_; rintro e w9 ⟨rfl, hg9, hH9⟩)
        go_ret
        exact ⟨_, rfl, hH9.lower (by omega), HC.out.2.2.1.grown hg9 HC.out.2.2.1.size (fun r hr => by injection hr with hr; have := HC.out.2.2.2; omega)⟩
    · have hpL := hlf p hleft
      have hks : ks.length + 1 ≤ L.length := by
        have h1 : (ks ++ [p]).length ≤ L.length := by
          have h2 : (ks ++ [p]).Nodup := nodup_snoc.2 ⟨hnd, hpL.2⟩
          exact nodup_sub_len h2 (fun q hq => by
            rcases List.mem_append.1 hq with h | h
            · exact hsub q h
            · rw [List.mem_singleton.1 h]; exact hpL.1)
        simpa using h1
      have hm1 : m + 1 ≤ 1073741824 := by have := hown.1; have := HG.out.2.2.2.2.2.1; omega
      have hrb : some w.heap.size ≠ (Value.slice A1 m c1).ownBlock := fun e => by have := (hown.blk _ e.symm).1; omega
      have hown8 := hown.step hg8 (fun r hr => .inl (by injection hr with hr; omega))
      have hz8' : w1.heap.size ≤ w8.heap.size := by omega
      have hB8 : Below w.heap.size w w8 := hB.grown hg8 hB.size (fun r hr => by injection hr with hr; omega)
      have hmbr : mb < w1.heap.size := by have := HG.out.2.2.2.2.2.2.1; omega
      have HO := hide (And.intro hr8 (And.intro hown8 (And.intro hnd (And.intro hsub (And.intro hcov (And.intro hlf (And.intro hpL (And.intro hB8 (And.intro hm1 hlt8)))))))))
      have HL := hide hrg.left_eq
      clear hrg hown hnd hsub hcov hlf hB hz hpL hm8 hg8 hks hown8 hB8 hleft hz8 hlt8 hrb hm hrun
      go_wp2_with (at_builtin; refine wpList_append1 rfl _ _ _ rfl Tryz.underlying34 infoPt rfl (by omega) encP_len encP_one rfl ((HO.out.2.1.alloc _).alloc _) (w8.heap.size + 1) 1 p rfl (Blk.new' _ _ _ _ (by simp)) (by unfold maxLen; have := HO.out.2.2.2.2.2.2.2.2.1; omega) (by have := HO.out.2.2.2.2.2.2.2.2.1; omega) (by simp; omega) ?_; intro g cap w9 hown9 hg9 hB9 hat9 hgb9 hlt9)
      have hg9' : ((w8.alloc (.cells (encP p).toArray 41)).alloc (.cells (encP p).toArray 41)).grownBy w9 (Value.slice A1 m c1).ownBlock := hg9
      have hrow : ∀ x, (Value.slice A1 m c1).ownBlock = some x → w1.heap.size ≤ x := fun x hx => ((HO.out.2.1).blk x hx).1
      have hr9 := (HO.out.1.below (((Below.refl w8.heap.size w8).alloc (Nat.le_refl _) (.cells (encP p).toArray 41)).alloc (by simp) (.cells (encP p).toArray 41)) (Nat.le_refl _)).kept hg9' (fun e => by have := hrow _ e.symm; omega) (fun e => by have := hrow _ e.symm; omega)
      have hB9' := (((HO.out.2.2.2.2.2.2.2.1.alloc HO.out.2.2.2.2.2.2.2.1.size (.cells (encP p).toArray 41)).alloc (by have := HO.out.2.2.2.2.2.2.2.1.size; simp; omega) (.cells (encP p).toArray 41))).grown hg9' (by have := HO.out.2.2.2.2.2.2.2.1.size; simp; omega) (fun x hx => by have := hrow x hx; omega)
      have hz9 := hB9.size
      have H9 := hide (And.intro hr9 (And.intro hown9 (And.intro hB9' (show w1.heap.size ≤ w9.heap.size by simp at hz9; omega))))
      clear hr9 hown9 hB9' hg9' hrow hz9 hg9 hB9 hat9
      go_roundw
      case rel =>
        obtain ⟨hr8, hown8, hnd, hsub, hcov, hlf, hpL, hB8, hm1, hlt8⟩ := HO.out
        refine ⟨_, c', m + 1, ks ++ [p], H9.out.1, H9.out.2.1, hm1, nodup_snoc.2 ⟨hnd, hpL.2⟩, fun q hq => ?_, fun q hq => ?_, fun q hq => ?_, H9.out.2.2.1, H9.out.2.2.2⟩
        · rcases List.mem_append.1 hq with h | h
          · exact hsub q h
          · rw [List.mem_singleton.1 h]; exact hpL.1
        · by_cases hqp : q = p
          · exact .inl (by simp [hqp])
          · rcases hcov q hq with h | h
            · exact .inl (List.mem_append.2 (.inl h))
            · exact .inr (by simp [h, hqp])
        · simp only [Bool.and_eq_true, Bool.not_eq_true', decide_eq_false_iff_not] at hq
          have h1 := hlf q hq.1
          exact ⟨h1.1, fun h => by
            rcases List.mem_append.1 h with h | h
            · exact h1.2 h
            · exact hq.2 (List.mem_singleton.1 h)⟩
      case measure =>
        rw [H9.out.1.left_eq, HL.out]
        exact HO.out.2.2.2.2.2.2.2.2.2
set_option maxHeartbeats 8000000 in
theorem sortedE_any (mb n : Nat) (L : List Ed) (w : World) (hM : SetEM w mb n L) (hn : L.Nodup) (hf : ∀ p ∈ L, fitsE p) (hl : L.length ≤ 1073741824) :
    Calls Tryz.prog 50 #[.map (some mb), .func (.func 51) #[] #[]] w fun e w' => ∃ v, e = .returned v ∧ Own encE 6 81 w' w.heap.size v L.length (sortG ltE L) ∧ Below w.heap.size w w' := by
  obtain ⟨w1, c0, hrun, hrg, hg1, hz1, _⟩ := MapK.range_le kfE4 (t := 74) (e := 4) (show MapK Tryz.prog 81 vE fitsE w mb n (setK4 L) from hM) Tryz.underlying74
  have hB1 := below_of_grown_none hg1 (Nat.le_refl _)
  have hmb := hM.lt
  have hrg0 : ∀ p, (setK4 L p).isSome = true ↔ p ∈ L := fun p => by
    unfold setK4
    by_cases h : p ∈ L
    · rw [if_pos h]; exact ⟨fun _ => h, fun _ => rfl⟩
    · rw [if_neg h]; exact ⟨fun h' => (by cases h'), fun h' => absurd h' h⟩
  have HG := hide (And.intro hrg (And.intro hB1 (And.intro hz1 (And.intro hn (And.intro hf (And.intro hl (And.intro hmb hrg0)))))))
  clear hrg hB1 hg1 hM hn hf hl hmb hrg0
  have hz1' : w.heap.size + 1 ≤ w1.heap.size := by omega
  clear hz1
  go_enter Tryz.func50, Tryz.ntmps50
  go_wp2_with fail
  go_loopw [5] (fun v wr => ∃ (left : Ed → Bool) (c m : Nat) (ks : List Ed), RngK Tryz.prog 81 vE fitsE wr mb w.heap.size n (setK4 L) left c ∧ Own encE 6 81 wr w1.heap.size v m ks ∧ m ≤ 1073741824 ∧ ks.Nodup ∧ (∀ p ∈ ks, p ∈ L) ∧ (∀ p ∈ L, p ∈ ks ∨ left p = true) ∧ (∀ p, left p = true → p ∈ L ∧ p ∉ ks) ∧ Below w.heap.size w wr ∧ w1.heap.size ≤ wr.heap.size) (fun _ wr => wr.rangeLeft mb w.heap.size)
  case atStart => exact ⟨_, c0, 0, [], HG.out.1, Own.nil, by omega, List.nodup_nil, (fun p h => by cases h), fun p h => .inr ((HG.out.2.2.2.2.2.2.2 p).2 h), fun p h => ⟨(HG.out.2.2.2.2.2.2.2 p).1 h, by simp⟩, HG.out.2.1, Nat.le_refl _⟩
  case round =>
    obtain ⟨left, c, m, ks, hrg, hown, hm, hnd, hsub, hcov, hlf, hB, hz⟩ := hrel
    obtain ⟨V, rfl⟩ : ∃ V, V = wr := ⟨_, rfl⟩
    obtain ⟨A1, c1, rfl⟩ := hown.form
    rcases hrg.next kfE4 0 with ⟨_, hdone, hrunN⟩ | ⟨p, pv, w8, c', hok, hleft, hm8, hrunN, hr8, hlt8, hg8, hz8, hent⟩
    · have hall : ∀ p ∈ L, p ∈ ks := fun p hp => by
        rcases hcov p hp with h | h
        · exact h
        · rw [hdone p (HG.out.2.2.2.2.1 p hp)] at h; cases h
      have hperm : ks.Perm L := (List.perm_ext_iff_of_nodup hnd HG.out.2.2.2.1).2 fun p => ⟨hsub p, hall p⟩
      have hlen : m = L.length := hown.1.trans hperm.length_eq
      have hsort : sortG ltE ks = sortG ltE L := srt_uniq sto_E (sortG_srt sto_E hnd) (sortG_srt sto_E HG.out.2.2.2.1) fun p => by rw [sortG_mem, sortG_mem]; exact ⟨hsub p, hall p⟩
      by_cases hne : ks = []
      · subst hne
        have hm0 : m = 0 := hown.1
        subst hm0
        have HO := hide (And.intro hown (And.intro hsort (And.intro hlen hB)))
        clear hrg hown hm hnd hsub hcov hlf hB hz hdone hall hperm hlen hsort hrun
        go_wp2_with (go_at_call 84; refine (sort_ed_none _ _ _).mono ?_; rintro e w1 ⟨rfl, rfl⟩)
        go_ret
        refine ⟨_, rfl, ?_, HO.out.2.2.2⟩
        rw [← HO.out.2.2.1, ← HO.out.2.1, show sortG ltE ([] : List Ed) = [] by simp [sortG]]
        exact HO.out.1.lower (by omega)
      · obtain ⟨g, cap, hv, hbg, hlt⟩ := hown.at hne
        injection hv with e1 _ e3
        subst e1 e3
        have hcon := sort_ed_own g c1 m w1.heap.size ks V hown (by rw [← hown.1]; omega)
        rw [hsort, hlen] at hcon
        have HC := hide (And.intro hcon (And.intro hlen (And.intro hB (show w.heap.size ≤ g by omega))))
        clear hrg hown hnd hsub hcov hlf hB hz hdone hall hperm hsort hrun hcon hbg hne
        rw [hlen]
        clear hlen hm
        go_wp2_with (go_at_call 84; refine (unhide HC).1.mono ?_; rintro e w9 ⟨rfl, hg9, hH9⟩)
        go_ret
        exact ⟨_, rfl, hH9.lower (by omega), HC.out.2.2.1.grown hg9 HC.out.2.2.1.size (fun r hr => by injection hr with hr; have := HC.out.2.2.2; omega)⟩
    · have hpL := hlf p hleft
      have hks : ks.length + 1 ≤ L.length := by
        have h1 : (ks ++ [p]).length ≤ L.length := by
          have h2 : (ks ++ [p]).Nodup := nodup_snoc.2 ⟨hnd, hpL.2⟩
          exact nodup_sub_len h2 (fun q hq => by
            rcases List.mem_append.1 hq with h | h
            · exact hsub q h
            · rw [List.mem_singleton.1 h]; exact hpL.1)
        simpa using h1
      have hm1 : m + 1 ≤ 1073741824 := by have := hown.1; have := HG.out.2.2.2.2.2.1; omega
      have hrb : some w.heap.size ≠ (Value.slice A1 m c1).ownBlock := fun e => by have := (hown.blk _ e.symm).1; omega
      have hown8 := hown.step hg8 (fun r hr => .inl (by injection hr with hr; omega))
      have hz8' : w1.heap.size ≤ w8.heap.size := by omega
      have hB8 : Below w.heap.size w w8 := hB.grown hg8 hB.size (fun r hr => by injection hr with hr; omega)
      have hmbr : mb < w1.heap.size := by have := HG.out.2.2.2.2.2.2.1; omega
      have HO := hide (And.intro hr8 (And.intro hown8 (And.intro hnd (And.intro hsub (And.intro hcov (And.intro hlf (And.intro hpL (And.intro hB8 (And.intro hm1 hlt8)))))))))
      have HL := hide hrg.left_eq
      clear hrg hown hnd hsub hcov hlf hB hz hpL hm8 hg8 hks hown8 hB8 hleft hz8 hlt8 hrb hm hrun
      go_wp2_with (at_builtin; refine wpList_append1 rfl _ _ _ rfl Tryz.underlying77 infoEd4 rfl (by omega) encE_len encE_one rfl ((HO.out.2.1.alloc _).alloc _) (w8.heap.size + 1) 1 p rfl (Blk.new' _ _ _ _ (by simp)) (by unfold maxLen; have := HO.out.2.2.2.2.2.2.2.2.1; omega) (by have := HO.out.2.2.2.2.2.2.2.2.1; omega) (by simp; omega) ?_; intro g cap w9 hown9 hg9 hB9 hat9 hgb9 hlt9)
      have hg9' : ((w8.alloc (.cells (encE p).toArray 81)).alloc (.cells (encE p).toArray 81)).grownBy w9 (Value.slice A1 m c1).ownBlock := hg9
      have hrow : ∀ x, (Value.slice A1 m c1).ownBlock = some x → w1.heap.size ≤ x := fun x hx => ((HO.out.2.1).blk x hx).1
      have hr9 := (HO.out.1.below (((Below.refl w8.heap.size w8).alloc (Nat.le_refl _) (.cells (encE p).toArray 81)).alloc (by simp) (.cells (encE p).toArray 81)) (Nat.le_refl _)).kept hg9' (fun e => by have := hrow _ e.symm; omega) (fun e => by have := hrow _ e.symm; omega)
      have hB9' := (((HO.out.2.2.2.2.2.2.2.1.alloc HO.out.2.2.2.2.2.2.2.1.size (.cells (encE p).toArray 81)).alloc (by have := HO.out.2.2.2.2.2.2.2.1.size; simp; omega) (.cells (encE p).toArray 81))).grown hg9' (by have := HO.out.2.2.2.2.2.2.2.1.size; simp; omega) (fun x hx => by have := hrow x hx; omega)
      have hz9 := hB9.size
      have H9 := hide (And.intro hr9 (And.intro hown9 (And.intro hB9' (show w1.heap.size ≤ w9.heap.size by simp at hz9; omega))))
      clear hr9 hown9 hB9' hg9' hrow hz9 hg9 hB9 hat9
      go_roundw
      case rel =>
        obtain ⟨hr8, hown8, hnd, hsub, hcov, hlf, hpL, hB8, hm1, hlt8⟩ := HO.out
        refine ⟨_, c', m + 1, ks ++ [p], H9.out.1, H9.out.2.1, hm1, nodup_snoc.2 ⟨hnd, hpL.2⟩, fun q hq => ?_, fun q hq => ?_, fun q hq => ?_, H9.out.2.2.1, H9.out.2.2.2⟩
        · rcases List.mem_append.1 hq with h | h
          · exact hsub q h
          · rw [List.mem_singleton.1 h]; exact hpL.1
        · by_cases hqp : q = p
          · exact .inl (by simp [hqp])
          · rcases hcov q hq with h | h
            · exact .inl (List.mem_append.2 (.inl h))
            · exact .inr (by simp [h, hqp])
        · simp only [Bool.and_eq_true, Bool.not_eq_true', decide_eq_false_iff_not] at hq
          have h1 := hlf q hq.1
          exact ⟨h1.1, fun h => by
            rcases List.mem_append.1 h with h | h
            · exact h1.2 h
            · exact hq.2 (List.mem_singleton.1 h)⟩
      case measure =>
        rw [H9.out.1.left_eq, HL.out]
        exact HO.out.2.2.2.2.2.2.2.2.2
end Go.Proofs.YtelfnmohpjkilaaGreatDoor
namespace Go.Proofs.YtelfnmohpjkilaaGreatDoor
open Go.RowKit Go.Sort Go.WideMaps Go.Maps
set_option maxRecDepth 100000
theorem cors_snoc (ts : List Tri) (k : Nat) (t : Tri) (h : ts[k]? = some t) : corsP (ts.take (k + 1)) = corsP (ts.take k) ++ cors3 t := by
  unfold corsP
  rw [List.take_add_one, h, Option.toList_some, List.flatMap_append, List.flatMap_singleton]
theorem cors3_succ (t : Tri) {j : Nat} (hj : j < 3) : (cors3 t).take (j + 1) = (cors3 t).take j ++ [corner t j] := by
  have hc : j = 0 ∨ j = 1 ∨ j = 2 := by omega
  rcases hc with rfl | rfl | rfl <;> rfl
theorem edges3_succ (t : Tri) {j : Nat} (hj : j < 3) : (edges3 t).take (j + 1) = (edges3 t).take j ++ [edK t j] := by
  have hc : j = 0 ∨ j = 1 ∨ j = 2 := by omega
  rcases hc with rfl | rfl | rfl <;> rfl
theorem corsP_fits {ts : List Tri} (h : ∀ t ∈ ts, fitsT t) : ∀ p ∈ corsP ts, fitsP p := by
  intro p hp
  obtain ⟨t, ht, hp⟩ := List.mem_flatMap.1 hp
  have hf := h t ht
  simp only [cors3, List.mem_cons, List.not_mem_nil, or_false] at hp
  rcases hp with rfl | rfl | rfl
  · exact hf.1
  · exact hf.2.1
  · exact hf.2.2
theorem corsP_length (ts : List Tri) : (corsP ts).length = 3 * ts.length := by
  unfold corsP
  induction ts with
  | nil => rfl
  | cons t ts ih => rw [List.flatMap_cons, List.length_append, ih, List.length_cons]; simp [cors3]; omega
theorem edK_fits {t : Tri} (h : fitsT t) (j : Nat) : fitsE (edK t j) := by
  unfold edK
  split
  · exact ⟨h.1, h.2.1⟩
  · split
    · exact ⟨h.2.1, h.2.2⟩
    · exact ⟨h.2.2, h.1⟩
set_option maxHeartbeats 8000000 in
theorem corners4_any (A : Option Addr) (c : Nat) (ts : List Tri) (w : World) (hs : Sl encT 9 w w.heap.size A ts) (hl : ts.length ≤ 100000000) (hf : ∀ t ∈ ts, fitsT t) :
    Calls Tryz.prog 19 #[.slice A ts.length c] w fun e w' => ∃ v, e = .returned v ∧ Own encP 3 41 w' w.heap.size v (cornersP ts).length (cornersP ts) ∧ Below w.heap.size w w' := by
  have hmm := @run_makeMap Tryz.prog
  obtain ⟨M, hM⟩ : ∃ n, n = ts.length := ⟨_, rfl⟩
  rw [← hM] at hl ⊢
  have HS := hide (And.intro hs (And.intro hf hM))
  clear hs hf hM
  go_enter Tryz.func19, Tryz.ntmps19
  go_upto_region 2 with fail
  obtain ⟨X, hX⟩ : ∃ X, X = w.alloc (.map #[] 0) := ⟨_, rfl⟩
  rw [← hX]
  have hBX : Below w.heap.size w X := by rw [hX]; exact (Below.refl _ w).alloc (Nat.le_refl _) _
  have hMX : SetPM X w.heap.size 0 [] := by rw [hX]; exact (MapK.made Tryz.prog 41 vP fitsP w).same fun p => by simp [setK4]
  obtain ⟨mb, hmb⟩ : ∃ b, b = w.heap.size := ⟨_, rfl⟩
  rw [← hmb] at hMX ⊢
  have HX := hide (And.intro hBX (And.intro hMX hmb))
  clear hX hBX hMX hmm hmb
  go_wp2_with fail
  go_loopw [11] (fun iv wr => ∃ (k n : Nat), k ≤ M ∧ iv = .int .i64 k ∧ SetPM wr mb n (dedup (corsP (ts.take k))) ∧ n ≤ 3 * k ∧ Below w.heap.size w wr) (fun iv _ => M - (intOf iv).toNat)
  case atStart => exact ⟨0, 0, by omega, rfl, HX.out.2.1, by omega, HX.out.1⟩
  case round =>
    obtain ⟨k, n, hk, rfl, hMr, hn, hB⟩ := hrel
    obtain ⟨V, rfl⟩ : ∃ V, V = wr := ⟨_, rfl⟩
    by_cases hlt : k < M
    · obtain ⟨t, ht⟩ : ∃ t, ts[k]? = some t := ⟨_, List.getElem?_eq_getElem (by rw [← HS.out.2.2]; exact hlt)⟩
      have i1 : (k : Int) < (M : Int) := by omega
      obtain ⟨b, o, hA, hbb, g0, g1, g2, g3, g4, g5, g6, g7, g8⟩ := (HS.out.1.below hB).tri ht
      subst hA
      have hft := HS.out.2.1 t (List.mem_of_getElem? ht)
      have hsn := cors_snoc ts k t ht
      obtain ⟨L0, hL0⟩ : ∃ L, L = corsP (ts.take k) := ⟨_, rfl⟩
      rw [← hL0] at hMr hsn
      have hzV := hB.size
      have HK := hide (And.intro hMr (And.intro hn (And.intro hB (And.intro hft hsn))))
      clear hMr hn hB hft hsn ht hL0
      go_upto_region 5 with fail
      obtain ⟨Y, hY⟩ : ∃ Y, Y = V.alloc (.cells #[.int .i64 t.1.1, .int .i64 t.1.2.1, .int .i64 t.1.2.2, .int .i64 t.2.1.1, .int .i64 t.2.1.2.1, .int .i64 t.2.1.2.2, .int .i64 t.2.2.1, .int .i64 t.2.2.2.1, .int .i64 t.2.2.2.2] 58) := ⟨_, rfl⟩
      rw [← hY]
      have hBY : Below w.heap.size w Y := by rw [hY]; exact HK.out.2.2.1.alloc hzV _
      have hMY : SetPM Y mb n (dedup (L0 ++ (cors3 t).take 0)) := by
        rw [hY, List.take_zero, List.append_nil]
        exact HK.out.1.below ((Below.refl V.heap.size V).alloc (Nat.le_refl _) _) HK.out.1.lt
      obtain ⟨a0, a1, a2, a3, a4, a5, a6, a7, a8⟩ := cells9z (w := Y) (b := V.heap.size) (ty := 58) (t := t) (by rw [hY]; exact Blk.new _ _ _)
      have HY := hide (And.intro hMY hBY)
      clear hY hBY hMY g0 g1 g2 g3 g4 g5 g6 g7 g8
      go_wp2_with fail
      go_loopw [16] (fun jv wr => ∃ (j n' : Nat), j ≤ 3 ∧ jv = .int .i64 j ∧ SetPM wr mb n' (dedup (L0 ++ (cors3 t).take j)) ∧ n' ≤ n + j ∧ Below w.heap.size w wr) (fun jv _ => 3 - (intOf jv).toNat)
      case atStart => exact ⟨0, n, by omega, rfl, HY.out.1, by omega, HY.out.2⟩
      case round =>
        obtain ⟨j, n', hj, rfl, hMr, hn', hB⟩ := hrel
        obtain ⟨R, rfl⟩ : ∃ V, V = wr := ⟨_, rfl⟩
        by_cases hj3 : j < 3
        · have i2 : (j : Int) < 3 := by omega
          have hidx := fun W => idxT t j hj3 W
          have hcs := cors3_succ t hj3
          have hfc := corner_fits HK.out.2.2.2.1 j
          obtain ⟨p, hp⟩ : ∃ p, p = corner t j := ⟨_, rfl⟩
          rw [← hp] at hcs hfc
          simp only [← hp] at hidx
          have HJ := hide (And.intro hMr (And.intro hn' (And.intro hB (And.intro hcs hfc))))
          have hzR := hB.size
          clear hMr hn' hB hcs hfc hp a0 a1 a2 a3 a4 a5 a6 a7 a8
          have hnb : n' < maxLen := by have := HJ.out.2.1; have := HK.out.2.1; unfold maxLen; omega
          go_upto_region 8 with fail
          obtain ⟨Z, hZ⟩ : ∃ Z, Z = R.alloc (.cells #[.int .i64 p.1, .int .i64 p.2.1, .int .i64 p.2.2] 41) := ⟨_, rfl⟩
          rw [← hZ]
          have hBZ : Below w.heap.size w Z := by rw [hZ]; exact HJ.out.2.2.1.alloc hzR _
          have hMZ : SetPM Z mb n' (dedup (L0 ++ (cors3 t).take j)) := by rw [hZ]; exact HJ.out.1.below ((Below.refl R.heap.size R).alloc (Nat.le_refl _) _) HJ.out.1.lt
          obtain ⟨x0, x1, x2⟩ := (show Blk Z R.heap.size 41 #[.int .i64 p.1, .int .i64 p.2.1, .int .i64 p.2.2] by rw [hZ]; exact Blk.new _ _ _).three
          have hcal := addP_any mb n' _ p Z hMZ HJ.out.2.2.2.2 hnb
          have HZ := hide (And.intro hcal hBZ)
          clear hZ hBZ hMZ hcal hidx
          go_wp2_with (go_at_call 44; refine (unhide HZ).1.mono ?_; rintro e w5 ⟨rfl, hM5, hg5⟩)
          go_roundw
          case rel =>
            refine ⟨j + 1, n' + 1, by omega, by go_num, ?_, by have := HJ.out.2.1; omega, HZ.out.2.grown hg5 HZ.out.2.size (fun r hr => by injection hr with hr; have := HX.out.2.2; omega)⟩
            rw [HJ.out.2.2.2.1, ← List.append_assoc, dedup_snoc]
            exact hM5
          case measure => simp [intOf]; omega
        · have hje : j = 3 := by omega
          subst hje
          have i2 : ¬ ((3 : Nat) : Int) < 3 := by omega
          have h3 : L0 ++ (cors3 t).take 3 = corsP (ts.take (k + 1)) := HK.out.2.2.2.2.symm
          rw [h3] at hMr
          have HE := hide (And.intro hMr (And.intro hn' hB))
          clear hMr hn' hB h3
          go_wp2
          go_roundw
          case rel => exact ⟨k + 1, n', by omega, by go_num, HE.out.1, by have := HE.out.2.1; have := HK.out.2.1; omega, HE.out.2.2⟩
          case measure => simp [intOf]; omega
    · have hke : k = M := by omega
      subst hke
      rw [List.take_of_length_le (by have := HS.out.2.2; omega)] at hMr
      have hfc : ∀ p ∈ dedup (corsP ts), fitsP p := fun p hp => corsP_fits HS.out.2.1 p (dedup_mem.1 hp)
      have hlen := corsP_length ts
      have hdl := dedup_length (corsP ts)
      have hcal := sortedP_any mb n (dedup (corsP ts)) V hMr (dedup_nodup _) hfc (by have := HS.out.2.2; omega)
      rw [corners_sort (dedup_nodup _) (fun q => dedup_mem), ← corners_len] at hcal
      have HE := hide (And.intro hcal hB)
      have hzV := hB.size
      clear hMr hn hB hfc hlen hdl hcal
      go_wp2_with (go_at_call 45; refine (unhide HE).1.mono ?_; rintro e w5 ⟨v, rfl, hO5, hB5⟩)
      go_ret
      exact ⟨v, rfl, hO5.lower hzV, HE.out.2.trans (hB5.mono hzV)⟩
end Go.Proofs.YtelfnmohpjkilaaGreatDoor
namespace Go.Proofs.YtelfnmohpjkilaaGreatDoor
open Go.RowKit Go.Sort Go.WideMaps Go.Maps
set_option maxRecDepth 100000
def ndB (es : List Ed) : Bool := decide es.Nodup
theorem ndB_iff {es : List Ed} : ndB es = true ↔ es.Nodup := decide_eq_true_iff
theorem ndB_snoc (es : List Ed) (e : Ed) : ndB (es ++ [e]) = (ndB es && !memB (dedup es) e) := by
  rw [Bool.eq_iff_iff, Bool.and_eq_true, ndB_iff, ndB_iff, nodup_snoc, Bool.not_eq_true']
  constructor
  · rintro ⟨h1, h2⟩
    exact ⟨h1, memB_off fun h => h2 (dedup_mem.1 h)⟩
  · rintro ⟨h1, h2⟩
    exact ⟨h1, fun h => by rw [memB_on (dedup_mem.2 h)] at h2; cases h2⟩
set_option maxHeartbeats 8000000 in
theorem directed4_any (A : Option Addr) (c : Nat) (ts : List Tri) (w : World) (hs : Sl encT 9 w w.heap.size A ts) (hl : ts.length ≤ 100000000) (hf : ∀ t ∈ ts, fitsT t) :
    Calls Tryz.prog 48 #[.slice A ts.length c] w fun e w' => ∃ mb n, e = .returned (.tuple #[.map (some mb), .bool (ndB (edgesP ts))]) ∧ SetEM w' mb n (dedup (edgesP ts)) ∧ n ≤ 300000000 ∧ w.heap.size ≤ mb ∧ Below w.heap.size w w' := by
  have hmm := @run_makeMap Tryz.prog
  obtain ⟨M, hM⟩ : ∃ n, n = ts.length := ⟨_, rfl⟩
  rw [← hM] at hl ⊢
  have HS := hide (And.intro hs (And.intro hf hM))
  clear hs hf hM
  go_enter Tryz.func48, Tryz.ntmps48
  go_upto_region 2 with fail
  obtain ⟨X, hX⟩ : ∃ X, X = w.alloc (.map #[] 0) := ⟨_, rfl⟩
  rw [← hX]
  have hBX : Below w.heap.size w X := by rw [hX]; exact (Below.refl _ w).alloc (Nat.le_refl _) _
  have hMX : SetEM X w.heap.size 0 [] := by rw [hX]; exact (MapK.made Tryz.prog 81 vE fitsE w).same fun p => by simp [setK4]
  obtain ⟨mb, hmb⟩ : ∃ b, b = w.heap.size := ⟨_, rfl⟩
  rw [← hmb] at hMX ⊢
  have HX := hide (And.intro hBX (And.intro hMX hmb))
  clear hX hBX hMX hmm hmb
  go_wp2_with fail
  go_loopw [5, 13] (fun fv iv wr => ∃ (k n : Nat), k ≤ M ∧ iv = .int .i64 k ∧ fv = .bool (ndB (edgesP (ts.take k))) ∧ SetEM wr mb n (dedup (edgesP (ts.take k))) ∧ n ≤ 3 * k ∧ Below w.heap.size w wr) (fun _ iv _ => M - (intOf iv).toNat)
  case atStart => exact ⟨0, 0, by omega, rfl, rfl, HX.out.2.1, by omega, HX.out.1⟩
  case round =>
    obtain ⟨k, n, hk, rfl, rfl, hMr, hn, hB⟩ := hrel
    obtain ⟨V, rfl⟩ : ∃ V, V = wr := ⟨_, rfl⟩
    obtain ⟨f0, hf0⟩ : ∃ b, b = ndB (edgesP (ts.take k)) := ⟨_, rfl⟩
    rw [← hf0]
    by_cases hlt : k < M
    · obtain ⟨t, ht⟩ : ∃ t, ts[k]? = some t := ⟨_, List.getElem?_eq_getElem (by rw [← HS.out.2.2]; exact hlt)⟩
      have i1 : (k : Int) < (M : Int) := by omega
      obtain ⟨b, o, hA, hbb, g0, g1, g2, g3, g4, g5, g6, g7, g8⟩ := (HS.out.1.below hB).tri ht
      subst hA
      have hft := HS.out.2.1 t (List.mem_of_getElem? ht)
      have hsn := edgesP_snoc ts k t ht
      obtain ⟨L0, hL0⟩ : ∃ L, L = edgesP (ts.take k) := ⟨_, rfl⟩
      rw [← hL0] at hMr hsn hf0
      have hzV := hB.size
      have HK := hide (And.intro hMr (And.intro hn (And.intro hB (And.intro hft (And.intro hsn hf0)))))
      clear hMr hn hB hft hsn ht hL0 hf0
      go_upto_region 6 with fail
      obtain ⟨Y, hY⟩ : ∃ Y, Y = V.alloc (.cells #[.int .i64 t.1.1, .int .i64 t.1.2.1, .int .i64 t.1.2.2, .int .i64 t.2.1.1, .int .i64 t.2.1.2.1, .int .i64 t.2.1.2.2, .int .i64 t.2.2.1, .int .i64 t.2.2.2.1, .int .i64 t.2.2.2.2] 58) := ⟨_, rfl⟩
      rw [← hY]
      have hBY : Below w.heap.size w Y := by rw [hY]; exact HK.out.2.2.1.alloc hzV _
      have hMY : SetEM Y mb n (dedup (L0 ++ (edges3 t).take 0)) := by
        rw [hY, List.take_zero, List.append_nil]
        exact HK.out.1.below ((Below.refl V.heap.size V).alloc (Nat.le_refl _) _) HK.out.1.lt
      obtain ⟨a0, a1, a2, a3, a4, a5, a6, a7, a8⟩ := cells9z (w := Y) (b := V.heap.size) (ty := 58) (t := t) (by rw [hY]; exact Blk.new _ _ _)
      have HY := hide (And.intro hMY hBY)
      have hzY := hBY.size
      clear hY hBY hMY g0 g1 g2 g3 g4 g5 g6 g7 g8
      go_wp2_with (go_at_call 71; refine (edges4_any t _).mono ?_; rintro e w4 ⟨rfl, hB4⟩)
      have hM4 : SetEM w4 mb n (dedup (L0 ++ (edges3 t).take 0)) := HY.out.1.below hB4 HY.out.1.lt
      have hB4' := HY.out.2.trans (hB4.mono hzY)
      have H4 := hide (And.intro hM4 hB4')
      clear hM4 hB4' hB4 a0 a1 a2 a3 a4 a5 a6 a7 a8
      go_loopw [5, 19] (fun fv jv wr => ∃ (j n' : Nat), j ≤ 3 ∧ jv = .int .i64 j ∧ fv = .bool (ndB (L0 ++ (edges3 t).take j)) ∧ SetEM wr mb n' (dedup (L0 ++ (edges3 t).take j)) ∧ n' ≤ n + j ∧ Below w.heap.size w wr) (fun _ jv _ => 3 - (intOf jv).toNat)
      case atStart => exact ⟨0, n, by omega, rfl, by rw [HK.out.2.2.2.2.2, List.take_zero, List.append_nil], H4.out.1, by omega, H4.out.2⟩
      case round =>
        obtain ⟨j, n', hj, rfl, rfl, hMr, hn', hB⟩ := hrel
        obtain ⟨R, rfl⟩ : ∃ V, V = wr := ⟨_, rfl⟩
        obtain ⟨f1, hf1⟩ : ∃ b, b = ndB (L0 ++ (edges3 t).take j) := ⟨_, rfl⟩
        rw [← hf1]
        by_cases hj3 : j < 3
        · have i2 : (j : Int) < 3 := by omega
          have hidx := fun W => idxE3 t j hj3 W
          have hcs := edges3_succ t hj3
          have hfc := edK_fits HK.out.2.2.2.1 j
          obtain ⟨p, hp⟩ : ∃ p, p = edK t j := ⟨_, rfl⟩
          rw [← hp] at hcs hfc
          simp only [← hp] at hidx
          have HJ := hide (And.intro hMr (And.intro hn' (And.intro hB (And.intro hcs (And.intro hfc hf1)))))
          have hzR := hB.size
          clear hMr hn' hB hcs hfc hp hf1
          have hnb : n' < maxLen := by have := HJ.out.2.1; have := HK.out.2.1; unfold maxLen; omega
          go_upto_region 9 with fail
          obtain ⟨Z, hZ⟩ : ∃ Z, Z = R.alloc (.cells (cE p) 81) := ⟨_, rfl⟩
          rw [← hZ]
          have hBZ : Below w.heap.size w Z := by rw [hZ]; exact HJ.out.2.2.1.alloc hzR _
          have hMZ : SetEM Z mb n' (dedup (L0 ++ (edges3 t).take j)) := by rw [hZ]; exact HJ.out.1.below ((Below.refl R.heap.size R).alloc (Nat.le_refl _) _) HJ.out.1.lt
          obtain ⟨x0, x1, x2, x3, x4, x5⟩ := (show Blk Z R.heap.size 81 (cE p) by rw [hZ]; exact Blk.new _ _ _).six4
          have hcal := addE_any mb n' _ p Z hMZ HJ.out.2.2.2.2.1 hnb
          have hsn := ndB_snoc (L0 ++ (edges3 t).take j) p
          rw [List.append_assoc, ← HJ.out.2.2.2.1, ← HJ.out.2.2.2.2.2] at hsn
          have hds := dedup_snoc (L0 ++ (edges3 t).take j) p
          rw [List.append_assoc, ← HJ.out.2.2.2.1] at hds
          obtain ⟨D, hD⟩ : ∃ D, D = dedup (L0 ++ (edges3 t).take j) := ⟨_, rfl⟩
          rw [← hD] at hcal hsn hds
          obtain ⟨mm, hmm⟩ : ∃ b, b = memB D p := ⟨_, rfl⟩
          rw [← hmm] at hcal hsn
          have HZ := hide (And.intro hcal (And.intro hBZ (And.intro hsn hds)))
          clear hZ hBZ hMZ hcal hidx hsn hds hD hmm
          cases mm with
          | false =>
            go_wp2_with (go_at_call 75; refine (unhide HZ).1.mono ?_; rintro e w5 ⟨rfl, hM5, hg5⟩)
            go_roundw
            case rel =>
              refine ⟨j + 1, n' + 1, by omega, by go_num, ?_, ?_, by have := HJ.out.2.1; omega, HZ.out.2.1.grown hg5 HZ.out.2.1.size (fun r hr => by injection hr with hr; have := HX.out.2.2; omega)⟩
              · rw [HZ.out.2.2.1]; simp
              · rw [HZ.out.2.2.2]; exact hM5
            case measure => simp [intOf]; omega
          | true =>
            go_wp2_with (go_at_call 75; refine (unhide HZ).1.mono ?_; rintro e w5 ⟨rfl, hM5, hg5⟩)
            go_roundw
            case rel =>
              refine ⟨j + 1, n' + 1, by omega, by go_num, ?_, ?_, by have := HJ.out.2.1; omega, HZ.out.2.1.grown hg5 HZ.out.2.1.size (fun r hr => by injection hr with hr; have := HX.out.2.2; omega)⟩
              · rw [HZ.out.2.2.1]; simp
              · rw [HZ.out.2.2.2]; exact hM5
            case measure => simp [intOf]; omega
        · have hje : j = 3 := by omega
          subst hje
          have i2 : ¬ ((3 : Nat) : Int) < 3 := by omega
          have h3 : L0 ++ (edges3 t).take 3 = edgesP (ts.take (k + 1)) := HK.out.2.2.2.2.1.symm
          rw [h3] at hMr hf1
          have HE := hide (And.intro hMr (And.intro hn' (And.intro hB hf1)))
          clear hMr hn' hB h3 hf1
          go_wp2
          go_roundw
          case rel => exact ⟨k + 1, n', by omega, by go_num, by rw [HE.out.2.2.2], HE.out.1, by have := HE.out.2.1; have := HK.out.2.1; omega, HE.out.2.2.1⟩
          case measure => simp [intOf]; omega
    · have hke : k = M := by omega
      subst hke
      rw [List.take_of_length_le (by have := HS.out.2.2; omega)] at hMr hf0
      have HE := hide (And.intro hMr (And.intro hB (And.intro hf0 hn)))
      clear hMr hn hB hf0
      go_wp2
      go_ret2
      exact ⟨mb, n, by rw [HE.out.2.2.1]; rfl, HE.out.1, by have := HE.out.2.2.2; omega, by rw [HX.out.2.2]; exact Nat.le_refl _, HE.out.2.1⟩
set_option maxHeartbeats 8000000 in
/-- The edges without opposite ones. -/
theorem border4_any (mb n : Nat) (L : List Ed) (w : World) (hM : SetEM w mb n L) (hn : L.Nodup) (hf : ∀ p ∈ L, fitsE p) (hl : L.length ≤ 300000000) :
    Calls Tryz.prog 49 #[.map (some mb)] w fun e w' => ∃ ob m K, e = .returned (.map (some ob)) ∧ SetEM w' ob m K ∧ K.Nodup ∧ (∀ p, p ∈ K ↔ p ∈ L ∧ swapE p ∉ L) ∧ w.heap.size ≤ ob ∧ Below w.heap.size w w' := by
  have hmm := @run_makeMap Tryz.prog
  have HS := hide (And.intro hM (And.intro hn (And.intro hf hl)))
  clear hM hn hf hl
  go_enter Tryz.func49, Tryz.ntmps49
  go_upto_region 2 with fail
  obtain ⟨X, hX⟩ : ∃ X, X = w.alloc (.map #[] 0) := ⟨_, rfl⟩
  rw [← hX]
  have hBX : Below w.heap.size w X := by rw [hX]; exact (Below.refl _ w).alloc (Nat.le_refl _) _
  have hzX : X.heap.size = w.heap.size + 1 := by rw [hX]; simp
  have hOX : SetEM X w.heap.size 0 [] := by rw [hX]; exact (MapK.made Tryz.prog 81 vE fitsE w).same fun p => by simp [setK4]
  have hMX : SetEM X mb n L := HS.out.1.below hBX HS.out.1.lt
  have hmb := HS.out.1.lt
  obtain ⟨w1, c0, hrun, hrg, hg1, hz1, _⟩ := MapK.range_le kfE4 (t := 74) (e := 4) (show MapK Tryz.prog 81 vE fitsE X mb n (setK4 L) from hMX) Tryz.underlying74
  have hB1 := below_of_grown_none hg1 (Nat.le_refl _)
  have hO1 : SetEM w1 w.heap.size 0 [] := hOX.below hB1 (by omega)
  have hrg0 : ∀ p, (setK4 L p).isSome = true ↔ p ∈ L := fun p => by
    unfold setK4
    by_cases h : p ∈ L
    · rw [if_pos h]; exact ⟨fun _ => h, fun _ => rfl⟩
    · rw [if_neg h]; exact ⟨fun h' => (by cases h'), fun h' => absurd h' h⟩
  obtain ⟨rb, hrb⟩ : ∃ b, b = X.heap.size := ⟨_, rfl⟩
  obtain ⟨ob, hob⟩ : ∃ b, b = w.heap.size := ⟨_, rfl⟩
  rw [← hrb] at hrun hrg
  rw [← hob] at hO1 ⊢
  have HX := hide (And.intro hrg (And.intro hO1 (And.intro (hBX.trans (hB1.mono hBX.size)) (And.intro hrg0 (And.intro hob (And.intro (show rb = w.heap.size + 1 by omega) hmb))))))
  clear hX hBX hOX hMX hmm hrg hg1 hB1 hO1 hrg0 hob hzX hz1 hmb hrb
  go_wp2_with fail
  go_loopw [] (fun wr => ∃ (left : Ed → Bool) (c m : Nat) (ks : List Ed), RngK Tryz.prog 81 vE fitsE wr mb rb n (setK4 L) left c ∧ SetEM wr ob m (dedup (ks.filter fun p => !memB L (swapE p))) ∧ m ≤ ks.length ∧ ks.Nodup ∧ (∀ p ∈ ks, p ∈ L) ∧ (∀ p ∈ L, p ∈ ks ∨ left p = true) ∧ (∀ p, left p = true → p ∈ L ∧ p ∉ ks) ∧ Below w.heap.size w wr) (fun wr => wr.rangeLeft mb rb)
  case atStart => exact ⟨_, c0, 0, [], HX.out.1, HX.out.2.1, by simp, List.nodup_nil, (fun p h => by cases h), fun p h => .inr ((HX.out.2.2.2.1 p).2 h), fun p h => ⟨(HX.out.2.2.2.1 p).1 h, by simp⟩, HX.out.2.2.1⟩
  case round =>
    obtain ⟨left, c, m, ks, hrg, hO, hm, hnd, hsub, hcov, hlf, hB⟩ := hrel
    obtain ⟨V, rfl⟩ : ∃ V, V = wr := ⟨_, rfl⟩
    have hHL := hrg.left_eq
    rcases hrg.next kfE4 0 with ⟨_, hdone, hrunN⟩ | ⟨p, pv, w8, c', hok, hleft, hm8, hrunN, hr8, hlt8, hg8, hz8, hent⟩
    · have hall : ∀ p ∈ L, p ∈ ks := fun p hp => by
        rcases hcov p hp with h | h
        · exact h
        · rw [hdone p (HS.out.2.2.1 p hp)] at h; cases h
      have hmem : ∀ p, p ∈ dedup (ks.filter fun p => !memB L (swapE p)) ↔ p ∈ L ∧ swapE p ∉ L := fun p => by
        rw [dedup_mem, List.mem_filter, Bool.not_eq_true']
        constructor
        · rintro ⟨h1, h2⟩
          exact ⟨hsub p h1, fun h => by rw [memB_on h] at h2; cases h2⟩
        · rintro ⟨h1, h2⟩
          exact ⟨hall p h1, memB_off h2⟩
      have HE := hide (And.intro hO (And.intro hmem hB))
      clear hrg hO hm hnd hsub hcov hlf hB hdone hall hmem hrun hHL
      go_wp2
      go_ret
      exact ⟨ob, m, _, rfl, HE.out.1, dedup_nodup _, HE.out.2.1, by rw [HX.out.2.2.2.2.1]; exact Nat.le_refl _, HE.out.2.2⟩
    · have hpL := hlf p hleft
      have hks : ks.length + 1 ≤ L.length := by
        have h1 : (ks ++ [p]).length ≤ L.length := by
          have h2 : (ks ++ [p]).Nodup := nodup_snoc.2 ⟨hnd, hpL.2⟩
          exact nodup_sub_len h2 fun q hq => by
            rcases List.mem_append.1 hq with h | h
            · exact hsub q h
            · rw [List.mem_singleton.1 h]; exact hpL.1
        simpa using h1
      have hrbw := HX.out.2.2.2.2.2.1
      have hobw := HX.out.2.2.2.2.1
      have hmbw := HX.out.2.2.2.2.2.2
      have hlf' : ∀ q, (left q && !decide (q = p)) = true → q ∈ L ∧ q ∉ ks ++ [p] := fun q hq => by
        simp only [Bool.and_eq_true, Bool.not_eq_true', decide_eq_false_iff_not] at hq
        have h1 := hlf q hq.1
        exact ⟨h1.1, fun h => by
          rcases List.mem_append.1 h with h | h
          · exact h1.2 h
          · exact hq.2 (List.mem_singleton.1 h)⟩
      have hcov' : ∀ q ∈ L, q ∈ ks ++ [p] ∨ (left q && !decide (q = p)) = true := fun q hq => by
        by_cases hqp : q = p
        · exact .inl (by simp [hqp])
        · rcases hcov q hq with h | h
          · exact .inl (List.mem_append.2 (.inl h))
          · exact .inr (by simp [h, hqp])
      have hsub' : ∀ q ∈ ks ++ [p], q ∈ L := fun q hq => by
        rcases List.mem_append.1 hq with h | h
        · exact hsub q h
        · rw [List.mem_singleton.1 h]; exact hpL.1
      have hnd' : (ks ++ [p]).Nodup := nodup_snoc.2 ⟨hnd, hpL.2⟩
      have hO8 : SetEM w8 ob m (dedup (ks.filter fun p => !memB L (swapE p))) := hO.kept hg8 (fun e => by injection e with e; omega)
      have hB8 : Below w.heap.size w w8 := hB.grown hg8 hB.size (fun r hr => by injection hr with hr; omega)
      have hfl : (ks ++ [p]).filter (fun p => !memB L (swapE p)) = ks.filter (fun p => !memB L (swapE p)) ++ if memB L (swapE p) = true then [] else [p] := by
        rw [List.filter_append]
        congr 1
        by_cases h : memB L (swapE p) = true
        · rw [if_pos h, List.filter_cons_of_neg (by simp [h])]; rfl
        · rw [if_neg h, List.filter_cons_of_pos (by simpa using h)]; rfl
      have HO := hide (And.intro hr8 (And.intro hO8 (And.intro hlf' (And.intro hcov' (And.intro hsub' (And.intro hnd' (And.intro hB8 (And.intro hfl (And.intro hm (And.intro hks (And.intro hlt8 hHL)))))))))))
      clear hrg hO hm hnd hsub hcov hlf hB hpL hm8 hg8 hks hO8 hB8 hleft hz8 hlt8 hlf' hcov' hsub' hnd' hr8 hfl hHL hrun hrbw hobw hmbw
      go_upto_region 5 with fail
      clear hrunN hent
      obtain ⟨Y, hY⟩ : ∃ Y, Y = w8.alloc (.cells (cE p) 81) := ⟨_, rfl⟩
      rw [← hY]
      have hBY : Below w8.heap.size w8 Y := by rw [hY]; exact (Below.refl _ w8).alloc (Nat.le_refl _) _
      have heY : Blk Y w8.heap.size 81 (cE p) := by rw [hY]; exact Blk.new _ _ _
      obtain ⟨pb, hpb⟩ : ∃ b, b = w8.heap.size := ⟨_, rfl⟩
      rw [← hpb] at heY ⊢
      obtain ⟨x0, x1, x2, x3, x4, x5⟩ := heY.six4
      have hrY := HO.out.1.below hBY (Nat.le_refl _)
      have hOY : SetEM Y ob m _ := HO.out.2.1.below hBY HO.out.2.1.lt
      have hzY := hBY.size
      have hz8 := HO.out.2.2.2.2.2.2.1.size
      have hBwY : Below w.heap.size w Y := HO.out.2.2.2.2.2.2.1.trans (hBY.mono hz8)
      have HY := hide (And.intro hrY (And.intro hOY (And.intro hBwY (And.intro heY hpb))))
      clear hY hBY heY hrY hOY hBwY hpb
      have hfs : fitsE (swapE p) := ⟨hok.2, hok.1⟩
      have hlk : ∀ W, Below Y.heap.size Y W → (Instr.lookup 74 (.map (some mb)) (vE (swapE p)) false).run Tryz.prog W = .ok (.bool (memB L (swapE p))) W := fun W hW => by
        have h1 : MapK Tryz.prog 81 vE fitsE W mb n (setK4 L) := (HY.out.1.below hW (Nat.le_refl _)).map
        have := h1.lookup kfE4 (t := 74) (e := 4) Tryz.underlying74 (z := .bool false) rfl (swapE p) hfs
        rw [setK4_get] at this
        exact this
      have HLK := hide hlk
      have hobn : m < maxLen := by have := HO.out.2.2.2.2.2.2.2.2.1; have := HO.out.2.2.2.2.2.2.2.2.2.1; have := HS.out.2.2.2; unfold maxLen; omega
      clear hlk hfs
      obtain ⟨mm, hmm⟩ : ∃ b, b = memB L (swapE p) := ⟨_, rfl⟩
      rw [← hmm] at HLK HO
      clear hmm
      have hne : ∀ a, (Value.map (some ob)).ownBlock = a → True := fun _ _ => trivial
      clear hne
      cases mm with
      | true =>
        go_wp2_with (go_at_call 72; refine (opp_any p _).mono ?_; rintro e w9 ⟨rfl, hB9⟩; have hl9 := HLK.out w9 hB9)
        have hr9 := HY.out.1.below hB9 (Nat.le_refl _)
        have hO9 : SetEM w9 ob m _ := HY.out.2.1.below hB9 HY.out.2.1.lt
        have hB9' := HY.out.2.2.1.trans (hB9.mono (by omega))
        have H9 := hide (And.intro hr9 (And.intro hO9 hB9'))
        clear hr9 hO9 hB9' hB9 hl9
        go_roundw
        case rel =>
          obtain ⟨_, _, hlf', hcov', hsub', hnd', _, hfl, hm, hks, hlt8, hHL⟩ := HO.out
          refine ⟨_, c', m, ks ++ [p], H9.out.1, ?_, by simp; omega, hnd', hsub', hcov', hlf', H9.out.2.2⟩
          rw [hfl]
          simp only [if_true, List.append_nil]
          exact H9.out.2.1
        case measure =>
          rw [H9.out.1.left_eq, HO.out.2.2.2.2.2.2.2.2.2.2.2]
          exact HO.out.2.2.2.2.2.2.2.2.2.2.1
      | false =>
        go_wp2_with (first
          | (go_at_call 72; refine (opp_any p _).mono ?_; rintro e w9 ⟨rfl, hB9⟩; have hl9 := HLK.out w9 hB9; obtain ⟨x0, x1, x2, x3, x4, x5⟩ := (HY.out.2.2.2.1.below hB9 HY.out.2.2.2.1.lt).six4; have hO9 : SetEM w9 ob m _ := HY.out.2.1.below hB9 HY.out.2.1.lt; have hcal := addE_any ob m _ p w9 hO9 hok hobn; have HC := hide (And.intro hcal hB9); clear hcal hB9 hO9)
          | (go_at_call 75; refine (unhide HC).1.mono ?_; rintro e w10 ⟨rfl, hM10, hg10⟩))
        have hr10 := (HY.out.1.below HC.out.2 (Nat.le_refl _)).kept hg10 (fun e => by injection e with e; have := HX.out.2.2.2.2.1; have := HX.out.2.2.2.2.2.2; omega) (fun e => by injection e with e; have := HX.out.2.2.2.2.1; have := HX.out.2.2.2.2.2.1; omega)
        have hB9 := HC.out.2
        have hB10 := (HY.out.2.2.1.trans (hB9.mono (by omega))).grown hg10 (by have := hB9.size; omega) (fun r hr => by injection hr with hr; have := HX.out.2.2.2.2.1; omega)
        have H9 := hide (And.intro hr10 (And.intro hM10 hB10))
        clear hr10 hM10 hB10 hB9 hg10
        go_roundw
        case rel =>
          obtain ⟨_, _, hlf', hcov', hsub', hnd', _, hfl, hm, hks, hlt8, hHL⟩ := HO.out
          refine ⟨_, c', m + 1, ks ++ [p], H9.out.1, ?_, by simp; omega, hnd', hsub', hcov', hlf', H9.out.2.2⟩
          rw [hfl, if_neg (by simp), dedup_snoc]
          exact H9.out.2.1
        case measure =>
          rw [H9.out.1.left_eq, HO.out.2.2.2.2.2.2.2.2.2.2.2]
          exact HO.out.2.2.2.2.2.2.2.2.2.2.1
end Go.Proofs.YtelfnmohpjkilaaGreatDoor
namespace Go.Proofs.YtelfnmohpjkilaaGreatDoor
open Go.RowKit Go.Sort Go.WideMaps Go.Maps
set_option maxRecDepth 100000
theorem borderP_le (ts : List Tri) : (borderP ts).length ≤ 3 * ts.length := by
  have h1 := nodup_sub_len ((border_both ts).1.nodup sto_E) (fun e he => dedup_mem.2 (((border_both ts).2 e).1 he).1)
  have h2 := dedup_length (edgesP ts)
  have h3 := edgesP_length ts
  omega
theorem Sl.ed4 {w : World} {B : Nat} {A : Option Addr} {es : List Ed} (h : Sl encE 6 w B A es) {i : Nat} {e : Ed} (hi : es[i]? = some e) :
    ∃ b o, A = some ⟨b, o, none⟩ ∧ b < B ∧ w.cell? ⟨b, o + i * 6, none⟩ = some (.int .i64 e.1.1) ∧ w.cell? ⟨b, o + i * 6 + 1, none⟩ = some (.int .i64 e.1.2.1) ∧ w.cell? ⟨b, o + i * 6 + 2, none⟩ = some (.int .i64 e.1.2.2) ∧ w.cell? ⟨b, o + i * 6 + 3, none⟩ = some (.int .i64 e.2.1) ∧ w.cell? ⟨b, o + i * 6 + 4, none⟩ = some (.int .i64 e.2.2.1) ∧ w.cell? ⟨b, o + i * 6 + 5, none⟩ = some (.int .i64 e.2.2.2) := by
  obtain ⟨b, o, ha, hb, hc⟩ := h.at hi
  exact ⟨b, o, ha, hb, hc 0 _ rfl, hc 1 _ rfl, hc 2 _ rfl, hc 3 _ rfl, hc 4 _ rfl, hc 5 _ rfl⟩
set_option maxHeartbeats 8000000 in
theorem Border4_any (A : Option Addr) (c : Nat) (ts : List Tri) (w : World) (hs : Sl encT 9 w w.heap.size A ts) (hl : ts.length ≤ 100000000) (hf : ∀ t ∈ ts, fitsT t) :
    Calls Tryz.prog 22 #[.slice A ts.length c] w fun e w' => ∃ v, e = .returned v ∧ Own encE 6 62 w' w.heap.size v (borderP ts).length (borderP ts) ∧ Below w.heap.size w w' := by
  have hcd := directed4_any A c ts w hs hl hf
  have hbl := borderP_le ts
  have hel := edgesP_length ts
  have hdl := dedup_length (edgesP ts)
  have hfe : ∀ p ∈ dedup (edgesP ts), fitsE p := fun p hp => edgesP_fits hf p (dedup_mem.1 hp)
  have hbo := fun W mb n (hM : SetEM W mb n (dedup (edgesP ts))) => border4_any mb n _ W hM (dedup_nodup _) hfe (by omega)
  have hsr := fun W ob m (K : List Ed) (hM : SetEM W ob m K) (hn : K.Nodup) (hm : ∀ p, p ∈ K ↔ p ∈ dedup (edgesP ts) ∧ swapE p ∉ dedup (edgesP ts)) => by
    have hfK : ∀ p ∈ K, fitsE p := fun p hp => hfe p ((hm p).1 hp).1
    have hlK := nodup_sub_len hn (fun p hp => ((hm p).1 hp).1)
    have h0 := sortedE_any ob m K W hM hn hfK (by omega)
    have hse : sortG ltE K = borderP ts := border_sort hn fun e => by rw [hm, dedup_mem, dedup_mem]
    have hle : K.length = (borderP ts).length := by rw [← hse, sortG_length]
    rw [hse, hle] at h0
    exact h0
  obtain ⟨f0, hf0⟩ : ∃ b, b = ndB (edgesP ts) := ⟨_, rfl⟩
  obtain ⟨B, hB⟩ : ∃ B, B = borderP ts := ⟨_, rfl⟩
  obtain ⟨q, hq⟩ : ∃ q, q = B.length := ⟨_, rfl⟩
  rw [← hB] at hbl hsr ⊢
  rw [← hq] at hbl hsr ⊢
  rw [← hf0] at hcd
  obtain ⟨M, hM⟩ : ∃ n, n = ts.length := ⟨_, rfl⟩
  rw [← hM] at hl hcd hbl ⊢
  have HC := hide (And.intro hcd (And.intro hbo (And.intro hsr (And.intro hq hbl))))
  clear hs hf hM hcd hbo hsr hq hbl hel hdl hfe hB hf0
  go_enter Tryz.func22, Tryz.ntmps22
  go_wp2_with (first
    | (go_at_call 48; refine (unhide HC).1.mono ?_; rintro e w1 ⟨mb, n, rfl, hM1, hn1, hmb1, hB1⟩; have H1 := hide (And.intro (HC.out.2.1 w1 mb n hM1) (And.intro hB1 hmb1)); clear hM1 hn1 hmb1 hB1)
    | (go_at_call 49; refine (unhide H1).1.mono ?_; rintro e w2 ⟨ob, m, K, rfl, hM2, hn2, hm2, hob2, hB2⟩; have H2 := hide (And.intro (HC.out.2.2.1 w2 ob m K hM2 hn2 hm2) (And.intro hob2 hB2)); clear hM2 hn2 hm2 hob2 hB2)
    | (go_at_call 50; refine (unhide H2).1.mono ?_; rintro e w3 ⟨v, rfl, hO3, hB3⟩; obtain ⟨A3, c3, hv3⟩ := hO3.form; subst hv3; have H3 := hide (And.intro hO3 hB3); clear hO3 hB3))
  obtain ⟨U, rfl⟩ : ∃ U, U = w3 := ⟨_, rfl⟩
  have hBU : Below w.heap.size w U := (H1.out.2.1.trans ((H2.out.2.2.mono H1.out.2.1.size))).trans (H3.out.2.mono (Nat.le_trans H1.out.2.1.size H2.out.2.2.size))
  have hSU : Sl encE 6 U U.heap.size A3 B := H3.out.1.sl encE_len (Nat.le_refl _)
  have HU := hide (And.intro hBU (And.intro hSU (And.intro HC.out.2.2.2.1 HC.out.2.2.2.2)))
  clear hBU hSU H1 H2 H3 HC
  have hzU := HU.out.1.size
  have hqb : q ≤ 300000000 := by have := HU.out.2.2.2; omega
  go_loopw [5, 17] (fun ov iv wr => ∃ k : Nat, k ≤ q ∧ iv = .int .i64 k ∧ Own encE 6 62 wr U.heap.size ov k (B.take k) ∧ Below U.heap.size U wr) (fun _ iv _ => q - (intOf iv).toNat)
  case atStart => exact ⟨0, by omega, rfl, Own.nil, Below.refl _ U⟩
  case round =>
    obtain ⟨k, hk, rfl, hown, hB⟩ := hrel
    obtain ⟨V, rfl⟩ : ∃ V, V = wr := ⟨_, rfl⟩
    obtain ⟨A1, c1, rfl⟩ := hown.form
    have hzV := hB.size
    by_cases hlt : k < q
    · obtain ⟨e, he⟩ : ∃ e, B[k]? = some e := ⟨_, List.getElem?_eq_getElem (by rw [← HU.out.2.2.1]; exact hlt)⟩
      have i1 : (k : Int) < (q : Int) := by omega
      obtain ⟨b, o, hA, hbb, g0, g1, g2, g3, g4, g5⟩ := (HU.out.2.1.below hB).ed4 he
      subst hA
      have htk : B.take (k + 1) = B.take k ++ [e] := by rw [List.take_add_one, he]; rfl
      have HK := hide (And.intro hown (And.intro hB (And.intro htk HU.out.2.2.2)))
      clear hown hB htk he
      go_wp2_with (at_builtin; refine wpList_append1 rfl _ _ _ rfl Tryz.underlying37 infoE rfl (by omega) encE_len encE_one rfl ((HK.out.1.alloc _).alloc _) (V.heap.size + 1) 1 e rfl (Blk.new' _ _ _ _ (by simp)) (by unfold maxLen; have := HK.out.2.2.2; omega) (by have := HK.out.2.2.2; omega) (by simp; omega) ?_; intro g cap w9 hown9 hg9 hB9 hat9 hgb9 hlt9)
      go_roundw
      case rel =>
        refine ⟨k + 1, by omega, by go_num, ?_, ((HK.out.2.1.alloc hzV _).alloc (by simp; omega) _).trans hB9⟩
        rw [HK.out.2.2.1]
        exact hown9
      case measure => simp [intOf]; omega
    · have hke : k = q := by omega
      subst hke
      rw [List.take_of_length_le (by have := HU.out.2.2.1; omega)] at hown
      have HE := hide (And.intro hown hB)
      clear hown hB
      go_wp2
      go_ret
      exact ⟨_, rfl, HE.out.1.lower hzU, HU.out.1.trans (HE.out.2.mono hzU)⟩
theorem edges_norm (es : List Ed) (e : Ed) : dedup ((es ++ [e]).map normE) = addL (dedup (es.map normE)) (normE e) := by
  rw [List.map_append, List.map_singleton, dedup_snoc]
theorem normE_fits {e : Ed} (h : fitsE e) : fitsE (normE e) := by
  rcases normE_or e with h1 | h1 <;> rw [h1]
  · exact h
  · exact ⟨h.2, h.1⟩
set_option maxHeartbeats 8000000 in
theorem euler4_any (A : Option Addr) (c : Nat) (ts : List Tri) (w : World) (hs : Sl encT 9 w w.heap.size A ts) (hl : ts.length ≤ 100000000) (hf : ∀ t ∈ ts, fitsT t) :
    Calls Tryz.prog 36 #[.slice A ts.length c] w fun e w' => e = .returned (.int .i64 (eulerP ts)) ∧ Below w.heap.size w w' := by
  have hmm := @run_makeMap Tryz.prog
  have hco := fun W (hW : Below w.heap.size w W) => corners4_any A c ts W ((hs.below hW).more hW.size) hl hf
  have hcl : (cornersP ts).length ≤ 300000000 := by have := cornersP_le ts; omega
  have hpl : (dedup ((edgesP ts).map normE)).length ≤ 300000000 := by
    have h1 := dedup_length ((edgesP ts).map normE)
    rw [List.length_map, edgesP_length] at h1
    omega
  have hpm : ∀ W mb n, SetEM W mb n (dedup ((edgesP ts).map normE)) → (Builtin.len_ #[74] 3 #[.map (some mb)]).run Tryz.prog W = .ok (.int .i64 (dedup ((edgesP ts).map normE)).length) W := fun W mb n hM => by
    refine MapK.len kfE4 (t := 74) (e := 4) hM Tryz.underlying74 _ (dedup_nodup _) (fun p hp => ?_) (fun p _ => ?_) _
    · obtain ⟨e, he, rfl⟩ := List.mem_map.1 (dedup_mem.1 hp)
      exact normE_fits (edgesP_fits hf e he)
    · unfold setK4
      by_cases h : p ∈ dedup ((edgesP ts).map normE)
      · rw [if_pos h]; exact ⟨fun _ e => (by cases e), fun _ => h⟩
      · rw [if_neg h]; exact ⟨fun h' => absurd h' h, fun h' => absurd rfl h'⟩
  obtain ⟨E, hE⟩ : ∃ E, E = eulerP ts := ⟨_, rfl⟩
  rw [← hE]
  unfold eulerP at hE
  obtain ⟨M, hM⟩ : ∃ n, n = ts.length := ⟨_, rfl⟩
  rw [← hM] at hl hco hE ⊢
  obtain ⟨P1, hP1⟩ : ∃ n, n = (cornersP ts).length := ⟨_, rfl⟩
  obtain ⟨P2, hP2⟩ : ∃ n, n = (dedup ((edgesP ts).map normE)).length := ⟨_, rfl⟩
  rw [← hP1] at hcl hE
  simp only [← hP1] at hco
  rw [← hP2] at hpl hE
  simp only [← hP2] at hpm
  have HS := hide (And.intro hs (And.intro hf (And.intro hM (And.intro hco (And.intro hpm hE)))))
  clear hs hf hM hco hpm hE hP1 hP2
  go_enter Tryz.func36, Tryz.ntmps36
  go_upto_region 2 with fail
  obtain ⟨X, hX⟩ : ∃ X, X = w.alloc (.map #[] 0) := ⟨_, rfl⟩
  rw [← hX]
  have hBX : Below w.heap.size w X := by rw [hX]; exact (Below.refl _ w).alloc (Nat.le_refl _) _
  have hMX : SetEM X w.heap.size 0 [] := by rw [hX]; exact (MapK.made Tryz.prog 81 vE fitsE w).same fun p => by simp [setK4]
  obtain ⟨mb, hmb⟩ : ∃ b, b = w.heap.size := ⟨_, rfl⟩
  rw [← hmb] at hMX ⊢
  have HX := hide (And.intro hBX (And.intro hMX hmb))
  clear hX hBX hMX hmm hmb
  go_wp2_with fail
  go_loopw [11] (fun iv wr => ∃ (k n : Nat), k ≤ M ∧ iv = .int .i64 k ∧ SetEM wr mb n (dedup ((edgesP (ts.take k)).map normE)) ∧ n ≤ 3 * k ∧ Below w.heap.size w wr) (fun iv _ => M - (intOf iv).toNat)
  case atStart => exact ⟨0, 0, by omega, rfl, HX.out.2.1, by omega, HX.out.1⟩
  case round =>
    obtain ⟨k, n, hk, rfl, hMr, hn, hB⟩ := hrel
    obtain ⟨V, rfl⟩ : ∃ V, V = wr := ⟨_, rfl⟩
    by_cases hlt : k < M
    · obtain ⟨t, ht⟩ : ∃ t, ts[k]? = some t := ⟨_, List.getElem?_eq_getElem (by rw [← HS.out.2.2.1]; exact hlt)⟩
      have i1 : (k : Int) < (M : Int) := by omega
      obtain ⟨b, o, hA, hbb, g0, g1, g2, g3, g4, g5, g6, g7, g8⟩ := (HS.out.1.below hB).tri ht
      subst hA
      have hft := HS.out.2.1 t (List.mem_of_getElem? ht)
      have hsn := edgesP_snoc ts k t ht
      obtain ⟨L0, hL0⟩ : ∃ L, L = edgesP (ts.take k) := ⟨_, rfl⟩
      rw [← hL0] at hMr hsn
      have hzV := hB.size
      have HK := hide (And.intro hMr (And.intro hn (And.intro hB (And.intro hft hsn))))
      clear hMr hn hB hft hsn ht hL0
      go_upto_region 5 with fail
      obtain ⟨Y, hY⟩ : ∃ Y, Y = V.alloc (.cells #[.int .i64 t.1.1, .int .i64 t.1.2.1, .int .i64 t.1.2.2, .int .i64 t.2.1.1, .int .i64 t.2.1.2.1, .int .i64 t.2.1.2.2, .int .i64 t.2.2.1, .int .i64 t.2.2.2.1, .int .i64 t.2.2.2.2] 58) := ⟨_, rfl⟩
      rw [← hY]
      have hBY : Below w.heap.size w Y := by rw [hY]; exact HK.out.2.2.1.alloc hzV _
      have hMY : SetEM Y mb n (dedup ((L0 ++ (edges3 t).take 0).map normE)) := by
        rw [hY, List.take_zero, List.append_nil]
        exact HK.out.1.below ((Below.refl V.heap.size V).alloc (Nat.le_refl _) _) HK.out.1.lt
      obtain ⟨a0, a1, a2, a3, a4, a5, a6, a7, a8⟩ := cells9z (w := Y) (b := V.heap.size) (ty := 58) (t := t) (by rw [hY]; exact Blk.new _ _ _)
      have HY := hide (And.intro hMY hBY)
      have hzY := hBY.size
      clear hY hBY hMY g0 g1 g2 g3 g4 g5 g6 g7 g8
      go_wp2_with (go_at_call 71; refine (edges4_any t _).mono ?_; rintro e w4 ⟨rfl, hB4⟩)
      have hM4 : SetEM w4 mb n (dedup ((L0 ++ (edges3 t).take 0).map normE)) := HY.out.1.below hB4 HY.out.1.lt
      have hB4' := HY.out.2.trans (hB4.mono hzY)
      have H4 := hide (And.intro hM4 hB4')
      clear hM4 hB4' hB4 a0 a1 a2 a3 a4 a5 a6 a7 a8
      go_loopw [17] (fun jv wr => ∃ (j n' : Nat), j ≤ 3 ∧ jv = .int .i64 j ∧ SetEM wr mb n' (dedup ((L0 ++ (edges3 t).take j).map normE)) ∧ n' ≤ n + j ∧ Below w.heap.size w wr) (fun jv _ => 3 - (intOf jv).toNat)
      case atStart => exact ⟨0, n, by omega, rfl, H4.out.1, by omega, H4.out.2⟩
      case round =>
        obtain ⟨j, n', hj, rfl, hMr, hn', hB⟩ := hrel
        obtain ⟨R, rfl⟩ : ∃ V, V = wr := ⟨_, rfl⟩
        by_cases hj3 : j < 3
        · have i2 : (j : Int) < 3 := by omega
          have hidx := fun W => idxE3 t j hj3 W
          have hcs := edges3_succ t hj3
          have hfc := edK_fits HK.out.2.2.2.1 j
          obtain ⟨p, hp⟩ : ∃ p, p = edK t j := ⟨_, rfl⟩
          rw [← hp] at hcs hfc
          simp only [← hp] at hidx
          have hds := edges_norm (L0 ++ (edges3 t).take j) p
          rw [List.append_assoc, ← hcs] at hds
          have HJ := hide (And.intro hMr (And.intro hn' (And.intro hB (And.intro hds hfc))))
          have hzR := hB.size
          clear hMr hn' hB hcs hfc hp hds
          have hnb : n' < maxLen := by have := HJ.out.2.1; have := HK.out.2.1; unfold maxLen; omega
          go_upto_region 8 with fail
          obtain ⟨Z, hZ⟩ : ∃ Z, Z = R.alloc (.cells (cE p) 81) := ⟨_, rfl⟩
          rw [← hZ]
          have hBZ : Below R.heap.size R Z := by rw [hZ]; exact (Below.refl _ R).alloc (Nat.le_refl _) _
          have hbZ : Blk Z R.heap.size 81 (cE p) := by rw [hZ]; exact Blk.new _ _ _
          obtain ⟨x0, x1, x2, x3, x4, x5⟩ := hbZ.six4
          have hMZ := HJ.out.1.below hBZ HJ.out.1.lt
          obtain ⟨pb, hpb⟩ : ∃ b, b = R.heap.size := ⟨_, rfl⟩
          rw [← hpb] at hbZ x0 x1 x2 x3 x4 x5 ⊢
          have HZ := hide (And.intro hMZ (And.intro (HJ.out.2.2.1.trans (hBZ.mono hzR)) (And.intro hbZ hpb)))
          have hzZ := hBZ.size
          clear hZ hBZ hMZ hbZ hidx hpb
          by_cases hlp : ltP p.2 p.1 = true
          · have hno : normE p = swapE p := by unfold normE; rw [if_pos hlp]
            have hcl := fun W => less_any p.2 p.1 W
            simp only [hlp] at hcl
            have HP := hide (And.intro hno hcl)
            clear hno hcl hlp
            go_upto_region 10 with (first
              | (go_at_call 74; refine (HP.out.2 _).mono ?_; rintro e w5 ⟨rfl, hL5⟩; have hB5 := hL5.below; have hb5 := HZ.out.2.2.1.below hB5 HZ.out.2.2.1.lt; obtain ⟨x0, x1, x2, x3, x4, x5⟩ := hb5.six4; have H5 := hide (And.intro hb5 hB5); clear hb5 hB5 hL5)
              | (go_at_call 72; refine (opp_any p _).mono ?_; rintro e w6 ⟨rfl, hB6⟩; have hb6 := H5.out.1.below hB6 H5.out.1.lt; obtain ⟨y0, y1, y2, y3, y4, y5⟩ := hb6.six4; have f0 := hb6.frozen 0; have f1 := hb6.frozen 1; have f2 := hb6.frozen 2; have f3 := hb6.frozen 3; have f4 := hb6.frozen 4; have f5 := hb6.frozen 5; have H6 := hide (And.intro hb6 hB6); clear hb6 hB6))
            obtain ⟨G, hG⟩ : ∃ G, G = (((((w6.setCell ⟨pb, 0, none⟩ (.int .i64 (swapE p).1.1)).setCell ⟨pb, 1, none⟩ (.int .i64 (swapE p).1.2.1)).setCell ⟨pb, 2, none⟩ (.int .i64 (swapE p).1.2.2)).setCell ⟨pb, 3, none⟩ (.int .i64 (swapE p).2.1)).setCell ⟨pb, 4, none⟩ (.int .i64 (swapE p).2.2.1)).setCell ⟨pb, 5, none⟩ (.int .i64 (swapE p).2.2.2) := ⟨_, rfl⟩
            rw [← hG]
            have hBG : Below pb Z G := by
              rw [hG]
              have h0 : Below pb Z w6 := (H5.out.2.mono (by have := HZ.out.2.2.2; omega)).trans (H6.out.2.mono (by have := H5.out.2.size; have := HZ.out.2.2.2; omega))
              exact (((((h0.setCell (Nat.le_refl _) _).setCell (Nat.le_refl _) _).setCell (Nat.le_refl _) _).setCell (Nat.le_refl _) _).setCell (Nat.le_refl _) _).setCell (Nat.le_refl _) _
            have hbG : Blk G pb 81 (cE (swapE p)) := by
              rw [hG]
              exact (((((H6.out.1.set_ 0 _).set_ 1 _).set_ 2 _).set_ 3 _).set_ 4 _).set_ 5 _
            clear y0 y1 y2 y3 y4 y5 f0 f1 f2 f3 f4 f5 x0 x1 x2 x3 x4 x5
            obtain ⟨x0, x1, x2, x3, x4, x5⟩ := hbG.six4

            have hlt6 := HZ.out.1.lt
            have hmbp : mb < pb := by have := HJ.out.1.lt; have := HZ.out.2.2.2; omega
            have hMG := HZ.out.1.below hBG hmbp
            have hcal := addE_any mb n' _ (normE p) G hMG (normE_fits HJ.out.2.2.2.2) hnb
            have hBw : Below w.heap.size w G := HZ.out.2.1.trans (hBG.mono (by have := HZ.out.2.2.2; omega))
            rw [HP.out.1] at hcal
            have HG := hide (And.intro hcal hBw)
            clear hcal hBw hMG hBG hbG hG
            go_wp2_with (go_at_call 75; refine (unhide HG).1.mono ?_; rintro e w9 ⟨rfl, hM9, hg9⟩)
            go_roundw
            case rel =>
              refine ⟨j + 1, n' + 1, by omega, by go_num, ?_, by have := HJ.out.2.1; omega, HG.out.2.grown hg9 HG.out.2.size (fun r hr => by injection hr with hr; have := HX.out.2.2; omega)⟩
              rw [HJ.out.2.2.2.1, HP.out.1]
              exact hM9
            case measure => simp [intOf]; omega
          · have hno : normE p = p := by unfold normE; rw [if_neg hlp]
            have hlf : ltP p.2 p.1 = false := by simpa using hlp
            have hcl := fun W => less_any p.2 p.1 W
            simp only [hlf] at hcl
            have HP := hide (And.intro hno hcl)
            clear hno hcl hlp hlf
            go_upto_region 10 with (go_at_call 74; refine (HP.out.2 _).mono ?_; rintro e w5 ⟨rfl, hL5⟩; have hB5 := hL5.below; have hb5 := HZ.out.2.2.1.below hB5 HZ.out.2.2.1.lt; have H5 := hide (And.intro hb5 hB5); clear hb5 hB5 hL5)
            obtain ⟨G, hG⟩ : ∃ G, G = w5 := ⟨_, rfl⟩
            rw [← hG]
            have hBG : Below pb Z G := by rw [hG]; exact H5.out.2.mono (by have := HZ.out.2.2.2; omega)
            have hbG : Blk G pb 81 (cE p) := by rw [hG]; exact H5.out.1
            clear x0 x1 x2 x3 x4 x5
            obtain ⟨x0, x1, x2, x3, x4, x5⟩ := hbG.six4

            have hlt6 := HZ.out.1.lt
            have hmbp : mb < pb := by have := HJ.out.1.lt; have := HZ.out.2.2.2; omega
            have hMG := HZ.out.1.below hBG hmbp
            have hcal := addE_any mb n' _ (normE p) G hMG (normE_fits HJ.out.2.2.2.2) hnb
            have hBw : Below w.heap.size w G := HZ.out.2.1.trans (hBG.mono (by have := HZ.out.2.2.2; omega))
            rw [HP.out.1] at hcal
            have HG := hide (And.intro hcal hBw)
            clear hcal hBw hMG hBG hbG hG
            go_wp2_with (go_at_call 75; refine (unhide HG).1.mono ?_; rintro e w9 ⟨rfl, hM9, hg9⟩)
            go_roundw
            case rel =>
              refine ⟨j + 1, n' + 1, by omega, by go_num, ?_, by have := HJ.out.2.1; omega, HG.out.2.grown hg9 HG.out.2.size (fun r hr => by injection hr with hr; have := HX.out.2.2; omega)⟩
              rw [HJ.out.2.2.2.1, HP.out.1]
              exact hM9
            case measure => simp [intOf]; omega
        · have hje : j = 3 := by omega
          subst hje
          have i2 : ¬ ((3 : Nat) : Int) < 3 := by omega
          have h3 : L0 ++ (edges3 t).take 3 = edgesP (ts.take (k + 1)) := HK.out.2.2.2.2.symm
          rw [h3] at hMr
          have HE := hide (And.intro hMr (And.intro hn' hB))
          clear hMr hn' hB h3
          go_wp2
          go_roundw
          case rel => exact ⟨k + 1, n', by omega, by go_num, HE.out.1, by have := HE.out.2.1; have := HK.out.2.1; omega, HE.out.2.2⟩
          case measure => simp [intOf]; omega
    · have hke : k = M := by omega
      subst hke
      rw [List.take_of_length_le (by have := HS.out.2.2.1; omega)] at hMr
      have hcal := HS.out.2.2.2.1 V hB
      have HE := hide (And.intro hcal (And.intro hMr hB))
      have hzV := hB.size
      clear hMr hB hcal hn
      go_wp2_with (go_at_call 19; refine (unhide HE).1.mono ?_; rintro e w5 ⟨v, rfl, hO5, hB5⟩; obtain ⟨A5, c5, hv5⟩ := hO5.form; subst hv5; have hl5 := HS.out.2.2.2.2.1 w5 mb n (HE.out.2.1.below hB5 HE.out.2.1.lt); have H5 := hide (HE.out.2.2.trans (hB5.mono hzV)); clear hO5 hB5)
      go_ret
      refine ⟨?_, H5.out⟩
      have := HS.out.2.2.2.2.2
      rw [this]
      rfl
end Go.Proofs.YtelfnmohpjkilaaGreatDoor
namespace Go.Proofs.YtelfnmohpjkilaaGreatDoor
open Go.RowKit
set_option maxHeartbeats 2000000 in
theorem prs4_any (A B : Option Addr) (c d : Nat) (xs ys : List Ed) (w : World) (n1 n2 : Nat) (hx : Sl encE 6 w n1 A xs) (hy : Sl encE 6 w n2 B ys) (hlx : xs.length ≤ 4294967296) (_hly : ys.length ≤ 4294967296) (hfx : ∀ t ∈ xs, fitsE t) (hfy : ∀ t ∈ ys, fitsE t) :
    Calls Tryz.prog 21 #[.slice A xs.length c, .slice B ys.length d] w fun e w' => e = .returned (.bool (decide (xs = ys))) ∧ ∃ k, w' = w.drewN k := by
  go_enter Tryz.func21, Tryz.ntmps21
  by_cases hl : xs.length = ys.length
  · rw [← hl]
    go_wp2
    go_loopw [5] (fun i wr => ∃ k n : Nat, k ≤ xs.length ∧ i = .int .i64 k ∧ xs.take k = ys.take k ∧ wr = w.drewN n) (fun i _ => xs.length - (intOf i).toNat)
    case atStart => exact ⟨0, 0, Nat.zero_le _, rfl, rfl, rfl⟩
    case round =>
      obtain ⟨k, n, hk, rfl, htk, rfl⟩ := hrel
      by_cases hlt : k < xs.length
      · obtain ⟨u, hu⟩ : ∃ u, xs[k]? = some u := ⟨_, List.getElem?_eq_getElem hlt⟩
        obtain ⟨v, hv⟩ : ∃ v, ys[k]? = some v := ⟨_, List.getElem?_eq_getElem (by omega)⟩
        obtain ⟨bA, oA, rfl, _, g0, g1, g2, g3, g4, g5⟩ := hx.ed4 hu
        obtain ⟨bB, oB, rfl, _, k0, k1, k2, k3, k4, k5⟩ := hy.ed4 hv
        have hq := eqE u v (hfx u (List.mem_of_getElem? hu)) (hfy v (List.mem_of_getElem? hv))
        have H := hide (And.intro hx (And.intro hy (And.intro hu (And.intro hv (And.intro htk hl)))))
        have i1 : (k : Int) < (xs.length : Int) := by omega
        clear hx hy hu hv htk hl
        have htk1 := take_succ_eq H.out.2.2.1 H.out.2.2.2.1 H.out.2.2.2.2.1
        have HT := hide htk1
        clear htk1
        by_cases huv : u = v
        · have hd : decide (u = v) = true := by simp [huv]
          rw [hd] at hq
          have HU := hide huv
          clear huv hd
          go_wp2_with fail
          go_quiet (fail)
          go_wp2
          go_roundw
          case rel => exact ⟨k + 1, n + nq, by omega, by go_num, HT.out.2 HU.out, rfl⟩
          case measure => simp [intOf]; omega
        · have hd : decide (u = v) = false := by simp [huv]
          rw [hd] at hq
          have HU := hide huv
          clear huv hd
          go_wp2_with fail
          go_quiet (fail)
          go_wp2
          go_ret
          refine ⟨?_, n + nq, by simp [World.drewN, Nat.add_assoc]⟩
          have : ¬ xs = ys := fun e => HU.out (HT.out.1 (by rw [e]))
          simp [this]
      · have hke : k = xs.length := by omega
        have hxy : xs = ys := by
          rw [hke, List.take_length, hl, List.take_length] at htk
          exact htk
        have HX := hide hxy
        clear hxy htk hx hy
        go_wp2
        go_ret
        exact ⟨by simp [HX.out], n, rfl⟩
  · have hne : ¬ ((xs.length : Int) = (ys.length : Int)) := by omega
    have hne2 : ¬ xs = ys := fun e => hl (by rw [e])
    have HN := hide hne2
    clear hx hy hne2
    go_wp2
    go_ret
    exact ⟨by simp [HN.out], 0, rfl⟩
end Go.Proofs.YtelfnmohpjkilaaGreatDoor
