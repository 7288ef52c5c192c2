/- Joined texts: Gat2 Finest Gat2I Coll SetLaw. -/
import Derived.RangeFuncNested
import Derived.RangeFuncBound
import Derived.RangeFuncCalls
import Derived.RangeFuncLeaves
import Derived.RangeFuncBox
import Derived.Shelf.Abstract
import Derived.Shelf.RegionOpen
import Derived.OwnWalkIn
import Derived.TacticsInMore
import Derived.LoopNIn
import Derived.LoopIn
import Derived.Maps.OwnIn
import Derived.Test.YtgndbpkgehjelaaCB7
import Derived.Test.YtgndbpkgehjelaaCB24
import Derived.Test.YtgndbpkgehjelaaCB25
/- The iterator that gathered makes, at triangles. -/
namespace Go.Proofs.Ytgndbpkgehjelaa
open Go.RowKit Go.Sort Go.Shelf
attribute [local go_sem] Oper.semAt_some
/-- What a round must keep: three blocks. -/
def Kp3 (a b c : Nat) (W W' : World) : Prop := W.heap.size ≤ W'.heap.size ∧ W'.heap[a]? = W.heap[a]? ∧ W'.heap[b]? = W.heap[b]? ∧ W'.heap[c]? = W.heap[c]?
theorem Kp3.trans {a b c : Nat} {A B C : World} (h : Kp3 a b c A B) (k : Kp3 a b c B C) : Kp3 a b c A C := ⟨Nat.le_trans h.1 k.1, k.2.1.trans h.2.1, k.2.2.1.trans h.2.2.1, k.2.2.2.trans h.2.2.2⟩
theorem Kp3.putObj {a b c n : Nat} (ha : a < n) (hb : b < n) (hc : c < n) (W : World) (l : Nat) (o o' : Obj) (hl : n ≤ l) (h : W.heap[l]? = some o) (_ : o.isCells = false) (_ : o.isWalk = false) : Kp3 a b c W (W.putObj l o') := by
  have hb' : Below n W (W.putObj l o') := (Below.refl n W).grown (grownBy_putObj' W l o') (by have := (Array.getElem?_eq_some_iff.1 h).1; omega) (fun k e => by cases e; omega)
  exact ⟨hb'.size, hb'.block a ha, hb'.block b hb, hb'.block c hc⟩
theorem cell_of_heap {W W' : World} {b o : Nat} (h : W'.heap[b]? = W.heap[b]?) : W'.cell? ⟨b, o, none⟩ = W.cell? ⟨b, o, none⟩ := by
  unfold World.cell?
  rw [h]
theorem Sl.heap {α : Type} {enc : α → List Value} {k B g o : Nat} {W W' : World} {xs : List α} (h : Sl enc k W B (some ⟨g, o, none⟩) xs) (he : W'.heap[g]? = W.heap[g]?) : Sl enc k W' B (some ⟨g, o, none⟩) xs := by
  rcases h with ⟨_, h⟩ | ⟨b', o', ha, hb, hc⟩
  · cases h
  · cases ha
    exact .inr ⟨g, o, rfl, hb, fun i x hx j u hu => (cell_of_heap he).trans (hc i x hx j u hu)⟩
theorem MapP.heap {W W' : World} {b n : Nat} {m : Pt → Value} (h : MapP W b n m) (he : W'.heap[b]? = W.heap[b]?) : MapP W' b n m := by
  obtain ⟨D, ⟨es, clock, hb, hF, hn, hD⟩, h2⟩ := h
  exact ⟨D, ⟨es, clock, he.trans hb, hF, hn, hD⟩, h2⟩
set_option maxRecDepth 100000 in
set_option maxHeartbeats 2000000 in
theorem gat2_in (n l q5 q6 q0 g c N : Nat) (ks : List Pt) (m : Pt → Value) (hn : 1 ≤ n) (hkf : ∀ p ∈ ks, fitsP p) (hl : ks.length ≤ 4294967296) (J Jx : List Pt → World → Prop)
    (hA : ∀ s W o, J s W → J s (W.alloc o))
    (hY : ∀ pre x W, J pre W → pre.length < ks.length → x ∈ ks → YieldAt Fence.wide (n - 1) Try.prog l #[m x] W fun e W' =>
      (e = .returned (.bool true) ∧ J (pre ++ [x]) W' ∧ Kp3 q5 g q0 W W') ∨ (e = .returned (.bool false) ∧ Jx (pre ++ [x]) W'))
    (W : World) (h5 : W.cell? ⟨q5, 0, none⟩ = some (.map (some q0))) (h6 : W.cell? ⟨q6, 0, none⟩ = some (.slice (some ⟨g, 0, none⟩) ks.length c)) (hs : Sl encP 3 W (g + 1) (some ⟨g, 0, none⟩) ks) (hm : MapP W q0 N m)
    (hq5 : q5 < W.heap.size) (hg : g < W.heap.size) (hJ : J [] W) :
    CallsIn Fence.wide n Try.prog 54 #[.func (.yield l) #[] #[], .pointer (some ⟨q6, 0, none⟩), .pointer (some ⟨q5, 0, none⟩)] W fun e W' => (∃ v, e = .returned v) ∧
      ((∃ ys, ys = ks ∧ J ys W') ∨ (∃ pre, pre <+: ks ∧ Jx pre W')) := by
  refine callsIn_of_wp Try.func54 rfl trivial ?_ rfl
  simp only [Try.ntmps54, List.size_toArray, List.length_cons, List.length_nil, Nat.reduceAdd, Nat.reduceSub, Array.replicate_succ, Array.replicate_zero, List.push_toArray, List.append_toArray, List.nil_append, List.cons_append]
  gi_wp2
  gi_loopw [8] (fun i wr => ∃ k : Nat, k ≤ ks.length ∧ i = .int .i64 k ∧ J (ks.take k) wr ∧ wr.cell? ⟨q5, 0, none⟩ = some (.map (some q0)) ∧ Sl encP 3 wr (g + 1) (some ⟨g, 0, none⟩) ks ∧ MapP wr q0 N m ∧ W.heap.size ≤ wr.heap.size)
    (fun i _ => ks.length - (intOf i).toNat)
  case atStart => exact ⟨0, Nat.zero_le _, rfl, by simpa using hJ, h5, hs, hm, Nat.le_refl _⟩
  case round =>
    obtain ⟨k, hk, rfl, hJs, c5, hsk, hmk, hsz⟩ := hrel
    clear h5 h6 hs hm
    by_cases hlt : k < ks.length
    · obtain ⟨p, hp⟩ : ∃ p, ks[k]? = some p := ⟨_, List.getElem?_eq_getElem hlt⟩
      obtain ⟨b', o', hA', hb', hc'⟩ := hsk.at hp
      cases hA'
      have p0 : wr.cell? ⟨g, k * 3, none⟩ = some (.int .i64 p.1) := by have := hc' 0 _ rfl; simpa using this
      have p1 : wr.cell? ⟨g, k * 3 + 1, none⟩ = some (.int .i64 p.2.1) := by have := hc' 1 _ rfl; simpa using this
      have p2 : wr.cell? ⟨g, k * 3 + 2, none⟩ = some (.int .i64 p.2.2) := by have := hc' 2 _ rfl; simpa using this
      have i1 : (k : Int) < (ks.length : Int) := by omega
      have hpf : fitsP p := hkf p (List.mem_of_getElem? hp)
      obtain ⟨V, hV⟩ : ∃ V, V = wr.alloc (.cells #[.int .i64 p.1, .int .i64 p.2.1, .int .i64 p.2.2] 23) := ⟨_, rfl⟩
      have hgV : ∀ i, i < wr.heap.size → V.heap[i]? = wr.heap[i]? := fun i hi => by rw [hV]; exact ((Below.refl _ wr).alloc (Nat.le_refl _) _).block i hi
      have hmV : MapP V q0 N m := hmk.heap (hgV _ hmk.lt)
      have hsV : Sl encP 3 V (g + 1) (some ⟨g, 0, none⟩) ks := hsk.heap (hgV _ (by omega))
      have c5V : V.cell? ⟨q5, 0, none⟩ = some (.map (some q0)) := (cell_of_heap (hgV _ (by omega))).trans c5
      have hJV : J (ks.take k) V := by rw [hV]; exact hA _ _ _ hJs
      have hlk := hmV.lookup (t := 78) (e := 27) Try.underlying78 rfl p hpf
      have c5V' := c5V
      have hszV : wr.heap.size ≤ V.heap.size := by rw [hV]; simp
      obtain ⟨fn, tmps, assign, body, hy, hR⟩ := hY (ks.take k) p V hJV (by simp; omega) (List.mem_of_getElem? hp)
      rw [hV] at hlk c5V' hy
      have H := hide (And.intro hsV (And.intro hmV (And.intro c5V hp)))
      have HV := hide hV
      have HL := hide hsk
      clear hJV hJs hsk hmk hsV hmV c5V hV hgV hp hc'
      gi_wp2
      rw [← HV.out]
      refine hR.mono ?_
      rintro e' W3 (⟨rfl, hJ3, hk3⟩ | ⟨rfl, hJx3⟩)
      · have hm3 := H.out.2.1.heap hk3.2.2.2
        have hs3 := H.out.1.heap hk3.2.2.1
        have c53 := (cell_of_heap hk3.2.1).trans H.out.2.2.1
        have hz3 := hk3.1
        have htk : ks.take (k + 1) = ks.take k ++ [p] := by rw [List.take_add_one, H.out.2.2.2]; rfl
        have HX := hide (And.intro hm3 (And.intro hs3 htk))
        clear hm3 hs3 hk3 htk hlk c5V' hy
        gi_wp2
        go_roundw
        case rel => exact ⟨k + 1, by omega, by go_num, by rw [HX.out.2.2]; exact hJ3, c53, HX.out.2.1, HX.out.1, by omega⟩
        case measure => simp [intOf]; omega
      · have htk : ks.take (k + 1) = ks.take k ++ [p] := by rw [List.take_add_one, H.out.2.2.2]; rfl
        have HX := hide htk
        clear htk hlk c5V' hy
        gi_wp2
        refine bodyPost_ret (results_none rfl _ _ _) rfl ?_
        exact ⟨⟨_, rfl⟩, .inr ⟨_, ⟨ks.drop (k + 1), by rw [← HX.out, List.take_append_drop]⟩, hJx3⟩⟩
    · have hke : k = ks.length := by omega
      subst hke
      rw [List.take_length] at hJs
      gi_wp2
      go_end0
      exact ⟨⟨_, rfl⟩, .inl ⟨_, rfl, hJs⟩⟩
set_option maxRecDepth 100000 in
theorem gat2_nil (n l q5 q6 c : Nat) (J : List Pt → World → Prop) (W : World) (h6 : W.cell? ⟨q6, 0, none⟩ = some (.slice none 0 c)) (hJ : J [] W) :
    CallsIn Fence.wide n Try.prog 54 #[.func (.yield l) #[] #[], .pointer (some ⟨q6, 0, none⟩), .pointer (some ⟨q5, 0, none⟩)] W fun e W' => (∃ v, e = .returned v) ∧ J [] W' := by
  refine callsIn_of_wp Try.func54 rfl trivial ?_ rfl
  simp only [Try.ntmps54, List.size_toArray, List.length_cons, List.length_nil, Nat.reduceAdd, Nat.reduceSub, Array.replicate_succ, Array.replicate_zero, List.push_toArray, List.append_toArray, List.nil_append, List.cons_append]
  gi_wp2
  gi_loopw [8] (fun i wr => i = .int .i64 0 ∧ J [] wr ∧ W = wr) (fun _ _ => 0)
  case atStart => exact ⟨rfl, hJ, rfl⟩
  case round =>
    obtain ⟨rfl, hJs, rfl⟩ := hrel
    gi_wp2
    go_end0
    exact ⟨⟨_, rfl⟩, hJs⟩
/-- A point of ks. -/
def fx (ks : List Pt) (x : Pt) : Pt := if x ∈ ks then x else ks.headD (0, 0, 0)
theorem fx_mem {ks : List Pt} (x : Pt) (h : 0 < ks.length) : fx ks x ∈ ks := by
  unfold fx
  split
  · assumption
  · cases ks with
    | nil => simp at h
    | cons y ys => simp
theorem fx_id {ks : List Pt} {x : Pt} (h : x ∈ ks) : fx ks x = x := by unfold fx; rw [if_pos h]
theorem gat2_stops (n q5 q6 q0 g c N : Nat) (A6 : Option Addr) (ks : List Pt) (m : Pt → Value) (hn : 1 ≤ n) (hkf : ∀ p ∈ ks, fitsP p) (hl : ks.length ≤ 4294967296) (w : World)
    (h5 : w.cell? ⟨q5, 0, none⟩ = some (.map (some q0))) (h6 : w.cell? ⟨q6, 0, none⟩ = some (.slice A6 ks.length c)) (hs : ks = [] ∧ A6 = none ∨ A6 = some ⟨g, 0, none⟩ ∧ Sl encP 3 w w.heap.size (some ⟨g, 0, none⟩) ks) (hm : MapP w q0 N m)
    (hq5 : q5 < w.heap.size) (hq6 : q6 < w.heap.size) (hg : g < w.heap.size) :
    SeqStopsK Fence.wide n Try.prog 54 #[.pointer (some ⟨q6, 0, none⟩), .pointer (some ⟨q5, 0, none⟩)] (fun x : Pt => #[m (fx ks x)]) (Kp3 q5 g q0)
      (fun ys => ys = ks) (fun pre => pre <+: ks) ks.length w := fun l J Jx W hW hJa hJxa hY hJ => by
  have h5' := (hW.cell (p := ⟨q5, 0, none⟩) hq5).trans h5
  have h6' := (hW.cell (p := ⟨q6, 0, none⟩) hq6).trans h6
  have hm' := hm.heap (hW.block q0 hm.lt)
  rcases hs with ⟨rfl, rfl⟩ | ⟨rfl, hs⟩
  · refine (gat2_nil n l q5 q6 c J W h6' hJ).mono ?_
    rintro e W' ⟨he, hJ'⟩
    exact ⟨he, .inl ⟨[], rfl, hJ'⟩⟩
  · have hs' : Sl encP 3 W (g + 1) (some ⟨g, 0, none⟩) ks := by
      rcases hs.heap (hW.block g hg) with ⟨_, h⟩ | ⟨b', o', ha, _, hc⟩
      · cases h
      · cases ha
        exact .inr ⟨g, 0, rfl, by omega, hc⟩
    refine gat2_in n l q5 q6 q0 g c N ks m hn hkf hl J Jx (fun s V o h => hJa s V _ none h (World.grownBy_alloc V o none) (fun _ h => by cases h)) ?_ W h5' h6' hs' hm' (Nat.lt_of_lt_of_le hq5 hW.size) (Nat.lt_of_lt_of_le hg hW.size) hJ
    intro pre x V hJV hlt hx
    have := hY pre x V hJV hlt
    simp only [fx_id hx] at this
    exact this
end Go.Proofs.Ytgndbpkgehjelaa
/- cluster.Finest. -/
namespace Go.Proofs.Ytgndbpkgehjelaa
open Go.RowKit Go.Sort Go.Shelf
attribute [local go_sem] Oper.semAt_some
def finestT (b most : Int) (ts : List Tri) : List (List Tri) := (sortP (keysOf (keyF b) ts)).flatMap fun p => splitT most (grp (keyF b) ts p)
theorem splitT_length (most : Int) (ts : List Tri) : (splitT most ts).length ≤ ts.length := by
  unfold splitT
  rw [List.length_map, List.length_range, ← canonT_length ts]
  exact nChunks_le (by omega)
theorem splitT_pos (most : Int) (ts : List Tri) (h : ts ≠ []) : 0 < (splitT most ts).length := by
  unfold splitT
  rw [List.length_map, List.length_range, lt_nChunks (by omega), Nat.zero_mul, canonT_length]
  exact List.length_pos_iff.2 h
theorem sum_le {ι : Type} (f : ι → List (List Tri)) (b : Nat) (h : ∀ x, (f x).length ≤ b) : ∀ l : List ι, (l.flatMap f).length ≤ l.length * b
  | [] => by simp
  | x :: l => by
    rw [List.flatMap_cons, List.length_append, List.length_cons, Nat.add_mul, Nat.one_mul]
    have := sum_le f b h l
    have := h x
    omega
set_option maxRecDepth 100000 in
set_option maxHeartbeats 2000000 in
theorem finest_any (A : Option Addr) (c : Nat) (b most : Int) (ts : List Tri) (w : World) (hs : Sl encT 9 w w.heap.size A ts) (hl : ts.length ≤ 1048576) (hft : ∀ t ∈ ts, fitsT t) (hm : most ≤ 9223372036854775807) :
    Calls Try.prog 22 #[.slice A ts.length c, .int .i64 b, .int .i64 most] w fun e w' => ∃ v, e = .returned v ∧ Pcs encT 9 26 27 w' w.heap.size v (finestT b most ts) ∧ Below w.heap.size w w' := by
  refine callsIn_wide.1 (callsIn_of_wp_marks (n := 3) Try.func22 rfl trivial ?_ rfl)
  simp only [Try.ntmps22, List.size_toArray, List.length_cons, List.length_nil, Nat.reduceAdd, Nat.reduceSub, Array.replicate_succ, Array.replicate_zero, List.push_toArray, List.append_toArray, List.nil_append, List.cons_append]
  obtain ⟨W1, hW1⟩ : ∃ W1, W1 = ((w.alloc (.cells #[.int .i64 b] 3)).alloc (.cells #[.int .i64 most] 3)).alloc (.cells #[.slice none 0 0] 28) := ⟨_, rfl⟩
  have hB1 : Below w.heap.size w W1 := by rw [hW1]; exact (((Below.refl _ w).alloc (Nat.le_refl _) _).alloc (by simp) _).alloc (by simp; omega) _
  have hsz1 : W1.heap.size = w.heap.size + 3 := by rw [hW1]; simp
  have hbb : Boxed W1 w.heap.size 3 (.int .i64 b) := by rw [hW1]; exact ((Boxed.new w _ _).alloc _).alloc _
  have hbm : Boxed W1 (w.heap.size + 1) 3 (.int .i64 most) := by
    rw [hW1]
    have h0 := Boxed.new (w.alloc (.cells #[.int .i64 b] 3)) 3 (.int .i64 most)
    rw [World.size_alloc] at h0
    exact h0.alloc _
  have hbo : Boxed W1 (w.heap.size + 1 + 1) 28 (.slice none 0 0) := by
    rw [hW1]
    have h0 := Boxed.new ((w.alloc (.cells #[.int .i64 b] 3)).alloc (.cells #[.int .i64 most] 3)) 28 (.slice none 0 0)
    rw [World.size_alloc, World.size_alloc] at h0
    exact h0
  have hs1 : Sl encT 9 W1 W1.heap.size A ts := (hs.below hB1).more (by omega)
  have H1 := hide (And.intro hB1 (And.intro hbb (And.intro hbm (And.intro hbo hs1))))
  have HW1 := hide hW1
  clear hB1 hbb hbm hbo hs1 hs hW1
  gi_wp2_with fail
  rw [← HW1.out]
  refine ⟨trivial, callsIn_wide.2 ((gat_any A c ts w.heap.size b W1 H1.out.2.2.2.2 (by omega) hft H1.out.2.1.cell (by omega)).mono ?_)⟩
  rintro e w3 ⟨rfl, hgr, hB3⟩
  obtain ⟨m, A6, c6, N, hr5, hr6, hrc, hrs, hrm, hrg⟩ := hgr
  obtain ⟨ks, hks⟩ : ∃ ks, ks = sortP (keysOf (keyF b) ts) := ⟨_, rfl⟩
  have hkl : ks.length = (keysOf (keyF b) ts).length := by rw [hks]; simp [sortP]
  have hkl2 : ks.length ≤ 1048576 := by rw [hkl]; exact Nat.le_trans (keysOf_length _ _) hl
  have hkf : ∀ p ∈ ks, fitsP p := by
    intro p hp
    rw [hks] at hp
    have hp' : p ∈ keysOf (keyF b) ts := by simpa [sortP] using hp
    obtain ⟨t, ht, rfl⟩ := (mem_keysOf (keyF b)).1 hp'
    exact fitsP_block (fun u hu => by simp at hu; rw [hu]; exact hft t ht) b false
  have hkin : ∀ p ∈ ks, grp (keyF b) ts p ≠ [] := by
    intro p hp e
    rw [hks] at hp
    exact (grp_nil (keyF b)).1 e (by simpa [sortP] using hp)
  have hsz3 : W1.heap.size + 3 ≤ w3.heap.size := by have := hr6.lt; have := hrm.lt; have := hB3.size; omega
  obtain ⟨g6, hg6, hg6l, hs6⟩ : ∃ g6, W1.heap.size + 1 ≤ g6 ∧ g6 < w3.heap.size ∧ (ks = [] ∧ A6 = none ∨ A6 = some ⟨g6, 0, none⟩ ∧ Sl encP 3 w3 w3.heap.size (some ⟨g6, 0, none⟩) ks) := by
    rcases hrs with ⟨he, hA⟩ | ⟨g, hA, hg1, hg2, hg3⟩
    · exact ⟨W1.heap.size + 1, Nat.le_refl _, by omega, .inl ⟨by rw [hks, he]; simp [sortP], hA⟩⟩
    · exact ⟨g, by omega, hg2, .inr ⟨hA, by rw [hks]; exact hg3⟩⟩
  have c6' : w3.cell? ⟨W1.heap.size + 1 + 1, 0, none⟩ = some (.slice A6 ks.length c6) := by rw [hkl]; exact hr6.cell
  have hst := gat2_stops 2 (W1.heap.size + 1) (W1.heap.size + 1 + 1) W1.heap.size g6 c6 N A6 ks m (by omega) hkf (by omega) w3 hr5.cell c6' hs6 hrm (by omega) (by omega) hg6l
  have hbo3 : Boxed w3 (w.heap.size + 1 + 1) 28 (.slice none 0 0) := boxed_below H1.out.2.2.2.1 hB3 (by omega)
  have hbm3 : Boxed w3 (w.heap.size + 1) 3 (.int .i64 most) := boxed_below H1.out.2.2.1 hB3 (by omega)
  have H3 := hide (And.intro hst (And.intro hbo3 (And.intro hbm3 (And.intro hrg (And.intro hB3 (And.intro hkin hks))))))
  have HZ := hide hsz1
  clear hst hbo3 hbm3 hrg hB3 hks hr5 hr6 hrc hrs hrm c6' hs6 hkf hkin hsz1
  gi_wp2_with fail
  have hsz1 := HZ.out
  refine wpIn_rangeFunc_ownG rfl (by omega) (gf := 54) (lb := #[.pointer (some ⟨W1.heap.size + 1 + 1, 0, none⟩), .pointer (some ⟨W1.heap.size + 1, 0, none⟩)]) rfl trivial (enters_of Try.func54 (by kernel_rfl) rfl)
    H3.out.1 Kp3.trans (Kp3.putObj (by omega) (by omega) (by omega)) (Below.refl _ _) (fun _ => rfl)
    (fun pre W => ∃ v, Boxed W (w.heap.size + 1 + 1) 28 v ∧ Pcs encT 9 26 27 W w3.heap.size v (pre.flatMap fun x => splitT most (grp (keyF b) ts (fx ks x))) ∧ w3.grownBy W (some (w.heap.size + 1 + 1)))
    (fun _ _ _ => False) ?own (fun _ _ _ _ _ hs _ _ => hs)
    ⟨_, H3.out.2.1, Pcs.nil, ⟨rfl, rfl, rfl, Nat.le_refl _, fun _ _ _ => rfl⟩⟩
    ?a1 ?assign ?body ?done ?stop
  case own =>
    rintro s X Y row ⟨v, hb, hp, hg⟩ hgr hr
    refine ⟨v, hb.kept hgr (fun e => ?_), hp.step hgr (fun r e => .inr (hr r e).2), grown_row hg hgr (fun r e => (hr r e).1)⟩
    have := (hr _ e.symm).1
    omega
  case assign =>
    intro l x W K hK
    gi_wp2
    exact hK
  case body =>
    rintro l pre x W ⟨v, hbx, hp, hg⟩ hlt
    have hbc := hbx.cell
    obtain ⟨p, hp0⟩ : ∃ p, p = fx ks x := ⟨_, rfl⟩
    have hpk : p ∈ ks := by rw [hp0]; exact fx_mem x (by omega)
    have hgo : Own encT 9 26 W (W1.heap.size + 3) (m p) (grp (keyF b) ts p).length (grp (keyF b) ts p) := (H3.out.2.2.2.1.1 p).kept hg (by
      cases hob : (m p).ownBlock with
      | none => exact .inl rfl
      | some r =>
        refine .inr (fun e => ?_)
        have := ((H3.out.2.2.2.1.1 p).blk r hob).1
        injection e with e
        omega)
    obtain ⟨gA, gc, hgv⟩ := hgo.form
    rw [hgv] at hgo
    have hsG : Sl encT 9 W W.heap.size gA (grp (keyF b) ts p) := hgo.sl encT_len (Nat.le_refl _)
    have hgl : (grp (keyF b) ts p).length ≤ 1048576 := Nat.le_trans (grp_length _ _ _) hl
    have hcm : W.cell? ⟨w.heap.size + 1, 0, none⟩ = some (.int .i64 most) := (H3.out.2.2.1.kept hg (fun e => by injection e with e; omega)).cell
    have hgn := H3.out.2.2.2.2.2.1 p hpk
    obtain ⟨vA, vc, rfl⟩ := hp.form
    obtain ⟨np, hnp⟩ : ∃ np, np = (pre.flatMap fun x => splitT most (grp (keyF b) ts (fx ks x))).length := ⟨_, rfl⟩
    rw [← hnp] at hbc
    have hnpb : np ≤ 1048576 * 1048576 := by
      rw [hnp]
      refine Nat.le_trans (sum_le _ 1048576 (fun x => Nat.le_trans (splitT_length _ _) (Nat.le_trans (grp_length _ _ _) hl)) pre) ?_
      exact Nat.mul_le_mul_right _ (by omega)
    rw [← hp0, hgv]
    have HX := hide (And.intro hg (And.intro hp (And.intro hbx (And.intro hsG (And.intro hnp (And.intro hp0 hgn))))))
    clear hg hp hbx hsG hgo hgv hnp hp0 hgn hpk
    gi_wp2_with fail
    refine wpIn_region_mix (fun W' => W'.cell? ⟨w.heap.size + 1 + 1, 0, none⟩ = some (.slice vA np vc)) [0, 1] [0, 1, 2, 3, 4, 5] mixed_ok (by kernel_rfl) (by kernel_rfl) (by rintro ⟨_, _, h⟩; exact h) ?_
    refine wpMix_q (v := .slice vA np vc) rfl rfl (fun _ _ _ h => h) hbc ⟨rfl, fun W' h' => by simp [go_sem, h']⟩ ?_
    refine wpMix_q (v := .slice gA (grp (keyF b) ts p).length gc) rfl rfl (fun _ _ _ h => h) hbc ⟨rfl, fun W' h' => by simp [go_sem]⟩ ?_
    refine wpMix_n rfl rfl ?_
    go_wp2_with fail
    refine ⟨fun _ => hbc, ?_⟩
    refine wpMix_n rfl rfl ?_
    have hBW : Below W.heap.size W W.drew := below_drewN (Below.refl _ W) 1
    go_wp2_with fail
    refine (split_any gA gc most (grp (keyF b) ts p) W.drew HX.out.2.2.2.1 (by omega) hm).mono ?_
    rintro e w4 ⟨v2, rfl, hp2, hB4⟩
    have hbc4 : w4.cell? ⟨w.heap.size + 1 + 1, 0, none⟩ = some (.slice vA np vc) := (hB4.cell (p := ⟨w.heap.size + 1 + 1, 0, none⟩) HX.out.2.2.1.lt).trans hbc
    have hspos := splitT_pos most _ HX.out.2.2.2.2.2.2
    have hsle : (splitT most (grp (keyF b) ts p)).length ≤ 1048576 := Nat.le_trans (splitT_length _ _) hgl
    obtain ⟨rs, hrs, hrq⟩ := hp2
    have hrl : rs.length = (splitT most (grp (keyF b) ts p)).length := hrs.1.symm
    obtain ⟨g2, cap2, hv2, hg2a, hg2b⟩ := hrs.at (by intro e; rw [e] at hrl; simp at hrl; omega)
    rw [← hrl] at hv2
    subst hv2
    have hW3 : w3.heap.size ≤ W.heap.size := HX.out.1.size
    have hW4 : W.heap.size ≤ w4.heap.size := hB4.size
    have hrsl : Sl encS 1 w4 w4.heap.size (some ⟨g2, 0, none⟩) rs := by
      have := hrs
      rw [← hrl] at this
      exact this.sl encS_len (Nat.le_refl _)
    have hB04 : Below W.heap.size W w4 := hBW.trans (show Below W.heap.size W.drew w4 from hB4)
    obtain ⟨ss, hss4, hpp4⟩ := HX.out.2.1.below hB04 (Nat.le_refl _)
    have hss4' := hss4
    rw [← HX.out.2.2.2.2.1] at hss4'
    have hbx4 : Boxed w4 (w.heap.size + 1 + 1) 28 (.slice vA np vc) := by
      have := boxed_below HX.out.2.2.1 hB04 HX.out.2.2.1.lt
      rw [← HX.out.2.2.2.2.1] at this
      exact this
    have HQ := hide (And.intro hss4 (And.intro hpp4 (And.intro hB04 (And.intro hrq hrl))))
    have hrb : rs.length ≤ 1048576 := by omega
    have hrp : 0 < rs.length := by omega
    clear hss4 hpp4 hB04 hrq hrs hB4 hrl
    go_wp2_with fail
    refine ⟨fun _ => hbc4, ?_⟩
    refine wpMix_tail _ [_, _] (by kernel_rfl) rfl ?_
    simp only [List.getElem_toArray, List.getElem_cons_succ, List.getElem_cons_zero]
    refine wpList_appendN rfl _ _ _ rfl Try.underlying28 info27 rfl (by omega) encS_len encS_one rfl hss4' g2 cap2 0 w4.heap.size rs rfl hrsl (by omega) (by unfold maxLen; omega) (by omega) (by omega) ?_
    intro g cap w5 hown5 hg5 hB5 hat5 hgb5 hlt5; have hbx5 := hbx4.kept hg5 (hbx4.not_row (by decide) hss4'.2); have hc5 := hbx5.cell; have hf5 := hbx5.frozen
    go_wp2_with fail
    have hT : Turns w3.heap.size (w.heap.size + 1 + 1) W (w5.setCell ⟨w.heap.size + 1 + 1, 0, none⟩ (.slice (some ⟨g, 0, none⟩) (np + rs.length) cap)) :=
      (Turns.of_below HQ.out.2.2.1).trans ((Turns.row hg5 (fun r hr => .inr ⟨(hss4'.blk r hr).1, by obtain ⟨cs, hc⟩ := hss4'.cells r hr; exact ⟨cs, _, _, hc⟩⟩)).trans (Turns.set w5 _))
    have hheap : ∀ i, i < w3.heap.size → i ≠ w.heap.size + 1 + 1 → (w5.setCell ⟨w.heap.size + 1 + 1, 0, none⟩ (.slice (some ⟨g, 0, none⟩) (np + rs.length) cap)).heap[i]? = W.heap[i]? := fun i hi hne => by
      have hiW : i < W.heap.size := by omega
      rw [Array.getElem?_eq_getElem hiW]
      exact hT.2.2.2.2 i _ (Array.getElem?_eq_getElem hiW) hne (.inl hi)
    refine ⟨hT.keeps (by omega), ⟨hT.2.2.2.1, hheap _ (by omega) (by omega), hheap _ hg6l (by omega), hheap _ (by omega) (by omega)⟩, _, hbx5.set _, ?_, hT.grown HX.out.1⟩
    rw [List.flatMap_append, List.flatMap_cons, List.flatMap_nil, List.append_nil, ← HX.out.2.2.2.2.2.1]
    refine Pcs.step (Pcs.appendAll (by decide) HQ.out.1 HQ.out.2.2.2.2 HQ.out.2.1 (fun i q hi => ?_) (by rw [← HX.out.2.2.2.2.1]; exact hg5) ?_) (grownBy_setCell' w5 (w.heap.size + 1 + 1) _) (fun r e => .inl (by cases e; omega))
    · obtain ⟨A', c', h1, h2⟩ := HQ.out.2.2.2.1 i q hi
      exact ⟨A', c', h1, h2.base_le (show w3.heap.size ≤ W.drew.heap.size from hW3)⟩
    · rw [← HX.out.2.2.2.2.1, ← HQ.out.2.2.2.2]
      exact hown5
  case done =>
    rintro D ys W hD rfl ⟨v, hbx, hp, hg⟩ hK
    have hc := hbx.cell
    have hfl : (ys.flatMap fun x => splitT most (grp (keyF b) ts (fx ys x))) = finestT b most ts := by
      unfold finestT
      rw [← H3.out.2.2.2.2.2.2]
      have : (ys.map fun x => splitT most (grp (keyF b) ts (fx ys x))) = ys.map fun p => splitT most (grp (keyF b) ts p) := List.map_congr_left fun x hx => by rw [fx_id hx]
      simp only [List.flatMap, this]
    rw [hfl] at hp
    obtain ⟨vA, vc, rfl⟩ := hp.form
    have HX := hide (And.intro hp (And.intro hbx hg))
    clear hp hbx hg
    gi_wp2
    refine ⟨by simp, .inl ⟨_, _, rfl, run_takeDeferred hK, ?_⟩⟩
    refine ⟨_, results_tmp rfl _ _ _, _, rfl, ?_, ?_⟩
    · have := HX.out.1.step (grownBy_putObj' W D (.deferred none)) (fun r e => .inr (by cases e; exact ⟨_, hK, rfl⟩))
      exact this.base_le (show w.heap.size ≤ w3.heap.size by omega)
    · have h2 := H1.out.1.trans (H3.out.2.2.2.2.1.mono (show w.heap.size ≤ W1.heap.size by omega))
      have h3 := h2.grown HX.out.2.2 (show w.heap.size ≤ w3.heap.size by omega) (fun r e => by cases e; omega)
      exact h3.trans (belowK_b (w := w) (Nat.le_refl _) W D _ _ (by omega) hK rfl rfl)
  case stop =>
    rintro D c pre W _ _ h _
    exact h.elim
end Go.Proofs.Ytgndbpkgehjelaa
/- The iterator that gathered makes, at integers. -/
namespace Go.Proofs.Ytgndbpkgehjelaa
open Go.RowKit Go.Sort Go.Shelf
attribute [local go_sem] Oper.semAt_some
set_option maxRecDepth 100000 in
set_option maxHeartbeats 2000000 in
theorem gat2I_in (n l q5 q6 q0 g c N : Nat) (ks : List Pt) (m : Pt → Value) (hn : 1 ≤ n) (hkf : ∀ p ∈ ks, fitsP p) (hl : ks.length ≤ 4294967296) (J Jx : List Pt → World → Prop)
    (hA : ∀ s W o, J s W → J s (W.alloc o))
    (hY : ∀ pre x W, J pre W → pre.length < ks.length → x ∈ ks → YieldAt Fence.wide (n - 1) Try.prog l #[m x] W fun e W' =>
      (e = .returned (.bool true) ∧ J (pre ++ [x]) W' ∧ Kp3 q5 g q0 W W') ∨ (e = .returned (.bool false) ∧ Jx (pre ++ [x]) W'))
    (W : World) (h5 : W.cell? ⟨q5, 0, none⟩ = some (.map (some q0))) (h6 : W.cell? ⟨q6, 0, none⟩ = some (.slice (some ⟨g, 0, none⟩) ks.length c)) (hs : Sl encP 3 W (g + 1) (some ⟨g, 0, none⟩) ks) (hm : MapP W q0 N m)
    (hq5 : q5 < W.heap.size) (hg : g < W.heap.size) (hJ : J [] W) :
    CallsIn Fence.wide n Try.prog 57 #[.func (.yield l) #[] #[], .pointer (some ⟨q6, 0, none⟩), .pointer (some ⟨q5, 0, none⟩)] W fun e W' => (∃ v, e = .returned v) ∧
      ((∃ ys, ys = ks ∧ J ys W') ∨ (∃ pre, pre <+: ks ∧ Jx pre W')) := by
  refine callsIn_of_wp Try.func57 rfl trivial ?_ rfl
  simp only [Try.ntmps57, List.size_toArray, List.length_cons, List.length_nil, Nat.reduceAdd, Nat.reduceSub, Array.replicate_succ, Array.replicate_zero, List.push_toArray, List.append_toArray, List.nil_append, List.cons_append]
  gi_wp2
  gi_loopw [8] (fun i wr => ∃ k : Nat, k ≤ ks.length ∧ i = .int .i64 k ∧ J (ks.take k) wr ∧ wr.cell? ⟨q5, 0, none⟩ = some (.map (some q0)) ∧ Sl encP 3 wr (g + 1) (some ⟨g, 0, none⟩) ks ∧ MapP wr q0 N m ∧ W.heap.size ≤ wr.heap.size)
    (fun i _ => ks.length - (intOf i).toNat)
  case atStart => exact ⟨0, Nat.zero_le _, rfl, by simpa using hJ, h5, hs, hm, Nat.le_refl _⟩
  case round =>
    obtain ⟨k, hk, rfl, hJs, c5, hsk, hmk, hsz⟩ := hrel
    clear h5 h6 hs hm
    by_cases hlt : k < ks.length
    · obtain ⟨p, hp⟩ : ∃ p, ks[k]? = some p := ⟨_, List.getElem?_eq_getElem hlt⟩
      obtain ⟨b', o', hA', hb', hc'⟩ := hsk.at hp
      cases hA'
      have p0 : wr.cell? ⟨g, k * 3, none⟩ = some (.int .i64 p.1) := by have := hc' 0 _ rfl; simpa using this
      have p1 : wr.cell? ⟨g, k * 3 + 1, none⟩ = some (.int .i64 p.2.1) := by have := hc' 1 _ rfl; simpa using this
      have p2 : wr.cell? ⟨g, k * 3 + 2, none⟩ = some (.int .i64 p.2.2) := by have := hc' 2 _ rfl; simpa using this
      have i1 : (k : Int) < (ks.length : Int) := by omega
      have hpf : fitsP p := hkf p (List.mem_of_getElem? hp)
      obtain ⟨V, hV⟩ : ∃ V, V = wr.alloc (.cells #[.int .i64 p.1, .int .i64 p.2.1, .int .i64 p.2.2] 23) := ⟨_, rfl⟩
      have hgV : ∀ i, i < wr.heap.size → V.heap[i]? = wr.heap[i]? := fun i hi => by rw [hV]; exact ((Below.refl _ wr).alloc (Nat.le_refl _) _).block i hi
      have hmV : MapP V q0 N m := hmk.heap (hgV _ hmk.lt)
      have hsV : Sl encP 3 V (g + 1) (some ⟨g, 0, none⟩) ks := hsk.heap (hgV _ (by omega))
      have c5V : V.cell? ⟨q5, 0, none⟩ = some (.map (some q0)) := (cell_of_heap (hgV _ (by omega))).trans c5
      have hJV : J (ks.take k) V := by rw [hV]; exact hA _ _ _ hJs
      have hlk := hmV.lookup (t := 82) (e := 31) Try.underlying82 rfl p hpf
      have c5V' := c5V
      have hszV : wr.heap.size ≤ V.heap.size := by rw [hV]; simp
      obtain ⟨fn, tmps, assign, body, hy, hR⟩ := hY (ks.take k) p V hJV (by simp; omega) (List.mem_of_getElem? hp)
      rw [hV] at hlk c5V' hy
      have H := hide (And.intro hsV (And.intro hmV (And.intro c5V hp)))
      have HV := hide hV
      have HL := hide hsk
      clear hJV hJs hsk hmk hsV hmV c5V hV hgV hp hc'
      gi_wp2
      rw [← HV.out]
      refine hR.mono ?_
      rintro e' W3 (⟨rfl, hJ3, hk3⟩ | ⟨rfl, hJx3⟩)
      · have hm3 := H.out.2.1.heap hk3.2.2.2
        have hs3 := H.out.1.heap hk3.2.2.1
        have c53 := (cell_of_heap hk3.2.1).trans H.out.2.2.1
        have hz3 := hk3.1
        have htk : ks.take (k + 1) = ks.take k ++ [p] := by rw [List.take_add_one, H.out.2.2.2]; rfl
        have HX := hide (And.intro hm3 (And.intro hs3 htk))
        clear hm3 hs3 hk3 htk hlk c5V' hy
        gi_wp2
        go_roundw
        case rel => exact ⟨k + 1, by omega, by go_num, by rw [HX.out.2.2]; exact hJ3, c53, HX.out.2.1, HX.out.1, by omega⟩
        case measure => simp [intOf]; omega
      · have htk : ks.take (k + 1) = ks.take k ++ [p] := by rw [List.take_add_one, H.out.2.2.2]; rfl
        have HX := hide htk
        clear htk hlk c5V' hy
        gi_wp2
        refine bodyPost_ret (results_none rfl _ _ _) rfl ?_
        exact ⟨⟨_, rfl⟩, .inr ⟨_, ⟨ks.drop (k + 1), by rw [← HX.out, List.take_append_drop]⟩, hJx3⟩⟩
    · have hke : k = ks.length := by omega
      subst hke
      rw [List.take_length] at hJs
      gi_wp2
      go_end0
      exact ⟨⟨_, rfl⟩, .inl ⟨_, rfl, hJs⟩⟩
set_option maxRecDepth 100000 in
theorem gat2I_nil (n l q5 q6 c : Nat) (J : List Pt → World → Prop) (W : World) (h6 : W.cell? ⟨q6, 0, none⟩ = some (.slice none 0 c)) (hJ : J [] W) :
    CallsIn Fence.wide n Try.prog 57 #[.func (.yield l) #[] #[], .pointer (some ⟨q6, 0, none⟩), .pointer (some ⟨q5, 0, none⟩)] W fun e W' => (∃ v, e = .returned v) ∧ J [] W' := by
  refine callsIn_of_wp Try.func57 rfl trivial ?_ rfl
  simp only [Try.ntmps57, List.size_toArray, List.length_cons, List.length_nil, Nat.reduceAdd, Nat.reduceSub, Array.replicate_succ, Array.replicate_zero, List.push_toArray, List.append_toArray, List.nil_append, List.cons_append]
  gi_wp2
  gi_loopw [8] (fun i wr => i = .int .i64 0 ∧ J [] wr ∧ W = wr) (fun _ _ => 0)
  case atStart => exact ⟨rfl, hJ, rfl⟩
  case round =>
    obtain ⟨rfl, hJs, rfl⟩ := hrel
    gi_wp2
    go_end0
    exact ⟨⟨_, rfl⟩, hJs⟩
theorem gat2I_stops (n q5 q6 q0 g c N : Nat) (A6 : Option Addr) (ks : List Pt) (m : Pt → Value) (hn : 1 ≤ n) (hkf : ∀ p ∈ ks, fitsP p) (hl : ks.length ≤ 4294967296) (w : World)
    (h5 : w.cell? ⟨q5, 0, none⟩ = some (.map (some q0))) (h6 : w.cell? ⟨q6, 0, none⟩ = some (.slice A6 ks.length c)) (hs : ks = [] ∧ A6 = none ∨ A6 = some ⟨g, 0, none⟩ ∧ Sl encP 3 w w.heap.size (some ⟨g, 0, none⟩) ks) (hm : MapP w q0 N m)
    (hq5 : q5 < w.heap.size) (hq6 : q6 < w.heap.size) (hg : g < w.heap.size) :
    SeqStopsK Fence.wide n Try.prog 57 #[.pointer (some ⟨q6, 0, none⟩), .pointer (some ⟨q5, 0, none⟩)] (fun x : Pt => #[m (fx ks x)]) (Kp3 q5 g q0)
      (fun ys => ys = ks) (fun pre => pre <+: ks) ks.length w := fun l J Jx W hW hJa hJxa hY hJ => by
  have h5' := (hW.cell (p := ⟨q5, 0, none⟩) hq5).trans h5
  have h6' := (hW.cell (p := ⟨q6, 0, none⟩) hq6).trans h6
  have hm' := hm.heap (hW.block q0 hm.lt)
  rcases hs with ⟨rfl, rfl⟩ | ⟨rfl, hs⟩
  · refine (gat2I_nil n l q5 q6 c J W h6' hJ).mono ?_
    rintro e W' ⟨he, hJ'⟩
    exact ⟨he, .inl ⟨[], rfl, hJ'⟩⟩
  · have hs' : Sl encP 3 W (g + 1) (some ⟨g, 0, none⟩) ks := by
      rcases hs.heap (hW.block g hg) with ⟨_, h⟩ | ⟨b', o', ha, _, hc⟩
      · cases h
      · cases ha
        exact .inr ⟨g, 0, rfl, by omega, hc⟩
    refine gat2I_in n l q5 q6 q0 g c N ks m hn hkf hl J Jx (fun s V o h => hJa s V _ none h (World.grownBy_alloc V o none) (fun _ h => by cases h)) ?_ W h5' h6' hs' hm' (Nat.lt_of_lt_of_le hq5 hW.size) (Nat.lt_of_lt_of_le hg hW.size) hJ
    intro pre x V hJV hlt hx
    have := hY pre x V hJV hlt
    simp only [fx_id hx] at this
    exact this
end Go.Proofs.Ytgndbpkgehjelaa
/- slices.AppendSeq, slices.Collect, over the iterator of gathered at integers. -/
namespace Go.Proofs.Ytgndbpkgehjelaa
open Go.RowKit Go.Sort Go.Shelf
attribute [local go_sem] Oper.semAt_some
theorem info31 : (Try.prog.info? 31).map (fun i => (i.zero, i.size, i.bytes)) = some (some (.slice none 0 0), 1, 24) := by kernel_rfl
def hdrOf : Value → Hdr
  | .slice A n c => (A, n, c)
  | _ => (none, 0, 0)
def groupsT (key : Nat → Pt) (xs : List Nat) : List (List Nat) := (sortP (keysOf key xs)).map (grp key xs)
set_option maxRecDepth 100000 in
set_option maxHeartbeats 2000000 in
theorem appendSeq_any (b0 : Nat) (key : Nat → Pt) (xs : List Nat) (w : World) (hl : xs.length ≤ 1048576) (hkf : ∀ t ∈ xs, fitsP (key t)) (hgr : GatRI b0 key xs w) :
    Calls Try.prog 55 #[.slice none 0 0, .func (.func 57) #[] #[.pointer (some ⟨b0 + 1 + 1, 0, none⟩), .pointer (some ⟨b0 + 1, 0, none⟩)]] w fun e w' =>
      ∃ v, e = .returned v ∧ Pcs encI 1 3 31 w' (b0 + 3) v (groupsT key xs) ∧ Below w.heap.size w w' := by
  refine callsIn_wide.1 (callsIn_of_wp_marks (n := 3) Try.func55 rfl trivial ?_ rfl)
  simp only [Try.ntmps55, List.size_toArray, List.length_cons, List.length_nil, Nat.reduceAdd, Nat.reduceSub, Array.replicate_succ, Array.replicate_zero, List.push_toArray, List.append_toArray, List.nil_append, List.cons_append]
  obtain ⟨w3, hw3⟩ : ∃ w3, w3 = w.alloc (.cells #[.slice none 0 0] 45) := ⟨_, rfl⟩
  have hB3 : Below w.heap.size w w3 := by rw [hw3]; exact (Below.refl _ w).alloc (Nat.le_refl _) _
  have hbo3 : Boxed w3 w.heap.size 45 (.slice none 0 0) := by rw [hw3]; exact Boxed.new _ _ _
  have hsz3 : w3.heap.size = w.heap.size + 1 := by rw [hw3]; simp
  obtain ⟨m, A6, c6, N, hr5, hr6, hrc, hrs, hrm, hrg⟩ := hgr
  obtain ⟨ks, hks⟩ : ∃ ks, ks = sortP (keysOf key xs) := ⟨_, rfl⟩
  have hkl : ks.length = (keysOf key xs).length := by rw [hks]; simp [sortP]
  have hkl2 : ks.length ≤ 1048576 := by rw [hkl]; exact Nat.le_trans (keysOf_length _ _) hl
  have hkf2 : ∀ p ∈ ks, fitsP p := by
    intro p hp
    rw [hks] at hp
    have hp' : p ∈ keysOf key xs := by simpa [sortP] using hp
    obtain ⟨t, ht, rfl⟩ := (mem_keysOf key).1 hp'
    exact hkf t ht
  have hbs : b0 + 3 ≤ w.heap.size := by have := hr6.lt; omega
  have hr5l := hr5.lt
  obtain ⟨g6, hg6l, hs6⟩ : ∃ g6, g6 < w.heap.size ∧ (ks = [] ∧ A6 = none ∨ A6 = some ⟨g6, 0, none⟩ ∧ Sl encP 3 w3 w3.heap.size (some ⟨g6, 0, none⟩) ks) := by
    rcases hrs with ⟨he, hA⟩ | ⟨g, hA, hg1, hg2, hg3⟩
    · exact ⟨b0 + 1, by omega, .inl ⟨by rw [hks, he]; simp [sortP], hA⟩⟩
    · exact ⟨g, hg2, .inr ⟨hA, by rw [hks]; exact (hg3.below hB3).more (by omega)⟩⟩
  have c6' : w3.cell? ⟨b0 + 1 + 1, 0, none⟩ = some (.slice A6 ks.length c6) := by rw [hkl]; exact (boxed_below hr6 hB3 hr6.lt).cell
  have hst := gat2I_stops 2 (b0 + 1) (b0 + 1 + 1) b0 g6 c6 N A6 ks m (by omega) hkf2 (by omega) w3 (boxed_below hr5 hB3 hr5.lt).cell c6' hs6 (map_below hrm hB3 (Nat.le_refl _)) (by omega) (by omega) (by omega)
  have hrg3 := hrg.below hB3 (Nat.le_refl _)
  have H3 := hide (And.intro hst (And.intro hbo3 (And.intro hrg3 (And.intro hB3 hks))))
  have HZ := hide hsz3
  have HW := hide hw3
  clear hkl hst hbo3 hrg hrg3 hB3 hks hr5 hr6 hrc hrs hrm c6' hs6 hkf2 hsz3 hw3
  gi_wp2_with fail
  have hsz3 := HZ.out
  rw [← HW.out]
  refine wpIn_rangeFunc_ownG rfl (by omega) (gf := 57) (lb := #[.pointer (some ⟨b0 + 1 + 1, 0, none⟩), .pointer (some ⟨b0 + 1, 0, none⟩)]) rfl trivial (enters_of Try.func57 (by kernel_rfl) rfl)
    H3.out.1 Kp3.trans (Kp3.putObj (by omega) (by omega) (by omega)) (Below.refl _ _) (fun _ => rfl)
    (fun pre W => ∃ v, Boxed W w.heap.size 45 v ∧ Own encS 1 31 W w3.heap.size v pre.length (pre.map fun x => hdrOf (m (fx ks x))) ∧ w3.grownBy W (some w.heap.size))
    (fun _ _ _ => False) ?own (fun _ _ _ _ _ hs _ _ => hs)
    ⟨_, H3.out.2.1, Own.nil, ⟨rfl, rfl, rfl, Nat.le_refl _, fun _ _ _ => rfl⟩⟩
    ?a1 ?assign ?body ?done ?stop
  case own =>
    rintro s X Y row ⟨v, hb, hp, hg⟩ hgr hr
    refine ⟨v, hb.kept hgr (fun e => ?_), hp.step hgr (fun r e => .inr (fun cs hc => ?_)), grown_row hg hgr (fun r e => (hr r e).1)⟩
    · have := (hr _ e.symm).1
      omega
    · obtain ⟨o, ho, hoc⟩ := (hr r e).2
      rw [ho] at hc
      cases hc
      cases hoc
  case assign =>
    intro l x W K hK
    gi_wp2
    exact hK
  case body =>
    rintro l pre x W ⟨v, hbx, hp, hg⟩ hlt
    have hbc := hbx.cell
    obtain ⟨p, hp0⟩ : ∃ p, p = fx ks x := ⟨_, rfl⟩
    obtain ⟨gA, gc, hgv⟩ := (H3.out.2.2.1.1 p).form
    obtain ⟨vA, vc, rfl⟩ := hp.form
    rw [← hp0, hgv]
    have hW3 : w3.heap.size ≤ W.heap.size := hg.size
    obtain ⟨X, hX⟩ : ∃ X, X = W.alloc (.cells #[.slice gA (grp key xs p).length gc] 31) := ⟨_, rfl⟩
    have hoX : Own encS 1 31 X w3.heap.size (.slice vA pre.length vc) pre.length (pre.map fun x => hdrOf (m (fx ks x))) := by rw [hX]; exact hp.alloc _
    have hbX : Boxed X w.heap.size 45 (.slice vA pre.length vc) := by rw [hX]; exact hbx.alloc _
    have hnX : Blk X W.heap.size 31 (encS (gA, (grp key xs p).length, gc)).toArray := by rw [hX]; exact Blk.new _ _ _
    have hbX' : Below W.heap.size W X := by rw [hX]; exact (Below.refl _ W).alloc (Nat.le_refl _) _
    have hszX : X.heap.size = W.heap.size + 1 := by rw [hX]; simp
    have hoX' := hoX
    have hnX' := hnX
    have hbX2 := hbX
    rw [hX] at hoX' hnX' hbX2
    have HX := hide (And.intro hg (And.intro hoX (And.intro hbX (And.intro hbX' (And.intro hp0 hgv)))))
    have HXe := hide hX
    clear hg hp hbx hgv hp0 hX hoX hbX hnX hbX'
    refine wpIn_block (wpIn_region_list (by kernel_rfl) (by rintro ⟨_, _, h⟩; exact h) ?_)
    go_wp2_with (at_builtin; refine wpList_append1 rfl _ _ _ rfl Try.underlying45 info31 rfl (by omega) encS_len encS_one rfl hoX' W.heap.size 1 (gA, (grp key xs p).length, gc) rfl hnX' (by unfold maxLen; omega) (by omega) (by simp; omega) ?_; intro g cap w5 hown5 hg5 hB5 hat5 hgb5 hlt5; have hbx5 := hbX2.kept hg5 (hbX2.not_row (by decide) hoX'.2); have hc5 := hbx5.cell; have hf5 := hbx5.frozen)
    have hT : Turns w3.heap.size w.heap.size W (w5.setCell ⟨w.heap.size, 0, none⟩ (.slice (some ⟨g, 0, none⟩) (pre.length + 1) cap)) :=
      (Turns.alloc W _).trans ((Turns.row hg5 (fun r hr => .inr ⟨(hoX'.blk r hr).1, by obtain ⟨cs, hc⟩ := hoX'.cells r hr; exact ⟨cs, _, _, hc⟩⟩)).trans (Turns.set w5 _))
    have hheap : ∀ i, i < w3.heap.size → i ≠ w.heap.size → (w5.setCell ⟨w.heap.size, 0, none⟩ (.slice (some ⟨g, 0, none⟩) (pre.length + 1) cap)).heap[i]? = W.heap[i]? := fun i hi hne => by
      have hiW : i < W.heap.size := by omega
      rw [Array.getElem?_eq_getElem hiW]
      exact hT.2.2.2.2 i _ (Array.getElem?_eq_getElem hiW) hne (.inl hi)
    refine ⟨hT.keeps (by omega), ⟨hT.2.2.2.1, hheap _ (by omega) (by omega), hheap _ (by omega) (by omega), hheap _ (by omega) (by omega)⟩, _, hbx5.set _, ?_, hT.grown HX.out.1⟩
    rw [List.map_append, List.map_cons, List.map_nil, List.length_append, List.length_singleton, ← HX.out.2.2.2.2.1, HX.out.2.2.2.2.2]
    exact hown5.step (grownBy_setCell' w5 w.heap.size _) (fun r e => .inl (by cases e; omega))
  case done =>
    rintro D ys W hD rfl ⟨v, hbx, hp, hg⟩ hK
    have hc := hbx.cell
    obtain ⟨vA, vc, rfl⟩ := hp.form
    have HX := hide (And.intro hp (And.intro hbx hg))
    clear hp hbx hg
    gi_wp2
    refine ⟨by simp, .inl ⟨_, _, rfl, run_takeDeferred hK, ?_⟩⟩
    refine ⟨_, results_tmp rfl _ _ _, _, rfl, ?_, ?_⟩
    · have hgt : groupsT key xs = ys.map (grp key xs) := by unfold groupsT; rw [H3.out.2.2.2.2]
      have hgP := grownBy_putObj' W D (.deferred none)
      rw [hgt]
      refine ⟨ys.map fun x => hdrOf (m (fx ys x)), ?_, fun i q hq => ?_⟩
      · rw [List.length_map]
        exact (HX.out.1.step hgP (fun r e => .inr (fun cs hc => by cases e; rw [hK] at hc; cases hc))).base_le (show b0 + 3 ≤ w3.heap.size by omega)
      · rw [List.getElem?_map] at hq
        obtain ⟨x, hx, rfl⟩ := Option.map_eq_some_iff.1 hq
        obtain ⟨gA, gc, hgv⟩ := (H3.out.2.2.1.1 x).form
        have hfx : fx ys x = x := fx_id (List.mem_of_getElem? hx)
        refine ⟨gA, gc, by rw [List.getElem?_map, hx]; simp [hfx, hgv, hdrOf], ?_⟩
        have h1 := (H3.out.2.2.1.1 x).kept HX.out.2.2 (by
          cases hob : (m x).ownBlock with
          | none => exact .inl rfl
          | some r =>
            refine .inr (fun e => ?_)
            injection e with e
            subst e
            obtain ⟨cs, hc⟩ := (H3.out.2.2.1.1 x).cells _ hob
            have := (show w3.heap[w.heap.size]? = _ from H3.out.2.1).symm.trans hc
            simp at this)
        rw [hgv] at h1
        exact h1.step hgP (fun r e => .inr (fun cs hc => by cases e; rw [hK] at hc; cases hc))
    · have h3 := H3.out.2.2.2.1.grown HX.out.2.2 (show w.heap.size ≤ w3.heap.size by omega) (fun r e => by cases e; omega)
      exact h3.trans (belowK_b (w := w) (Nat.le_refl _) W D _ _ (by omega) hK rfl rfl)
  case stop =>
    rintro D c pre W _ _ h _
    exact h.elim
theorem collect_any (b0 : Nat) (key : Nat → Pt) (xs : List Nat) (w : World) (hl : xs.length ≤ 1048576) (hkf : ∀ t ∈ xs, fitsP (key t)) (hgr : GatRI b0 key xs w) :
    Calls Try.prog 41 #[.func (.func 57) #[] #[.pointer (some ⟨b0 + 1 + 1, 0, none⟩), .pointer (some ⟨b0 + 1, 0, none⟩)]] w fun e w' =>
      ∃ v, e = .returned v ∧ Pcs encI 1 3 31 w' (b0 + 3) v (groupsT key xs) ∧ Below w.heap.size w w' := by
  have HA := hide (appendSeq_any b0 key xs w hl hkf hgr)
  clear hgr hkf
  go_enter Try.func41, Try.ntmps41
  go_wp2_with fail
  refine (unhide HA).mono ?_
  rintro e w1 ⟨v, rfl, hp, hB⟩
  go_wp2
  go_ret
  exact ⟨v, rfl, hp, hB⟩
end Go.Proofs.Ytgndbpkgehjelaa
/- Plain laws of layer 13: what the pieces depend on. -/
namespace Go.Proofs.Ytgndbpkgehjelaa
open Go.RowKit
def cycT (t : Tri) : Tri := (t.2.1, t.2.2, t.1)
def distT (t : Tri) : Prop := t.1 ≠ t.2.1 ∧ t.2.1 ≠ t.2.2 ∧ t.2.2 ≠ t.1
theorem distT_cyc {t : Tri} (h : distT t) : distT (cycT t) := ⟨h.2.1, h.2.2, h.1⟩
theorem ltP_not {a b : Pt} (h : a ≠ b) : ltP a b = !ltP b a := by
  cases h1 : ltP a b <;> cases h2 : ltP b a
  · exact absurd (sto_P.total _ _ h1 h2) h
  · rfl
  · rfl
  · have := sto_P.trans _ _ _ h1 h2; rw [sto_P.irrefl] at this; cases this
theorem rotT_cyc {t : Tri} (h : distT t) : rotT (cycT t) = rotT t := by
  obtain ⟨a, b, c⟩ := t
  obtain ⟨hab, hbc, hca⟩ := h
  simp only at hab hbc hca
  have e1 := ltP_not hbc.symm
  have e2 := ltP_not hca.symm
  have e3 := ltP_not hab.symm
  show (if ltP c b = true then (if ltP a c = true then (a, b, c) else (c, a, b)) else (if ltP a b = true then (a, b, c) else (b, c, a))) = (if ltP b a = true then (if ltP c b = true then (c, a, b) else (b, c, a)) else (if ltP c a = true then (c, a, b) else (a, b, c)))
  cases h1 : ltP a b <;> cases h2 : ltP b c <;> cases h3 : ltP c a <;> simp only [h1, h2, h3] at e1 e2 e3 <;> simp [e1, e2, e3]
  · have := sto_P.trans _ _ _ e1 e3
    have := sto_P.trans _ _ _ this e2
    rw [sto_P.irrefl] at this; cases this
  · have := sto_P.trans _ _ _ (sto_P.trans _ _ _ h1 h2) h3
    rw [sto_P.irrefl] at this; cases this
theorem rotT_idem (t : Tri) : rotT (rotT t) = rotT t := by
  obtain ⟨a, b, c⟩ := t
  have key : ∀ x y z : Pt, ltP y x = false → ltP z x = false → rotT (x, y, z) = (x, y, z) := fun x y z h1 h2 => by simp [rotT, h1, h2]
  unfold rotT
  simp only
  cases h1 : ltP b a <;> cases h2 : ltP c a <;> cases h3 : ltP c b <;> simp only [if_true, if_false, Bool.false_eq_true]
  · exact key _ _ _ h1 h2
  · exact key _ _ _ h1 h2
  · refine key _ _ _ ?_ ?_
    · cases h : ltP a c with
      | false => rfl
      | true => have := sto_P.trans _ _ _ h h2; rw [sto_P.irrefl] at this; cases this
    · cases h : ltP b c with
      | false => rfl
      | true => have := sto_P.trans _ _ _ h h2; rw [h1] at this; cases this
  · refine key _ _ _ ?_ ?_
    · cases h : ltP a c with
      | false => rfl
      | true => have := sto_P.trans _ _ _ h h2; rw [sto_P.irrefl] at this; cases this
    · cases h : ltP b c with
      | false => rfl
      | true => have := sto_P.trans _ _ _ h h2; rw [h1] at this; cases this
  · refine key _ _ _ h3 ?_
    cases h : ltP a b with
    | false => rfl
    | true => have := sto_P.trans _ _ _ h h1; rw [sto_P.irrefl] at this; cases this
  · refine key _ _ _ ?_ ?_
    · cases h : ltP a c with
      | false => rfl
      | true => have := sto_P.trans _ _ _ (sto_P.trans _ _ _ h h3) h1; rw [sto_P.irrefl] at this; cases this
    · cases h : ltP b c with
      | false => rfl
      | true => have := sto_P.trans _ _ _ h h3; rw [sto_P.irrefl] at this; cases this
  · refine key _ _ _ h3 ?_
    cases h : ltP a b with
    | false => rfl
    | true => have := sto_P.trans _ _ _ h h1; rw [sto_P.irrefl] at this; cases this
  · refine key _ _ _ ?_ ?_
    · cases h : ltP a c with
      | false => rfl
      | true => have := sto_P.trans _ _ _ h h2; rw [sto_P.irrefl] at this; cases this
    · cases h : ltP b c with
      | false => rfl
      | true => have := sto_P.trans _ _ _ h h3; rw [sto_P.irrefl] at this; cases this
def min3 (a b c : Int) : Int := if c < (if b < a then b else a) then c else if b < a then b else a
theorem anc_one (t : Tri) : anc [t] = (min3 t.1.1 t.2.1.1 t.2.2.1, min3 t.1.2.1 t.2.1.2.1 t.2.2.2.1, min3 t.1.2.2 t.2.1.2.2 t.2.2.2.2) := by
  simp [anc, ancT, ancN, ancP, corner, min3]
theorem min3_cyc (a b c : Int) : min3 b c a = min3 a b c := by
  unfold min3
  split <;> split <;> split <;> (try split) <;> omega
theorem keyF_cyc (b : Int) (t : Tri) : keyF b (cycT t) = keyF b t := by
  unfold keyF blockP
  rw [anc_one, anc_one]
  simp only [cycT, min3_cyc]
theorem keyF_rot (b : Int) (t : Tri) : keyF b (rotT t) = keyF b t := by
  have h2 : keyF b (t.2.2, t.1, t.2.1) = keyF b t := by
    have := keyF_cyc b (cycT t)
    rw [keyF_cyc b t] at this
    exact this
  unfold rotT
  split <;> split
  · exact h2
  · exact keyF_cyc b t
  · exact h2
  · rfl
theorem canon_perm {s t : List Tri} (h : (s.map rotT).Perm (t.map rotT)) : canonT s = canonT t := tot_T.sort_perm h
theorem grp_rot (b : Int) (ts : List Tri) (p : Pt) : (grp (keyF b) ts p).map rotT = grp (keyF b) (ts.map rotT) p := by
  rw [grp_map]
  congr 1
  exact (grp_congr (fun y _ => keyF_rot b y) p).symm
theorem keysOf_rot (b : Int) (ts : List Tri) : keysOf (keyF b) (ts.map rotT) = keysOf (keyF b) ts := by
  rw [keysOf_map]
  exact keysOf_congr (fun y _ => keyF_rot b y)
theorem keysO_set {α : Type} {key : α → Pt} {s t : List α} (h : ∀ p, p ∈ keysOf key s ↔ p ∈ keysOf key t) : keysO ltP key s = keysO ltP key t :=
  tot_P.sort_perm ((List.perm_ext_iff_of_nodup (nodup_keysOf key s) (nodup_keysOf key t)).2 h)
/-- Neither the order nor the first corners matter. -/
theorem finest_set {b most : Int} {s t : List Tri} (h : (s.map rotT).Perm (t.map rotT)) : finestT b most s = finestT b most t := by
  have hk : keysO ltP (keyF b) s = keysO ltP (keyF b) t := by
    refine keysO_set fun p => ?_
    rw [← keysOf_rot b s, ← keysOf_rot b t, mem_keysOf, mem_keysOf]
    constructor
    · rintro ⟨x, hx, e⟩; exact ⟨x, h.mem_iff.1 hx, e⟩
    · rintro ⟨x, hx, e⟩; exact ⟨x, h.mem_iff.2 hx, e⟩
  show (keysO ltP (keyF b) s).flatMap _ = (keysO ltP (keyF b) t).flatMap _
  rw [hk, List.flatMap_def, List.flatMap_def]
  congr 1
  refine List.map_congr_left fun p _ => ?_
  have hc : canonT (grp (keyF b) s p) = canonT (grp (keyF b) t p) := by
    refine canon_perm ?_
    rw [grp_rot, grp_rot]
    exact h.filter _
  unfold splitT
  rw [hc]
/-- A piece's triangles lie in the block of the piece. -/
theorem piece_key {b most : Int} {ts : List Tri} {p : Pt} {x : List Tri} (hx : x ∈ splitT most (grp (keyF b) ts p)) : (∀ t ∈ x, keyF b t = p) ∧ x ≠ [] := by
  refine ⟨fun t ht => ?_, fun e => ?_⟩
  · have h1 := (splitT_mem hx).1 t ht
    obtain ⟨u, hu, rfl⟩ := List.mem_map.1 (sortO_mem.1 (show t ∈ sortO ltT _ from h1))
    rw [keyF_rot]
    simpa using (List.mem_filter.1 hu).2
  · obtain ⟨k, hk, rfl⟩ := List.mem_map.1 hx
    have := piece_pos (L := canonT (grp (keyF b) ts p)) (m := (max most 1).toNat) (by omega) (by simpa using hk)
    rw [e] at this
    simp at this
/-- The pieces whose first triangle lies in an untouched block. -/
def untouchedT (b : Int) (touched : Pt → Bool) (ps : List (List Tri)) : List (List Tri) := ps.filter fun x => decide (0 < x.length) && !touched (blockP (x.take 1) b false)
theorem take_one_key {b : Int} {p : Pt} {x : List Tri} (h : (∀ t ∈ x, keyF b t = p) ∧ x ≠ []) : blockP (x.take 1) b false = p := by
  match x, h with
  | [], h => exact absurd rfl h.2
  | t :: r, h => exact h.1 t (by simp)
theorem untouched_finest (b most : Int) (touched : Pt → Bool) (ts : List Tri) : untouchedT b touched (finestT b most ts) = ((keysO ltP (keyF b) ts).filter fun p => !touched p).flatMap fun p => splitT most (grp (keyF b) ts p) := by
  show List.filter _ ((keysO ltP (keyF b) ts).flatMap fun p => splitT most (grp (keyF b) ts p)) = _
  rw [List.filter_flatMap]
  generalize keysO ltP (keyF b) ts = K
  induction K with
  | nil => rfl
  | cons p K ih =>
    rw [List.flatMap_cons, ih, List.filter_cons]
    have hall : ∀ x ∈ splitT most (grp (keyF b) ts p), (decide (0 < x.length) && !touched (blockP (x.take 1) b false)) = !touched p := fun x hx => by
      have h := piece_key hx
      rw [take_one_key h]
      simp [List.length_pos_iff.2 h.2]
    cases ht : touched p with
    | false =>
      rw [List.filter_eq_self.2 (fun x hx => by rw [hall x hx, ht]; rfl)]
      simp
    | true =>
      rw [List.filter_eq_nil_iff.2 (fun x hx => by rw [hall x hx, ht]; simp)]
      simp
theorem keysOf_append_mem {α : Type} {key : α → Pt} {s t : List α} {p : Pt} : p ∈ keysOf key (s ++ t) ↔ p ∈ keysOf key s ∨ p ∈ keysOf key t := by
  rw [mem_keysOf, mem_keysOf, mem_keysOf]
  constructor
  · rintro ⟨x, hx, e⟩
    rcases List.mem_append.1 hx with h | h
    · exact .inl ⟨x, h, e⟩
    · exact .inr ⟨x, h, e⟩
  · rintro (⟨x, hx, e⟩ | ⟨x, hx, e⟩)
    · exact ⟨x, by simp [hx], e⟩
    · exact ⟨x, by simp [hx], e⟩
/-- New triangles leave the pieces of all other blocks as they were. -/
theorem finest_local (b most : Int) (touched : Pt → Bool) (t u : List Tri) (ht : ∀ p, touched p = true ↔ ∃ x ∈ u, keyF b x = p) : untouchedT b touched (finestT b most t) = untouchedT b touched (finestT b most (t ++ u)) := by
  rw [untouched_finest, untouched_finest]
  have hgrp : ∀ p, touched p = false → grp (keyF b) (t ++ u) p = grp (keyF b) t p := fun p hp => by
    have hu : grp (keyF b) u p = [] := by
      refine (grp_nil (keyF b)).2 fun hm => ?_
      have := (ht p).2 ((mem_keysOf (keyF b)).1 hm)
      rw [hp] at this; cases this
    unfold grp at hu ⊢
    rw [List.filter_append, hu, List.append_nil]
  have hkeys : (keysO ltP (keyF b) t).filter (fun p => !touched p) = (keysO ltP (keyF b) (t ++ u)).filter (fun p => !touched p) := by
    have hsorted : ∀ xs : List Tri, ((keysO ltP (keyF b) xs).filter (fun p => !touched p)).Pairwise (fun a c => leO ltP a c = true) := fun xs => (tot_P.sorted _).filter _
    refine List.Perm.eq_of_pairwise (le := fun a c => leO ltP a c = true) (fun a c _ _ h1 h2 => tot_P.anti a c h1 h2) (hsorted _) (hsorted _) ?_
    refine (List.perm_ext_iff_of_nodup (keysO_nodup.filter _) (keysO_nodup.filter _)).2 fun p => ?_
    rw [List.mem_filter, List.mem_filter, keysO_mem, keysO_mem, keysOf_append_mem]
    constructor
    · rintro ⟨h1, h2⟩; exact ⟨.inl h1, h2⟩
    · rintro ⟨h1 | h1, h2⟩
      · exact ⟨h1, h2⟩
      · have := (ht p).2 ((mem_keysOf (keyF b)).1 h1)
        rw [this] at h2; cases h2
  rw [hkeys, List.flatMap_def, List.flatMap_def]
  congr 1
  refine List.map_congr_left fun p hp => ?_
  have := (List.mem_filter.1 hp).2
  rw [hgrp p (by simpa using this)]
theorem count_flatMap_grp {α : Type} [DecidableEq α] (key : α → Pt) (xs : List α) (x : α) : ∀ K : List Pt, K.Nodup → List.count x (K.flatMap (grp key xs)) = if key x ∈ K then List.count x xs else 0
  | [], _ => by simp
  | p :: K, hn => by
    obtain ⟨h1, h2⟩ := List.nodup_cons.1 hn
    rw [List.flatMap_cons, List.count_append, count_flatMap_grp key xs x K h2]
    have hg : List.count x (grp key xs p) = if key x = p then List.count x xs else 0 := by
      unfold grp
      split
      · rename_i h; exact List.count_filter (by simpa using h)
      · rename_i h
        refine List.count_eq_zero.2 fun hm => h ?_
        simpa using (List.mem_filter.1 hm).2
    rw [hg]
    by_cases hp : key x = p
    · subst hp
      rw [if_pos rfl, if_neg h1, if_pos (by simp), Nat.add_zero]
    · rw [if_neg hp, Nat.zero_add]
      by_cases hk : key x ∈ K
      · rw [if_pos hk, if_pos (by simp [hk])]
      · rw [if_neg hk, if_neg (by simp [hp, hk])]
/-- The groups together are the list. -/
theorem groups_perm {α : Type} [DecidableEq α] (key : α → Pt) (xs : List α) : List.Perm ((keysO ltP key xs).flatMap (grp key xs)) xs := by
  refine List.perm_iff_count.2 fun x => ?_
  rw [count_flatMap_grp key xs x _ keysO_nodup]
  split
  · rfl
  · rename_i h
    refine (List.count_eq_zero.2 fun hm => h ?_).symm
    exact keysO_mem.2 ((mem_keysOf key).2 ⟨x, hm, rfl⟩)
theorem split_flatten (most : Int) (ts : List Tri) : (splitT most ts).flatten = canonT ts := by
  unfold splitT
  obtain ⟨m, hm⟩ : ∃ m, m = (max most 1).toNat := ⟨_, rfl⟩
  have hm1 : 0 < m := by omega
  rw [← hm]
  generalize canonT ts = L
  have : ∀ k, ((List.range k).map (pieceT m L)).flatten = L.take (k * m) := by
    intro k
    induction k with
    | zero => simp
    | succ k ih => rw [List.range_succ, List.map_append, List.flatten_append, ih, ← take_piece]; simp
  rw [this, take_all hm1]
/-- All pieces together are the surface. -/
theorem finest_covers (b most : Int) (ts : List Tri) : canonO (finestT b most ts).flatten = canonO ts := by
  show sortO ltT _ = sortO ltT _
  refine tot_T.sort_perm ?_
  have h1 : (finestT b most ts).flatten = (keysO ltP (keyF b) ts).flatMap fun p => canonT (grp (keyF b) ts p) := by
    show ((keysO ltP (keyF b) ts).flatMap fun p => splitT most (grp (keyF b) ts p)).flatten = _
    rw [List.flatMap_def, List.flatten_flatten, List.map_map, List.flatMap_def]
    congr 1
    exact List.map_congr_left fun p _ => split_flatten most _
  rw [h1]
  have h2 : ∀ K : List Pt, List.Perm ((K.flatMap fun p => canonT (grp (keyF b) ts p)).map rotT) ((K.flatMap (grp (keyF b) ts)).map rotT) := by
    intro K
    induction K with
    | nil => exact .refl _
    | cons p K ih =>
      rw [List.flatMap_cons, List.flatMap_cons, List.map_append, List.map_append]
      refine List.Perm.append ?_ ih
      have : (canonT (grp (keyF b) ts p)).Perm ((grp (keyF b) ts p).map rotT) := sortO_perm _
      refine (this.map rotT).trans ?_
      rw [List.map_map]
      exact .of_eq (List.map_congr_left fun t _ => rotT_idem t)
  exact (h2 _).trans ((groups_perm (keyF b) ts).map rotT)
end Go.Proofs.Ytgndbpkgehjelaa
