/- Joined texts: Chunk Split Split13 Pieces. -/
import Derived.RangeFuncNested
import Derived.RangeFuncBound
import Derived.RangeFuncCalls
import Derived.RangeFuncLeaves
import Derived.RangeFuncBox
import Derived.Shelf.Abstract
import Derived.Shelf.RegionOpen
import Derived.OwnWalkIn
import Derived.TacticsInMore
import Derived.LoopNIn
import Derived.LoopIn
import Derived.Test.YtgndbpkgehjelaaCB2
import Derived.Test.YtgndbpkgehjelaaCB7
import Derived.Test.YtgndbpkgehjelaaCB19
import Derived.Test.YtgndbpkgehjelaaCB23
/- slices.Chunk at triangles: an iterator. -/
namespace Go.Proofs.Ytgndbpkgehjelaa
open Go.RowKit Go.Sort Go.Shelf
attribute [local go_sem] Oper.semAt_some

/-- How many pieces. -/
def nChunks (len m : Nat) : Nat := (len + m - 1) / m
theorem lt_nChunks {len m k : Nat} (hm : 0 < m) : k < nChunks len m ↔ k * m < len := by
  unfold nChunks
  rw [Nat.lt_div_iff_mul_lt hm]
  omega
theorem nChunks_zero {m : Nat} (hm : 0 < m) : nChunks 0 m = 0 := by
  unfold nChunks
  exact Nat.div_eq_of_lt (by omega)
theorem nChunks_le {len m : Nat} (hm : 0 < m) : nChunks len m ≤ len := by
  rcases Nat.lt_or_ge len (nChunks len m) with h | h
  · have h1 := (lt_nChunks (len := len) (k := len) hm).1 h
    have h2 : len * 1 ≤ len * m := Nat.mul_le_mul_left len hm
    omega
  · exact h
/-- Piece number k of a slice that lies at ⟨b, o⟩. -/
def chunkV (b o len m k : Nat) : Value := .slice (some ⟨b, o + k * m * 9, none⟩) (min m (len - k * m)) (min m (len - k * m))
theorem chunk_any (A : Option Addr) (len c : Nat) (m : Int) (hm : 1 ≤ m) (w : World) :
    Calls Try.prog 35 #[.slice A len c, .int .i64 m] w fun e w' => e = .returned (.func (.func 46) #[] #[.pointer (some ⟨w.heap.size, 0, none⟩), .pointer (some ⟨w.heap.size + 1, 0, none⟩)]) ∧
      w' = (w.alloc (.cells #[.slice A len c] 27)).alloc (.cells #[.int .i64 m] 3) := by
  go_enter Try.func35, Try.ntmps35
  go_wp2
  go_ret
  exact ⟨rfl, rfl⟩
/-- What a round must keep: the two captured cells. -/
def Kp2 (b0 b1 : Nat) (W W' : World) : Prop := W'.cell? ⟨b0, 0, none⟩ = W.cell? ⟨b0, 0, none⟩ ∧ W'.cell? ⟨b1, 0, none⟩ = W.cell? ⟨b1, 0, none⟩
theorem Kp2.trans {b0 b1 : Nat} {A B C : World} (h : Kp2 b0 b1 A B) (k : Kp2 b0 b1 B C) : Kp2 b0 b1 A C := ⟨k.1.trans h.1, k.2.trans h.2⟩
theorem Kp2.putObj {b0 b1 n : Nat} (h0 : b0 < n) (h1 : b1 < n) (W : World) (l : Nat) (o o' : Obj) (hl : n ≤ l) (h : W.heap[l]? = some o) (_ : o.isCells = false) (_ : o.isWalk = false) : Kp2 b0 b1 W (W.putObj l o') := by
  have hb : Below n W (W.putObj l o') := (Below.refl n W).grown (grownBy_putObj' W l o') (by have := (Array.getElem?_eq_some_iff.1 h).1; omega) (fun k e => by cases e; omega)
  exact ⟨hb.cell (p := ⟨b0, 0, none⟩) h0, hb.cell (p := ⟨b1, 0, none⟩) h1⟩
set_option maxRecDepth 100000 in
set_option maxHeartbeats 2000000 in
theorem chunk1_in (n l b0 b1 b o len c m : Nat) (hl : len ≤ 4294967296) (hc : len ≤ c) (hm : 0 < m) (hm2 : m ≤ 9223372036854775807) (hn : 1 ≤ n) (J Jx : List Nat → World → Prop)
    (hA : ∀ s W, J s W → J s W.drew) (hY : ∀ pre x W, J pre W → pre.length < nChunks len m → YieldAt Fence.wide (n - 1) Try.prog l #[chunkV b o len m x] W fun e W' =>
      (e = .returned (.bool true) ∧ J (pre ++ [x]) W' ∧ Kp2 b0 b1 W W') ∨ (e = .returned (.bool false) ∧ Jx (pre ++ [x]) W'))
    (W : World) (h0 : W.cell? ⟨b0, 0, none⟩ = some (.slice (some ⟨b, o, none⟩) len c)) (h1 : W.cell? ⟨b1, 0, none⟩ = some (.int .i64 m)) (hJ : J [] W) :
    CallsIn Fence.wide n Try.prog 46 #[.func (.yield l) #[] #[], .pointer (some ⟨b0, 0, none⟩), .pointer (some ⟨b1, 0, none⟩)] W fun e W' => (∃ v, e = .returned v) ∧
      ((∃ ys, ys = List.range (nChunks len m) ∧ J ys W') ∨ (∃ pre, (∃ k, pre = List.range k) ∧ Jx pre W')) := by
  refine callsIn_of_wp Try.func46 rfl trivial ?_ rfl
  simp only [Try.ntmps46, List.size_toArray, List.length_cons, List.length_nil, Nat.reduceAdd, Nat.reduceSub, Array.replicate_succ, Array.replicate_zero, List.push_toArray, List.append_toArray, List.nil_append, List.cons_append]
  gi_wp2
  gi_loopw [4] (fun i wr => ∃ k t : Nat, t = k * m ∧ k ≤ nChunks len m ∧ i = .int .i64 (t : Int) ∧ J (List.range k) wr ∧ wr.cell? ⟨b0, 0, none⟩ = some (.slice (some ⟨b, o, none⟩) len c) ∧ wr.cell? ⟨b1, 0, none⟩ = some (.int .i64 m))
    (fun i _ => len - (intOf i).toNat)
  case atStart => exact ⟨0, 0, by simp, Nat.zero_le _, rfl, hJ, h0, h1⟩
  case round =>
    obtain ⟨k, t, ht, hk, rfl, hJs, c0, c1⟩ := hrel
    have hkt := lt_nChunks (len := len) (k := k) hm
    rw [← ht] at hkt
    have HT := hide ht
    have HK := hide hkt
    clear ht hkt h0 h1
    by_cases hlt : t < len
    · obtain ⟨e, he⟩ : ∃ e, e = min m (len - t) := ⟨_, rfl⟩
      have hmin : min (m : Int) ((len - t : Nat) : Int) = (e : Int) := by rw [he]; omega
      have HE := hide he
      have hte : t + e ≤ len := by omega
      have hte2 : t + e ≤ c := by omega
      have he1 : 0 < e := by omega
      clear he
      have i0 : (0 : Int) ≤ (t : Int) := Int.natCast_nonneg _
      have i1 : (t : Int) < (len : Int) := by omega
      have i2 : (t : Int) ≤ (len : Int) := by omega
      have i3 : (len : Int) ≤ (c : Int) := by omega
      gi_wp2
      refine wpIn_wide.2 ?_
      go_region_held3 (fun w' => w'.cell? ⟨b0, 0, none⟩ = some (.slice (some ⟨b, o, none⟩) len c) ∧ w'.cell? ⟨b1, 0, none⟩ = some (.int .i64 m)) (go_keep) (fail)
      have hJd : J (List.range k) wr.drew := hA _ _ hJs
      obtain ⟨fn, tmps, assign, body, hy, hR⟩ := hY _ k wr.drew hJd (by rw [List.length_range]; exact HK.out.2 hlt)
      have hcv : chunkV b o len m k = .slice (some ⟨b, o + t * 9, none⟩) e e := by unfold chunkV; rw [← HT.out, ← HE.out]
      rw [hcv] at hy
      have htm : (t : Int) + (m : Int) ≤ 9223372036854775807 := by
        rcases Nat.eq_zero_or_pos k with h0 | h0
        · have := HT.out; rw [h0] at this; omega
        · have := HT.out
          have h2 : 1 * m ≤ k * m := Nat.mul_le_mul_right m h0
          omega
      clear hJd hJs
      gi_wp2
      refine hR.mono ?_
      rintro e' W3 (⟨rfl, hJ3, hk3⟩ | ⟨rfl, hJx3⟩)
      · have c13 : W3.cell? ⟨b1, 0, none⟩ = some (.int .i64 m) := hk3.2.trans c1
        have c03 : W3.cell? ⟨b0, 0, none⟩ = some (.slice (some ⟨b, o, none⟩) len c) := hk3.1.trans c0
        clear hk3
        gi_wp2
        go_roundw
        case rel => exact ⟨k + 1, t + m, by rw [HT.out, Nat.add_mul, Nat.one_mul], HK.out.2 hlt, by go_num, by rw [List.range_succ]; exact hJ3, c03, c13⟩
        case measure => simp [intOf]; omega
      · gi_wp2
        refine bodyPost_ret (results_none rfl _ _ _) rfl ?_
        exact ⟨⟨_, rfl⟩, .inr ⟨_, ⟨k + 1, List.range_succ.symm⟩, hJx3⟩⟩
    · have hke : k = nChunks len m := by
        have : ¬ k < nChunks len m := fun h => hlt (HK.out.1 h)
        omega
      have HKE := hide hke
      clear hke
      gi_wp2
      go_end0
      exact ⟨⟨_, rfl⟩, .inl ⟨_, rfl, by rw [← HKE.out]; exact hJs⟩⟩
set_option maxRecDepth 100000 in
/-- .. of the nil slice: no round. -/
theorem chunk1_nil (n l b0 b1 c : Nat) (J : List Nat → World → Prop) (W : World) (h0 : W.cell? ⟨b0, 0, none⟩ = some (.slice none 0 c)) (hJ : J [] W) :
    CallsIn Fence.wide n Try.prog 46 #[.func (.yield l) #[] #[], .pointer (some ⟨b0, 0, none⟩), .pointer (some ⟨b1, 0, none⟩)] W fun e W' => (∃ v, e = .returned v) ∧ J [] W' := by
  refine callsIn_of_wp Try.func46 rfl trivial ?_ rfl
  simp only [Try.ntmps46, List.size_toArray, List.length_cons, List.length_nil, Nat.reduceAdd, Nat.reduceSub, Array.replicate_succ, Array.replicate_zero, List.push_toArray, List.append_toArray, List.nil_append, List.cons_append]
  gi_wp2
  gi_loopw [4] (fun i wr => i = .int .i64 0 ∧ J [] wr ∧ W = wr) (fun _ _ => 0)
  case atStart => exact ⟨rfl, hJ, rfl⟩
  case round =>
    obtain ⟨rfl, hJs, rfl⟩ := hrel
    gi_wp2
    go_end0
    exact ⟨⟨_, rfl⟩, hJs⟩
/-- What an iterator over the pieces hands over. -/
theorem chunk_stops (n b0 b1 c m : Nat) (A : Option Addr) (ts : List Tri) (w : World) (hl : ts.length ≤ 4294967296) (hc : ts.length ≤ c) (hm : 0 < m) (hm2 : m ≤ 9223372036854775807) (hn : 1 ≤ n) (hb0 : b0 < w.heap.size) (hb1 : b1 < w.heap.size)
    (h0 : w.cell? ⟨b0, 0, none⟩ = some (.slice A ts.length c)) (h1 : w.cell? ⟨b1, 0, none⟩ = some (.int .i64 m)) (b o : Nat) (hA : ts = [] ∧ A = none ∨ A = some ⟨b, o, none⟩) :
    SeqStopsK Fence.wide n Try.prog 46 #[.pointer (some ⟨b0, 0, none⟩), .pointer (some ⟨b1, 0, none⟩)] (fun x : Nat => #[chunkV b o ts.length m x]) (Kp2 b0 b1)
      (fun ys => ys = List.range (nChunks ts.length m)) (fun pre => ∃ k, pre = List.range k) (nChunks ts.length m) w := fun l J Jx W hW hJa hJxa hY hJ => by
  have h0' := (hW.cell (p := ⟨b0, 0, none⟩) hb0).trans h0
  have h1' := (hW.cell (p := ⟨b1, 0, none⟩) hb1).trans h1
  rcases hA with ⟨rfl, rfl⟩ | rfl
  · have hz : nChunks ([] : List Tri).length m = 0 := by
      unfold nChunks
      show (0 + m - 1) / m = 0
      exact Nat.div_eq_of_lt (by omega)
    refine (chunk1_nil n l b0 b1 c J W h0' hJ).mono ?_
    rintro e W' ⟨he, hJ'⟩
    exact ⟨he, .inl ⟨[], by rw [hz]; rfl, hJ'⟩⟩
  · refine chunk1_in n l b0 b1 b o ts.length c m hl hc hm hm2 hn J Jx (fun s V h => hJa s V V.drew none h ⟨rfl, rfl, rfl, Nat.le_refl _, fun _ _ _ => rfl⟩ (fun _ h => by cases h)) ?_ W h0' h1' hJ
    exact hY
end Go.Proofs.Ytgndbpkgehjelaa
/- cluster.Split. -/
namespace Go.Proofs.Ytgndbpkgehjelaa
open Go.RowKit Go.Sort Go.Shelf
attribute [local go_sem] Oper.semAt_some

/-- Piece number k. -/
def pieceT (m : Nat) (ts : List Tri) (k : Nat) : List Tri := (ts.drop (k * m)).take m
def splitT (most : Int) (ts : List Tri) : List (List Tri) := (List.range (nChunks (canonT ts).length (max most 1).toNat)).map (pieceT (max most 1).toNat (canonT ts))
theorem pieceT_length (m : Nat) (ts : List Tri) (k : Nat) : (pieceT m ts k).length = min m (ts.length - k * m) := by
  simp [pieceT]
/-- A piece reads as it should. -/
theorem Sl.piece {w : World} {B b o : Nat} {ts : List Tri} (m k : Nat) (h : Sl encT 9 w B (some ⟨b, o, none⟩) ts) : Sl encT 9 w B (some ⟨b, o + k * m * 9, none⟩) (pieceT m ts k) := by
  rcases h with ⟨_, h⟩ | ⟨b', o', ha, hb, hc⟩
  · cases h
  · cases ha
    refine .inr ⟨b, _, rfl, hb, fun i x hx j u hu => ?_⟩
    have hx' : ts[k * m + i]? = some x := by
      unfold pieceT at hx
      rw [List.getElem?_take] at hx
      split at hx
      · rwa [List.getElem?_drop] at hx
      · cases hx
    have := hc _ x hx' j u hu
    rw [Nat.add_mul, ← Nat.add_assoc] at this
    exact this
theorem info27 : (Try.prog.info? 27).map (fun i => (i.zero, i.size, i.bytes)) = some (some (.slice none 0 0), 1, 24) := by kernel_rfl
theorem canonT_length (ts : List Tri) : (canonT ts).length = ts.length := by simp [canonT, sortT]
set_option maxRecDepth 100000 in
set_option maxHeartbeats 2000000 in
theorem split_any (A : Option Addr) (c : Nat) (most : Int) (ts : List Tri) (w : World) (hs : Sl encT 9 w w.heap.size A ts) (hl : ts.length ≤ 4294967296) (hm : most ≤ 9223372036854775807) :
    Calls Try.prog 17 #[.slice A ts.length c, .int .i64 most] w fun e w' => ∃ v, e = .returned v ∧ Pcs encT 9 26 27 w' w.heap.size v (splitT most ts) ∧ Below w.heap.size w w' := by
  refine callsIn_wide.1 (callsIn_of_wp_marks (n := 3) Try.func17 rfl trivial ?_ rfl)
  simp only [Try.ntmps17, List.size_toArray, List.length_cons, List.length_nil, Nat.reduceAdd, Nat.reduceSub, Array.replicate_succ, Array.replicate_zero, List.push_toArray, List.append_toArray, List.nil_append, List.cons_append]
  obtain ⟨m, hmm⟩ : ∃ m : Nat, max most 1 = (m : Int) ∧ 1 ≤ m ∧ m ≤ 9223372036854775807 := ⟨(max most 1).toNat, by omega, by omega, by omega⟩
  have hs1 : Sl encT 9 (w.alloc (.cells #[.slice none 0 0] 28)) (w.alloc (.cells #[.slice none 0 0] 28)).heap.size A ts := (hs.below ((Below.refl _ w).alloc (Nat.le_refl _) _)).more (by simp)
  have HS := hide hs1
  have HM := hide hmm
  clear hs hs1 hmm
  gi_wp2_with fail
  refine ⟨trivial, callsIn_wide.2 ((canon_any A c ts _ HS.out hl).mono ?_)⟩
  rintro e w2 ⟨A2, c2, rfl, hB2, hs2, hc2, hpl⟩
  have hcl : (canonT ts).length = ts.length := canonT_length ts
  have hmax := HM.out.1
  have HP := hide (And.intro hB2 (And.intro hs2 (And.intro hc2 (And.intro hpl hcl))))
  clear hB2 hs2 hc2 hpl hcl
  gi_wp2_with fail
  refine ⟨trivial, callsIn_wide.2 ((chunk_any A2 ts.length c2 m (by have := HM.out; omega) w2).mono ?_)⟩
  rintro e w3 ⟨rfl, hw3⟩
  have HW3 := hide hw3
  have hsz3 : w3.heap.size = w2.heap.size + 2 := by rw [hw3]; simp
  have hd0 : w3.cell? ⟨w2.heap.size, 0, none⟩ = some (.slice A2 (canonT ts).length c2) := by
    rw [hw3, HP.out.2.2.2.2]
    exact ((Blk.new w2 _ _).alloc _).cell 0
  have hd1 : w3.cell? ⟨w2.heap.size + 1, 0, none⟩ = some (.int .i64 m) := by
    rw [hw3]
    have := (Blk.new (w2.alloc (.cells #[.slice A2 ts.length c2] 27)) 3 #[.int .i64 m]).cell 0
    rwa [World.size_alloc] at this
  have hB23 : Below w2.heap.size w2 w3 := by rw [hw3]; exact ((Below.refl _ w2).alloc (Nat.le_refl _) _).alloc (by simp) _
  have hbox : Boxed w3 w.heap.size 28 (.slice none 0 0) := by
    have h0 : Boxed (w.alloc (.cells #[.slice none 0 0] 28)) w.heap.size 28 (.slice none 0 0) := Boxed.new _ _ _
    have h1 : w.heap.size < (w.alloc (.cells #[.slice none 0 0] 28)).heap.size := by simp
    exact (hB23.block _ (Nat.lt_of_lt_of_le h1 HP.out.1.size)).trans ((HP.out.1.block _ h1).trans h0)
  have hsz2 : w.heap.size + 1 ≤ w2.heap.size := by have := HP.out.1.size; simp at this; exact this
  obtain ⟨b, o, hbo⟩ : ∃ b o, canonT ts = [] ∧ A2 = none ∨ A2 = some ⟨b, o, none⟩ := by
    rcases HP.out.2.1 with h | ⟨b, o, h, _⟩
    · exact ⟨0, 0, .inl h⟩
    · exact ⟨b, o, .inr h⟩
  have hm1 := HM.out.2.1
  have hm2 := HM.out.2.2
  have hst := chunk_stops 2 w2.heap.size (w2.heap.size + 1) c2 m A2 (canonT ts) w3 (by rw [HP.out.2.2.2.2]; exact hl) (by rw [HP.out.2.2.2.2]; exact HP.out.2.2.1) (by omega) hm2 (by omega) (by omega) (by omega) hd0 hd1 b o hbo
  have HD := hide (And.intro hst (And.intro hbox (And.intro hB23 hbo)))
  clear hst hd0 hd1 hw3 hbox hB23 hbo
  have HN : nChunks (canonT ts).length m ≤ 4294967296 := by
    have h1 := nChunks_le (len := (canonT ts).length) (m := m) (by omega)
    have h2 := HP.out.2.2.2.2
    omega
  gi_wp2_with fail
  refine wpIn_rangeFunc_ownG rfl (by omega) (gf := 46) (lb := #[.pointer (some ⟨w2.heap.size, 0, none⟩), .pointer (some ⟨w2.heap.size + 1, 0, none⟩)]) rfl trivial (enters_of Try.func46 (by kernel_rfl) rfl)
    HD.out.1 Kp2.trans (Kp2.putObj (by omega) (by omega)) (Below.refl _ _) (fun _ => rfl)
    (fun pre W => ∃ v, Boxed W w.heap.size 28 v ∧ Pcs encT 9 26 27 W w3.heap.size v (pre.map (pieceT m (canonT ts))) ∧ w3.grownBy W (some w.heap.size))
    (fun _ _ _ => False) ?own (fun _ _ _ _ _ hs _ _ => hs)
    ⟨_, HD.out.2.1, Pcs.nil, ⟨rfl, rfl, rfl, Nat.le_refl _, fun _ _ _ => rfl⟩⟩
    ?a1 ?assign ?body ?done ?stop
  case own =>
    rintro s X Y row ⟨v, hb, hp, hg⟩ hgr hr
    refine ⟨v, hb.kept hgr (fun e => ?_), hp.step hgr (fun r e => .inr (hr r e).2), grown_row hg hgr (fun r e => (hr r e).1)⟩
    have := (hr _ e.symm).1
    omega
  case assign =>
    intro l x W K hK
    gi_wp2
    exact hK
  case body =>
    rintro l pre x W ⟨v, hbx, hp, hg⟩ hlt
    have hbc := hbx.cell
    have hx : chunkV b o (canonT ts).length m x = .slice (some ⟨b, o + x * m * 9, none⟩) (pieceT m (canonT ts) x).length (pieceT m (canonT ts) x).length := by
      rw [pieceT_length]; rfl
    obtain ⟨P, hP⟩ : ∃ P, P = pieceT m (canonT ts) x := ⟨_, rfl⟩
    obtain ⟨PA, hPA⟩ : ∃ PA, PA = some (⟨b, o + x * m * 9, none⟩ : Addr) := ⟨_, rfl⟩
    have hsP : Sl encT 9 W W.heap.size PA P := by
      have hA2 : A2 = some ⟨b, o, none⟩ := by
        rcases HD.out.2.2.2 with ⟨h0, _⟩ | h
        · rw [h0] at hlt
          rw [List.length_nil, nChunks_zero (by omega)] at hlt
          omega
        · exact h
      have h2 := HP.out.2.1
      have hbb : w.heap.size + 1 ≤ b := by
        rcases HP.out.2.2.2.1 with ⟨_, h0⟩ | ⟨g, hg', hg1, _⟩
        · rw [hA2] at h0; cases h0
        · rw [hA2] at hg'; cases hg'
          simp at hg1; exact hg1
      rw [hA2] at h2
      have h3 := ((h2.below HD.out.2.2.1).grown hg (by omega) (by simp; omega)).more (B' := W.heap.size) (by have := hg.size; omega)
      rw [hPA, hP]
      exact h3.piece m x
    have hPl : P.length ≤ 4294967296 := by
      have := HP.out.2.2.2.2
      rw [hP, pieceT_length]; omega
    rw [← hP, ← hPA] at hx
    rw [hx]
    obtain ⟨vA, vc, rfl⟩ := hp.form
    have HX := hide (And.intro hx (And.intro hg (And.intro hsP (And.intro hp hbx))))
    have HPE := hide (And.intro hP hPA)
    have hnp : (List.map (pieceT m (canonT ts)) pre).length = pre.length := List.length_map ..
    rw [hnp] at hbc HX
    clear hx hg hsP hp hbx hP hPA
    gi_wp2_with fail
    refine wpIn_region_mix (fun W' => W'.cell? ⟨w.heap.size, 0, none⟩ = some (.slice vA pre.length vc)) [0] [0, 1, 2, 3, 4, 5] mixed_ok (by kernel_rfl) (by kernel_rfl) (by rintro ⟨_, _, h⟩; exact h) ?_
    refine wpMix_q (v := .slice vA pre.length vc) rfl rfl (fun _ _ _ h => h) hbc ⟨rfl, fun W' h' => by simp [go_sem, h']⟩ ?_
    refine wpMix_n rfl rfl ?_
    have hBW : Below W.heap.size W W.drew := below_drewN (Below.refl _ W) 1
    go_wp2_with fail
    refine ⟨fun _ => hbc, ?_⟩
    refine wpMix_n rfl rfl ?_
    go_wp2_with fail
    refine (clone_any PA P.length P W.heap.size W.drew HX.out.2.2.1 hPl).mono ?_
    rintro e w4 ⟨u4, rfl, hown4, hB4⟩
    obtain ⟨cA, cc, rfl⟩ := hown4.form
    have hbc4 : w4.cell? ⟨w.heap.size, 0, none⟩ = some (.slice vA pre.length vc) := (hB4.cell (p := ⟨w.heap.size, 0, none⟩) HX.out.2.2.2.2.lt).trans hbc
    have HO := hide (And.intro hown4 hB4)
    clear hown4 hB4
    go_wp2_with fail
    refine ⟨fun _ => hbc4, ?_⟩
    refine wpMix_n rfl rfl ?_
    go_wp2_with fail
    refine ⟨fun _ => ?_, ?_⟩
    · show (w4.alloc _).cell? _ = _
      have h4 : w.heap.size < w4.heap.size := Nat.lt_of_lt_of_le HX.out.2.2.2.2.lt HO.out.2.size
      exact (((Below.refl _ w4).alloc (Nat.le_refl _) _).cell (p := ⟨w.heap.size, 0, none⟩) h4).trans hbc4
    refine wpMix_tail _ [_, _] (by kernel_rfl) rfl ?_
    simp only [List.getElem_toArray, List.getElem_cons_succ, List.getElem_cons_zero]
    have hB04 : Below W.heap.size W w4 := hBW.trans (show Below W.heap.size W.drew w4 from HO.out.2)
    have hp4 : Pcs encT 9 26 27 (w4.alloc (.cells #[.slice cA P.length cc] 27)) w3.heap.size (.slice vA pre.length vc) (pre.map (pieceT m (canonT ts))) := (HX.out.2.2.2.1.below hB04 (Nat.le_refl _)).alloc _
    obtain ⟨ss, hss4, hpp4⟩ := hp4
    have hW3 : w3.heap.size ≤ W.heap.size := HX.out.2.1.size
    have hW4 : W.heap.size ≤ w4.heap.size := HO.out.2.size
    have hss4' := hss4
    rw [hnp] at hss4'
    have hbx4 : Boxed (w4.alloc (.cells #[.slice cA P.length cc] 27)) w.heap.size 28 (.slice vA pre.length vc) := Boxed.alloc ((hB04.block _ HX.out.2.2.2.2.lt).trans HX.out.2.2.2.2) _
    have HQ := hide (And.intro hss4 (And.intro hpp4 hB04))
    clear hss4 hpp4 hB04
    go_wp2_with (at_builtin; refine wpList_append1 rfl _ _ _ rfl Try.underlying28 info27 rfl (by omega) encS_len encS_one rfl hss4' w4.heap.size 1 (cA, P.length, cc) rfl (Blk.new _ _ _) (by unfold maxLen; omega) (by omega) (by simp; omega) ?_; intro g cap w5 hown5 hg5 hB5 hat5 hgb5 hlt5; have hbx5 := hbx4.kept hg5 (hbx4.not_row (by decide) hss4'.2); have hc5 := hbx5.cell; have hf5 := hbx5.frozen)
    have hT : Turns w3.heap.size w.heap.size W (w5.setCell ⟨w.heap.size, 0, none⟩ (.slice (some ⟨g, 0, none⟩) (pre.length + 1) cap)) :=
      (Turns.of_below HQ.out.2.2).trans ((Turns.alloc w4 _).trans ((Turns.row hg5 (fun r hr => .inr ⟨(hss4'.blk r hr).1, by obtain ⟨cs, hc⟩ := hss4'.cells r hr; exact ⟨cs, _, _, hc⟩⟩)).trans (Turns.set w5 _)))
    refine ⟨hT.keeps (by omega), ⟨hT.cell (by simp; omega) (by simp; omega) (by simp; omega), hT.cell (by simp; omega) (by simp; omega) (by simp; omega)⟩, _, hbx5.set _, ?_, hT.grown HX.out.2.1⟩
    rw [List.map_append, List.map_cons, List.map_nil, ← HPE.out.1]
    refine Pcs.step (Pcs.snoc (by decide) HQ.out.1 HQ.out.2.1 ((HO.out.1.base_le (show w3.heap.size ≤ W.drew.heap.size from hW3)).alloc _) hg5 ?_) (grownBy_setCell' w5 w.heap.size _) (fun r e => .inl (by cases e; omega))
    rw [hnp]
    exact hown5
  case done =>
    rintro D ys W hD rfl ⟨v, hbx, hp, hg⟩ hK
    have hc := hbx.cell
    obtain ⟨vA, vc, rfl⟩ := hp.form
    have HX := hide (And.intro hp (And.intro hbx hg))
    have hps : Try.prog = Try.prog := rfl
    clear hp hbx hg
    gi_wp2
    refine ⟨by simp, .inl ⟨_, _, rfl, run_takeDeferred hK, ?_⟩⟩
    refine ⟨_, results_tmp rfl _ _ _, _, rfl, ?_, ?_⟩
    · have := HX.out.1.step (grownBy_putObj' W D (.deferred none)) (fun r e => .inr (by cases e; exact ⟨_, hK, rfl⟩))
      simp only [List.length_map, List.length_range] at this
      have hh := HM.out.1
      unfold splitT
      rw [hh, Int.toNat_natCast]
      exact this.base_le (show w.heap.size ≤ w3.heap.size by omega)
    · have h1 : Below w.heap.size w (w.alloc (.cells #[.slice none 0 0] 28)) := (Below.refl _ w).alloc (Nat.le_refl _) _
      have h2 := (h1.trans (HP.out.1.mono (by simp))).trans (HD.out.2.2.1.mono (show w.heap.size ≤ w2.heap.size by omega))
      have h3 := h2.grown HX.out.2.2 (show w.heap.size ≤ w3.heap.size by omega) (fun r e => by cases e; exact Nat.le_refl _)
      exact h3.trans (belowK_b (w := w) (Nat.le_refl _) W D _ _ (by omega) hK rfl rfl)
  case stop =>
    rintro D c pre W _ _ h _
    exact h.elim
end Go.Proofs.Ytgndbpkgehjelaa
/- ref13.Split: the same pieces. -/
namespace Go.Proofs.Ytgndbpkgehjelaa
open Go.RowKit Go.Sort
theorem canonO_eq (ts : List Tri) : canonO ts = canonT ts := rfl
set_option maxRecDepth 100000 in
set_option maxHeartbeats 4000000 in
theorem split13_any (A : Option Addr) (c : Nat) (most : Int) (ts : List Tri) (w : World) (hs : Sl encT 9 w w.heap.size A ts) (hl : ts.length ≤ 2147483648) (hm : most ≤ 9223372036854775807) (hf : ∀ t ∈ ts, fitsT t) :
    Calls Try.prog 19 #[.slice A ts.length c, .int .i64 most] w fun e w' => ∃ v, e = .returned v ∧ Pcs encT 9 26 27 w' w.heap.size v (splitT most ts) ∧ Below w.heap.size w w' := by
  obtain ⟨m, hmm⟩ : ∃ m : Nat, max most 1 = (m : Int) ∧ 1 ≤ m ∧ m ≤ 9223372036854775807 := ⟨(max most 1).toNat, by omega, by omega, by omega⟩
  have hmax := hmm.1
  have HM := hide hmm
  have HF := hide (And.intro hs hf)
  clear hmm hf hs
  go_enter Try.func19, Try.ntmps19
  go_wp2_with fail
  refine (canon04_any A c ts _ HF.out.1 hl HF.out.2).mono ?_
  rintro e w1 ⟨A1, c1, rfl, hB1, hs1, hc1⟩
  obtain ⟨L, hL⟩ : ∃ L, L = canonO ts := ⟨_, rfl⟩
  have hLl : L.length = ts.length := by rw [hL, canonO_length]
  rw [← hL] at hs1
  rw [← hLl] at hc1 ⊢
  have hl' : L.length ≤ 2147483648 := by omega
  have HB := hide (And.intro hB1 (And.intro hs1 (And.intro hc1 (And.intro hL hLl))))
  clear hB1 hs1 hc1 hL hLl hl hmax
  have hmax := HM.out.1
  go_wp2
  go_loopw [5, 6] (fun cs out wr => ∃ (k : Nat) (A5 : Option Addr) (c5 : Nat), k ≤ nChunks L.length m ∧ cs = .slice A5 (L.drop (k * m)).length c5 ∧ (L.drop (k * m)).length ≤ c5 ∧ Sl encT 9 wr w1.heap.size A5 (L.drop (k * m)) ∧ Pcs encT 9 26 27 wr w1.heap.size out ((List.range k).map (pieceT m L)) ∧ Below w1.heap.size w1 wr) (fun cs _ _ => match cs with | .slice _ n _ => n | _ => 0)
  case atStart => exact ⟨0, A1, c1, Nat.zero_le _, by simp, by simpa using HB.out.2.2.1, by simpa using HB.out.2.1, Pcs.nil, Below.refl _ _⟩
  case round =>
    obtain ⟨k, A5, c5, hk, rfl, hc5, hs5, hp, hB⟩ := hrel
    obtain ⟨rest, hrest⟩ : ∃ rest, rest = L.drop (k * m) := ⟨_, rfl⟩
    rw [← hrest] at hc5 hs5 ⊢
    have hrl : rest.length = L.length - k * m := by rw [hrest, List.length_drop]
    have hrl2 : rest.length ≤ 2147483648 := by omega
    have hszB := hB.size
    obtain ⟨vA, vc, rfl⟩ := hp.form
    by_cases hpos : 0 < rest.length
    · obtain ⟨e, he⟩ : ∃ e : Nat, e = min m rest.length := ⟨_, rfl⟩
      have hm1 := HM.out.2
      have he1 : 1 ≤ e ∧ e ≤ rest.length ∧ e ≤ m := by omega
      have hmin : min (m : Int) (rest.length : Int) = (e : Int) := by omega
      have hkm : k * m < L.length := by omega
      have hk1 : k < nChunks L.length m := (lt_nChunks (by omega)).2 hkm
      obtain ⟨P, hP⟩ : ∃ P, P = pieceT m L k := ⟨_, rfl⟩
      have hPr : P = rest.take e := by
        rw [hP, pieceT, ← hrest]
        rcases Nat.le_total m rest.length with h | h
        · rw [he, Nat.min_eq_left h]
        · rw [he, Nat.min_eq_right h, List.take_length, List.take_of_length_le h]
      have hPl : P.length = e := by rw [hPr, List.length_take]; omega
      have hsP : Sl encT 9 wr w1.heap.size A5 P := by rw [hPr]; exact hs5.take e
      have hrunH : ∀ V : World, (Instr.slice 27 (.slice A5 rest.length c5) none (some (.int .i64 e)) none).run Try.prog V = .ok (.slice A5 P.length c5) V := fun V => by
        rw [hPl]; exact run_cutH Try.underlying27 Try.sizeOf26 he1.2.1 hc5 V
      have hcut : Sl encT 9 wr w1.heap.size (cutA A5 c5 e 9) (rest.drop e) := hs5.cut he1.2.1 hc5
      have hrunL : ∀ V : World, (Instr.slice 27 (.slice A5 rest.length c5) (some (.int .i64 e)) none none).run Try.prog V = .ok (.slice (cutA A5 c5 e 9) (rest.length - e) (c5 - e)) V := fun V =>
        run_cut Try.underlying27 Try.sizeOf26 he1.2.1 V
      have hdrop : rest.drop e = L.drop ((k + 1) * m) := by
        rcases Nat.le_total m rest.length with h | h
        · rw [he, Nat.min_eq_left h, hrest, List.drop_drop, Nat.add_mul, Nat.one_mul]
        · rw [he, Nat.min_eq_right h, List.drop_length, List.drop_eq_nil_of_le (by rw [Nat.add_mul]; omega)]
      have hd : decide ((0 : Int) < (rest.length : Int)) = true := by simp; omega
      have hpl : ((List.range k).map (pieceT m L)).length = k := by simp
      have hkb : k ≤ 2147483648 := by have := nChunks_le (len := L.length) (m := m) (by omega); omega
      have hpb : P.length ≤ 2147483648 := by omega
      have HR := hide (And.intro hsP (And.intro hp (And.intro hB (And.intro hP (And.intro hcut (And.intro hdrop (And.intro hc5 (And.intro hPl (And.intro hk1 (And.intro he1 hszB))))))))))
      clear hsP hp hB hP hcut hdrop hc5 hPl hk1 hk he1 hs5 hrest hrl hkm he hm1 hPr hpl hszB
      have hpl : ((List.range k).map (pieceT m L)).length = k := by simp
      rw [hpl]
      have HPL := hide hpl
      clear hpl
      go_wp2_with (first
        | (at_builtin; refine wpList_append1 rfl _ _ _ rfl Try.underlying28 infoLT rfl (by omega) encS_len encS_one rfl hss' w2.heap.size 1 (Aq, P.length, cq) rfl (Blk.new _ _ _) (by unfold maxLen; omega) (by omega) (by simp; omega) ?_; intro g cap w5 hown5 hg5 hB5 hat5 hgb5 hlt5)
        | (at_builtin; refine wpList_appendS rfl _ _ _ rfl Try.underlying27 infoT rfl (by omega) encT_len encT_one rfl (Own.nil (base := w1.heap.size)) A5 c5 w1.heap.size P rfl HR.out.1 (by unfold maxLen; omega) (by omega) HR.out.2.2.2.2.2.2.2.2.2.2 ?_; intro v2 w2 hown2 hg2 hB2 hat2; rw [Nat.zero_add, List.nil_append] at hown2; obtain ⟨Aq, cq, rfl⟩ := hown2.form;
           obtain ⟨ss, hss, hpp⟩ := (HR.out.2.1.step hg2 (fun r e => by cases e)).alloc (.cells #[.slice Aq P.length cq] 27);
           have hss' := hss;
           rw [HPL.out] at hss';
           have HO := hide (And.intro hown2 (And.intro hB2 (And.intro hpp (And.intro hss HPL.out))));
           have hz2 : w1.heap.size ≤ w2.heap.size := by (have := hB2.size; have := HR.out.2.2.2.2.2.2.2.2.2.2; omega);
           clear hown2 hB2 hpp hss hg2 hat2))
      go_roundw
      case rel =>
        have hg5' : (w2.alloc (.cells #[.slice Aq P.length cq] 27)).grownBy w5 (Value.slice vA ((List.range k).map (pieceT m L)).length vc).ownBlock := by rw [HO.out.2.2.2.2]; exact hg5
        have hB' : Below w1.heap.size w1 w5 := ((HR.out.2.2.1.trans HO.out.2.1).alloc hz2 _).trans hB5
        refine ⟨k + 1, cutA A5 c5 e 9, c5 - e, HR.out.2.2.2.2.2.2.2.2.1, by rw [← HR.out.2.2.2.2.2.1, List.length_drop], ?_, ?_, ?_, hB'⟩
        · rw [← HR.out.2.2.2.2.2.1, List.length_drop]
          have := HR.out.2.2.2.2.2.2.1
          omega
        · rw [← HR.out.2.2.2.2.2.1]
          exact HR.out.2.2.2.2.1.below ((HO.out.2.1.alloc hz2 _).trans hB5)
        · rw [List.range_succ, List.map_append, List.map_cons, List.map_nil, ← HR.out.2.2.2.1]
          refine Pcs.snoc (by decide) HO.out.2.2.2.1 HO.out.2.2.1 (HO.out.1.alloc _) hg5' ?_
          rw [HO.out.2.2.2.2]
          exact hown5
      case measure =>
        have := HR.out.2.2.2.2.2.2.2.2.2.1
        simp; omega
    · have hke : k = nChunks L.length m := by
        rcases Nat.lt_or_ge k (nChunks L.length m) with h | h
        · have := (lt_nChunks HM.out.2.1).1 h; omega
        · omega
      have hd : decide ((0 : Int) < (rest.length : Int)) = false := decide_eq_false (by omega)
      have HR := hide (And.intro hp (And.intro hB hke))
      clear hp hB hke hs5 hrest hrl hk
      go_wp2
      go_ret
      refine ⟨_, rfl, ?_, HB.out.1.trans (HR.out.2.1.mono HB.out.1.size)⟩
      have e : splitT most ts = (List.range k).map (pieceT m L) := by
        unfold splitT
        rw [HM.out.1, Int.toNat_natCast, ← canonO_eq, ← HB.out.2.2.2.1, ← HR.out.2.2]
      rw [e]
      exact HR.out.1.base_le HB.out.1.size
end Go.Proofs.Ytgndbpkgehjelaa
/- Plain laws: the pieces of a list. -/
namespace Go.Proofs.Ytgndbpkgehjelaa
open Go.RowKit
theorem piece_pos {m k : Nat} {L : List Tri} (hm : 0 < m) (hk : k < nChunks L.length m) : 0 < (pieceT m L k).length ∧ (pieceT m L k).length ≤ m := by
  have := (lt_nChunks hm).1 hk
  rw [pieceT_length]; omega
theorem piece_full {m k : Nat} {L : List Tri} (hm : 0 < m) (hk : k + 1 < nChunks L.length m) : (pieceT m L k).length = m := by
  have := (lt_nChunks hm).1 hk
  rw [Nat.add_mul, Nat.one_mul] at this
  rw [pieceT_length]; omega
theorem take_piece (m k : Nat) (L : List Tri) : L.take (k * m) ++ pieceT m L k = L.take ((k + 1) * m) := by
  rw [pieceT, Nat.add_mul, Nat.one_mul, List.take_add]
theorem take_all {m : Nat} {L : List Tri} (hm : 0 < m) : L.take (nChunks L.length m * m) = L := by
  refine List.take_of_length_le ?_
  rcases Nat.lt_or_ge (nChunks L.length m * m) L.length with h | h
  · have := (lt_nChunks hm).2 h; omega
  · exact h
theorem piece_mem {m k : Nat} {L : List Tri} {t : Tri} (h : t ∈ pieceT m L k) : t ∈ L := List.mem_of_mem_drop (List.mem_of_mem_take h)
theorem splitT_mem {most : Int} {ts : List Tri} {p : List Tri} (hp : p ∈ splitT most ts) : (∀ t ∈ p, t ∈ canonT ts) ∧ p.length ≤ ts.length := by
  obtain ⟨k, _, rfl⟩ := List.mem_map.1 hp
  refine ⟨fun t ht => piece_mem ht, ?_⟩
  rw [pieceT_length, canonT_length]; omega
theorem fits_split {most : Int} {ts : List Tri} (hf : ∀ t ∈ ts, fitsT t) {p : List Tri} (hp : p ∈ splitT most ts) : ∀ t ∈ p, fitsT t := fun t ht =>
  fitsT_canon hf t ((splitT_mem hp).1 t ht)
end Go.Proofs.Ytgndbpkgehjelaa
