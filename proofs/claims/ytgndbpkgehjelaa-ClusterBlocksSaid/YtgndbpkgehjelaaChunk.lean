/- slices.Chunk at triangles: an iterator. -/
import Derived.RangeFuncNested
import Derived.RangeFuncBound
import Derived.RangeFuncCalls
import Derived.RangeFuncLeaves
import Derived.RangeFuncBox
import Derived.Shelf.Abstract
import Derived.Shelf.RegionOpen
import Derived.OwnWalkIn
import Derived.TacticsInMore
import Derived.LoopNIn
import Derived.LoopIn
import Derived.Test.YtgndbpkgehjelaaClone
import Derived.Test.YtgndbpkgehjelaaMix
namespace Go.Proofs.Ytgndbpkgehjelaa
open Go.RowKit Go.Sort Go.Shelf
attribute [local go_sem] Oper.semAt_some

/-- How many pieces. -/
def nChunks (len m : Nat) : Nat := (len + m - 1) / m
theorem lt_nChunks {len m k : Nat} (hm : 0 < m) : k < nChunks len m ↔ k * m < len := by
  unfold nChunks
  rw [Nat.lt_div_iff_mul_lt hm]
  omega
theorem nChunks_zero {m : Nat} (hm : 0 < m) : nChunks 0 m = 0 := by
  unfold nChunks
  exact Nat.div_eq_of_lt (by omega)
theorem nChunks_le {len m : Nat} (hm : 0 < m) : nChunks len m ≤ len := by
  rcases Nat.lt_or_ge len (nChunks len m) with h | h
  · have h1 := (lt_nChunks (len := len) (k := len) hm).1 h
    have h2 : len * 1 ≤ len * m := Nat.mul_le_mul_left len hm
    omega
  · exact h
/-- Piece number k of a slice that lies at ⟨b, o⟩. -/
def chunkV (b o len m k : Nat) : Value := .slice (some ⟨b, o + k * m * 9, none⟩) (min m (len - k * m)) (min m (len - k * m))
theorem chunk_any (A : Option Addr) (len c : Nat) (m : Int) (hm : 1 ≤ m) (w : World) :
    Calls Try.prog 35 #[.slice A len c, .int .i64 m] w fun e w' => e = .returned (.func (.func 46) #[] #[.pointer (some ⟨w.heap.size, 0, none⟩), .pointer (some ⟨w.heap.size + 1, 0, none⟩)]) ∧
      w' = (w.alloc (.cells #[.slice A len c] 27)).alloc (.cells #[.int .i64 m] 3) := by
  go_enter Try.func35, Try.ntmps35
  go_wp2
  go_ret
  exact ⟨rfl, rfl⟩
/-- What a round must keep: the two captured cells. -/
def Kp2 (b0 b1 : Nat) (W W' : World) : Prop := W'.cell? ⟨b0, 0, none⟩ = W.cell? ⟨b0, 0, none⟩ ∧ W'.cell? ⟨b1, 0, none⟩ = W.cell? ⟨b1, 0, none⟩
theorem Kp2.trans {b0 b1 : Nat} {A B C : World} (h : Kp2 b0 b1 A B) (k : Kp2 b0 b1 B C) : Kp2 b0 b1 A C := ⟨k.1.trans h.1, k.2.trans h.2⟩
theorem Kp2.putObj {b0 b1 n : Nat} (h0 : b0 < n) (h1 : b1 < n) (W : World) (l : Nat) (o o' : Obj) (hl : n ≤ l) (h : W.heap[l]? = some o) (_ : o.isCells = false) (_ : o.isWalk = false) : Kp2 b0 b1 W (W.putObj l o') := by
  have hb : Below n W (W.putObj l o') := (Below.refl n W).grown (grownBy_putObj' W l o') (by have := (Array.getElem?_eq_some_iff.1 h).1; omega) (fun k e => by cases e; omega)
  exact ⟨hb.cell (p := ⟨b0, 0, none⟩) h0, hb.cell (p := ⟨b1, 0, none⟩) h1⟩
set_option maxRecDepth 100000 in
set_option maxHeartbeats 2000000 in
theorem chunk1_in (n l b0 b1 b o len c m : Nat) (hl : len ≤ 4294967296) (hc : len ≤ c) (hm : 0 < m) (hm2 : m ≤ 9223372036854775807) (hn : 1 ≤ n) (J Jx : List Nat → World → Prop)
    (hA : ∀ s W, J s W → J s W.drew) (hY : ∀ pre x W, J pre W → pre.length < nChunks len m → YieldAt Fence.wide (n - 1) Try.prog l #[chunkV b o len m x] W fun e W' =>
      (e = .returned (.bool true) ∧ J (pre ++ [x]) W' ∧ Kp2 b0 b1 W W') ∨ (e = .returned (.bool false) ∧ Jx (pre ++ [x]) W'))
    (W : World) (h0 : W.cell? ⟨b0, 0, none⟩ = some (.slice (some ⟨b, o, none⟩) len c)) (h1 : W.cell? ⟨b1, 0, none⟩ = some (.int .i64 m)) (hJ : J [] W) :
    CallsIn Fence.wide n Try.prog 46 #[.func (.yield l) #[] #[], .pointer (some ⟨b0, 0, none⟩), .pointer (some ⟨b1, 0, none⟩)] W fun e W' => (∃ v, e = .returned v) ∧
      ((∃ ys, ys = List.range (nChunks len m) ∧ J ys W') ∨ (∃ pre, (∃ k, pre = List.range k) ∧ Jx pre W')) := by
  refine callsIn_of_wp Try.func46 rfl trivial ?_ rfl
  simp only [Try.ntmps46, List.size_toArray, List.length_cons, List.length_nil, Nat.reduceAdd, Nat.reduceSub, Array.replicate_succ, Array.replicate_zero, List.push_toArray, List.append_toArray, List.nil_append, List.cons_append]
  gi_wp2
  gi_loopw [4] (fun i wr => ∃ k t : Nat, t = k * m ∧ k ≤ nChunks len m ∧ i = .int .i64 (t : Int) ∧ J (List.range k) wr ∧ wr.cell? ⟨b0, 0, none⟩ = some (.slice (some ⟨b, o, none⟩) len c) ∧ wr.cell? ⟨b1, 0, none⟩ = some (.int .i64 m))
    (fun i _ => len - (intOf i).toNat)
  case atStart => exact ⟨0, 0, by simp, Nat.zero_le _, rfl, hJ, h0, h1⟩
  case round =>
    obtain ⟨k, t, ht, hk, rfl, hJs, c0, c1⟩ := hrel
    have hkt := lt_nChunks (len := len) (k := k) hm
    rw [← ht] at hkt
    have HT := hide ht
    have HK := hide hkt
    clear ht hkt h0 h1
    by_cases hlt : t < len
    · obtain ⟨e, he⟩ : ∃ e, e = min m (len - t) := ⟨_, rfl⟩
      have hmin : min (m : Int) ((len - t : Nat) : Int) = (e : Int) := by rw [he]; omega
      have HE := hide he
      have hte : t + e ≤ len := by omega
      have hte2 : t + e ≤ c := by omega
      have he1 : 0 < e := by omega
      clear he
      have i0 : (0 : Int) ≤ (t : Int) := Int.natCast_nonneg _
      have i1 : (t : Int) < (len : Int) := by omega
      have i2 : (t : Int) ≤ (len : Int) := by omega
      have i3 : (len : Int) ≤ (c : Int) := by omega
      gi_wp2
      refine wpIn_wide.2 ?_
      go_region_held3 (fun w' => w'.cell? ⟨b0, 0, none⟩ = some (.slice (some ⟨b, o, none⟩) len c) ∧ w'.cell? ⟨b1, 0, none⟩ = some (.int .i64 m)) (go_keep) (fail)
      have hJd : J (List.range k) wr.drew := hA _ _ hJs
      obtain ⟨fn, tmps, assign, body, hy, hR⟩ := hY _ k wr.drew hJd (by rw [List.length_range]; exact HK.out.2 hlt)
      have hcv : chunkV b o len m k = .slice (some ⟨b, o + t * 9, none⟩) e e := by unfold chunkV; rw [← HT.out, ← HE.out]
      rw [hcv] at hy
      have htm : (t : Int) + (m : Int) ≤ 9223372036854775807 := by
        rcases Nat.eq_zero_or_pos k with h0 | h0
        · have := HT.out; rw [h0] at this; omega
        · have := HT.out
          have h2 : 1 * m ≤ k * m := Nat.mul_le_mul_right m h0
          omega
      clear hJd hJs
      gi_wp2
      refine hR.mono ?_
      rintro e' W3 (⟨rfl, hJ3, hk3⟩ | ⟨rfl, hJx3⟩)
      · have c13 : W3.cell? ⟨b1, 0, none⟩ = some (.int .i64 m) := hk3.2.trans c1
        have c03 : W3.cell? ⟨b0, 0, none⟩ = some (.slice (some ⟨b, o, none⟩) len c) := hk3.1.trans c0
        clear hk3
        gi_wp2
        go_roundw
        case rel => exact ⟨k + 1, t + m, by rw [HT.out, Nat.add_mul, Nat.one_mul], HK.out.2 hlt, by go_num, by rw [List.range_succ]; exact hJ3, c03, c13⟩
        case measure => simp [intOf]; omega
      · gi_wp2
        refine bodyPost_ret (results_none rfl _ _ _) rfl ?_
        exact ⟨⟨_, rfl⟩, .inr ⟨_, ⟨k + 1, List.range_succ.symm⟩, hJx3⟩⟩
    · have hke : k = nChunks len m := by
        have : ¬ k < nChunks len m := fun h => hlt (HK.out.1 h)
        omega
      have HKE := hide hke
      clear hke
      gi_wp2
      go_end0
      exact ⟨⟨_, rfl⟩, .inl ⟨_, rfl, by rw [← HKE.out]; exact hJs⟩⟩
set_option maxRecDepth 100000 in
/-- .. of the nil slice: no round. -/
theorem chunk1_nil (n l b0 b1 c : Nat) (J : List Nat → World → Prop) (W : World) (h0 : W.cell? ⟨b0, 0, none⟩ = some (.slice none 0 c)) (hJ : J [] W) :
    CallsIn Fence.wide n Try.prog 46 #[.func (.yield l) #[] #[], .pointer (some ⟨b0, 0, none⟩), .pointer (some ⟨b1, 0, none⟩)] W fun e W' => (∃ v, e = .returned v) ∧ J [] W' := by
  refine callsIn_of_wp Try.func46 rfl trivial ?_ rfl
  simp only [Try.ntmps46, List.size_toArray, List.length_cons, List.length_nil, Nat.reduceAdd, Nat.reduceSub, Array.replicate_succ, Array.replicate_zero, List.push_toArray, List.append_toArray, List.nil_append, List.cons_append]
  gi_wp2
  gi_loopw [4] (fun i wr => i = .int .i64 0 ∧ J [] wr ∧ W = wr) (fun _ _ => 0)
  case atStart => exact ⟨rfl, hJ, rfl⟩
  case round =>
    obtain ⟨rfl, hJs, rfl⟩ := hrel
    gi_wp2
    go_end0
    exact ⟨⟨_, rfl⟩, hJs⟩
/-- What an iterator over the pieces hands over. -/
theorem chunk_stops (n b0 b1 c m : Nat) (A : Option Addr) (ts : List Tri) (w : World) (hl : ts.length ≤ 4294967296) (hc : ts.length ≤ c) (hm : 0 < m) (hm2 : m ≤ 9223372036854775807) (hn : 1 ≤ n) (hb0 : b0 < w.heap.size) (hb1 : b1 < w.heap.size)
    (h0 : w.cell? ⟨b0, 0, none⟩ = some (.slice A ts.length c)) (h1 : w.cell? ⟨b1, 0, none⟩ = some (.int .i64 m)) (b o : Nat) (hA : ts = [] ∧ A = none ∨ A = some ⟨b, o, none⟩) :
    SeqStopsK Fence.wide n Try.prog 46 #[.pointer (some ⟨b0, 0, none⟩), .pointer (some ⟨b1, 0, none⟩)] (fun x : Nat => #[chunkV b o ts.length m x]) (Kp2 b0 b1)
      (fun ys => ys = List.range (nChunks ts.length m)) (fun pre => ∃ k, pre = List.range k) (nChunks ts.length m) w := fun l J Jx W hW hJa hJxa hY hJ => by
  have h0' := (hW.cell (p := ⟨b0, 0, none⟩) hb0).trans h0
  have h1' := (hW.cell (p := ⟨b1, 0, none⟩) hb1).trans h1
  rcases hA with ⟨rfl, rfl⟩ | rfl
  · have hz : nChunks ([] : List Tri).length m = 0 := by
      unfold nChunks
      show (0 + m - 1) / m = 0
      exact Nat.div_eq_of_lt (by omega)
    refine (chunk1_nil n l b0 b1 c J W h0' hJ).mono ?_
    rintro e W' ⟨he, hJ'⟩
    exact ⟨he, .inl ⟨[], by rw [hz]; rfl, hJ'⟩⟩
  · refine chunk1_in n l b0 b1 b o ts.length c m hl hc hm hm2 hn J Jx (fun s V h => hJa s V V.drew none h ⟨rfl, rfl, rfl, Nat.le_refl _, fun _ _ _ => rfl⟩ (fun _ h => by cases h)) ?_ W h0' h1' hJ
    exact hY
end Go.Proofs.Ytgndbpkgehjelaa
