/- Joined texts: Ref8C. -/
import Derived.RangeFuncSeq
import Derived.Test.YtfljcgehhnmamaaCB33
/- (ref08.cell).join. -/
namespace Go.Proofs.Ytfljcgehhnmamaa
open Go.RowKit Go.Sort
theorem right_any (p q v a : Nat) (hp : p < 24) (hq : q < 24) (hv : v < 8) (ha : a < 3) (pos : Bool) (w : World) :
    Calls Try.prog 95 #[.int .i64 p, .int .i64 q, .int .i64 v, .int .i64 a, .bool pos] w fun r w' => r = .returned (.bool (rightE p q v a pos)) ∧ Below w.heap.size w w' := by
  have hc : a = 0 ∨ a = 1 ∨ a = 2 := by omega
  rcases hc with rfl | rfl | rfl
  · exact right_0 p q v hp hq hv pos w
  · exact right_1 p q v hp hq hv pos w
  · exact right_2 p q v hp hq hv pos w
/-- The reference's cell in memory: its vertices, its joins. -/
def cellL (ins : Nat → Bool) (ms : List (Nat × Nat)) : List Value := (List.range 8).map (fun v => .bool (ins v)) ++ (List.range 24).map (fun x => .int .i64 (nxE ms x))
theorem nxE_snoc (ms : List (Nat × Nat)) (x y z : Nat) : nxE (ms ++ [(x, y)]) z = if z = x then (y : Int) else nxE ms z := by
  unfold nxE
  rw [List.reverse_append, List.reverse_singleton, List.singleton_append, List.find?_cons]
  by_cases h : z = x
  · rw [if_pos h, decide_eq_true h.symm]
  · rw [if_neg h, decide_eq_false (fun e => h e.symm)]
theorem cellL_get (ins : Nat → Bool) (ms : List (Nat × Nat)) {x : Nat} (hx : x < 24) : (cellL ins ms)[8 + x]? = some (.int .i64 (nxE ms x)) := by
  unfold cellL
  rw [List.getElem?_append_right (by simp), List.length_map, List.length_range, Nat.add_sub_cancel_left, List.getElem?_map, List.getElem?_range hx]
  rfl
theorem cellL_in (ins : Nat → Bool) (ms : List (Nat × Nat)) {v : Nat} (hv : v < 8) : (cellL ins ms)[v]? = some (.bool (ins v)) := by
  unfold cellL
  rw [List.getElem?_append_left (by simpa using hv), List.getElem?_map, List.getElem?_range hv]
  rfl
theorem cellL_set (ins : Nat → Bool) (ms : List (Nat × Nat)) {x y : Nat} (_hx : x < 24) : (cellL ins ms).set (8 + x) (.int .i64 (y : Int)) = cellL ins (ms ++ [(x, y)]) := by
  unfold cellL
  rw [List.set_append_right _ _ (by simp), List.length_map, List.length_range, Nat.add_sub_cancel_left]
  congr 1
  refine List.ext_getElem (by simp) fun i h1 h2 => ?_
  simp only [List.getElem_set, List.getElem_map, List.getElem_range, nxE_snoc]
  by_cases h : x = i
  · rw [if_pos h, if_pos h.symm]
  · rw [if_neg h, if_neg (fun e => h e.symm)]
set_option maxRecDepth 100000 in
set_option maxHeartbeats 8000000 in
theorem joinE_any (b : Nat) (ins : Nat → Bool) (ms : List (Nat × Nat)) (p q v a : Nat) (hp : p < 24) (hq : q < 24) (hv : v < 8) (ha : a < 3) (pos : Bool) (w : World) (hb : Blk w b 91 (cellL ins ms).toArray) :
    Calls Try.prog 77 #[.pointer (some ⟨b, 0, none⟩), .int .i64 p, .int .i64 q, .int .i64 v, .int .i64 a, .bool pos] w fun r w' => r = .returned (.tuple #[]) ∧ Blk w' b 91 (cellL ins (ms ++ [joinE p q v a pos])).toArray ∧ w.grownBy w' (some b) := by
  have hj : joinE p q v a pos = if rightE p q v a pos then (p, q) else (q, p) := rfl
  have key : ∀ (W : World) (x y : Nat), x < 24 → Below w.heap.size w W → Blk (W.setCell ⟨b, 8 + x, none⟩ (.int .i64 (y : Int))) b 91 (cellL ins (ms ++ [(x, y)])).toArray ∧ w.grownBy (W.setCell ⟨b, 8 + x, none⟩ (.int .i64 (y : Int))) (some b) := fun W x y hx hW => by
    have h1 := (hb.below hW hb.lt).set_ (8 + x) (.int .i64 (y : Int))
    rw [show ((cellL ins ms).toArray.setIfInBounds (8 + x) (.int .i64 (y : Int))) = ((cellL ins ms).set (8 + x) (.int .i64 (y : Int))).toArray by simp, cellL_set ins ms hx] at h1
    refine ⟨h1, ?_⟩
    have h2 : w.grownBy W (some b) := ⟨hW.os, hW.tape, hW.output, hW.size, fun k hk _ => hW.block k hk⟩
    exact h2.trans ⟨rfl, rfl, rfl, (KeepsWalks.setCell W _ _).size, fun k _ hne => Below.heap_setCell W ⟨b, 8 + x, none⟩ _ k (fun e => hne (by rw [e]))⟩
  have HK := hide key
  have HJ := hide hj
  have HB := hide hb
  clear key hj hb
  go_enter Try.func77, Try.ntmps77
  go_wp2_with fail
  refine (right_any p q v a hp hq hv ha pos w).mono ?_
  rintro e w1 ⟨rfl, hB1⟩
  have hb1 := HB.out.below hB1 HB.out.lt
  have g1 : w1.cell? ⟨b, 8 + p, none⟩ = some (.int .i64 (nxE ms p)) := by rw [hb1.cell, List.getElem?_toArray]; exact cellL_get ins ms hp
  have g2 : w1.cell? ⟨b, 8 + q, none⟩ = some (.int .i64 (nxE ms q)) := by rw [hb1.cell, List.getElem?_toArray]; exact cellL_get ins ms hq
  have f1 := hb1.frozen (8 + p)
  have f2 := hb1.frozen (8 + q)
  have i1 : (p : Int) < 24 := by omega
  have i2 : (q : Int) < 24 := by omega
  have H1 := hide hB1
  clear hB1 hb1
  cases hr : rightE p q v a pos with
  | true =>
    have hjj : joinE p q v a pos = (p, q) := by rw [HJ.out, hr]; rfl
    have HR := hide hjj
    clear hr hjj
    go_wp2
    go_end0
    refine ⟨rfl, ?_⟩
    rw [HR.out]
    exact HK.out w1 p q hp H1.out
  | false =>
    have hjj : joinE p q v a pos = (q, p) := by rw [HJ.out, hr]; rfl
    have HR := hide hjj
    clear hr hjj
    go_wp2
    go_end0
    refine ⟨rfl, ?_⟩
    rw [HR.out]
    exact HK.out w1 q p hq H1.out
end Go.Proofs.Ytfljcgehhnmamaa
