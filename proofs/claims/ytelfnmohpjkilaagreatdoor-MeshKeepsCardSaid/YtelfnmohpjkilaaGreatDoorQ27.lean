/- Wn3 Wn4 Wn5 Wn6 Wn7 Wn8 Wn9 Lnk WnA WnB WnC. -/
import Derived.WalkKit
import Derived.WalkSpells
import Derived.WalkLawsBesides
import Derived.Laws.OwnMore
import Derived.Deep.AppendLies
import Derived.Deep.Draws
import Derived.Maps.AppendAt
import Derived.OwnWalk
import Derived.Sort.Grow
import Derived.Shelf.GgSortFunc.RowK
import Derived.RangeFuncNested
import Derived.RangeFuncBox
import Derived.Test.YtelfnmohpjkilaaGreatDoorRows
import Derived.Handy
import Derived.Maps.Own
import Derived.Maps.Views
import Derived.DeepKeys4
import Derived.DeepKeys
import Derived.Laws.StructEq
import Derived.Deep.QuietTactic
import Derived.BigQuiet
import Derived.LoopN
import Derived.Laws.EntriesVeiled
import Derived.Shelf.SlSortCmp.QuietGrown
import Derived.Deep.RegionHeld3
import Derived.Deep.DrawnRows
import Derived.Sort.Statements
import Derived.Shelf.SlSortCmp.NoneTotal
import Derived.OrdersHeld
import Derived.OrdersIn
import Derived.RangeFuncCalls
import Derived.OwnWalkIn
import Derived.Deep.CutBlock
import Derived.Deep.DeepCutAuto
import Derived.Maps.OwnSet
import Derived.Maps.RangeWalk
import Derived.IntWalk
import Derived.Deep.MidRow
import Derived.StillTailTactics
import Derived.Shelf.RegionOpen
import Derived.Lib.Strings
import Derived.Lib.Slices
import Derived.Lib.Walk
import Derived.Lib.TrimByte
import Derived.Laws.Strings3
import Derived.Laws.Bits64b
import Derived.Laws.BytesArg
import Derived.RangeFuncBound
import Derived.RangeFuncLeaves
import Derived.TacticsInMore
import Derived.LoopNIn
import Derived.LoopIn
import Derived.Laws.IdiomStrings
import Derived.Test.YtelfnmohpjkilaaGreatDoorQ1
import Derived.Test.YtelfnmohpjkilaaGreatDoorQ26
namespace Go.Proofs.YtelfnmohpjkilaaGreatDoor
open Go.RowKit Go.Sort
set_option maxRecDepth 100000
section
attribute [local go_sem] Oper.semAt_some
set_option maxHeartbeats 8000000 in
theorem back1_in (n l bx : Nat) (A : Option Addr) (c : Nat) (xs : List Nat) (Bk : World → Prop) (St : Nat → World → Prop) (hn : 1 ≤ n) (hl : xs.length ≤ 1000000)
    (hSt : ∀ k W, St k W → W.cell? ⟨bx, 0, none⟩ = some (.slice A xs.length c) ∧ Sl encU 1 W W.heap.size A xs)
    (hY : ∀ k d W, xs[k]? = some d → St (k + 1) W → Bk W → YieldAt Fence.wide (n - 1) Tryz.prog l #[.int .i64 (k : Int), .int .u64 (d : Int)] W fun e W' => e = .returned (.bool true) ∧ St k W' ∧ Bk W')
    (W : World) (h0 : St xs.length W) (hB0 : Bk W) :
    CallsIn Fence.wide n Tryz.prog 141 #[.func (.yield l) #[] #[], .pointer (some ⟨bx, 0, none⟩)] W fun e W' => (∃ v, e = .returned v) ∧ St 0 W' ∧ Bk W' := by
  have HC := hide (And.intro hSt hY)
  obtain ⟨M, hM⟩ : ∃ M, M = xs.length := ⟨_, rfl⟩
  have c0 := (hSt _ W h0).1
  rw [← hM] at hl h0 c0
  have H0 := hide (And.intro h0 (And.intro hB0 hM))
  clear hSt hY h0 hB0 hM
  refine callsIn_of_wp Tryz.func141 rfl trivial ?_ rfl
  simp only [Tryz.ntmps141, List.size_toArray, List.length_cons, List.length_nil, Nat.reduceAdd, Nat.reduceSub, Array.replicate_succ, Array.replicate_zero, List.push_toArray, List.append_toArray, List.nil_append, List.cons_append]
  gi_wp2
  gi_loopw [3] (fun iv wr => ∃ k : Nat, k ≤ M ∧ iv = .int .i64 ((k : Int) - 1) ∧ St k wr ∧ Bk wr) (fun iv _ => (intOf iv + 1).toNat)
  case atStart => exact ⟨M, Nat.le_refl _, rfl, H0.out.1, H0.out.2.1⟩
  case round =>
    obtain ⟨k, hk, rfl, hS, hB⟩ := hrel
    have hc := HC.out.1 k _ hS
    rw [← H0.out.2.2] at hc
    cases k with
    | zero =>
      have i1 : ¬ (0 : Int) ≤ ((0 : Nat) : Int) - 1 := by omega
      have HE := hide (And.intro hS hB)
      clear hS hB hc c0
      gi_wp2
      go_end0
      exact ⟨⟨_, rfl⟩, HE.out.1, HE.out.2⟩
    | succ k =>
      have ek : ((k + 1 : Nat) : Int) - 1 = (k : Int) := by omega
      rw [ek]
      clear ek
      have i1 : (0 : Int) ≤ (k : Int) := by omega
      obtain ⟨d, hd⟩ : ∃ d, xs[k]? = some d := ⟨_, List.getElem?_eq_getElem (by have := H0.out.2.2; omega)⟩
      obtain ⟨b, o, hA, hbb, hcc⟩ := hc.2.at hd
      subst hA
      have cd := hcc 0 _ rfl
      rw [Nat.mul_one, Nat.add_zero] at cd
      have cb := hc.1
      have i2 : (k : Int) < (M : Int) := by omega
      obtain ⟨fn, tmps, assign, body, hy, hR⟩ := HC.out.2 k d wr hd hS hB
      have HR := hide hR
      clear hS hB hc hcc hd hR c0
      gi_wp2
      refine HR.out.mono ?_
      rintro e W3 ⟨rfl, hS3, hB3⟩
      have H3 := hide (And.intro hS3 hB3)
      clear hS3 hB3 cb cd hy
      gi_wp2
      go_roundw
      case rel => exact ⟨k, by omega, by go_num, H3.out.1, H3.out.2⟩
      case measure => simp [intOf]
end
set_option maxHeartbeats 2000000 in
theorem back_any (A : Option Addr) (len c : Nat) (w : World) : Calls Tryz.prog 107 #[.slice A len c] w fun e w' => e = .returned (.func (.func 141) #[] #[.pointer (some ⟨w.heap.size, 0, none⟩)]) ∧ w' = w.alloc (.cells #[.slice A len c] 116) := by
  go_enter Tryz.func107, Tryz.ntmps107
  go_wp2
  go_ret
  exact ⟨rfl, rfl⟩
end Go.Proofs.YtelfnmohpjkilaaGreatDoor
namespace Go.Proofs.YtelfnmohpjkilaaGreatDoor
open Go.RowKit Go.Sort
set_option maxRecDepth 100000
def encY (x : Nat) : List Value := [.int .u8 (x : Int)]
theorem encY_len (x : Nat) : (encY x).length = 1 := rfl
theorem encY_one (x : Nat) : ∀ u ∈ encY x, u.oneCell' = true := by
  intro u hu
  simp only [encY, List.mem_singleton] at hu
  subst hu
  rfl
theorem infoY : (Tryz.prog.info? 5).map (fun i => (i.zero, i.size, i.bytes)) = some (some (.int .u8 0), 1, 1) := by kernel_rfl
theorem dropZ_snoc (l : List Nat) (d : Nat) : dropZ (l ++ [d]) = match dropZ l with
    | [] => if d = 0 then [] else [d]
    | e :: m => (e :: m) ++ [d] := by
  induction l with
  | nil => simp [dropZ]
  | cons x l ih =>
    by_cases h : x = 0
    · subst h
      show dropZ (0 :: (l ++ [d])) = _
      rw [show dropZ (0 :: (l ++ [d])) = dropZ (l ++ [d]) from if_pos rfl, ih, show dropZ (0 :: l) = dropZ l from if_pos rfl]
    · show dropZ (x :: (l ++ [d])) = _
      rw [show dropZ (x :: (l ++ [d])) = x :: (l ++ [d]) from if_neg h, show dropZ (x :: l) = x :: l from if_neg h]
      rfl
theorem dropZ_rev (l : List Nat) : dropZ l.reverse = (trimD l).reverse := by
  induction l with
  | nil => rfl
  | cons d l ih =>
    have e1 : trimD (d :: l) = match trimD l with
      | [] => if d = 0 then [] else [d]
      | e :: m => d :: e :: m := rfl
    rw [List.reverse_cons, dropZ_snoc, ih, e1]
    cases trimD l with
    | nil =>
      simp only [List.reverse_nil]
      split <;> rfl
    | cons e m =>
      obtain ⟨a, b, hr⟩ : ∃ a b, (e :: m).reverse = a :: b := by
        cases hr : (e :: m).reverse with
        | nil => simp at hr
        | cons a b => exact ⟨a, b, rfl⟩
      show (match (e :: m).reverse with
        | [] => if d = 0 then [] else [d]
        | e' :: m' => (e' :: m') ++ [d]) = (d :: e :: m).reverse
      rw [List.reverse_cons (a := d), hr]
theorem mk_ub (n : Nat) (hn : n ≤ 100000000) (c : Int) (hc : c = (n : Int)) (W : World) : ∃ cs : Array Value, cs.size = n ∧ (Instr.makeSlice 59 (.int .i64 0) (.int .i64 c)).run Tryz.prog W = .ok (.slice (some ⟨W.heap.size, 0, none⟩) 0 n) (W.alloc (.cells cs 5)) := by
  obtain ⟨i, hi, hz, hs, hb⟩ := info_parts infoY
  have h := run_make (P := Tryz.prog) W 59 5 i (.int .u8 0) Tryz.underlying59 hi hz .i64 .i64 0 n (by omega) (by omega) (by rw [hb]; omega) (by omega)
  subst hc
  refine ⟨_, ?_, h⟩
  rw [hs]
  simp [size_madeCells]
/-- Bytes in memory, as a string. -/
theorem bytes_str {l : List Nat} (ho : okG 256 l) {W : World} {A : Option Addr} {c B : Nat} (hs : Sl encY 1 W B A l) : (convert 59 9 (.slice A l.length c)).run Tryz.prog W = .ok (.string (strL l)) W := by
  have hlen : (l.map UInt8.ofNat).length = l.length := by simp
  rcases hs with ⟨rfl, rfl⟩ | ⟨b, o, rfl, _, hc⟩
  · rw [run_convert_bytes_nil W 59 5 Tryz.underlying59 Tryz.underlying5 _ _ 9 Tryz.underlying9]
    rfl
  · have h := run_convert_bytes_back (P := Tryz.prog) W 59 9 5 ⟨b, o, none⟩ c (l.map UInt8.ofNat) Tryz.underlying59 Tryz.underlying5 Tryz.underlying9 (fun j hj => by
      rw [hlen] at hj
      have h1 := hc j _ (List.getElem?_eq_getElem hj) 0 _ rfl
      rw [Nat.mul_one, Nat.add_zero] at h1
      rw [add_none, h1]
      have hb : l[j] < 256 := ho _ (List.getElem_mem hj)
      rw [List.getElem_map]
      have e2 : (UInt8.ofNat (l[j])).toNat = l[j] := by simp at hb ⊢; omega
      rw [e2])
    rw [hlen] at h
    exact h
/-- What the rounds keep. -/
structure WdS (w0 : World) (A : Option Addr) (c : Nat) (xs : List Nat) (k : Nat) (W : World) : Prop where
  box : Boxed W (w0.heap.size + 3) 116 (.slice A xs.length c)
  sl : Sl encU 1 W w0.heap.size A xs
  out : ∃ v m, Boxed W (w0.heap.size + 2) 59 v ∧ Own encY 1 5 W (w0.heap.size + 1) v m (bytesW (xs.drop k)).reverse ∧ ∀ g, v.ownBlock = some g → g = w0.heap.size + 1 ∨ w0.heap.size + 6 ≤ g
  res : Blk W w0.heap.size 46 #[.bool false, .string ⟨#[]⟩]
  bel : Below w0.heap.size w0 W
theorem WdS.put {w0 W : World} {A : Option Addr} {c k : Nat} {xs : List Nat} (h : WdS w0 A c xs k W) (o : Obj) : WdS w0 A c xs k (W.putObj (w0.heap.size + 4 + 1) o) := by
  have hg := grownBy_putObj' W (w0.heap.size + 4 + 1) o
  have hz := h.bel.size
  have hB : Below w0.heap.size W (W.putObj (w0.heap.size + 4 + 1) o) := ⟨hg.os, hg.tape, hg.output, hg.size, fun i hi => hg.block i (by omega) (fun e => by injection e with e; omega)⟩
  obtain ⟨v, m, h1, h2, h3⟩ := h.out
  refine ⟨h.box.kept hg (fun e => by injection e with e; omega), h.sl.below hB, ⟨v, m, h1.kept hg (fun e => by injection e with e; omega), h2.kept hg ?_, h3⟩, h.res.grown hg (fun e => by injection e with e; omega), h.bel.trans hB⟩
  cases hv : v.ownBlock with
  | none => exact .inl rfl
  | some g =>
    refine .inr (fun e => ?_)
    injection e with e
    rcases h3 g hv with h4 | h4 <;> omega
theorem bytes_drop {xs : List Nat} {k d : Nat} (hd : xs[k]? = some d) : (bytesW (xs.drop k)).reverse = (bytesW (xs.drop (k + 1))).reverse ++ [d / 16777216 % 256, d / 65536 % 256, d / 256 % 256, d % 256] := by
  obtain ⟨hk, e⟩ := List.getElem?_eq_some_iff.1 hd
  rw [List.drop_eq_getElem_cons hk, e]
  unfold bytesW
  rw [List.flatMap_cons, List.reverse_append]
  rfl
set_option maxHeartbeats 32000000 in
theorem wide4_any (neg : Bool) (A : Option Addr) (c : Nat) (l : List Nat) (w : World) (hs : Sl encU 1 w w.heap.size A l) (hlc : l.length ≤ c) (ho : okG W32 l) (hl : l.length ≤ 1000000) :
    Calls Tryz.prog 87 #[.slice A l.length c, .bool neg] w fun e w' => e = .returned (.agg #[.bool (neg && decide (trimD (bytesW (trimD l)) ≠ [])), .string (strL (trimD (bytesW (trimD l))).reverse)]) ∧ Below w.heap.size w w' := by
  have hno := fun W (hW : Below w.heap.size w W) => norm_any A c l W ((hs.below hW).more hW.size) hlc (by omega)
  obtain ⟨xs, hxs⟩ : ∃ xs, xs = trimD l := ⟨_, rfl⟩
  have hpre := trimN_pre l
  have htl := trimN_len l
  have hsx : Sl encU 1 w w.heap.size A xs := by rw [hxs, hpre]; exact hs.take8 _
  have hox : okG W32 xs := by rw [hxs]; exact trim_okG ho
  rw [← hxs] at htl hpre ⊢
  simp only [← hxs] at hno
  have hbl := bytesW_len xs
  have hob := bytesW_ok xs
  obtain ⟨L, hL⟩ : ∃ L, L = l.length := ⟨_, rfl⟩
  rw [← hL] at htl hlc hl hno ⊢
  obtain ⟨M, hM⟩ : ∃ M, M = xs.length := ⟨_, rfl⟩
  rw [← hM] at htl
  simp only [← hM] at hno
  obtain ⟨cs, hcs, hmk⟩ : ∃ cs : World → Array Value, (∀ W, (cs W).size = 4 * M) ∧ ∀ W, (Instr.makeSlice 59 (.int .i64 0) (.int .i64 (4 * (M : Int)))).run Tryz.prog W = .ok (.slice (some ⟨W.heap.size, 0, none⟩) 0 (4 * M)) (W.alloc (.cells (cs W) 5)) := by
    exact ⟨fun W => (mk_ub (4 * M) (by omega) (4 * (M : Int)) (by omega) W).choose, fun W => (mk_ub (4 * M) (by omega) (4 * (M : Int)) (by omega) W).choose_spec.1, fun W => (mk_ub (4 * M) (by omega) (4 * (M : Int)) (by omega) W).choose_spec.2⟩
  have HS := hide (And.intro hsx (And.intro hox (And.intro hM (And.intro hno (And.intro hcs (And.intro hob hbl))))))
  have HMK := hide hmk
  clear hs hlc ho hpre hsx hox hM hno hbl hob hxs hcs hL hmk
  refine callsIn_wide.1 (callsIn_of_wp_marks (n := 3) Tryz.func87 rfl trivial ?_ rfl)
  simp only [Tryz.ntmps87, List.size_toArray, List.length_cons, List.length_nil, Nat.reduceAdd, Nat.reduceSub, Array.replicate_succ, Array.replicate_zero, List.push_toArray, List.append_toArray, List.nil_append, List.cons_append]
  refine wpIn_wide.2 ?_
  go_upto_region 2 with (go_at_call 106; refine (HS.out.2.2.2.1 _ ((Below.refl _ w).alloc (Nat.le_refl _) _)).mono ?_; rintro e w1 ⟨rfl, rfl⟩)
  have hmk := HMK.out
  go_upto_region 3 with fail
  clear hmk
  obtain ⟨cs0, hcs0⟩ : ∃ x, x = cs (w.alloc (.cells #[.bool false, .string ⟨#[]⟩] 46)) := ⟨_, rfl⟩
  rw [← hcs0]
  obtain ⟨X, hX⟩ : ∃ X, X = ((w.alloc (.cells #[.bool false, .string ⟨#[]⟩] 46)).alloc (.cells cs0 5)).alloc (.cells #[.slice (some ⟨w.heap.size + 1, 0, none⟩) 0 (4 * M)] 59) := ⟨_, rfl⟩
  rw [← hX]
  have HXW := hide (And.intro hX hcs0)
  clear hX hcs0
  go_wp2_with (go_at_call 107; refine (back_any _ _ _ _).mono ?_; rintro e w' ⟨rfl, rfl⟩)
  refine (wpIn_wide (n := 3)).1 ?_
  obtain ⟨w2, hw2⟩ : ∃ Y, Y = X.alloc (.cells #[.slice A M c] 116) := ⟨_, rfl⟩
  rw [← hw2]
  have hX := HXW.out.1
  have hcs0 := HXW.out.2
  have hz2 : w2.heap.size = w.heap.size + 4 := by rw [hw2, hX]; simp
  have hzX : X.heap.size = w.heap.size + 3 := by rw [hX]; simp
  have h0 : WdS w A c xs xs.length w2 := by
    have hB : Below w.heap.size w w2 := by rw [hw2, hX]; exact ((((Below.refl _ w).alloc (Nat.le_refl _) _).alloc (by simp) _).alloc (by simp; omega) _).alloc (by simp; omega) _
    refine ⟨?_, HS.out.1.below hB, ⟨.slice (some ⟨w.heap.size + 1, 0, none⟩) 0 (4 * M), 0, ?_, ?_, ?_⟩, ?_, hB⟩
    · rw [hw2, ← HS.out.2.2.1]
      have := Boxed.new X 116 (.slice A M c)
      rw [hzX] at this
      exact this
    · rw [hw2, hX]
      have := (Boxed.new ((w.alloc (.cells #[.bool false, .string ⟨#[]⟩] 46)).alloc (.cells cs0 5)) 59 (.slice (some ⟨w.heap.size + 1, 0, none⟩) 0 (4 * M))).alloc (.cells #[.slice A M c] 116)
      rw [World.size_alloc, World.size_alloc] at this
      exact this
    · rw [List.drop_length]
      refine ⟨rfl, rfl, .inr ⟨w.heap.size + 1, 4 * M, cs0, rfl, Nat.le_refl _, ?_, by omega, by unfold maxLen; omega, by rw [hcs0, HS.out.2.2.2.2.1]; omega, by simp [bytesW]⟩⟩
      rw [hw2, hX]
      exact ((Blk.new' (w.alloc (.cells #[.bool false, .string ⟨#[]⟩] 46)) 5 cs0 (w.heap.size + 1) (by simp)).alloc _).alloc _
    · intro g hg
      injection hg with hg
      exact .inl hg.symm
    · rw [hw2, hX]
      exact (((Blk.new w _ _).alloc _).alloc _).alloc _
  have H0 := hide h0
  have HZ := hide hz2
  rw [hzX]
  clear hw2 hX h0 hz2 hzX hcs0
  obtain ⟨bo, hbo0⟩ : ∃ b, b = w.heap.size + 1 + 1 := ⟨_, rfl⟩
  rw [← hbo0]
  have HBO := hide hbo0
  clear hbo0
  refine wpIn_rangeFunc_joint (α := { x : Nat × Nat // xs[x.1]? = some x.2 }) rfl (by omega) (gf := 141) (lb := #[.pointer (some ⟨w.heap.size + 3, 0, none⟩)]) rfl trivial (enters_of Tryz.func141 (by kernel_rfl) rfl)
    (fun x => #[.int .i64 (x.1.1 : Int), .int .u64 (x.1.2 : Int)]) (fun _ => rfl) (fun W => WdS w A c xs xs.length W) (fun W => WdS w A c xs 0 W)
    (fun x W => WdS w A c xs (x.1.1 + 1) W) (fun x W => WdS w A c xs x.1.1 W)
    ?start ?pre ?post ?fin ?seq ?a1 ?assign ?body ?done
  case start =>
    intro o o'
    have hz := HZ.out
    have hga : w2.grownBy ((w2.alloc o).alloc o') (some (w2.heap.size + 1)) := (World.grownBy_alloc _ _ _).trans (World.grownBy_alloc _ _ _)
    obtain ⟨hbx, hsl, ⟨v, m, h1, h2, h3⟩, hres, hB⟩ := H0.out
    have hBz : Below w.heap.size w2 ((w2.alloc o).alloc o') := ((Below.refl _ w2).alloc (by omega) _).alloc (by simp; omega) _
    refine ⟨(hbx.alloc _).alloc _, hsl.below hBz, ⟨v, m, (h1.alloc _).alloc _, (h2.alloc _).alloc _, h3⟩, (hres.alloc _).alloc _, hB.trans hBz⟩
  case pre => intro x W o h _; have hz := HZ.out; rw [hz]; exact h.put o
  case post => intro x W o h; have hz := HZ.out; rw [hz]; exact h.put o
  case fin => intro W o h; have hz := HZ.out; rw [hz]; exact h.put o
  case seq =>
    intro lp Bk hst hy W hS hB
    refine (back1_in 2 lp (w.heap.size + 3) A c xs Bk (fun k W => WdS w A c xs k W) (by omega) (by have := HS.out.2.2.1; omega) (fun k W h => ⟨h.box.cell, h.sl.more h.bel.size⟩) (fun k d W hd h1 h2 => hy ⟨(k, d), hd⟩ W h1 h2) W hS hB).mono ?_
    rintro e W' ⟨h1, h2, h3⟩
    exact ⟨h1, h2, h3⟩
  case assign =>
    intro lp q W K hK
    refine wpIn_region_list (by kernel_rfl) (by rintro ⟨_, _, h⟩; exact h) ?_
    go_wp2
    exact hK
  case done =>
    rintro W hS hK
    obtain ⟨_, _, ⟨v, m, hbo, hown, hob⟩, hres, hB⟩ := hS
    obtain ⟨vA, vc, hv⟩ := hown.form
    subst hv
    have c5 := hbo.cell
    have ebo : w.heap.size + 2 = bo := HBO.out.symm
    rw [ebo] at c5
    clear ebo
    rw [List.drop_zero] at hown
    have hm : m = (bytesW xs).reverse.length := hown.1
    have hcv := bytes_str (W := W) (c := vc) (l := (bytesW xs).reverse) (fun x hx => HS.out.2.2.2.2.2.1 x (List.mem_reverse.1 hx)) (hown.sl encY_len (Nat.le_refl _))
    rw [← hm] at hcv
    have htr := fun w => trimLeft_any (bytesW xs).reverse (fun x hx => HS.out.2.2.2.2.2.1 x (List.mem_reverse.1 hx)) (by rw [List.length_reverse, HS.out.2.2.2.2.2.2]; have := HS.out.2.2.1; omega) w
    rw [dropZ_rev] at htr
    obtain ⟨T, hT⟩ : ∃ T, T = trimD (bytesW xs) := ⟨_, rfl⟩
    have HT := hide hT
    rw [← hT] at htr
    obtain ⟨sb, hsb⟩ : ∃ x, x = strL (bytesW xs).reverse := ⟨_, rfl⟩
    rw [← hsb] at hcv htr
    have hsT := strL_size T.reverse
    rw [List.length_reverse] at hsT
    obtain ⟨st, hst⟩ : ∃ x, x = strL T.reverse := ⟨_, rfl⟩
    rw [← hst] at htr hsT
    have HD := hide (And.intro htr (And.intro hst (And.intro hK hB)))
    obtain ⟨r0, r1⟩ : W.cell? ⟨w.heap.size, 0, none⟩ = some (.bool false) ∧ W.cell? ⟨w.heap.size, 1, none⟩ = some (.string ⟨#[]⟩) := ⟨hres.cell 0, hres.cell 1⟩
    have f0 := hres.frozen 0
    have f1 := hres.frozen 1
    have HRS := hide hres
    clear htr hst hK hB hown hob hm hsb hT hbo hres
    by_cases hne : T = []
    · have hs0 : st.toList = [] := by
        rw [Lib.toList_data]
        exact List.eq_nil_of_length_eq_zero (by rw [hne] at hsT; exact hsT)
      have hs1 : st.toList.isEmpty = true := by rw [hs0]; rfl
      have HNE : decide (T ≠ []) = false := decide_eq_false (fun h => h hne)
      have HNE := hide HNE
      clear hne hsT
      cases neg
      · go_wp2_with (go_at_call 108; refine ((unhide HD).1 W).mono ?_; rintro e w9 ⟨rfl, rfl⟩)
        have hZb : Blk ((w9.setCell ⟨w.heap.size, 0, none⟩ (.bool false)).setCell ⟨w.heap.size, 1, none⟩ (.string st)) w.heap.size 46 #[.bool false, .string st] := (HRS.out.set_ 0 _).set_ 1 _
        obtain ⟨Z, hZ⟩ : ∃ Z, Z = (w9.setCell ⟨w.heap.size, 0, none⟩ (.bool false)).setCell ⟨w.heap.size, 1, none⟩ (.string st) := ⟨_, rfl⟩
        have hKz : Z.heap[w2.heap.size]? = some (.deferred (some [])) := by
          have hz := HZ.out
          rw [hZ, Below.heap_setCell _ _ _ _ (by dsimp only; omega), Below.heap_setCell _ _ _ _ (by dsimp only; omega)]
          exact HD.out.2.2.1
        have hBZ : Below w.heap.size w Z := by rw [hZ]; exact (HD.out.2.2.2.setCell (Nat.le_refl _) _).setCell (Nat.le_refl _) _
        rw [← hZ] at hZb ⊢
        refine ⟨by simp, .inl ⟨_, _, rfl, run_takeDeferred hKz, ?_⟩⟩
        have hgq := grownBy_putObj' Z w2.heap.size (.deferred none)
        have hbq := hZb.grown hgq (fun e => by have hz := HZ.out; injection e with e; omega)
        have hBq : Below w.heap.size w (Z.putObj w2.heap.size (.deferred none)) := hBZ.grown hgq hBZ.size (fun r hr => by have hz := HZ.out; injection hr with hr; omega)
        have q0 := hbq.cell 0
        have q1 := hbq.cell 1
        clear c5 hcv r0 r1 f0 f1
        refine ⟨.agg #[.bool false, .string st], by simp [results, Tryz.results87, go_sem, q0, q1], ?_, hBq⟩
        rw [← HT.out, ← HD.out.2.1, HNE.out]
        rfl
      · go_wp2_with (go_at_call 108; refine ((unhide HD).1 W).mono ?_; rintro e w9 ⟨rfl, rfl⟩)
        have hZb : Blk ((w9.setCell ⟨w.heap.size, 0, none⟩ (.bool false)).setCell ⟨w.heap.size, 1, none⟩ (.string st)) w.heap.size 46 #[.bool false, .string st] := (HRS.out.set_ 0 _).set_ 1 _
        obtain ⟨Z, hZ⟩ : ∃ Z, Z = (w9.setCell ⟨w.heap.size, 0, none⟩ (.bool false)).setCell ⟨w.heap.size, 1, none⟩ (.string st) := ⟨_, rfl⟩
        have hKz : Z.heap[w2.heap.size]? = some (.deferred (some [])) := by
          have hz := HZ.out
          rw [hZ, Below.heap_setCell _ _ _ _ (by dsimp only; omega), Below.heap_setCell _ _ _ _ (by dsimp only; omega)]
          exact HD.out.2.2.1
        have hBZ : Below w.heap.size w Z := by rw [hZ]; exact (HD.out.2.2.2.setCell (Nat.le_refl _) _).setCell (Nat.le_refl _) _
        rw [← hZ] at hZb ⊢
        refine ⟨by simp, .inl ⟨_, _, rfl, run_takeDeferred hKz, ?_⟩⟩
        have hgq := grownBy_putObj' Z w2.heap.size (.deferred none)
        have hbq := hZb.grown hgq (fun e => by have hz := HZ.out; injection e with e; omega)
        have hBq : Below w.heap.size w (Z.putObj w2.heap.size (.deferred none)) := hBZ.grown hgq hBZ.size (fun r hr => by have hz := HZ.out; injection hr with hr; omega)
        have q0 := hbq.cell 0
        have q1 := hbq.cell 1
        clear c5 hcv r0 r1 f0 f1
        refine ⟨.agg #[.bool false, .string st], by simp [results, Tryz.results87, go_sem, q0, q1], ?_, hBq⟩
        rw [← HT.out, ← HD.out.2.1, HNE.out]
        rfl
    · have hs0 : ¬ st.toList = [] := fun e => by
        rw [Lib.toList_data] at e
        have h1 : st.data.toList.length = 0 := by rw [e]; rfl
        have h2 : st.data.toList.length = st.size := rfl
        exact hne (List.eq_nil_of_length_eq_zero (by omega))
      have hs1 : st.toList.isEmpty = false := by
        cases h : st.toList with
        | nil => exact absurd h hs0
        | cons a b => rfl
      have HNE : decide (T ≠ []) = true := decide_eq_true hne
      have HNE := hide HNE
      clear hne hsT
      cases neg
      · go_wp2_with (go_at_call 108; refine ((unhide HD).1 W).mono ?_; rintro e w9 ⟨rfl, rfl⟩)
        have hZb : Blk ((w9.setCell ⟨w.heap.size, 0, none⟩ (.bool false)).setCell ⟨w.heap.size, 1, none⟩ (.string st)) w.heap.size 46 #[.bool false, .string st] := (HRS.out.set_ 0 _).set_ 1 _
        obtain ⟨Z, hZ⟩ : ∃ Z, Z = (w9.setCell ⟨w.heap.size, 0, none⟩ (.bool false)).setCell ⟨w.heap.size, 1, none⟩ (.string st) := ⟨_, rfl⟩
        have hKz : Z.heap[w2.heap.size]? = some (.deferred (some [])) := by
          have hz := HZ.out
          rw [hZ, Below.heap_setCell _ _ _ _ (by dsimp only; omega), Below.heap_setCell _ _ _ _ (by dsimp only; omega)]
          exact HD.out.2.2.1
        have hBZ : Below w.heap.size w Z := by rw [hZ]; exact (HD.out.2.2.2.setCell (Nat.le_refl _) _).setCell (Nat.le_refl _) _
        rw [← hZ] at hZb ⊢
        refine ⟨by simp, .inl ⟨_, _, rfl, run_takeDeferred hKz, ?_⟩⟩
        have hgq := grownBy_putObj' Z w2.heap.size (.deferred none)
        have hbq := hZb.grown hgq (fun e => by have hz := HZ.out; injection e with e; omega)
        have hBq : Below w.heap.size w (Z.putObj w2.heap.size (.deferred none)) := hBZ.grown hgq hBZ.size (fun r hr => by have hz := HZ.out; injection hr with hr; omega)
        have q0 := hbq.cell 0
        have q1 := hbq.cell 1
        clear c5 hcv r0 r1 f0 f1
        refine ⟨.agg #[.bool false, .string st], by simp [results, Tryz.results87, go_sem, q0, q1], ?_, hBq⟩
        rw [← HT.out, ← HD.out.2.1, HNE.out]
        rfl
      · go_wp2_with (go_at_call 108; refine ((unhide HD).1 W).mono ?_; rintro e w9 ⟨rfl, rfl⟩)
        have hZb : Blk ((w9.setCell ⟨w.heap.size, 0, none⟩ (.bool true)).setCell ⟨w.heap.size, 1, none⟩ (.string st)) w.heap.size 46 #[.bool true, .string st] := (HRS.out.set_ 0 _).set_ 1 _
        obtain ⟨Z, hZ⟩ : ∃ Z, Z = (w9.setCell ⟨w.heap.size, 0, none⟩ (.bool true)).setCell ⟨w.heap.size, 1, none⟩ (.string st) := ⟨_, rfl⟩
        have hKz : Z.heap[w2.heap.size]? = some (.deferred (some [])) := by
          have hz := HZ.out
          rw [hZ, Below.heap_setCell _ _ _ _ (by dsimp only; omega), Below.heap_setCell _ _ _ _ (by dsimp only; omega)]
          exact HD.out.2.2.1
        have hBZ : Below w.heap.size w Z := by rw [hZ]; exact (HD.out.2.2.2.setCell (Nat.le_refl _) _).setCell (Nat.le_refl _) _
        rw [← hZ] at hZb ⊢
        refine ⟨by simp, .inl ⟨_, _, rfl, run_takeDeferred hKz, ?_⟩⟩
        have hgq := grownBy_putObj' Z w2.heap.size (.deferred none)
        have hbq := hZb.grown hgq (fun e => by have hz := HZ.out; injection e with e; omega)
        have hBq : Below w.heap.size w (Z.putObj w2.heap.size (.deferred none)) := hBZ.grown hgq hBZ.size (fun r hr => by have hz := HZ.out; injection hr with hr; omega)
        have q0 := hbq.cell 0
        have q1 := hbq.cell 1
        clear c5 hcv r0 r1 f0 f1
        refine ⟨.agg #[.bool true, .string st], by simp [results, Tryz.results87, go_sem, q0, q1], ?_, hBq⟩
        rw [← HT.out, ← HD.out.2.1, HNE.out]
        rfl
  case body =>
    rintro lp ⟨⟨k, d⟩, hd⟩ W hS hlt
    dsimp only at hS hd ⊢
    obtain ⟨hbx, hsl, ⟨v, m, hbo, hown, hob⟩, hres, hB⟩ := hS
    have c5 := hbo.cell
    have f5 := hbo.frozen
    have ebo : w.heap.size + 2 = bo := HBO.out.symm
    rw [ebo] at c5 f5
    clear ebo
    have hzW := hB.size
    have hd32 : d < 4294967296 := HS.out.2.1 d (List.mem_of_getElem? hd)
    obtain ⟨vA, vc, hv⟩ := hown.form
    subst hv
    have hm : m ≤ 4 * M := by
      have h1 := hown.1
      rw [List.length_reverse, bytesW_len, List.length_drop] at h1
      have := HS.out.2.2.1
      omega
    have hbd := bytes_drop hd
    obtain ⟨a3, ha3⟩ : ∃ x, x = d / 16777216 % 256 := ⟨_, rfl⟩
    obtain ⟨a2, ha2⟩ : ∃ x, x = d / 65536 % 256 := ⟨_, rfl⟩
    obtain ⟨a1, ha1⟩ : ∃ x, x = d / 256 % 256 := ⟨_, rfl⟩
    obtain ⟨a0, ha0⟩ : ∃ x, x = d % 256 := ⟨_, rfl⟩
    rw [← ha3, ← ha2, ← ha1, ← ha0] at hbd
    have t3 : (d : Int) / 16777216 = (a3 : Int) := by omega
    have t2 : (d : Int) / 65536 % 256 = (a2 : Int) := by omega
    have t1 : (d : Int) / 256 % 256 = (a1 : Int) := by omega
    have t0 : (d : Int) % 256 = (a0 : Int) := by omega
    have l3 : (a3 : Int) < 256 := by omega
    clear ha3 ha2 ha1 ha0
    have HBD := hide (And.intro hbd hob)
    clear hbd
    have HW := hide (And.intro hbx (And.intro hsl (And.intro hbo (And.intro hown (And.intro hob (And.intro hres hB))))))
    clear hbx hsl hbo hown hob hres hB
    refine wpIn_block ?_
    refine wpIn_region_list (by kernel_rfl) (by rintro ⟨_, _, h⟩; exact h) ?_
    have HO := hide ((HW.out.2.2.2.1).alloc (.cells #[.int .u8 (a3 : Int), .int .u8 (a2 : Int), .int .u8 (a1 : Int), .int .u8 (a0 : Int)] 5))
    have HSL := hide (show Sl encY 1 (W.alloc (.cells #[.int .u8 (a3 : Int), .int .u8 (a2 : Int), .int .u8 (a1 : Int), .int .u8 (a0 : Int)] 5)) (W.heap.size + 1) (some ⟨W.heap.size, 0, none⟩) [a3, a2, a1, a0] from Sl.of_blk encY_len (t := 5) (Blk.new W 5 _) (by omega))
    go_wp2_with (at_builtin; refine wpList_appendS rfl _ _ _ rfl Tryz.underlying59 infoY rfl (by omega) encY_len encY_one rfl HO.out (some ⟨W.heap.size, 0, none⟩) 4 (W.heap.size + 1) [a3, a2, a1, a0] rfl HSL.out (by unfold maxLen; simp; omega) (by simp; omega) (by simp; omega) ?_; intro v6 w6 hown6 hg6 hB6 hat6; obtain ⟨A6, cc6, hv6⟩ := hown6.form; subst hv6; have hbo6 : Boxed w6 (w.heap.size + 2) 59 (.slice vA m vc) := (HW.out.2.2.1.alloc _).kept hg6 (fun e => by rcases HBD.out.2 _ e.symm with h | h <;> omega); have c6 : w6.cell? ⟨bo, 0, none⟩ = some (.slice vA m vc) := (by rw [HBO.out]; exact hbo6.cell); have f6 : w6.frozen? ⟨bo, 0, none⟩ = false := (by rw [HBO.out]; exact hbo6.frozen); have H6 := hide (And.intro hown6 (And.intro hg6 (And.intro hB6 (And.intro hat6 hbo6)))); clear hown6 hg6 hB6 hat6 hbo6)
    have hz := HZ.out
    have hzW' := HW.out.2.2.2.2.2.2.size
    obtain ⟨hown6, hg6, hB6, hat6, hbo6⟩ := H6.out
    have hgA : W.grownBy w6 (Value.slice vA m vc).ownBlock := (World.grownBy_alloc W _ _).trans hg6
    have hob : ∀ q, q < w2.heap.size + 2 → q ≠ w.heap.size + 1 → some q ≠ (Value.slice vA m vc).ownBlock := fun q hq hne e => by
      rcases HBD.out.2 q e.symm with h | h
      · exact hne h
      · omega
    have hset := grownBy_setCell' w6 bo (.slice A6 (m + 4) cc6)
    have hbow := HBO.out
    have h6z := hgA.size
    have hob6 : ∀ g, (Value.slice A6 (m + 4) cc6).ownBlock = some g → g = w.heap.size + 1 ∨ w.heap.size + 6 ≤ g := fun g hg => by
      rcases hat6 with h | h
      · exact HBD.out.2 g (h.symm.trans hg)
      · have h' := hg.symm.trans h
        injection h' with h'
        rw [World.size_alloc] at h'
        omega
    have hBz : Below w.heap.size W (w6.setCell ⟨bo, 0, none⟩ (.slice A6 (m + 4) cc6)) := ((Below.refl _ W).grown hgA hzW' (fun r hr => by rcases HBD.out.2 r hr with h | h <;> omega)).setCell (by dsimp only; omega) _
    refine ⟨⟨?_, HW.out.2.1.below hBz, ⟨_, m + 4, (by rw [hbow]; exact hbo6.set _), ?_, hob6⟩, ?_, HW.out.2.2.2.2.2.2.trans hBz⟩, ?_, ?_⟩
    · exact (HW.out.1.kept hgA (hob _ (by omega) (by omega))).kept hset (fun e => by injection e with e; omega)
    · rw [HBD.out.1]
      refine Own.kept hown6 hset ?_
      cases hob' : (Value.slice A6 (m + 4) cc6).ownBlock with
      | none => exact .inl rfl
      | some g =>
        refine .inr (fun e => ?_)
        injection e with e
        rcases hob6 g hob' with h | h <;> omega
    · exact (HW.out.2.2.2.2.2.1.grown hgA (hob _ (by omega) (by omega))).grown hset (fun e => by injection e with e; omega)
    · exact (hset.block _ (by omega) (fun e => by injection e with e; omega)).trans (hgA.block _ (by omega) (hob _ (by omega) (by omega)))
    · exact (hset.block _ (by omega) (fun e => by injection e with e; omega)).trans (hgA.block _ (by omega) (hob _ (by omega) (by omega)))
end Go.Proofs.YtelfnmohpjkilaaGreatDoor
namespace Go.Proofs.YtelfnmohpjkilaaGreatDoor
open Go.RowKit Go.Sort
set_option maxRecDepth 100000
theorem okW_G {l : List Nat} : okW l ↔ okG W32 l := Iff.rfl
theorem cells_next {O : List Nat} {k N r : Nat} (hO : O.length = k) (hk : k < N) : (O ++ List.replicate (N - k) 0).set k r = (O ++ [r]) ++ List.replicate (N - (k + 1)) 0 := by
  obtain ⟨j, hj⟩ : ∃ j, N - k = j + 1 := ⟨N - k - 1, by omega⟩
  rw [hj, show N - (k + 1) = j by omega, List.replicate_succ, ← hO, List.set_append_right _ _ (Nat.le_refl _), Nat.sub_self, List.set_cons_zero, List.append_assoc]
  rfl
theorem mask_u64 (s : Nat) (hs : s < 18446744073709551616) : bits BinOp.and IntKind.u64 (s : Int) 4294967295 = ((s % 4294967296 : Nat) : Int) := by
  have h := bits_and_u64_nat s 4294967295 hs (by omega)
  rw [show (4294967295 : Nat) = 2 ^ 32 - 1 from rfl, Nat.and_two_pow_sub_one_eq_mod] at h
  exact h
theorem slU_cell {w0 V : World} {A : Option Addr} {l : List Nat} (hs : Sl encU 1 w0 w0.heap.size A l) (hB : Below w0.heap.size w0 V) {k : Nat} (hk : k < l.length) : ∃ b o, A = some ⟨b, o, none⟩ ∧ V.cell? ⟨b, o + k, none⟩ = some (.int .u64 (l.getD k 0 : Nat)) := by
  have hd : l[k]? = some (l.getD k 0) := by rw [List.getD_eq_getElem?_getD, List.getElem?_eq_getElem hk]; rfl
  obtain ⟨b, o, hA, _, hc⟩ := (hs.below hB).at hd
  refine ⟨b, o, hA, ?_⟩
  have := hc 0 _ rfl
  rw [Nat.mul_one, Nat.add_zero] at this
  exact this
/-- What the loops of add and sub keep. -/
structure AdS (w0 w : World) (G N k : Nat) (O : List Nat) : Prop where
  blk : Blk w G 104 (cellsU (O ++ List.replicate (N - k) 0))
  len : O.length = k
  ok : okW O
  below : Below w0.heap.size w0 w
theorem AdS.next {w0 w : World} {G N k r : Nat} {O : List Nat} (h : AdS w0 w G N k O) (hk : k < N) (hr : r < 4294967296) (hG : w0.heap.size ≤ G) : AdS w0 (w.setCell ⟨G, k, none⟩ (.int .u64 (r : Int))) G N (k + 1) (O ++ [r]) where
  blk := by
    have := h.blk.set_ k (.int .u64 (r : Int))
    rw [cellsU_set, cells_next h.len hk] at this
    exact this
  len := by rw [List.length_append, h.len]; rfl
  ok := okW_snoc h.ok hr
  below := h.below.setCell hG _
theorem getD_ltW {l : List Nat} (h : okW l) (k : Nat) : l.getD k 0 < 4294967296 := w_getD_lt h k
set_option maxHeartbeats 16000000 in
theorem add4_any (A B : Option Addr) (c d : Nat) (a b : List Nat) (w : World) (ha : Sl encU 1 w w.heap.size A a) (hb : Sl encU 1 w w.heap.size B b) (oa : okW a) (ob : okW b) (la : a.length ≤ 500000) (lb : b.length ≤ 500000) :
    Calls Tryz.prog 88 #[.slice A a.length c, .slice B b.length d] w fun e w' => ∃ A' c' out, e = .returned (.slice A' out.length c') ∧ out.length ≤ c' ∧ out.length ≤ max a.length b.length + 1 ∧ okW out ∧ valW out = valW a + valW b ∧ Sl encU 1 w' w'.heap.size A' out ∧ Below w.heap.size w w' := by
  obtain ⟨m0, hm0⟩ : ∃ m, m = a.length := ⟨_, rfl⟩
  obtain ⟨n0, hn0⟩ : ∃ n, n = b.length := ⟨_, rfl⟩
  have HS := hide (And.intro ha (And.intro hb (And.intro oa (And.intro ob (And.intro hm0 hn0)))))
  rw [← hm0] at la ⊢
  rw [← hn0] at lb ⊢
  clear ha hb oa ob hm0 hn0
  go_enter Tryz.func88, Tryz.ntmps88
  go_upto_if 13 with fail
  go_cut [0, 1] (fun va vb wx => ∃ (A1 B1 : Option Addr) (c1 d1 : Nat) (a1 b1 : List Nat), va = .slice A1 a1.length c1 ∧ vb = .slice B1 b1.length d1 ∧ (Sl encU 1 w w.heap.size A1 a1 ∧ Sl encU 1 w w.heap.size B1 b1 ∧ okW a1 ∧ okW b1 ∧ b1.length ≤ a1.length ∧ a1.length = max m0 n0 ∧ valW a1 + valW b1 = valW a + valW b) ∧ wx = w)
  case first =>
    by_cases hlt : m0 < n0
    · have i1 : (m0 : Int) < (n0 : Int) := by omega
      go_wp2
      go_meet
      case rel =>
        have hm := HS.out.2.2.2.2.1
        have hn := HS.out.2.2.2.2.2
        exact ⟨B, A, d, c, b, a, by rw [← hn], by rw [← hm], ⟨HS.out.2.1, HS.out.1, HS.out.2.2.2.1, HS.out.2.2.1, by omega, by omega, Nat.add_comm _ _⟩, rfl⟩
    · have i1 : ¬ (m0 : Int) < (n0 : Int) := by omega
      go_wp2
      go_meet
      case rel =>
        have hm := HS.out.2.2.2.2.1
        have hn := HS.out.2.2.2.2.2
        exact ⟨A, B, c, d, a, b, by rw [← hm], by rw [← hn], ⟨HS.out.1, HS.out.2.1, HS.out.2.2.1, HS.out.2.2.2.1, by omega, by omega, rfl⟩, rfl⟩
  case rest =>
    obtain ⟨A1, B1, c1, d1, a1, b1, rfl, rfl, ⟨hsa, hsb, ha1, hb1, hba, hmax, hval⟩, rfl⟩ := hcut
    obtain ⟨w, rfl⟩ : ∃ x, x = wc := ⟨_, rfl⟩
    obtain ⟨m, hm⟩ : ∃ m, m = a1.length := ⟨_, rfl⟩
    obtain ⟨n, hn⟩ : ∃ n, n = b1.length := ⟨_, rfl⟩
    have hmb : m ≤ 500000 := by omega
    have hnm : n ≤ m := by omega
    have HA := hide (And.intro hsa (And.intro hsb (And.intro ha1 (And.intro hb1 (And.intro hm (And.intro hn (And.intro hmax hval)))))))
    rw [← hm, ← hn]
    clear hsa hsb ha1 hb1 hba hmax hval hm hn HS la lb
    obtain ⟨N, hN⟩ : ∃ N, N = m + 1 := ⟨_, rfl⟩
    have tN : (m : Int) + 1 = (N : Int) := by omega
    have hNb : N ≤ 600000 := by omega
    have hmN : m < N := by omega
    have hmk := fun W => mk_ul N (by omega) W
    have HN := hide hN
    clear hN
    obtain ⟨G, hG⟩ : ∃ G, G = w.heap.size := ⟨_, rfl⟩
    have HG := hide hG
    go_upto_region 4 with fail
    rw [← hG]
    have h0 : AdS w (w.alloc (.cells (cellsU (List.replicate N 0)) 104)) G N 0 [] := ⟨by rw [hG]; exact Blk.new _ _ _, rfl, (fun x hx => by cases hx), (Below.refl _ w).alloc (Nat.le_refl _) _⟩
    obtain ⟨X, hX⟩ : ∃ X, X = w.alloc (.cells (cellsU (List.replicate N 0)) 104) := ⟨_, rfl⟩
    rw [← hX] at h0 ⊢
    have H0 := hide h0
    clear h0 hX hG hmk
    go_wp2_with fail
    go_loopw [6, 22] (fun cv iv wr => ∃ (k cy : Nat) (O : List Nat), k ≤ m ∧ iv = .int .i64 k ∧ cv = .int .u64 cy ∧ cy ≤ 1 ∧ AdS w wr G N k O ∧ valW O + 4294967296 ^ k * cy = valW (a1.take k) + valW (b1.take k)) (fun _ iv _ => m - (intOf iv).toNat)
    case atStart => exact ⟨0, 0, [], by omega, rfl, rfl, by omega, H0.out, by simp [valW]⟩
    case round =>
      obtain ⟨k, cy, O, hk, rfl, rfl, hcy, hO, hval⟩ := hrel
      obtain ⟨V, rfl⟩ : ∃ V, V = wr := ⟨_, rfl⟩
      by_cases hkm : k < m
      · have i1 : (k : Int) < (m : Int) := by omega
        obtain ⟨ba, oa, hA, ga⟩ := slU_cell HA.out.1 hO.below (k := k) (by have := HA.out.2.2.2.2.1; omega)
        subst hA
        have hga := getD_ltW HA.out.2.2.1 k
        have hgb := getD_ltW HA.out.2.2.2.1 k
        have hstep := fun d => w_plus_step (a := a1) (b := b1) (d := d) hO.len hval
        have hgk : V.cell? ⟨G, k, none⟩ = some (.int .u64 ((O ++ List.replicate (N - k) 0).getD k 0 : Nat)) := by rw [hO.blk.cell, cellsU_at (by rw [List.length_append, List.length_replicate, hO.len]; omega)]
        have hfk : V.frozen? ⟨G, k, none⟩ = false := hO.blk.frozen _
        obtain ⟨old, hold⟩ : ∃ x, x = (O ++ List.replicate (N - k) 0).getD k 0 := ⟨_, rfl⟩
        rw [← hold] at hgk
        obtain ⟨x, hx⟩ : ∃ x, x = a1.getD k 0 := ⟨_, rfl⟩
        obtain ⟨y, hy⟩ : ∃ y, y = b1.getD k 0 := ⟨_, rfl⟩
        rw [← hx] at ga hga
        rw [← hy] at hgb
        have i5 : (k : Int) < (N : Int) := by omega
        by_cases hkn : k < n
        · have i2 : (k : Int) < (n : Int) := by omega
          obtain ⟨bb, ob, hB, gb⟩ := slU_cell HA.out.2.1 hO.below (k := k) (by have := HA.out.2.2.2.2.2.1; omega)
          subst hB
          rw [← hy] at gb
          obtain ⟨s1, hs1⟩ : ∃ s, s = x + cy := ⟨_, rfl⟩
          obtain ⟨s, hs⟩ : ∃ s, s = s1 + y := ⟨_, rfl⟩
          obtain ⟨r, hr⟩ : ∃ r, r = s % 4294967296 := ⟨_, rfl⟩
          obtain ⟨q, hq⟩ : ∃ q, q = s / 4294967296 := ⟨_, rfl⟩
          have hst := hstep s (by omega)
          rw [← hr, ← hq] at hst
          have w1 : IntKind.u64.wrap ((x : Int) + (cy : Int)) = (s1 : Int) := by rw [IntKind.wrap_u64]; omega
          have w2 : IntKind.u64.wrap ((s1 : Int) + (y : Int)) = (s : Int) := by rw [IntKind.wrap_u64]; omega
          have ta : bits BinOp.and IntKind.u64 (s : Int) 4294967295 = (r : Int) := by rw [mask_u64 s (by omega), hr]
          have ts : (s : Int) / 4294967296 = (q : Int) := by omega
          have e1 : (x : Int) + (cy : Int) = (s1 : Int) := by omega
          have e2 : (s1 : Int) + (y : Int) = (s : Int) := by omega
          have hsb : s ≤ 8589934592 := by omega
          have hsb1 : s1 ≤ 4294967296 := by omega
          have HT := hide (And.intro hO (And.intro hst (And.intro (show r < 4294967296 by omega) (And.intro (show q ≤ 1 by omega) (And.intro hkm hmN)))))
          clear hO hval hstep hst hr hq hs hs1 hx hy hold hkn hkm
          go_wp2
          go_roundw
          case rel => exact ⟨k + 1, q, O ++ [r], by have := HT.out.2.2.2.2.1; omega, by go_num, rfl, HT.out.2.2.2.1, HT.out.1.next (by have := HT.out.2.2.2.2; omega) HT.out.2.2.1 (by have := HG.out; omega), HT.out.2.1⟩
          case measure => (simp [intOf]; try omega)
        · have i2 : ¬ (k : Int) < (n : Int) := by omega
          have hy0 : y = 0 := by rw [hy, List.getD_eq_getElem?_getD, List.getElem?_eq_none (by have := HA.out.2.2.2.2.2.1; omega)]; rfl
          obtain ⟨s, hs⟩ : ∃ s, s = x + cy := ⟨_, rfl⟩
          obtain ⟨r, hr⟩ : ∃ r, r = s % 4294967296 := ⟨_, rfl⟩
          obtain ⟨q, hq⟩ : ∃ q, q = s / 4294967296 := ⟨_, rfl⟩
          have hst := hstep s (by omega)
          rw [← hr, ← hq] at hst
          have w1 : IntKind.u64.wrap ((x : Int) + (cy : Int)) = (s : Int) := by rw [IntKind.wrap_u64]; omega
          have ta : bits BinOp.and IntKind.u64 (s : Int) 4294967295 = (r : Int) := by rw [mask_u64 s (by omega), hr]
          have ts : (s : Int) / 4294967296 = (q : Int) := by omega
          have e1 : (x : Int) + (cy : Int) = (s : Int) := by omega
          have hsb : s ≤ 8589934592 := by omega
          have HT := hide (And.intro hO (And.intro hst (And.intro (show r < 4294967296 by omega) (And.intro (show q ≤ 1 by omega) (And.intro hkm hmN)))))
          clear hO hval hstep hst hr hq hs hx hy hy0 hold hkn hkm
          go_wp2
          go_roundw
          case rel => exact ⟨k + 1, q, O ++ [r], by have := HT.out.2.2.2.2.1; omega, by go_num, rfl, HT.out.2.2.2.1, HT.out.1.next (by have := HT.out.2.2.2.2; omega) HT.out.2.2.1 (by have := HG.out; omega), HT.out.2.1⟩
          case measure => (simp [intOf]; try omega)
      · have hke : k = m := by omega
        subst hke
        have i1 : ¬ (k : Int) < (k : Int) := by omega
        rw [List.take_of_length_le (by have := HA.out.2.2.2.2.1; omega), List.take_of_length_le (by have := HA.out.2.2.2.2.2.1; omega)] at hval
        have hgk : V.cell? ⟨G, k, none⟩ = some (.int .u64 ((O ++ List.replicate (N - k) 0).getD k 0 : Nat)) := by rw [hO.blk.cell, cellsU_at (by rw [List.length_append, List.length_replicate, hO.len]; omega)]
        have hfk : V.frozen? ⟨G, k, none⟩ = false := hO.blk.frozen _
        obtain ⟨old, hold⟩ : ∃ x, x = (O ++ List.replicate (N - k) 0).getD k 0 := ⟨_, rfl⟩
        rw [← hold] at hgk
        have i5 : (k : Int) < (N : Int) := by omega
        have hnx := hO.next hmN (r := cy) (by omega) (by have := HG.out; omega)
        obtain ⟨U, hU⟩ : ∃ U, U = V.setCell ⟨G, k, none⟩ (.int .u64 (cy : Int)) := ⟨_, rfl⟩
        have hNk : N - (k + 1) = 0 := by have := HN.out; omega
        have hfin : valW (O ++ [cy]) = valW a1 + valW b1 := by
          rw [valW_snoc, hO.len]; exact hval
        have HT := hide (And.intro hnx (And.intro hU (And.intro hNk hfin)))
        clear hO hval hold hnx hNk hfin
        go_upto_region 14 with fail
        rw [← hU]
        obtain ⟨hnx, _, hNk, hfin⟩ := HT.out
        rw [← hU] at hnx
        have hblk := hnx.blk
        rw [hNk, List.replicate_zero, List.append_nil] at hblk
        have hlO := hnx.len
        obtain ⟨F, hF⟩ : ∃ F, F = O ++ [cy] := ⟨_, rfl⟩
        rw [← hF] at hblk hlO hfin
        have hsl := sl_blkU hblk hblk.lt
        have hno := norm_any (some ⟨G, 0, none⟩) N F U hsl (by have := HN.out; omega) (by omega)
        have hokF : okW F := by rw [hF]; exact hnx.ok
        have htl := trimN_len F
        have hpre := trimN_pre F
        have hst : Sl encU 1 U U.heap.size (some ⟨G, 0, none⟩) (trimD F) := by rw [hpre]; exact hsl.take8 _
        rw [show F.length = N by have := HN.out; omega] at hno htl
        have hv2 : valW (trimD F) = valW a1 + valW b1 := by rw [valW_trim]; exact hfin
        have hot : okW (trimD F) := w_trim_ok hokF
        have HE := hide (And.intro hno (And.intro hst (And.intro hv2 (And.intro hot (And.intro htl (And.intro hnx.below (show N = max m0 n0 + 1 by have := HN.out; have := HA.out.2.2.2.2.2.2.1; have := HA.out.2.2.2.2.1; omega)))))))
        clear hnx hblk hsl hno hokF htl hpre hst hv2 hot hlO hF hfin hNk hgk hfk hU
        go_wp2_with (go_at_call 106; rw [← HT.out.2.1]; refine (unhide HE).1.mono ?_; rintro e w9 ⟨rfl, rfl⟩)
        go_ret
        obtain ⟨_, hst, hv2, hot, htl, hBz, hNe⟩ := HE.out
        exact ⟨some ⟨G, 0, none⟩, N, trimD F, rfl, htl, by omega, hot, hv2.trans HA.out.2.2.2.2.2.2.2, (by rw [← HT.out.2.1]; exact hst), (by rw [← HT.out.2.1]; exact hBz)⟩
end Go.Proofs.YtelfnmohpjkilaaGreatDoor
namespace Go.Proofs.YtelfnmohpjkilaaGreatDoor
open Go.RowKit Go.Sort
set_option maxRecDepth 100000
set_option maxHeartbeats 16000000 in
theorem sub4_any (A B : Option Addr) (c d : Nat) (a b : List Nat) (w : World) (ha : Sl encU 1 w w.heap.size A a) (hb : Sl encU 1 w w.heap.size B b) (oa : okW a) (ob : okW b) (la : a.length ≤ 500000) (lb : b.length ≤ a.length) (hge : valW b ≤ valW a) :
    Calls Tryz.prog 90 #[.slice A a.length c, .slice B b.length d] w fun e w' => ∃ A' c' out, e = .returned (.slice A' out.length c') ∧ out.length ≤ c' ∧ out.length ≤ a.length ∧ okW out ∧ valW out + valW b = valW a ∧ Sl encU 1 w' w'.heap.size A' out ∧ Below w.heap.size w w' := by
  obtain ⟨m, hm⟩ : ∃ m, m = a.length := ⟨_, rfl⟩
  obtain ⟨n, hn⟩ : ∃ n, n = b.length := ⟨_, rfl⟩
  have HA := hide (And.intro ha (And.intro hb (And.intro oa (And.intro ob (And.intro hm (And.intro hn hge))))))
  rw [← hm] at la lb ⊢
  rw [← hn] at lb ⊢
  have hmN : m ≤ 600000 := by omega
  clear ha hb oa ob hm hn hge
  have hmk := fun W => mk_ul m (by omega) W
  obtain ⟨G, hG⟩ : ∃ G, G = w.heap.size := ⟨_, rfl⟩
  have HG := hide hG
  go_enter Tryz.func90, Tryz.ntmps90
  go_upto_region 2 with fail
  rw [← hG]
  have h0 : AdS w (w.alloc (.cells (cellsU (List.replicate m 0)) 104)) G m 0 [] := ⟨by rw [hG]; exact Blk.new _ _ _, rfl, (fun x hx => by cases hx), (Below.refl _ w).alloc (Nat.le_refl _) _⟩
  obtain ⟨X, hX⟩ : ∃ X, X = w.alloc (.cells (cellsU (List.replicate m 0)) 104) := ⟨_, rfl⟩
  rw [← hX] at h0 ⊢
  have H0 := hide h0
  clear h0 hX hG hmk
  go_wp2_with fail
  go_loopw [6, 14] (fun cv iv wr => ∃ (k cy : Nat) (O : List Nat), k ≤ m ∧ iv = .int .i64 k ∧ cv = .int .u64 cy ∧ cy ≤ 1 ∧ AdS w wr G m k O ∧ valW O + valW (b.take k) = valW (a.take k) + 4294967296 ^ k * cy) (fun _ iv _ => m - (intOf iv).toNat)
  case atStart => exact ⟨0, 0, [], by omega, rfl, rfl, by omega, H0.out, by simp [valW]⟩
  case round =>
    obtain ⟨k, cy, O, hk, rfl, rfl, hcy, hO, hval⟩ := hrel
    obtain ⟨V, rfl⟩ : ∃ V, V = wr := ⟨_, rfl⟩
    by_cases hkm : k < m
    · have i1 : (k : Int) < (m : Int) := by omega
      obtain ⟨ba, oa, hA, ga⟩ := slU_cell HA.out.1 hO.below (k := k) (by have := HA.out.2.2.2.2.1; omega)
      subst hA
      have hga := getD_ltW HA.out.2.2.1 k
      have hgb := getD_ltW HA.out.2.2.2.1 k
      have hstep := fun d q => w_minus_step (a := a) (b := b) (d := d) (q := q) hO.len hval
      have hgk : V.cell? ⟨G, k, none⟩ = some (.int .u64 ((O ++ List.replicate (m - k) 0).getD k 0 : Nat)) := by rw [hO.blk.cell, cellsU_at (by rw [List.length_append, List.length_replicate, hO.len]; omega)]
      have hfk : V.frozen? ⟨G, k, none⟩ = false := hO.blk.frozen _
      obtain ⟨old, hold⟩ : ∃ x, x = (O ++ List.replicate (m - k) 0).getD k 0 := ⟨_, rfl⟩
      rw [← hold] at hgk
      obtain ⟨x, hx⟩ : ∃ x, x = a.getD k 0 := ⟨_, rfl⟩
      obtain ⟨y, hy⟩ : ∃ y, y = b.getD k 0 := ⟨_, rfl⟩
      rw [← hx] at ga hga
      rw [← hy] at hgb
      by_cases hkn : k < n
      · have i2 : (k : Int) < (n : Int) := by omega
        obtain ⟨bb, ob, hB, gb⟩ := slU_cell HA.out.2.1 hO.below (k := k) (by have := HA.out.2.2.2.2.2.1; omega)
        subst hB
        rw [← hy] at gb
        obtain ⟨s1, hs1⟩ : ∃ s, s = (x + 18446744073709551616 - cy) % 18446744073709551616 := ⟨_, rfl⟩
        obtain ⟨s, hs⟩ : ∃ s, s = (s1 + 18446744073709551616 - y) % 18446744073709551616 := ⟨_, rfl⟩
        obtain ⟨r, hr⟩ : ∃ r, r = s % 4294967296 := ⟨_, rfl⟩
        obtain ⟨q, hq⟩ : ∃ q, q = s / 9223372036854775808 := ⟨_, rfl⟩
        have hst := hstep r q (by omega)
        have w1 : IntKind.u64.wrap ((x : Int) - (cy : Int)) = (s1 : Int) := by rw [IntKind.wrap_u64]; omega
        have w2 : IntKind.u64.wrap ((s1 : Int) - (y : Int)) = (s : Int) := by rw [IntKind.wrap_u64]; omega
        have ta : bits BinOp.and IntKind.u64 (s : Int) 4294967295 = (r : Int) := by rw [mask_u64 s (by omega), hr]
        have ts : (s : Int) / 9223372036854775808 = (q : Int) := by omega
        have hsb : s < 18446744073709551616 := by omega
        have HT := hide (And.intro hO (And.intro hst (And.intro (show r < 4294967296 by omega) (And.intro (show q ≤ 1 by omega) hkm))))
        clear hs
        (try clear hs1)
        clear hO hval hstep hst hr hq hx hy hold hkn hkm
        go_wp2
        go_roundw
        case rel => exact ⟨k + 1, q, O ++ [r], by have := HT.out.2.2.2.2; omega, by go_num, rfl, HT.out.2.2.2.1, HT.out.1.next (by have := HT.out.2.2.2.2; omega) HT.out.2.2.1 (by have := HG.out; omega), HT.out.2.1⟩
        case measure => (simp [intOf]; try omega)
      · have i2 : ¬ (k : Int) < (n : Int) := by omega
        have hy0 : y = 0 := by rw [hy, List.getD_eq_getElem?_getD, List.getElem?_eq_none (by have := HA.out.2.2.2.2.2.1; omega)]; rfl
        obtain ⟨s, hs⟩ : ∃ s, s = (x + 18446744073709551616 - cy) % 18446744073709551616 := ⟨_, rfl⟩
        obtain ⟨r, hr⟩ : ∃ r, r = s % 4294967296 := ⟨_, rfl⟩
        obtain ⟨q, hq⟩ : ∃ q, q = s / 9223372036854775808 := ⟨_, rfl⟩
        have hst := hstep r q (by omega)
        have w1 : IntKind.u64.wrap ((x : Int) - (cy : Int)) = (s : Int) := by rw [IntKind.wrap_u64]; omega
        have ta : bits BinOp.and IntKind.u64 (s : Int) 4294967295 = (r : Int) := by rw [mask_u64 s (by omega), hr]
        have ts : (s : Int) / 9223372036854775808 = (q : Int) := by omega
        have hsb : s < 18446744073709551616 := by omega
        have HT := hide (And.intro hO (And.intro hst (And.intro (show r < 4294967296 by omega) (And.intro (show q ≤ 1 by omega) hkm))))
        clear hs
        (try clear hs1)
        clear hO hval hstep hst hr hq hx hy hold hkn hkm
        go_wp2
        go_roundw
        case rel => exact ⟨k + 1, q, O ++ [r], by have := HT.out.2.2.2.2; omega, by go_num, rfl, HT.out.2.2.2.1, HT.out.1.next (by have := HT.out.2.2.2.2; omega) HT.out.2.2.1 (by have := HG.out; omega), HT.out.2.1⟩
        case measure => (simp [intOf]; try omega)
    · have hke : k = m := by omega
      subst hke
      have i1 : ¬ (k : Int) < (k : Int) := by omega
      rw [List.take_of_length_le (by have := HA.out.2.2.2.2.2.1; omega), List.take_of_length_le (by have := HA.out.2.2.2.2.1; omega)] at hval
      have hblk := hO.blk
      rw [Nat.sub_self, List.replicate_zero, List.append_nil] at hblk
      have hlO := hO.len
      have hfin := w_minus_end hO.ok hlO HA.out.2.2.2.2.2.2 hval hcy
      have hsl := sl_blkU hblk hblk.lt
      have hno := norm_any (some ⟨G, 0, none⟩) k O V hsl (by omega) (by omega)
      have hst : Sl encU 1 V V.heap.size (some ⟨G, 0, none⟩) (trimD O) := by rw [trimN_pre O]; exact hsl.take8 _
      have htl := trimN_len O
      rw [hlO] at hno htl
      have hv2 : valW (trimD O) + valW b = valW a := by rw [valW_trim]; exact hfin
      have HE := hide (And.intro hno (And.intro hst (And.intro hv2 (And.intro (w_trim_ok hO.ok) (And.intro htl hO.below)))))
      clear hO hval hblk hlO hfin hsl hno hst htl hv2
      go_wp2_with (go_at_call 106; refine (unhide HE).1.mono ?_; rintro e w9 ⟨rfl, rfl⟩)
      go_ret
      obtain ⟨_, hst, hv2, hot, htl, hBz⟩ := HE.out
      exact ⟨some ⟨G, 0, none⟩, k, trimD O, rfl, htl, htl, hot, hv2, hst, hBz⟩
end Go.Proofs.YtelfnmohpjkilaaGreatDoor
namespace Go.Proofs.YtelfnmohpjkilaaGreatDoor
open Go.RowKit Go.Sort
/-- What the loops keep. -/
structure MulU (w0 w : World) (a b : List Nat) (N : Nat) (L : List Nat) (z : Nat) : Prop where
  blk : Blk w w0.heap.size 104 (cellsU L)
  len : L.length = N
  ok : okW L
  zero : ∀ j, z ≤ j → L.getD j 0 = 0
  below : Below w0.heap.size w0 w
theorem getD_set_neW {L : List Nat} {i j v : Nat} (h : i ≠ j) : (L.set j v).getD i 0 = L.getD i 0 := by
  rw [List.getD_eq_getElem?_getD, List.getElem?_set_ne (Ne.symm h), ← List.getD_eq_getElem?_getD]
set_option maxRecDepth 100000 in
set_option maxHeartbeats 16000000 in
theorem mul4_any (A B : Option Addr) (c d : Nat) (a b : List Nat) (w : World) (ha : Sl encU 1 w w.heap.size A a) (hb : Sl encU 1 w w.heap.size B b) (oa : okW a) (ob : okW b) (la : a.length ≤ 200000) (lb : b.length ≤ 200000) :
    Calls Tryz.prog 86 #[.slice A a.length c, .slice B b.length d] w fun e w' => ∃ A' c' out, e = .returned (.slice A' out.length c') ∧ out.length ≤ c' ∧ out.length ≤ 500001 ∧ okW out ∧ valW out = valW a * valW b ∧ Sl encU 1 w' w'.heap.size A' out ∧ Below w.heap.size w w' := by
  obtain ⟨m, hm⟩ : ∃ m, m = a.length := ⟨_, rfl⟩
  obtain ⟨n, hn⟩ : ∃ n, n = b.length := ⟨_, rfl⟩
  have HS := hide (And.intro ha (And.intro hb (And.intro oa (And.intro ob (And.intro hm hn)))))
  rw [← hm] at la ⊢
  rw [← hn] at lb ⊢
  clear ha hb oa ob hm hn
  obtain ⟨N, hN⟩ : ∃ N, N = m + n := ⟨_, rfl⟩
  have hNi : (m : Int) + (n : Int) = (N : Int) := by omega
  have hmk : ∀ W : World, (Instr.makeSlice 116 (.int .i64 (N : Int)) (.int .i64 (N : Int))).run Tryz.prog W = .ok (.slice (some ⟨W.heap.size, 0, none⟩) N N) (W.alloc (.cells (cellsU (List.replicate N 0)) 104)) := fun W => mk_ul N (by omega) W
  have HN := hide hN
  have hNb : N ≤ 400000 := by omega
  clear hN
  obtain ⟨G, hG⟩ : ∃ G, G = w.heap.size := ⟨_, rfl⟩
  have HGG := hide hG
  go_enter Tryz.func86, Tryz.ntmps86
  go_wp2
  rw [← hG]
  clear hG
  go_loopw [20] (fun iv wr => ∃ (i : Nat) (L : List Nat), i ≤ m ∧ iv = .int .i64 i ∧ MulU w wr a b N L (i + n) ∧ valW L = valW (a.take i) * valW b) (fun iv _ => m - (intOf iv).toNat)
  case atStart =>
    refine ⟨0, List.replicate N 0, by omega, rfl, ⟨Blk.new _ _ _, List.length_replicate, fun x hx => by rw [(List.mem_replicate.1 hx).2]; omega, fun j _ => ?_, (Below.refl _ w).alloc (Nat.le_refl _) _⟩, ?_⟩
    · rw [List.getD_eq_getElem?_getD, List.getElem?_replicate]; split <;> rfl
    · rw [valW_zeros]; simp [valW]
  case round =>
    obtain ⟨i, L, hi, rfl, hL, hval⟩ := hrel
    by_cases him : i < m
    · have i1 : (i : Int) < (m : Int) := by omega
      obtain ⟨ba, oa, hA, ga⟩ := slU_cell HS.out.1 hL.below (k := i) (by rw [← HS.out.2.2.2.2.1]; exact him)
      subst hA
      have hga := getD_ltW HS.out.2.2.1 i
      obtain ⟨x, hx⟩ : ∃ x, x = a.getD i 0 := ⟨_, rfl⟩
      rw [← hx] at ga hga
      have hX := hide hx
      have HL := hide (And.intro hL hval)
      clear hL hval hx
      go_wp2
      go_loopw [8, 27] (fun cv kv wx => ∃ (k cy : Nat) (K : List Nat), k ≤ n ∧ kv = .int .i64 k ∧ cv = .int .u64 cy ∧ cy < 4294967296 ∧ MulU w wx a b N K (i + n) ∧ valW K + cy * 4294967296 ^ (i + k) = valW (a.take i) * valW b + a.getD i 0 * valW (b.take k) * 4294967296 ^ i) (fun _ kv _ => n - (intOf kv).toNat)
      case atStart => exact ⟨0, 0, L, by omega, rfl, rfl, by omega, HL.out.1, by rw [HL.out.2]; simp [valW]⟩
      case round =>
        obtain ⟨k, cy, K, hk, rfl, rfl, hcy, hK, hkv⟩ := hrel
        obtain ⟨V, rfl⟩ : ∃ V, V = wr := ⟨_, rfl⟩
        by_cases hkn : k < n
        · have i2 : (k : Int) < (n : Int) := by omega
          obtain ⟨bb, ob, hB, gb⟩ := slU_cell HS.out.2.1 hK.below (k := k) (by rw [← HS.out.2.2.2.2.2]; exact hkn)
          subst hB
          have hgb := getD_ltW HS.out.2.2.2.1 k
          have hgz := getD_ltW hK.ok (i + k)
          have hjN : i + k < N := by rw [HN.out]; omega
          have hst := fun d => w_times_step (d := d) (a := a) (b := b) (i := i) (k := k) (by rw [hK.len]; exact hjN) hkv
          have g0 : V.cell? ⟨G, i + k, none⟩ = some (.int .u64 (K.getD (i + k) 0 : Nat)) := by rw [HGG.out, hK.blk.cell, cellsU_at (by rw [hK.len]; exact hjN)]
          have f0 : V.frozen? ⟨G, i + k, none⟩ = false := by rw [HGG.out]; exact hK.blk.frozen _
          obtain ⟨y, hy⟩ : ∃ y, y = b.getD k 0 := ⟨_, rfl⟩
          obtain ⟨z, hz⟩ : ∃ z, z = K.getD (i + k) 0 := ⟨_, rfl⟩
          obtain ⟨j, hj⟩ : ∃ j, j = i + k := ⟨_, rfl⟩
          rw [← hy] at gb hgb
          rw [← hz] at g0 hgz
          rw [← hj] at g0 f0 hjN
          obtain ⟨hp1, hp3, hp2⟩ := word_prod hga hgb hgz hcy
          obtain ⟨p, hp⟩ : ∃ p, p = x * y := ⟨_, rfl⟩
          have tp : (x : Int) * (y : Int) = (p : Int) := by rw [hp]; exact (Int.natCast_mul x y).symm
          rw [← hp] at hp1 hp2 hp3
          obtain ⟨s, hs⟩ : ∃ s, s = z + p + cy := ⟨_, rfl⟩
          rw [← hs] at hp2 hp3
          obtain ⟨zp, hzp⟩ : ∃ u, u = z + p := ⟨_, rfl⟩
          have hst1 := hst s (by rw [hs, hz, hp, hX.out, hy])
          rw [← hj] at hst1
          obtain ⟨r, hr⟩ : ∃ r, r = s % 4294967296 := ⟨_, rfl⟩
          obtain ⟨q, hq⟩ : ∃ q, q = s / 4294967296 := ⟨_, rfl⟩
          rw [← hr, ← hq] at hst1
          rw [← hq] at hp2
          have tj : (i : Int) + (k : Int) = (j : Int) := by omega
          have tjN : (j : Int) < (N : Int) := by omega
          have w1 : IntKind.u64.wrap ((x : Int) * (y : Int)) = (p : Int) := by rw [tp, IntKind.wrap_u64]; omega
          have w2 : IntKind.u64.wrap ((z : Int) + (p : Int)) = (zp : Int) := by rw [IntKind.wrap_u64]; omega
          have w3 : IntKind.u64.wrap ((zp : Int) + (cy : Int)) = (s : Int) := by rw [IntKind.wrap_u64]; omega
          have t1 : bits BinOp.and IntKind.u64 (s : Int) 4294967295 = (r : Int) := by rw [mask_u64 s (by omega), hr]
          have t2 : (s : Int) / 4294967296 = (q : Int) := by omega
          have hr6 : r < 4294967296 := by omega
          have hsb : s < 18446744073709551616 := hp3
          have HT := hide (And.intro hK (And.intro hst1 (And.intro hr6 (And.intro hp2 (And.intro hjN hj)))))
          clear hK hkv hst hst1 hr hq hs hp hy hz hj hr6 hp2 hjN hp1 hp3 hzp tp
          go_wp2
          go_roundw
          case rel =>
            obtain ⟨hK, hst1, hr6, hp2, hjN, hj⟩ := HT.out
            refine ⟨k + 1, q, K.set j r, by omega, by go_num, rfl, hp2, ⟨?_, by rw [List.length_set]; exact hK.len, okW_set hK.ok hr6, fun e he => by rw [getD_set_neW (by omega)]; exact hK.zero e he, ?_⟩, hst1⟩
            · have := hK.blk.set_ j (.int .u64 (r : Int))
              rw [cellsU_set] at this
              rw [HGG.out]
              exact this
            · rw [HGG.out]
              exact hK.below.setCell (Nat.le_refl _) _
          case measure => (simp [intOf]; try omega)
        · have i2 : ¬ (k : Int) < (n : Int) := by omega
          obtain rfl : k = n := by omega
          obtain ⟨j, hj⟩ : ∃ j, j = i + k := ⟨_, rfl⟩
          have tj : (i : Int) + (k : Int) = (j : Int) := by omega
          have hjN : j < N := by have := HN.out; omega
          have tjN : (j : Int) < (N : Int) := by omega
          have f0 : V.frozen? ⟨G, j, none⟩ = false := by rw [HGG.out]; exact hK.blk.frozen _
          have g0 : V.cell? ⟨G, j, none⟩ = some (.int .u64 (K.getD j 0 : Nat)) := by rw [HGG.out, hK.blk.cell, cellsU_at (by rw [hK.len]; exact hjN)]
          obtain ⟨z, hz⟩ : ∃ z, z = K.getD j 0 := ⟨_, rfl⟩
          rw [← hz] at g0
          have hrow := w_times_row (a := a) (b := b) (i := i) (n := k) (by rw [hK.len, ← hj]; exact hjN) (by have := HS.out.2.2.2.2.2; omega) (by rw [← hj]; exact hK.zero j (by omega)) hkv
          rw [← hj] at hrow
          have HT := hide (And.intro hK (And.intro hrow (And.intro hj hjN)))
          clear hK hkv hrow hj hjN hz hkn
          go_wp2
          go_roundw
          case rel =>
            obtain ⟨hK, hrow, hj, hjN⟩ := HT.out
            refine ⟨i + 1, K.set j cy, by omega, by go_num, ⟨?_, by rw [List.length_set]; exact hK.len, okW_set hK.ok hcy, fun e he => by rw [getD_set_neW (by omega)]; exact hK.zero e (by omega), ?_⟩, hrow⟩
            · have := hK.blk.set_ j (.int .u64 (cy : Int))
              rw [cellsU_set] at this
              rw [HGG.out]
              exact this
            · rw [HGG.out]
              exact hK.below.setCell (Nat.le_refl _) _
          case measure => (simp [intOf]; try omega)
    · have i1 : ¬ (i : Int) < (m : Int) := by omega
      obtain ⟨V, rfl⟩ : ∃ V, V = wr := ⟨_, rfl⟩
      rw [List.take_of_length_le (by have := HS.out.2.2.2.2.1; omega)] at hval
      have hlen := hL.len
      have hsl : Sl encU 1 V V.heap.size (some ⟨w.heap.size, 0, none⟩) L := sl_blkU hL.blk hL.blk.lt
      rw [← HGG.out] at hsl
      have htr := norm_any (some ⟨G, 0, none⟩) N L V hsl (by rw [hlen]; exact Nat.le_refl _) (by rw [hlen]; omega)
      rw [hlen] at htr
      have hle := trimN_len L
      have hpre := trimN_pre L
      have hokt := w_trim_ok hL.ok
      rw [← valW_trim L] at hval
      have hst : Sl encU 1 V V.heap.size (some ⟨G, 0, none⟩) (trimD L) := by rw [hpre]; exact hsl.take8 _
      have HT := hide (And.intro htr (And.intro hval (And.intro hst (And.intro hle (And.intro hokt (And.intro hlen hL.below))))))
      clear htr hval hst hle hokt hlen hL hpre hsl him
      go_wp2_with fail
      with_reducible refine HT.out.1.mono ?_
      rintro e w9 ⟨rfl, rfl⟩
      go_wp2
      go_ret
      obtain ⟨_, hv2, hst, hle, hokt, hlen, hBz⟩ := HT.out
      exact ⟨some ⟨G, 0, none⟩, N, trimD L, rfl, by omega, by omega, hokt, hv2, hst, hBz⟩
end Go.Proofs.YtelfnmohpjkilaaGreatDoor
namespace Go.Proofs.YtelfnmohpjkilaaGreatDoor
open Go.RowKit Go.Sort
theorem drop_stepW {a b : List Nat} (hl : a.length = b.length) {i : Nat} (hi : i < a.length) (hd : a.drop (i + 1) = b.drop (i + 1)) (h : a.getD i 0 = b.getD i 0) : a.drop i = b.drop i := by
  rw [List.drop_eq_getElem_cons hi, List.drop_eq_getElem_cons (show i < b.length by omega), hd]
  rw [List.getD_eq_getElem?_getD, List.getD_eq_getElem?_getD, List.getElem?_eq_getElem hi, List.getElem?_eq_getElem (show i < b.length by omega)] at h
  simp only [Option.getD_some] at h
  rw [h]
set_option maxRecDepth 100000 in
set_option maxHeartbeats 16000000 in
theorem cmp4_any (A B : Option Addr) (c d : Nat) (a b : List Nat) (w : World) (ha : Sl encU 1 w w.heap.size A a) (hb : Sl encU 1 w w.heap.size B b) (oa : okW a) (ob : okW b) (ta : trimD a = a) (tb : trimD b = b) (la : a.length ≤ 500000) (lb : b.length ≤ 500000) :
    Calls Tryz.prog 89 #[.slice A a.length c, .slice B b.length d] w fun e w' => ∃ r : Int, e = .returned (.int .i64 r) ∧ (r < 0 ↔ valW a < valW b) ∧ Below w.heap.size w w' := by
  have hlt1 := w_val_len oa tb
  have hlt2 := w_val_len ob ta
  obtain ⟨m, hm⟩ : ∃ m, m = a.length := ⟨_, rfl⟩
  obtain ⟨n, hn⟩ : ∃ n, n = b.length := ⟨_, rfl⟩
  rw [← hm] at la hlt1 hlt2 ⊢
  rw [← hn] at lb hlt1 hlt2 ⊢
  have HS := hide (And.intro ha (And.intro hb (And.intro oa (And.intro ob (And.intro hm hn)))))
  have HL := hide (And.intro hlt1 hlt2)
  clear ha hb oa ob hm hn ta tb hlt1 hlt2
  go_enter Tryz.func89, Tryz.ntmps89
  rcases Nat.lt_trichotomy m n with h | h | h
  · have i1 : (m : Int) < (n : Int) := by omega
    have i2 : ¬ (n : Int) < (m : Int) := by omega
    have HE := hide (HL.out.1 h)
    clear h
    go_wp2
    go_ret
    exact ⟨-1, rfl, ⟨fun _ => HE.out, fun _ => by decide⟩, Below.refl _ w⟩
  · subst h
    go_wp2
    go_loopw [5] (fun iv wr => ∃ (q t : Nat), q ≤ m ∧ iv = .int .i64 ((q : Int) - 1) ∧ a.drop q = b.drop q ∧ wr = w.drewN t) (fun iv _ => (intOf iv + 1).toNat)
    case atStart => exact ⟨m, 0, Nat.le_refl _, rfl, by rw [List.drop_of_length_le (by rw [← HS.out.2.2.2.2.1]; exact Nat.le_refl _), List.drop_of_length_le (by rw [← HS.out.2.2.2.2.2]; exact Nat.le_refl _)], rfl⟩
    case round =>
      obtain ⟨q, t, hq, rfl, hdr, rfl⟩ := hrel
      by_cases hq0 : q = 0
      · subst hq0
        rw [List.drop_zero, List.drop_zero] at hdr
        have HE := hide hdr
        clear hdr
        go_wp2
        go_ret
        exact ⟨0, rfl, ⟨fun h => absurd h (by decide), fun h => absurd h (by rw [HE.out]; exact Nat.lt_irrefl _)⟩, below_drewN (Below.refl _ w) t⟩
      · obtain ⟨r, rfl⟩ : ∃ r, q = r + 1 := ⟨q - 1, by omega⟩
        have eiv : ((r + 1 : Nat) : Int) - 1 = (r : Int) := by omega
        rw [eiv]
        have hgl : ∀ (A : Option Addr) (l : List Nat), Sl encU 1 w w.heap.size A l → r < l.length → ∃ b o, A = some ⟨b, o, none⟩ ∧ w.cell? ⟨b, o + r, none⟩ = some (.int .u64 (l.getD r 0 : Nat)) := fun A l hl hk => by
          have hd : l[r]? = some (l.getD r 0) := by rw [List.getD_eq_getElem?_getD, List.getElem?_eq_getElem hk]; rfl
          obtain ⟨b, o, hA, _, hc⟩ := hl.at hd
          refine ⟨b, o, hA, ?_⟩
          have := hc 0 _ rfl
          rw [Nat.mul_one, Nat.add_zero] at this
          exact this
        obtain ⟨b1, o1, hA, g1⟩ := hgl A a HS.out.1 (by rw [← HS.out.2.2.2.2.1]; omega)
        obtain ⟨b2, o2, hB, g2⟩ := hgl B b HS.out.2.1 (by rw [← HS.out.2.2.2.2.2]; omega)
        subst hA
        subst hB
        have hla : a.length = b.length := by rw [← HS.out.2.2.2.2.1, ← HS.out.2.2.2.2.2]
        have hra : r < a.length := by rw [← HS.out.2.2.2.2.1]; omega
        have k1 := fun h => w_val_less HS.out.2.2.1 hla hra hdr h
        have k2 := fun h => w_val_less HS.out.2.2.2.1 hla.symm (by omega) hdr.symm h
        have k3 := fun h => drop_stepW hla hra hdr h
        obtain ⟨x, hx⟩ : ∃ x, x = a.getD r 0 := ⟨_, rfl⟩
        obtain ⟨y, hy⟩ : ∃ y, y = b.getD r 0 := ⟨_, rfl⟩
        rw [← hx] at g1 k1 k2 k3
        rw [← hy] at g2 k1 k2 k3
        have i1 : (r : Int) < (m : Int) := by omega
        have HK := hide (And.intro k1 (And.intro k2 k3))
        clear k1 k2 k3 hdr hla hra hgl hx hy
        rcases Nat.lt_trichotomy x y with h | h | h
        · have j1 : (x : Int) < (y : Int) := by omega
          have j2 : ¬ (y : Int) < (x : Int) := by omega
          have HE := hide (HK.out.1 h)
          clear h
          go_wp2_with fail
          go_quiet (fail)
          go_wp2
          go_ret
          exact ⟨-1, rfl, ⟨fun _ => HE.out, fun _ => by decide⟩, below_drewN (below_drewN (Below.refl _ w) t) _⟩
        · subst h
          have HE := hide (HK.out.2.2 rfl)
          have j1 : ¬ (x : Int) < (x : Int) := by omega
          go_wp2_with fail
          go_quiet (fail)
          go_wp2_with fail
          go_quiet (fail)
          go_wp2
          go_roundw
          case rel => exact ⟨r, _, by omega, by rfl, HE.out, rfl⟩
          case measure => (simp [intOf]; try omega)
        · have j1 : ¬ (x : Int) < (y : Int) := by omega
          have j2 : (y : Int) < (x : Int) := by omega
          have HE := hide (HK.out.2.1 h)
          clear h
          go_wp2_with fail
          go_quiet (fail)
          go_wp2_with fail
          go_quiet (fail)
          go_wp2
          go_ret
          exact ⟨1, rfl, ⟨fun h => absurd h (by decide), fun h => absurd HE.out (by omega)⟩, below_drewN (below_drewN (below_drewN (Below.refl _ w) t) _) _⟩
  · have i1 : ¬ (m : Int) < (n : Int) := by omega
    have i2 : (n : Int) < (m : Int) := by omega
    have HE := hide (HL.out.2 h)
    clear h
    go_wp2
    go_ret
    exact ⟨1, rfl, ⟨fun h => absurd h (by decide), fun h => absurd HE.out (by omega)⟩, Below.refl _ w⟩
end Go.Proofs.YtelfnmohpjkilaaGreatDoor
namespace Go.Proofs.YtelfnmohpjkilaaGreatDoor
open Go.RowKit Go.Sort
def nvalV (neg : Bool) (bs : List Nat) : Value := .agg #[.bool neg, .string (strL bs.reverse)]
def intG (neg : Bool) (n : Nat) : Int := if neg then -(n : Int) else (n : Int)
/-- v stands for x. -/
def WideN (v : Value) (x : Int) : Prop := ∃ neg bs, v = nvalV neg bs ∧ okG 256 bs ∧ trimD bs = bs ∧ x = intG neg (valG 256 bs) ∧ (bs = [] → neg = false)
theorem intG_abs (neg : Bool) (n : Nat) : (intG neg n).natAbs = n := by
  unfold intG
  cases neg
  · rw [if_neg (by decide)]; exact Int.natAbs_natCast _
  · rw [if_pos rfl, Int.natAbs_neg]; exact Int.natAbs_natCast _
theorem intG_not (neg : Bool) (n : Nat) : intG (!neg) n = - intG neg n := by
  unfold intG
  cases neg <;> simp
theorem g_val_ge {m : List Nat} (tm : trimD m = m) (hne : m ≠ []) : 256 ^ (m.length - 1) ≤ valG 256 m := by
  obtain ⟨k, d, rfl, hd⟩ := trim_self tm hne
  rw [valG_app, List.length_append, List.length_singleton, Nat.add_sub_cancel]
  have h3 : valG 256 [d] = d := by simp [valG]
  rw [h3]
  have h5 : 256 ^ k.length * 1 ≤ 256 ^ k.length * d := Nat.mul_le_mul_left _ (by omega)
  omega
theorem g_len {m : List Nat} {K : Nat} (tm : trimD m = m) (h : valG 256 m < 256 ^ K) : m.length ≤ K := by
  by_cases hne : m = []
  · subst hne; simp
  · have h2 : 256 ^ (m.length - 1) < 256 ^ K := Nat.lt_of_le_of_lt (g_val_ge tm hne) h
    have h3 := (Nat.pow_lt_pow_iff_right (by omega)).1 h2
    omega
/-- The words of a number. -/
def wordsN (bs : List Nat) : List Nat := trimD (wordsC bs 0 ((bs.length + 3) / 4))
theorem wordsN_ok {bs : List Nat} (h : okG 256 bs) : okW (wordsN bs) := w_trim_ok (okW_G.2 (wordsC_ok h 0 _))
theorem wordsN_trim (bs : List Nat) : trimD (wordsN bs) = wordsN bs := trim_idem _
theorem wordsN_val (bs : List Nat) : valW (wordsN bs) = valG 256 bs := by
  unfold wordsN
  rw [valW_trim, valW_G, wordsC_val _ (by omega)]
theorem wordsN_len (bs : List Nat) : (wordsN bs).length ≤ bs.length := by
  have := trimN_len (wordsC bs 0 ((bs.length + 3) / 4))
  rw [wordsC_len] at this
  unfold wordsN
  omega
theorem WideN.form {v : Value} {x : Int} (h : WideN v x) : ∃ b s, v = .agg #[.bool b, .string s] := by
  obtain ⟨neg, l, rfl, _⟩ := h
  exact ⟨neg, strL l.reverse, rfl⟩
theorem WideN.uniq {v u : Value} {x : Int} (h : WideN v x) (k : WideN u x) : v = u := by
  obtain ⟨neg, l, rfl, ol, tl, hl, nl⟩ := h
  obtain ⟨ne2, m, rfl, om, tm, hm, nm⟩ := k
  have hv : valG 256 l = valG 256 m := by
    have := congrArg Int.natAbs (hl.symm.trans hm)
    rwa [intG_abs, intG_abs] at this
  obtain rfl := valG_uniq (by omega) ol om tl tm hv
  by_cases he : l = []
  · rw [nl he, nm he]
  · have hp : 0 < valG 256 l := by
      rcases Nat.eq_zero_or_pos (valG 256 l) with h | h
      · exact absurd (valG_zero (by omega) tl h) he
      · exact h
    have hs := hl.symm.trans hm
    unfold intG at hs
    cases neg <;> cases ne2 <;> first | rfl | (simp at hs; omega)
theorem widN_sg {neg : Bool} {l : List Nat} (ho : okW l) : WideN (.agg #[.bool (neg && decide (trimD (bytesW (trimD l)) ≠ [])), .string (strL (trimD (bytesW (trimD l))).reverse)]) (intG neg (valW l)) := by
  refine ⟨_, trimD (bytesW (trimD l)), rfl, trim_okG (bytesW_ok _), trim_idem _, ?_, fun h => by rw [h]; cases neg <;> rfl⟩
  have hv : valG 256 (trimD (bytesW (trimD l))) = valW l := by
    rw [valG_trim, bytesW_val (okW_G.1 (w_trim_ok ho)), ← valW_G, valW_trim]
  rw [hv]
  by_cases h : trimD (bytesW (trimD l)) = []
  · have h0 : valW l = 0 := by rw [← hv, h]; rfl
    rw [h0]
    unfold intG
    simp
  · have : decide (trimD (bytesW (trimD l)) ≠ []) = true := decide_eq_true h
    rw [this, Bool.and_true]
/-- (nat).wide, as a number. -/
theorem wideV_any (neg : Bool) (A : Option Addr) (c : Nat) (l : List Nat) (w : World) (hs : Sl encU 1 w w.heap.size A l) (hlc : l.length ≤ c) (hok : okW l) (hl : l.length ≤ 1000000) (x : Int) (hx : x = intG neg (valW l)) :
    Calls Tryz.prog 87 #[.slice A l.length c, .bool neg] w fun e w' => ∃ b s, e = .returned (.agg #[.bool b, .string s]) ∧ WideN (.agg #[.bool b, .string s]) x ∧ Below w.heap.size w w' := by
  subst hx
  refine (wide4_any neg A c l w hs hlc (okW_G.1 hok) hl).mono ?_
  rintro e w' ⟨rfl, hB⟩
  exact ⟨_, _, rfl, widN_sg hok, hB⟩
theorem absN_any (neg : Bool) (bs : List Nat) (ho : okG 256 bs) (hl : bs.length ≤ 1000000) (w : World) :
    Calls Tryz.prog 85 #[nvalV neg bs] w fun e w' => ∃ A c, e = .returned (.slice A (wordsN bs).length c) ∧ (wordsN bs).length ≤ c ∧ Sl encU 1 w' w'.heap.size A (wordsN bs) ∧ Below w.heap.size w w' :=
  (abs_any neg bs ho hl w).mono fun _ _ ⟨A, c, h1, h2, h3, h4⟩ => ⟨A, c, h1, h3, h2, h4⟩
theorem mulG_sign (na nb : Bool) (m n : Nat) : intG na m * intG nb n = intG (na != nb) (m * n) := by
  unfold intG; rw [Int.natCast_mul]; cases na <;> cases nb <;> simp [Int.neg_mul, Int.mul_neg]
set_option maxRecDepth 100000 in
set_option maxHeartbeats 16000000 in
theorem negN_any (K : Nat) (v : Value) (x : Int) (hv : WideN v x) (hK : K ≤ 100000) (sx : x.natAbs < 256 ^ K) (w : World) :
    Calls Tryz.prog 91 #[v] w fun e w' => ∃ b s, e = .returned (.agg #[.bool b, .string s]) ∧ WideN (.agg #[.bool b, .string s]) (-x) ∧ Below w.heap.size w w' := by
  obtain ⟨na, la, rfl, oa, ta, hx, _⟩ := hv
  have l8 := g_len ta (K := K) (by rw [← intG_abs na (valG 256 la), ← hx]; exact sx)
  have hdg := fun W => absN_any na la oa (by omega) W
  have hwd := fun (A : Option Addr) (c : Nat) W (hs : Sl encU 1 W W.heap.size A (wordsN la)) (hc : (wordsN la).length ≤ c) => wideV_any (!na) A c (wordsN la) W hs hc (wordsN_ok oa) (by have := wordsN_len la; omega) (-x) (by rw [wordsN_val, intG_not, hx])
  obtain ⟨s, hs⟩ : ∃ s, s = strL la.reverse := ⟨_, rfl⟩
  have hwv : nvalV na la = .agg #[.bool na, .string s] := by rw [hs]; rfl
  rw [hwv] at hdg ⊢
  obtain ⟨L, hL⟩ : ∃ L, L = (wordsN la).length := ⟨_, rfl⟩
  rw [← hL] at hdg hwd
  have HC := hide (And.intro hdg hwd)
  have HL := hide hL
  clear hdg hwd hwv hs oa ta hx sx hL l8
  go_enter Tryz.func91, Tryz.ntmps91
  go_upto_region 1 with fail
  obtain ⟨X, hX⟩ : ∃ X, X = (w.alloc (.cells #[.bool na, .string s] 46)).alloc (.cells #[.bool false, .string ⟨#[]⟩] 46) := ⟨_, rfl⟩
  rw [← hX]
  have hb : Blk X w.heap.size 46 #[.bool na, .string s] := by rw [hX]; exact (Blk.new _ _ _).alloc _
  have hr : Blk X (w.heap.size + 1) 46 #[.bool false, .string ⟨#[]⟩] := by rw [hX]; exact Blk.new' _ _ _ _ (by simp)
  have hBX : Below w.heap.size w X := by rw [hX]; exact ((Below.refl _ w).alloc (Nat.le_refl _) _).alloc (by simp) _
  have hzX : X.heap.size = w.heap.size + 2 := by rw [hX]; simp
  obtain ⟨bx, hbx⟩ : ∃ b, b = w.heap.size := ⟨_, rfl⟩
  rw [← hbx] at hb hr hzX ⊢
  have hS : ∀ W, Below X.heap.size X W → W.cell? ⟨bx, 0, none⟩ = some (.bool na) ∧ W.cell? ⟨bx, 1, none⟩ = some (.string s) := fun W hW => by
    have h2 := hb.below hW hb.lt
    exact ⟨h2.cell 0, h2.cell 1⟩
  have HS := hide hS
  have HQ := hide (hS X.drew (Below.refl _ X).drew)
  have HX := hide (And.intro hr (And.intro hBX (And.intro hzX hbx)))
  clear hS hr hBX hzX hbx hb hX
  refine wp_region_mix (fun W => W.cell? ⟨bx, 0, none⟩ = some (.bool na) ∧ W.cell? ⟨bx, 1, none⟩ = some (.string s)) [0, 2, 3, 4] [0, 2, 3, 4, 1, 5, 6] mixed_ok (by kernel_rfl) ?_
  refine wpMix_q (v := .agg #[.bool na, .string s]) rfl rfl (fun _ _ _ h => h) HQ.out ⟨rfl, fun _ h' => by simp [go_sem, h'.1, h'.2]⟩ ?_
  refine wpMix_q (v := .pointer (some ⟨bx, 0, none⟩)) rfl rfl (fun _ _ _ h => h) HQ.out ⟨rfl, fun _ _ => by simp [go_sem]⟩ ?_
  refine wpMix_q (v := .bool na) rfl rfl (fun _ _ _ h => h) HQ.out ⟨rfl, fun _ h' => by simp [go_sem, h'.1]⟩ ?_
  refine wpMix_q (v := .bool (!na)) rfl rfl (fun _ _ _ h => h) HQ.out ⟨rfl, fun _ _ => by simp [go_sem]⟩ ?_
  simp only [List.getElem_toArray, List.getElem_cons_succ, List.getElem_cons_zero]
  refine wpMix_n rfl rfl ?_
  go_wp2_with fail
  with_reducible refine (HC.out.1 X.drew).mono ?_
  rintro e w5 ⟨A5, c5, rfl, hlc, hsl, hB5⟩
  have hB5 : Below X.heap.size X w5 := (Below.refl X.heap.size X).drew.trans hB5
  have H5 := hide (And.intro hlc (And.intro hsl hB5))
  clear hlc hsl hB5
  go_wp2_with fail
  refine ⟨fun _ => HS.out w5 H5.out.2.2, ?_⟩
  refine wpMix_tail _ [_, _] (by kernel_rfl) rfl ?_
  simp only [List.getElem_toArray, List.getElem_cons_succ, List.getElem_cons_zero]
  go_wp2_with fail
  with_reducible refine (HC.out.2 A5 c5 w5 H5.out.2.1 H5.out.1).mono ?_
  rintro e w6 ⟨rb, rs, rfl, hW, hB6⟩
  have hr6 := (HX.out.1.below H5.out.2.2 HX.out.1.lt).below hB6 (by have := HX.out.1.lt; have := H5.out.2.2.size; omega)
  have hB6' := HX.out.2.1.trans ((H5.out.2.2.trans (hB6.mono H5.out.2.2.size)).mono HX.out.2.1.size)
  have r0 := hr6.cell 0
  have r1 := hr6.cell 1
  have f0 := hr6.frozen 0
  have f1 := hr6.frozen 1
  have hlt := hr6.lt
  simp only [List.getElem?_toArray, List.getElem?_cons_zero, List.getElem?_cons_succ] at r0 r1
  have hbx := HX.out.2.2.2
  have H6 := hide (And.intro hW (And.intro hB6' (And.intro hr6 hbx)))
  clear hW hB6 hB6' hr6 hbx
  go_wp2
  refine ret_at (v := .agg #[.bool rb, .string rs]) (fun W => Blk W (bx + 1) 46 #[.bool rb, .string rs]) ?_ (fun W h => ?_) rfl ⟨rb, rs, rfl, H6.out.1, ?_⟩
  · exact (H6.out.2.2.1.set_ 0 (.bool rb)).set_ 1 (.string rs)
  · have a0 := h.cell 0
    have a1 := h.cell 1
    simp only [List.getElem?_toArray, List.getElem?_cons_zero, List.getElem?_cons_succ] at a0 a1
    simp [results, Tryz.results91, go_sem, a0, a1]
  · have := H6.out.2.2.2
    exact (H6.out.2.1.setCell (by dsimp only; omega) _).setCell (by dsimp only; omega) _
set_option maxRecDepth 100000 in
set_option maxHeartbeats 16000000 in
theorem mulN_any (K : Nat) (va vb : Value) (x y : Int) (ha : WideN va x) (hb : WideN vb y) (hK : K ≤ 100000) (sx : x.natAbs < 256 ^ K) (sy : y.natAbs < 256 ^ K) (w : World) :
    Calls Tryz.prog 57 #[va, vb] w fun e w' => ∃ b s, e = .returned (.agg #[.bool b, .string s]) ∧ WideN (.agg #[.bool b, .string s]) (x * y) ∧ Below w.heap.size w w' := by
  obtain ⟨na, la, rfl, oa, ta, hx, _⟩ := ha
  obtain ⟨nb, lb, rfl, ob, tb, hy, _⟩ := hb
  have la8 := g_len ta (K := K) (by rw [← intG_abs na (valG 256 la), ← hx]; exact sx)
  have lb8 := g_len tb (K := K) (by rw [← intG_abs nb (valG 256 lb), ← hy]; exact sy)
  have hda := fun W => absN_any na la oa (by omega) W
  have hdb := fun W => absN_any nb lb ob (by omega) W
  have la9 := wordsN_len la
  have lb9 := wordsN_len lb
  have hva := wordsN_val la
  have hvb := wordsN_val lb
  have oa9 := wordsN_ok oa
  have ob9 := wordsN_ok ob
  have ta9 := wordsN_trim la
  have tb9 := wordsN_trim lb
  obtain ⟨wa, hwa9⟩ : ∃ wa, wa = wordsN la := ⟨_, rfl⟩
  obtain ⟨wb, hwb9⟩ : ∃ wb, wb = wordsN lb := ⟨_, rfl⟩
  rw [← hwa9] at hda la9 hva oa9 ta9
  rw [← hwb9] at hdb lb9 hvb ob9 tb9
  rw [← hva] at hx
  rw [← hvb] at hy
  have htm := fun (A B : Option Addr) (c d : Nat) W (h1 : Sl encU 1 W W.heap.size A wa) (h2 : Sl encU 1 W W.heap.size B wb) => mul4_any A B c d wa wb W h1 h2 oa9 ob9 (by omega) (by omega)
  have hwd := fun (A : Option Addr) (c : Nat) (out : List Nat) W (hv : valW out = valW wa * valW wb) (ho : okW out) (hs : Sl encU 1 W W.heap.size A out) (hc : out.length ≤ c) (hl : out.length ≤ 500001) => wideV_any (na != nb) A c out W hs hc ho (by omega) (x * y) (by rw [hx, hy, hv]; exact mulG_sign na nb _ _)
  obtain ⟨sa, hsa⟩ : ∃ s, s = strL la.reverse := ⟨_, rfl⟩
  have hwa : nvalV na la = .agg #[.bool na, .string sa] := by rw [hsa]; rfl
  obtain ⟨sb, hsb⟩ : ∃ s, s = strL lb.reverse := ⟨_, rfl⟩
  have hwb : nvalV nb lb = .agg #[.bool nb, .string sb] := by rw [hsb]; rfl
  rw [hwa] at hda ⊢
  rw [hwb] at hdb ⊢
  obtain ⟨La, hLa⟩ : ∃ L, L = wa.length := ⟨_, rfl⟩
  obtain ⟨Lb, hLb⟩ : ∃ L, L = wb.length := ⟨_, rfl⟩
  rw [← hLa] at hda htm
  rw [← hLb] at hdb htm
  have HC := hide (And.intro hda (And.intro hdb (And.intro htm hwd)))
  clear hda hdb htm hwd hwa hwb hsa hsb oa ob ta tb hx hy sx sy la8 lb8 hLa hLb la9 lb9 hva hvb oa9 ob9 ta9 tb9 hwa9 hwb9
  go_enter Tryz.func57, Tryz.ntmps57
  go_upto_region 1 with fail
  obtain ⟨X, hX⟩ : ∃ X, X = ((w.alloc (.cells #[.bool na, .string sa] 46)).alloc (.cells #[.bool nb, .string sb] 46)).alloc (.cells #[.bool false, .string ⟨#[]⟩] 46) := ⟨_, rfl⟩
  rw [← hX]
  have hb0 : Blk X w.heap.size 46 #[.bool na, .string sa] := by rw [hX]; exact ((Blk.new _ _ _).alloc _).alloc _
  have hb1 : Blk X (w.heap.size + 1) 46 #[.bool nb, .string sb] := by rw [hX]; exact (Blk.new' _ _ _ _ (by simp)).alloc _
  have hr : Blk X (w.heap.size + 1 + 1) 46 #[.bool false, .string ⟨#[]⟩] := by rw [hX]; exact Blk.new' _ _ _ _ (by simp)
  have hBX : Below w.heap.size w X := by rw [hX]; exact (((Below.refl _ w).alloc (Nat.le_refl _) _).alloc (by simp) _).alloc (by simp; omega) _
  have hzX : X.heap.size = w.heap.size + 3 := by rw [hX]; simp
  obtain ⟨bx, hbx⟩ : ∃ b, b = w.heap.size := ⟨_, rfl⟩
  rw [← hbx] at hb0 hb1 hr hzX ⊢
  have hS : ∀ W, Below X.heap.size X W → (W.cell? ⟨bx, 0, none⟩ = some (.bool na) ∧ W.cell? ⟨bx, 1, none⟩ = some (.string sa)) ∧ W.cell? ⟨bx + 1, 0, none⟩ = some (.bool nb) ∧ W.cell? ⟨bx + 1, 1, none⟩ = some (.string sb) := fun W hW => by
    have h2 := hb0.below hW hb0.lt
    have h3 := hb1.below hW hb1.lt
    exact ⟨⟨h2.cell 0, h2.cell 1⟩, h3.cell 0, h3.cell 1⟩
  have HS := hide hS
  have HX := hide (And.intro hr (And.intro hBX (And.intro hzX hbx)))
  clear hS hr hBX hzX hbx hb0 hb1 hX
  have HQ := hide (HS.out X.drew (Below.refl _ X).drew)
  refine wp_region_mix (fun W => (W.cell? ⟨bx, 0, none⟩ = some (.bool na) ∧ W.cell? ⟨bx, 1, none⟩ = some (.string sa)) ∧ W.cell? ⟨bx + 1, 0, none⟩ = some (.bool nb) ∧ W.cell? ⟨bx + 1, 1, none⟩ = some (.string sb)) [0, 2, 5, 6, 7, 8, 9] [0, 2, 5, 6, 7, 8, 9, 1, 3, 4, 10, 11] mixed_ok (by kernel_rfl) ?_
  refine wpMix_q (v := .agg #[.bool na, .string sa]) rfl rfl (fun _ _ _ h => h) HQ.out ⟨rfl, fun _ h' => by simp [go_sem, h'.1.1, h'.1.2]⟩ ?_
  refine wpMix_q (v := .agg #[.bool nb, .string sb]) rfl rfl (fun _ _ _ h => h) HQ.out ⟨rfl, fun _ h' => by simp [go_sem, h'.2.1, h'.2.2]⟩ ?_
  refine wpMix_q (v := .pointer (some ⟨bx, 0, none⟩)) rfl rfl (fun _ _ _ h => h) HQ.out ⟨rfl, fun _ h' => by simp [go_sem]⟩ ?_
  refine wpMix_q (v := .bool na) rfl rfl (fun _ _ _ h => h) HQ.out ⟨rfl, fun _ h' => by simp [go_sem, h'.1.1]⟩ ?_
  refine wpMix_q (v := .pointer (some ⟨bx + 1, 0, none⟩)) rfl rfl (fun _ _ _ h => h) HQ.out ⟨rfl, fun _ h' => by simp [go_sem]⟩ ?_
  refine wpMix_q (v := .bool nb) rfl rfl (fun _ _ _ h => h) HQ.out ⟨rfl, fun _ h' => by simp [go_sem, h'.2.1]⟩ ?_
  simp only [List.getElem_toArray, List.getElem_cons_succ, List.getElem_cons_zero, Act.put, List.setIfInBounds_toArray, List.set_cons_succ, List.set_cons_zero]
  refine wpMix_q (v := .bool (na != nb)) rfl rfl (fun _ _ _ h => h) HQ.out ⟨rfl, fun _ h' => by simp [go_sem, bne]⟩ ?_
  simp only [List.getElem_toArray, List.getElem_cons_succ, List.getElem_cons_zero]
  refine wpMix_n rfl rfl ?_
  go_wp2_with fail
  with_reducible refine (HC.out.1 X.drew).mono ?_
  rintro e w5 ⟨A5, c5, rfl, hlc, hsl, hB5⟩
  have hB5 : Below X.heap.size X w5 := (Below.refl X.heap.size X).drew.trans hB5
  have H5 := hide (And.intro hlc (And.intro hsl hB5))
  clear hlc hsl hB5
  go_wp2_with fail
  refine ⟨fun _ => HS.out w5 H5.out.2.2, ?_⟩
  refine wpMix_n rfl rfl ?_
  go_wp2_with fail
  with_reducible refine (HC.out.2.1 w5).mono ?_
  rintro e w6 ⟨A6, c6, rfl, hlc, hsl, hB6⟩
  have H6 := hide (And.intro hlc (And.intro hsl (And.intro ((H5.out.2.1.below hB6).more hB6.size) (H5.out.2.2.trans (hB6.mono H5.out.2.2.size)))))
  clear hlc hsl hB6
  go_wp2_with fail
  refine ⟨fun _ => HS.out w6 H6.out.2.2.2, ?_⟩
  refine wpMix_n rfl rfl ?_
  go_wp2_with fail
  with_reducible refine (HC.out.2.2.1 A5 A6 c5 c6 w6 H6.out.2.2.1 H6.out.2.1).mono ?_
  rintro e w7 ⟨A7, c7, out, rfl, hc7, hl7, ho7, hv7, hs7, hB7⟩
  have hwd := HC.out.2.2.2 A7 c7 out w7 hv7 ho7 hs7 hc7 hl7
  obtain ⟨Lo, hLo⟩ : ∃ L, L = out.length := ⟨_, rfl⟩
  rw [← hLo] at hwd ⊢
  have H7 := hide (And.intro hwd (H6.out.2.2.2.trans (hB7.mono H6.out.2.2.2.size)))
  clear hwd hc7 hl7 ho7 hv7 hs7 hB7 hLo
  go_wp2_with fail
  refine ⟨fun _ => HS.out w7 H7.out.2, ?_⟩
  refine wpMix_tail _ [_, _] (by kernel_rfl) rfl ?_
  simp only [List.getElem_toArray, List.getElem_cons_succ, List.getElem_cons_zero]
  go_wp2_with fail
  with_reducible refine H7.out.1.mono ?_
  rintro e w8 ⟨rb, rs, rfl, hW, hB8⟩
  have hBX8 := H7.out.2.trans (hB8.mono H7.out.2.size)
  have hr6 := HX.out.1.below hBX8 HX.out.1.lt
  have hB9 := HX.out.2.1.trans (hBX8.mono HX.out.2.1.size)
  clear hB8 hBX8
  have r0 := hr6.cell 0
  have r1 := hr6.cell 1
  have f0 := hr6.frozen 0
  have f1 := hr6.frozen 1
  have hlt := hr6.lt
  simp only [List.getElem?_toArray, List.getElem?_cons_zero, List.getElem?_cons_succ] at r0 r1
  have hbx := HX.out.2.2.2
  have H9 := hide (And.intro hW (And.intro hB9 (And.intro hr6 hbx)))
  clear hW hB9 hr6 hbx
  go_wp2
  refine ret_at (v := .agg #[.bool rb, .string rs]) (fun W => Blk W (bx + 1 + 1) 46 #[.bool rb, .string rs]) ?_ (fun W h => ?_) rfl ⟨rb, rs, rfl, H9.out.1, ?_⟩
  · exact (H9.out.2.2.1.set_ 0 (.bool rb)).set_ 1 (.string rs)
  · have a0 := h.cell 0
    have a1 := h.cell 1
    simp only [List.getElem?_toArray, List.getElem?_cons_zero, List.getElem?_cons_succ] at a0 a1
    simp [results, Tryz.results57, go_sem, a0, a1]
  · have := H9.out.2.2.2
    exact (H9.out.2.1.setCell (by dsimp only; omega) _).setCell (by dsimp only; omega) _
end Go.Proofs.YtelfnmohpjkilaaGreatDoor
namespace Go.Proofs.YtelfnmohpjkilaaGreatDoor
open Go.RowKit Go.Sort
theorem bytesD_val : ∀ l : List Nat, valG 256 (bytesD l) = valD l
  | [] => rfl
  | [d] => by
    unfold bytesD
    split
    · simp only [valG, valD]; omega
    · simp only [valG, valD]
  | d :: e :: l => by
    have ih := bytesD_val (e :: l)
    rw [bytesD_cons d (by simp)]
    show d % 256 + 256 * (d / 256 + 256 * valG 256 (bytesD (e :: l))) = d + 65536 * valD (e :: l)
    rw [ih]
    omega
theorem trim_step {d : Nat} {m : List Nat} (h : trimD m = m) (hne : m ≠ []) : trimD (d :: m) = d :: m := by
  cases m with
  | nil => exact absurd rfl hne
  | cons e m => rw [trimD, h]
theorem bytesD_trim : ∀ l : List Nat, trimD l = l → trimD (bytesD l) = bytesD l
  | [], _ => rfl
  | [d], h => by
    have hd : d ≠ 0 := fun e => by subst e; simp [trimD] at h
    unfold bytesD
    split
    · have h1 : ¬ d / 256 = 0 := by omega
      simp [trimD, h1]
    · simp [trimD, hd]
  | d :: e :: l, h => by
    have ih := bytesD_trim (e :: l) (trim_tail h)
    have hne : bytesD (e :: l) ≠ [] := fun h0 => by
      have h1 := bytesD_len (e :: l) (by simp)
      rw [h0] at h1
      simp only [List.length_nil, List.length_cons] at h1
      omega
    rw [bytesD_cons d (by simp)]
    exact trim_step (trim_step ih hne) (by simp)
theorem WideI.toN {v : Value} {x : Int} (h : WideI v x) : WideN v x := by
  obtain ⟨neg, l, rfl, ol, tl, hx, hn⟩ := h
  refine ⟨neg, bytesD l, rfl, bytesD_lt ol, bytesD_trim l tl, by rw [bytesD_val]; exact hx, fun h0 => hn ?_⟩
  by_cases hl : l = []
  · exact hl
  · have := bytesD_len l hl
    have hp : 0 < l.length := List.length_pos_iff.2 hl
    rw [h0] at this
    simp only [List.length_nil] at this
    omega
theorem litsWd (b : Bool) (s : ByteArray) (hs : s.size ≤ maxLen) : ∃ L, Tryz.prog.keyLits 2 46 [.bool b, .string s] = some L := by
  have c1 : Tryz.prog.cellsOf 4 = 1 := by kernel_rfl
  have c2 : Tryz.prog.cellsOf 9 = 1 := by kernel_rfl
  have c3 : Tryz.prog.cellsOf 46 = 2 := by kernel_rfl
  exact ⟨[.bool b, .string s.data.toList], by simp [Program.keyLits, Tryz.underlying46, Tryz.underlying4, Tryz.underlying9, c1, c2, c3, hs]⟩
theorem eqWd (b : Bool) (s : ByteArray) (hs : s.size ≤ maxLen) (w : World) : (Op.equalIn 10000 46 (.agg #[.bool b, .string s]) (.agg #[.bool b, .string s])).run Tryz.prog w = .ok true w := by
  have c : Tryz.prog.cellsOf 46 = 2 := by kernel_rfl
  obtain ⟨L, hL⟩ := litsWd b s hs
  obtain ⟨r, hr, he⟩ := run_equalIn_deep (P := Tryz.prog) 9998 2 46 (by kernel_rfl) w 2 2 (.agg #[.bool b, .string s]) (.agg #[.bool b, .string s]) L L (by simp [Value.formed, Tryz.underlying46, c]) (by simp [Value.formed, Tryz.underlying46, c]) hL hL
  rw [hr]
  have : r = true := he.2 rfl
  rw [this]
end Go.Proofs.YtelfnmohpjkilaaGreatDoor
namespace Go.Proofs.YtelfnmohpjkilaaGreatDoor
open Go.RowKit Go.Sort
theorem addG_same {na nb : Bool} {a b out : Nat} (h : na = nb) (hv : out = a + b) : intG na a + intG nb b = intG na out := by
  subst h; unfold intG; rw [hv]; cases na <;> simp <;> omega
theorem addG_left {na nb : Bool} {a b out : Nat} (h : na ≠ nb) (hv : out + b = a) : intG na a + intG nb b = intG na out := by
  unfold intG; rw [← hv]; cases na <;> cases nb <;> simp at h ⊢ <;> omega
theorem addG_right {na nb : Bool} {a b out : Nat} (h : na ≠ nb) (hv : out + a = b) : intG na a + intG nb b = intG nb out := by
  unfold intG; rw [← hv]; cases na <;> cases nb <;> simp at h ⊢ <;> omega
set_option maxRecDepth 100000 in
set_option maxHeartbeats 16000000 in
theorem addN_any (K : Nat) (va vb : Value) (x y : Int) (ha : WideN va x) (hb : WideN vb y) (hK : K ≤ 100000) (sx : x.natAbs < 256 ^ K) (sy : y.natAbs < 256 ^ K) (w : World) :
    Calls Tryz.prog 59 #[va, vb] w fun e w' => ∃ b s, e = .returned (.agg #[.bool b, .string s]) ∧ WideN (.agg #[.bool b, .string s]) (x + y) ∧ Below w.heap.size w w' := by
  obtain ⟨na, la, rfl, oa, ta, hx, _⟩ := ha
  obtain ⟨nb, lb, rfl, ob, tb, hy, _⟩ := hb
  have la8 := g_len ta (K := K) (by rw [← intG_abs na (valG 256 la), ← hx]; exact sx)
  have lb8 := g_len tb (K := K) (by rw [← intG_abs nb (valG 256 lb), ← hy]; exact sy)
  have hda := fun W => absN_any na la oa (by omega) W
  have hdb := fun W => absN_any nb lb ob (by omega) W
  have la9 := wordsN_len la
  have lb9 := wordsN_len lb
  have hva := wordsN_val la
  have hvb := wordsN_val lb
  have oa9 := wordsN_ok oa
  have ob9 := wordsN_ok ob
  have ta9 := wordsN_trim la
  have tb9 := wordsN_trim lb
  obtain ⟨wa, hwa9⟩ : ∃ wa, wa = wordsN la := ⟨_, rfl⟩
  obtain ⟨wb, hwb9⟩ : ∃ wb, wb = wordsN lb := ⟨_, rfl⟩
  rw [← hwa9] at hda la9 hva oa9 ta9
  rw [← hwb9] at hdb lb9 hvb ob9 tb9
  rw [← hva] at hx
  rw [← hvb] at hy
  have hpl := fun (A B : Option Addr) (c d : Nat) W (h1 : Sl encU 1 W W.heap.size A wa) (h2 : Sl encU 1 W W.heap.size B wb) => add4_any A B c d wa wb W h1 h2 oa9 ob9 (by omega) (by omega)
  have hcm := fun (A B : Option Addr) (c d : Nat) W (h1 : Sl encU 1 W W.heap.size A wa) (h2 : Sl encU 1 W W.heap.size B wb) => cmp4_any A B c d wa wb W h1 h2 oa9 ob9 ta9 tb9 (by omega) (by omega)
  have hm1 := fun (A B : Option Addr) (c d : Nat) W (h1 : Sl encU 1 W W.heap.size A wa) (h2 : Sl encU 1 W W.heap.size B wb) (hv : valW wb ≤ valW wa) => sub4_any A B c d wa wb W h1 h2 oa9 ob9 (by omega) (by rcases Nat.lt_or_ge wa.length wb.length with h | h; exact absurd (w_val_len oa9 tb9 h) (by omega); exact h) hv
  have hm2 := fun (A B : Option Addr) (c d : Nat) W (h1 : Sl encU 1 W W.heap.size B wb) (h2 : Sl encU 1 W W.heap.size A wa) (hv : valW wa ≤ valW wb) => sub4_any B A d c wb wa W h1 h2 ob9 oa9 (by omega) (by rcases Nat.lt_or_ge wb.length wa.length with h | h; exact absurd (w_val_len ob9 ta9 h) (by omega); exact h) hv
  have hwd := fun (r : Bool) (A : Option Addr) (c : Nat) (out : List Nat) W (hv : x + y = intG r (valW out)) (ho : okW out) (hs : Sl encU 1 W W.heap.size A out) (hc : out.length ≤ c) (hl : out.length ≤ 500001) => wideV_any r A c out W hs hc ho (by omega) (x + y) hv
  obtain ⟨sa, hsa⟩ : ∃ s, s = strL la.reverse := ⟨_, rfl⟩
  have hwa : nvalV na la = .agg #[.bool na, .string sa] := by rw [hsa]; rfl
  obtain ⟨sb, hsb⟩ : ∃ s, s = strL lb.reverse := ⟨_, rfl⟩
  have hwb : nvalV nb lb = .agg #[.bool nb, .string sb] := by rw [hsb]; rfl
  rw [hwa] at hda ⊢
  rw [hwb] at hdb ⊢
  obtain ⟨La, hLa⟩ : ∃ L, L = wa.length := ⟨_, rfl⟩
  obtain ⟨Lb, hLb⟩ : ∃ L, L = wb.length := ⟨_, rfl⟩
  rw [← hLa] at hda hpl hcm hm1 hm2
  rw [← hLb] at hdb hpl hcm hm1 hm2
  have HC := hide (And.intro hda (And.intro hdb (And.intro hpl (And.intro hcm (And.intro hm1 (And.intro hm2 hwd))))))
  have HV := hide (And.intro hx (And.intro hy (show La ≤ 100000 ∧ Lb ≤ 100000 by omega)))
  clear hda hdb hpl hcm hm1 hm2 hwd hwa hwb hsa hsb oa ob ta tb hx hy sx sy la8 lb8 hLa hLb la9 lb9 hva hvb oa9 ob9 ta9 tb9 hwa9 hwb9
  go_enter Tryz.func59, Tryz.ntmps59
  go_upto_region 1 with fail
  obtain ⟨X, hX⟩ : ∃ X, X = ((w.alloc (.cells #[.bool na, .string sa] 46)).alloc (.cells #[.bool nb, .string sb] 46)).alloc (.cells #[.bool false, .string ⟨#[]⟩] 46) := ⟨_, rfl⟩
  rw [← hX]
  have hb0 : Blk X w.heap.size 46 #[.bool na, .string sa] := by rw [hX]; exact ((Blk.new _ _ _).alloc _).alloc _
  have hb1 : Blk X (w.heap.size + 1) 46 #[.bool nb, .string sb] := by rw [hX]; exact (Blk.new' _ _ _ _ (by simp)).alloc _
  have hr : Blk X (w.heap.size + 1 + 1) 46 #[.bool false, .string ⟨#[]⟩] := by rw [hX]; exact Blk.new' _ _ _ _ (by simp)
  have hBX : Below w.heap.size w X := by rw [hX]; exact (((Below.refl _ w).alloc (Nat.le_refl _) _).alloc (by simp) _).alloc (by simp; omega) _
  have hzX : X.heap.size = w.heap.size + 3 := by rw [hX]; simp
  obtain ⟨bx, hbx⟩ : ∃ b, b = w.heap.size := ⟨_, rfl⟩
  rw [← hbx] at hb0 hb1 hr hzX ⊢
  have hS : ∀ W, Below X.heap.size X W → (W.cell? ⟨bx, 0, none⟩ = some (.bool na) ∧ W.cell? ⟨bx, 1, none⟩ = some (.string sa)) ∧ W.cell? ⟨bx + 1, 0, none⟩ = some (.bool nb) ∧ W.cell? ⟨bx + 1, 1, none⟩ = some (.string sb) := fun W hW => by
    have h2 := hb0.below hW hb0.lt
    have h3 := hb1.below hW hb1.lt
    exact ⟨⟨h2.cell 0, h2.cell 1⟩, h3.cell 0, h3.cell 1⟩
  have HS := hide hS
  have HX := hide (And.intro hr (And.intro hBX (And.intro hzX hbx)))
  clear hS hr hBX hzX hbx hb0 hb1 hX
  have HQ := hide (HS.out X.drew (Below.refl _ X).drew)
  refine wp_region_mix (fun W => (W.cell? ⟨bx, 0, none⟩ = some (.bool na) ∧ W.cell? ⟨bx, 1, none⟩ = some (.string sa)) ∧ W.cell? ⟨bx + 1, 0, none⟩ = some (.bool nb) ∧ W.cell? ⟨bx + 1, 1, none⟩ = some (.string sb)) [0, 2] [0, 2, 1, 3, 4, 5] mixed_ok (by kernel_rfl) ?_
  refine wpMix_q (v := .agg #[.bool na, .string sa]) rfl rfl (fun _ _ _ h => h) HQ.out ⟨rfl, fun _ h' => by simp [go_sem, h'.1.1, h'.1.2]⟩ ?_
  refine wpMix_q (v := .agg #[.bool nb, .string sb]) rfl rfl (fun _ _ _ h => h) HQ.out ⟨rfl, fun _ h' => by simp [go_sem, h'.2.1, h'.2.2]⟩ ?_
  simp only [List.getElem_toArray, List.getElem_cons_succ, List.getElem_cons_zero]
  refine wpMix_n rfl rfl ?_
  go_wp2_with fail
  with_reducible refine (HC.out.1 X.drew).mono ?_
  rintro e w5 ⟨A5, c5, rfl, hlc, hsl, hB5⟩
  have hB5 : Below X.heap.size X w5 := (Below.refl X.heap.size X).drew.trans hB5
  have H5 := hide (And.intro hlc (And.intro hsl hB5))
  clear hlc hsl hB5 HQ
  go_wp2_with fail
  refine ⟨fun _ => HS.out w5 H5.out.2.2, ?_⟩
  refine wpMix_tail _ [_, _, _] (by kernel_rfl) rfl ?_
  simp only [List.getElem_toArray, List.getElem_cons_succ, List.getElem_cons_zero]
  go_wp2_with fail
  with_reducible refine (HC.out.2.1 w5).mono ?_
  rintro e w6 ⟨A6, c6, rfl, hlc, hsl, hB6⟩
  have H6 := hide (And.intro hlc (And.intro hsl (And.intro ((H5.out.2.1.below hB6).more hB6.size) (H5.out.2.2.trans (hB6.mono H5.out.2.2.size)))))
  clear hlc hsl hB6
  have hq0 := HS.out w6 H6.out.2.2.2
  obtain ⟨⟨q0, q1⟩, q2, q3⟩ := hq0
  have HQ := hide (HS.out w6.drew H6.out.2.2.2.drew)
  by_cases hn : na = nb
  · have tn : (na == nb) = true := by simp [hn]
    have HN := hide hn
    clear hn
    go_upto_region 3 with fail
    refine wp_region_mix (fun W => (W.cell? ⟨bx, 0, none⟩ = some (.bool na) ∧ W.cell? ⟨bx, 1, none⟩ = some (.string sa)) ∧ W.cell? ⟨bx + 1, 0, none⟩ = some (.bool nb) ∧ W.cell? ⟨bx + 1, 1, none⟩ = some (.string sb)) [0, 1, 3, 4] [0, 1, 3, 4, 2, 5, 6] mixed_ok (by kernel_rfl) ?_
    refine wpMix_q (v := .slice A5 La c5) rfl rfl (fun _ _ _ h => h) HQ.out ⟨rfl, fun _ h' => by simp [go_sem]⟩ ?_
    refine wpMix_q (v := .slice A6 Lb c6) rfl rfl (fun _ _ _ h => h) HQ.out ⟨rfl, fun _ h' => by simp [go_sem]⟩ ?_
    refine wpMix_q (v := .pointer (some ⟨bx, 0, none⟩)) rfl rfl (fun _ _ _ h => h) HQ.out ⟨rfl, fun _ h' => by simp [go_sem]⟩ ?_
    refine wpMix_q (v := .bool na) rfl rfl (fun _ _ _ h => h) HQ.out ⟨rfl, fun _ h' => by simp [go_sem, h'.1.1]⟩ ?_
    simp only [List.getElem_toArray, List.getElem_cons_succ, List.getElem_cons_zero]
    refine wpMix_n rfl rfl ?_
    go_wp2_with fail
    have s1 : Sl encU 1 w6.drew w6.drew.heap.size A5 wa := H6.out.2.2.1
    have s2 : Sl encU 1 w6.drew w6.drew.heap.size A6 wb := H6.out.2.1
    with_reducible refine (HC.out.2.2.1 A5 A6 c5 c6 w6.drew s1 s2).mono ?_
    clear s1 s2
    rintro e w8 ⟨A8, c8, out, rfl, hc8, hl8, ho8, hv8, hs8, hB8⟩
    have hB8 : Below w6.heap.size w6 w8 := (Below.refl w6.heap.size w6).drew.trans hB8
    have hwd := HC.out.2.2.2.2.2.2 na A8 c8 out w8 (by rw [HV.out.1, HV.out.2.1]; exact addG_same HN.out hv8) ho8 hs8 hc8 (by have := HV.out.2.2; omega)
    obtain ⟨Lo, hLo⟩ : ∃ L, L = out.length := ⟨_, rfl⟩
    rw [← hLo] at hwd ⊢
    have H8 := hide (And.intro hwd (H6.out.2.2.2.trans (hB8.mono H6.out.2.2.2.size)))
    clear hwd hc8 hl8 ho8 hv8 hs8 hB8 hLo
    go_wp2_with fail
    refine ⟨fun _ => HS.out w8 H8.out.2, ?_⟩
    refine wpMix_tail _ [_, _] (by kernel_rfl) rfl ?_
    simp only [List.getElem_toArray, List.getElem_cons_succ, List.getElem_cons_zero]
    go_wp2_with fail
    with_reducible refine H8.out.1.mono ?_
    rintro e w9 ⟨rb, rs, rfl, hW, hB9⟩
    have hBX8 := H8.out.2.trans (hB9.mono H8.out.2.size)
    have hr6 := HX.out.1.below hBX8 HX.out.1.lt
    have hB9 := HX.out.2.1.trans (hBX8.mono HX.out.2.1.size)
    clear hBX8
    have r0 := hr6.cell 0
    have r1 := hr6.cell 1
    have f0 := hr6.frozen 0
    have f1 := hr6.frozen 1
    have hlt := hr6.lt
    simp only [List.getElem?_toArray, List.getElem?_cons_zero, List.getElem?_cons_succ] at r0 r1
    have hbx := HX.out.2.2.2
    have H9 := hide (And.intro hW (And.intro hB9 (And.intro hr6 hbx)))
    clear hW hB9 hr6 hbx
    go_wp2
    refine ret_at (v := .agg #[.bool rb, .string rs]) (fun W => Blk W (bx + 1 + 1) 46 #[.bool rb, .string rs]) ?_ (fun W h => ?_) rfl ⟨rb, rs, rfl, H9.out.1, ?_⟩
    · exact (H9.out.2.2.1.set_ 0 (.bool rb)).set_ 1 (.string rs)
    · have a0 := h.cell 0
      have a1 := h.cell 1
      simp only [List.getElem?_toArray, List.getElem?_cons_zero, List.getElem?_cons_succ] at a0 a1
      simp [results, Tryz.results59, go_sem, a0, a1]
    · have := H9.out.2.2.2
      exact (H9.out.2.1.setCell (by dsimp only; omega) _).setCell (by dsimp only; omega) _
  · have tn : (na == nb) = false := by simp [hn]
    have HN := hide hn
    clear hn
    go_wp2_with fail
    with_reducible refine (HC.out.2.2.2.1 A5 A6 c5 c6 w6 H6.out.2.2.1 H6.out.2.1).mono ?_
    rintro e w7 ⟨r, rfl, hr0, hB7⟩
    have H7 := hide (And.intro hr0 (And.intro ((H6.out.2.2.1.below hB7).more hB7.size) (And.intro ((H6.out.2.1.below hB7).more hB7.size) (H6.out.2.2.2.trans (hB7.mono H6.out.2.2.2.size)))))
    clear hr0 hB7 q0 q1 q2 q3 HQ
    have HQ := hide (HS.out w7.drew H7.out.2.2.2.drew)
    by_cases hc0 : ¬ r < (0 : Int)
    · have HV0 := hide (show valW wb ≤ valW wa by have := mt H7.out.1.2 hc0; omega)
      go_upto_region 6 with fail
      refine wp_region_mix (fun W => (W.cell? ⟨bx, 0, none⟩ = some (.bool na) ∧ W.cell? ⟨bx, 1, none⟩ = some (.string sa)) ∧ W.cell? ⟨bx + 1, 0, none⟩ = some (.bool nb) ∧ W.cell? ⟨bx + 1, 1, none⟩ = some (.string sb)) [0, 1, 3, 4] [0, 1, 3, 4, 2, 5, 6] mixed_ok (by kernel_rfl) ?_
      refine wpMix_q (v := .slice A5 La c5) rfl rfl (fun _ _ _ h => h) HQ.out ⟨rfl, fun _ h' => by simp [go_sem]⟩ ?_
      refine wpMix_q (v := .slice A6 Lb c6) rfl rfl (fun _ _ _ h => h) HQ.out ⟨rfl, fun _ h' => by simp [go_sem]⟩ ?_
      refine wpMix_q (v := .pointer (some ⟨bx, 0, none⟩)) rfl rfl (fun _ _ _ h => h) HQ.out ⟨rfl, fun _ h' => by simp [go_sem]⟩ ?_
      refine wpMix_q (v := .bool na) rfl rfl (fun _ _ _ h => h) HQ.out ⟨rfl, fun _ h' => by simp [go_sem, h'.1.1]⟩ ?_
      simp only [List.getElem_toArray, List.getElem_cons_succ, List.getElem_cons_zero]
      refine wpMix_n rfl rfl ?_
      go_wp2_with fail
      have s1 : Sl encU 1 w7.drew w7.drew.heap.size A5 wa := H7.out.2.1
      have s2 : Sl encU 1 w7.drew w7.drew.heap.size A6 wb := H7.out.2.2.1
      with_reducible refine (HC.out.2.2.2.2.1 A5 A6 c5 c6 w7.drew s1 s2 HV0.out).mono ?_
      clear s1 s2
      rintro e w8 ⟨A8, c8, out, rfl, hc8, hl8, ho8, hv8, hs8, hB8⟩
      have hB8 : Below w7.heap.size w7 w8 := (Below.refl w7.heap.size w7).drew.trans hB8
      have hwd := HC.out.2.2.2.2.2.2 na A8 c8 out w8 (by rw [HV.out.1, HV.out.2.1]; exact addG_left HN.out hv8) ho8 hs8 hc8 (by have := HV.out.2.2; omega)
      obtain ⟨Lo, hLo⟩ : ∃ L, L = out.length := ⟨_, rfl⟩
      rw [← hLo] at hwd ⊢
      have H8 := hide (And.intro hwd (H7.out.2.2.2.trans (hB8.mono H7.out.2.2.2.size)))
      clear hwd hc8 hl8 ho8 hv8 hs8 hB8 hLo
      go_wp2_with fail
      refine ⟨fun _ => HS.out w8 H8.out.2, ?_⟩
      refine wpMix_tail _ [_, _] (by kernel_rfl) rfl ?_
      simp only [List.getElem_toArray, List.getElem_cons_succ, List.getElem_cons_zero]
      go_wp2_with fail
      with_reducible refine H8.out.1.mono ?_
      rintro e w9 ⟨rb, rs, rfl, hW, hB9⟩
      have hBX8 := H8.out.2.trans (hB9.mono H8.out.2.size)
      have hr6 := HX.out.1.below hBX8 HX.out.1.lt
      have hB9 := HX.out.2.1.trans (hBX8.mono HX.out.2.1.size)
      clear hBX8
      have r0 := hr6.cell 0
      have r1 := hr6.cell 1
      have f0 := hr6.frozen 0
      have f1 := hr6.frozen 1
      have hlt := hr6.lt
      simp only [List.getElem?_toArray, List.getElem?_cons_zero, List.getElem?_cons_succ] at r0 r1
      have hbx := HX.out.2.2.2
      have H9 := hide (And.intro hW (And.intro hB9 (And.intro hr6 hbx)))
      clear hW hB9 hr6 hbx
      go_wp2
      refine ret_at (v := .agg #[.bool rb, .string rs]) (fun W => Blk W (bx + 1 + 1) 46 #[.bool rb, .string rs]) ?_ (fun W h => ?_) rfl ⟨rb, rs, rfl, H9.out.1, ?_⟩
      · exact (H9.out.2.2.1.set_ 0 (.bool rb)).set_ 1 (.string rs)
      · have a0 := h.cell 0
        have a1 := h.cell 1
        simp only [List.getElem?_toArray, List.getElem?_cons_zero, List.getElem?_cons_succ] at a0 a1
        simp [results, Tryz.results59, go_sem, a0, a1]
      · have := H9.out.2.2.2
        exact (H9.out.2.1.setCell (by dsimp only; omega) _).setCell (by dsimp only; omega) _
    · have hc0 : r < (0 : Int) := by omega
      have HV0 := hide (show valW wa ≤ valW wb by have := H7.out.1.1 hc0; omega)
      go_upto_region 5 with fail
      refine wp_region_mix (fun W => (W.cell? ⟨bx, 0, none⟩ = some (.bool na) ∧ W.cell? ⟨bx, 1, none⟩ = some (.string sa)) ∧ W.cell? ⟨bx + 1, 0, none⟩ = some (.bool nb) ∧ W.cell? ⟨bx + 1, 1, none⟩ = some (.string sb)) [0, 1, 3, 4] [0, 1, 3, 4, 2, 5, 6] mixed_ok (by kernel_rfl) ?_
      refine wpMix_q (v := .slice A6 Lb c6) rfl rfl (fun _ _ _ h => h) HQ.out ⟨rfl, fun _ h' => by simp [go_sem]⟩ ?_
      refine wpMix_q (v := .slice A5 La c5) rfl rfl (fun _ _ _ h => h) HQ.out ⟨rfl, fun _ h' => by simp [go_sem]⟩ ?_
      refine wpMix_q (v := .pointer (some ⟨bx + 1, 0, none⟩)) rfl rfl (fun _ _ _ h => h) HQ.out ⟨rfl, fun _ h' => by simp [go_sem]⟩ ?_
      refine wpMix_q (v := .bool nb) rfl rfl (fun _ _ _ h => h) HQ.out ⟨rfl, fun _ h' => by simp [go_sem, h'.2.1]⟩ ?_
      simp only [List.getElem_toArray, List.getElem_cons_succ, List.getElem_cons_zero]
      refine wpMix_n rfl rfl ?_
      go_wp2_with fail
      have s1 : Sl encU 1 w7.drew w7.drew.heap.size A6 wb := H7.out.2.2.1
      have s2 : Sl encU 1 w7.drew w7.drew.heap.size A5 wa := H7.out.2.1
      with_reducible refine (HC.out.2.2.2.2.2.1 A5 A6 c5 c6 w7.drew s1 s2 HV0.out).mono ?_
      clear s1 s2
      rintro e w8 ⟨A8, c8, out, rfl, hc8, hl8, ho8, hv8, hs8, hB8⟩
      have hB8 : Below w7.heap.size w7 w8 := (Below.refl w7.heap.size w7).drew.trans hB8
      have hwd := HC.out.2.2.2.2.2.2 nb A8 c8 out w8 (by rw [HV.out.1, HV.out.2.1]; exact addG_right HN.out hv8) ho8 hs8 hc8 (by have := HV.out.2.2; omega)
      obtain ⟨Lo, hLo⟩ : ∃ L, L = out.length := ⟨_, rfl⟩
      rw [← hLo] at hwd ⊢
      have H8 := hide (And.intro hwd (H7.out.2.2.2.trans (hB8.mono H7.out.2.2.2.size)))
      clear hwd hc8 hl8 ho8 hv8 hs8 hB8 hLo
      go_wp2_with fail
      refine ⟨fun _ => HS.out w8 H8.out.2, ?_⟩
      refine wpMix_tail _ [_, _] (by kernel_rfl) rfl ?_
      simp only [List.getElem_toArray, List.getElem_cons_succ, List.getElem_cons_zero]
      go_wp2_with fail
      with_reducible refine H8.out.1.mono ?_
      rintro e w9 ⟨rb, rs, rfl, hW, hB9⟩
      have hBX8 := H8.out.2.trans (hB9.mono H8.out.2.size)
      have hr6 := HX.out.1.below hBX8 HX.out.1.lt
      have hB9 := HX.out.2.1.trans (hBX8.mono HX.out.2.1.size)
      clear hBX8
      have r0 := hr6.cell 0
      have r1 := hr6.cell 1
      have f0 := hr6.frozen 0
      have f1 := hr6.frozen 1
      have hlt := hr6.lt
      simp only [List.getElem?_toArray, List.getElem?_cons_zero, List.getElem?_cons_succ] at r0 r1
      have hbx := HX.out.2.2.2
      have H9 := hide (And.intro hW (And.intro hB9 (And.intro hr6 hbx)))
      clear hW hB9 hr6 hbx
      go_wp2
      refine ret_at (v := .agg #[.bool rb, .string rs]) (fun W => Blk W (bx + 1 + 1) 46 #[.bool rb, .string rs]) ?_ (fun W h => ?_) rfl ⟨rb, rs, rfl, H9.out.1, ?_⟩
      · exact (H9.out.2.2.1.set_ 0 (.bool rb)).set_ 1 (.string rs)
      · have a0 := h.cell 0
        have a1 := h.cell 1
        simp only [List.getElem?_toArray, List.getElem?_cons_zero, List.getElem?_cons_succ] at a0 a1
        simp [results, Tryz.results59, go_sem, a0, a1]
      · have := H9.out.2.2.2
        exact (H9.out.2.1.setCell (by dsimp only; omega) _).setCell (by dsimp only; omega) _
set_option maxRecDepth 100000 in
set_option maxHeartbeats 16000000 in
theorem subN_any (K : Nat) (va vb : Value) (x y : Int) (ha : WideN va x) (hb : WideN vb y) (hK : K ≤ 100000) (sx : x.natAbs < 256 ^ K) (sy : y.natAbs < 256 ^ K) (w : World) :
    Calls Tryz.prog 60 #[va, vb] w fun e w' => ∃ b s, e = .returned (.agg #[.bool b, .string s]) ∧ WideN (.agg #[.bool b, .string s]) (x - y) ∧ Below w.heap.size w w' := by
  have hng := fun W => negN_any K vb y hb hK sy W
  have had := fun b s (hv : WideN (.agg #[.bool b, .string s]) (-y)) W => addN_any K va (.agg #[.bool b, .string s]) x (-y) ha hv hK sx (by rw [Int.natAbs_neg]; exact sy) W
  rw [show x + -y = x - y by omega] at had
  obtain ⟨na, sa, rfl⟩ := ha.form
  obtain ⟨nb, sb, rfl⟩ := hb.form
  have HC := hide (And.intro hng had)
  clear hng had ha hb sx sy
  go_enter Tryz.func60, Tryz.ntmps60
  go_upto_region 1 with fail
  obtain ⟨X, hX⟩ : ∃ X, X = ((w.alloc (.cells #[.bool na, .string sa] 46)).alloc (.cells #[.bool nb, .string sb] 46)).alloc (.cells #[.bool false, .string ⟨#[]⟩] 46) := ⟨_, rfl⟩
  rw [← hX]
  have hb0 : Blk X w.heap.size 46 #[.bool na, .string sa] := by rw [hX]; exact ((Blk.new _ _ _).alloc _).alloc _
  have hb1 : Blk X (w.heap.size + 1) 46 #[.bool nb, .string sb] := by rw [hX]; exact (Blk.new' _ _ _ _ (by simp)).alloc _
  have hr : Blk X (w.heap.size + 1 + 1) 46 #[.bool false, .string ⟨#[]⟩] := by rw [hX]; exact Blk.new' _ _ _ _ (by simp)
  have hBX : Below w.heap.size w X := by rw [hX]; exact (((Below.refl _ w).alloc (Nat.le_refl _) _).alloc (by simp) _).alloc (by simp; omega) _
  have hzX : X.heap.size = w.heap.size + 3 := by rw [hX]; simp
  obtain ⟨bx, hbx⟩ : ∃ b, b = w.heap.size := ⟨_, rfl⟩
  rw [← hbx] at hb0 hb1 hr hzX ⊢
  have hS : ∀ W, Below X.heap.size X W → (W.cell? ⟨bx, 0, none⟩ = some (.bool na) ∧ W.cell? ⟨bx, 1, none⟩ = some (.string sa)) ∧ W.cell? ⟨bx + 1, 0, none⟩ = some (.bool nb) ∧ W.cell? ⟨bx + 1, 1, none⟩ = some (.string sb) := fun W hW => by
    have h2 := hb0.below hW hb0.lt
    have h3 := hb1.below hW hb1.lt
    exact ⟨⟨h2.cell 0, h2.cell 1⟩, h3.cell 0, h3.cell 1⟩
  have HS := hide hS
  have HX := hide (And.intro hr (And.intro hBX (And.intro hzX hbx)))
  clear hS hr hBX hzX hbx hb0 hb1 hX
  have HQ := hide (HS.out X.drew (Below.refl _ X).drew)
  refine wp_region_mix (fun W => (W.cell? ⟨bx, 0, none⟩ = some (.bool na) ∧ W.cell? ⟨bx, 1, none⟩ = some (.string sa)) ∧ W.cell? ⟨bx + 1, 0, none⟩ = some (.bool nb) ∧ W.cell? ⟨bx + 1, 1, none⟩ = some (.string sb)) [0, 1] [0, 1, 2, 3, 4] mixed_ok (by kernel_rfl) ?_
  refine wpMix_q (v := .agg #[.bool na, .string sa]) rfl rfl (fun _ _ _ h => h) HQ.out ⟨rfl, fun _ h' => by simp [go_sem, h'.1.1, h'.1.2]⟩ ?_
  refine wpMix_q (v := .agg #[.bool nb, .string sb]) rfl rfl (fun _ _ _ h => h) HQ.out ⟨rfl, fun _ h' => by simp [go_sem, h'.2.1, h'.2.2]⟩ ?_
  simp only [List.getElem_toArray, List.getElem_cons_succ, List.getElem_cons_zero]
  refine wpMix_n rfl rfl ?_
  go_wp2_with fail
  with_reducible refine (HC.out.1 X.drew).mono ?_
  rintro e w5 ⟨nb5, sb5, rfl, hW5, hB5⟩
  have hB5 : Below X.heap.size X w5 := (Below.refl X.heap.size X).drew.trans hB5
  have H5 := hide (And.intro hW5 hB5)
  clear hW5 hB5
  go_wp2_with fail
  refine ⟨fun _ => HS.out w5 H5.out.2, ?_⟩
  refine wpMix_tail _ [_, _] (by kernel_rfl) rfl ?_
  simp only [List.getElem_toArray, List.getElem_cons_succ, List.getElem_cons_zero]
  go_wp2_with fail
  with_reducible refine (HC.out.2 nb5 sb5 H5.out.1 w5).mono ?_
  rintro e w8 ⟨rb, rs, rfl, hW, hB8⟩
  have hBX8 := H5.out.2.trans (hB8.mono H5.out.2.size)
  have hr6 := HX.out.1.below hBX8 HX.out.1.lt
  have hB9 := HX.out.2.1.trans (hBX8.mono HX.out.2.1.size)
  clear hB8 hBX8
  have r0 := hr6.cell 0
  have r1 := hr6.cell 1
  have f0 := hr6.frozen 0
  have f1 := hr6.frozen 1
  have hlt := hr6.lt
  simp only [List.getElem?_toArray, List.getElem?_cons_zero, List.getElem?_cons_succ] at r0 r1
  have hbx := HX.out.2.2.2
  have H9 := hide (And.intro hW (And.intro hB9 (And.intro hr6 hbx)))
  clear hW hB9 hr6 hbx
  go_wp2
  refine ret_at (v := .agg #[.bool rb, .string rs]) (fun W => Blk W (bx + 1 + 1) 46 #[.bool rb, .string rs]) ?_ (fun W h => ?_) rfl ⟨rb, rs, rfl, H9.out.1, ?_⟩
  · exact (H9.out.2.2.1.set_ 0 (.bool rb)).set_ 1 (.string rs)
  · have a0 := h.cell 0
    have a1 := h.cell 1
    simp only [List.getElem?_toArray, List.getElem?_cons_zero, List.getElem?_cons_succ] at a0 a1
    simp [results, Tryz.results60, go_sem, a0, a1]
  · have := H9.out.2.2.2
    exact (H9.out.2.1.setCell (by dsimp only; omega) _).setCell (by dsimp only; omega) _
end Go.Proofs.YtelfnmohpjkilaaGreatDoor
namespace Go.Proofs.YtelfnmohpjkilaaGreatDoor
open Go.RowKit Go.Sort
theorem from_word {n : Int} {m : Nat} (hm : (m : Int) = if n < 0 then -n else n) : n = intG (decide (n < 0)) (valW [m % 4294967296, m / 4294967296]) := by
  have hv : valW [m % 4294967296, m / 4294967296] = m := by simp only [valW]; omega
  rw [hv]
  unfold intG
  by_cases h : n < 0
  · rw [if_pos h] at hm; rw [decide_eq_true h, if_pos rfl]; omega
  · rw [if_neg h] at hm; rw [decide_eq_false h, if_neg (by decide)]; omega
set_option maxRecDepth 100000 in
set_option maxHeartbeats 16000000 in
theorem fromN_any (n : Int) (h0 : -9223372036854775808 ≤ n) (h1 : n < 9223372036854775808) (w : World) :
    Calls Tryz.prog 58 #[.int .i64 n] w fun e w' => ∃ b s, e = .returned (.agg #[.bool b, .string s]) ∧ WideN (.agg #[.bool b, .string s]) n ∧ Below w.heap.size w w' := by
  obtain ⟨m, hm⟩ : ∃ m : Nat, (m : Int) = if n < 0 then -n else n := ⟨(if n < 0 then -n else n).toNat, by split <;> omega⟩
  have hmb : m ≤ 9223372036854775808 := by split at hm <;> omega
  obtain ⟨lo, hlo⟩ : ∃ x, x = m % 4294967296 := ⟨_, rfl⟩
  obtain ⟨hi, hhi⟩ : ∃ x, x = m / 4294967296 := ⟨_, rfl⟩
  have hf := from_word hm
  rw [← hlo, ← hhi] at hf
  have hlb : lo < 4294967296 := by omega
  have hhb : hi < 4294967296 := by omega
  have hwd := fun (A : Option Addr) (c : Nat) W (hs : Sl encU 1 W W.heap.size A [lo, hi]) (hc : 2 ≤ c) => wideV_any (decide (n < 0)) A c [lo, hi] W hs hc (fun x hx => by rcases List.mem_cons.1 hx with rfl | hx; exact hlb; rcases List.mem_cons.1 hx with rfl | hx; exact hhb; cases hx) (by simp) n hf
  have HC := hide hwd
  clear hwd hf
  go_enter Tryz.func58, Tryz.ntmps58
  go_upto_if 7 with fail
  go_cut [3] (fun v wx => v = .int .u64 (m : Int) ∧ wx = w.alloc (.cells #[.bool false, .string ⟨#[]⟩] 46))
  case first =>
    by_cases hn : n < 0
    · rw [if_pos hn] at hm
      have w1 : IntKind.u64.wrap n = n + 18446744073709551616 := by rw [IntKind.wrap_u64]; omega
      have w2 : IntKind.u64.wrap (-(n + 18446744073709551616)) = (m : Int) := by rw [IntKind.wrap_u64]; omega
      go_wp2
      go_meet
      case rel => exact ⟨by rw [hm], rfl⟩
    · rw [if_neg hn] at hm
      have w1 : IntKind.u64.wrap n = (m : Int) := by rw [IntKind.wrap_u64]; omega
      go_wp2
      go_meet
      case rel => exact ⟨by rw [hm], rfl⟩
  case rest =>
    obtain ⟨rfl, rfl⟩ := hcut
    have ta : bits BinOp.and IntKind.u64 (m : Int) 4294967295 = (lo : Int) := by rw [mask_u64 m (by omega), hlo]
    have ts : (m : Int) / 4294967296 = (hi : Int) := by omega
    obtain ⟨X, hX⟩ : ∃ X, X = (w.alloc (.cells #[.bool false, .string ⟨#[]⟩] 46)).alloc (.cells #[.int .u64 (lo : Int), .int .u64 (hi : Int)] 104) := ⟨_, rfl⟩
    have hb : Blk X w.heap.size 46 #[.bool false, .string ⟨#[]⟩] := by rw [hX]; exact (Blk.new _ _ _).alloc _
    have hl : Blk X (w.heap.size + 1) 104 (cellsU [lo, hi]) := by rw [hX]; exact Blk.new' _ _ _ _ (by simp)
    have hBX : Below w.heap.size w X := by rw [hX]; exact ((Below.refl _ w).alloc (Nat.le_refl _) _).alloc (by simp) _
    have hsl := sl_blkU hl hl.lt
    have hcl := HC.out (some ⟨w.heap.size + 1, 0, none⟩) 2 X hsl (by omega)
    obtain ⟨bx, hbx⟩ : ∃ b, b = w.heap.size := ⟨_, rfl⟩
    have HX := hide (And.intro hX hbx)
    rw [← hbx] at hb hcl hBX
    have HB := hide (And.intro hb (And.intro hBX hcl))
    clear hlo hhi hm hb hl hBX hsl hX hcl hbx
    go_wp2_with (go_at_call 87; rw [← HX.out.1, ← HX.out.2]; refine HB.out.2.2.mono ?_; rintro e w5 ⟨rb, rs, rfl, hW, hB5⟩; have hr6 := HB.out.1.below hB5 HB.out.1.lt; have r0 := hr6.cell 0; have r1 := hr6.cell 1; have f0 := hr6.frozen 0; have f1 := hr6.frozen 1; have hlt := hr6.lt; simp only [List.getElem?_toArray, List.getElem?_cons_zero, List.getElem?_cons_succ] at r0 r1; have H9 := hide (And.intro hW (And.intro hB5 hr6)); clear hW hB5 hr6)
    refine ret_at (v := .agg #[.bool rb, .string rs]) (fun W => Blk W bx 46 #[.bool rb, .string rs]) ?_ (fun W h => ?_) rfl ⟨rb, rs, rfl, H9.out.1, ?_⟩
    · exact (H9.out.2.2.set_ 0 (.bool rb)).set_ 1 (.string rs)
    · have a0 := h.cell 0
      have a1 := h.cell 1
      simp only [List.getElem?_toArray, List.getElem?_cons_zero, List.getElem?_cons_succ] at a0 a1
      simp [results, Tryz.results58, go_sem, a0, a1]
    · obtain rfl : bx = w.heap.size := HX.out.2
      exact ((HB.out.2.1.trans (H9.out.2.1.mono HB.out.2.1.size)).setCell (by dsimp only; omega) _).setCell (by dsimp only; omega) _
end Go.Proofs.YtelfnmohpjkilaaGreatDoor
namespace Go.Proofs.YtelfnmohpjkilaaGreatDoor
open Go.RowKit Go.Sort
theorem abs_mul_le {a b : Int} {A B : Nat} (ha : a.natAbs ≤ A) (hb : b.natAbs ≤ B) : (a * b).natAbs ≤ A * B := by
  rw [Int.natAbs_mul]
  exact Nat.mul_le_mul ha hb
/-- A number of 64 bits. -/
def I64 (n : Int) : Prop := -9223372036854775808 ≤ n ∧ n < 9223372036854775808
theorem I64.abs {n : Int} (h : I64 n) : n.natAbs ≤ 9223372036854775808 := by
  have := h.1
  have := h.2
  omega
set_option maxRecDepth 100000 in
set_option maxHeartbeats 16000000 in
theorem prodN_any (a b c : Int) (ha : I64 a) (hb : I64 b) (hc : I64 c) (w : World) :
    Calls Tryz.prog 56 #[.int .i64 a, .int .i64 b, .int .i64 c] w fun e w' => ∃ nb s, e = .returned (.agg #[.bool nb, .string s]) ∧ WideN (.agg #[.bool nb, .string s]) (a * (b * c)) ∧ Below w.heap.size w w' := by
  have f1 := fun W => fromN_any a ha.1 ha.2 W
  have f2 := fun W => fromN_any b hb.1 hb.2 W
  have f3 := fun W => fromN_any c hc.1 hc.2 W
  have hbc := abs_mul_le hb.abs hc.abs
  have m1 := fun v1 v2 (h1 : WideN v1 b) (h2 : WideN v2 c) W => mulN_any 20 v1 v2 b c h1 h2 (by omega) (Nat.lt_of_le_of_lt hb.abs (by decide)) (Nat.lt_of_le_of_lt hc.abs (by decide)) W
  have m2 := fun v1 v2 (h1 : WideN v1 a) (h2 : WideN v2 (b * c)) W => mulN_any 20 v1 v2 a (b * c) h1 h2 (by omega) (Nat.lt_of_le_of_lt ha.abs (by decide)) (Nat.lt_of_le_of_lt hbc (by decide)) W
  have HC := hide (And.intro f1 (And.intro f2 (And.intro f3 (And.intro m1 m2))))
  clear f1 f2 f3 m1 m2 hbc ha hb hc
  go_enter Tryz.func56, Tryz.ntmps56
  obtain ⟨X, hX⟩ : ∃ X, X = w.alloc (.cells #[.bool false, .string ⟨#[]⟩] 46) := ⟨_, rfl⟩
  have hb : Blk X w.heap.size 46 #[.bool false, .string ⟨#[]⟩] := by rw [hX]; exact Blk.new _ _ _
  have hBX : Below w.heap.size w X := by rw [hX]; exact (Below.refl _ w).alloc (Nat.le_refl _) _
  obtain ⟨bx, hbx⟩ : ∃ b, b = w.heap.size := ⟨_, rfl⟩
  rw [← hbx] at hb
  go_wp2_with fail
  rw [← hX, ← hbx]
  have HB := hide (And.intro hb (And.intro hBX hbx))
  clear hb hBX hX hbx
  with_reducible refine (HC.out.1 X).mono ?_
  rintro e w1 ⟨b1, s1, rfl, hW1, hB1⟩
  have H1 := hide (And.intro hW1 hB1)
  clear hW1 hB1
  go_wp2_with fail
  with_reducible refine (HC.out.2.1 w1).mono ?_
  rintro e w2 ⟨b2, s2, rfl, hW2, hB2⟩
  have H2 := hide (And.intro hW2 (H1.out.2.trans (hB2.mono H1.out.2.size)))
  clear hW2 hB2
  go_wp2_with fail
  with_reducible refine (HC.out.2.2.1 w2).mono ?_
  rintro e w3 ⟨b3, s3, rfl, hW3, hB3⟩
  have H3 := hide (And.intro hW3 (H2.out.2.trans (hB3.mono H2.out.2.size)))
  clear hW3 hB3
  go_wp2_with fail
  with_reducible refine (HC.out.2.2.2.1 _ _ H2.out.1 H3.out.1 w3).mono ?_
  rintro e w4 ⟨b4, s4, rfl, hW4, hB4⟩
  have H4 := hide (And.intro hW4 (H3.out.2.trans (hB4.mono H3.out.2.size)))
  clear hW4 hB4
  go_wp2_with fail
  with_reducible refine (HC.out.2.2.2.2 _ _ H1.out.1 H4.out.1 w4).mono ?_
  rintro e w5 ⟨rb, rs, rfl, hW, hB5⟩
  have hBX8 := H4.out.2.trans (hB5.mono H4.out.2.size)
  have hr6 := HB.out.1.below hBX8 HB.out.1.lt
  have hB9 := HB.out.2.1.trans (hBX8.mono HB.out.2.1.size)
  clear hB5 hBX8
  have r0 := hr6.cell 0
  have r1 := hr6.cell 1
  have f0 := hr6.frozen 0
  have f1 := hr6.frozen 1
  have hlt := hr6.lt
  simp only [List.getElem?_toArray, List.getElem?_cons_zero, List.getElem?_cons_succ] at r0 r1
  have H9 := hide (And.intro hW (And.intro hB9 hr6))
  clear hW hB9 hr6
  go_wp2
  refine ret_at (v := .agg #[.bool rb, .string rs]) (fun W => Blk W bx 46 #[.bool rb, .string rs]) ?_ (fun W h => ?_) rfl ⟨rb, rs, rfl, H9.out.1, ?_⟩
  · exact (H9.out.2.2.set_ 0 (.bool rb)).set_ 1 (.string rs)
  · have a0 := h.cell 0
    have a1 := h.cell 1
    simp only [List.getElem?_toArray, List.getElem?_cons_zero, List.getElem?_cons_succ] at a0 a1
    simp [results, Tryz.results56, go_sem, a0, a1]
  · obtain rfl : bx = w.heap.size := HB.out.2.2
    exact (H9.out.2.1.setCell (by dsimp only; omega) _).setCell (by dsimp only; omega) _
end Go.Proofs.YtelfnmohpjkilaaGreatDoor
