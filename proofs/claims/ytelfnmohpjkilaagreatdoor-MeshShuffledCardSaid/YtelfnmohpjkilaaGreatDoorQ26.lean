/- Wn1 Wn2. -/
import Derived.WalkKit
import Derived.WalkSpells
import Derived.WalkLawsBesides
import Derived.Laws.OwnMore
import Derived.Deep.AppendLies
import Derived.Deep.Draws
import Derived.Maps.AppendAt
import Derived.OwnWalk
import Derived.Sort.Grow
import Derived.Shelf.GgSortFunc.RowK
import Derived.RangeFuncNested
import Derived.RangeFuncBox
import Derived.Test.YtelfnmohpjkilaaGreatDoorRows
import Derived.Handy
import Derived.Maps.Own
import Derived.Maps.Views
import Derived.DeepKeys4
import Derived.DeepKeys
import Derived.Laws.StructEq
import Derived.Deep.QuietTactic
import Derived.BigQuiet
import Derived.LoopN
import Derived.Laws.EntriesVeiled
import Derived.Shelf.SlSortCmp.QuietGrown
import Derived.Deep.RegionHeld3
import Derived.Deep.DrawnRows
import Derived.Sort.Statements
import Derived.Shelf.SlSortCmp.NoneTotal
import Derived.OrdersHeld
import Derived.OrdersIn
import Derived.RangeFuncCalls
import Derived.OwnWalkIn
import Derived.Deep.CutBlock
import Derived.Deep.DeepCutAuto
import Derived.Maps.OwnSet
import Derived.Maps.RangeWalk
import Derived.IntWalk
import Derived.Deep.MidRow
import Derived.StillTailTactics
import Derived.Shelf.RegionOpen
import Derived.Lib.Strings
import Derived.Lib.Slices
import Derived.Lib.Walk
import Derived.Lib.TrimByte
import Derived.Laws.Strings3
import Derived.Laws.Bits64b
import Derived.Test.YtelfnmohpjkilaaGreatDoorQ23
namespace Go.Proofs.YtelfnmohpjkilaaGreatDoor
open Go.RowKit Go.Sort
set_option maxRecDepth 100000
def encU (x : Nat) : List Value := [.int .u64 x]
theorem encU_len (x : Nat) : (encU x).length = 1 := rfl
def lenN : Value → Nat
  | .slice _ n _ => n
  | _ => 0
theorem trimN_len (l : List Nat) : (trimD l).length ≤ l.length := by
  induction l with
  | nil => exact Nat.le_refl _
  | cons e m ih =>
    unfold trimD
    split
    · split <;> simp
    · rename_i x y hx; rw [hx] at ih; simp only [List.length_cons] at ih ⊢; omega
theorem trimN_pre (l : List Nat) : trimD l = l.take (trimD l).length := by
  induction l with
  | nil => rfl
  | cons e m ih =>
    unfold trimD
    split
    · split <;> rfl
    · rename_i x y hx
      rw [hx] at ih
      simp only [List.length_cons, List.take_succ_cons] at ih ⊢
      rw [← ih]
set_option maxHeartbeats 8000000 in
theorem norm_any (A : Option Addr) (c : Nat) (l : List Nat) (w : World) (hs : Sl encU 1 w w.heap.size A l) (hlc : l.length ≤ c) (hl : l.length ≤ 1073741824) :
    Calls Tryz.prog 106 #[.slice A l.length c] w fun e w' => e = .returned (.slice A (trimD l).length c) ∧ w' = w := by
  have hcut : ∀ n : Nat, n + 1 ≤ l.length → ∀ W, (Instr.slice 116 (.slice A (n + 1) c) none (some (.int .i64 n)) none).run Tryz.prog W = .ok (.slice A n c) W := fun n hn W => run_cutH (T := 116) (E := 104) (s := 1) Tryz.underlying116 (fun W => Tryz.sizeOf104 W) (by omega) (by omega) W
  have HS := hide (And.intro hs (And.intro hlc hcut))
  obtain ⟨L, hL⟩ : ∃ L, L = l.length := ⟨_, rfl⟩
  rw [← hL] at hl ⊢
  have HL := hide hL
  clear hs hlc hcut hL
  go_enter Tryz.func106, Tryz.ntmps106
  go_wp2
  go_loopw [0] (fun sv wr => ∃ m : Nat, m ≤ L ∧ sv = .slice A m c ∧ trimD (l.take m) = trimD l ∧ wr = w) (fun sv _ => lenN sv)
  case atStart => exact ⟨L, Nat.le_refl _, rfl, by rw [HL.out, List.take_length], rfl⟩
  case round =>
    obtain ⟨m, hm, rfl, ht, rfl⟩ := hrel
    obtain ⟨w, rfl⟩ : ∃ w, w = wr := ⟨_, rfl⟩
    by_cases h0 : m = 0
    · subst h0
      have e : trimD l = [] := by rw [← ht]; rfl
      have HE := hide e
      clear ht e
      go_wp2
      go_ret
      exact ⟨by rw [HE.out]; rfl, rfl⟩
    · obtain ⟨n, rfl⟩ : ∃ n, m = n + 1 := ⟨m - 1, by omega⟩
      obtain ⟨d, hd⟩ : ∃ d, l[n]? = some d := ⟨_, List.getElem?_eq_getElem (by rw [← HL.out]; omega)⟩
      obtain ⟨b, o, hA, hb, hc⟩ := HS.out.1.at hd
      subst hA
      have c1 := hc 0 _ rfl
      simp only [Nat.mul_one, Nat.add_zero] at c1
      have hcutn := HS.out.2.2 n (by rw [← HL.out]; exact hm)
      have i1 : (0 : Int) < (n : Int) + 1 := by omega
      have htk : l.take (n + 1) = l.take n ++ [d] := by rw [List.take_add_one, hd]; rfl
      have hlen : (l.take n).length = n := by rw [List.length_take]; have := HL.out; omega
      by_cases hd0 : d = 0
      · subst hd0
        have hn := ht
        rw [htk, trim_snoc0] at hn
        have HN := hide (And.intro hn (show n ≤ L by omega))
        clear ht hn htk hlen hc
        go_wp2
        go_roundw
        case rel => exact ⟨n, HN.out.2, rfl, HN.out.1, trivial⟩
        case measure => simp [lenN]
      · have hn := ht
        rw [htk, trim_snoc _ hd0] at hn
        have hd1 : ¬ (d : Int) = 0 := by omega
        have HN := hide (show (trimD l).length = n + 1 by rw [← hn, List.length_append, hlen]; rfl)
        clear ht hn htk hlen hc hd0
        go_wp2
        go_ret
        exact ⟨by rw [HN.out]; rfl, rfl⟩
def strL (l : List Nat) : ByteArray := ⟨(l.map UInt8.ofNat).toArray⟩
theorem strL_size (l : List Nat) : (strL l).size = l.length := by
  show (l.map UInt8.ofNat).toArray.size = _
  simp
theorem strL_get {l : List Nat} (ho : okG 256 l) {i : Nat} (h : i < (strL l).size) : ((strL l)[i]'h).toNat = l.getD i 0 := by
  have hi : i < l.length := by rw [strL_size] at h; exact h
  have hlt : i < (l.map UInt8.ofNat).length := by simpa using hi
  have e : (strL l)[i]'h = UInt8.ofNat (l[i]'hi) := by
    show ((l.map UInt8.ofNat)[i]'hlt) = _
    rw [List.getElem_map]
  have hb : l[i] < 256 := ho _ (List.getElem_mem hi)
  rw [e, List.getD_eq_getElem?_getD, List.getElem?_eq_getElem hi]
  simp
  omega
theorem strL_extract (l : List Nat) : (strL l).extract 1 l.length = strL (l.drop 1) := by
  unfold strL
  rw [Lib.extract_mk, ← List.map_drop, List.take_of_length_le (by simp)]
def strZ : Value → Nat
  | .string s => s.size
  | _ => 0
def dropZ : List Nat → List Nat
  | [] => []
  | d :: l => if d = 0 then dropZ l else d :: l
set_option maxHeartbeats 8000000 in
theorem trimByte_any (l : List Nat) (ho : okG 256 l) (hl : l.length ≤ 1073741824) (w : World) :
    Calls Tryz.prog 142 #[.string (strL l), .int .u8 0] w fun e w' => e = .returned (.string (strL (dropZ l))) ∧ w' = w := by
  have HO := hide (And.intro ho hl)
  clear ho hl
  go_enter Tryz.func142, Tryz.ntmps142
  go_wp2
  go_loopw [0] (fun sv wr => ∃ m : List Nat, sv = .string (strL m) ∧ okG 256 m ∧ m.length ≤ l.length ∧ dropZ m = dropZ l ∧ wr = w) (fun sv _ => strZ sv)
  case atStart => exact ⟨l, rfl, HO.out.1, Nat.le_refl _, rfl, rfl⟩
  case round =>
    obtain ⟨m, rfl, hom, hml, hdm, rfl⟩ := hrel
    obtain ⟨w, rfl⟩ : ∃ w, w = wr := ⟨_, rfl⟩
    have hsz := strL_size m
    have hexx := strL_extract m
    have hget := fun (h : 0 < (strL m).size) => strL_get hom h
    obtain ⟨s, hs⟩ : ∃ s, s = strL m := ⟨_, rfl⟩
    rw [← hs] at hsz hexx ⊢
    simp only [← hs] at hget
    have hlb := HO.out.2
    cases m with
    | nil =>
      have h0 : s.size = 0 := hsz
      have HN := hide (And.intro hdm (And.intro hs (show strL ([] : List Nat) = strL [] from rfl)))
      clear hget hexx hdm hom hs hsz
      have hn : ¬ (0 : Int) < (s.size : Int) := by omega
      go_wp2
      go_ret
      exact ⟨by rw [← HN.out.1, HN.out.2.1]; rfl, rfl⟩
    | cons d m =>
      have h0 : 0 < s.size := by rw [hsz]; simp
      have hn : (0 : Int) < (s.size : Int) := by omega
      have hg := hget h0
      rw [List.getD_cons_zero] at hg
      have hd6 : d < 256 := hom d (by simp)
      have hex2 : s.extract 1 s.size = strL m := by rw [hsz]; exact hexx
      by_cases hd0 : d = 0
      · subst hd0
        have hg' : (((s[0]'h0).toNat : Nat) : Int) = 0 := by omega
        have HN := hide (And.intro hdm (And.intro hom (And.intro hml hsz)))
        clear hget hexx hdm hom hs hml hg hsz
        go_wp2
        refine ⟨⟨m, rfl, fun x hx => HN.out.2.1 x (by simp [hx]), by have := HN.out.2.2.1; simp only [List.length_cons] at this; omega, ?_, trivial⟩, ?_⟩
        · rw [← HN.out.1]; rfl
        · show (strL m).size < s.size
          rw [strL_size, HN.out.2.2.2]; simp
      · have hg' : ¬ (((s[0]'h0).toNat : Nat) : Int) = 0 := by omega
        have HN := hide (And.intro hdm (And.intro hom (And.intro hml hs)))
        clear hget hexx hdm hom hml hg hs
        go_wp2
        go_ret
        refine ⟨?_, rfl⟩
        rw [← HN.out.1, show dropZ (d :: m) = d :: m from if_neg hd0, ← HN.out.2.2.2]
        rfl
set_option maxHeartbeats 8000000 in
theorem trimLeft_any (l : List Nat) (ho : okG 256 l) (hl : l.length ≤ 1073741824) (w : World) :
    Calls Tryz.prog 108 #[.string (strL l), .string ⟨#[0]⟩] w fun e w' => e = .returned (.string (strL (dropZ l))) ∧ w' = w := by
  have hcal := fun w => trimByte_any l ho hl w
  by_cases hne : l = []
  · subst hne
    have e0 : strL ([] : List Nat) = ⟨#[]⟩ := rfl
    rw [e0]
    have e1 : dropZ ([] : List Nat) = [] := rfl
    rw [e1, e0]
    clear hcal e0 e1 ho hl
    go_enter Tryz.func108, Tryz.ntmps108
    go_wp2
    go_ret
    exact ⟨rfl, rfl⟩
  · have hsz := strL_size l
    have hpos : 0 < l.length := List.length_pos_iff.2 hne
    obtain ⟨s, hs⟩ : ∃ s, s = strL l := ⟨_, rfl⟩
    obtain ⟨r, hr⟩ : ∃ s, s = strL (dropZ l) := ⟨_, rfl⟩
    rw [← hs] at hsz
    simp only [← hs, ← hr] at hcal
    rw [← hs, ← hr]
    have hse : ¬ s.toList = [] := fun e => by
      rw [Lib.toList_data] at e
      have h1 : s.data.toList.length = 0 := by rw [e]; rfl
      have h2 : s.data.toList.length = s.size := rfl
      omega
    have hse1 : s.toList.isEmpty = false := by
      cases h : s.toList with
      | nil => exact absurd h hse
      | cons a b => rfl
    have HC := hide hcal
    clear hcal hs hr hsz hpos ho hl
    go_enter Tryz.func108, Tryz.ntmps108
    go_wp2_with (go_at_call 142; refine (unhide HC w).mono ?_; rintro e w1 ⟨rfl, rfl⟩)
    go_ret
    exact ⟨rfl, rfl⟩
end Go.Proofs.YtelfnmohpjkilaaGreatDoor
namespace Go.Proofs.YtelfnmohpjkilaaGreatDoor
open Go.RowKit Go.Sort
set_option maxRecDepth 100000
theorem infoU1 : (Tryz.prog.info? 104).map (fun i => (i.zero, i.size, i.bytes)) = some (some (.int .u64 0), 1, 8) := by kernel_rfl
def cellsU (L : List Nat) : Array Value := (L.map fun x : Nat => Value.int .u64 (x : Int)).toArray
theorem cellsU_at {L : List Nat} {j : Nat} (hj : j < L.length) : (cellsU L)[j]? = some (.int .u64 (L.getD j 0 : Nat)) := by
  unfold cellsU
  rw [List.getElem?_toArray, List.getElem?_map, List.getD_eq_getElem?_getD, List.getElem?_eq_getElem hj]
  rfl
theorem cellsU_set (L : List Nat) (j v : Nat) : (cellsU L).setIfInBounds j (.int .u64 (v : Int)) = cellsU (L.set j v) := by
  unfold cellsU
  rw [List.setIfInBounds_toArray, List.map_set]
theorem flat_U (F : List Nat) : (F.flatMap encU).toArray = cellsU F := by
  unfold cellsU
  congr 1
  induction F with
  | nil => rfl
  | cons b F ih => rw [List.flatMap_cons, ih]; rfl
theorem sl_blkU {w : World} {g B : Nat} {ys : List Nat} (h : Blk w g 104 (cellsU ys)) (hg : g < B) : Sl encU 1 w B (some ⟨g, 0, none⟩) ys := by
  rw [← flat_U] at h
  refine .inr ⟨g, 0, rfl, hg, fun i x hi j u hu => ?_⟩
  rw [show 0 + i * 1 + j = i * 1 + j by omega, h.cell]
  have := flat_get encU_len ys i x hi j u hu
  simpa using this
theorem mk_ul (n : Nat) (hn : n ≤ 100000000) (W : World) : (Instr.makeSlice 116 (.int .i64 (n : Int)) (.int .i64 (n : Int))).run Tryz.prog W = .ok (.slice (some ⟨W.heap.size, 0, none⟩) n n) (W.alloc (.cells (cellsU (List.replicate n 0)) 104)) := by
  obtain ⟨i, hi, hz, hs, hb⟩ := info_parts infoU1
  have h := run_make (P := Tryz.prog) W 116 104 i (.int .u64 0) Tryz.underlying116 hi hz .i64 .i64 n n (by omega) (by omega) (by rw [hb]; omega) (by omega)
  rw [h, hs]
  have e : madeCells (Value.int .u64 0).cells ((n : Int).toNat * 1) = cellsU (List.replicate n 0) := by
    refine Array.ext (by simp [size_madeCells, cellsU]) fun k h1 h2 => ?_
    simp [madeCells, Value.cells, Nat.mod_one, cellsU]
  rw [e, Int.toNat_natCast]
theorem strL_idx {l : List Nat} (ho : okG 256 l) {j b : Nat} (hb : l[j]? = some b) (W : World) : (Instr.index 9 (.string (strL l)) (.int .i64 (j : Int))).run Tryz.prog W = .ok (.int .u8 (b : Int)) W := by
  have hj : j < l.length := (List.getElem?_eq_some_iff.1 hb).1
  have hs := strL_size l
  rw [run_index_string (h := Tryz.underlying9)]
  have hc : 0 ≤ (j : Int) ∧ (j : Int) < (strL l).size := by omega
  rw [dif_pos hc]
  have hlt : j < (strL l).size := by omega
  have e : ((strL l)[(j : Int).toNat]'(by omega)).toNat = b := by
    have h1 : ((strL l)[j]'hlt).toNat = l.getD j 0 := strL_get ho hlt
    rw [List.getD_eq_getElem?_getD, hb] at h1
    exact h1
  rw [e]
theorem rev_get {bs : List Nat} {i k d : Nat} (hk : k + i + 1 = bs.length) (hd : bs[k]? = some d) : bs.reverse[i]? = some d := by
  rw [List.getElem?_reverse (by omega), ← hd]
  congr 1
  omega
set_option maxHeartbeats 16000000 in
theorem abs_any (neg : Bool) (bs : List Nat) (ho : okG 256 bs) (hl : bs.length ≤ 1000000) (w : World) :
    Calls Tryz.prog 85 #[.agg #[.bool neg, .string (strL bs.reverse)]] w fun e w' => ∃ A c, e = .returned (.slice A (trimD (wordsC bs 0 ((bs.length + 3) / 4))).length c) ∧ Sl encU 1 w' w'.heap.size A (trimD (wordsC bs 0 ((bs.length + 3) / 4))) ∧ (trimD (wordsC bs 0 ((bs.length + 3) / 4))).length ≤ c ∧ Below w.heap.size w w' := by
  have hor : okG 256 bs.reverse := fun x hx => ho x (List.mem_reverse.1 hx)
  have hsz := strL_size bs.reverse
  rw [List.length_reverse] at hsz
  have hidx := fun i d (h : bs.reverse[i]? = some d) W => strL_idx hor h W
  obtain ⟨s, hs⟩ : ∃ s, s = strL bs.reverse := ⟨_, rfl⟩
  rw [← hs] at hsz ⊢
  simp only [← hs] at hidx
  obtain ⟨L, hL⟩ : ∃ n, n = bs.length := ⟨_, rfl⟩
  obtain ⟨n, hn⟩ : ∃ n, n = (L + 3) / 4 := ⟨_, rfl⟩
  rw [← hL] at hl hsz ⊢
  rw [← hn]
  have hnb : n ≤ 300000 := by omega
  have hn4 : L ≤ 4 * n ∧ 4 * n ≤ L + 3 := by omega
  have tn : ((L : Int) + 4 - 1) / 4 = (n : Int) := by omega
  have tn' : ((L : Int) + 4 - 1).tdiv 4 = (n : Int) := by rw [Int.tdiv_eq_ediv_of_nonneg (by omega)]; exact tn
  have hmk := fun W => mk_ul n (by omega) W
  have HS := hide (And.intro ho (And.intro hidx (And.intro hL (And.intro hn hn4))))
  clear ho hor hidx hs hL hn hn4
  have hsz' : (s.size : Int) = (L : Int) := by rw [hsz]
  go_enter Tryz.func85, Tryz.ntmps85
  go_upto_region 3 with fail
  obtain ⟨X, hX⟩ : ∃ X, X = (w.alloc (.cells #[.bool neg, .string s] 46)).alloc (.cells (cellsU (List.replicate n 0)) 104) := ⟨_, rfl⟩
  rw [← hX]
  obtain ⟨g0, hg0⟩ : ∃ g, g = w.heap.size := ⟨_, rfl⟩
  obtain ⟨G, hG⟩ : ∃ g, g = w.heap.size + 1 := ⟨_, rfl⟩
  have hbs : Blk X g0 46 #[.bool neg, .string s] := by rw [hX, hg0]; exact (Blk.new _ _ _).alloc _
  have hbo : Blk X G 104 (cellsU (wordsC bs L n)) := by rw [hX, hG, wordsC_none n (by have := HS.out.2.2.1; omega)]; exact Blk.new' _ _ _ _ (by simp)
  have hBX : Below w.heap.size w X := by rw [hX]; exact ((Below.refl _ w).alloc (Nat.le_refl _) _).alloc (by simp) _
  rw [← hG, ← hg0]
  have HX := hide (And.intro hbs (And.intro hbo (And.intro hBX (And.intro hg0 hG))))
  have hgG : g0 < G := by omega
  clear hX hbs hbo hBX hg0 hG hmk
  go_loopw [16] (fun iv wr => ∃ i : Nat, i ≤ L ∧ iv = .int .i64 i ∧ Blk wr g0 46 #[.bool neg, .string s] ∧ Blk wr G 104 (cellsU (wordsC bs (L - i) n)) ∧ Below w.heap.size w wr) (fun iv _ => L - (intOf iv).toNat)
  case atStart => exact ⟨0, by omega, rfl, HX.out.1, HX.out.2.1, HX.out.2.2.1⟩
  case round =>
    obtain ⟨i, hi, rfl, hbs, hbo, hB⟩ := hrel
    obtain ⟨V, rfl⟩ : ∃ V, V = wr := ⟨_, rfl⟩
    by_cases hiL : i < L
    · have i1 : (i : Int) < (L : Int) := by omega
      obtain ⟨k, hk⟩ : ∃ k, k = L - 1 - i := ⟨_, rfl⟩
      have hkb : k < bs.length := by have := HS.out.2.2.1; omega
      obtain ⟨d, hd⟩ : ∃ d, bs[k]? = some d := ⟨_, List.getElem?_eq_getElem hkb⟩
      have hidx := HS.out.2.1 i d (rev_get (by have := HS.out.2.2.1; omega) hd)
      have hd6 : d < 256 := HS.out.1 d (List.mem_of_getElem? hd)
      have hkn : k / 4 < n := by have := HS.out.2.2.2.2; omega
      have hst := wordsC_step HS.out.1 hd hkn
      rw [show L - i = k + 1 by omega] at hbo
      obtain ⟨q, hq⟩ : ∃ q, q = k / 4 := ⟨_, rfl⟩
      obtain ⟨r, hr⟩ : ∃ r, r = k % 4 := ⟨_, rfl⟩
      obtain ⟨sh, hsh⟩ : ∃ x, x = 8 * r := ⟨_, rfl⟩
      rw [← hq, ← hr, ← hsh] at hst
      have hqn : q < n := by omega
      have hcell : V.cell? ⟨G, q, none⟩ = some (.int .u64 ((wordsC bs (k + 1) n).getD q 0 : Nat)) := by rw [hbo.cell, cellsU_at (by rw [wordsC_len]; exact hqn)]
      have hfr : V.frozen? ⟨G, q, none⟩ = false := hbo.frozen _
      have hgz : (wordsC bs (k + 1) n).getD q 0 = wAt bs (k + 1) q := by rw [List.getD_eq_getElem?_getD, wordsC_get hqn]; rfl
      have hzlt := wAt_lt HS.out.1 (k + 1) q
      rw [hgz] at hcell
      obtain ⟨z, hz⟩ : ∃ z, z = wAt bs (k + 1) q := ⟨_, rfl⟩
      rw [← hz] at hcell hzlt hst
      obtain ⟨m, hm⟩ : ∃ m, m = d <<< sh := ⟨_, rfl⟩
      rw [← hm] at hst
      have hm64 : m < 4294967296 := by
        have hc : r = 0 ∨ r = 1 ∨ r = 2 ∨ r = 3 := by omega
        rw [hm, hsh, Nat.shiftLeft_eq]
        rcases hc with hc | hc | hc | hc <;> rw [hc] <;> omega
      have tq : (k : Int) / 4 = (q : Int) := by omega
      have tr : (k : Int) % 4 = (r : Int) := by omega
      have ts : 8 * (r : Int) = (sh : Int) := by omega
      have tk : (L : Int) - 1 - (i : Int) = (k : Int) := by omega
      have hsh64 : sh ≤ 64 := by omega
      have tm : IntKind.u64.wrap ((d : Int) * 2 ^ sh) = (m : Int) := by
        rw [hm, Nat.shiftLeft_eq, IntKind.wrap_u64]
        have h1 : ((d * 2 ^ sh : Nat) : Int) = (d : Int) * 2 ^ sh := by push_cast; rfl
        rw [← h1]
        have h2 : d * 2 ^ sh < 4294967296 := by rw [← Nat.shiftLeft_eq, ← hm]; exact hm64
        omega
      obtain ⟨v, hv⟩ : ∃ v, v = z ||| m := ⟨_, rfl⟩
      have tor : bits BinOp.or IntKind.u64 (z : Int) (m : Int) = (v : Int) := by rw [hv]; exact bits_or_u64_nat z m (by omega) (by omega)
      rw [← hv] at hst
      obtain ⟨b0, b1⟩ : V.cell? ⟨g0, 0, none⟩ = some (.bool neg) ∧ V.cell? ⟨g0, 1, none⟩ = some (.string s) := ⟨hbs.cell 0, hbs.cell 1⟩
      have hd64 : (d : Int) ≤ 255 := by omega
      have HT := hide (And.intro hbs (And.intro hbo (And.intro hB (And.intro hst (show L - (i + 1) = k by omega)))))
      have i2 : (q : Int) < (n : Int) := by omega
      have l4 : (k : Int) < 1000000 := by omega
      have l5 : (r : Int) < 4 := by omega
      have l6 : (sh : Int) ≤ 24 := by omega
      have wq : IntKind.i64.wrap (q : Int) = (q : Int) := IntWalk.i64_in _ (by omega)
      have wr1 : IntKind.i64.wrap (r : Int) = (r : Int) := IntWalk.i64_in _ (by omega)
      have wsh : IntKind.i64.wrap (sh : Int) = (sh : Int) := IntWalk.i64_in _ (by omega)
      have wd : IntKind.u64.wrap (d : Int) = (d : Int) := by rw [IntKind.wrap_u64]; omega
      have tq' : (k : Int).tdiv 4 = (q : Int) := by rw [Int.tdiv_eq_ediv_of_nonneg (by omega)]; exact tq
      have tr' : (k : Int).tmod 4 = (r : Int) := by rw [Int.tmod_eq_emod_of_nonneg (by omega)]; exact tr
      clear hbs hbo hB hst hk hkb hd hq hr hsh hgz hz hm hv hkn hm64 hzlt hd6
      go_upto_region 6 with fail
      go_still_tail 16, (by kernel_rfl)
      repeat still_step
      change wpList _ _ _ _ _ V.drew
      go_wp2
      go_roundw
      case rel =>
        obtain ⟨hbs, hbo, hB, hst, hLi⟩ := HT.out
        refine ⟨i + 1, by omega, by go_num, ?_, ?_, ?_⟩
        · exact hbs.drew.far (by dsimp only; omega) _
        · rw [hLi, hst, ← cellsU_set]
          exact hbo.drew.set_ q _
        · exact hB.drew.setCell (by have := HX.out.2.2.2.2; dsimp only; omega) _
      case measure => simp [intOf]; omega
    · have hie : i = L := by omega
      subst hie
      rw [Nat.sub_self] at hbo
      have hsl := sl_blkU hbo hbo.lt
      have hwl := wordsC_len bs 0 n
      have hno := norm_any (some ⟨G, 0, none⟩) n (wordsC bs 0 n) V hsl (by rw [hwl]; exact Nat.le_refl _) (by rw [hwl]; omega)
      have hpre := trimN_pre (wordsC bs 0 n)
      have htl := trimN_len (wordsC bs 0 n)
      rw [hwl] at hno htl
      have hst : Sl encU 1 V V.heap.size (some ⟨G, 0, none⟩) (trimD (wordsC bs 0 n)) := by rw [hpre]; exact hsl.take8 _
      obtain ⟨T, hT⟩ : ∃ T, T = trimD (wordsC bs 0 n) := ⟨_, rfl⟩
      rw [← hT] at hno htl hst
      have HT := hide (And.intro hno (And.intro htl (And.intro hst (And.intro hB hT))))
      clear hno htl hst hB hT hsl hwl hpre hbs hbo
      go_wp2_with (go_at_call 106; refine (unhide HT).1.mono ?_; rintro e w1 ⟨rfl, rfl⟩)
      go_ret
      refine ⟨some ⟨G, 0, none⟩, n, ?_, ?_, ?_, HT.out.2.2.2.1⟩
      · rw [← HT.out.2.2.2.2]; rfl
      · rw [← HT.out.2.2.2.2]; exact HT.out.2.2.1
      · rw [← HT.out.2.2.2.2]; exact HT.out.2.1
end Go.Proofs.YtelfnmohpjkilaaGreatDoor
