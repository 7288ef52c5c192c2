/- Joined texts: Wd1 Wd2 Wd4 Wd5 Wd6 Wd7 Wd3. -/
import Derived.IntWalk
import Derived.Deep.DeepCutAuto
import Derived.Deep.CutBlock
import Derived.BigQuiet
import Derived.Laws.IdiomStrings
import Derived.Test.YtelfnmohpjkilaaDoorCB4
import Derived.Test.YtelfnmohpjkilaaDoorCB7
import Derived.Test.YtelfnmohpjkilaaDoorCB8
import Derived.Test.YtelfnmohpjkilaaDoorCB10
import Derived.Test.YtelfnmohpjkilaaDoorCB17
/- ref01.trim, ref01.digits. -/
namespace Go.Proofs.YtelfnmohpjkilaaDoor
open Go.RowKit Go.Sort
def lenW : Value → Nat
  | .slice _ n _ => n
  | _ => 0
theorem trim_len (l : List Nat) : (trimD l).length ≤ l.length := by
  induction l with
  | nil => exact Nat.le_refl _
  | cons e m ih =>
    unfold trimD
    split
    · split <;> simp
    · rename_i x y hx; rw [hx] at ih; simp only [List.length_cons] at ih ⊢; omega
theorem trim_pre (l : List Nat) : trimD l = l.take (trimD l).length := by
  induction l with
  | nil => rfl
  | cons e m ih =>
    unfold trimD
    split
    · split <;> rfl
    · rename_i x y hx
      rw [hx] at ih
      simp only [List.length_cons, List.take_succ_cons] at ih ⊢
      rw [← ih]
set_option maxRecDepth 100000 in
set_option maxHeartbeats 8000000 in
theorem trimW_any (A : Option Addr) (c : Nat) (l : List Nat) (w : World) (hs : Sl encI 1 w w.heap.size A l) (hlc : l.length ≤ c) (hl : l.length ≤ 1073741824) :
    Calls Tryd.prog 47 #[.slice A l.length c] w fun e w' => e = .returned (.slice A (trimD l).length c) ∧ w' = w := by
  have hcut : ∀ n : Nat, n + 1 ≤ l.length → ∀ W, (Instr.slice 56 (.slice A (n + 1) c) none (some (.int .i64 n)) none).run Tryd.prog W = .ok (.slice A n c) W := fun n hn W => run_cutH (T := 56) (E := 3) (s := 1) Tryd.underlying56 (fun W => Tryd.sizeOf3 W) (by omega) (by omega) W
  have HS := hide (And.intro hs (And.intro hlc hcut))
  obtain ⟨L, hL⟩ : ∃ L, L = l.length := ⟨_, rfl⟩
  rw [← hL] at hl ⊢
  have HL := hide hL
  clear hs hlc hcut hL
  go_enter Tryd.func47, Tryd.ntmps47
  go_wp2
  go_loopw [0] (fun sv wr => ∃ m : Nat, m ≤ L ∧ sv = .slice A m c ∧ trimD (l.take m) = trimD l ∧ wr = w) (fun sv _ => lenW sv)
  case atStart => exact ⟨L, Nat.le_refl _, rfl, by rw [HL.out, List.take_length], rfl⟩
  case round =>
    obtain ⟨m, hm, rfl, ht, rfl⟩ := hrel
    obtain ⟨w, rfl⟩ : ∃ w, w = wr := ⟨_, rfl⟩
    by_cases h0 : m = 0
    · subst h0
      have e : trimD l = [] := by rw [← ht]; rfl
      have HE := hide e
      clear ht e
      go_wp2
      go_ret
      exact ⟨by rw [HE.out]; rfl, rfl⟩
    · obtain ⟨n, rfl⟩ : ∃ n, m = n + 1 := ⟨m - 1, by omega⟩
      obtain ⟨d, hd⟩ : ∃ d, l[n]? = some d := ⟨_, List.getElem?_eq_getElem (by rw [← HL.out]; omega)⟩
      obtain ⟨b, o, hA, hb, hc⟩ := HS.out.1.at hd
      subst hA
      have c1 := hc 0 _ rfl
      simp only [Nat.mul_one, Nat.add_zero] at c1
      have hcutn := HS.out.2.2 n (by rw [← HL.out]; exact hm)
      have i1 : (0 : Int) < (n : Int) + 1 := by omega
      have htk : l.take (n + 1) = l.take n ++ [d] := by rw [List.take_add_one, hd]; rfl
      have hlen : (l.take n).length = n := by rw [List.length_take]; have := HL.out; omega
      by_cases hd0 : d = 0
      · subst hd0
        have hn := ht
        rw [htk, trim_snoc0] at hn
        have HN := hide (And.intro hn (show n ≤ L by omega))
        clear ht hn htk hlen hc
        go_wp2
        go_roundw
        case rel => exact ⟨n, HN.out.2, rfl, HN.out.1, trivial⟩
        case measure => simp [lenW]
      · have hn := ht
        rw [htk, trim_snoc _ hd0] at hn
        have hd1 : ¬ (d : Int) = 0 := by omega
        have HN := hide (show (trimD l).length = n + 1 by rw [← hn, List.length_append, hlen]; rfl)
        clear ht hn htk hlen hc hd0
        go_wp2
        go_ret
        exact ⟨by rw [HN.out]; rfl, rfl⟩
/-- A number in memory and as a value. -/
def strB (l : List Nat) : ByteArray := ⟨((bytesD l).reverse.map UInt8.ofNat).toArray⟩
def wvalV (neg : Bool) (l : List Nat) : Value := .agg #[.bool neg, .string (strB l)]
theorem strB_size (l : List Nat) : (strB l).size = (bytesD l).length := by
  show ((bytesD l).reverse.map UInt8.ofNat).toArray.size = _
  simp
theorem strB_idx {l : List Nat} (ho : okD l) {j b : Nat} (hj : j < (bytesD l).length) (hb : (bytesD l)[(bytesD l).length - 1 - j]? = some b) (W : World) : (Instr.index 9 (.string (strB l)) (.int .i64 (j : Int))).run Tryd.prog W = .ok (.int .u8 (b : Int)) W := by
  have hs := strB_size l
  have hb6 : b < 256 := bytesD_lt ho b (List.mem_of_getElem? hb)
  rw [run_index_string (h := Tryd.underlying9)]
  have hc : 0 ≤ (j : Int) ∧ (j : Int) < (strB l).size := by omega
  rw [dif_pos hc]
  have hlt : j < ((bytesD l).reverse.map UInt8.ofNat).length := by simpa using hj
  have e : (strB l)[(j : Int).toNat]'(by omega) = UInt8.ofNat b := by
    show ((bytesD l).reverse.map UInt8.ofNat)[j]'hlt = _
    rw [List.getElem_map, List.getElem_reverse]
    have := (List.getElem?_eq_some_iff.1 hb).2
    rw [this]
  rw [e]
  have e2 : (UInt8.ofNat b).toNat = b := by simp; omega
  rw [e2]
end Go.Proofs.YtelfnmohpjkilaaDoor
/- ref01.digits. -/
namespace Go.Proofs.YtelfnmohpjkilaaDoor
open Go.RowKit Go.Sort
theorem infoI1 : (Tryd.prog.info? 3).map (fun i => (i.zero, i.size, i.bytes)) = some (some (.int .i64 0), 1, 8) := by kernel_rfl
theorem strB_get {l : List Nat} (ho : okD l) {j b : Nat} (hj : j < (bytesD l).length) (hb : (bytesD l)[(bytesD l).length - 1 - j]? = some b) (h : j < (strB l).size) : ((strB l)[j]'h).toNat = b := by
  have hb6 : b < 256 := bytesD_lt ho b (List.mem_of_getElem? hb)
  have hlt : j < ((bytesD l).reverse.map UInt8.ofNat).length := by simpa using hj
  have e : (strB l)[j]'h = UInt8.ofNat b := by
    show ((bytesD l).reverse.map UInt8.ofNat)[j]'hlt = _
    rw [List.getElem_map, List.getElem_reverse]
    have := (List.getElem?_eq_some_iff.1 hb).2
    rw [this]
  rw [e]
  simp; omega
theorem wrap64_small {x : Int} (h : -9223372036854775808 ≤ x ∧ x ≤ 9223372036854775807) : wrap64 x = x := by
  unfold wrap64
  omega
end Go.Proofs.YtelfnmohpjkilaaDoor
/- ref01.plus (printed by mk_Wd4.py). -/
namespace Go.Proofs.YtelfnmohpjkilaaDoor
open Go.RowKit Go.Sort
theorem valD_take (l : List Nat) (k : Nat) : valD (l.take (k + 1)) = valD (l.take k) + 65536 ^ k * l.getD k 0 := by
  rcases Nat.lt_or_ge k l.length with h | h
  · have hd : l[k]? = some l[k] := List.getElem?_eq_getElem h
    rw [List.take_add_one, hd, Option.toList_some, valD_app, List.length_take, Nat.min_eq_left (by omega), List.getD_eq_getElem?_getD, hd]
    simp [valD]
  · rw [List.take_of_length_le (by omega), List.take_of_length_le h, List.getD_eq_getElem?_getD, List.getElem?_eq_none h]
    simp
theorem valD_snoc (l : List Nat) (d : Nat) : valD (l ++ [d]) = valD l + 65536 ^ l.length * d := by
  rw [valD_app]
  simp [valD]
theorem okD_snoc {l : List Nat} (h : okD l) {d : Nat} (hd : d < 65536) : okD (l ++ [d]) := by
  intro x hx
  rcases List.mem_append.1 hx with hx | hx
  · exact h x hx
  · rw [List.mem_singleton.1 hx]; exact hd
theorem getD_lt {l : List Nat} (h : okD l) (k : Nat) : l.getD k 0 < 65536 := by
  rw [List.getD_eq_getElem?_getD]
  cases hk : l[k]? with
  | none => simp
  | some x => exact h x (List.mem_of_getElem? hk)
/-- One digit of a sum. -/
theorem plus_step {a b out : List Nat} {k cy d : Nat} (hl : out.length = k) (h : valD out + 65536 ^ k * cy = valD (a.take k) + valD (b.take k)) (hd : d = cy + a.getD k 0 + b.getD k 0) :
    valD (out ++ [d % 65536]) + 65536 ^ (k + 1) * (d / 65536) = valD (a.take (k + 1)) + valD (b.take (k + 1)) := by
  rw [valD_snoc, valD_take, valD_take, hl]
  have e : 65536 ^ k * (d % 65536) + 65536 ^ (k + 1) * (d / 65536) = 65536 ^ k * d := by
    rw [Nat.pow_succ, Nat.mul_assoc, ← Nat.mul_add, Nat.mod_add_div]
  have e2 : 65536 ^ k * d = 65536 ^ k * cy + 65536 ^ k * a.getD k 0 + 65536 ^ k * b.getD k 0 := by rw [hd, Nat.mul_add, Nat.mul_add]
  omega
end Go.Proofs.YtelfnmohpjkilaaDoor
/- ref01.compare, ref01.minus (printed by mk_Wd5.py). -/
namespace Go.Proofs.YtelfnmohpjkilaaDoor
open Go.RowKit Go.Sort
theorem val_ge {l : List Nat} (h : trimD l = l) (hne : l ≠ []) : 65536 ^ (l.length - 1) ≤ valD l := by
  obtain ⟨m, d, rfl, hd⟩ := trim_self h hne
  rw [valD_snoc, List.length_append, List.length_singleton, Nat.add_sub_cancel]
  have : 65536 ^ m.length * 1 ≤ 65536 ^ m.length * d := Nat.mul_le_mul_left _ (by omega)
  omega
theorem val_len {a b : List Nat} (oa : okD a) (tb : trimD b = b) (h : a.length < b.length) : valD a < valD b := by
  have h1 := valD_lt oa
  have hne : b ≠ [] := fun e => by rw [e] at h; simp at h
  have h2 := val_ge tb hne
  have h3 : 65536 ^ a.length ≤ 65536 ^ (b.length - 1) := Nat.pow_le_pow_right (by omega) (by omega)
  omega
theorem valD_at {l : List Nat} {i : Nat} (hi : i < l.length) : valD l = valD (l.take i) + 65536 ^ i * (l.getD i 0 + 65536 * valD (l.drop (i + 1))) := by
  have e : l = l.take i ++ (l.getD i 0 :: l.drop (i + 1)) := by
    have hd : l.getD i 0 = l[i] := by rw [List.getD_eq_getElem?_getD, List.getElem?_eq_getElem hi]; rfl
    rw [hd, ← List.drop_eq_getElem_cons hi, List.take_append_drop]
  conv => lhs; rw [e]
  rw [valD_app, List.length_take, Nat.min_eq_left (by omega), valD]
/-- The first digit that differs, from the end, decides. -/
theorem val_less {a b : List Nat} (oa : okD a) (hl : a.length = b.length) {i : Nat} (hi : i < a.length) (hd : a.drop (i + 1) = b.drop (i + 1)) (h : a.getD i 0 < b.getD i 0) : valD a < valD b := by
  rw [valD_at hi, valD_at (l := b) (i := i) (by omega), hd]
  have h1 : valD (a.take i) < 65536 ^ i := by
    have := valD_lt (l := a.take i) (fun x hx => oa x (List.mem_of_mem_take hx))
    rw [List.length_take, Nat.min_eq_left (by omega)] at this
    exact this
  have h2 : 65536 ^ i * (a.getD i 0 + 65536 * valD (b.drop (i + 1)) + 1) ≤ 65536 ^ i * (b.getD i 0 + 65536 * valD (b.drop (i + 1))) := Nat.mul_le_mul_left _ (by omega)
  rw [Nat.mul_succ] at h2
  omega
theorem drop_step {a b : List Nat} (hl : a.length = b.length) {i : Nat} (hi : i < a.length) (hd : a.drop (i + 1) = b.drop (i + 1)) (h : a.getD i 0 = b.getD i 0) : a.drop i = b.drop i := by
  rw [List.drop_eq_getElem_cons hi, List.drop_eq_getElem_cons (show i < b.length by omega), hd]
  rw [List.getD_eq_getElem?_getD, List.getD_eq_getElem?_getD, List.getElem?_eq_getElem hi, List.getElem?_eq_getElem (show i < b.length by omega)] at h
  simp only [Option.getD_some] at h
  rw [h]
end Go.Proofs.YtelfnmohpjkilaaDoor
/- ref01.minus (printed by mk_Wd6.py). -/
namespace Go.Proofs.YtelfnmohpjkilaaDoor
open Go.RowKit Go.Sort
/-- One digit of a difference. -/
theorem minus_step {a b out : List Nat} {k cy d q : Nat} (hl : out.length = k) (h : valD out + valD (b.take k) = valD (a.take k) + 65536 ^ k * cy) (hd : d + b.getD k 0 + cy = a.getD k 0 + 65536 * q) :
    valD (out ++ [d]) + valD (b.take (k + 1)) = valD (a.take (k + 1)) + 65536 ^ (k + 1) * q := by
  rw [valD_snoc, valD_take, valD_take, hl]
  have e2 : 65536 ^ k * d + 65536 ^ k * b.getD k 0 + 65536 ^ k * cy = 65536 ^ k * a.getD k 0 + 65536 ^ (k + 1) * q := by
    rw [Nat.pow_succ, Nat.mul_assoc, ← Nat.mul_add, ← Nat.mul_add, ← Nat.mul_add, hd]
  omega
theorem minus_end {a b out : List Nat} {m cy : Nat} (ho : okD out) (hl : out.length = m) (hba : valD b ≤ valD a) (h : valD out + valD b = valD a + 65536 ^ m * cy) (hcy : cy ≤ 1) : valD out + valD b = valD a := by
  have h1 := valD_lt ho
  rw [hl] at h1
  rcases (show cy = 0 ∨ cy = 1 by omega) with rfl | rfl <;> omega
end Go.Proofs.YtelfnmohpjkilaaDoor
/- ref01.times. -/
namespace Go.Proofs.YtelfnmohpjkilaaDoor
open Go.RowKit Go.Sort
def cellsI (L : List Nat) : Array Value := (L.map fun x : Nat => Value.int .i64 (x : Int)).toArray
theorem cellsI_at {L : List Nat} {j : Nat} (hj : j < L.length) : (cellsI L)[j]? = some (.int .i64 (L.getD j 0 : Nat)) := by
  unfold cellsI
  rw [List.getElem?_toArray, List.getElem?_map, List.getD_eq_getElem?_getD, List.getElem?_eq_getElem hj]
  rfl
theorem cellsI_set (L : List Nat) (j v : Nat) : (cellsI L).setIfInBounds j (.int .i64 (v : Int)) = cellsI (L.set j v) := by
  unfold cellsI
  rw [List.setIfInBounds_toArray, List.map_set]
theorem flat_I (F : List Nat) : (F.flatMap encI).toArray = cellsI F := by
  unfold cellsI
  congr 1
  induction F with
  | nil => rfl
  | cons b F ih => rw [List.flatMap_cons, ih]; rfl
theorem sl_blkI {α : Type} {enc : α → List Value} {k B : Nat} (hk : ∀ x, (enc x).length = k) {w : World} {g : Nat} {t : TypeId} {ys : List α} (h : Blk w g t (ys.flatMap enc).toArray) (hg : g < B) : Sl enc k w B (some ⟨g, 0, none⟩) ys := by
  refine .inr ⟨g, 0, rfl, hg, fun i x hi j u hu => ?_⟩
  rw [show 0 + i * k + j = i * k + j by omega, h.cell]
  have := flat_get hk ys i x hi j u hu
  simpa using this
theorem valD_set : ∀ {L : List Nat} {j v : Nat}, j < L.length → valD (L.set j v) + 65536 ^ j * L.getD j 0 = valD L + 65536 ^ j * v
  | d :: L, 0, v, _ => by simp only [List.set_cons_zero, valD, List.getD_cons_zero, Nat.pow_zero, Nat.one_mul]; omega
  | d :: L, j + 1, v, h => by
    have ih := valD_set (L := L) (j := j) (v := v) (by simpa using h)
    simp only [List.set_cons_succ, valD, List.getD_cons_succ, Nat.pow_succ]
    have e1 : 65536 ^ j * 65536 * L.getD j 0 = 65536 * (65536 ^ j * L.getD j 0) := by rw [Nat.mul_comm (65536 ^ j) 65536, Nat.mul_assoc]
    have e2 : 65536 ^ j * 65536 * v = 65536 * (65536 ^ j * v) := by rw [Nat.mul_comm (65536 ^ j) 65536, Nat.mul_assoc]
    rw [e1, e2]
    omega
theorem okD_set {L : List Nat} (h : okD L) {j v : Nat} (hv : v < 65536) : okD (L.set j v) := by
  intro x hx
  rcases List.mem_or_eq_of_mem_set hx with hx | rfl
  · exact h x hx
  · exact hv
theorem getD_set_ne {L : List Nat} {i j v : Nat} (h : i ≠ j) : (L.set j v).getD i 0 = L.getD i 0 := by
  rw [List.getD_eq_getElem?_getD, List.getD_eq_getElem?_getD, List.getElem?_set_ne (Ne.symm h)]
/-- One digit of a product. -/
theorem times_step {L a b : List Nat} {i k cy T d : Nat} (hj : i + k < L.length) (h : valD L + cy * 65536 ^ (i + k) = T + a.getD i 0 * valD (b.take k) * 65536 ^ i) (hd : d = L.getD (i + k) 0 + a.getD i 0 * b.getD k 0 + cy) :
    valD (L.set (i + k) (d % 65536)) + d / 65536 * 65536 ^ (i + (k + 1)) = T + a.getD i 0 * valD (b.take (k + 1)) * 65536 ^ i := by
  have h1 := valD_set (v := d % 65536) hj
  rw [valD_take]
  have e : 65536 ^ (i + k) * (d % 65536) + d / 65536 * 65536 ^ (i + (k + 1)) = 65536 ^ (i + k) * d := by
    rw [show i + (k + 1) = (i + k) + 1 by omega, Nat.pow_succ, Nat.mul_comm (d / 65536), Nat.mul_assoc, ← Nat.mul_add, Nat.mod_add_div]
  have e2 : 65536 ^ (i + k) * d = 65536 ^ (i + k) * L.getD (i + k) 0 + 65536 ^ (i + k) * (a.getD i 0 * b.getD k 0) + cy * 65536 ^ (i + k) := by rw [hd, Nat.mul_add, Nat.mul_add, Nat.mul_comm cy]
  have e3 : a.getD i 0 * (valD (b.take k) + 65536 ^ k * b.getD k 0) * 65536 ^ i = a.getD i 0 * valD (b.take k) * 65536 ^ i + 65536 ^ (i + k) * (a.getD i 0 * b.getD k 0) := by
    rw [Nat.mul_add, Nat.add_mul, Nat.pow_add]
    congr 1
    simp only [Nat.mul_comm, Nat.mul_assoc, Nat.mul_left_comm]
  rw [e3]
  omega
theorem times_row {L a b : List Nat} {i n cy : Nat} (hj : i + n < L.length) (hn : b.length = n) (h0 : L.getD (i + n) 0 = 0) (h : valD L + cy * 65536 ^ (i + n) = valD (a.take i) * valD b + a.getD i 0 * valD (b.take n) * 65536 ^ i) :
    valD (L.set (i + n) cy) = valD (a.take (i + 1)) * valD b := by
  have h1 := valD_set (v := cy) hj
  rw [h0, Nat.mul_zero, Nat.add_zero] at h1
  rw [h1, valD_take, Nat.add_mul, Nat.mul_comm (65536 ^ (i + n)), h, List.take_of_length_le (l := b) (by omega)]
  congr 1
  simp only [Nat.mul_comm, Nat.mul_assoc, Nat.mul_left_comm]
theorem times_digit {x y z cy : Nat} (hx : x < 65536) (hy : y < 65536) (hz : z < 65536) (hc : cy < 65536) : x * y ≤ 4294836225 ∧ (z + x * y + cy) / 65536 < 65536 := by
  have h1 : x * y ≤ 65535 * 65535 := Nat.mul_le_mul (by omega) (by omega)
  omega
theorem mk_il (n : Nat) (hn : n ≤ 1000000) (W : World) : (Instr.makeSlice 56 (.int .i64 (n : Int)) (.int .i64 (n : Int))).run Tryd.prog W = .ok (.slice (some ⟨W.heap.size, 0, none⟩) n n) (W.alloc (.cells (cellsI (List.replicate n 0)) 3)) := by
  obtain ⟨i, hi, hz, hs, hb⟩ := info_parts infoI1
  have h := run_make (P := Tryd.prog) W 56 3 i (.int .i64 0) Tryd.underlying56 hi hz .i64 .i64 n n (by omega) (by omega) (by rw [hb]; omega) (by omega)
  rw [h, hs]
  have e : madeCells (Value.int .i64 0).cells ((n : Int).toNat * 1) = cellsI (List.replicate n 0) := by
    refine Array.ext (by simp [size_madeCells, cellsI]) fun k h1 h2 => ?_
    simp [madeCells, Value.cells, Nat.mod_one, cellsI]
  rw [e, Int.toNat_natCast]
theorem valD_zeros (n : Nat) : valD (List.replicate n 0) = 0 := by
  induction n with
  | zero => rfl
  | succ n ih => rw [List.replicate_succ, valD, ih]
/-- What the loops keep. -/
structure MulS (w0 w : World) (a b : List Nat) (N : Nat) (L : List Nat) (z : Nat) : Prop where
  blk : Blk w w0.heap.size 3 (cellsI L)
  len : L.length = N
  ok : okD L
  zero : ∀ j, z ≤ j → L.getD j 0 = 0
  below : Below w0.heap.size w0 w
end Go.Proofs.YtelfnmohpjkilaaDoor
/- ref01.wide. -/
namespace Go.Proofs.YtelfnmohpjkilaaDoor
open Go.RowKit Go.Sort
def encB (x : Nat) : List Value := [.int .u8 (x : Int)]
theorem encB_len (x : Nat) : (encB x).length = 1 := rfl
theorem encB_one (x : Nat) : ∀ u ∈ encB x, u.oneCell' = true := by
  intro u hu
  simp only [encB, List.mem_singleton] at hu
  subst hu
  rfl
theorem infoB : (Tryd.prog.info? 5).map (fun i => (i.zero, i.size, i.bytes)) = some (some (.int .u8 0), 1, 1) := by kernel_rfl
theorem bytes_step {T : List Nat} (ho : okD T) {r d : Nat} (hd : T[r]? = some d) : (bytesD (T.drop r)).reverse = (bytesD (T.drop (r + 1))).reverse ++ (if decide (T.drop (r + 1) ≠ [] ∨ 256 ≤ d) then [d / 256] else []) ++ [d % 256] := by
  have hdr : T.drop r = d :: T.drop (r + 1) := by
    have hr : r < T.length := (List.getElem?_eq_some_iff.1 hd).1
    rw [List.drop_eq_getElem_cons hr]
    rw [List.getElem?_eq_getElem hr] at hd
    cases hd; rfl
  have hd6 := ho d (List.mem_of_getElem? hd)
  rw [hdr]
  generalize T.drop (r + 1) = R
  cases R with
  | nil =>
    unfold bytesD
    by_cases h : 256 ≤ d
    · rw [if_pos h, if_pos (by simp [h])]; simp
    · rw [if_neg h, if_neg (by simp [h])]; simp; omega
  | cons x R => rw [bytesD_cons d (by simp), if_pos (by simp)]; simp
/-- The sign of a number: nothing has none. -/
def sgB (neg : Bool) (l : List Nat) : Bool := neg && !l.isEmpty
theorem bytes_conv {l : List Nat} (ho : okD l) {W : World} {A : Option Addr} {c B : Nat} (hs : Sl encB 1 W B A (bytesD l).reverse) (h0 : bytesD l ≠ []) : (convert 92 9 (.slice A (bytesD l).length c)).run Tryd.prog W = .ok (.string (strB l)) W := by
  have hlen : ((bytesD l).reverse.map UInt8.ofNat).length = (bytesD l).length := by simp
  rcases hs with ⟨h1, _⟩ | ⟨b, o, rfl, _, hc⟩
  · exact absurd (List.reverse_eq_nil_iff.1 h1) h0
  · have h := run_convert_bytes_back (P := Tryd.prog) W 92 9 5 ⟨b, o, none⟩ c ((bytesD l).reverse.map UInt8.ofNat) Tryd.underlying92 Tryd.underlying5 Tryd.underlying9 (fun j hj => by
      rw [hlen] at hj
      have hj' : j < (bytesD l).reverse.length := by simpa using hj
      have h1 := hc j _ (List.getElem?_eq_getElem hj') 0 _ rfl
      rw [Nat.mul_one, Nat.add_zero] at h1
      rw [add_none, h1]
      have hb : (bytesD l).reverse[j] < 256 := bytesD_lt ho _ (List.mem_reverse.1 (List.getElem_mem hj'))
      rw [List.getElem_map]
      have e2 : (UInt8.ofNat ((bytesD l).reverse[j])).toNat = (bytesD l).reverse[j] := by simp at hb ⊢; omega
      rw [e2])
    rw [hlen] at h
    exact h
set_option maxRecDepth 100000 in
set_option maxHeartbeats 8000000 in
theorem wideW_any (neg : Bool) (A : Option Addr) (c : Nat) (l : List Nat) (w : World) (hs : Sl encI 1 w w.heap.size A l) (hlc : l.length ≤ c) (hok : okD l) (hl : l.length ≤ 1000000) :
    Calls Tryd.prog 26 #[.bool neg, .slice A l.length c] w fun e w' => e = .returned (wvalV (sgB neg (trimD l)) (trimD l)) ∧ Below w.heap.size w w' := by
  have htr := fun W (hW : Below w.heap.size w W) => trimW_any A c l W ((hs.below hW).more hW.size) hlc (by omega)
  have hpre := trim_pre l
  have hokT := trim_ok hok
  have htt := trim_trim l
  have hle := trim_len l
  obtain ⟨T, hT⟩ : ∃ T, T = trimD l := ⟨_, rfl⟩
  rw [← hT] at hpre hokT htt hle htr ⊢
  have hsT : ∀ W, Below w.heap.size w W → Sl encI 1 W w.heap.size A T := fun W hW => by
    rw [hpre]
    exact (hs.below hW).take _
  obtain ⟨m, hm⟩ : ∃ m, m = T.length := ⟨_, rfl⟩
  rw [← hm] at htr hle
  obtain ⟨L, hL⟩ : ∃ L, L = l.length := ⟨_, rfl⟩
  rw [← hL] at htr hle hl ⊢
  have HS := hide (And.intro htr (And.intro hsT (And.intro hokT (And.intro htt hm))))
  clear htr hsT hokT htt hm hs hlc hok hT hpre hL
  go_enter Tryd.func26, Tryd.ntmps26
  go_wp2_with fail
  obtain ⟨X, hX⟩ : ∃ X, X = w.alloc (.cells #[.bool false, .string ⟨#[]⟩] 35) := ⟨_, rfl⟩
  rw [← hX]
  have hb : Blk X w.heap.size 35 #[.bool false, .string ⟨#[]⟩] := by rw [hX]; exact Blk.new _ _ _
  have hBX : Below w.heap.size w X := by rw [hX]; exact (Below.refl _ w).alloc (Nat.le_refl _) _
  have hzX : X.heap.size = w.heap.size + 1 := by rw [hX]; simp
  have HX := hide (And.intro hb hBX)
  clear hX hb hBX
  refine (HS.out.1 X HX.out.2).mono ?_
  rintro e X' ⟨rfl, rfl⟩
  obtain ⟨X, rfl⟩ : ∃ X, X = X' := ⟨_, rfl⟩
  obtain ⟨bx, hbx⟩ : ∃ b, b = w.heap.size := ⟨_, rfl⟩
  rw [← hbx]
  have r0 := HX.out.1.cell 0
  have r1 := HX.out.1.cell 1
  have f0 := HX.out.1.frozen 0
  have f1 := HX.out.1.frozen 1
  simp only [List.getElem?_toArray, List.getElem?_cons_zero, List.getElem?_cons_succ] at r0 r1
  rw [← hbx] at r0 r1 f0 f1
  have hlb : bx < X.heap.size := by omega
  have HBX := hide hbx
  clear hbx
  by_cases h0 : m = 0
  · subst h0
    have hT0 : T = [] := List.eq_nil_of_length_eq_zero HS.out.2.2.2.2.symm
    have HT := hide hT0
    clear hT0
    go_wp2
    refine ret_at (v := wvalV (sgB neg T) T) (fun W => Blk W bx 35 #[.bool false, .string ⟨#[]⟩]) ?_ (fun W h => ?_) rfl ⟨rfl, ?_⟩
    · have h1 := (HX.out.1.set_ 0 (.bool false)).set_ 1 (.string ⟨#[]⟩)
      rw [HBX.out]
      exact h1
    · have a0 := h.cell 0
      have a1 := h.cell 1
      simp only [List.getElem?_toArray, List.getElem?_cons_zero, List.getElem?_cons_succ] at a0 a1
      rw [HT.out]
      simp [results, Tryd.results26, go_sem, a0, a1, wvalV, sgB, strB, bytesD]
    · have := HBX.out
      exact (HX.out.2.setCell (by dsimp only; omega) _).setCell (by dsimp only; omega) _
  · have hm0 : ¬ (m : Int) = 0 := by omega
    have tm : ((m : Int) == 0) = false := beq_eq_false_iff_ne.2 hm0
    have wm : wrap64 ((m : Int) - 1) = (m : Int) - 1 := wrap64_small (by omega)
    have hTn : T ≠ [] := fun e => h0 (by rw [HS.out.2.2.2.2, e]; rfl)
    have HTN := hide hTn
    clear hTn
    go_wp2
    go_loopw [5, 6] (fun bv iv wr => ∃ q : Nat, q ≤ m ∧ iv = .int .i64 ((q : Int) - 1) ∧ Own encB 1 5 wr X.heap.size bv (bytesD (T.drop q)).length (bytesD (T.drop q)).reverse ∧ Below X.heap.size X wr) (fun _ iv _ => (intOf iv + 1).toNat)
    case atStart => exact ⟨m, Nat.le_refl _, rfl, by rw [HS.out.2.2.2.2, List.drop_length]; exact Own.nil, Below.refl _ X⟩
    case round =>
      obtain ⟨q, hq, rfl, hown, hB⟩ := hrel
      obtain ⟨V, rfl⟩ : ∃ V, V = wr := ⟨_, rfl⟩
      obtain ⟨A1, c1, rfl⟩ := hown.form
      have hzr := hB.size
      by_cases hq0 : q = 0
      · subst hq0
        rw [List.drop_zero] at hown ⊢
        have hb0 : bytesD T ≠ [] := fun e => by
          have h1 := bytesD_len T HTN.out
          rw [e, ← HS.out.2.2.2.2] at h1
          simp at h1
          omega
        have hcv := bytes_conv HS.out.2.2.1 (c := c1) (hown.sl encB_len (Nat.le_refl V.heap.size)) hb0
        obtain ⟨bl, hbl⟩ : ∃ bl, bl = (bytesD T).length := ⟨_, rfl⟩
        rw [← hbl] at hcv ⊢
        have hbV := HX.out.1.below hB (by have := HBX.out; omega)
        rw [← HBX.out] at hbV
        have r0 := hbV.cell 0
        have r1 := hbV.cell 1
        have f0 := hbV.frozen 0
        have f1 := hbV.frozen 1
        simp only [List.getElem?_toArray, List.getElem?_cons_zero, List.getElem?_cons_succ] at r0 r1
        have hlV : bx < V.heap.size := by omega
        obtain ⟨S, hS⟩ : ∃ S, S = strB T := ⟨_, rfl⟩
        rw [← hS] at hcv
        have HE := hide (And.intro hbV (And.intro (HX.out.2.trans (hB.mono HX.out.2.size)) hS))
        clear hown hbl hb0 hbV hB hS
        go_wp2
        refine ret_at (v := wvalV (sgB neg T) T) (fun W => Blk W bx 35 #[.bool neg, .string S]) ?_ (fun W h => ?_) rfl ⟨rfl, ?_⟩
        · exact (HE.out.1.set_ 0 (.bool neg)).set_ 1 (.string S)
        · have a0 := h.cell 0
          have a1 := h.cell 1
          simp only [List.getElem?_toArray, List.getElem?_cons_zero, List.getElem?_cons_succ] at a0 a1
          have hsg : sgB neg T = neg := by
            unfold sgB
            cases T with
            | nil => exact absurd rfl HTN.out
            | cons x T => simp
          rw [hsg]
          unfold wvalV
          rw [← HE.out.2.2]
          simp [results, Tryd.results26, go_sem, a0, a1]
        · have := HBX.out
          exact (HE.out.2.1.setCell (by dsimp only; omega) _).setCell (by dsimp only; omega) _
      · obtain ⟨r, rfl⟩ : ∃ r, q = r + 1 := ⟨q - 1, by omega⟩
        have eiv : ((r + 1 : Nat) : Int) - 1 = (r : Int) := by omega
        rw [eiv]
        obtain ⟨d, hd⟩ : ∃ d, T[r]? = some d := ⟨_, List.getElem?_eq_getElem (by rw [← HS.out.2.2.2.2]; omega)⟩
        have hd6 : d < 65536 := HS.out.2.2.1 d (List.mem_of_getElem? hd)
        obtain ⟨b, o, hA, hb, hc⟩ := (HS.out.2.1 V (HX.out.2.trans (hB.mono HX.out.2.size))).at hd
        subst hA
        have g1 := hc 0 _ rfl
        simp only [Nat.mul_one, Nat.add_zero] at g1
        have hst := bytes_step HS.out.2.2.1 hd
        obtain ⟨cb, hcb⟩ : ∃ cb, cb = decide (T.drop (r + 1) ≠ [] ∨ 256 ≤ d) := ⟨_, rfl⟩
        rw [← hcb] at hst
        have hcb2 : cb = decide (r + 1 < m ∨ 256 ≤ d) := by
          rw [hcb]
          refine decide_eq_decide.2 (or_congr ?_ Iff.rfl)
          rw [ne_eq, List.drop_eq_nil_iff, HS.out.2.2.2.2]
          omega
        obtain ⟨P, hP⟩ : ∃ P, P = (bytesD (T.drop (r + 1))).reverse := ⟨_, rfl⟩
        obtain ⟨pl, hpl⟩ : ∃ pl, pl = (bytesD (T.drop (r + 1))).length := ⟨_, rfl⟩
        rw [← hP, ← hpl] at hown
        rw [← hP] at hst
        rw [← hpl]
        have hplb : pl ≤ 4000000 := by
          rw [hpl]
          by_cases hn : T.drop (r + 1) = []
          · rw [hn]; simp [bytesD]
          · have h1 := bytesD_len _ hn
            rw [List.length_drop, ← HS.out.2.2.2.2] at h1
            omega
        have i1 : (r : Int) < (m : Int) := by omega
        have HR := hide (And.intro hown (And.intro hB (And.intro hst (And.intro hcb2 hpl))))
        clear hown hB hst hcb hcb2 hpl hc hP hd
        go_upto_region 8 with fail
        go_cut [31] (fun v wx => v = .bool cb ∧ wx = V)
        case first =>
          have hcb := HR.out.2.2.2.1
          by_cases h1 : r + 1 < m
          · have j1 : (r : Int) < (m : Int) - 1 := by omega
            have e : cb = true := by rw [hcb]; exact decide_eq_true (.inl h1)
            have HE := hide e
            clear hcb h1 e
            go_wp2_with fail
            go_meet
            case rel => exact ⟨by rw [HE.out], rfl⟩
          · have j1 : ¬ (r : Int) < (m : Int) - 1 := by omega
            by_cases h2 : 256 ≤ d
            · have j2 : (256 : Int) ≤ (d : Int) := by omega
              have e : cb = true := by rw [hcb]; exact decide_eq_true (.inr h2)
              have HE := hide e
              clear hcb h1 h2 e
              go_wp2_with fail
              go_meet
              case rel => exact ⟨by rw [HE.out], rfl⟩
            · have j2 : ¬ (256 : Int) ≤ (d : Int) := by omega
              have e : cb = false := by rw [hcb]; exact decide_eq_false (by omega)
              have HE := hide e
              clear hcb h1 h2 e
              go_wp2_with fail
              go_meet
              case rel => exact ⟨by rw [HE.out], rfl⟩
        case rest =>
          obtain ⟨rfl, rfl⟩ := hcut
          obtain ⟨V, rfl⟩ : ∃ V, V = wc := ⟨_, rfl⟩
          have w1 : (d : Int) % 256 = ((d % 256 : Nat) : Int) := by omega
          have w2 : (d : Int) / 256 = ((d / 256 : Nat) : Int) := by omega
          obtain ⟨d0, hd0⟩ : ∃ x, x = d % 256 := ⟨_, rfl⟩
          obtain ⟨d1, hd1⟩ : ∃ x, x = d / 256 := ⟨_, rfl⟩
          have b0 : d0 < 256 := by omega
          have b1 : d1 < 256 := by omega
          have w3 : (d1 : Int) % 256 = (d1 : Int) := by omega
          have w4 : (d0 : Int) % 256 = (d0 : Int) := by omega
          rw [← hd0] at w1
          rw [← hd1] at w2
          have hst := HR.out.2.2.1
          rw [← hd0, ← hd1] at hst
          obtain ⟨B0, hB0⟩ : ∃ B0, B0 = (bytesD (T.drop r)).reverse := ⟨_, rfl⟩
          have hBl : B0.length = (bytesD (T.drop r)).length := by rw [hB0, List.length_reverse]
          rw [← hB0] at hst
          have HST := hide (And.intro hst (And.intro hB0 hBl))
          clear hd0 hd1 hst hB0 hBl
          cases cb
          · have HO := hide (HR.out.1.alloc (.cells (encB d0).toArray 5))
            go_wp2_with (at_builtin; refine wpList_append1 rfl _ _ _ rfl Tryd.underlying92 infoB rfl (by omega) encB_len encB_one rfl HO.out V.heap.size 1 d0 rfl (Blk.new _ _ _) (by unfold maxLen; omega) (by omega) (by simp; omega) ?_; intro g cap w7 hown7 hg7 hB7 hat7 hgb7 hlt7)
            go_roundw
            case rel =>
              have hst := HST.out.1
              rw [if_neg (by simp), List.append_nil] at hst
              refine ⟨r, by omega, rfl, ?_, (HR.out.2.1.alloc hzr _).trans hB7⟩
              rw [← HST.out.2.2, ← HST.out.2.1, hst, List.length_append, ← HR.out.1.1]
              exact hown7
            case measure => (simp [intOf]; try omega)
          · have HO := hide (HR.out.1.alloc (.cells (encB d1).toArray 5))
            go_upto_region 10 with (at_builtin; refine wpList_append1 rfl _ _ _ rfl Tryd.underlying92 infoB rfl (by omega) encB_len encB_one rfl HO.out V.heap.size 1 d1 rfl (Blk.new _ _ _) (by unfold maxLen; omega) (by omega) (by simp; omega) ?_; intro g cap w7 hown7 hg7 hB7 hat7 hgb7 hlt7)
            have hbX := HBX.out
            have g7 := ((hB7.cell (p := ⟨b, o + r, none⟩) (by dsimp only; omega)).trans (((Below.refl V.heap.size V).alloc (Nat.le_refl _) (.cells (encB d1).toArray 5)).cell (p := ⟨b, o + r, none⟩) (by dsimp only; omega))).trans g1
            have hz7 : V.heap.size + 1 ≤ w7.heap.size := by have := hB7.size; rw [World.size_alloc] at this; exact this
            have HO2 := hide (And.intro (hown7.alloc (.cells (encB d0).toArray 5)) ((HR.out.2.1.alloc hzr _).trans hB7))
            clear hown7 hg7 hB7 hat7 hgb7 hbX g1
            go_wp2_with (at_builtin; refine wpList_append1 rfl _ _ _ rfl Tryd.underlying92 infoB rfl (by omega) encB_len encB_one rfl HO2.out.1 w7.heap.size 1 d0 rfl (Blk.new _ _ _) (by unfold maxLen; omega) (by omega) (by simp; omega) ?_; intro g' cap' w8 hown8 hg8 hB8 hat8 hgb8 hlt8)
            go_roundw
            case rel =>
              have hst := HST.out.1
              rw [if_pos (by simp)] at hst
              refine ⟨r, by omega, rfl, ?_, (HO2.out.2.alloc (by have := HO2.out.2.size; omega) _).trans hB8⟩
              rw [← HST.out.2.2, ← HST.out.2.1, hst, List.length_append, List.length_append, ← HR.out.1.1]
              exact hown8
            case measure => (simp [intOf]; try omega)
end Go.Proofs.YtelfnmohpjkilaaDoor
