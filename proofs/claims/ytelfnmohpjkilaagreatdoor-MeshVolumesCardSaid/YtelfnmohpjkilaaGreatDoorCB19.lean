/- Joined texts: Wd1 Wd2 Wd4 Wd5 Wd6 Wd7 Wd3. -/
import Derived.IntWalk
import Derived.Deep.DeepCutAuto
import Derived.Deep.CutBlock
import Derived.BigQuiet
import Derived.Laws.IdiomStrings
import Derived.Test.YtelfnmohpjkilaaGreatDoorCB4
import Derived.Test.YtelfnmohpjkilaaGreatDoorCB8
import Derived.Test.YtelfnmohpjkilaaGreatDoorCB9
import Derived.Test.YtelfnmohpjkilaaGreatDoorCB11
import Derived.Test.YtelfnmohpjkilaaGreatDoorCB18
/- ref01.trim, ref01.digits. -/
namespace Go.Proofs.YtelfnmohpjkilaaGreatDoor
open Go.RowKit Go.Sort
def lenW : Value → Nat
  | .slice _ n _ => n
  | _ => 0
theorem trim_len (l : List Nat) : (trimD l).length ≤ l.length := by
  induction l with
  | nil => exact Nat.le_refl _
  | cons e m ih =>
    unfold trimD
    split
    · split <;> simp
    · rename_i x y hx; rw [hx] at ih; simp only [List.length_cons] at ih ⊢; omega
theorem trim_pre (l : List Nat) : trimD l = l.take (trimD l).length := by
  induction l with
  | nil => rfl
  | cons e m ih =>
    unfold trimD
    split
    · split <;> rfl
    · rename_i x y hx
      rw [hx] at ih
      simp only [List.length_cons, List.take_succ_cons] at ih ⊢
      rw [← ih]
set_option maxRecDepth 100000 in
set_option maxHeartbeats 8000000 in
theorem trimW_any (A : Option Addr) (c : Nat) (l : List Nat) (w : World) (hs : Sl encI 1 w w.heap.size A l) (hlc : l.length ≤ c) (hl : l.length ≤ 1073741824) :
    Calls Tryz.prog 102 #[.slice A l.length c] w fun e w' => e = .returned (.slice A (trimD l).length c) ∧ w' = w := by
  have hcut : ∀ n : Nat, n + 1 ≤ l.length → ∀ W, (Instr.slice 23 (.slice A (n + 1) c) none (some (.int .i64 n)) none).run Tryz.prog W = .ok (.slice A n c) W := fun n hn W => run_cutH (T := 23) (E := 3) (s := 1) Tryz.underlying23 (fun W => Tryz.sizeOf3 W) (by omega) (by omega) W
  have HS := hide (And.intro hs (And.intro hlc hcut))
  obtain ⟨L, hL⟩ : ∃ L, L = l.length := ⟨_, rfl⟩
  rw [← hL] at hl ⊢
  have HL := hide hL
  clear hs hlc hcut hL
  go_enter Tryz.func102, Tryz.ntmps102
  go_wp2
  go_loopw [0] (fun sv wr => ∃ m : Nat, m ≤ L ∧ sv = .slice A m c ∧ trimD (l.take m) = trimD l ∧ wr = w) (fun sv _ => lenW sv)
  case atStart => exact ⟨L, Nat.le_refl _, rfl, by rw [HL.out, List.take_length], rfl⟩
  case round =>
    obtain ⟨m, hm, rfl, ht, rfl⟩ := hrel
    obtain ⟨w, rfl⟩ : ∃ w, w = wr := ⟨_, rfl⟩
    by_cases h0 : m = 0
    · subst h0
      have e : trimD l = [] := by rw [← ht]; rfl
      have HE := hide e
      clear ht e
      go_wp2
      go_ret
      exact ⟨by rw [HE.out]; rfl, rfl⟩
    · obtain ⟨n, rfl⟩ : ∃ n, m = n + 1 := ⟨m - 1, by omega⟩
      obtain ⟨d, hd⟩ : ∃ d, l[n]? = some d := ⟨_, List.getElem?_eq_getElem (by rw [← HL.out]; omega)⟩
      obtain ⟨b, o, hA, hb, hc⟩ := HS.out.1.at hd
      subst hA
      have c1 := hc 0 _ rfl
      simp only [Nat.mul_one, Nat.add_zero] at c1
      have hcutn := HS.out.2.2 n (by rw [← HL.out]; exact hm)
      have i1 : (0 : Int) < (n : Int) + 1 := by omega
      have htk : l.take (n + 1) = l.take n ++ [d] := by rw [List.take_add_one, hd]; rfl
      have hlen : (l.take n).length = n := by rw [List.length_take]; have := HL.out; omega
      by_cases hd0 : d = 0
      · subst hd0
        have hn := ht
        rw [htk, trim_snoc0] at hn
        have HN := hide (And.intro hn (show n ≤ L by omega))
        clear ht hn htk hlen hc
        go_wp2
        go_roundw
        case rel => exact ⟨n, HN.out.2, rfl, HN.out.1, trivial⟩
        case measure => simp [lenW]
      · have hn := ht
        rw [htk, trim_snoc _ hd0] at hn
        have hd1 : ¬ (d : Int) = 0 := by omega
        have HN := hide (show (trimD l).length = n + 1 by rw [← hn, List.length_append, hlen]; rfl)
        clear ht hn htk hlen hc hd0
        go_wp2
        go_ret
        exact ⟨by rw [HN.out]; rfl, rfl⟩
/-- A number in memory and as a value. -/
def strB (l : List Nat) : ByteArray := ⟨((bytesD l).reverse.map UInt8.ofNat).toArray⟩
def wvalV (neg : Bool) (l : List Nat) : Value := .agg #[.bool neg, .string (strB l)]
theorem strB_size (l : List Nat) : (strB l).size = (bytesD l).length := by
  show ((bytesD l).reverse.map UInt8.ofNat).toArray.size = _
  simp
theorem strB_idx {l : List Nat} (ho : okD l) {j b : Nat} (hj : j < (bytesD l).length) (hb : (bytesD l)[(bytesD l).length - 1 - j]? = some b) (W : World) : (Instr.index 9 (.string (strB l)) (.int .i64 (j : Int))).run Tryz.prog W = .ok (.int .u8 (b : Int)) W := by
  have hs := strB_size l
  have hb6 : b < 256 := bytesD_lt ho b (List.mem_of_getElem? hb)
  rw [run_index_string (h := Tryz.underlying9)]
  have hc : 0 ≤ (j : Int) ∧ (j : Int) < (strB l).size := by omega
  rw [dif_pos hc]
  have hlt : j < ((bytesD l).reverse.map UInt8.ofNat).length := by simpa using hj
  have e : (strB l)[(j : Int).toNat]'(by omega) = UInt8.ofNat b := by
    show ((bytesD l).reverse.map UInt8.ofNat)[j]'hlt = _
    rw [List.getElem_map, List.getElem_reverse]
    have := (List.getElem?_eq_some_iff.1 hb).2
    rw [this]
  rw [e]
  have e2 : (UInt8.ofNat b).toNat = b := by simp; omega
  rw [e2]
end Go.Proofs.YtelfnmohpjkilaaGreatDoor
/- ref01.digits. -/
namespace Go.Proofs.YtelfnmohpjkilaaGreatDoor
open Go.RowKit Go.Sort
theorem infoI1 : (Tryz.prog.info? 3).map (fun i => (i.zero, i.size, i.bytes)) = some (some (.int .i64 0), 1, 8) := by kernel_rfl
theorem strB_get {l : List Nat} (ho : okD l) {j b : Nat} (hj : j < (bytesD l).length) (hb : (bytesD l)[(bytesD l).length - 1 - j]? = some b) (h : j < (strB l).size) : ((strB l)[j]'h).toNat = b := by
  have hb6 : b < 256 := bytesD_lt ho b (List.mem_of_getElem? hb)
  have hlt : j < ((bytesD l).reverse.map UInt8.ofNat).length := by simpa using hj
  have e : (strB l)[j]'h = UInt8.ofNat b := by
    show ((bytesD l).reverse.map UInt8.ofNat)[j]'hlt = _
    rw [List.getElem_map, List.getElem_reverse]
    have := (List.getElem?_eq_some_iff.1 hb).2
    rw [this]
  rw [e]
  simp; omega
theorem wrap64_small {x : Int} (h : -9223372036854775808 ≤ x ∧ x ≤ 9223372036854775807) : wrap64 x = x := by
  unfold wrap64
  omega
set_option maxRecDepth 100000 in
set_option maxHeartbeats 8000000 in
theorem digitsW_any (neg : Bool) (l : List Nat) (hok : okD l) (ht : trimD l = l) (hl : l.length ≤ 1000000) (w : World) :
    Calls Tryz.prog 92 #[wvalV neg l] w fun e w' => ∃ A c, e = .returned (.slice A l.length c) ∧ l.length ≤ c ∧ Sl encI 1 w' w'.heap.size A l ∧ Below w.heap.size w w' := by
  obtain ⟨s, hs⟩ : ∃ s, s = strB l := ⟨_, rfl⟩
  obtain ⟨N, hN⟩ : ∃ N, N = (bytesD l).length := ⟨_, rfl⟩
  have hsz : s.size = N := by rw [hs, strB_size, hN]
  have hidx : ∀ (j b : Nat), j < N → (bytesD l)[N - 1 - j]? = some b → ∀ (h : j < s.size), (s[j]'h).toNat = b := fun j b hj hb h => by
    subst hs
    exact strB_get hok (by rw [← hN]; exact hj) (by rw [← hN]; exact hb) h
  have hlow := bytesD_low l hok
  rw [← hN] at hlow
  have hlen : l ≠ [] → N = 2 * l.length ∨ N + 1 = 2 * l.length := fun h => by rw [hN]; exact bytesD_len l h
  have hnil : l = [] → N = 0 := fun h => by rw [hN, h]; rfl
  have hwv : wvalV neg l = .agg #[.bool neg, .string s] := by rw [hs]; rfl
  rw [hwv]
  obtain ⟨L, hL⟩ : ∃ L, L = l.length := ⟨_, rfl⟩
  have hN2 : N ≤ 2 * L ∧ 2 * L ≤ N + 1 := by
    by_cases h : l = []
    · have := hnil h; rw [hL, h]; simp; omega
    · have := hlen h; omega
  have HS := hide (And.intro hok (And.intro ht (And.intro hidx (And.intro hlow hL))))
  rw [← hL] at hl ⊢
  clear hok ht hidx hlow hlen hnil hL hs hN hwv
  go_enter Tryz.func92, Tryz.ntmps92
  go_upto_region 2 with fail
  obtain ⟨X, hX⟩ : ∃ X, X = w.alloc (.cells #[.bool neg, .string s] 46) := ⟨_, rfl⟩
  rw [← hX]
  have hb : Blk X w.heap.size 46 #[.bool neg, .string s] := by rw [hX]; exact Blk.new _ _ _
  have hBX : Below w.heap.size w X := by rw [hX]; exact (Below.refl _ w).alloc (Nat.le_refl _) _
  have hzX : X.heap.size = w.heap.size + 1 := by rw [hX]; simp
  have HX := hide (And.intro hb hBX)
  have g1 := hb.cell 1
  simp only [List.getElem?_toArray, List.getElem?_cons_zero, List.getElem?_cons_succ] at g1
  have hlb := hb.lt
  obtain ⟨bx, hbx⟩ : ∃ b, b = w.heap.size := ⟨_, rfl⟩
  rw [← hbx] at g1 hlb ⊢
  have HBX := hide hbx
  clear hb hBX hX hbx
  go_wp2
  go_loopw [3, 5] (fun ov iv wr => ∃ k : Nat, k ≤ L ∧ iv = .int .i64 ((N : Int) - 2 * (k : Int)) ∧ Own encI 1 3 wr X.heap.size ov k (l.take k) ∧ Below X.heap.size X wr) (fun _ iv _ => (intOf iv).toNat)
  case atStart => exact ⟨0, by omega, by simp, Own.nil, Below.refl _ X⟩
  case round =>
    obtain ⟨k, hk, rfl, hown, hB⟩ := hrel
    obtain ⟨A1, c1, rfl⟩ := hown.form
    have gr := (hB.cell (p := ⟨bx, 1, none⟩) hlb).trans g1
    have hzr := hB.size
    by_cases hlt : k < L
    · obtain ⟨d, hd⟩ : ∃ d, l[k]? = some d := ⟨_, List.getElem?_eq_getElem (by rw [← HS.out.2.2.2.2]; exact hlt)⟩
      obtain ⟨i, hi⟩ : ∃ i : Nat, (i : Int) = (N : Int) - 2 * (k : Int) := ⟨N - 2 * k, by omega⟩
      rw [← hi]
      obtain ⟨h1, h2, h3⟩ := HS.out.2.2.2.1 k d hd
      have hd6 : d < 65536 := HS.out.1 d (List.mem_of_getElem? hd)
      have ipos : (0 : Int) < (i : Int) := by omega
      have hmap : l.take (k + 1) = l.take k ++ [d] := by rw [List.take_add_one, hd]; rfl
      obtain ⟨dl, hdl⟩ : ∃ x : Nat, x = if 2 * k + 1 < N then d % 256 else d := ⟨_, rfl⟩
      rw [← hdl] at h1
      have hdb : dl < 256 := by rw [hdl]; split <;> first | omega | exact h3 (by assumption)
      have HO := hide (hown.alloc (.cells (encI d).toArray 3))
      have HR := hide (And.intro hown (And.intro hB (And.intro hmap (And.intro hi (And.intro h1 (And.intro h2 (And.intro h3 hdl)))))))
      have HX1 := hide HS.out.2.2.1
      clear hown hB hmap hi h1 h2 h3 hdl
      go_upto_region 6 with fail
      go_cut [6] (fun v wx => v = .int .i64 (dl : Int) ∧ wx = wr)
      case first =>
        obtain ⟨j1, hj1⟩ : ∃ j : Nat, (i : Int) = (j : Int) + 1 := ⟨i - 1, by omega⟩
        have hi := HR.out.2.2.2.1
        have wj : wrap64 ((i : Int) - 1) = (j1 : Int) := by rw [wrap64_small (by omega)]; omega
        have bj : (j1 : Int) < (N : Int) := by omega
        have bj' : j1 < N := by omega
        have HJ := hide (And.intro hj1 hi)
        clear hj1 hi
        go_wp2_with fail
        go_meet
        case rel =>
          obtain ⟨hj1, hi⟩ := HJ.out
          refine ⟨?_, rfl⟩
          rw [HX1.out j1 dl bj' (by rw [show N - 1 - j1 = 2 * k by omega]; exact HR.out.2.2.2.2.1) _, wrap64_small (by omega)]
      case rest =>
        obtain ⟨rfl, rfl⟩ := hcut
        obtain ⟨V, rfl⟩ : ∃ V, V = wc := ⟨_, rfl⟩
        go_upto_if 22 with fail
        go_cut [6] (fun v wx => v = .int .i64 (d : Int) ∧ wx = V)
        case first =>
          have hdl := HR.out.2.2.2.2.2.2.2
          by_cases hgt : 2 * k + 1 < N
          · have i1 : (1 : Int) < (i : Int) := by have hi := HR.out.2.2.2.1; omega
            rw [if_pos hgt] at hdl
            have HDL := hide hdl
            have hi := HR.out.2.2.2.1
            obtain ⟨j1, hj1⟩ : ∃ j : Nat, (i : Int) = (j : Int) + 2 := ⟨i - 2, by omega⟩
            have wj : wrap64 ((i : Int) - 2) = (j1 : Int) := by rw [wrap64_small (by omega)]; omega
            have bj : (j1 : Int) < (N : Int) := by omega
            have bj' : j1 < N := by omega
            have HJ := hide (And.intro hj1 (And.intro hi hgt))
            clear hdl hgt hj1 hi
            go_wp2_with fail
            go_meet
            case rel =>
              obtain ⟨hj1, hi, hgt⟩ := HJ.out
              refine ⟨?_, rfl⟩
              rw [HX1.out j1 (d / 256) bj' (by rw [show N - 1 - j1 = 2 * k + 1 by omega]; exact HR.out.2.2.2.2.2.1 hgt) _]
              have := HDL.out
              rw [wrap64_small (x := ((d / 256 : Nat) : Int)) (by omega), wrap64_small (x := 256 * ((d / 256 : Nat) : Int)) (by omega), wrap64_small (by omega)]
              congr 1
              omega
          · have i1 : ¬ (1 : Int) < (i : Int) := by have hi := HR.out.2.2.2.1; omega
            rw [if_neg hgt] at hdl
            have HDL := hide hdl
            clear hdl hgt
            go_wp2_with fail
            go_meet
            case rel => exact ⟨by rw [HDL.out], rfl⟩
        case rest =>
          obtain ⟨rfl, rfl⟩ := hcut
          obtain ⟨V, rfl⟩ : ∃ V, V = wc := ⟨_, rfl⟩
          have wi : wrap64 ((i : Int) - 2) = (i : Int) - 2 := wrap64_small (by have hi := HR.out.2.2.2.1; omega)
          go_wp2_with (at_builtin; refine wpList_append1 rfl _ _ _ rfl Tryz.underlying23 infoI1 rfl (by omega) encI_len encI_one rfl HO.out V.heap.size 1 d rfl (Blk.new _ _ _) (by unfold maxLen; omega) (by omega) (by simp; omega) ?_; intro g cap w7 hown7 hg7 hB7 hat7 hgb7 hlt7)
          go_roundw
          case rel =>
            refine ⟨k + 1, by omega, ?_, by rw [HR.out.2.2.1]; exact hown7, (HR.out.2.1.alloc hzr _).trans hB7⟩
            have hi := HR.out.2.2.2.1
            congr 1
            push_cast
            omega
          case measure => simp [intOf]; omega
    · obtain rfl : k = L := by omega
      have hneg : ¬ (0 : Int) < (N : Int) - 2 * (k : Int) := by omega
      rw [HS.out.2.2.2.2, List.take_length] at hown
      have hpl := hown.place.1
      have htr := trimW_any A1 c1 l wr (hown.sl encI_len (Nat.le_refl _)) (by rw [← HS.out.2.2.2.2]; rw [HS.out.2.2.2.2]; exact hpl) (by rw [← HS.out.2.2.2.2]; omega)
      rw [HS.out.2.1, ← HS.out.2.2.2.2] at htr
      rw [← HS.out.2.2.2.2] at hown hpl
      have HT := hide (And.intro htr (And.intro (hown.sl encI_len (Nat.le_refl _)) (And.intro hpl (HX.out.2.trans (hB.mono HX.out.2.size)))))
      obtain ⟨iv, hiv⟩ : ∃ iv, iv = (N : Int) - 2 * (k : Int) := ⟨_, rfl⟩
      rw [← hiv] at hneg ⊢
      clear hown htr hB hpl hiv gr
      go_wp2_with fail
      with_reducible refine HT.out.1.mono ?_
      rintro e w9 ⟨rfl, rfl⟩
      go_wp2
      go_ret
      exact ⟨A1, c1, rfl, HT.out.2.2.1, HT.out.2.1, HT.out.2.2.2⟩
end Go.Proofs.YtelfnmohpjkilaaGreatDoor
/- ref01.plus (printed by mk_Wd4.py). -/
namespace Go.Proofs.YtelfnmohpjkilaaGreatDoor
open Go.RowKit Go.Sort
theorem valD_take (l : List Nat) (k : Nat) : valD (l.take (k + 1)) = valD (l.take k) + 65536 ^ k * l.getD k 0 := by
  rcases Nat.lt_or_ge k l.length with h | h
  · have hd : l[k]? = some l[k] := List.getElem?_eq_getElem h
    rw [List.take_add_one, hd, Option.toList_some, valD_app, List.length_take, Nat.min_eq_left (by omega), List.getD_eq_getElem?_getD, hd]
    simp [valD]
  · rw [List.take_of_length_le (by omega), List.take_of_length_le h, List.getD_eq_getElem?_getD, List.getElem?_eq_none h]
    simp
theorem valD_snoc (l : List Nat) (d : Nat) : valD (l ++ [d]) = valD l + 65536 ^ l.length * d := by
  rw [valD_app]
  simp [valD]
theorem okD_snoc {l : List Nat} (h : okD l) {d : Nat} (hd : d < 65536) : okD (l ++ [d]) := by
  intro x hx
  rcases List.mem_append.1 hx with hx | hx
  · exact h x hx
  · rw [List.mem_singleton.1 hx]; exact hd
theorem getD_lt {l : List Nat} (h : okD l) (k : Nat) : l.getD k 0 < 65536 := by
  rw [List.getD_eq_getElem?_getD]
  cases hk : l[k]? with
  | none => simp
  | some x => exact h x (List.mem_of_getElem? hk)
/-- One digit of a sum. -/
theorem plus_step {a b out : List Nat} {k cy d : Nat} (hl : out.length = k) (h : valD out + 65536 ^ k * cy = valD (a.take k) + valD (b.take k)) (hd : d = cy + a.getD k 0 + b.getD k 0) :
    valD (out ++ [d % 65536]) + 65536 ^ (k + 1) * (d / 65536) = valD (a.take (k + 1)) + valD (b.take (k + 1)) := by
  rw [valD_snoc, valD_take, valD_take, hl]
  have e : 65536 ^ k * (d % 65536) + 65536 ^ (k + 1) * (d / 65536) = 65536 ^ k * d := by
    rw [Nat.pow_succ, Nat.mul_assoc, ← Nat.mul_add, Nat.mod_add_div]
  have e2 : 65536 ^ k * d = 65536 ^ k * cy + 65536 ^ k * a.getD k 0 + 65536 ^ k * b.getD k 0 := by rw [hd, Nat.mul_add, Nat.mul_add]
  omega
set_option maxRecDepth 100000 in
set_option maxHeartbeats 16000000 in
theorem plusW_any (A B : Option Addr) (c d : Nat) (a b : List Nat) (w : World) (ha : Sl encI 1 w w.heap.size A a) (hb : Sl encI 1 w w.heap.size B b) (oa : okD a) (ob : okD b) (la : a.length ≤ 500000) (lb : b.length ≤ 500000) :
    Calls Tryz.prog 93 #[.slice A a.length c, .slice B b.length d] w fun e w' => ∃ A' c' out, e = .returned (.slice A' out.length c') ∧ out.length ≤ c' ∧ out.length ≤ 500001 ∧ okD out ∧ valD out = valD a + valD b ∧ Sl encI 1 w' w'.heap.size A' out ∧ Below w.heap.size w w' := by
  obtain ⟨m, hm⟩ : ∃ m, m = a.length := ⟨_, rfl⟩
  obtain ⟨n, hn⟩ : ∃ n, n = b.length := ⟨_, rfl⟩
  have HS := hide (And.intro ha (And.intro hb (And.intro oa (And.intro ob (And.intro hm hn)))))
  rw [← hm] at la ⊢
  rw [← hn] at lb ⊢
  clear ha hb oa ob hm hn
  go_enter Tryz.func93, Tryz.ntmps93
  go_wp2
  go_loopw [5, 6, 7] (fun ov cv iv wr => ∃ (k cy : Nat) (out : List Nat), iv = .int .i64 k ∧ cv = .int .i64 cy ∧ cy ≤ 1 ∧ (k ≤ max m n ∨ (k = max m n + 1 ∧ cy = 0)) ∧ Own encI 1 3 wr w.heap.size ov k out ∧ okD out ∧ valD out + 65536 ^ k * cy = valD (a.take k) + valD (b.take k) ∧ Below w.heap.size w wr) (fun _ _ iv _ => max m n + 2 - (intOf iv).toNat)
  case atStart => exact ⟨0, 0, [], rfl, rfl, by omega, .inl (by omega), Own.nil, (fun x hx => by cases hx), by simp [valD], Below.refl _ w⟩
  case round =>
    obtain ⟨k, cy, out, rfl, rfl, hcy, hk, hown, hok, hval, hB⟩ := hrel
    obtain ⟨V, rfl⟩ : ∃ V, V = wr := ⟨_, rfl⟩
    obtain ⟨A1, c1, rfl⟩ := hown.form
    have hzr := hB.size
    have hga := getD_lt HS.out.2.2.1 k
    have hgb := getD_lt HS.out.2.2.2.1 k
    have hstep := fun d => plus_step (a := a) (b := b) (d := d) hown.1.symm hval
    obtain ⟨x, hx⟩ : ∃ x, x = a.getD k 0 := ⟨_, rfl⟩
    obtain ⟨y, hy⟩ : ∃ y, y = b.getD k 0 := ⟨_, rfl⟩
    rw [← hx] at hga
    rw [← hy] at hgb
    have hcl : ∀ (A : Option Addr) (l : List Nat), Sl encI 1 w w.heap.size A l → k < l.length → ∃ b o, A = some ⟨b, o, none⟩ ∧ V.cell? ⟨b, o + k, none⟩ = some (.int .i64 (l.getD k 0 : Nat)) := fun A l hl hk => by
      have hd : l[k]? = some (l.getD k 0) := by rw [List.getD_eq_getElem?_getD, List.getElem?_eq_getElem hk]; rfl
      obtain ⟨b, o, hA, _, hc⟩ := (hl.below hB).at hd
      refine ⟨b, o, hA, ?_⟩
      have := hc 0 _ rfl
      rw [Nat.mul_one, Nat.add_zero] at this
      exact this
    have HR := hide (And.intro hown (And.intro hok (And.intro hval (And.intro hB (And.intro hk hstep)))))
    have HG := hide (And.intro hx (And.intro hy hcl))
    clear hown hok hval hB hk hstep hx hy hcl
    by_cases hend : ¬ k < m ∧ ¬ k < n ∧ cy = 0
    · obtain ⟨e1, e2, rfl⟩ := hend
      have i1 : ¬ (k : Int) < (m : Int) := by omega
      have i2 : ¬ (k : Int) < (n : Int) := by omega
      have hv := HR.out.2.2.1
      rw [List.take_of_length_le (by rw [← HS.out.2.2.2.2.1]; omega), List.take_of_length_le (by rw [← HS.out.2.2.2.2.2]; omega), Nat.mul_zero, Nat.add_zero] at hv
      have HV := hide hv
      have hko : k = out.length := HR.out.1.1
      have HK := hide hko
      clear hv hko e1 e2
      go_wp2
      go_ret
      refine ⟨A1, c1, out, by rw [← HK.out]; rfl, by rw [← HK.out]; exact HR.out.1.place.1, ?_, HR.out.2.1, HV.out, HR.out.1.sl encI_len (Nat.le_refl _), HR.out.2.2.2.1⟩
      rw [← HK.out]
      have := HR.out.2.2.2.2.1
      omega
    · have hkb : k ≤ max m n := by have := HR.out.2.2.2.2.1; omega
      by_cases hkm : k < m <;> by_cases hkn : k < n
      · have i1 : (k : Int) < (m : Int) := by omega
        have i2 : (k : Int) < (n : Int) := by omega
        obtain ⟨ba, oa, hA, ga⟩ := HG.out.2.2 A a HS.out.1 (by rw [← HS.out.2.2.2.2.1]; exact hkm)
        subst hA
        rw [← HG.out.1] at ga
        obtain ⟨bb, ob, hB, gb⟩ := HG.out.2.2 B b HS.out.2.1 (by rw [← HS.out.2.2.2.2.2]; exact hkn)
        subst hB
        rw [← HG.out.2.1] at gb
        obtain ⟨s, hs⟩ : ∃ s, s = cy + x + y := ⟨_, rfl⟩
        have hst := HR.out.2.2.2.2.2 s (by have g1 := HG.out.1; have g2 := HG.out.2.1; omega)
        obtain ⟨r, hr⟩ : ∃ r, r = s % 65536 := ⟨_, rfl⟩
        obtain ⟨q, hq⟩ : ∃ q, q = s / 65536 := ⟨_, rfl⟩
        rw [← hr, ← hq] at hst
        have t1 : ((cy : Int) + (x : Int) + (y : Int)) % 65536 = (r : Int) := by omega
        have t2 : ((cy : Int) + (x : Int) + (y : Int)) / 65536 = (q : Int) := by omega
        have hr6 : r < 65536 := by omega
        have hq1 : q ≤ 1 := by omega
        have hq0 : k = max m n → q = 0 := by omega
        have HT := hide (And.intro hst (And.intro hr6 (And.intro hq1 hq0)))
        have HO := hide (HR.out.1.alloc (.cells (encI r).toArray 3))
        clear hst hr hq hs hr6 hq1 hq0 hkm hkn hend
        go_wp2_with (at_builtin; refine wpList_append1 rfl _ _ _ rfl Tryz.underlying23 infoI1 rfl (by omega) encI_len encI_one rfl HO.out V.heap.size 1 r rfl (Blk.new _ _ _) (by unfold maxLen; omega) (by omega) (by simp; omega) ?_; intro g cap w7 hown7 hg7 hB7 hat7 hgb7 hlt7)
        go_roundw
        case rel =>
          refine ⟨k + 1, q, out ++ [r], by go_num, (by first | rfl | rw [t2]), HT.out.2.2.1, ?_, hown7, okD_snoc HR.out.2.1 HT.out.2.1, HT.out.1, (HR.out.2.2.2.1.alloc hzr _).trans hB7⟩
          have := HT.out.2.2.2
          omega
        case measure => (simp [intOf]; try omega)
      · have i1 : (k : Int) < (m : Int) := by omega
        have i2 : ¬ (k : Int) < (n : Int) := by omega
        obtain ⟨ba, oa, hA, ga⟩ := HG.out.2.2 A a HS.out.1 (by rw [← HS.out.2.2.2.2.1]; exact hkm)
        subst hA
        rw [← HG.out.1] at ga
        have hy0 : y = 0 := by rw [HG.out.2.1, List.getD_eq_getElem?_getD, List.getElem?_eq_none (by rw [← HS.out.2.2.2.2.2]; omega)]; rfl
        obtain ⟨s, hs⟩ : ∃ s, s = cy + x := ⟨_, rfl⟩
        have hst := HR.out.2.2.2.2.2 s (by have g1 := HG.out.1; have g2 := HG.out.2.1; omega)
        obtain ⟨r, hr⟩ : ∃ r, r = s % 65536 := ⟨_, rfl⟩
        obtain ⟨q, hq⟩ : ∃ q, q = s / 65536 := ⟨_, rfl⟩
        rw [← hr, ← hq] at hst
        have t1 : ((cy : Int) + (x : Int)) % 65536 = (r : Int) := by omega
        have t2 : ((cy : Int) + (x : Int)) / 65536 = (q : Int) := by omega
        have hr6 : r < 65536 := by omega
        have hq1 : q ≤ 1 := by omega
        have hq0 : k = max m n → q = 0 := by omega
        have HT := hide (And.intro hst (And.intro hr6 (And.intro hq1 hq0)))
        have HO := hide (HR.out.1.alloc (.cells (encI r).toArray 3))
        clear hst hr hq hs hr6 hq1 hq0 hkm hkn hend hy0
        go_wp2_with (at_builtin; refine wpList_append1 rfl _ _ _ rfl Tryz.underlying23 infoI1 rfl (by omega) encI_len encI_one rfl HO.out V.heap.size 1 r rfl (Blk.new _ _ _) (by unfold maxLen; omega) (by omega) (by simp; omega) ?_; intro g cap w7 hown7 hg7 hB7 hat7 hgb7 hlt7)
        go_roundw
        case rel =>
          refine ⟨k + 1, q, out ++ [r], by go_num, (by first | rfl | rw [t2]), HT.out.2.2.1, ?_, hown7, okD_snoc HR.out.2.1 HT.out.2.1, HT.out.1, (HR.out.2.2.2.1.alloc hzr _).trans hB7⟩
          have := HT.out.2.2.2
          omega
        case measure => (simp [intOf]; try omega)
      · have i1 : ¬ (k : Int) < (m : Int) := by omega
        have i2 : (k : Int) < (n : Int) := by omega
        have hx0 : x = 0 := by rw [HG.out.1, List.getD_eq_getElem?_getD, List.getElem?_eq_none (by rw [← HS.out.2.2.2.2.1]; omega)]; rfl
        obtain ⟨bb, ob, hB, gb⟩ := HG.out.2.2 B b HS.out.2.1 (by rw [← HS.out.2.2.2.2.2]; exact hkn)
        subst hB
        rw [← HG.out.2.1] at gb
        obtain ⟨s, hs⟩ : ∃ s, s = cy + y := ⟨_, rfl⟩
        have hst := HR.out.2.2.2.2.2 s (by have g1 := HG.out.1; have g2 := HG.out.2.1; omega)
        obtain ⟨r, hr⟩ : ∃ r, r = s % 65536 := ⟨_, rfl⟩
        obtain ⟨q, hq⟩ : ∃ q, q = s / 65536 := ⟨_, rfl⟩
        rw [← hr, ← hq] at hst
        have t1 : ((cy : Int) + (y : Int)) % 65536 = (r : Int) := by omega
        have t2 : ((cy : Int) + (y : Int)) / 65536 = (q : Int) := by omega
        have hr6 : r < 65536 := by omega
        have hq1 : q ≤ 1 := by omega
        have hq0 : k = max m n → q = 0 := by omega
        have HT := hide (And.intro hst (And.intro hr6 (And.intro hq1 hq0)))
        have HO := hide (HR.out.1.alloc (.cells (encI r).toArray 3))
        clear hst hr hq hs hr6 hq1 hq0 hkm hkn hend hx0
        go_wp2_with (at_builtin; refine wpList_append1 rfl _ _ _ rfl Tryz.underlying23 infoI1 rfl (by omega) encI_len encI_one rfl HO.out V.heap.size 1 r rfl (Blk.new _ _ _) (by unfold maxLen; omega) (by omega) (by simp; omega) ?_; intro g cap w7 hown7 hg7 hB7 hat7 hgb7 hlt7)
        go_roundw
        case rel =>
          refine ⟨k + 1, q, out ++ [r], by go_num, (by first | rfl | rw [t2]), HT.out.2.2.1, ?_, hown7, okD_snoc HR.out.2.1 HT.out.2.1, HT.out.1, (HR.out.2.2.2.1.alloc hzr _).trans hB7⟩
          have := HT.out.2.2.2
          omega
        case measure => (simp [intOf]; try omega)
      · have i1 : ¬ (k : Int) < (m : Int) := by omega
        have i2 : ¬ (k : Int) < (n : Int) := by omega
        have i3 : (0 : Int) < (cy : Int) := by omega
        have hx0 : x = 0 := by rw [HG.out.1, List.getD_eq_getElem?_getD, List.getElem?_eq_none (by rw [← HS.out.2.2.2.2.1]; omega)]; rfl
        have hy0 : y = 0 := by rw [HG.out.2.1, List.getD_eq_getElem?_getD, List.getElem?_eq_none (by rw [← HS.out.2.2.2.2.2]; omega)]; rfl
        obtain ⟨s, hs⟩ : ∃ s, s = cy := ⟨_, rfl⟩
        have hst := HR.out.2.2.2.2.2 s (by have g1 := HG.out.1; have g2 := HG.out.2.1; omega)
        obtain ⟨r, hr⟩ : ∃ r, r = s % 65536 := ⟨_, rfl⟩
        obtain ⟨q, hq⟩ : ∃ q, q = s / 65536 := ⟨_, rfl⟩
        rw [← hr, ← hq] at hst
        have t1 : ((cy : Int)) % 65536 = (r : Int) := by omega
        have t2 : ((cy : Int)) / 65536 = (q : Int) := by omega
        have hr6 : r < 65536 := by omega
        have hq1 : q ≤ 1 := by omega
        have hq0 : k = max m n → q = 0 := by omega
        have HT := hide (And.intro hst (And.intro hr6 (And.intro hq1 hq0)))
        have HO := hide (HR.out.1.alloc (.cells (encI r).toArray 3))
        clear hst hr hq hs hr6 hq1 hq0 hkm hkn hend hx0 hy0
        go_wp2_with (at_builtin; refine wpList_append1 rfl _ _ _ rfl Tryz.underlying23 infoI1 rfl (by omega) encI_len encI_one rfl HO.out V.heap.size 1 r rfl (Blk.new _ _ _) (by unfold maxLen; omega) (by omega) (by simp; omega) ?_; intro g cap w7 hown7 hg7 hB7 hat7 hgb7 hlt7)
        go_roundw
        case rel =>
          refine ⟨k + 1, q, out ++ [r], by go_num, (by first | rfl | rw [t2]), HT.out.2.2.1, ?_, hown7, okD_snoc HR.out.2.1 HT.out.2.1, HT.out.1, (HR.out.2.2.2.1.alloc hzr _).trans hB7⟩
          have := HT.out.2.2.2
          omega
        case measure => (simp [intOf]; try omega)
end Go.Proofs.YtelfnmohpjkilaaGreatDoor
/- ref01.compare, ref01.minus (printed by mk_Wd5.py). -/
namespace Go.Proofs.YtelfnmohpjkilaaGreatDoor
open Go.RowKit Go.Sort
theorem val_ge {l : List Nat} (h : trimD l = l) (hne : l ≠ []) : 65536 ^ (l.length - 1) ≤ valD l := by
  obtain ⟨m, d, rfl, hd⟩ := trim_self h hne
  rw [valD_snoc, List.length_append, List.length_singleton, Nat.add_sub_cancel]
  have : 65536 ^ m.length * 1 ≤ 65536 ^ m.length * d := Nat.mul_le_mul_left _ (by omega)
  omega
theorem val_len {a b : List Nat} (oa : okD a) (tb : trimD b = b) (h : a.length < b.length) : valD a < valD b := by
  have h1 := valD_lt oa
  have hne : b ≠ [] := fun e => by rw [e] at h; simp at h
  have h2 := val_ge tb hne
  have h3 : 65536 ^ a.length ≤ 65536 ^ (b.length - 1) := Nat.pow_le_pow_right (by omega) (by omega)
  omega
theorem valD_at {l : List Nat} {i : Nat} (hi : i < l.length) : valD l = valD (l.take i) + 65536 ^ i * (l.getD i 0 + 65536 * valD (l.drop (i + 1))) := by
  have e : l = l.take i ++ (l.getD i 0 :: l.drop (i + 1)) := by
    have hd : l.getD i 0 = l[i] := by rw [List.getD_eq_getElem?_getD, List.getElem?_eq_getElem hi]; rfl
    rw [hd, ← List.drop_eq_getElem_cons hi, List.take_append_drop]
  conv => lhs; rw [e]
  rw [valD_app, List.length_take, Nat.min_eq_left (by omega), valD]
/-- The first digit that differs, from the end, decides. -/
theorem val_less {a b : List Nat} (oa : okD a) (hl : a.length = b.length) {i : Nat} (hi : i < a.length) (hd : a.drop (i + 1) = b.drop (i + 1)) (h : a.getD i 0 < b.getD i 0) : valD a < valD b := by
  rw [valD_at hi, valD_at (l := b) (i := i) (by omega), hd]
  have h1 : valD (a.take i) < 65536 ^ i := by
    have := valD_lt (l := a.take i) (fun x hx => oa x (List.mem_of_mem_take hx))
    rw [List.length_take, Nat.min_eq_left (by omega)] at this
    exact this
  have h2 : 65536 ^ i * (a.getD i 0 + 65536 * valD (b.drop (i + 1)) + 1) ≤ 65536 ^ i * (b.getD i 0 + 65536 * valD (b.drop (i + 1))) := Nat.mul_le_mul_left _ (by omega)
  rw [Nat.mul_succ] at h2
  omega
theorem drop_step {a b : List Nat} (hl : a.length = b.length) {i : Nat} (hi : i < a.length) (hd : a.drop (i + 1) = b.drop (i + 1)) (h : a.getD i 0 = b.getD i 0) : a.drop i = b.drop i := by
  rw [List.drop_eq_getElem_cons hi, List.drop_eq_getElem_cons (show i < b.length by omega), hd]
  rw [List.getD_eq_getElem?_getD, List.getD_eq_getElem?_getD, List.getElem?_eq_getElem hi, List.getElem?_eq_getElem (show i < b.length by omega)] at h
  simp only [Option.getD_some] at h
  rw [h]
set_option maxRecDepth 100000 in
set_option maxHeartbeats 16000000 in
theorem compareW_any (A B : Option Addr) (c d : Nat) (a b : List Nat) (w : World) (ha : Sl encI 1 w w.heap.size A a) (hb : Sl encI 1 w w.heap.size B b) (oa : okD a) (ob : okD b) (ta : trimD a = a) (tb : trimD b = b) (la : a.length ≤ 500000) (lb : b.length ≤ 500000) :
    Calls Tryz.prog 94 #[.slice A a.length c, .slice B b.length d] w fun e w' => ∃ r : Int, e = .returned (.int .i64 r) ∧ (0 ≤ r ↔ valD b ≤ valD a) ∧ Below w.heap.size w w' := by
  have hlt1 := val_len oa tb
  have hlt2 := val_len ob ta
  obtain ⟨m, hm⟩ : ∃ m, m = a.length := ⟨_, rfl⟩
  obtain ⟨n, hn⟩ : ∃ n, n = b.length := ⟨_, rfl⟩
  rw [← hm] at la hlt1 hlt2 ⊢
  rw [← hn] at lb hlt1 hlt2 ⊢
  have HS := hide (And.intro ha (And.intro hb (And.intro oa (And.intro ob (And.intro hm hn)))))
  have HL := hide (And.intro hlt1 hlt2)
  clear ha hb oa ob hm hn ta tb hlt1 hlt2
  go_enter Tryz.func94, Tryz.ntmps94
  rcases Nat.lt_trichotomy m n with h | h | h
  · have i1 : (m : Int) < (n : Int) := by omega
    have i2 : ((m : Int) == (n : Int)) = false := beq_eq_false_iff_ne.2 (by omega)
    have HE := hide (HL.out.1 h)
    clear h
    go_wp2
    go_ret
    exact ⟨-1, rfl, ⟨fun h => absurd h (by decide), fun h => absurd HE.out (by omega)⟩, Below.refl _ w⟩
  · subst h
    go_wp2
    go_loopw [5] (fun iv wr => ∃ (q t : Nat), q ≤ m ∧ iv = .int .i64 ((q : Int) - 1) ∧ a.drop q = b.drop q ∧ wr = w.drewN t) (fun iv _ => (intOf iv + 1).toNat)
    case atStart => exact ⟨m, 0, Nat.le_refl _, rfl, by rw [List.drop_of_length_le (by rw [← HS.out.2.2.2.2.1]; exact Nat.le_refl _), List.drop_of_length_le (by rw [← HS.out.2.2.2.2.2]; exact Nat.le_refl _)], rfl⟩
    case round =>
      obtain ⟨q, t, hq, rfl, hdr, rfl⟩ := hrel
      by_cases hq0 : q = 0
      · subst hq0
        rw [List.drop_zero, List.drop_zero] at hdr
        have HE := hide hdr
        clear hdr
        go_wp2
        go_ret
        exact ⟨0, rfl, ⟨fun _ => by rw [HE.out]; exact Nat.le_refl _, fun _ => by decide⟩, below_drewN (Below.refl _ w) t⟩
      · obtain ⟨r, rfl⟩ : ∃ r, q = r + 1 := ⟨q - 1, by omega⟩
        have eiv : ((r + 1 : Nat) : Int) - 1 = (r : Int) := by omega
        rw [eiv]
        have hgl : ∀ (A : Option Addr) (l : List Nat), Sl encI 1 w w.heap.size A l → r < l.length → ∃ b o, A = some ⟨b, o, none⟩ ∧ w.cell? ⟨b, o + r, none⟩ = some (.int .i64 (l.getD r 0 : Nat)) := fun A l hl hk => by
          have hd : l[r]? = some (l.getD r 0) := by rw [List.getD_eq_getElem?_getD, List.getElem?_eq_getElem hk]; rfl
          obtain ⟨b, o, hA, _, hc⟩ := hl.at hd
          refine ⟨b, o, hA, ?_⟩
          have := hc 0 _ rfl
          rw [Nat.mul_one, Nat.add_zero] at this
          exact this
        obtain ⟨b1, o1, hA, g1⟩ := hgl A a HS.out.1 (by rw [← HS.out.2.2.2.2.1]; omega)
        obtain ⟨b2, o2, hB, g2⟩ := hgl B b HS.out.2.1 (by rw [← HS.out.2.2.2.2.2]; omega)
        subst hA
        subst hB
        have hla : a.length = b.length := by rw [← HS.out.2.2.2.2.1, ← HS.out.2.2.2.2.2]
        have hra : r < a.length := by rw [← HS.out.2.2.2.2.1]; omega
        have k1 := fun h => val_less HS.out.2.2.1 hla hra hdr h
        have k2 := fun h => val_less HS.out.2.2.2.1 hla.symm (by omega) hdr.symm h
        have k3 := fun h => drop_step hla hra hdr h
        obtain ⟨x, hx⟩ : ∃ x, x = a.getD r 0 := ⟨_, rfl⟩
        obtain ⟨y, hy⟩ : ∃ y, y = b.getD r 0 := ⟨_, rfl⟩
        rw [← hx] at g1 k1 k2 k3
        rw [← hy] at g2 k1 k2 k3
        have i1 : (r : Int) < (m : Int) := by omega
        have HK := hide (And.intro k1 (And.intro k2 k3))
        clear k1 k2 k3 hdr hla hra hgl hx hy
        rcases Nat.lt_trichotomy x y with h | h | h
        · have j1 : (x : Int) < (y : Int) := by omega
          have j2 : ((x : Int) == (y : Int)) = false := beq_eq_false_iff_ne.2 (by omega)
          have HE := hide (HK.out.1 h)
          clear h
          go_wp2_with fail
          go_quiet (fail)
          go_wp2_with fail
          go_quiet (fail)
          go_wp2
          go_ret
          exact ⟨-1, rfl, ⟨fun h => absurd h (by decide), fun h => absurd HE.out (by omega)⟩, below_drewN (below_drewN (below_drewN (Below.refl _ w) t) _) _⟩
        · subst h
          have HE := hide (HK.out.2.2 rfl)
          go_wp2_with fail
          go_quiet (fail)
          go_wp2
          go_roundw
          case rel => exact ⟨r, t + nq, by omega, by rfl, HE.out, rfl⟩
          case measure => (simp [intOf]; try omega)
        · have j1 : ¬ (x : Int) < (y : Int) := by omega
          have j2 : ((x : Int) == (y : Int)) = false := beq_eq_false_iff_ne.2 (by omega)
          have HE := hide (HK.out.2.1 h)
          clear h
          go_wp2_with fail
          go_quiet (fail)
          go_wp2_with fail
          go_quiet (fail)
          go_wp2
          go_ret
          exact ⟨1, rfl, ⟨fun _ => Nat.le_of_lt HE.out, fun _ => by decide⟩, below_drewN (below_drewN (below_drewN (Below.refl _ w) t) _) _⟩
  · have i1 : ¬ (m : Int) < (n : Int) := by omega
    have i2 : ((m : Int) == (n : Int)) = false := beq_eq_false_iff_ne.2 (by omega)
    have HE := hide (HL.out.2 h)
    clear h
    go_wp2
    go_ret
    exact ⟨1, rfl, ⟨fun _ => Nat.le_of_lt HE.out, fun _ => by decide⟩, Below.refl _ w⟩
end Go.Proofs.YtelfnmohpjkilaaGreatDoor
/- ref01.minus (printed by mk_Wd6.py). -/
namespace Go.Proofs.YtelfnmohpjkilaaGreatDoor
open Go.RowKit Go.Sort
/-- One digit of a difference. -/
theorem minus_step {a b out : List Nat} {k cy d q : Nat} (hl : out.length = k) (h : valD out + valD (b.take k) = valD (a.take k) + 65536 ^ k * cy) (hd : d + b.getD k 0 + cy = a.getD k 0 + 65536 * q) :
    valD (out ++ [d]) + valD (b.take (k + 1)) = valD (a.take (k + 1)) + 65536 ^ (k + 1) * q := by
  rw [valD_snoc, valD_take, valD_take, hl]
  have e2 : 65536 ^ k * d + 65536 ^ k * b.getD k 0 + 65536 ^ k * cy = 65536 ^ k * a.getD k 0 + 65536 ^ (k + 1) * q := by
    rw [Nat.pow_succ, Nat.mul_assoc, ← Nat.mul_add, ← Nat.mul_add, ← Nat.mul_add, hd]
  omega
theorem minus_end {a b out : List Nat} {m cy : Nat} (ho : okD out) (hl : out.length = m) (hba : valD b ≤ valD a) (h : valD out + valD b = valD a + 65536 ^ m * cy) (hcy : cy ≤ 1) : valD out + valD b = valD a := by
  have h1 := valD_lt ho
  rw [hl] at h1
  rcases (show cy = 0 ∨ cy = 1 by omega) with rfl | rfl <;> omega
set_option maxRecDepth 100000 in
set_option maxHeartbeats 16000000 in
theorem minusW_any (A B : Option Addr) (c d : Nat) (a b : List Nat) (w : World) (ha : Sl encI 1 w w.heap.size A a) (hb : Sl encI 1 w w.heap.size B b) (oa : okD a) (ob : okD b) (la : a.length ≤ 500000) (lb : b.length ≤ a.length) (hba : valD b ≤ valD a) :
    Calls Tryz.prog 95 #[.slice A a.length c, .slice B b.length d] w fun e w' => ∃ A' c' out, e = .returned (.slice A' out.length c') ∧ out.length ≤ c' ∧ out.length ≤ 500001 ∧ okD out ∧ valD out + valD b = valD a ∧ Sl encI 1 w' w'.heap.size A' out ∧ Below w.heap.size w w' := by
  obtain ⟨m, hm⟩ : ∃ m, m = a.length := ⟨_, rfl⟩
  obtain ⟨n, hn⟩ : ∃ n, n = b.length := ⟨_, rfl⟩
  have HS := hide (And.intro ha (And.intro hb (And.intro oa (And.intro ob (And.intro hm (And.intro hn hba))))))
  rw [← hm] at la ⊢
  rw [← hm, ← hn] at lb
  rw [← hn]
  clear ha hb oa ob hm hn hba
  go_enter Tryz.func95, Tryz.ntmps95
  go_wp2
  go_loopw [5, 6, 7] (fun ov cv iv wr => ∃ (k cy : Nat) (out : List Nat), iv = .int .i64 k ∧ cv = .int .i64 cy ∧ cy ≤ 1 ∧ k ≤ m ∧ Own encI 1 3 wr w.heap.size ov k out ∧ okD out ∧ valD out + valD (b.take k) = valD (a.take k) + 65536 ^ k * cy ∧ Below w.heap.size w wr) (fun _ _ iv _ => m + 2 - (intOf iv).toNat)
  case atStart => exact ⟨0, 0, [], rfl, rfl, by omega, by omega, Own.nil, (fun x hx => by cases hx), by simp [valD], Below.refl _ w⟩
  case round =>
    obtain ⟨k, cy, out, rfl, rfl, hcy, hk, hown, hok, hval, hB⟩ := hrel
    obtain ⟨V, rfl⟩ : ∃ V, V = wr := ⟨_, rfl⟩
    obtain ⟨A1, c1, rfl⟩ := hown.form
    have hzr := hB.size
    have hga := getD_lt HS.out.2.2.1 k
    have hgb := getD_lt HS.out.2.2.2.1 k
    have hstep := fun d q => minus_step (a := a) (b := b) (d := d) (q := q) hown.1.symm hval
    obtain ⟨x, hx⟩ : ∃ x, x = a.getD k 0 := ⟨_, rfl⟩
    obtain ⟨y, hy⟩ : ∃ y, y = b.getD k 0 := ⟨_, rfl⟩
    rw [← hx] at hga
    rw [← hy] at hgb
    have hcl : ∀ (A : Option Addr) (l : List Nat), Sl encI 1 w w.heap.size A l → k < l.length → ∃ b o, A = some ⟨b, o, none⟩ ∧ V.cell? ⟨b, o + k, none⟩ = some (.int .i64 (l.getD k 0 : Nat)) := fun A l hl hk => by
      have hd : l[k]? = some (l.getD k 0) := by rw [List.getD_eq_getElem?_getD, List.getElem?_eq_getElem hk]; rfl
      obtain ⟨b, o, hA, _, hc⟩ := (hl.below hB).at hd
      refine ⟨b, o, hA, ?_⟩
      have := hc 0 _ rfl
      rw [Nat.mul_one, Nat.add_zero] at this
      exact this
    have HR := hide (And.intro hown (And.intro hok (And.intro hval (And.intro hB (And.intro hk hstep)))))
    have HG := hide (And.intro hx (And.intro hy hcl))
    clear hown hok hval hB hk hstep hx hy hcl
    by_cases hend : ¬ k < m
    · have i1 : ¬ (k : Int) < (m : Int) := by omega
      have hkm : k = m := by have := HR.out.2.2.2.2.1; omega
      have hv := HR.out.2.2.1
      rw [List.take_of_length_le (by rw [← HS.out.2.2.2.2.2.1]; omega), List.take_of_length_le (by rw [← HS.out.2.2.2.2.1]; omega)] at hv
      have hv2 := minus_end HR.out.2.1 HR.out.1.1.symm HS.out.2.2.2.2.2.2 hv hcy
      have hko : k = out.length := HR.out.1.1
      have hpl := HR.out.1.place.1
      have hsl := HR.out.1.sl encI_len (Nat.le_refl _)
      have hBz := HR.out.2.2.2.1
      have htr := trimW_any A1 c1 out V hsl (by rw [← hko]; exact hpl) (by rw [← hko]; omega)
      rw [← hko] at htr
      have hle := trim_len out
      have hpre := trim_pre out
      have hokt := trim_ok HR.out.2.1
      rw [← valD_trim out] at hv2
      have hst : Sl encI 1 V V.heap.size A1 (trimD out) := by rw [hpre]; exact hsl.take _
      have HT := hide (And.intro htr (And.intro hv2 (And.intro hpl (And.intro hst (And.intro hle (And.intro hokt (And.intro hko (And.intro hkm hBz))))))))
      clear hv hv2 hko hpl hsl htr hle hpre hokt hst hkm hend hBz
      go_wp2_with fail
      with_reducible refine HT.out.1.mono ?_
      rintro e w9 ⟨rfl, rfl⟩
      go_wp2
      go_ret
      obtain ⟨_, hv2, hpl, hst, hle, hokt, hko, hkm, hBz⟩ := HT.out
      exact ⟨A1, c1, trimD out, rfl, by omega, by omega, hokt, hv2, hst, hBz⟩
    · have i1 : (k : Int) < (m : Int) := by omega
      obtain ⟨ba, oa, hA, ga⟩ := HG.out.2.2 A a HS.out.1 (by rw [← HS.out.2.2.2.2.1]; omega)
      subst hA
      rw [← HG.out.1] at ga
      by_cases hkn : k < n
      · have i2 : (k : Int) < (n : Int) := by omega
        obtain ⟨bb, ob, hB, gb⟩ := HG.out.2.2 B b HS.out.2.1 (by rw [← HS.out.2.2.2.2.2.1]; exact hkn)
        subst hB
        rw [← HG.out.2.1] at gb
        by_cases hu : cy + y ≤ x
        · obtain ⟨r, hr⟩ : ∃ r, r = x + 0 - (cy + y) := ⟨_, rfl⟩
          have hst := HR.out.2.2.2.2.2 r 0 (by have g1 := HG.out.1; have g2 := HG.out.2.1; omega)
          have i3 : ¬ (x : Int) - (cy : Int) - (y : Int) < 0 := by omega
          have t1 : (x : Int) - (cy : Int) - (y : Int) = (r : Int) := by omega
          have hr6 : r < 65536 := by omega
          have HT := hide (And.intro hst (And.intro hr6 (show k < m by omega)))
          have HO := hide (HR.out.1.alloc (.cells (encI r).toArray 3))
          clear hst hr hr6 hkn hend hu
          go_wp2_with (at_builtin; refine wpList_append1 rfl _ _ _ rfl Tryz.underlying23 infoI1 rfl (by omega) encI_len encI_one rfl HO.out V.heap.size 1 r rfl (Blk.new _ _ _) (by unfold maxLen; omega) (by omega) (by simp; omega) ?_; intro g cap w7 hown7 hg7 hB7 hat7 hgb7 hlt7)
          go_roundw
          case rel =>
            exact ⟨k + 1, 0, out ++ [r], by go_num, rfl, by omega, by have := HT.out.2.2; omega, hown7, okD_snoc HR.out.2.1 HT.out.2.1, HT.out.1, (HR.out.2.2.2.1.alloc hzr _).trans hB7⟩
          case measure => (simp [intOf]; try omega)
        · obtain ⟨r, hr⟩ : ∃ r, r = x + 65536 - (cy + y) := ⟨_, rfl⟩
          have hst := HR.out.2.2.2.2.2 r 1 (by have g1 := HG.out.1; have g2 := HG.out.2.1; omega)
          have i3 : (x : Int) - (cy : Int) - (y : Int) < 0 := by omega
          have t1 : (x : Int) - (cy : Int) - (y : Int) + 65536 = (r : Int) := by omega
          have hr6 : r < 65536 := by omega
          have HT := hide (And.intro hst (And.intro hr6 (show k < m by omega)))
          have HO := hide (HR.out.1.alloc (.cells (encI r).toArray 3))
          clear hst hr hr6 hkn hend hu
          go_wp2_with (at_builtin; refine wpList_append1 rfl _ _ _ rfl Tryz.underlying23 infoI1 rfl (by omega) encI_len encI_one rfl HO.out V.heap.size 1 r rfl (Blk.new _ _ _) (by unfold maxLen; omega) (by omega) (by simp; omega) ?_; intro g cap w7 hown7 hg7 hB7 hat7 hgb7 hlt7)
          go_roundw
          case rel =>
            exact ⟨k + 1, 1, out ++ [r], by go_num, rfl, by omega, by have := HT.out.2.2; omega, hown7, okD_snoc HR.out.2.1 HT.out.2.1, HT.out.1, (HR.out.2.2.2.1.alloc hzr _).trans hB7⟩
          case measure => (simp [intOf]; try omega)
      · have i2 : ¬ (k : Int) < (n : Int) := by omega
        have hy0 : y = 0 := by rw [HG.out.2.1, List.getD_eq_getElem?_getD, List.getElem?_eq_none (by rw [← HS.out.2.2.2.2.2.1]; omega)]; rfl
        by_cases hu : cy ≤ x
        · obtain ⟨r, hr⟩ : ∃ r, r = x + 0 - (cy) := ⟨_, rfl⟩
          have hst := HR.out.2.2.2.2.2 r 0 (by have g1 := HG.out.1; have g2 := HG.out.2.1; omega)
          have i3 : ¬ (x : Int) - (cy : Int) < 0 := by omega
          have t1 : (x : Int) - (cy : Int) = (r : Int) := by omega
          have hr6 : r < 65536 := by omega
          have HT := hide (And.intro hst (And.intro hr6 (show k < m by omega)))
          have HO := hide (HR.out.1.alloc (.cells (encI r).toArray 3))
          clear hst hr hr6 hkn hend hu hy0
          go_wp2_with (at_builtin; refine wpList_append1 rfl _ _ _ rfl Tryz.underlying23 infoI1 rfl (by omega) encI_len encI_one rfl HO.out V.heap.size 1 r rfl (Blk.new _ _ _) (by unfold maxLen; omega) (by omega) (by simp; omega) ?_; intro g cap w7 hown7 hg7 hB7 hat7 hgb7 hlt7)
          go_roundw
          case rel =>
            exact ⟨k + 1, 0, out ++ [r], by go_num, rfl, by omega, by have := HT.out.2.2; omega, hown7, okD_snoc HR.out.2.1 HT.out.2.1, HT.out.1, (HR.out.2.2.2.1.alloc hzr _).trans hB7⟩
          case measure => (simp [intOf]; try omega)
        · obtain ⟨r, hr⟩ : ∃ r, r = x + 65536 - (cy) := ⟨_, rfl⟩
          have hst := HR.out.2.2.2.2.2 r 1 (by have g1 := HG.out.1; have g2 := HG.out.2.1; omega)
          have i3 : (x : Int) - (cy : Int) < 0 := by omega
          have t1 : (x : Int) - (cy : Int) + 65536 = (r : Int) := by omega
          have hr6 : r < 65536 := by omega
          have HT := hide (And.intro hst (And.intro hr6 (show k < m by omega)))
          have HO := hide (HR.out.1.alloc (.cells (encI r).toArray 3))
          clear hst hr hr6 hkn hend hu hy0
          go_wp2_with (at_builtin; refine wpList_append1 rfl _ _ _ rfl Tryz.underlying23 infoI1 rfl (by omega) encI_len encI_one rfl HO.out V.heap.size 1 r rfl (Blk.new _ _ _) (by unfold maxLen; omega) (by omega) (by simp; omega) ?_; intro g cap w7 hown7 hg7 hB7 hat7 hgb7 hlt7)
          go_roundw
          case rel =>
            exact ⟨k + 1, 1, out ++ [r], by go_num, rfl, by omega, by have := HT.out.2.2; omega, hown7, okD_snoc HR.out.2.1 HT.out.2.1, HT.out.1, (HR.out.2.2.2.1.alloc hzr _).trans hB7⟩
          case measure => (simp [intOf]; try omega)
end Go.Proofs.YtelfnmohpjkilaaGreatDoor
/- ref01.times. -/
namespace Go.Proofs.YtelfnmohpjkilaaGreatDoor
open Go.RowKit Go.Sort
def cellsI (L : List Nat) : Array Value := (L.map fun x : Nat => Value.int .i64 (x : Int)).toArray
theorem cellsI_at {L : List Nat} {j : Nat} (hj : j < L.length) : (cellsI L)[j]? = some (.int .i64 (L.getD j 0 : Nat)) := by
  unfold cellsI
  rw [List.getElem?_toArray, List.getElem?_map, List.getD_eq_getElem?_getD, List.getElem?_eq_getElem hj]
  rfl
theorem cellsI_set (L : List Nat) (j v : Nat) : (cellsI L).setIfInBounds j (.int .i64 (v : Int)) = cellsI (L.set j v) := by
  unfold cellsI
  rw [List.setIfInBounds_toArray, List.map_set]
theorem flat_I (F : List Nat) : (F.flatMap encI).toArray = cellsI F := by
  unfold cellsI
  congr 1
  induction F with
  | nil => rfl
  | cons b F ih => rw [List.flatMap_cons, ih]; rfl
theorem sl_blkI {α : Type} {enc : α → List Value} {k B : Nat} (hk : ∀ x, (enc x).length = k) {w : World} {g : Nat} {t : TypeId} {ys : List α} (h : Blk w g t (ys.flatMap enc).toArray) (hg : g < B) : Sl enc k w B (some ⟨g, 0, none⟩) ys := by
  refine .inr ⟨g, 0, rfl, hg, fun i x hi j u hu => ?_⟩
  rw [show 0 + i * k + j = i * k + j by omega, h.cell]
  have := flat_get hk ys i x hi j u hu
  simpa using this
theorem valD_set : ∀ {L : List Nat} {j v : Nat}, j < L.length → valD (L.set j v) + 65536 ^ j * L.getD j 0 = valD L + 65536 ^ j * v
  | d :: L, 0, v, _ => by simp only [List.set_cons_zero, valD, List.getD_cons_zero, Nat.pow_zero, Nat.one_mul]; omega
  | d :: L, j + 1, v, h => by
    have ih := valD_set (L := L) (j := j) (v := v) (by simpa using h)
    simp only [List.set_cons_succ, valD, List.getD_cons_succ, Nat.pow_succ]
    have e1 : 65536 ^ j * 65536 * L.getD j 0 = 65536 * (65536 ^ j * L.getD j 0) := by rw [Nat.mul_comm (65536 ^ j) 65536, Nat.mul_assoc]
    have e2 : 65536 ^ j * 65536 * v = 65536 * (65536 ^ j * v) := by rw [Nat.mul_comm (65536 ^ j) 65536, Nat.mul_assoc]
    rw [e1, e2]
    omega
theorem okD_set {L : List Nat} (h : okD L) {j v : Nat} (hv : v < 65536) : okD (L.set j v) := by
  intro x hx
  rcases List.mem_or_eq_of_mem_set hx with hx | rfl
  · exact h x hx
  · exact hv
theorem getD_set_ne {L : List Nat} {i j v : Nat} (h : i ≠ j) : (L.set j v).getD i 0 = L.getD i 0 := by
  rw [List.getD_eq_getElem?_getD, List.getD_eq_getElem?_getD, List.getElem?_set_ne (Ne.symm h)]
/-- One digit of a product. -/
theorem times_step {L a b : List Nat} {i k cy T d : Nat} (hj : i + k < L.length) (h : valD L + cy * 65536 ^ (i + k) = T + a.getD i 0 * valD (b.take k) * 65536 ^ i) (hd : d = L.getD (i + k) 0 + a.getD i 0 * b.getD k 0 + cy) :
    valD (L.set (i + k) (d % 65536)) + d / 65536 * 65536 ^ (i + (k + 1)) = T + a.getD i 0 * valD (b.take (k + 1)) * 65536 ^ i := by
  have h1 := valD_set (v := d % 65536) hj
  rw [valD_take]
  have e : 65536 ^ (i + k) * (d % 65536) + d / 65536 * 65536 ^ (i + (k + 1)) = 65536 ^ (i + k) * d := by
    rw [show i + (k + 1) = (i + k) + 1 by omega, Nat.pow_succ, Nat.mul_comm (d / 65536), Nat.mul_assoc, ← Nat.mul_add, Nat.mod_add_div]
  have e2 : 65536 ^ (i + k) * d = 65536 ^ (i + k) * L.getD (i + k) 0 + 65536 ^ (i + k) * (a.getD i 0 * b.getD k 0) + cy * 65536 ^ (i + k) := by rw [hd, Nat.mul_add, Nat.mul_add, Nat.mul_comm cy]
  have e3 : a.getD i 0 * (valD (b.take k) + 65536 ^ k * b.getD k 0) * 65536 ^ i = a.getD i 0 * valD (b.take k) * 65536 ^ i + 65536 ^ (i + k) * (a.getD i 0 * b.getD k 0) := by
    rw [Nat.mul_add, Nat.add_mul, Nat.pow_add]
    congr 1
    simp only [Nat.mul_comm, Nat.mul_assoc, Nat.mul_left_comm]
  rw [e3]
  omega
theorem times_row {L a b : List Nat} {i n cy : Nat} (hj : i + n < L.length) (hn : b.length = n) (h0 : L.getD (i + n) 0 = 0) (h : valD L + cy * 65536 ^ (i + n) = valD (a.take i) * valD b + a.getD i 0 * valD (b.take n) * 65536 ^ i) :
    valD (L.set (i + n) cy) = valD (a.take (i + 1)) * valD b := by
  have h1 := valD_set (v := cy) hj
  rw [h0, Nat.mul_zero, Nat.add_zero] at h1
  rw [h1, valD_take, Nat.add_mul, Nat.mul_comm (65536 ^ (i + n)), h, List.take_of_length_le (l := b) (by omega)]
  congr 1
  simp only [Nat.mul_comm, Nat.mul_assoc, Nat.mul_left_comm]
theorem times_digit {x y z cy : Nat} (hx : x < 65536) (hy : y < 65536) (hz : z < 65536) (hc : cy < 65536) : x * y ≤ 4294836225 ∧ (z + x * y + cy) / 65536 < 65536 := by
  have h1 : x * y ≤ 65535 * 65535 := Nat.mul_le_mul (by omega) (by omega)
  omega
theorem mk_il (n : Nat) (hn : n ≤ 1000000) (W : World) : (Instr.makeSlice 23 (.int .i64 (n : Int)) (.int .i64 (n : Int))).run Tryz.prog W = .ok (.slice (some ⟨W.heap.size, 0, none⟩) n n) (W.alloc (.cells (cellsI (List.replicate n 0)) 3)) := by
  obtain ⟨i, hi, hz, hs, hb⟩ := info_parts infoI1
  have h := run_make (P := Tryz.prog) W 23 3 i (.int .i64 0) Tryz.underlying23 hi hz .i64 .i64 n n (by omega) (by omega) (by rw [hb]; omega) (by omega)
  rw [h, hs]
  have e : madeCells (Value.int .i64 0).cells ((n : Int).toNat * 1) = cellsI (List.replicate n 0) := by
    refine Array.ext (by simp [size_madeCells, cellsI]) fun k h1 h2 => ?_
    simp [madeCells, Value.cells, Nat.mod_one, cellsI]
  rw [e, Int.toNat_natCast]
theorem valD_zeros (n : Nat) : valD (List.replicate n 0) = 0 := by
  induction n with
  | zero => rfl
  | succ n ih => rw [List.replicate_succ, valD, ih]
/-- What the loops keep. -/
structure MulS (w0 w : World) (a b : List Nat) (N : Nat) (L : List Nat) (z : Nat) : Prop where
  blk : Blk w w0.heap.size 3 (cellsI L)
  len : L.length = N
  ok : okD L
  zero : ∀ j, z ≤ j → L.getD j 0 = 0
  below : Below w0.heap.size w0 w
set_option maxRecDepth 100000 in
set_option maxHeartbeats 16000000 in
theorem timesW_any (A B : Option Addr) (c d : Nat) (a b : List Nat) (w : World) (ha : Sl encI 1 w w.heap.size A a) (hb : Sl encI 1 w w.heap.size B b) (oa : okD a) (ob : okD b) (la : a.length ≤ 200000) (lb : b.length ≤ 200000) :
    Calls Tryz.prog 110 #[.slice A a.length c, .slice B b.length d] w fun e w' => ∃ A' c' out, e = .returned (.slice A' out.length c') ∧ out.length ≤ c' ∧ out.length ≤ 500001 ∧ okD out ∧ valD out = valD a * valD b ∧ Sl encI 1 w' w'.heap.size A' out ∧ Below w.heap.size w w' := by
  obtain ⟨m, hm⟩ : ∃ m, m = a.length := ⟨_, rfl⟩
  obtain ⟨n, hn⟩ : ∃ n, n = b.length := ⟨_, rfl⟩
  have HS := hide (And.intro ha (And.intro hb (And.intro oa (And.intro ob (And.intro hm hn)))))
  rw [← hm] at la ⊢
  rw [← hn] at lb ⊢
  clear ha hb oa ob hm hn
  obtain ⟨N, hN⟩ : ∃ N, N = m + n := ⟨_, rfl⟩
  have hNi : (m : Int) + (n : Int) = (N : Int) := by omega
  have hmk : ∀ W : World, (Instr.makeSlice 23 (.int .i64 (N : Int)) (.int .i64 (N : Int))).run Tryz.prog W = .ok (.slice (some ⟨W.heap.size, 0, none⟩) N N) (W.alloc (.cells (cellsI (List.replicate N 0)) 3)) := fun W => mk_il N (by omega) W
  have HN := hide hN
  have hNb : N ≤ 400000 := by omega
  clear hN
  obtain ⟨G, hG⟩ : ∃ G, G = w.heap.size := ⟨_, rfl⟩
  have HGG := hide hG
  go_enter Tryz.func110, Tryz.ntmps110
  go_wp2
  rw [← hG]
  clear hG
  go_loopw [6] (fun iv wr => ∃ (i : Nat) (L : List Nat), i ≤ m ∧ iv = .int .i64 i ∧ MulS w wr a b N L (i + n) ∧ valD L = valD (a.take i) * valD b) (fun iv _ => m - (intOf iv).toNat)
  case atStart =>
    refine ⟨0, List.replicate N 0, by omega, rfl, ⟨Blk.new _ _ _, List.length_replicate, fun x hx => by rw [(List.mem_replicate.1 hx).2]; omega, fun j _ => ?_, (Below.refl _ w).alloc (Nat.le_refl _) _⟩, ?_⟩
    · rw [List.getD_eq_getElem?_getD, List.getElem?_replicate]; split <;> rfl
    · rw [valD_zeros]; simp [valD]
  case round =>
    obtain ⟨i, L, hi, rfl, hL, hval⟩ := hrel
    by_cases him : i < m
    · have i1 : (i : Int) < (m : Int) := by omega
      have HL := hide (And.intro hL hval)
      clear hL hval
      go_wp2
      go_loopw [7, 8] (fun cv kv wx => ∃ (k cy : Nat) (K : List Nat), k ≤ n ∧ kv = .int .i64 k ∧ cv = .int .i64 cy ∧ cy < 65536 ∧ MulS w wx a b N K (i + n) ∧ valD K + cy * 65536 ^ (i + k) = valD (a.take i) * valD b + a.getD i 0 * valD (b.take k) * 65536 ^ i) (fun _ kv _ => n - (intOf kv).toNat)
      case atStart => exact ⟨0, 0, L, by omega, rfl, rfl, by omega, HL.out.1, by rw [HL.out.2]; simp [valD]⟩
      case round =>
        obtain ⟨k, cy, K, hk, rfl, rfl, hcy, hK, hkv⟩ := hrel
        obtain ⟨V, rfl⟩ : ∃ V, V = wr := ⟨_, rfl⟩
        by_cases hkn : k < n
        · have i2 : (k : Int) < (n : Int) := by omega
          have hcl : ∀ (A : Option Addr) (l : List Nat) (q : Nat), Sl encI 1 w w.heap.size A l → q < l.length → ∃ b o, A = some ⟨b, o, none⟩ ∧ V.cell? ⟨b, o + q, none⟩ = some (.int .i64 (l.getD q 0 : Nat)) := fun A l q hl hk => by
            have hd : l[q]? = some (l.getD q 0) := by rw [List.getD_eq_getElem?_getD, List.getElem?_eq_getElem hk]; rfl
            obtain ⟨b, o, hA, _, hc⟩ := (hl.below hK.below).at hd
            refine ⟨b, o, hA, ?_⟩
            have := hc 0 _ rfl
            rw [Nat.mul_one, Nat.add_zero] at this
            exact this
          obtain ⟨ba, oa, hA, ga⟩ := hcl A a i HS.out.1 (by rw [← HS.out.2.2.2.2.1]; exact him)
          subst hA
          obtain ⟨bb, ob, hB, gb⟩ := hcl B b k HS.out.2.1 (by rw [← HS.out.2.2.2.2.2]; exact hkn)
          subst hB
          have hga := getD_lt HS.out.2.2.1 i
          have hgb := getD_lt HS.out.2.2.2.1 k
          have hgz := getD_lt hK.ok (i + k)
          have hjN : i + k < N := by rw [HN.out]; omega
          have hst := fun d => times_step (d := d) (a := a) (b := b) (i := i) (k := k) (by rw [hK.len]; exact hjN) hkv
          have g0 : V.cell? ⟨G, i + k, none⟩ = some (.int .i64 (K.getD (i + k) 0 : Nat)) := by rw [HGG.out, hK.blk.cell, cellsI_at (by rw [hK.len]; exact hjN)]
          have f0 : V.frozen? ⟨G, i + k, none⟩ = false := by rw [HGG.out]; exact hK.blk.frozen _
          obtain ⟨x, hx⟩ : ∃ x, x = a.getD i 0 := ⟨_, rfl⟩
          obtain ⟨y, hy⟩ : ∃ y, y = b.getD k 0 := ⟨_, rfl⟩
          obtain ⟨z, hz⟩ : ∃ z, z = K.getD (i + k) 0 := ⟨_, rfl⟩
          obtain ⟨j, hj⟩ : ∃ j, j = i + k := ⟨_, rfl⟩
          rw [← hx] at ga hga
          rw [← hy] at gb hgb
          rw [← hz] at g0 hgz
          rw [← hj] at g0 f0 hjN
          obtain ⟨hp1, hp2⟩ := times_digit hga hgb hgz hcy
          obtain ⟨p, hp⟩ : ∃ p, p = x * y := ⟨_, rfl⟩
          have tp : (x : Int) * (y : Int) = (p : Int) := by rw [hp]; exact (Int.natCast_mul x y).symm
          rw [← hp] at hp1 hp2
          obtain ⟨s, hs⟩ : ∃ s, s = z + p + cy := ⟨_, rfl⟩
          rw [← hs] at hp2
          have hst1 := hst s (by rw [hs, hz, hp, hx, hy])
          rw [← hj] at hst1
          obtain ⟨r, hr⟩ : ∃ r, r = s % 65536 := ⟨_, rfl⟩
          obtain ⟨q, hq⟩ : ∃ q, q = s / 65536 := ⟨_, rfl⟩
          rw [← hr, ← hq] at hst1
          rw [← hq] at hp2
          have tj : (i : Int) + (k : Int) = (j : Int) := by omega
          have tjN : (j : Int) < (N : Int) := by omega
          have t0 : (z : Int) + (p : Int) + (cy : Int) = (s : Int) := by omega
          have t1 : (s : Int) % 65536 = (r : Int) := by omega
          have t2 : (s : Int) / 65536 = (q : Int) := by omega
          have hr6 : r < 65536 := by omega
          have hsb : s ≤ 4294967296 := by omega
          have HT := hide (And.intro hK (And.intro hst1 (And.intro hr6 (And.intro hp2 (And.intro hjN hj)))))
          clear hK hkv hst hst1 hr hq hs hp hx hy hz hj hcl hr6 hp2 hjN
          go_wp2_with fail
          go_quiet (fail)
          go_wp2
          go_roundw
          case rel =>
            obtain ⟨hK, hst1, hr6, hp2, hjN, hj⟩ := HT.out
            refine ⟨k + 1, q, K.set j r, by omega, by go_num, rfl, hp2, ⟨?_, by rw [List.length_set]; exact hK.len, okD_set hK.ok hr6, fun e he => by rw [getD_set_ne (by omega)]; exact hK.zero e he, ?_⟩, hst1⟩
            · have := (hK.blk.drewN nq).set_ j (.int .i64 (r : Int))
              rw [cellsI_set] at this
              rw [HGG.out]
              exact this
            · rw [HGG.out]
              exact (below_drewN hK.below nq).setCell (Nat.le_refl _) _
          case measure => (simp [intOf]; try omega)
        · have i2 : ¬ (k : Int) < (n : Int) := by omega
          obtain rfl : k = n := by omega
          obtain ⟨j, hj⟩ : ∃ j, j = i + k := ⟨_, rfl⟩
          have tj : (i : Int) + (k : Int) = (j : Int) := by omega
          have hjN : j < N := by have := HN.out; omega
          have tjN : (j : Int) < (N : Int) := by omega
          have f0 : V.frozen? ⟨G, j, none⟩ = false := by rw [HGG.out]; exact hK.blk.frozen _
          have g0 : V.cell? ⟨G, j, none⟩ = some (.int .i64 (K.getD j 0 : Nat)) := by rw [HGG.out, hK.blk.cell, cellsI_at (by rw [hK.len]; exact hjN)]
          obtain ⟨z, hz⟩ : ∃ z, z = K.getD j 0 := ⟨_, rfl⟩
          rw [← hz] at g0
          have hrow := times_row (a := a) (b := b) (i := i) (n := k) (by rw [hK.len, ← hj]; exact hjN) (by have := HS.out.2.2.2.2.2; omega) (by rw [← hj]; exact hK.zero j (by omega)) hkv
          rw [← hj] at hrow
          have HT := hide (And.intro hK (And.intro hrow (And.intro hj hjN)))
          clear hK hkv hrow hj hjN hz hkn
          go_wp2
          go_roundw
          case rel =>
            obtain ⟨hK, hrow, hj, hjN⟩ := HT.out
            refine ⟨i + 1, K.set j cy, by omega, by go_num, ⟨?_, by rw [List.length_set]; exact hK.len, okD_set hK.ok hcy, fun e he => by rw [getD_set_ne (by omega)]; exact hK.zero e (by omega), ?_⟩, hrow⟩
            · have := hK.blk.set_ j (.int .i64 (cy : Int))
              rw [cellsI_set] at this
              rw [HGG.out]
              exact this
            · rw [HGG.out]
              exact hK.below.setCell (Nat.le_refl _) _
          case measure => (simp [intOf]; try omega)
    · have i1 : ¬ (i : Int) < (m : Int) := by omega
      obtain ⟨V, rfl⟩ : ∃ V, V = wr := ⟨_, rfl⟩
      rw [List.take_of_length_le (by have := HS.out.2.2.2.2.1; omega)] at hval
      have hlen := hL.len
      have hsl : Sl encI 1 V V.heap.size (some ⟨w.heap.size, 0, none⟩) L := sl_blkI encI_len (by rw [flat_I]; exact hL.blk) hL.blk.lt
      rw [← HGG.out] at hsl
      have htr := trimW_any (some ⟨G, 0, none⟩) N L V hsl (by rw [hlen]; exact Nat.le_refl _) (by rw [hlen]; omega)
      rw [hlen] at htr
      have hle := trim_len L
      have hpre := trim_pre L
      have hokt := trim_ok hL.ok
      rw [← valD_trim L] at hval
      have hst : Sl encI 1 V V.heap.size (some ⟨G, 0, none⟩) (trimD L) := by rw [hpre]; exact hsl.take _
      have HT := hide (And.intro htr (And.intro hval (And.intro hst (And.intro hle (And.intro hokt (And.intro hlen hL.below))))))
      clear htr hval hst hle hokt hlen hL hpre hsl him
      go_wp2_with fail
      with_reducible refine HT.out.1.mono ?_
      rintro e w9 ⟨rfl, rfl⟩
      go_wp2
      go_ret
      obtain ⟨_, hv2, hst, hle, hokt, hlen, hBz⟩ := HT.out
      exact ⟨some ⟨G, 0, none⟩, N, trimD L, rfl, by omega, by omega, hokt, hv2, hst, hBz⟩
end Go.Proofs.YtelfnmohpjkilaaGreatDoor
/- ref01.wide. -/
namespace Go.Proofs.YtelfnmohpjkilaaGreatDoor
open Go.RowKit Go.Sort
def encB (x : Nat) : List Value := [.int .u8 (x : Int)]
theorem encB_len (x : Nat) : (encB x).length = 1 := rfl
theorem encB_one (x : Nat) : ∀ u ∈ encB x, u.oneCell' = true := by
  intro u hu
  simp only [encB, List.mem_singleton] at hu
  subst hu
  rfl
theorem infoB : (Tryz.prog.info? 5).map (fun i => (i.zero, i.size, i.bytes)) = some (some (.int .u8 0), 1, 1) := by kernel_rfl
theorem bytes_step {T : List Nat} (ho : okD T) {r d : Nat} (hd : T[r]? = some d) : (bytesD (T.drop r)).reverse = (bytesD (T.drop (r + 1))).reverse ++ (if decide (T.drop (r + 1) ≠ [] ∨ 256 ≤ d) then [d / 256] else []) ++ [d % 256] := by
  have hdr : T.drop r = d :: T.drop (r + 1) := by
    have hr : r < T.length := (List.getElem?_eq_some_iff.1 hd).1
    rw [List.drop_eq_getElem_cons hr]
    rw [List.getElem?_eq_getElem hr] at hd
    cases hd; rfl
  have hd6 := ho d (List.mem_of_getElem? hd)
  rw [hdr]
  generalize T.drop (r + 1) = R
  cases R with
  | nil =>
    unfold bytesD
    by_cases h : 256 ≤ d
    · rw [if_pos h, if_pos (by simp [h])]; simp
    · rw [if_neg h, if_neg (by simp [h])]; simp; omega
  | cons x R => rw [bytesD_cons d (by simp), if_pos (by simp)]; simp
/-- The sign of a number: nothing has none. -/
def sgB (neg : Bool) (l : List Nat) : Bool := neg && !l.isEmpty
theorem bytes_conv {l : List Nat} (ho : okD l) {W : World} {A : Option Addr} {c B : Nat} (hs : Sl encB 1 W B A (bytesD l).reverse) (h0 : bytesD l ≠ []) : (convert 59 9 (.slice A (bytesD l).length c)).run Tryz.prog W = .ok (.string (strB l)) W := by
  have hlen : ((bytesD l).reverse.map UInt8.ofNat).length = (bytesD l).length := by simp
  rcases hs with ⟨h1, _⟩ | ⟨b, o, rfl, _, hc⟩
  · exact absurd (List.reverse_eq_nil_iff.1 h1) h0
  · have h := run_convert_bytes_back (P := Tryz.prog) W 59 9 5 ⟨b, o, none⟩ c ((bytesD l).reverse.map UInt8.ofNat) Tryz.underlying59 Tryz.underlying5 Tryz.underlying9 (fun j hj => by
      rw [hlen] at hj
      have hj' : j < (bytesD l).reverse.length := by simpa using hj
      have h1 := hc j _ (List.getElem?_eq_getElem hj') 0 _ rfl
      rw [Nat.mul_one, Nat.add_zero] at h1
      rw [add_none, h1]
      have hb : (bytesD l).reverse[j] < 256 := bytesD_lt ho _ (List.mem_reverse.1 (List.getElem_mem hj'))
      rw [List.getElem_map]
      have e2 : (UInt8.ofNat ((bytesD l).reverse[j])).toNat = (bytesD l).reverse[j] := by simp at hb ⊢; omega
      rw [e2])
    rw [hlen] at h
    exact h
set_option maxRecDepth 100000 in
set_option maxHeartbeats 8000000 in
theorem wideW_any (neg : Bool) (A : Option Addr) (c : Nat) (l : List Nat) (w : World) (hs : Sl encI 1 w w.heap.size A l) (hlc : l.length ≤ c) (hok : okD l) (hl : l.length ≤ 1000000) :
    Calls Tryz.prog 76 #[.bool neg, .slice A l.length c] w fun e w' => e = .returned (wvalV (sgB neg (trimD l)) (trimD l)) ∧ Below w.heap.size w w' := by
  have htr := fun W (hW : Below w.heap.size w W) => trimW_any A c l W ((hs.below hW).more hW.size) hlc (by omega)
  have hpre := trim_pre l
  have hokT := trim_ok hok
  have htt := trim_trim l
  have hle := trim_len l
  obtain ⟨T, hT⟩ : ∃ T, T = trimD l := ⟨_, rfl⟩
  rw [← hT] at hpre hokT htt hle htr ⊢
  have hsT : ∀ W, Below w.heap.size w W → Sl encI 1 W w.heap.size A T := fun W hW => by
    rw [hpre]
    exact (hs.below hW).take _
  obtain ⟨m, hm⟩ : ∃ m, m = T.length := ⟨_, rfl⟩
  rw [← hm] at htr hle
  obtain ⟨L, hL⟩ : ∃ L, L = l.length := ⟨_, rfl⟩
  rw [← hL] at htr hle hl ⊢
  have HS := hide (And.intro htr (And.intro hsT (And.intro hokT (And.intro htt hm))))
  clear htr hsT hokT htt hm hs hlc hok hT hpre hL
  go_enter Tryz.func76, Tryz.ntmps76
  go_wp2_with fail
  obtain ⟨X, hX⟩ : ∃ X, X = w.alloc (.cells #[.bool false, .string ⟨#[]⟩] 46) := ⟨_, rfl⟩
  rw [← hX]
  have hb : Blk X w.heap.size 46 #[.bool false, .string ⟨#[]⟩] := by rw [hX]; exact Blk.new _ _ _
  have hBX : Below w.heap.size w X := by rw [hX]; exact (Below.refl _ w).alloc (Nat.le_refl _) _
  have hzX : X.heap.size = w.heap.size + 1 := by rw [hX]; simp
  have HX := hide (And.intro hb hBX)
  clear hX hb hBX
  refine (HS.out.1 X HX.out.2).mono ?_
  rintro e X' ⟨rfl, rfl⟩
  obtain ⟨X, rfl⟩ : ∃ X, X = X' := ⟨_, rfl⟩
  obtain ⟨bx, hbx⟩ : ∃ b, b = w.heap.size := ⟨_, rfl⟩
  rw [← hbx]
  have r0 := HX.out.1.cell 0
  have r1 := HX.out.1.cell 1
  have f0 := HX.out.1.frozen 0
  have f1 := HX.out.1.frozen 1
  simp only [List.getElem?_toArray, List.getElem?_cons_zero, List.getElem?_cons_succ] at r0 r1
  rw [← hbx] at r0 r1 f0 f1
  have hlb : bx < X.heap.size := by omega
  have HBX := hide hbx
  clear hbx
  by_cases h0 : m = 0
  · subst h0
    have hT0 : T = [] := List.eq_nil_of_length_eq_zero HS.out.2.2.2.2.symm
    have HT := hide hT0
    clear hT0
    go_wp2
    refine ret_at (v := wvalV (sgB neg T) T) (fun W => Blk W bx 46 #[.bool false, .string ⟨#[]⟩]) ?_ (fun W h => ?_) rfl ⟨rfl, ?_⟩
    · have h1 := (HX.out.1.set_ 0 (.bool false)).set_ 1 (.string ⟨#[]⟩)
      rw [HBX.out]
      exact h1
    · have a0 := h.cell 0
      have a1 := h.cell 1
      simp only [List.getElem?_toArray, List.getElem?_cons_zero, List.getElem?_cons_succ] at a0 a1
      rw [HT.out]
      simp [results, Tryz.results76, go_sem, a0, a1, wvalV, sgB, strB, bytesD]
    · have := HBX.out
      exact (HX.out.2.setCell (by dsimp only; omega) _).setCell (by dsimp only; omega) _
  · have hm0 : ¬ (m : Int) = 0 := by omega
    have tm : ((m : Int) == 0) = false := beq_eq_false_iff_ne.2 hm0
    have wm : wrap64 ((m : Int) - 1) = (m : Int) - 1 := wrap64_small (by omega)
    have hTn : T ≠ [] := fun e => h0 (by rw [HS.out.2.2.2.2, e]; rfl)
    have HTN := hide hTn
    clear hTn
    go_wp2
    go_loopw [5, 6] (fun bv iv wr => ∃ q : Nat, q ≤ m ∧ iv = .int .i64 ((q : Int) - 1) ∧ Own encB 1 5 wr X.heap.size bv (bytesD (T.drop q)).length (bytesD (T.drop q)).reverse ∧ Below X.heap.size X wr) (fun _ iv _ => (intOf iv + 1).toNat)
    case atStart => exact ⟨m, Nat.le_refl _, rfl, by rw [HS.out.2.2.2.2, List.drop_length]; exact Own.nil, Below.refl _ X⟩
    case round =>
      obtain ⟨q, hq, rfl, hown, hB⟩ := hrel
      obtain ⟨V, rfl⟩ : ∃ V, V = wr := ⟨_, rfl⟩
      obtain ⟨A1, c1, rfl⟩ := hown.form
      have hzr := hB.size
      by_cases hq0 : q = 0
      · subst hq0
        rw [List.drop_zero] at hown ⊢
        have hb0 : bytesD T ≠ [] := fun e => by
          have h1 := bytesD_len T HTN.out
          rw [e, ← HS.out.2.2.2.2] at h1
          simp at h1
          omega
        have hcv := bytes_conv HS.out.2.2.1 (c := c1) (hown.sl encB_len (Nat.le_refl V.heap.size)) hb0
        obtain ⟨bl, hbl⟩ : ∃ bl, bl = (bytesD T).length := ⟨_, rfl⟩
        rw [← hbl] at hcv ⊢
        have hbV := HX.out.1.below hB (by have := HBX.out; omega)
        rw [← HBX.out] at hbV
        have r0 := hbV.cell 0
        have r1 := hbV.cell 1
        have f0 := hbV.frozen 0
        have f1 := hbV.frozen 1
        simp only [List.getElem?_toArray, List.getElem?_cons_zero, List.getElem?_cons_succ] at r0 r1
        have hlV : bx < V.heap.size := by omega
        obtain ⟨S, hS⟩ : ∃ S, S = strB T := ⟨_, rfl⟩
        rw [← hS] at hcv
        have HE := hide (And.intro hbV (And.intro (HX.out.2.trans (hB.mono HX.out.2.size)) hS))
        clear hown hbl hb0 hbV hB hS
        go_wp2
        refine ret_at (v := wvalV (sgB neg T) T) (fun W => Blk W bx 46 #[.bool neg, .string S]) ?_ (fun W h => ?_) rfl ⟨rfl, ?_⟩
        · exact (HE.out.1.set_ 0 (.bool neg)).set_ 1 (.string S)
        · have a0 := h.cell 0
          have a1 := h.cell 1
          simp only [List.getElem?_toArray, List.getElem?_cons_zero, List.getElem?_cons_succ] at a0 a1
          have hsg : sgB neg T = neg := by
            unfold sgB
            cases T with
            | nil => exact absurd rfl HTN.out
            | cons x T => simp
          rw [hsg]
          unfold wvalV
          rw [← HE.out.2.2]
          simp [results, Tryz.results76, go_sem, a0, a1]
        · have := HBX.out
          exact (HE.out.2.1.setCell (by dsimp only; omega) _).setCell (by dsimp only; omega) _
      · obtain ⟨r, rfl⟩ : ∃ r, q = r + 1 := ⟨q - 1, by omega⟩
        have eiv : ((r + 1 : Nat) : Int) - 1 = (r : Int) := by omega
        rw [eiv]
        obtain ⟨d, hd⟩ : ∃ d, T[r]? = some d := ⟨_, List.getElem?_eq_getElem (by rw [← HS.out.2.2.2.2]; omega)⟩
        have hd6 : d < 65536 := HS.out.2.2.1 d (List.mem_of_getElem? hd)
        obtain ⟨b, o, hA, hb, hc⟩ := (HS.out.2.1 V (HX.out.2.trans (hB.mono HX.out.2.size))).at hd
        subst hA
        have g1 := hc 0 _ rfl
        simp only [Nat.mul_one, Nat.add_zero] at g1
        have hst := bytes_step HS.out.2.2.1 hd
        obtain ⟨cb, hcb⟩ : ∃ cb, cb = decide (T.drop (r + 1) ≠ [] ∨ 256 ≤ d) := ⟨_, rfl⟩
        rw [← hcb] at hst
        have hcb2 : cb = decide (r + 1 < m ∨ 256 ≤ d) := by
          rw [hcb]
          refine decide_eq_decide.2 (or_congr ?_ Iff.rfl)
          rw [ne_eq, List.drop_eq_nil_iff, HS.out.2.2.2.2]
          omega
        obtain ⟨P, hP⟩ : ∃ P, P = (bytesD (T.drop (r + 1))).reverse := ⟨_, rfl⟩
        obtain ⟨pl, hpl⟩ : ∃ pl, pl = (bytesD (T.drop (r + 1))).length := ⟨_, rfl⟩
        rw [← hP, ← hpl] at hown
        rw [← hP] at hst
        rw [← hpl]
        have hplb : pl ≤ 4000000 := by
          rw [hpl]
          by_cases hn : T.drop (r + 1) = []
          · rw [hn]; simp [bytesD]
          · have h1 := bytesD_len _ hn
            rw [List.length_drop, ← HS.out.2.2.2.2] at h1
            omega
        have i1 : (r : Int) < (m : Int) := by omega
        have HR := hide (And.intro hown (And.intro hB (And.intro hst (And.intro hcb2 hpl))))
        clear hown hB hst hcb hcb2 hpl hc hP hd
        go_upto_region 8 with fail
        go_cut [31] (fun v wx => v = .bool cb ∧ wx = V)
        case first =>
          have hcb := HR.out.2.2.2.1
          by_cases h1 : r + 1 < m
          · have j1 : (r : Int) < (m : Int) - 1 := by omega
            have e : cb = true := by rw [hcb]; exact decide_eq_true (.inl h1)
            have HE := hide e
            clear hcb h1 e
            go_wp2_with fail
            go_meet
            case rel => exact ⟨by rw [HE.out], rfl⟩
          · have j1 : ¬ (r : Int) < (m : Int) - 1 := by omega
            by_cases h2 : 256 ≤ d
            · have j2 : (256 : Int) ≤ (d : Int) := by omega
              have e : cb = true := by rw [hcb]; exact decide_eq_true (.inr h2)
              have HE := hide e
              clear hcb h1 h2 e
              go_wp2_with fail
              go_meet
              case rel => exact ⟨by rw [HE.out], rfl⟩
            · have j2 : ¬ (256 : Int) ≤ (d : Int) := by omega
              have e : cb = false := by rw [hcb]; exact decide_eq_false (by omega)
              have HE := hide e
              clear hcb h1 h2 e
              go_wp2_with fail
              go_meet
              case rel => exact ⟨by rw [HE.out], rfl⟩
        case rest =>
          obtain ⟨rfl, rfl⟩ := hcut
          obtain ⟨V, rfl⟩ : ∃ V, V = wc := ⟨_, rfl⟩
          have w1 : (d : Int) % 256 = ((d % 256 : Nat) : Int) := by omega
          have w2 : (d : Int) / 256 = ((d / 256 : Nat) : Int) := by omega
          obtain ⟨d0, hd0⟩ : ∃ x, x = d % 256 := ⟨_, rfl⟩
          obtain ⟨d1, hd1⟩ : ∃ x, x = d / 256 := ⟨_, rfl⟩
          have b0 : d0 < 256 := by omega
          have b1 : d1 < 256 := by omega
          have w3 : (d1 : Int) % 256 = (d1 : Int) := by omega
          have w4 : (d0 : Int) % 256 = (d0 : Int) := by omega
          rw [← hd0] at w1
          rw [← hd1] at w2
          have hst := HR.out.2.2.1
          rw [← hd0, ← hd1] at hst
          obtain ⟨B0, hB0⟩ : ∃ B0, B0 = (bytesD (T.drop r)).reverse := ⟨_, rfl⟩
          have hBl : B0.length = (bytesD (T.drop r)).length := by rw [hB0, List.length_reverse]
          rw [← hB0] at hst
          have HST := hide (And.intro hst (And.intro hB0 hBl))
          clear hd0 hd1 hst hB0 hBl
          cases cb
          · have HO := hide (HR.out.1.alloc (.cells (encB d0).toArray 5))
            go_wp2_with (at_builtin; refine wpList_append1 rfl _ _ _ rfl Tryz.underlying59 infoB rfl (by omega) encB_len encB_one rfl HO.out V.heap.size 1 d0 rfl (Blk.new _ _ _) (by unfold maxLen; omega) (by omega) (by simp; omega) ?_; intro g cap w7 hown7 hg7 hB7 hat7 hgb7 hlt7)
            go_roundw
            case rel =>
              have hst := HST.out.1
              rw [if_neg (by simp), List.append_nil] at hst
              refine ⟨r, by omega, rfl, ?_, (HR.out.2.1.alloc hzr _).trans hB7⟩
              rw [← HST.out.2.2, ← HST.out.2.1, hst, List.length_append, ← HR.out.1.1]
              exact hown7
            case measure => (simp [intOf]; try omega)
          · have HO := hide (HR.out.1.alloc (.cells (encB d1).toArray 5))
            go_upto_region 10 with (at_builtin; refine wpList_append1 rfl _ _ _ rfl Tryz.underlying59 infoB rfl (by omega) encB_len encB_one rfl HO.out V.heap.size 1 d1 rfl (Blk.new _ _ _) (by unfold maxLen; omega) (by omega) (by simp; omega) ?_; intro g cap w7 hown7 hg7 hB7 hat7 hgb7 hlt7)
            have hbX := HBX.out
            have g7 := ((hB7.cell (p := ⟨b, o + r, none⟩) (by dsimp only; omega)).trans (((Below.refl V.heap.size V).alloc (Nat.le_refl _) (.cells (encB d1).toArray 5)).cell (p := ⟨b, o + r, none⟩) (by dsimp only; omega))).trans g1
            have hz7 : V.heap.size + 1 ≤ w7.heap.size := by have := hB7.size; rw [World.size_alloc] at this; exact this
            have HO2 := hide (And.intro (hown7.alloc (.cells (encB d0).toArray 5)) ((HR.out.2.1.alloc hzr _).trans hB7))
            clear hown7 hg7 hB7 hat7 hgb7 hbX g1
            go_wp2_with (at_builtin; refine wpList_append1 rfl _ _ _ rfl Tryz.underlying59 infoB rfl (by omega) encB_len encB_one rfl HO2.out.1 w7.heap.size 1 d0 rfl (Blk.new _ _ _) (by unfold maxLen; omega) (by omega) (by simp; omega) ?_; intro g' cap' w8 hown8 hg8 hB8 hat8 hgb8 hlt8)
            go_roundw
            case rel =>
              have hst := HST.out.1
              rw [if_pos (by simp)] at hst
              refine ⟨r, by omega, rfl, ?_, (HO2.out.2.alloc (by have := HO2.out.2.size; omega) _).trans hB8⟩
              rw [← HST.out.2.2, ← HST.out.2.1, hst, List.length_append, List.length_append, ← HR.out.1.1]
              exact hown8
            case measure => (simp [intOf]; try omega)
end Go.Proofs.YtelfnmohpjkilaaGreatDoor
