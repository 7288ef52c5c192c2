/- Wd1 Wd2 Wd3 Wd4 Wd7. -/
import Derived.WalkKit
import Derived.WalkSpells
import Derived.WalkLawsBesides
import Derived.Laws.OwnMore
import Derived.Deep.AppendLies
import Derived.Deep.Draws
import Derived.Maps.AppendAt
import Derived.OwnWalk
import Derived.Sort.Grow
import Derived.Shelf.GgSortFunc.RowK
import Derived.RangeFuncNested
import Derived.RangeFuncBox
import Derived.Test.YtelfnmohpjkilaaGreatDoorRows
import Derived.Handy
import Derived.Deep.QuietTactic
import Derived.BigQuiet
import Derived.LoopN
import Derived.Laws.EntriesVeiled
import Derived.Shelf.SlSortCmp.QuietGrown
import Derived.Deep.RegionHeld3
import Derived.Deep.DrawnRows
import Derived.Sort.Statements
import Derived.Shelf.SlSortCmp.NoneTotal
import Derived.IntWalk
import Derived.Deep.DeepCutAuto
import Derived.Deep.CutBlock
import Derived.Laws.IdiomStrings
import Derived.Test.YtelfnmohpjkilaaGreatDoorQ18
namespace Go.Proofs.YtelfnmohpjkilaaGreatDoor
open Go.RowKit Go.Sort
def lenW : Value → Nat
  | .slice _ n _ => n
  | _ => 0
theorem trim_len (l : List Nat) : (trimD l).length ≤ l.length := by
  induction l with
  | nil => exact Nat.le_refl _
  | cons e m ih =>
    unfold trimD
    split
    · split <;> simp
    · rename_i x y hx; rw [hx] at ih; simp only [List.length_cons] at ih ⊢; omega
theorem trim_pre (l : List Nat) : trimD l = l.take (trimD l).length := by
  induction l with
  | nil => rfl
  | cons e m ih =>
    unfold trimD
    split
    · split <;> rfl
    · rename_i x y hx
      rw [hx] at ih
      simp only [List.length_cons, List.take_succ_cons] at ih ⊢
      rw [← ih]
set_option maxRecDepth 100000 in
set_option maxHeartbeats 8000000 in
theorem trimW_any (A : Option Addr) (c : Nat) (l : List Nat) (w : World) (hs : Sl encI 1 w w.heap.size A l) (hlc : l.length ≤ c) (hl : l.length ≤ 1073741824) :
    Calls Tryz.prog 102 #[.slice A l.length c] w fun e w' => e = .returned (.slice A (trimD l).length c) ∧ w' = w := by
  have hcut : ∀ n : Nat, n + 1 ≤ l.length → ∀ W, (Instr.slice 23 (.slice A (n + 1) c) none (some (.int .i64 n)) none).run Tryz.prog W = .ok (.slice A n c) W := fun n hn W => run_cutH (T := 23) (E := 3) (s := 1) Tryz.underlying23 (fun W => Tryz.sizeOf3 W) (by omega) (by omega) W
  have HS := hide (And.intro hs (And.intro hlc hcut))
  obtain ⟨L, hL⟩ : ∃ L, L = l.length := ⟨_, rfl⟩
  rw [← hL] at hl ⊢
  have HL := hide hL
  clear hs hlc hcut hL
  go_enter Tryz.func102, Tryz.ntmps102
  go_wp2
  go_loopw [0] (fun sv wr => ∃ m : Nat, m ≤ L ∧ sv = .slice A m c ∧ trimD (l.take m) = trimD l ∧ wr = w) (fun sv _ => lenW sv)
  case atStart => exact ⟨L, Nat.le_refl _, rfl, by rw [HL.out, List.take_length], rfl⟩
  case round =>
    obtain ⟨m, hm, rfl, ht, rfl⟩ := hrel
    obtain ⟨w, rfl⟩ : ∃ w, w = wr := ⟨_, rfl⟩
    by_cases h0 : m = 0
    · subst h0
      have e : trimD l = [] := by rw [← ht]; rfl
      have HE := hide e
      clear ht e
      go_wp2
      go_ret
      exact ⟨by rw [HE.out]; rfl, rfl⟩
    · obtain ⟨n, rfl⟩ : ∃ n, m = n + 1 := ⟨m - 1, by omega⟩
      obtain ⟨d, hd⟩ : ∃ d, l[n]? = some d := ⟨_, List.getElem?_eq_getElem (by rw [← HL.out]; omega)⟩
      obtain ⟨b, o, hA, hb, hc⟩ := HS.out.1.at hd
      subst hA
      have c1 := hc 0 _ rfl
      simp only [Nat.mul_one, Nat.add_zero] at c1
      have hcutn := HS.out.2.2 n (by rw [← HL.out]; exact hm)
      have i1 : (0 : Int) < (n : Int) + 1 := by omega
      have htk : l.take (n + 1) = l.take n ++ [d] := by rw [List.take_add_one, hd]; rfl
      have hlen : (l.take n).length = n := by rw [List.length_take]; have := HL.out; omega
      by_cases hd0 : d = 0
      · subst hd0
        have hn := ht
        rw [htk, trim_snoc0] at hn
        have HN := hide (And.intro hn (show n ≤ L by omega))
        clear ht hn htk hlen hc
        go_wp2
        go_roundw
        case rel => exact ⟨n, HN.out.2, rfl, HN.out.1, trivial⟩
        case measure => simp [lenW]
      · have hn := ht
        rw [htk, trim_snoc _ hd0] at hn
        have hd1 : ¬ (d : Int) = 0 := by omega
        have HN := hide (show (trimD l).length = n + 1 by rw [← hn, List.length_append, hlen]; rfl)
        clear ht hn htk hlen hc hd0
        go_wp2
        go_ret
        exact ⟨by rw [HN.out]; rfl, rfl⟩
/-- A number in memory and as a value. -/
def strB (l : List Nat) : ByteArray := ⟨((bytesD l).reverse.map UInt8.ofNat).toArray⟩
def wvalV (neg : Bool) (l : List Nat) : Value := .agg #[.bool neg, .string (strB l)]
end Go.Proofs.YtelfnmohpjkilaaGreatDoor
namespace Go.Proofs.YtelfnmohpjkilaaGreatDoor
open Go.RowKit Go.Sort
theorem infoI1 : (Tryz.prog.info? 3).map (fun i => (i.zero, i.size, i.bytes)) = some (some (.int .i64 0), 1, 8) := by kernel_rfl
theorem wrap64_small {x : Int} (h : -9223372036854775808 ≤ x ∧ x ≤ 9223372036854775807) : wrap64 x = x := by
  unfold wrap64
  omega
end Go.Proofs.YtelfnmohpjkilaaGreatDoor
namespace Go.Proofs.YtelfnmohpjkilaaGreatDoor
open Go.RowKit Go.Sort
def encB (x : Nat) : List Value := [.int .u8 (x : Int)]
theorem encB_len (x : Nat) : (encB x).length = 1 := rfl
theorem encB_one (x : Nat) : ∀ u ∈ encB x, u.oneCell' = true := by
  intro u hu
  simp only [encB, List.mem_singleton] at hu
  subst hu
  rfl
theorem infoB : (Tryz.prog.info? 5).map (fun i => (i.zero, i.size, i.bytes)) = some (some (.int .u8 0), 1, 1) := by kernel_rfl
theorem bytes_step {T : List Nat} (ho : okD T) {r d : Nat} (hd : T[r]? = some d) : (bytesD (T.drop r)).reverse = (bytesD (T.drop (r + 1))).reverse ++ (if decide (T.drop (r + 1) ≠ [] ∨ 256 ≤ d) then [d / 256] else []) ++ [d % 256] := by
  have hdr : T.drop r = d :: T.drop (r + 1) := by
    have hr : r < T.length := (List.getElem?_eq_some_iff.1 hd).1
    rw [List.drop_eq_getElem_cons hr]
    rw [List.getElem?_eq_getElem hr] at hd
    cases hd; rfl
  have hd6 := ho d (List.mem_of_getElem? hd)
  rw [hdr]
  generalize T.drop (r + 1) = R
  cases R with
  | nil =>
    unfold bytesD
    by_cases h : 256 ≤ d
    · rw [if_pos h, if_pos (by simp [h])]; simp
    · rw [if_neg h, if_neg (by simp [h])]; simp; omega
  | cons x R => rw [bytesD_cons d (by simp), if_pos (by simp)]; simp
/-- The sign of a number: nothing has none. -/
def sgB (neg : Bool) (l : List Nat) : Bool := neg && !l.isEmpty
theorem bytes_conv {l : List Nat} (ho : okD l) {W : World} {A : Option Addr} {c B : Nat} (hs : Sl encB 1 W B A (bytesD l).reverse) (h0 : bytesD l ≠ []) : (convert 59 9 (.slice A (bytesD l).length c)).run Tryz.prog W = .ok (.string (strB l)) W := by
  have hlen : ((bytesD l).reverse.map UInt8.ofNat).length = (bytesD l).length := by simp
  rcases hs with ⟨h1, _⟩ | ⟨b, o, rfl, _, hc⟩
  · exact absurd (List.reverse_eq_nil_iff.1 h1) h0
  · have h := run_convert_bytes_back (P := Tryz.prog) W 59 9 5 ⟨b, o, none⟩ c ((bytesD l).reverse.map UInt8.ofNat) Tryz.underlying59 Tryz.underlying5 Tryz.underlying9 (fun j hj => by
      rw [hlen] at hj
      have hj' : j < (bytesD l).reverse.length := by simpa using hj
      have h1 := hc j _ (List.getElem?_eq_getElem hj') 0 _ rfl
      rw [Nat.mul_one, Nat.add_zero] at h1
      rw [add_none, h1]
      have hb : (bytesD l).reverse[j] < 256 := bytesD_lt ho _ (List.mem_reverse.1 (List.getElem_mem hj'))
      rw [List.getElem_map]
      have e2 : (UInt8.ofNat ((bytesD l).reverse[j])).toNat = (bytesD l).reverse[j] := by simp at hb ⊢; omega
      rw [e2])
    rw [hlen] at h
    exact h
set_option maxRecDepth 100000 in
set_option maxHeartbeats 8000000 in
theorem wideW_any (neg : Bool) (A : Option Addr) (c : Nat) (l : List Nat) (w : World) (hs : Sl encI 1 w w.heap.size A l) (hlc : l.length ≤ c) (hok : okD l) (hl : l.length ≤ 1000000) :
    Calls Tryz.prog 76 #[.bool neg, .slice A l.length c] w fun e w' => e = .returned (wvalV (sgB neg (trimD l)) (trimD l)) ∧ Below w.heap.size w w' := by
  have htr := fun W (hW : Below w.heap.size w W) => trimW_any A c l W ((hs.below hW).more hW.size) hlc (by omega)
  have hpre := trim_pre l
  have hokT := trim_ok hok
  have htt := trim_trim l
  have hle := trim_len l
  obtain ⟨T, hT⟩ : ∃ T, T = trimD l := ⟨_, rfl⟩
  rw [← hT] at hpre hokT htt hle htr ⊢
  have hsT : ∀ W, Below w.heap.size w W → Sl encI 1 W w.heap.size A T := fun W hW => by
    rw [hpre]
    exact (hs.below hW).take _
  obtain ⟨m, hm⟩ : ∃ m, m = T.length := ⟨_, rfl⟩
  rw [← hm] at htr hle
  obtain ⟨L, hL⟩ : ∃ L, L = l.length := ⟨_, rfl⟩
  rw [← hL] at htr hle hl ⊢
  have HS := hide (And.intro htr (And.intro hsT (And.intro hokT (And.intro htt hm))))
  clear htr hsT hokT htt hm hs hlc hok hT hpre hL
  go_enter Tryz.func76, Tryz.ntmps76
  go_wp2_with fail
  obtain ⟨X, hX⟩ : ∃ X, X = w.alloc (.cells #[.bool false, .string ⟨#[]⟩] 46) := ⟨_, rfl⟩
  rw [← hX]
  have hb : Blk X w.heap.size 46 #[.bool false, .string ⟨#[]⟩] := by rw [hX]; exact Blk.new _ _ _
  have hBX : Below w.heap.size w X := by rw [hX]; exact (Below.refl _ w).alloc (Nat.le_refl _) _
  have hzX : X.heap.size = w.heap.size + 1 := by rw [hX]; simp
  have HX := hide (And.intro hb hBX)
  clear hX hb hBX
  refine (HS.out.1 X HX.out.2).mono ?_
  rintro e X' ⟨rfl, rfl⟩
  obtain ⟨X, rfl⟩ : ∃ X, X = X' := ⟨_, rfl⟩
  obtain ⟨bx, hbx⟩ : ∃ b, b = w.heap.size := ⟨_, rfl⟩
  rw [← hbx]
  have r0 := HX.out.1.cell 0
  have r1 := HX.out.1.cell 1
  have f0 := HX.out.1.frozen 0
  have f1 := HX.out.1.frozen 1
  simp only [List.getElem?_toArray, List.getElem?_cons_zero, List.getElem?_cons_succ] at r0 r1
  rw [← hbx] at r0 r1 f0 f1
  have hlb : bx < X.heap.size := by omega
  have HBX := hide hbx
  clear hbx
  by_cases h0 : m = 0
  · subst h0
    have hT0 : T = [] := List.eq_nil_of_length_eq_zero HS.out.2.2.2.2.symm
    have HT := hide hT0
    clear hT0
    go_wp2
    refine ret_at (v := wvalV (sgB neg T) T) (fun W => Blk W bx 46 #[.bool false, .string ⟨#[]⟩]) ?_ (fun W h => ?_) rfl ⟨rfl, ?_⟩
    · have h1 := (HX.out.1.set_ 0 (.bool false)).set_ 1 (.string ⟨#[]⟩)
      rw [HBX.out]
      exact h1
    · have a0 := h.cell 0
      have a1 := h.cell 1
      simp only [List.getElem?_toArray, List.getElem?_cons_zero, List.getElem?_cons_succ] at a0 a1
      rw [HT.out]
      simp [results, Tryz.results76, go_sem, a0, a1, wvalV, sgB, strB, bytesD]
    · have := HBX.out
      exact (HX.out.2.setCell (by dsimp only; omega) _).setCell (by dsimp only; omega) _
  · have hm0 : ¬ (m : Int) = 0 := by omega
    have tm : ((m : Int) == 0) = false := beq_eq_false_iff_ne.2 hm0
    have wm : wrap64 ((m : Int) - 1) = (m : Int) - 1 := wrap64_small (by omega)
    have hTn : T ≠ [] := fun e => h0 (by rw [HS.out.2.2.2.2, e]; rfl)
    have HTN := hide hTn
    clear hTn
    go_wp2
    go_loopw [5, 6] (fun bv iv wr => ∃ q : Nat, q ≤ m ∧ iv = .int .i64 ((q : Int) - 1) ∧ Own encB 1 5 wr X.heap.size bv (bytesD (T.drop q)).length (bytesD (T.drop q)).reverse ∧ Below X.heap.size X wr) (fun _ iv _ => (intOf iv + 1).toNat)
    case atStart => exact ⟨m, Nat.le_refl _, rfl, by rw [HS.out.2.2.2.2, List.drop_length]; exact Own.nil, Below.refl _ X⟩
    case round =>
      obtain ⟨q, hq, rfl, hown, hB⟩ := hrel
      obtain ⟨V, rfl⟩ : ∃ V, V = wr := ⟨_, rfl⟩
      obtain ⟨A1, c1, rfl⟩ := hown.form
      have hzr := hB.size
      by_cases hq0 : q = 0
      · subst hq0
        rw [List.drop_zero] at hown ⊢
        have hb0 : bytesD T ≠ [] := fun e => by
          have h1 := bytesD_len T HTN.out
          rw [e, ← HS.out.2.2.2.2] at h1
          simp at h1
          omega
        have hcv := bytes_conv HS.out.2.2.1 (c := c1) (hown.sl encB_len (Nat.le_refl V.heap.size)) hb0
        obtain ⟨bl, hbl⟩ : ∃ bl, bl = (bytesD T).length := ⟨_, rfl⟩
        rw [← hbl] at hcv ⊢
        have hbV := HX.out.1.below hB (by have := HBX.out; omega)
        rw [← HBX.out] at hbV
        have r0 := hbV.cell 0
        have r1 := hbV.cell 1
        have f0 := hbV.frozen 0
        have f1 := hbV.frozen 1
        simp only [List.getElem?_toArray, List.getElem?_cons_zero, List.getElem?_cons_succ] at r0 r1
        have hlV : bx < V.heap.size := by omega
        obtain ⟨S, hS⟩ : ∃ S, S = strB T := ⟨_, rfl⟩
        rw [← hS] at hcv
        have HE := hide (And.intro hbV (And.intro (HX.out.2.trans (hB.mono HX.out.2.size)) hS))
        clear hown hbl hb0 hbV hB hS
        go_wp2
        refine ret_at (v := wvalV (sgB neg T) T) (fun W => Blk W bx 46 #[.bool neg, .string S]) ?_ (fun W h => ?_) rfl ⟨rfl, ?_⟩
        · exact (HE.out.1.set_ 0 (.bool neg)).set_ 1 (.string S)
        · have a0 := h.cell 0
          have a1 := h.cell 1
          simp only [List.getElem?_toArray, List.getElem?_cons_zero, List.getElem?_cons_succ] at a0 a1
          have hsg : sgB neg T = neg := by
            unfold sgB
            cases T with
            | nil => exact absurd rfl HTN.out
            | cons x T => simp
          rw [hsg]
          unfold wvalV
          rw [← HE.out.2.2]
          simp [results, Tryz.results76, go_sem, a0, a1]
        · have := HBX.out
          exact (HE.out.2.1.setCell (by dsimp only; omega) _).setCell (by dsimp only; omega) _
      · obtain ⟨r, rfl⟩ : ∃ r, q = r + 1 := ⟨q - 1, by omega⟩
        have eiv : ((r + 1 : Nat) : Int) - 1 = (r : Int) := by omega
        rw [eiv]
        obtain ⟨d, hd⟩ : ∃ d, T[r]? = some d := ⟨_, List.getElem?_eq_getElem (by rw [← HS.out.2.2.2.2]; omega)⟩
        have hd6 : d < 65536 := HS.out.2.2.1 d (List.mem_of_getElem? hd)
        obtain ⟨b, o, hA, hb, hc⟩ := (HS.out.2.1 V (HX.out.2.trans (hB.mono HX.out.2.size))).at hd
        subst hA
        have g1 := hc 0 _ rfl
        simp only [Nat.mul_one, Nat.add_zero] at g1
        have hst := bytes_step HS.out.2.2.1 hd
        obtain ⟨cb, hcb⟩ : ∃ cb, cb = decide (T.drop (r + 1) ≠ [] ∨ 256 ≤ d) := ⟨_, rfl⟩
        rw [← hcb] at hst
        have hcb2 : cb = decide (r + 1 < m ∨ 256 ≤ d) := by
          rw [hcb]
          refine decide_eq_decide.2 (or_congr ?_ Iff.rfl)
          rw [ne_eq, List.drop_eq_nil_iff, HS.out.2.2.2.2]
          omega
        obtain ⟨P, hP⟩ : ∃ P, P = (bytesD (T.drop (r + 1))).reverse := ⟨_, rfl⟩
        obtain ⟨pl, hpl⟩ : ∃ pl, pl = (bytesD (T.drop (r + 1))).length := ⟨_, rfl⟩
        rw [← hP, ← hpl] at hown
        rw [← hP] at hst
        rw [← hpl]
        have hplb : pl ≤ 4000000 := by
          rw [hpl]
          by_cases hn : T.drop (r + 1) = []
          · rw [hn]; simp [bytesD]
          · have h1 := bytesD_len _ hn
            rw [List.length_drop, ← HS.out.2.2.2.2] at h1
            omega
        have i1 : (r : Int) < (m : Int) := by omega
        have HR := hide (And.intro hown (And.intro hB (And.intro hst (And.intro hcb2 hpl))))
        clear hown hB hst hcb hcb2 hpl hc hP hd
        go_upto_region 8 with fail
        go_cut [31] (fun v wx => v = .bool cb ∧ wx = V)
        case first =>
          have hcb := HR.out.2.2.2.1
          by_cases h1 : r + 1 < m
          · have j1 : (r : Int) < (m : Int) - 1 := by omega
            have e : cb = true := by rw [hcb]; exact decide_eq_true (.inl h1)
            have HE := hide e
            clear hcb h1 e
            go_wp2_with fail
            go_meet
            case rel => exact ⟨by rw [HE.out], rfl⟩
          · have j1 : ¬ (r : Int) < (m : Int) - 1 := by omega
            by_cases h2 : 256 ≤ d
            · have j2 : (256 : Int) ≤ (d : Int) := by omega
              have e : cb = true := by rw [hcb]; exact decide_eq_true (.inr h2)
              have HE := hide e
              clear hcb h1 h2 e
              go_wp2_with fail
              go_meet
              case rel => exact ⟨by rw [HE.out], rfl⟩
            · have j2 : ¬ (256 : Int) ≤ (d : Int) := by omega
              have e : cb = false := by rw [hcb]; exact decide_eq_false (by omega)
              have HE := hide e
              clear hcb h1 h2 e
              go_wp2_with fail
              go_meet
              case rel => exact ⟨by rw [HE.out], rfl⟩
        case rest =>
          obtain ⟨rfl, rfl⟩ := hcut
          obtain ⟨V, rfl⟩ : ∃ V, V = wc := ⟨_, rfl⟩
          have w1 : (d : Int) % 256 = ((d % 256 : Nat) : Int) := by omega
          have w2 : (d : Int) / 256 = ((d / 256 : Nat) : Int) := by omega
          obtain ⟨d0, hd0⟩ : ∃ x, x = d % 256 := ⟨_, rfl⟩
          obtain ⟨d1, hd1⟩ : ∃ x, x = d / 256 := ⟨_, rfl⟩
          have b0 : d0 < 256 := by omega
          have b1 : d1 < 256 := by omega
          have w3 : (d1 : Int) % 256 = (d1 : Int) := by omega
          have w4 : (d0 : Int) % 256 = (d0 : Int) := by omega
          rw [← hd0] at w1
          rw [← hd1] at w2
          have hst := HR.out.2.2.1
          rw [← hd0, ← hd1] at hst
          obtain ⟨B0, hB0⟩ : ∃ B0, B0 = (bytesD (T.drop r)).reverse := ⟨_, rfl⟩
          have hBl : B0.length = (bytesD (T.drop r)).length := by rw [hB0, List.length_reverse]
          rw [← hB0] at hst
          have HST := hide (And.intro hst (And.intro hB0 hBl))
          clear hd0 hd1 hst hB0 hBl
          cases cb
          · have HO := hide (HR.out.1.alloc (.cells (encB d0).toArray 5))
            go_wp2_with (at_builtin; refine wpList_append1 rfl _ _ _ rfl Tryz.underlying59 infoB rfl (by omega) encB_len encB_one rfl HO.out V.heap.size 1 d0 rfl (Blk.new _ _ _) (by unfold maxLen; omega) (by omega) (by simp; omega) ?_; intro g cap w7 hown7 hg7 hB7 hat7 hgb7 hlt7)
            go_roundw
            case rel =>
              have hst := HST.out.1
              rw [if_neg (by simp), List.append_nil] at hst
              refine ⟨r, by omega, rfl, ?_, (HR.out.2.1.alloc hzr _).trans hB7⟩
              rw [← HST.out.2.2, ← HST.out.2.1, hst, List.length_append, ← HR.out.1.1]
              exact hown7
            case measure => (simp [intOf]; try omega)
          · have HO := hide (HR.out.1.alloc (.cells (encB d1).toArray 5))
            go_upto_region 10 with (at_builtin; refine wpList_append1 rfl _ _ _ rfl Tryz.underlying59 infoB rfl (by omega) encB_len encB_one rfl HO.out V.heap.size 1 d1 rfl (Blk.new _ _ _) (by unfold maxLen; omega) (by omega) (by simp; omega) ?_; intro g cap w7 hown7 hg7 hB7 hat7 hgb7 hlt7)
            have hbX := HBX.out
            have g7 := ((hB7.cell (p := ⟨b, o + r, none⟩) (by dsimp only; omega)).trans (((Below.refl V.heap.size V).alloc (Nat.le_refl _) (.cells (encB d1).toArray 5)).cell (p := ⟨b, o + r, none⟩) (by dsimp only; omega))).trans g1
            have hz7 : V.heap.size + 1 ≤ w7.heap.size := by have := hB7.size; rw [World.size_alloc] at this; exact this
            have HO2 := hide (And.intro (hown7.alloc (.cells (encB d0).toArray 5)) ((HR.out.2.1.alloc hzr _).trans hB7))
            clear hown7 hg7 hB7 hat7 hgb7 hbX g1
            go_wp2_with (at_builtin; refine wpList_append1 rfl _ _ _ rfl Tryz.underlying59 infoB rfl (by omega) encB_len encB_one rfl HO2.out.1 w7.heap.size 1 d0 rfl (Blk.new _ _ _) (by unfold maxLen; omega) (by omega) (by simp; omega) ?_; intro g' cap' w8 hown8 hg8 hB8 hat8 hgb8 hlt8)
            go_roundw
            case rel =>
              have hst := HST.out.1
              rw [if_pos (by simp)] at hst
              refine ⟨r, by omega, rfl, ?_, (HO2.out.2.alloc (by have := HO2.out.2.size; omega) _).trans hB8⟩
              rw [← HST.out.2.2, ← HST.out.2.1, hst, List.length_append, List.length_append, ← HR.out.1.1]
              exact hown8
            case measure => (simp [intOf]; try omega)
end Go.Proofs.YtelfnmohpjkilaaGreatDoor
namespace Go.Proofs.YtelfnmohpjkilaaGreatDoor
open Go.RowKit Go.Sort
theorem valD_snoc (l : List Nat) (d : Nat) : valD (l ++ [d]) = valD l + 65536 ^ l.length * d := by
  rw [valD_app]
  simp [valD]
theorem okD_snoc {l : List Nat} (h : okD l) {d : Nat} (hd : d < 65536) : okD (l ++ [d]) := by
  intro x hx
  rcases List.mem_append.1 hx with hx | hx
  · exact h x hx
  · rw [List.mem_singleton.1 hx]; exact hd
end Go.Proofs.YtelfnmohpjkilaaGreatDoor
namespace Go.Proofs.YtelfnmohpjkilaaGreatDoor
open Go.RowKit Go.Sort
theorem getD_set_ne {L : List Nat} {i j v : Nat} (h : i ≠ j) : (L.set j v).getD i 0 = L.getD i 0 := by
  rw [List.getD_eq_getElem?_getD, List.getD_eq_getElem?_getD, List.getElem?_set_ne (Ne.symm h)]
end Go.Proofs.YtelfnmohpjkilaaGreatDoor
