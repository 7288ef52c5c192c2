/- Joined texts: Wd8 Wd9 WdA WdB WdC WdD. -/
import Derived.Test.YtfljcgehhnmamaaCB3
import Derived.Test.YtfljcgehhnmamaaCB4
import Derived.Test.YtfljcgehhnmamaaCB21
import Derived.Test.YtfljcgehhnmamaaCB22
/- Numbers as values; ref01.Neg. -/
namespace Go.Proofs.Ytfljcgehhnmamaa
open Go.RowKit Go.Sort
/-- v stands for x. -/
def WideI (v : Value) (x : Int) : Prop := ∃ neg l, v = wvalV neg l ∧ okD l ∧ trimD l = l ∧ x = intD neg l ∧ (l = [] → neg = false)
theorem intD_abs (neg : Bool) (l : List Nat) : (intD neg l).natAbs = valD l := by
  unfold intD
  cases neg
  · rw [if_neg (by decide)]; exact Int.natAbs_natCast _
  · rw [if_pos rfl, Int.natAbs_neg]; exact Int.natAbs_natCast _
theorem wide_len {neg : Bool} {l : List Nat} (ht : trimD l = l) (h : (intD neg l).natAbs < 65536 ^ 8) : l.length ≤ 8 := by
  rw [intD_abs] at h
  by_cases hne : l = []
  · subst hne; simp
  · have h1 := val_ge ht hne
    have h2 : 65536 ^ (l.length - 1) < 65536 ^ 8 := Nat.lt_of_le_of_lt h1 h
    have h3 := (Nat.pow_lt_pow_iff_right (by omega)).1 h2
    omega
theorem wideI_sg {neg : Bool} {l : List Nat} (ho : okD l) : WideI (wvalV (sgB neg (trimD l)) (trimD l)) (intD neg l) := by
  refine ⟨_, _, rfl, trim_ok ho, trim_trim l, ?_, fun h => by rw [h]; cases neg <;> rfl⟩
  unfold intD
  rw [valD_trim]
  cases h : trimD l with
  | nil =>
    have h0 : valD l = 0 := by rw [← valD_trim, h]; rfl
    rw [h0]
    cases neg <;> rfl
  | cons d m => cases neg <;> rfl
theorem WideI.form {v : Value} {x : Int} (h : WideI v x) : ∃ b s, v = .agg #[.bool b, .string s] := by
  obtain ⟨neg, l, rfl, _⟩ := h
  exact ⟨neg, strB l, rfl⟩
/-- ref01.wide, as a number. -/
theorem wideE_any (neg : Bool) (A : Option Addr) (c : Nat) (l : List Nat) (w : World) (hs : Sl encI 1 w w.heap.size A l) (hlc : l.length ≤ c) (hok : okD l) (hl : l.length ≤ 1000000) (x : Int) (hx : x = intD neg l) :
    Calls Try.prog 58 #[.bool neg, .slice A l.length c] w fun e w' => ∃ b s, e = .returned (.agg #[.bool b, .string s]) ∧ WideI (.agg #[.bool b, .string s]) x ∧ Below w.heap.size w w' := by
  subst hx
  refine (wideW_any neg A c l w hs hlc hok hl).mono ?_
  rintro e w' ⟨rfl, hB⟩
  exact ⟨_, _, rfl, wideI_sg hok, hB⟩
theorem intD_not (neg : Bool) (l : List Nat) : intD (!neg) l = - intD neg l := by
  unfold intD
  cases neg <;> simp
set_option maxRecDepth 100000 in
set_option maxHeartbeats 16000000 in
theorem negW_any (v : Value) (x : Int) (hv : WideI v x) (sx : x.natAbs < 65536 ^ 8) (w : World) :
    Calls Try.prog 97 #[v] w fun e w' => ∃ b s, e = .returned (.agg #[.bool b, .string s]) ∧ WideI (.agg #[.bool b, .string s]) (-x) ∧ Below w.heap.size w w' := by
  obtain ⟨na, la, rfl, oa, ta, hx, _⟩ := hv
  have l8 := wide_len ta (by rw [← hx]; exact sx)
  have hdg := fun W => digitsW_any na la oa ta (by omega) W
  have hwd := fun (A : Option Addr) (c : Nat) W (hs : Sl encI 1 W W.heap.size A la) (hc : la.length ≤ c) => wideE_any (!na) A c la W hs hc oa (by omega) (-x) (by rw [intD_not, hx])
  obtain ⟨s, hs⟩ : ∃ s, s = strB la := ⟨_, rfl⟩
  have hwv : wvalV na la = .agg #[.bool na, .string s] := by rw [hs]; rfl
  rw [hwv] at hdg ⊢
  obtain ⟨L, hL⟩ : ∃ L, L = la.length := ⟨_, rfl⟩
  rw [← hL] at hdg hwd
  have HC := hide (And.intro hdg hwd)
  have HL := hide hL
  clear hdg hwd hwv hs oa ta hx sx hL l8
  go_enter Try.func97, Try.ntmps97
  go_upto_region 1 with fail
  obtain ⟨X, hX⟩ : ∃ X, X = (w.alloc (.cells #[.bool na, .string s] 43)).alloc (.cells #[.bool false, .string ⟨#[]⟩] 43) := ⟨_, rfl⟩
  rw [← hX]
  have hb : Blk X w.heap.size 43 #[.bool na, .string s] := by rw [hX]; exact (Blk.new _ _ _).alloc _
  have hr : Blk X (w.heap.size + 1) 43 #[.bool false, .string ⟨#[]⟩] := by rw [hX]; exact Blk.new' _ _ _ _ (by simp)
  have hBX : Below w.heap.size w X := by rw [hX]; exact ((Below.refl _ w).alloc (Nat.le_refl _) _).alloc (by simp) _
  have hzX : X.heap.size = w.heap.size + 2 := by rw [hX]; simp
  obtain ⟨bx, hbx⟩ : ∃ b, b = w.heap.size := ⟨_, rfl⟩
  rw [← hbx] at hb hr hzX ⊢
  have hS : ∀ W, Below X.heap.size X W → W.cell? ⟨bx, 0, none⟩ = some (.bool na) ∧ W.cell? ⟨bx, 1, none⟩ = some (.string s) := fun W hW => by
    have h2 := hb.below hW hb.lt
    exact ⟨h2.cell 0, h2.cell 1⟩
  have HS := hide hS
  have HQ := hide (hS X.drew (Below.refl _ X).drew)
  have HX := hide (And.intro hr (And.intro hBX (And.intro hzX hbx)))
  clear hS hr hBX hzX hbx hb hX
  refine wp_region_mix (fun W => W.cell? ⟨bx, 0, none⟩ = some (.bool na) ∧ W.cell? ⟨bx, 1, none⟩ = some (.string s)) [0, 1, 2, 3] [0, 1, 2, 3, 4, 5, 6] mixed_ok (by kernel_rfl) ?_
  refine wpMix_q (v := .pointer (some ⟨bx, 0, none⟩)) rfl rfl (fun _ _ _ h => h) HQ.out ⟨rfl, fun _ _ => by simp [go_sem]⟩ ?_
  refine wpMix_q (v := .bool na) rfl rfl (fun _ _ _ h => h) HQ.out ⟨rfl, fun _ h' => by simp [go_sem, h'.1]⟩ ?_
  refine wpMix_q (v := .bool (!na)) rfl rfl (fun _ _ _ h => h) HQ.out ⟨rfl, fun _ _ => by simp [go_sem]⟩ ?_
  refine wpMix_q (v := .agg #[.bool na, .string s]) rfl rfl (fun _ _ _ h => h) HQ.out ⟨rfl, fun _ h' => by simp [go_sem, h'.1, h'.2]⟩ ?_
  simp only [List.getElem_toArray, List.getElem_cons_succ, List.getElem_cons_zero]
  refine wpMix_n rfl rfl ?_
  go_wp2_with fail
  with_reducible refine (HC.out.1 X.drew).mono ?_
  rintro e w5 ⟨A5, c5, rfl, hlc, hsl, hB5⟩
  have hB5 : Below X.heap.size X w5 := (Below.refl X.heap.size X).drew.trans hB5
  have H5 := hide (And.intro hlc (And.intro hsl hB5))
  clear hlc hsl hB5
  go_wp2_with fail
  refine ⟨fun _ => HS.out w5 H5.out.2.2, ?_⟩
  refine wpMix_tail _ [_, _] (by kernel_rfl) rfl ?_
  simp only [List.getElem_toArray, List.getElem_cons_succ, List.getElem_cons_zero]
  go_wp2_with fail
  with_reducible refine (HC.out.2 A5 c5 w5 H5.out.2.1 H5.out.1).mono ?_
  rintro e w6 ⟨rb, rs, rfl, hW, hB6⟩
  have hr6 := (HX.out.1.below H5.out.2.2 HX.out.1.lt).below hB6 (by have := HX.out.1.lt; have := H5.out.2.2.size; omega)
  have hB6' := HX.out.2.1.trans ((H5.out.2.2.trans (hB6.mono H5.out.2.2.size)).mono HX.out.2.1.size)
  have r0 := hr6.cell 0
  have r1 := hr6.cell 1
  have f0 := hr6.frozen 0
  have f1 := hr6.frozen 1
  have hlt := hr6.lt
  simp only [List.getElem?_toArray, List.getElem?_cons_zero, List.getElem?_cons_succ] at r0 r1
  have hbx := HX.out.2.2.2
  have H6 := hide (And.intro hW (And.intro hB6' (And.intro hr6 hbx)))
  clear hW hB6 hB6' hr6 hbx
  go_wp2
  refine ret_at (v := .agg #[.bool rb, .string rs]) (fun W => Blk W (bx + 1) 43 #[.bool rb, .string rs]) ?_ (fun W h => ?_) rfl ⟨rb, rs, rfl, H6.out.1, ?_⟩
  · exact (H6.out.2.2.1.set_ 0 (.bool rb)).set_ 1 (.string rs)
  · have a0 := h.cell 0
    have a1 := h.cell 1
    simp only [List.getElem?_toArray, List.getElem?_cons_zero, List.getElem?_cons_succ] at a0 a1
    simp [results, Try.results97, go_sem, a0, a1]
  · have := H6.out.2.2.2
    exact (H6.out.2.1.setCell (by dsimp only; omega) _).setCell (by dsimp only; omega) _
end Go.Proofs.Ytfljcgehhnmamaa
/- ref01.Add, Sub, Mul (printed by mk_Wd9.py). -/
namespace Go.Proofs.Ytfljcgehhnmamaa
open Go.RowKit Go.Sort
theorem add_same {na nb : Bool} {a b out : List Nat} (h : na = nb) (hv : valD out = valD a + valD b) : intD na a + intD nb b = intD na out := by
  subst h; unfold intD; rw [hv]; cases na <;> simp <;> omega
theorem add_left {na nb : Bool} {a b out : List Nat} (h : na ≠ nb) (hv : valD out + valD b = valD a) : intD na a + intD nb b = intD na out := by
  unfold intD; rw [← hv]; cases na <;> cases nb <;> simp at h ⊢ <;> omega
theorem add_right {na nb : Bool} {a b out : List Nat} (h : na ≠ nb) (hv : valD out + valD a = valD b) : intD na a + intD nb b = intD nb out := by
  unfold intD; rw [← hv]; cases na <;> cases nb <;> simp at h ⊢ <;> omega
theorem mul_sign {na nb : Bool} {a b out : List Nat} (hv : valD out = valD a * valD b) : intD na a * intD nb b = intD (na != nb) out := by
  unfold intD; rw [hv, Int.natCast_mul]; cases na <;> cases nb <;> simp [Int.neg_mul, Int.mul_neg]
set_option maxRecDepth 100000 in
set_option maxHeartbeats 16000000 in
theorem mulW_any (va vb : Value) (x y : Int) (ha : WideI va x) (hb : WideI vb y) (sx : x.natAbs < 65536 ^ 8) (sy : y.natAbs < 65536 ^ 8) (w : World) :
    Calls Try.prog 63 #[va, vb] w fun e w' => ∃ b s, e = .returned (.agg #[.bool b, .string s]) ∧ WideI (.agg #[.bool b, .string s]) (x * y) ∧ Below w.heap.size w w' := by
  obtain ⟨na, la, rfl, oa, ta, hx, _⟩ := ha
  obtain ⟨nb, lb, rfl, ob, tb, hy, _⟩ := hb
  have la8 := wide_len ta (by rw [← hx]; exact sx)
  have lb8 := wide_len tb (by rw [← hy]; exact sy)
  have hda := fun W => digitsW_any na la oa ta (by omega) W
  have hdb := fun W => digitsW_any nb lb ob tb (by omega) W
  have htm := fun (A B : Option Addr) (c d : Nat) W (h1 : Sl encI 1 W W.heap.size A la) (h2 : Sl encI 1 W W.heap.size B lb) => timesW_any A B c d la lb W h1 h2 oa ob (by omega) (by omega)
  have hwd := fun (A : Option Addr) (c : Nat) (out : List Nat) W (hv : valD out = valD la * valD lb) (ho : okD out) (hs : Sl encI 1 W W.heap.size A out) (hc : out.length ≤ c) (hl : out.length ≤ 500001) => wideE_any (na != nb) A c out W hs hc ho (by omega) (x * y) (by rw [hx, hy, mul_sign hv])
  obtain ⟨sa, hsa⟩ : ∃ s, s = strB la := ⟨_, rfl⟩
  have hwa : wvalV na la = .agg #[.bool na, .string sa] := by rw [hsa]; rfl
  obtain ⟨sb, hsb⟩ : ∃ s, s = strB lb := ⟨_, rfl⟩
  have hwb : wvalV nb lb = .agg #[.bool nb, .string sb] := by rw [hsb]; rfl
  rw [hwa] at hda ⊢
  rw [hwb] at hdb ⊢
  obtain ⟨La, hLa⟩ : ∃ L, L = la.length := ⟨_, rfl⟩
  obtain ⟨Lb, hLb⟩ : ∃ L, L = lb.length := ⟨_, rfl⟩
  rw [← hLa] at hda htm
  rw [← hLb] at hdb htm
  have HC := hide (And.intro hda (And.intro hdb (And.intro htm hwd)))
  clear hda hdb htm hwd hwa hwb hsa hsb oa ob ta tb hx hy sx sy la8 lb8 hLa hLb
  go_enter Try.func63, Try.ntmps63
  go_upto_region 1 with fail
  obtain ⟨X, hX⟩ : ∃ X, X = ((w.alloc (.cells #[.bool na, .string sa] 43)).alloc (.cells #[.bool nb, .string sb] 43)).alloc (.cells #[.bool false, .string ⟨#[]⟩] 43) := ⟨_, rfl⟩
  rw [← hX]
  have hb0 : Blk X w.heap.size 43 #[.bool na, .string sa] := by rw [hX]; exact ((Blk.new _ _ _).alloc _).alloc _
  have hb1 : Blk X (w.heap.size + 1) 43 #[.bool nb, .string sb] := by rw [hX]; exact (Blk.new' _ _ _ _ (by simp)).alloc _
  have hr : Blk X (w.heap.size + 1 + 1) 43 #[.bool false, .string ⟨#[]⟩] := by rw [hX]; exact Blk.new' _ _ _ _ (by simp)
  have hBX : Below w.heap.size w X := by rw [hX]; exact (((Below.refl _ w).alloc (Nat.le_refl _) _).alloc (by simp) _).alloc (by simp; omega) _
  have hzX : X.heap.size = w.heap.size + 3 := by rw [hX]; simp
  obtain ⟨bx, hbx⟩ : ∃ b, b = w.heap.size := ⟨_, rfl⟩
  rw [← hbx] at hb0 hb1 hr hzX ⊢
  have hS : ∀ W, Below X.heap.size X W → (W.cell? ⟨bx, 0, none⟩ = some (.bool na) ∧ W.cell? ⟨bx, 1, none⟩ = some (.string sa)) ∧ W.cell? ⟨bx + 1, 0, none⟩ = some (.bool nb) ∧ W.cell? ⟨bx + 1, 1, none⟩ = some (.string sb) := fun W hW => by
    have h2 := hb0.below hW hb0.lt
    have h3 := hb1.below hW hb1.lt
    exact ⟨⟨h2.cell 0, h2.cell 1⟩, h3.cell 0, h3.cell 1⟩
  have HS := hide hS
  have HX := hide (And.intro hr (And.intro hBX (And.intro hzX hbx)))
  clear hS hr hBX hzX hbx hb0 hb1 hX
  have HQ := hide (HS.out X.drew (Below.refl _ X).drew)
  refine wp_region_mix (fun W => (W.cell? ⟨bx, 0, none⟩ = some (.bool na) ∧ W.cell? ⟨bx, 1, none⟩ = some (.string sa)) ∧ W.cell? ⟨bx + 1, 0, none⟩ = some (.bool nb) ∧ W.cell? ⟨bx + 1, 1, none⟩ = some (.string sb)) [0, 1, 2, 3, 4, 5, 7] [0, 1, 2, 3, 4, 5, 7, 6, 8, 9, 10, 11] mixed_ok (by kernel_rfl) ?_
  refine wpMix_q (v := .pointer (some ⟨bx, 0, none⟩)) rfl rfl (fun _ _ _ h => h) HQ.out ⟨rfl, fun _ h' => by simp [go_sem]⟩ ?_
  refine wpMix_q (v := .bool na) rfl rfl (fun _ _ _ h => h) HQ.out ⟨rfl, fun _ h' => by simp [go_sem, h'.1.1]⟩ ?_
  refine wpMix_q (v := .pointer (some ⟨bx + 1, 0, none⟩)) rfl rfl (fun _ _ _ h => h) HQ.out ⟨rfl, fun _ h' => by simp [go_sem]⟩ ?_
  refine wpMix_q (v := .bool nb) rfl rfl (fun _ _ _ h => h) HQ.out ⟨rfl, fun _ h' => by simp [go_sem, h'.2.1]⟩ ?_
  refine wpMix_q (v := .bool (na != nb)) rfl rfl (fun _ _ _ h => h) HQ.out ⟨rfl, fun _ h' => by simp [go_sem, bne]⟩ ?_
  refine wpMix_q (v := .agg #[.bool na, .string sa]) rfl rfl (fun _ _ _ h => h) HQ.out ⟨rfl, fun _ h' => by simp [go_sem, h'.1.1, h'.1.2]⟩ ?_
  simp only [List.getElem_toArray, List.getElem_cons_succ, List.getElem_cons_zero, Act.put, List.setIfInBounds_toArray, List.set_cons_succ, List.set_cons_zero]
  refine wpMix_q (v := .agg #[.bool nb, .string sb]) rfl rfl (fun _ _ _ h => h) HQ.out ⟨rfl, fun _ h' => by simp [go_sem, h'.2.1, h'.2.2]⟩ ?_
  simp only [List.getElem_toArray, List.getElem_cons_succ, List.getElem_cons_zero]
  refine wpMix_n rfl rfl ?_
  go_wp2_with fail
  with_reducible refine (HC.out.1 X.drew).mono ?_
  rintro e w5 ⟨A5, c5, rfl, hlc, hsl, hB5⟩
  have hB5 : Below X.heap.size X w5 := (Below.refl X.heap.size X).drew.trans hB5
  have H5 := hide (And.intro hlc (And.intro hsl hB5))
  clear hlc hsl hB5
  go_wp2_with fail
  refine ⟨fun _ => HS.out w5 H5.out.2.2, ?_⟩
  refine wpMix_n rfl rfl ?_
  go_wp2_with fail
  with_reducible refine (HC.out.2.1 w5).mono ?_
  rintro e w6 ⟨A6, c6, rfl, hlc, hsl, hB6⟩
  have H6 := hide (And.intro hlc (And.intro hsl (And.intro ((H5.out.2.1.below hB6).more hB6.size) (H5.out.2.2.trans (hB6.mono H5.out.2.2.size)))))
  clear hlc hsl hB6
  go_wp2_with fail
  refine ⟨fun _ => HS.out w6 H6.out.2.2.2, ?_⟩
  refine wpMix_n rfl rfl ?_
  go_wp2_with fail
  with_reducible refine (HC.out.2.2.1 A5 A6 c5 c6 w6 H6.out.2.2.1 H6.out.2.1).mono ?_
  rintro e w7 ⟨A7, c7, out, rfl, hc7, hl7, ho7, hv7, hs7, hB7⟩
  have hwd := HC.out.2.2.2 A7 c7 out w7 hv7 ho7 hs7 hc7 hl7
  obtain ⟨Lo, hLo⟩ : ∃ L, L = out.length := ⟨_, rfl⟩
  rw [← hLo] at hwd ⊢
  have H7 := hide (And.intro hwd (H6.out.2.2.2.trans (hB7.mono H6.out.2.2.2.size)))
  clear hwd hc7 hl7 ho7 hv7 hs7 hB7 hLo
  go_wp2_with fail
  refine ⟨fun _ => HS.out w7 H7.out.2, ?_⟩
  refine wpMix_tail _ [_, _] (by kernel_rfl) rfl ?_
  simp only [List.getElem_toArray, List.getElem_cons_succ, List.getElem_cons_zero]
  go_wp2_with fail
  with_reducible refine H7.out.1.mono ?_
  rintro e w8 ⟨rb, rs, rfl, hW, hB8⟩
  have hBX8 := H7.out.2.trans (hB8.mono H7.out.2.size)
  have hr6 := HX.out.1.below hBX8 HX.out.1.lt
  have hB9 := HX.out.2.1.trans (hBX8.mono HX.out.2.1.size)
  clear hB8 hBX8
  have r0 := hr6.cell 0
  have r1 := hr6.cell 1
  have f0 := hr6.frozen 0
  have f1 := hr6.frozen 1
  have hlt := hr6.lt
  simp only [List.getElem?_toArray, List.getElem?_cons_zero, List.getElem?_cons_succ] at r0 r1
  have hbx := HX.out.2.2.2
  have H9 := hide (And.intro hW (And.intro hB9 (And.intro hr6 hbx)))
  clear hW hB9 hr6 hbx
  go_wp2
  refine ret_at (v := .agg #[.bool rb, .string rs]) (fun W => Blk W (bx + 1 + 1) 43 #[.bool rb, .string rs]) ?_ (fun W h => ?_) rfl ⟨rb, rs, rfl, H9.out.1, ?_⟩
  · exact (H9.out.2.2.1.set_ 0 (.bool rb)).set_ 1 (.string rs)
  · have a0 := h.cell 0
    have a1 := h.cell 1
    simp only [List.getElem?_toArray, List.getElem?_cons_zero, List.getElem?_cons_succ] at a0 a1
    simp [results, Try.results63, go_sem, a0, a1]
  · have := H9.out.2.2.2
    exact (H9.out.2.1.setCell (by dsimp only; omega) _).setCell (by dsimp only; omega) _
set_option maxRecDepth 100000 in
set_option maxHeartbeats 16000000 in
theorem addW_any (va vb : Value) (x y : Int) (ha : WideI va x) (hb : WideI vb y) (sx : x.natAbs < 65536 ^ 8) (sy : y.natAbs < 65536 ^ 8) (w : World) :
    Calls Try.prog 36 #[va, vb] w fun e w' => ∃ b s, e = .returned (.agg #[.bool b, .string s]) ∧ WideI (.agg #[.bool b, .string s]) (x + y) ∧ Below w.heap.size w w' := by
  obtain ⟨na, la, rfl, oa, ta, hx, _⟩ := ha
  obtain ⟨nb, lb, rfl, ob, tb, hy, _⟩ := hb
  have la8 := wide_len ta (by rw [← hx]; exact sx)
  have lb8 := wide_len tb (by rw [← hy]; exact sy)
  have hda := fun W => digitsW_any na la oa ta (by omega) W
  have hdb := fun W => digitsW_any nb lb ob tb (by omega) W
  have hlt2 := val_len oa tb
  have hpl := fun (A B : Option Addr) (c d : Nat) W (h1 : Sl encI 1 W W.heap.size A la) (h2 : Sl encI 1 W W.heap.size B lb) => plusW_any A B c d la lb W h1 h2 oa ob (by omega) (by omega)
  have hcm := fun (A B : Option Addr) (c d : Nat) W (h1 : Sl encI 1 W W.heap.size A la) (h2 : Sl encI 1 W W.heap.size B lb) => compareW_any A B c d la lb W h1 h2 oa ob ta tb (by omega) (by omega)
  have hm1 := fun (A B : Option Addr) (c d : Nat) W (h1 : Sl encI 1 W W.heap.size A la) (h2 : Sl encI 1 W W.heap.size B lb) (hv : valD lb ≤ valD la) => minusW_any A B c d la lb W h1 h2 oa ob (by omega) (by rcases Nat.lt_or_ge la.length lb.length with h | h; exact absurd (val_len oa tb h) (by omega); exact h) hv
  have hm2 := fun (A B : Option Addr) (c d : Nat) W (h1 : Sl encI 1 W W.heap.size B lb) (h2 : Sl encI 1 W W.heap.size A la) (hv : valD la ≤ valD lb) => minusW_any B A d c lb la W h1 h2 ob oa (by omega) (by rcases Nat.lt_or_ge lb.length la.length with h | h; exact absurd (val_len ob ta h) (by omega); exact h) hv
  have hwd := fun (r : Bool) (A : Option Addr) (c : Nat) (out : List Nat) W (hv : x + y = intD r out) (ho : okD out) (hs : Sl encI 1 W W.heap.size A out) (hc : out.length ≤ c) (hl : out.length ≤ 500001) => wideE_any r A c out W hs hc ho (by omega) (x + y) hv
  obtain ⟨sa, hsa⟩ : ∃ s, s = strB la := ⟨_, rfl⟩
  have hwa : wvalV na la = .agg #[.bool na, .string sa] := by rw [hsa]; rfl
  obtain ⟨sb, hsb⟩ : ∃ s, s = strB lb := ⟨_, rfl⟩
  have hwb : wvalV nb lb = .agg #[.bool nb, .string sb] := by rw [hsb]; rfl
  rw [hwa] at hda ⊢
  rw [hwb] at hdb ⊢
  obtain ⟨La, hLa⟩ : ∃ L, L = la.length := ⟨_, rfl⟩
  obtain ⟨Lb, hLb⟩ : ∃ L, L = lb.length := ⟨_, rfl⟩
  rw [← hLa] at hda hpl hcm hm1 hm2
  rw [← hLb] at hdb hpl hcm hm1 hm2
  have HC := hide (And.intro hda (And.intro hdb (And.intro hpl (And.intro hcm (And.intro hm1 (And.intro hm2 hwd))))))
  have HV := hide (And.intro hx hy)
  clear hda hdb hpl hcm hm1 hm2 hwd hwa hwb hsa hsb oa ob ta tb hx hy sx sy la8 lb8 hLa hLb hlt2
  go_enter Try.func36, Try.ntmps36
  go_upto_region 1 with fail
  obtain ⟨X, hX⟩ : ∃ X, X = ((w.alloc (.cells #[.bool na, .string sa] 43)).alloc (.cells #[.bool nb, .string sb] 43)).alloc (.cells #[.bool false, .string ⟨#[]⟩] 43) := ⟨_, rfl⟩
  rw [← hX]
  have hb0 : Blk X w.heap.size 43 #[.bool na, .string sa] := by rw [hX]; exact ((Blk.new _ _ _).alloc _).alloc _
  have hb1 : Blk X (w.heap.size + 1) 43 #[.bool nb, .string sb] := by rw [hX]; exact (Blk.new' _ _ _ _ (by simp)).alloc _
  have hr : Blk X (w.heap.size + 1 + 1) 43 #[.bool false, .string ⟨#[]⟩] := by rw [hX]; exact Blk.new' _ _ _ _ (by simp)
  have hBX : Below w.heap.size w X := by rw [hX]; exact (((Below.refl _ w).alloc (Nat.le_refl _) _).alloc (by simp) _).alloc (by simp; omega) _
  have hzX : X.heap.size = w.heap.size + 3 := by rw [hX]; simp
  obtain ⟨bx, hbx⟩ : ∃ b, b = w.heap.size := ⟨_, rfl⟩
  rw [← hbx] at hb0 hb1 hr hzX ⊢
  have hS : ∀ W, Below X.heap.size X W → (W.cell? ⟨bx, 0, none⟩ = some (.bool na) ∧ W.cell? ⟨bx, 1, none⟩ = some (.string sa)) ∧ W.cell? ⟨bx + 1, 0, none⟩ = some (.bool nb) ∧ W.cell? ⟨bx + 1, 1, none⟩ = some (.string sb) := fun W hW => by
    have h2 := hb0.below hW hb0.lt
    have h3 := hb1.below hW hb1.lt
    exact ⟨⟨h2.cell 0, h2.cell 1⟩, h3.cell 0, h3.cell 1⟩
  have HS := hide hS
  have HX := hide (And.intro hr (And.intro hBX (And.intro hzX hbx)))
  clear hS hr hBX hzX hbx hb0 hb1 hX
  have hq0 := HS.out X (Below.refl _ X)
  obtain ⟨⟨q0, q1⟩, q2, q3⟩ := hq0
  go_wp2_with fail
  with_reducible refine (HC.out.1 X).mono ?_
  rintro e w5 ⟨A5, c5, rfl, hlc, hsl, hB5⟩
  have H5 := hide (And.intro hlc (And.intro hsl hB5))
  clear hlc hsl hB5 q0 q1 q2 q3
  have hq0 := HS.out w5 H5.out.2.2
  obtain ⟨⟨q0, q1⟩, q2, q3⟩ := hq0
  go_wp2_with fail
  with_reducible refine (HC.out.2.1 w5).mono ?_
  rintro e w6 ⟨A6, c6, rfl, hlc, hsl, hB6⟩
  have H6 := hide (And.intro hlc (And.intro hsl (And.intro ((H5.out.2.1.below hB6).more hB6.size) (H5.out.2.2.trans (hB6.mono H5.out.2.2.size)))))
  clear hlc hsl hB6 q0 q1 q2 q3
  have hq0 := HS.out w6 H6.out.2.2.2
  obtain ⟨⟨q0, q1⟩, q2, q3⟩ := hq0
  have HQ := hide (HS.out w6.drew H6.out.2.2.2.drew)
  by_cases hn : na = nb
  · have tn : (na == nb) = true := by simp [hn]
    have HN := hide hn
    clear hn
    go_upto_region 4 with fail
    refine wp_region_mix (fun W => (W.cell? ⟨bx, 0, none⟩ = some (.bool na) ∧ W.cell? ⟨bx, 1, none⟩ = some (.string sa)) ∧ W.cell? ⟨bx + 1, 0, none⟩ = some (.bool nb) ∧ W.cell? ⟨bx + 1, 1, none⟩ = some (.string sb)) [0, 1, 2, 3] [0, 1, 2, 3, 4, 5, 6] mixed_ok (by kernel_rfl) ?_
    refine wpMix_q (v := .pointer (some ⟨bx, 0, none⟩)) rfl rfl (fun _ _ _ h => h) HQ.out ⟨rfl, fun _ h' => by simp [go_sem]⟩ ?_
    refine wpMix_q (v := .bool na) rfl rfl (fun _ _ _ h => h) HQ.out ⟨rfl, fun _ h' => by simp [go_sem, h'.1.1]⟩ ?_
    refine wpMix_q (v := .slice A5 La c5) rfl rfl (fun _ _ _ h => h) HQ.out ⟨rfl, fun _ h' => by simp [go_sem]⟩ ?_
    refine wpMix_q (v := .slice A6 Lb c6) rfl rfl (fun _ _ _ h => h) HQ.out ⟨rfl, fun _ h' => by simp [go_sem]⟩ ?_
    simp only [List.getElem_toArray, List.getElem_cons_succ, List.getElem_cons_zero]
    refine wpMix_n rfl rfl ?_
    go_wp2_with fail
    have s1 : Sl encI 1 w6.drew w6.drew.heap.size A5 la := H6.out.2.2.1
    have s2 : Sl encI 1 w6.drew w6.drew.heap.size A6 lb := H6.out.2.1
    with_reducible refine (HC.out.2.2.1 A5 A6 c5 c6 w6.drew s1 s2).mono ?_
    clear s1 s2
    rintro e w8 ⟨A8, c8, out, rfl, hc8, hl8, ho8, hv8, hs8, hB8⟩
    have hB8 : Below w6.heap.size w6 w8 := (Below.refl w6.heap.size w6).drew.trans hB8
    have hwd := HC.out.2.2.2.2.2.2 na A8 c8 out w8 (by rw [HV.out.1, HV.out.2]; exact add_same HN.out hv8) ho8 hs8 hc8 hl8
    obtain ⟨Lo, hLo⟩ : ∃ L, L = out.length := ⟨_, rfl⟩
    rw [← hLo] at hwd ⊢
    have H8 := hide (And.intro hwd (H6.out.2.2.2.trans (hB8.mono H6.out.2.2.2.size)))
    clear hwd hc8 hl8 ho8 hv8 hs8 hB8 hLo
    go_wp2_with fail
    refine ⟨fun _ => HS.out w8 H8.out.2, ?_⟩
    refine wpMix_tail _ [_, _] (by kernel_rfl) rfl ?_
    simp only [List.getElem_toArray, List.getElem_cons_succ, List.getElem_cons_zero]
    go_wp2_with fail
    with_reducible refine H8.out.1.mono ?_
    rintro e w9 ⟨rb, rs, rfl, hW, hB9⟩
    have hBX8 := H8.out.2.trans (hB9.mono H8.out.2.size)
    have hr6 := HX.out.1.below hBX8 HX.out.1.lt
    have hB9 := HX.out.2.1.trans (hBX8.mono HX.out.2.1.size)
    clear hBX8
    have r0 := hr6.cell 0
    have r1 := hr6.cell 1
    have f0 := hr6.frozen 0
    have f1 := hr6.frozen 1
    have hlt := hr6.lt
    simp only [List.getElem?_toArray, List.getElem?_cons_zero, List.getElem?_cons_succ] at r0 r1
    have hbx := HX.out.2.2.2
    have H9 := hide (And.intro hW (And.intro hB9 (And.intro hr6 hbx)))
    clear hW hB9 hr6 hbx
    go_wp2
    refine ret_at (v := .agg #[.bool rb, .string rs]) (fun W => Blk W (bx + 1 + 1) 43 #[.bool rb, .string rs]) ?_ (fun W h => ?_) rfl ⟨rb, rs, rfl, H9.out.1, ?_⟩
    · exact (H9.out.2.2.1.set_ 0 (.bool rb)).set_ 1 (.string rs)
    · have a0 := h.cell 0
      have a1 := h.cell 1
      simp only [List.getElem?_toArray, List.getElem?_cons_zero, List.getElem?_cons_succ] at a0 a1
      simp [results, Try.results36, go_sem, a0, a1]
    · have := H9.out.2.2.2
      exact (H9.out.2.1.setCell (by dsimp only; omega) _).setCell (by dsimp only; omega) _
  · have tn : (na == nb) = false := by simp [hn]
    have HN := hide hn
    clear hn
    go_wp2_with fail
    with_reducible refine (HC.out.2.2.2.1 A5 A6 c5 c6 w6 H6.out.2.2.1 H6.out.2.1).mono ?_
    rintro e w7 ⟨r, rfl, hr0, hB7⟩
    have H7 := hide (And.intro hr0 (And.intro ((H6.out.2.2.1.below hB7).more hB7.size) (And.intro ((H6.out.2.1.below hB7).more hB7.size) (H6.out.2.2.2.trans (hB7.mono H6.out.2.2.2.size)))))
    clear hr0 hB7 q0 q1 q2 q3 HQ
    have HQ := hide (HS.out w7.drew H7.out.2.2.2.drew)
    by_cases hc0 : (0 : Int) ≤ r
    · have HV0 := hide (H7.out.1.1 hc0)
      go_upto_region 6 with fail
      refine wp_region_mix (fun W => (W.cell? ⟨bx, 0, none⟩ = some (.bool na) ∧ W.cell? ⟨bx, 1, none⟩ = some (.string sa)) ∧ W.cell? ⟨bx + 1, 0, none⟩ = some (.bool nb) ∧ W.cell? ⟨bx + 1, 1, none⟩ = some (.string sb)) [0, 1, 2, 3] [0, 1, 2, 3, 4, 5, 6] mixed_ok (by kernel_rfl) ?_
      refine wpMix_q (v := .pointer (some ⟨bx, 0, none⟩)) rfl rfl (fun _ _ _ h => h) HQ.out ⟨rfl, fun _ h' => by simp [go_sem]⟩ ?_
      refine wpMix_q (v := .bool na) rfl rfl (fun _ _ _ h => h) HQ.out ⟨rfl, fun _ h' => by simp [go_sem, h'.1.1]⟩ ?_
      refine wpMix_q (v := .slice A5 La c5) rfl rfl (fun _ _ _ h => h) HQ.out ⟨rfl, fun _ h' => by simp [go_sem]⟩ ?_
      refine wpMix_q (v := .slice A6 Lb c6) rfl rfl (fun _ _ _ h => h) HQ.out ⟨rfl, fun _ h' => by simp [go_sem]⟩ ?_
      simp only [List.getElem_toArray, List.getElem_cons_succ, List.getElem_cons_zero]
      refine wpMix_n rfl rfl ?_
      go_wp2_with fail
      have s1 : Sl encI 1 w7.drew w7.drew.heap.size A5 la := H7.out.2.1
      have s2 : Sl encI 1 w7.drew w7.drew.heap.size A6 lb := H7.out.2.2.1
      with_reducible refine (HC.out.2.2.2.2.1 A5 A6 c5 c6 w7.drew s1 s2 HV0.out).mono ?_
      clear s1 s2
      rintro e w8 ⟨A8, c8, out, rfl, hc8, hl8, ho8, hv8, hs8, hB8⟩
      have hB8 : Below w7.heap.size w7 w8 := (Below.refl w7.heap.size w7).drew.trans hB8
      have hwd := HC.out.2.2.2.2.2.2 na A8 c8 out w8 (by rw [HV.out.1, HV.out.2]; exact add_left HN.out hv8) ho8 hs8 hc8 hl8
      obtain ⟨Lo, hLo⟩ : ∃ L, L = out.length := ⟨_, rfl⟩
      rw [← hLo] at hwd ⊢
      have H8 := hide (And.intro hwd (H7.out.2.2.2.trans (hB8.mono H7.out.2.2.2.size)))
      clear hwd hc8 hl8 ho8 hv8 hs8 hB8 hLo
      go_wp2_with fail
      refine ⟨fun _ => HS.out w8 H8.out.2, ?_⟩
      refine wpMix_tail _ [_, _] (by kernel_rfl) rfl ?_
      simp only [List.getElem_toArray, List.getElem_cons_succ, List.getElem_cons_zero]
      go_wp2_with fail
      with_reducible refine H8.out.1.mono ?_
      rintro e w9 ⟨rb, rs, rfl, hW, hB9⟩
      have hBX8 := H8.out.2.trans (hB9.mono H8.out.2.size)
      have hr6 := HX.out.1.below hBX8 HX.out.1.lt
      have hB9 := HX.out.2.1.trans (hBX8.mono HX.out.2.1.size)
      clear hBX8
      have r0 := hr6.cell 0
      have r1 := hr6.cell 1
      have f0 := hr6.frozen 0
      have f1 := hr6.frozen 1
      have hlt := hr6.lt
      simp only [List.getElem?_toArray, List.getElem?_cons_zero, List.getElem?_cons_succ] at r0 r1
      have hbx := HX.out.2.2.2
      have H9 := hide (And.intro hW (And.intro hB9 (And.intro hr6 hbx)))
      clear hW hB9 hr6 hbx
      go_wp2
      refine ret_at (v := .agg #[.bool rb, .string rs]) (fun W => Blk W (bx + 1 + 1) 43 #[.bool rb, .string rs]) ?_ (fun W h => ?_) rfl ⟨rb, rs, rfl, H9.out.1, ?_⟩
      · exact (H9.out.2.2.1.set_ 0 (.bool rb)).set_ 1 (.string rs)
      · have a0 := h.cell 0
        have a1 := h.cell 1
        simp only [List.getElem?_toArray, List.getElem?_cons_zero, List.getElem?_cons_succ] at a0 a1
        simp [results, Try.results36, go_sem, a0, a1]
      · have := H9.out.2.2.2
        exact (H9.out.2.1.setCell (by dsimp only; omega) _).setCell (by dsimp only; omega) _
    · have HV0 := hide (show valD la ≤ valD lb by have := mt H7.out.1.2 hc0; omega)
      go_upto_region 7 with fail
      refine wp_region_mix (fun W => (W.cell? ⟨bx, 0, none⟩ = some (.bool na) ∧ W.cell? ⟨bx, 1, none⟩ = some (.string sa)) ∧ W.cell? ⟨bx + 1, 0, none⟩ = some (.bool nb) ∧ W.cell? ⟨bx + 1, 1, none⟩ = some (.string sb)) [0, 1, 2, 3] [0, 1, 2, 3, 4, 5, 6] mixed_ok (by kernel_rfl) ?_
      refine wpMix_q (v := .pointer (some ⟨bx + 1, 0, none⟩)) rfl rfl (fun _ _ _ h => h) HQ.out ⟨rfl, fun _ h' => by simp [go_sem]⟩ ?_
      refine wpMix_q (v := .bool nb) rfl rfl (fun _ _ _ h => h) HQ.out ⟨rfl, fun _ h' => by simp [go_sem, h'.2.1]⟩ ?_
      refine wpMix_q (v := .slice A6 Lb c6) rfl rfl (fun _ _ _ h => h) HQ.out ⟨rfl, fun _ h' => by simp [go_sem]⟩ ?_
      refine wpMix_q (v := .slice A5 La c5) rfl rfl (fun _ _ _ h => h) HQ.out ⟨rfl, fun _ h' => by simp [go_sem]⟩ ?_
      simp only [List.getElem_toArray, List.getElem_cons_succ, List.getElem_cons_zero]
      refine wpMix_n rfl rfl ?_
      go_wp2_with fail
      have s1 : Sl encI 1 w7.drew w7.drew.heap.size A6 lb := H7.out.2.2.1
      have s2 : Sl encI 1 w7.drew w7.drew.heap.size A5 la := H7.out.2.1
      with_reducible refine (HC.out.2.2.2.2.2.1 A5 A6 c5 c6 w7.drew s1 s2 HV0.out).mono ?_
      clear s1 s2
      rintro e w8 ⟨A8, c8, out, rfl, hc8, hl8, ho8, hv8, hs8, hB8⟩
      have hB8 : Below w7.heap.size w7 w8 := (Below.refl w7.heap.size w7).drew.trans hB8
      have hwd := HC.out.2.2.2.2.2.2 nb A8 c8 out w8 (by rw [HV.out.1, HV.out.2]; exact add_right HN.out hv8) ho8 hs8 hc8 hl8
      obtain ⟨Lo, hLo⟩ : ∃ L, L = out.length := ⟨_, rfl⟩
      rw [← hLo] at hwd ⊢
      have H8 := hide (And.intro hwd (H7.out.2.2.2.trans (hB8.mono H7.out.2.2.2.size)))
      clear hwd hc8 hl8 ho8 hv8 hs8 hB8 hLo
      go_wp2_with fail
      refine ⟨fun _ => HS.out w8 H8.out.2, ?_⟩
      refine wpMix_tail _ [_, _] (by kernel_rfl) rfl ?_
      simp only [List.getElem_toArray, List.getElem_cons_succ, List.getElem_cons_zero]
      go_wp2_with fail
      with_reducible refine H8.out.1.mono ?_
      rintro e w9 ⟨rb, rs, rfl, hW, hB9⟩
      have hBX8 := H8.out.2.trans (hB9.mono H8.out.2.size)
      have hr6 := HX.out.1.below hBX8 HX.out.1.lt
      have hB9 := HX.out.2.1.trans (hBX8.mono HX.out.2.1.size)
      clear hBX8
      have r0 := hr6.cell 0
      have r1 := hr6.cell 1
      have f0 := hr6.frozen 0
      have f1 := hr6.frozen 1
      have hlt := hr6.lt
      simp only [List.getElem?_toArray, List.getElem?_cons_zero, List.getElem?_cons_succ] at r0 r1
      have hbx := HX.out.2.2.2
      have H9 := hide (And.intro hW (And.intro hB9 (And.intro hr6 hbx)))
      clear hW hB9 hr6 hbx
      go_wp2
      refine ret_at (v := .agg #[.bool rb, .string rs]) (fun W => Blk W (bx + 1 + 1) 43 #[.bool rb, .string rs]) ?_ (fun W h => ?_) rfl ⟨rb, rs, rfl, H9.out.1, ?_⟩
      · exact (H9.out.2.2.1.set_ 0 (.bool rb)).set_ 1 (.string rs)
      · have a0 := h.cell 0
        have a1 := h.cell 1
        simp only [List.getElem?_toArray, List.getElem?_cons_zero, List.getElem?_cons_succ] at a0 a1
        simp [results, Try.results36, go_sem, a0, a1]
      · have := H9.out.2.2.2
        exact (H9.out.2.1.setCell (by dsimp only; omega) _).setCell (by dsimp only; omega) _
set_option maxRecDepth 100000 in
set_option maxHeartbeats 16000000 in
theorem subW_any (va vb : Value) (x y : Int) (ha : WideI va x) (hb : WideI vb y) (sx : x.natAbs < 65536 ^ 8) (sy : y.natAbs < 65536 ^ 8) (w : World) :
    Calls Try.prog 82 #[va, vb] w fun e w' => ∃ b s, e = .returned (.agg #[.bool b, .string s]) ∧ WideI (.agg #[.bool b, .string s]) (x - y) ∧ Below w.heap.size w w' := by
  have hng := fun W => negW_any vb y hb sy W
  have had := fun b s (hv : WideI (.agg #[.bool b, .string s]) (-y)) W => addW_any va (.agg #[.bool b, .string s]) x (-y) ha hv sx (by rw [Int.natAbs_neg]; exact sy) W
  rw [show x + -y = x - y by omega] at had
  obtain ⟨na, sa, rfl⟩ := ha.form
  obtain ⟨nb, sb, rfl⟩ := hb.form
  have HC := hide (And.intro hng had)
  clear hng had ha hb sx sy
  go_enter Try.func82, Try.ntmps82
  go_upto_region 1 with fail
  obtain ⟨X, hX⟩ : ∃ X, X = ((w.alloc (.cells #[.bool na, .string sa] 43)).alloc (.cells #[.bool nb, .string sb] 43)).alloc (.cells #[.bool false, .string ⟨#[]⟩] 43) := ⟨_, rfl⟩
  rw [← hX]
  have hb0 : Blk X w.heap.size 43 #[.bool na, .string sa] := by rw [hX]; exact ((Blk.new _ _ _).alloc _).alloc _
  have hb1 : Blk X (w.heap.size + 1) 43 #[.bool nb, .string sb] := by rw [hX]; exact (Blk.new' _ _ _ _ (by simp)).alloc _
  have hr : Blk X (w.heap.size + 1 + 1) 43 #[.bool false, .string ⟨#[]⟩] := by rw [hX]; exact Blk.new' _ _ _ _ (by simp)
  have hBX : Below w.heap.size w X := by rw [hX]; exact (((Below.refl _ w).alloc (Nat.le_refl _) _).alloc (by simp) _).alloc (by simp; omega) _
  have hzX : X.heap.size = w.heap.size + 3 := by rw [hX]; simp
  obtain ⟨bx, hbx⟩ : ∃ b, b = w.heap.size := ⟨_, rfl⟩
  rw [← hbx] at hb0 hb1 hr hzX ⊢
  have hS : ∀ W, Below X.heap.size X W → (W.cell? ⟨bx, 0, none⟩ = some (.bool na) ∧ W.cell? ⟨bx, 1, none⟩ = some (.string sa)) ∧ W.cell? ⟨bx + 1, 0, none⟩ = some (.bool nb) ∧ W.cell? ⟨bx + 1, 1, none⟩ = some (.string sb) := fun W hW => by
    have h2 := hb0.below hW hb0.lt
    have h3 := hb1.below hW hb1.lt
    exact ⟨⟨h2.cell 0, h2.cell 1⟩, h3.cell 0, h3.cell 1⟩
  have HS := hide hS
  have HX := hide (And.intro hr (And.intro hBX (And.intro hzX hbx)))
  clear hS hr hBX hzX hbx hb0 hb1 hX
  have HQ := hide (HS.out X.drew (Below.refl _ X).drew)
  refine wp_region_mix (fun W => (W.cell? ⟨bx, 0, none⟩ = some (.bool na) ∧ W.cell? ⟨bx, 1, none⟩ = some (.string sa)) ∧ W.cell? ⟨bx + 1, 0, none⟩ = some (.bool nb) ∧ W.cell? ⟨bx + 1, 1, none⟩ = some (.string sb)) [0, 1] [0, 1, 2, 3, 4] mixed_ok (by kernel_rfl) ?_
  refine wpMix_q (v := .agg #[.bool na, .string sa]) rfl rfl (fun _ _ _ h => h) HQ.out ⟨rfl, fun _ h' => by simp [go_sem, h'.1.1, h'.1.2]⟩ ?_
  refine wpMix_q (v := .agg #[.bool nb, .string sb]) rfl rfl (fun _ _ _ h => h) HQ.out ⟨rfl, fun _ h' => by simp [go_sem, h'.2.1, h'.2.2]⟩ ?_
  simp only [List.getElem_toArray, List.getElem_cons_succ, List.getElem_cons_zero]
  refine wpMix_n rfl rfl ?_
  go_wp2_with fail
  with_reducible refine (HC.out.1 X.drew).mono ?_
  rintro e w5 ⟨nb5, sb5, rfl, hW5, hB5⟩
  have hB5 : Below X.heap.size X w5 := (Below.refl X.heap.size X).drew.trans hB5
  have H5 := hide (And.intro hW5 hB5)
  clear hW5 hB5
  go_wp2_with fail
  refine ⟨fun _ => HS.out w5 H5.out.2, ?_⟩
  refine wpMix_tail _ [_, _] (by kernel_rfl) rfl ?_
  simp only [List.getElem_toArray, List.getElem_cons_succ, List.getElem_cons_zero]
  go_wp2_with fail
  with_reducible refine (HC.out.2 nb5 sb5 H5.out.1 w5).mono ?_
  rintro e w8 ⟨rb, rs, rfl, hW, hB8⟩
  have hBX8 := H5.out.2.trans (hB8.mono H5.out.2.size)
  have hr6 := HX.out.1.below hBX8 HX.out.1.lt
  have hB9 := HX.out.2.1.trans (hBX8.mono HX.out.2.1.size)
  clear hB8 hBX8
  have r0 := hr6.cell 0
  have r1 := hr6.cell 1
  have f0 := hr6.frozen 0
  have f1 := hr6.frozen 1
  have hlt := hr6.lt
  simp only [List.getElem?_toArray, List.getElem?_cons_zero, List.getElem?_cons_succ] at r0 r1
  have hbx := HX.out.2.2.2
  have H9 := hide (And.intro hW (And.intro hB9 (And.intro hr6 hbx)))
  clear hW hB9 hr6 hbx
  go_wp2
  refine ret_at (v := .agg #[.bool rb, .string rs]) (fun W => Blk W (bx + 1 + 1) 43 #[.bool rb, .string rs]) ?_ (fun W h => ?_) rfl ⟨rb, rs, rfl, H9.out.1, ?_⟩
  · exact (H9.out.2.2.1.set_ 0 (.bool rb)).set_ 1 (.string rs)
  · have a0 := h.cell 0
    have a1 := h.cell 1
    simp only [List.getElem?_toArray, List.getElem?_cons_zero, List.getElem?_cons_succ] at a0 a1
    simp [results, Try.results82, go_sem, a0, a1]
  · have := H9.out.2.2.2
    exact (H9.out.2.1.setCell (by dsimp only; omega) _).setCell (by dsimp only; omega) _
end Go.Proofs.Ytfljcgehhnmamaa
/- ref01.Sign, ref01.From (of what is not negative). -/
namespace Go.Proofs.Ytfljcgehhnmamaa
open Go.RowKit Go.Sort
theorem sign_nil {neg : Bool} : intD neg [] = 0 := by unfold intD; cases neg <;> simp [valD]
theorem sign_pos {neg : Bool} {l : List Nat} (ht : trimD l = l) (hne : l ≠ []) : (intD neg l).sign = if neg then -1 else 1 := by
  have h0 : 0 < valD l := Nat.pos_of_ne_zero fun h => hne (val_zero ht h)
  unfold intD
  cases neg
  · rw [if_neg (by decide), if_neg (by decide)]; exact Int.sign_eq_one_of_pos (by omega)
  · rw [if_pos rfl, if_pos rfl]; exact Int.sign_eq_neg_one_of_neg (by omega)
set_option maxRecDepth 100000 in
set_option maxHeartbeats 16000000 in
theorem signW_any (v : Value) (x : Int) (hv : WideI v x) (sx : x.natAbs < 65536 ^ 8) (w : World) :
    Calls Try.prog 19 #[v] w fun e w' => e = .returned (.int .i64 x.sign) ∧ Below w.heap.size w w' := by
  obtain ⟨na, la, rfl, oa, ta, hx, _⟩ := hv
  have l8 := wide_len ta (by rw [← hx]; exact sx)
  have hdg := fun W => digitsW_any na la oa ta (by omega) W
  have hs0 : la = [] → x.sign = 0 := fun h => by rw [hx, h, sign_nil]; rfl
  have hs1 : la ≠ [] → x.sign = if na then -1 else 1 := fun h => by rw [hx]; exact sign_pos ta h
  obtain ⟨sg, hsg⟩ : ∃ s, s = x.sign := ⟨_, rfl⟩
  rw [← hsg] at hs0 hs1 ⊢
  obtain ⟨s, hs⟩ : ∃ s, s = strB la := ⟨_, rfl⟩
  have hwv : wvalV na la = .agg #[.bool na, .string s] := by rw [hs]; rfl
  rw [hwv] at hdg ⊢
  obtain ⟨L, hL⟩ : ∃ L, L = la.length := ⟨_, rfl⟩
  rw [← hL] at hdg
  have HC := hide (And.intro hdg (And.intro hs0 (And.intro hs1 hL)))
  clear hdg hwv hs oa ta hx sx hL l8 hs0 hs1 hsg
  go_enter Try.func19, Try.ntmps19
  go_upto_region 1 with fail
  obtain ⟨X, hX⟩ : ∃ X, X = w.alloc (.cells #[.bool na, .string s] 43) := ⟨_, rfl⟩
  rw [← hX]
  have hb : Blk X w.heap.size 43 #[.bool na, .string s] := by rw [hX]; exact Blk.new _ _ _
  have hBX : Below w.heap.size w X := by rw [hX]; exact (Below.refl _ w).alloc (Nat.le_refl _) _
  obtain ⟨bx, hbx⟩ : ∃ b, b = w.heap.size := ⟨_, rfl⟩
  rw [← hbx] at hb ⊢
  have g0 : X.cell? ⟨bx, 0, none⟩ = some (.bool na) := hb.cell 0
  have g1 : X.cell? ⟨bx, 1, none⟩ = some (.string s) := hb.cell 1
  have HX := hide (And.intro hb (And.intro hBX hbx))
  clear hb hBX hbx hX
  go_wp2_with fail
  with_reducible refine (HC.out.1 X).mono ?_
  rintro e w5 ⟨A5, c5, rfl, _, _, hB5⟩
  have h2 := HX.out.1.below hB5 HX.out.1.lt
  have HB := hide (HX.out.2.1.trans (hB5.mono HX.out.2.1.size))
  have k0 : w5.cell? ⟨bx, 0, none⟩ = some (.bool na) := h2.cell 0
  have k1 : w5.cell? ⟨bx, 1, none⟩ = some (.string s) := h2.cell 1
  clear h2 hB5 g0 g1
  by_cases h0 : L = 0
  · subst h0
    have HE := hide (HC.out.2.1 (List.eq_nil_of_length_eq_zero HC.out.2.2.2.symm))
    go_wp2
    go_ret
    exact ⟨by rw [HE.out]; rfl, HB.out⟩
  · have t0 : ((L : Int) == 0) = false := beq_eq_false_iff_ne.2 (by omega)
    have HE := hide (HC.out.2.2.1 (fun e => h0 (by rw [HC.out.2.2.2, e]; rfl)))
    clear h0
    cases na
    · go_wp2
      go_ret
      exact ⟨by rw [HE.out]; rfl, HB.out⟩
    · go_wp2
      go_ret
      exact ⟨by rw [HE.out]; rfl, HB.out⟩
theorem u64_small {a : Int} (h0 : 0 ≤ a) (h1 : a < 1099511627776) : IntKind.u64.wrap a = a := by
  have e : IntKind.u64.wrap a = a % 18446744073709551616 := by simp [IntKind.wrap, IntKind.bits, IntKind.signed]
  rw [e]
  omega
theorem pow_few {k m v n : Nat} (h : v + 65536 ^ k * m = n) (hm : 0 < m) (hn : n < 1099511627776) : k ≤ 2 := by
  rcases Nat.lt_or_ge 2 k with hk | hk
  · have h1 : 65536 ^ 3 ≤ 65536 ^ k := Nat.pow_le_pow_right (by omega) (by omega)
    have h2 : 65536 ^ k * 1 ≤ 65536 ^ k * m := Nat.mul_le_mul_left _ hm
    omega
  · exact hk
theorem from_step {out : List Nat} {k m n : Nat} (hl : out.length = k) (h : valD out + 65536 ^ k * m = n) : valD (out ++ [m % 65536]) + 65536 ^ (k + 1) * (m / 65536) = n := by
  have e : 65536 ^ k * (m % 65536) + 65536 ^ (k + 1) * (m / 65536) = 65536 ^ k * m := by
    rw [Nat.pow_succ, Nat.mul_assoc, ← Nat.mul_add, Nat.mod_add_div]
  rw [valD_snoc, hl]
  omega
set_option maxRecDepth 100000 in
set_option maxHeartbeats 16000000 in
theorem fromW_any (n : Nat) (hn : n < 1099511627776) (w : World) :
    Calls Try.prog 35 #[.int .i64 n] w fun e w' => ∃ b s, e = .returned (.agg #[.bool b, .string s]) ∧ WideI (.agg #[.bool b, .string s]) (n : Int) ∧ Below w.heap.size w w' := by
  have i0 : ¬ (n : Int) < 0 := by omega
  have iu : IntKind.u64.wrap (n : Int) = (n : Int) := u64_small (by omega) (by omega)
  go_enter Try.func35, Try.ntmps35
  go_upto_region 1 with fail
  obtain ⟨X, hX⟩ : ∃ X, X = w.alloc (.cells #[.bool false, .string ⟨#[]⟩] 43) := ⟨_, rfl⟩
  rw [← hX]
  have hb : Blk X w.heap.size 43 #[.bool false, .string ⟨#[]⟩] := by rw [hX]; exact Blk.new _ _ _
  have hBX : Below w.heap.size w X := by rw [hX]; exact (Below.refl _ w).alloc (Nat.le_refl _) _
  obtain ⟨bx, hbx⟩ : ∃ b, b = w.heap.size := ⟨_, rfl⟩
  rw [← hbx] at hb ⊢
  have HX := hide (And.intro hb (And.intro hBX hbx))
  clear hb hBX hbx hX
  go_wp2
  go_loopw [3, 4] (fun ov mv wr => ∃ (k m : Nat) (out : List Nat), mv = .int .u64 m ∧ Own encI 1 3 wr X.heap.size ov k out ∧ okD out ∧ valD out + 65536 ^ k * m = n ∧ k ≤ 3 ∧ Below X.heap.size X wr) (fun _ mv _ => (intOf mv).toNat)
  case atStart => exact ⟨0, n, [], rfl, Own.nil, (fun x hx => by cases hx), by simp [valD], by omega, Below.refl _ X⟩
  case round =>
    obtain ⟨k, m, out, rfl, hown, hok, hval, hk, hB⟩ := hrel
    obtain ⟨V, rfl⟩ : ∃ V, V = wr := ⟨_, rfl⟩
    obtain ⟨A1, c1, rfl⟩ := hown.form
    have hzr := hB.size
    by_cases hm0 : m = 0
    · subst hm0
      have i1 : ¬ (0 : Int) < ((0 : Nat) : Int) := by omega
      rw [Nat.mul_zero, Nat.add_zero] at hval
      have hwd := wideE_any false A1 c1 out V (hown.sl encI_len (Nat.le_refl _)) (by rw [← hown.1]; exact hown.place.1) hok (by rw [← hown.1]; omega) (n : Int) (by rw [← hval]; rfl)
      rw [← hown.1] at hwd
      have hr := HX.out.1.below hB HX.out.1.lt
      have H5 := hide (And.intro hwd (And.intro hr (HX.out.2.1.trans (hB.mono HX.out.2.1.size))))
      clear hwd hr hval hown hok hB i1
      go_wp2_with fail
      rw [decide_eq_false (show ¬ (n : Int) < 0 by omega)]
      with_reducible refine H5.out.1.mono ?_
      rintro e w8 ⟨rb, rs, rfl, hW, hB8⟩
      have hr6 := H5.out.2.1.below hB8 H5.out.2.1.lt
      have hB9 := H5.out.2.2.trans (hB8.mono H5.out.2.2.size)
      have r0 := hr6.cell 0
      have r1 := hr6.cell 1
      have f0 := hr6.frozen 0
      have f1 := hr6.frozen 1
      have hlt := hr6.lt
      simp only [List.getElem?_toArray, List.getElem?_cons_zero, List.getElem?_cons_succ] at r0 r1
      have hbx := HX.out.2.2
      have H9 := hide (And.intro hW (And.intro hB9 (And.intro hr6 hbx)))
      clear hW hB9 hr6 hbx hB8
      go_wp2
      refine ret_at (v := .agg #[.bool rb, .string rs]) (fun W => Blk W bx 43 #[.bool rb, .string rs]) ?_ (fun W h => ?_) rfl ⟨rb, rs, rfl, H9.out.1, ?_⟩
      · exact (H9.out.2.2.1.set_ 0 (.bool rb)).set_ 1 (.string rs)
      · have a0 := h.cell 0
        have a1 := h.cell 1
        simp only [List.getElem?_toArray, List.getElem?_cons_zero, List.getElem?_cons_succ] at a0 a1
        simp [results, Try.results35, go_sem, a0, a1]
      · have := H9.out.2.2.2
        exact (H9.out.2.1.setCell (by dsimp only; omega) _).setCell (by dsimp only; omega) _
    · have i1 : (0 : Int) < (m : Int) := by omega
      have hk2 := pow_few hval (by omega) hn
      have hst := from_step hown.1.symm hval
      have hmn : m ≤ n := by
        have h2 : 1 * m ≤ 65536 ^ k * m := Nat.mul_le_mul_right _ (Nat.pow_pos (by omega))
        omega
      obtain ⟨r, hr⟩ : ∃ r, r = m % 65536 := ⟨_, rfl⟩
      obtain ⟨q, hq⟩ : ∃ q, q = m / 65536 := ⟨_, rfl⟩
      rw [← hr, ← hq] at hst
      have t1 : (m : Int) % 65536 = (r : Int) := by omega
      have t2 : (m : Int) / 65536 = (q : Int) := by omega
      have hr6 : r < 65536 := by omega
      have hqm : q < m := by omega
      have ur : IntKind.u64.wrap (r : Int) = (r : Int) := u64_small (by omega) (by omega)
      have uq : IntKind.u64.wrap (q : Int) = (q : Int) := u64_small (by omega) (by omega)
      have HT := hide (And.intro hst (And.intro hok (And.intro hr6 (And.intro hk2 (And.intro hqm hB)))))
      have HO := hide (hown.alloc (.cells (encI r).toArray 3))
      clear hst hok hr hq hk2 hk hB hown hval hm0 hmn hqm
      go_wp2_with (at_builtin; refine wpList_append1 rfl _ _ _ rfl Try.underlying22 infoI1 rfl (by omega) encI_len encI_one rfl HO.out V.heap.size 1 r rfl (Blk.new _ _ _) (by unfold maxLen; have := HT.out.2.2.2.1; omega) (by have := HT.out.2.2.2.1; omega) (by simp; omega) ?_; intro g cap w7 hown7 hg7 hB7 hat7 hgb7 hlt7)
      go_roundw
      case rel =>
        obtain ⟨hst, hok, hr6, hk2, hqm, hB⟩ := HT.out
        exact ⟨k + 1, q, out ++ [r], rfl, hown7, okD_snoc hok hr6, hst, by omega, (hB.alloc hzr _).trans hB7⟩
      case measure => have := HT.out.2.2.2.2.1; (simp [intOf]; try omega)
end Go.Proofs.Ytfljcgehhnmamaa
/- ref04.minor. -/
namespace Go.Proofs.Ytfljcgehhnmamaa
open Go.RowKit Go.Sort
theorem small_mul {a b : Nat} (ha : a < 1099511627776) (hb : b < 1099511627776) : ((a : Int) * (b : Int)).natAbs < 65536 ^ 8 := by
  rw [Int.natAbs_mul, Int.natAbs_natCast, Int.natAbs_natCast]
  have : a * b ≤ 1099511627776 * 1099511627776 := Nat.mul_le_mul (by omega) (by omega)
  omega
set_option maxRecDepth 100000 in
set_option maxHeartbeats 16000000 in
theorem minorW_any (a b c d : Nat) (ha : a < 1099511627776) (hb : b < 1099511627776) (hc : c < 1099511627776) (hd : d < 1099511627776) (w : World) :
    Calls Try.prog 62 #[.int .i64 a, .int .i64 b, .int .i64 c, .int .i64 d] w fun e w' => ∃ r s, e = .returned (.agg #[.bool r, .string s]) ∧ WideI (.agg #[.bool r, .string s]) ((a : Int) * b - (c : Int) * d) ∧ Below w.heap.size w w' := by
  have HA := hide (And.intro ha (And.intro hb (And.intro hc hd)))
  clear ha hb hc hd
  go_enter Try.func62, Try.ntmps62
  go_upto_region 1 with fail
  obtain ⟨X, hX⟩ : ∃ X, X = w.alloc (.cells #[.bool false, .string ⟨#[]⟩] 43) := ⟨_, rfl⟩
  rw [← hX]
  have hb : Blk X w.heap.size 43 #[.bool false, .string ⟨#[]⟩] := by rw [hX]; exact Blk.new _ _ _
  have hBX : Below w.heap.size w X := by rw [hX]; exact (Below.refl _ w).alloc (Nat.le_refl _) _
  obtain ⟨bx, hbx⟩ : ∃ b, b = w.heap.size := ⟨_, rfl⟩
  rw [← hbx] at hb ⊢
  have HX := hide (And.intro hb (And.intro hBX hbx))
  clear hb hBX hbx hX
  go_wp2_with fail
  with_reducible refine (fromW_any a HA.out.1 X).mono ?_
  rintro e w1 ⟨b1, s1, rfl, hW1, hB1⟩
  have H1 := hide (And.intro hW1 hB1)
  clear hW1 hB1
  go_wp2_with fail
  with_reducible refine (fromW_any b HA.out.2.1 w1).mono ?_
  rintro e w2 ⟨b2, s2, rfl, hW2, hB2⟩
  have H2 := hide (And.intro hW2 (H1.out.2.trans (hB2.mono H1.out.2.size)))
  clear hW2 hB2
  go_wp2_with fail
  with_reducible refine (mulW_any _ _ _ _ H1.out.1 H2.out.1 (by have := HA.out.1; omega) (by have := HA.out.2.1; omega) w2).mono ?_
  rintro e w3 ⟨b3, s3, rfl, hW3, hB3⟩
  have H3 := hide (And.intro hW3 (H2.out.2.trans (hB3.mono H2.out.2.size)))
  clear hW3 hB3
  go_upto_region 2 with fail
  obtain ⟨Y, hY⟩ : ∃ Y, Y = w3.alloc (.cells #[.bool b3, .string s3] 43) := ⟨_, rfl⟩
  rw [← hY]
  have hy : Blk Y w3.heap.size 43 #[.bool b3, .string s3] := by rw [hY]; exact Blk.new _ _ _
  have hBY : Below X.heap.size X Y := by rw [hY]; exact H3.out.2.alloc H3.out.2.size _
  obtain ⟨by1, hby⟩ : ∃ b, b = w3.heap.size := ⟨_, rfl⟩
  rw [← hby] at hy ⊢
  have HY := hide (And.intro hy (And.intro hBY hby))
  clear hy hBY hby hY
  go_wp2_with fail
  with_reducible refine (fromW_any c HA.out.2.2.1 Y).mono ?_
  rintro e w4 ⟨b4, s4, rfl, hW4, hB4⟩
  have H4 := hide (And.intro hW4 hB4)
  clear hW4 hB4
  go_wp2_with fail
  with_reducible refine (fromW_any d HA.out.2.2.2 w4).mono ?_
  rintro e w5 ⟨b5, s5, rfl, hW5, hB5⟩
  have H5 := hide (And.intro hW5 (H4.out.2.trans (hB5.mono H4.out.2.size)))
  clear hW5 hB5
  go_wp2_with fail
  with_reducible refine (mulW_any _ _ _ _ H4.out.1 H5.out.1 (by have := HA.out.2.2.1; omega) (by have := HA.out.2.2.2; omega) w5).mono ?_
  rintro e w6 ⟨b6, s6, rfl, hW6, hB6⟩
  have H6 := hide (And.intro hW6 (H5.out.2.trans (hB6.mono H5.out.2.size)))
  clear hW6 hB6
  go_upto_region 3 with fail
  obtain ⟨Z, hZ⟩ : ∃ Z, Z = w6.alloc (.cells #[.bool b6, .string s6] 43) := ⟨_, rfl⟩
  rw [← hZ]
  have hz : Blk Z w6.heap.size 43 #[.bool b6, .string s6] := by rw [hZ]; exact Blk.new _ _ _
  have hBZ : Below Y.heap.size Y Z := by rw [hZ]; exact H6.out.2.alloc H6.out.2.size _
  obtain ⟨bz, hbz⟩ : ∃ b, b = w6.heap.size := ⟨_, rfl⟩
  rw [← hbz] at hz ⊢
  have hyZ := HY.out.1.below hBZ HY.out.1.lt
  have k0 : Z.cell? ⟨by1, 0, none⟩ = some (.bool b3) := hyZ.cell 0
  have k1 : Z.cell? ⟨by1, 1, none⟩ = some (.string s3) := hyZ.cell 1
  have k2 : Z.cell? ⟨bz, 0, none⟩ = some (.bool b6) := hz.cell 0
  have k3 : Z.cell? ⟨bz, 1, none⟩ = some (.string s6) := hz.cell 1
  have HZ := hide (HY.out.2.1.trans (hBZ.mono HY.out.2.1.size))
  clear hz hBZ hbz hZ hyZ
  go_wp2_with fail
  with_reducible refine (subW_any _ _ _ _ H3.out.1 H6.out.1 (small_mul HA.out.1 HA.out.2.1) (small_mul HA.out.2.2.1 HA.out.2.2.2) Z).mono ?_
  rintro e w8 ⟨rb, rs, rfl, hW, hB8⟩
  have hBX8 := HZ.out.trans (hB8.mono HZ.out.size)
  have hr6 := HX.out.1.below hBX8 HX.out.1.lt
  have hB9 := HX.out.2.1.trans (hBX8.mono HX.out.2.1.size)
  have r0 := hr6.cell 0
  have r1 := hr6.cell 1
  have f0 := hr6.frozen 0
  have f1 := hr6.frozen 1
  have hlt := hr6.lt
  simp only [List.getElem?_toArray, List.getElem?_cons_zero, List.getElem?_cons_succ] at r0 r1
  have hbx := HX.out.2.2
  have H9 := hide (And.intro hW (And.intro hB9 (And.intro hr6 hbx)))
  clear hW hB9 hr6 hbx hB8 k0 k1 k2 k3 hBX8
  go_wp2
  refine ret_at (v := .agg #[.bool rb, .string rs]) (fun W => Blk W bx 43 #[.bool rb, .string rs]) ?_ (fun W h => ?_) rfl ⟨rb, rs, rfl, H9.out.1, ?_⟩
  · exact (H9.out.2.2.1.set_ 0 (.bool rb)).set_ 1 (.string rs)
  · have a0 := h.cell 0
    have a1 := h.cell 1
    simp only [List.getElem?_toArray, List.getElem?_cons_zero, List.getElem?_cons_succ] at a0 a1
    simp [results, Try.results62, go_sem, a0, a1]
  · have := H9.out.2.2.2
    exact (H9.out.2.1.setCell (by dsimp only; omega) _).setCell (by dsimp only; omega) _
end Go.Proofs.Ytfljcgehhnmamaa
/- ref04.Det (printed by mk_WdC.py). -/
namespace Go.Proofs.Ytfljcgehhnmamaa
open Go.RowKit Go.Sort
def PtN (p : Nat × Nat × Nat) : Value := .agg #[.int .i64 (p.1 : Int), .int .i64 (p.2.1 : Int), .int .i64 (p.2.2 : Int)]
def lowN (p : Nat × Nat × Nat) : Prop := p.1 < 16777216 ∧ p.2.1 < 16777216 ∧ p.2.2 < 16777216
def minN (a b c d : Nat) : Int := (a : Int) * b - (c : Int) * d
def detN (p q r : Nat × Nat × Nat) : Int := p.1 * minN q.2.1 r.2.2 q.2.2 r.2.1 + p.2.1 * minN q.2.2 r.1 q.1 r.2.2 + p.2.2 * minN q.1 r.2.1 q.2.1 r.1
theorem minN_abs {a b c d : Nat} (ha : a < 16777216) (hb : b < 16777216) (hc : c < 16777216) (hd : d < 16777216) : (minN a b c d).natAbs ≤ 281474976710656 := by
  have h1 : a * b ≤ 16777216 * 16777216 := Nat.mul_le_mul (by omega) (by omega)
  have h2 : c * d ≤ 16777216 * 16777216 := Nat.mul_le_mul (by omega) (by omega)
  unfold minN
  rw [← Int.natCast_mul, ← Int.natCast_mul]
  omega
theorem mulN_abs {a : Nat} {x : Int} (ha : a < 16777216) (hx : x.natAbs ≤ 281474976710656) : ((a : Int) * x).natAbs ≤ 4722366482869645213696 := by
  rw [Int.natAbs_mul, Int.natAbs_natCast]
  have h1 : a * x.natAbs ≤ 16777216 * 281474976710656 := Nat.mul_le_mul (by omega) hx
  omega
theorem add_abs {x y : Int} {A B : Nat} (hx : x.natAbs ≤ A) (hy : y.natAbs ≤ B) : (x + y).natAbs ≤ A + B := by omega
set_option maxRecDepth 100000 in
set_option maxHeartbeats 16000000 in
theorem detW_any (p q r : Nat × Nat × Nat) (hp : lowN p) (hq : lowN q) (hr : lowN r) (w : World) :
    Calls Try.prog 37 #[PtN p, PtN q, PtN r] w fun e w' => ∃ b s, e = .returned (.agg #[.bool b, .string s]) ∧ WideI (.agg #[.bool b, .string s]) (detN p q r) ∧ Below w.heap.size w w' := by
  obtain ⟨p1, p2, p3⟩ := p
  obtain ⟨q1, q2, q3⟩ := q
  obtain ⟨r1, r2, r3⟩ := r
  obtain ⟨hp1, hp2, hp3⟩ := hp
  obtain ⟨hq1, hq2, hq3⟩ := hq
  obtain ⟨hr1, hr2, hr3⟩ := hr
  dsimp only at hp1 hp2 hp3 hq1 hq2 hq3 hr1 hr2 hr3
  have hm1 := fun W => minorW_any q2 r3 q3 r2 (by omega) (by omega) (by omega) (by omega) W
  have hm2 := fun W => minorW_any q3 r1 q1 r3 (by omega) (by omega) (by omega) (by omega) W
  have hm3 := fun W => minorW_any q1 r2 q2 r1 (by omega) (by omega) (by omega) (by omega) W
  have hf1 := fun W => fromW_any p1 (by omega) W
  have hf2 := fun W => fromW_any p2 (by omega) W
  have hf3 := fun W => fromW_any p3 (by omega) W
  have HP := hide (And.intro hp1 (And.intro hp2 hp3))
  have HM := hide (And.intro (minN_abs hq2 hr3 hq3 hr2) (And.intro (minN_abs hq3 hr1 hq1 hr3) (minN_abs hq1 hr2 hq2 hr1)))
  have HC := hide (And.intro hm1 (And.intro hm2 (And.intro hm3 (And.intro hf1 (And.intro hf2 hf3)))))
  clear hp1 hp2 hp3 hq1 hq2 hq3 hr1 hr2 hr3 hm1 hm2 hm3 hf1 hf2 hf3
  show Calls Try.prog 37 #[.agg #[.int .i64 p1, .int .i64 p2, .int .i64 p3], .agg #[.int .i64 q1, .int .i64 q2, .int .i64 q3], .agg #[.int .i64 r1, .int .i64 r2, .int .i64 r3]] w _
  go_enter Try.func37, Try.ntmps37
  go_upto_region 1 with fail
  obtain ⟨X, hX⟩ : ∃ X, X = (((w.alloc (.cells #[.int .i64 p1, .int .i64 p2, .int .i64 p3] 38)).alloc (.cells #[.int .i64 q1, .int .i64 q2, .int .i64 q3] 38)).alloc (.cells #[.int .i64 r1, .int .i64 r2, .int .i64 r3] 38)).alloc (.cells #[.bool false, .string ⟨#[]⟩] 43) := ⟨_, rfl⟩
  rw [← hX]
  have hbp : Blk X w.heap.size 38 #[.int .i64 p1, .int .i64 p2, .int .i64 p3] := by rw [hX]; exact (((Blk.new _ _ _).alloc _).alloc _).alloc _
  have hbq : Blk X (w.heap.size + 1) 38 #[.int .i64 q1, .int .i64 q2, .int .i64 q3] := by rw [hX]; exact ((Blk.new' _ _ _ _ (by simp)).alloc _).alloc _
  have hbr : Blk X (w.heap.size + 1 + 1) 38 #[.int .i64 r1, .int .i64 r2, .int .i64 r3] := by rw [hX]; exact (Blk.new' _ _ _ _ (by simp)).alloc _
  have hb0 : Blk X (w.heap.size + 1 + 1 + 1) 43 #[.bool false, .string ⟨#[]⟩] := by rw [hX]; exact Blk.new' _ _ _ _ (by simp)
  have hBX : Below w.heap.size w X := by rw [hX]; exact ((((Below.refl _ w).alloc (Nat.le_refl _) _).alloc (by simp) _).alloc (by simp; omega) _).alloc (by simp; omega) _
  have hzX : X.heap.size = w.heap.size + 4 := by rw [hX]; simp
  obtain ⟨bx, hbx⟩ : ∃ b, b = w.heap.size := ⟨_, rfl⟩
  rw [← hbx] at hbp hbq hbr hb0 hzX ⊢
  have HX := hide (And.intro hbp (And.intro hbq (And.intro hbr (And.intro hb0 (And.intro hBX (And.intro hzX hbx))))))
  clear hbp hbq hbr hb0 hBX hzX hbx hX
  have hq_ := HX.out.2.1.below (Below.refl X.heap.size X) HX.out.2.1.lt
  have hr_ := HX.out.2.2.1.below (Below.refl X.heap.size X) HX.out.2.2.1.lt
  have c1 : X.cell? ⟨bx + 1, 0, none⟩ = some (.int .i64 q1) := hq_.cell 0
  have c2 : X.cell? ⟨bx + 1, 1, none⟩ = some (.int .i64 q2) := hq_.cell 1
  have c3 : X.cell? ⟨bx + 1, 2, none⟩ = some (.int .i64 q3) := hq_.cell 2
  have d1 : X.cell? ⟨bx + 1 + 1, 0, none⟩ = some (.int .i64 r1) := hr_.cell 0
  have d2 : X.cell? ⟨bx + 1 + 1, 1, none⟩ = some (.int .i64 r2) := hr_.cell 1
  have d3 : X.cell? ⟨bx + 1 + 1, 2, none⟩ = some (.int .i64 r3) := hr_.cell 2
  clear hq_ hr_
  go_wp2_with fail
  with_reducible refine (HC.out.1 X).mono ?_
  rintro e w1 ⟨b1, s1, rfl, hW1, hB1⟩
  have H1 := hide (And.intro hW1 ((Below.refl X.heap.size X).trans (hB1.mono (Below.refl X.heap.size X).size)))
  have H1b := hide hB1
  clear hW1 hB1 c1 c2 c3 d1 d2 d3
  go_upto_region 2 with fail
  obtain ⟨Y1, hY⟩ : ∃ Y, Y = w1.alloc (.cells #[.bool b1, .string s1] 43) := ⟨_, rfl⟩
  rw [← hY]
  have hy : Blk Y1 w1.heap.size 43 #[.bool b1, .string s1] := by rw [hY]; exact Blk.new _ _ _
  have hBY : Below X.heap.size X Y1 := by rw [hY]; exact H1.out.2.alloc H1.out.2.size _
  have hBZ : Below X.heap.size X Y1 := by rw [hY]; exact H1b.out.alloc H1b.out.size _
  obtain ⟨by1, hby⟩ : ∃ b, b = w1.heap.size := ⟨_, rfl⟩
  rw [← hby] at hy ⊢
  have HY1 := hide (And.intro hy (And.intro hBY hBZ))
  clear hy hBY hby hY hBZ
  have hq_ := HX.out.2.1.below HY1.out.2.1 HX.out.2.1.lt
  have hr_ := HX.out.2.2.1.below HY1.out.2.1 HX.out.2.2.1.lt
  have c1 : Y1.cell? ⟨bx + 1, 0, none⟩ = some (.int .i64 q1) := hq_.cell 0
  have c2 : Y1.cell? ⟨bx + 1, 1, none⟩ = some (.int .i64 q2) := hq_.cell 1
  have c3 : Y1.cell? ⟨bx + 1, 2, none⟩ = some (.int .i64 q3) := hq_.cell 2
  have d1 : Y1.cell? ⟨bx + 1 + 1, 0, none⟩ = some (.int .i64 r1) := hr_.cell 0
  have d2 : Y1.cell? ⟨bx + 1 + 1, 1, none⟩ = some (.int .i64 r2) := hr_.cell 1
  have d3 : Y1.cell? ⟨bx + 1 + 1, 2, none⟩ = some (.int .i64 r3) := hr_.cell 2
  clear hq_ hr_
  go_wp2_with fail
  with_reducible refine (HC.out.2.1 Y1).mono ?_
  rintro e w2 ⟨b2, s2, rfl, hW2, hB2⟩
  have H2 := hide (And.intro hW2 (HY1.out.2.1.trans (hB2.mono HY1.out.2.1.size)))
  have H2b := hide hB2
  clear hW2 hB2 c1 c2 c3 d1 d2 d3
  go_upto_region 3 with fail
  obtain ⟨Y2, hY⟩ : ∃ Y, Y = w2.alloc (.cells #[.bool b2, .string s2] 43) := ⟨_, rfl⟩
  rw [← hY]
  have hy : Blk Y2 w2.heap.size 43 #[.bool b2, .string s2] := by rw [hY]; exact Blk.new _ _ _
  have hBY : Below X.heap.size X Y2 := by rw [hY]; exact H2.out.2.alloc H2.out.2.size _
  have hBZ : Below Y1.heap.size Y1 Y2 := by rw [hY]; exact H2b.out.alloc H2b.out.size _
  obtain ⟨by2, hby⟩ : ∃ b, b = w2.heap.size := ⟨_, rfl⟩
  rw [← hby] at hy ⊢
  have HY2 := hide (And.intro hy (And.intro hBY hBZ))
  clear hy hBY hby hY hBZ
  have hq_ := HX.out.2.1.below HY2.out.2.1 HX.out.2.1.lt
  have hr_ := HX.out.2.2.1.below HY2.out.2.1 HX.out.2.2.1.lt
  have c1 : Y2.cell? ⟨bx + 1, 0, none⟩ = some (.int .i64 q1) := hq_.cell 0
  have c2 : Y2.cell? ⟨bx + 1, 1, none⟩ = some (.int .i64 q2) := hq_.cell 1
  have c3 : Y2.cell? ⟨bx + 1, 2, none⟩ = some (.int .i64 q3) := hq_.cell 2
  have d1 : Y2.cell? ⟨bx + 1 + 1, 0, none⟩ = some (.int .i64 r1) := hr_.cell 0
  have d2 : Y2.cell? ⟨bx + 1 + 1, 1, none⟩ = some (.int .i64 r2) := hr_.cell 1
  have d3 : Y2.cell? ⟨bx + 1 + 1, 2, none⟩ = some (.int .i64 r3) := hr_.cell 2
  clear hq_ hr_
  go_wp2_with fail
  with_reducible refine (HC.out.2.2.1 Y2).mono ?_
  rintro e w3 ⟨b3, s3, rfl, hW3, hB3⟩
  have H3 := hide (And.intro hW3 (HY2.out.2.1.trans (hB3.mono HY2.out.2.1.size)))
  have H3b := hide hB3
  clear hW3 hB3 c1 c2 c3 d1 d2 d3
  go_upto_region 4 with fail
  obtain ⟨Y3, hY⟩ : ∃ Y, Y = w3.alloc (.cells #[.bool b3, .string s3] 43) := ⟨_, rfl⟩
  rw [← hY]
  have hy : Blk Y3 w3.heap.size 43 #[.bool b3, .string s3] := by rw [hY]; exact Blk.new _ _ _
  have hBY : Below X.heap.size X Y3 := by rw [hY]; exact H3.out.2.alloc H3.out.2.size _
  have hBZ : Below Y2.heap.size Y2 Y3 := by rw [hY]; exact H3b.out.alloc H3b.out.size _
  obtain ⟨by3, hby⟩ : ∃ b, b = w3.heap.size := ⟨_, rfl⟩
  rw [← hby] at hy ⊢
  have HY3 := hide (And.intro hy (And.intro hBY hBZ))
  clear hy hBY hby hY hBZ
  have hS : ∀ W, Below Y3.heap.size Y3 W → (W.cell? ⟨bx, 0, none⟩ = some (.int .i64 p1) ∧ W.cell? ⟨bx, 1, none⟩ = some (.int .i64 p2) ∧ W.cell? ⟨bx, 2, none⟩ = some (.int .i64 p3)) ∧ (W.cell? ⟨by1, 0, none⟩ = some (.bool b1) ∧ W.cell? ⟨by1, 1, none⟩ = some (.string s1)) ∧ (W.cell? ⟨by2, 0, none⟩ = some (.bool b2) ∧ W.cell? ⟨by2, 1, none⟩ = some (.string s2)) ∧ (W.cell? ⟨by3, 0, none⟩ = some (.bool b3) ∧ W.cell? ⟨by3, 1, none⟩ = some (.string s3)) := fun W hW => by
    have h0 := HX.out.1.below HY3.out.2.1 HX.out.1.lt
    have h1 := (HY1.out.1.below HY2.out.2.2 HY1.out.1.lt).below HY3.out.2.2 (HY1.out.1.below HY2.out.2.2 HY1.out.1.lt).lt
    have h2 := HY2.out.1.below HY3.out.2.2 HY2.out.1.lt
    have h3 := HY3.out.1
    have g0 := h0.below hW h0.lt
    have g1 := h1.below hW h1.lt
    have g2 := h2.below hW h2.lt
    have g3 := h3.below hW h3.lt
    exact ⟨⟨g0.cell 0, g0.cell 1, g0.cell 2⟩, ⟨g1.cell 0, g1.cell 1⟩, ⟨g2.cell 0, g2.cell 1⟩, ⟨g3.cell 0, g3.cell 1⟩⟩
  have HS := hide hS
  clear hS
  obtain ⟨M1, hM1⟩ : ∃ M, M = minN q2 r3 q3 r2 := ⟨_, rfl⟩
  obtain ⟨M2, hM2⟩ : ∃ M, M = minN q3 r1 q1 r3 := ⟨_, rfl⟩
  obtain ⟨M3, hM3⟩ : ∃ M, M = minN q1 r2 q2 r1 := ⟨_, rfl⟩
  have HMM := hide (And.intro hM1 (And.intro hM2 hM3))
  have HN := hide (show M1.natAbs ≤ 281474976710656 ∧ M2.natAbs ≤ 281474976710656 ∧ M3.natAbs ≤ 281474976710656 by rw [hM1, hM2, hM3]; exact HM.out)
  have HW := hide (show WideI (.agg #[.bool b1, .string s1]) M1 ∧ WideI (.agg #[.bool b2, .string s2]) M2 ∧ WideI (.agg #[.bool b3, .string s3]) M3 by rw [hM1, hM2, hM3]; exact ⟨H1.out.1, H2.out.1, H3.out.1⟩)
  clear hM1 hM2 hM3
  go_cut [10] (fun v wx => ∃ G b s, v = .pointer (some ⟨G, 0, none⟩) ∧ Blk wx G 43 #[.bool b, .string s] ∧ WideI (.agg #[.bool b, .string s]) ((p1 : Int) * M1) ∧ Y3.heap.size ≤ G ∧ Below Y3.heap.size Y3 wx)
  case first =>
    have HQ := hide (HS.out Y3.drew (Below.refl _ Y3).drew)
    refine wp_region_tree (fun W => (W.cell? ⟨bx, 0, none⟩ = some (.int .i64 p1) ∧ W.cell? ⟨bx, 1, none⟩ = some (.int .i64 p2) ∧ W.cell? ⟨bx, 2, none⟩ = some (.int .i64 p3)) ∧ (W.cell? ⟨by1, 0, none⟩ = some (.bool b1) ∧ W.cell? ⟨by1, 1, none⟩ = some (.string s1)) ∧ (W.cell? ⟨by2, 0, none⟩ = some (.bool b2) ∧ W.cell? ⟨by2, 1, none⟩ = some (.string s2)) ∧ (W.cell? ⟨by3, 0, none⟩ = some (.bool b3) ∧ W.cell? ⟨by3, 1, none⟩ = some (.string s3))) [0, 1, 3] (.q 0 (.q 1 (.q 3 (.two 2 (.two 4 (.one 5 (.one 6 .nil)) 5 (.one 4 (.one 6 .nil))) 5 (.one 2 (.one 4 (.one 6 .nil))))))) mixed_ok (by kernel_rfl) ?_
    refine wpMixT_q (v := .pointer (some ⟨bx, 0, none⟩)) rfl (fun _ _ _ h => h) HQ.out ⟨rfl, fun _ _ => by simp [go_sem]⟩ ?_
    refine wpMixT_q (v := .int .i64 p1) rfl (fun _ _ _ h => h) HQ.out ⟨rfl, fun _ h' => by simp [go_sem, h'.1.1]⟩ ?_
    refine wpMixT_q (v := .agg #[.bool b1, .string s1]) rfl (fun _ _ _ h => h) HQ.out ⟨rfl, fun _ h' => by simp [go_sem, h'.2.1.1, h'.2.1.2]⟩ ?_
    refine wpMixT_two rfl rfl ?_ ?_
    · go_wp2_with fail
      with_reducible refine (HC.out.2.2.2.1 Y3.drew).mono ?_
      rintro e w4 ⟨b4, s4, rfl, hW4, hB4⟩
      have hB4 : Below Y3.heap.size Y3 w4 := (Below.refl Y3.heap.size Y3).drew.trans hB4
      have H4 := hide (And.intro hW4 hB4)
      clear hW4 hB4
      go_wp2_with fail
      refine ⟨fun _ => HS.out w4 H4.out.2, ?_⟩
      refine wpMixT_two rfl rfl ?_ ?_
      · go_wp2_with fail
        with_reducible refine (mulW_any _ _ _ _ H4.out.1 HW.out.1 (by have := HP.out.1; omega) (by have := HN.out.1; omega) w4).mono ?_
        rintro e w5 ⟨b5, s5, rfl, hW5, hB5⟩
        have hB5 := H4.out.2.trans (hB5.mono H4.out.2.size)
        have H5 := hide (And.intro hW5 hB5)
        clear hW5 hB5
        go_wp2_with fail
        refine ⟨fun _ => HS.out w5 H5.out.2, ?_⟩
        refine wpMixT_one rfl ?_
        go_wp2_with fail
        refine ⟨fun _ => HS.out _ (H5.out.2.alloc H5.out.2.size _), ?_⟩
        refine wpMixT_one rfl ?_
        go_wp2_with fail
        refine ⟨fun _ => HS.out _ (H5.out.2.alloc H5.out.2.size _), wpMixT_nil ?_⟩
        go_wp2_with fail
        go_meet
        case rel => exact ⟨w5.heap.size, b5, s5, rfl, Blk.new _ _ _, H5.out.1, H5.out.2.size, H5.out.2.alloc H5.out.2.size _⟩
      · go_wp2_with fail
        refine ⟨fun _ => HS.out _ (H4.out.2.alloc H4.out.2.size _), ?_⟩
        obtain ⟨V, hV⟩ : ∃ V, V = w4.alloc (.cells #[.bool false, .string ⟨#[]⟩] 43) := ⟨_, rfl⟩
        rw [← hV]
        have hv : Blk V w4.heap.size 43 #[.bool false, .string ⟨#[]⟩] := by rw [hV]; exact Blk.new _ _ _
        have hBV : Below Y3.heap.size Y3 V := by rw [hV]; exact H4.out.2.alloc H4.out.2.size _
        obtain ⟨bv, hbv⟩ : ∃ b, b = w4.heap.size := ⟨_, rfl⟩
        have hbY : Y3.heap.size ≤ bv := by rw [hbv]; exact H4.out.2.size
        rw [← hbv] at hv ⊢
        have HV := hide (And.intro hv (And.intro hBV hbY))
        clear hv hBV hbY hbv hV
        refine wpMixT_one rfl ?_
        go_wp2_with fail
        with_reducible refine (mulW_any _ _ _ _ H4.out.1 HW.out.1 (by have := HP.out.1; omega) (by have := HN.out.1; omega) V).mono ?_
        rintro e w5 ⟨b5, s5, rfl, hW5, hB5⟩
        have hB5' := HV.out.2.1.trans (hB5.mono HV.out.2.1.size)
        have hv5 := HV.out.1.below hB5 HV.out.1.lt
        have hS5 : Below Y3.heap.size Y3 ((w5.setCell ⟨bv, 0, none⟩ (.bool b5)).setCell ⟨bv, 1, none⟩ (.string s5)) := (hB5'.setCell HV.out.2.2 _).setCell HV.out.2.2 _
        have r0 := hv5.cell 0
        have r1 := hv5.cell 1
        have f0 := hv5.frozen 0
        have f1 := hv5.frozen 1
        have hlt := hv5.lt
        simp only [List.getElem?_toArray, List.getElem?_cons_zero, List.getElem?_cons_succ] at r0 r1
        have H5 := hide (And.intro hW5 (And.intro hB5' (And.intro hv5 hS5)))
        clear hW5 hB5 hB5' hv5 hS5
        go_wp2_with fail
        refine ⟨fun _ => HS.out w5 H5.out.2.1, ?_⟩
        refine wpMixT_one rfl ?_
        go_wp2_with fail
        refine ⟨fun _ => HS.out _ H5.out.2.2.2, wpMixT_nil ?_⟩
        go_wp2_with fail
        go_meet
        case rel => exact ⟨bv, b5, s5, rfl, (H5.out.2.2.1.set_ 0 (.bool b5)).set_ 1 (.string s5), H5.out.1, HV.out.2.2, H5.out.2.2.2⟩
    · go_wp2_with fail
      refine ⟨fun _ => HS.out _ ((Below.refl _ Y3).alloc (Nat.le_refl _) _).drew, ?_⟩
      obtain ⟨V, hV⟩ : ∃ V, V = (Y3.alloc (.cells #[.bool false, .string ⟨#[]⟩] 43)).drew := ⟨_, rfl⟩
      rw [← hV]
      have hv : Blk V Y3.heap.size 43 #[.bool false, .string ⟨#[]⟩] := by rw [hV]; exact (Blk.new _ _ _).drew
      have hBV : Below Y3.heap.size Y3 V := by rw [hV]; exact ((Below.refl _ Y3).alloc (Nat.le_refl _) _).drew
      obtain ⟨bv, hbv⟩ : ∃ b, b = Y3.heap.size := ⟨_, rfl⟩
      have hbY : Y3.heap.size ≤ bv := by rw [hbv]; exact Nat.le_refl _
      rw [← hbv] at hv ⊢
      have HV0 := hide (And.intro hv (And.intro hBV hbY))
      clear hv hBV hbY hbv hV
      refine wpMixT_one rfl ?_
      go_wp2_with fail
      with_reducible refine (HC.out.2.2.2.1 V).mono ?_
      rintro e w4 ⟨b4, s4, rfl, hW4, hB4⟩
      have H4 := hide (And.intro hW4 (HV0.out.2.1.trans (hB4.mono HV0.out.2.1.size)))
      have HV := hide (And.intro (HV0.out.1.below hB4 HV0.out.1.lt) (And.intro H4.out.2 HV0.out.2.2))
      clear hW4 hB4
      go_wp2_with fail
      refine ⟨fun _ => HS.out w4 H4.out.2, ?_⟩
      refine wpMixT_one rfl ?_
      go_wp2_with fail
      with_reducible refine (mulW_any _ _ _ _ H4.out.1 HW.out.1 (by have := HP.out.1; omega) (by have := HN.out.1; omega) w4).mono ?_
      rintro e w5 ⟨b5, s5, rfl, hW5, hB5⟩
      have hB5' := HV.out.2.1.trans (hB5.mono HV.out.2.1.size)
      have hv5 := HV.out.1.below hB5 HV.out.1.lt
      have hS5 : Below Y3.heap.size Y3 ((w5.setCell ⟨bv, 0, none⟩ (.bool b5)).setCell ⟨bv, 1, none⟩ (.string s5)) := (hB5'.setCell HV.out.2.2 _).setCell HV.out.2.2 _
      have r0 := hv5.cell 0
      have r1 := hv5.cell 1
      have f0 := hv5.frozen 0
      have f1 := hv5.frozen 1
      have hlt := hv5.lt
      simp only [List.getElem?_toArray, List.getElem?_cons_zero, List.getElem?_cons_succ] at r0 r1
      have H5 := hide (And.intro hW5 (And.intro hB5' (And.intro hv5 hS5)))
      clear hW5 hB5 hB5' hv5 hS5
      go_wp2_with fail
      refine ⟨fun _ => HS.out w5 H5.out.2.1, ?_⟩
      refine wpMixT_one rfl ?_
      go_wp2_with fail
      refine ⟨fun _ => HS.out _ H5.out.2.2.2, wpMixT_nil ?_⟩
      go_wp2_with fail
      go_meet
      case rel => exact ⟨bv, b5, s5, rfl, (H5.out.2.2.1.set_ 0 (.bool b5)).set_ 1 (.string s5), H5.out.1, HV.out.2.2, H5.out.2.2.2⟩
  case rest =>
    obtain ⟨G, b7, s7, rfl, hG, hW7, hGY, hBU⟩ := hcut
    obtain ⟨U, rfl⟩ : ∃ U, U = wc := ⟨_, rfl⟩
    have HU := hide (And.intro hG (And.intro hW7 (And.intro hGY hBU)))
    clear hG hW7 hGY hBU
    have hS5 : ∀ W, Below U.heap.size U W → (W.cell? ⟨G, 0, none⟩ = some (.bool b7) ∧ W.cell? ⟨G, 1, none⟩ = some (.string s7)) ∧ W.cell? ⟨bx, 1, none⟩ = some (.int .i64 p2) ∧ (W.cell? ⟨by2, 0, none⟩ = some (.bool b2) ∧ W.cell? ⟨by2, 1, none⟩ = some (.string s2)) := fun W hW => by
      have g0 := HU.out.1.below hW HU.out.1.lt
      have g1 := HS.out W (HU.out.2.2.2.trans (hW.mono HU.out.2.2.2.size))
      exact ⟨⟨g0.cell 0, g0.cell 1⟩, g1.1.2.1, g1.2.2.1⟩
    have HS5 := hide hS5
    clear hS5
    have HQ := hide (HS5.out U.drew (Below.refl _ U).drew)
    go_upto_region 5 with fail
    refine wp_region_mix (fun W => (W.cell? ⟨G, 0, none⟩ = some (.bool b7) ∧ W.cell? ⟨G, 1, none⟩ = some (.string s7)) ∧ W.cell? ⟨bx, 1, none⟩ = some (.int .i64 p2) ∧ (W.cell? ⟨by2, 0, none⟩ = some (.bool b2) ∧ W.cell? ⟨by2, 1, none⟩ = some (.string s2))) [0, 1, 2, 4] [0, 1, 2, 4, 3, 5, 6, 7] mixed_ok (by kernel_rfl) ?_
    refine wpMix_q (v := .agg #[.bool b7, .string s7]) rfl rfl (fun _ _ _ h => h) HQ.out ⟨rfl, fun _ h' => by simp [go_sem, h'.1.1, h'.1.2]⟩ ?_
    refine wpMix_q (v := .pointer (some ⟨bx, 1, none⟩)) rfl rfl (fun _ _ _ h => h) HQ.out ⟨rfl, fun _ _ => by simp [go_sem]⟩ ?_
    refine wpMix_q (v := .int .i64 p2) rfl rfl (fun _ _ _ h => h) HQ.out ⟨rfl, fun _ h' => by simp [go_sem, h'.2.1]⟩ ?_
    refine wpMix_q (v := .agg #[.bool b2, .string s2]) rfl rfl (fun _ _ _ h => h) HQ.out ⟨rfl, fun _ h' => by simp [go_sem, h'.2.2.1, h'.2.2.2]⟩ ?_
    simp only [List.getElem_toArray, List.getElem_cons_succ, List.getElem_cons_zero]
    refine wpMix_n rfl rfl ?_
    go_wp2_with fail
    with_reducible refine (HC.out.2.2.2.2.1 U.drew).mono ?_
    rintro e w8 ⟨b8, s8, rfl, hW8, hB8⟩
    have H8 := hide (And.intro hW8 (show Below U.heap.size U w8 from (Below.refl U.heap.size U).drew.trans hB8))
    clear hW8 hB8
    go_wp2_with fail
    refine ⟨fun _ => HS5.out w8 H8.out.2, ?_⟩
    refine wpMix_n rfl rfl ?_
    go_wp2_with fail
    with_reducible refine (mulW_any _ _ _ _ H8.out.1 HW.out.2.1 (by have := HP.out.2.1; omega) (by have := HN.out.2.1; omega) w8).mono ?_
    rintro e w9 ⟨b9, s9, rfl, hW9, hB9⟩
    have H9 := hide (And.intro hW9 (H8.out.2.trans (hB9.mono H8.out.2.size)))
    clear hW9 hB9
    go_wp2_with fail
    refine ⟨fun _ => HS5.out w9 H9.out.2, ?_⟩
    refine wpMix_tail _ [_, _] (by kernel_rfl) rfl ?_
    simp only [List.getElem_toArray, List.getElem_cons_succ, List.getElem_cons_zero]
    go_wp2_with fail
    have sm1 := mulN_abs HP.out.1 HN.out.1
    have sm2 := mulN_abs HP.out.2.1 HN.out.2.1
    have sm3 := mulN_abs HP.out.2.2 HN.out.2.2
    have HB := hide (And.intro sm1 (And.intro sm2 sm3))
    clear sm1 sm2 sm3
    with_reducible refine (addW_any _ _ _ _ HU.out.2.1 H9.out.1 (by have := HB.out.1; omega) (by have := HB.out.2.1; omega) w9).mono ?_
    rintro e w10 ⟨b10, s10, rfl, hW10, hB10⟩
    have hBU10 := H9.out.2.trans (hB10.mono H9.out.2.size)
    have hG10 := HU.out.1.below hBU10 HU.out.1.lt
    have r0 := hG10.cell 0
    have r1 := hG10.cell 1
    have f0 := hG10.frozen 0
    have f1 := hG10.frozen 1
    have hlt := hG10.lt
    simp only [List.getElem?_toArray, List.getElem?_cons_zero, List.getElem?_cons_succ] at r0 r1
    have hBY10 := HU.out.2.2.2.trans (hBU10.mono HU.out.2.2.2.size)
    have hset := (hG10.set_ 0 (.bool b10)).set_ 1 (.string s10)
    have hbel := (hBY10.setCell (p := ⟨G, 0, none⟩) HU.out.2.2.1 (.bool b10)).setCell (p := ⟨G, 1, none⟩) HU.out.2.2.1 (.string s10)
    have H10 := hide (And.intro hW10 (And.intro hset hbel))
    clear hW10 hB10 hBU10 hG10 hBY10 hset hbel
    go_upto_region 6 with fail
    obtain ⟨T, hT⟩ : ∃ T, T = (w10.setCell ⟨G, 0, none⟩ (.bool b10)).setCell ⟨G, 1, none⟩ (.string s10) := ⟨_, rfl⟩
    rw [← hT]
    have HT := hide (show WideI (.agg #[.bool b10, .string s10]) ((p1 : Int) * M1 + (p2 : Int) * M2) ∧ Blk T G 43 #[.bool b10, .string s10] ∧ Below Y3.heap.size Y3 T by rw [hT]; exact H10.out)
    clear hT r0 r1 f0 f1 hlt
    have hS6 : ∀ W, Below T.heap.size T W → (W.cell? ⟨G, 0, none⟩ = some (.bool b10) ∧ W.cell? ⟨G, 1, none⟩ = some (.string s10)) ∧ W.cell? ⟨bx, 2, none⟩ = some (.int .i64 p3) ∧ (W.cell? ⟨by3, 0, none⟩ = some (.bool b3) ∧ W.cell? ⟨by3, 1, none⟩ = some (.string s3)) := fun W hW => by
      have g0 := HT.out.2.1.below hW HT.out.2.1.lt
      have g1 := HS.out W (HT.out.2.2.trans (hW.mono HT.out.2.2.size))
      exact ⟨⟨g0.cell 0, g0.cell 1⟩, g1.1.2.2, g1.2.2.2⟩
    have HS6 := hide hS6
    clear hS6 HQ
    have HQ := hide (HS6.out T.drew (Below.refl _ T).drew)
    refine wp_region_mix (fun W => (W.cell? ⟨G, 0, none⟩ = some (.bool b10) ∧ W.cell? ⟨G, 1, none⟩ = some (.string s10)) ∧ W.cell? ⟨bx, 2, none⟩ = some (.int .i64 p3) ∧ (W.cell? ⟨by3, 0, none⟩ = some (.bool b3) ∧ W.cell? ⟨by3, 1, none⟩ = some (.string s3))) [0, 1, 2, 4] [0, 1, 2, 4, 3, 5, 6, 7] mixed_ok (by kernel_rfl) ?_
    refine wpMix_q (v := .agg #[.bool b10, .string s10]) rfl rfl (fun _ _ _ h => h) HQ.out ⟨rfl, fun _ h' => by simp [go_sem, h'.1.1, h'.1.2]⟩ ?_
    refine wpMix_q (v := .pointer (some ⟨bx, 2, none⟩)) rfl rfl (fun _ _ _ h => h) HQ.out ⟨rfl, fun _ _ => by simp [go_sem]⟩ ?_
    refine wpMix_q (v := .int .i64 p3) rfl rfl (fun _ _ _ h => h) HQ.out ⟨rfl, fun _ h' => by simp [go_sem, h'.2.1]⟩ ?_
    refine wpMix_q (v := .agg #[.bool b3, .string s3]) rfl rfl (fun _ _ _ h => h) HQ.out ⟨rfl, fun _ h' => by simp [go_sem, h'.2.2.1, h'.2.2.2]⟩ ?_
    simp only [List.getElem_toArray, List.getElem_cons_succ, List.getElem_cons_zero]
    refine wpMix_n rfl rfl ?_
    go_wp2_with fail
    with_reducible refine (HC.out.2.2.2.2.2 T.drew).mono ?_
    rintro e w11 ⟨b11, s11, rfl, hW11, hB11⟩
    have H11 := hide (And.intro hW11 (show Below T.heap.size T w11 from (Below.refl T.heap.size T).drew.trans hB11))
    clear hW11 hB11
    go_wp2_with fail
    refine ⟨fun _ => HS6.out w11 H11.out.2, ?_⟩
    refine wpMix_n rfl rfl ?_
    go_wp2_with fail
    with_reducible refine (mulW_any _ _ _ _ H11.out.1 HW.out.2.2 (by have := HP.out.2.2; omega) (by have := HN.out.2.2; omega) w11).mono ?_
    rintro e w12 ⟨b12, s12, rfl, hW12, hB12⟩
    have H12 := hide (And.intro hW12 (H11.out.2.trans (hB12.mono H11.out.2.size)))
    clear hW12 hB12
    go_wp2_with fail
    refine ⟨fun _ => HS6.out w12 H12.out.2, ?_⟩
    refine wpMix_tail _ [_, _] (by kernel_rfl) rfl ?_
    simp only [List.getElem_toArray, List.getElem_cons_succ, List.getElem_cons_zero]
    go_wp2_with fail
    with_reducible refine (addW_any _ _ _ _ HT.out.1 H12.out.1 (by have := add_abs HB.out.1 HB.out.2.1; omega) (by have := HB.out.2.2; omega) w12).mono ?_
    rintro e w13 ⟨rb, rs, rfl, hW, hB13⟩
    have hBT := H12.out.2.trans (hB13.mono H12.out.2.size)
    have hBY13 := HT.out.2.2.trans (hBT.mono HT.out.2.2.size)
    have hBX13 := HY3.out.2.1.trans (hBY13.mono HY3.out.2.1.size)
    have hr6 := HX.out.2.2.2.1.below hBX13 HX.out.2.2.2.1.lt
    have hB99 := HX.out.2.2.2.2.1.trans (hBX13.mono HX.out.2.2.2.2.1.size)
    have r0 := hr6.cell 0
    have r1 := hr6.cell 1
    have f0 := hr6.frozen 0
    have f1 := hr6.frozen 1
    have hlt := hr6.lt
    simp only [List.getElem?_toArray, List.getElem?_cons_zero, List.getElem?_cons_succ] at r0 r1
    have hbx := HX.out.2.2.2.2.2.2
    have H99 := hide (And.intro hW (And.intro hB99 (And.intro hr6 hbx)))
    clear hW hB99 hr6 hbx hB13 hBT hBY13 hBX13
    go_wp2
    refine ret_at (v := .agg #[.bool rb, .string rs]) (fun W => Blk W (bx + 1 + 1 + 1) 43 #[.bool rb, .string rs]) ?_ (fun W h => ?_) rfl ⟨rb, rs, rfl, ?_, ?_⟩
    · exact (H99.out.2.2.1.set_ 0 (.bool rb)).set_ 1 (.string rs)
    · have a0 := h.cell 0
      have a1 := h.cell 1
      simp only [List.getElem?_toArray, List.getElem?_cons_zero, List.getElem?_cons_succ] at a0 a1
      simp [results, Try.results37, go_sem, a0, a1]
    · have := H99.out.1
      rw [HMM.out.1, HMM.out.2.1, HMM.out.2.2] at this
      exact this
    · have := H99.out.2.2.2
      exact (H99.out.2.1.setCell (by dsimp only; omega) _).setCell (by dsimp only; omega) _
end Go.Proofs.Ytfljcgehhnmamaa
/- ref04.Volume6. -/
namespace Go.Proofs.Ytfljcgehhnmamaa
open Go.RowKit Go.Sort
def lowP (p : Pt) : Prop := (0 ≤ p.1 ∧ p.1 < 16777216) ∧ (0 ≤ p.2.1 ∧ p.2.1 < 16777216) ∧ (0 ≤ p.2.2 ∧ p.2.2 < 16777216)
def lowT (t : Tri) : Prop := lowP t.1 ∧ lowP t.2.1 ∧ lowP t.2.2
def natP (p : Pt) : Nat × Nat × Nat := (p.1.toNat, p.2.1.toNat, p.2.2.toNat)
theorem natP_val {p : Pt} (h : lowP p) : PtN (natP p) = .agg #[.int .i64 p.1, .int .i64 p.2.1, .int .i64 p.2.2] := by
  obtain ⟨⟨a, _⟩, ⟨b, _⟩, c, _⟩ := h
  unfold PtN natP
  simp only [Int.toNat_of_nonneg a, Int.toNat_of_nonneg b, Int.toNat_of_nonneg c]
theorem natP_low {p : Pt} (h : lowP p) : lowN (natP p) := by
  unfold lowP at h
  unfold lowN natP
  dsimp only
  omega
theorem detN_P {p q r : Pt} (hp : lowP p) (hq : lowP q) (hr : lowP r) : detN (natP p) (natP q) (natP r) = detP p q r := by
  obtain ⟨⟨a1, _⟩, ⟨a2, _⟩, a3, _⟩ := hp
  obtain ⟨⟨b1, _⟩, ⟨b2, _⟩, b3, _⟩ := hq
  obtain ⟨⟨c1, _⟩, ⟨c2, _⟩, c3, _⟩ := hr
  unfold detN minN natP detP
  simp only [Int.toNat_of_nonneg a1, Int.toNat_of_nonneg a2, Int.toNat_of_nonneg a3, Int.toNat_of_nonneg b1, Int.toNat_of_nonneg b2, Int.toNat_of_nonneg b3, Int.toNat_of_nonneg c1, Int.toNat_of_nonneg c2, Int.toNat_of_nonneg c3]
theorem detN_abs {p q r : Nat × Nat × Nat} (hp : lowN p) (hq : lowN q) (hr : lowN r) : (detN p q r).natAbs ≤ 14167099448608935641088 := by
  unfold detN
  have h1 := mulN_abs hp.1 (minN_abs hq.2.1 hr.2.2 hq.2.2 hr.2.1)
  have h2 := mulN_abs hp.2.1 (minN_abs hq.2.2 hr.1 hq.1 hr.2.2)
  have h3 := mulN_abs hp.2.2 (minN_abs hq.1 hr.2.1 hq.2.1 hr.1)
  omega
theorem detT_abs {t : Tri} (h : lowT t) : (detT t).natAbs ≤ 14167099448608935641088 := by
  unfold detT
  rw [← detN_P h.1 h.2.1 h.2.2]
  exact detN_abs (natP_low h.1) (natP_low h.2.1) (natP_low h.2.2)
theorem volP_abs {C : List Tri} (h : ∀ t ∈ C, lowT t) : ∀ k, k ≤ C.length → (volP (C.take k)).natAbs ≤ k * 14167099448608935641088
  | 0, _ => by simp [volP]
  | k + 1, hk => by
    have ih := volP_abs h k (by omega)
    have ht : C[k]? = some C[k] := List.getElem?_eq_getElem hk
    rw [volP_take ht]
    have h1 := detT_abs (h _ (List.getElem_mem hk))
    omega
theorem detV_any (t : Tri) (ht : lowT t) (w : World) :
    Calls Try.prog 37 #[.agg #[.int .i64 t.1.1, .int .i64 t.1.2.1, .int .i64 t.1.2.2], .agg #[.int .i64 t.2.1.1, .int .i64 t.2.1.2.1, .int .i64 t.2.1.2.2], .agg #[.int .i64 t.2.2.1, .int .i64 t.2.2.2.1, .int .i64 t.2.2.2.2]] w fun e w' => ∃ b s, e = .returned (.agg #[.bool b, .string s]) ∧ WideI (.agg #[.bool b, .string s]) (detT t) ∧ Below w.heap.size w w' := by
  have h := detW_any (natP t.1) (natP t.2.1) (natP t.2.2) (natP_low ht.1) (natP_low ht.2.1) (natP_low ht.2.2) w
  rw [natP_val ht.1, natP_val ht.2.1, natP_val ht.2.2, detN_P ht.1 ht.2.1 ht.2.2] at h
  exact h
theorem from0_any (w : World) : Calls Try.prog 35 #[.int .i64 0] w fun e w' => ∃ b s, e = .returned (.agg #[.bool b, .string s]) ∧ WideI (.agg #[.bool b, .string s]) 0 ∧ Below w.heap.size w w' := fromW_any 0 (by omega) w
/-- A wide number is returned. -/
def RetW (w : World) (x : Int) (e : Ending) (w' : World) : Prop := ∃ b s, e = .returned (.agg #[.bool b, .string s]) ∧ WideI (.agg #[.bool b, .string s]) x ∧ Below w.heap.size w w'
set_option maxRecDepth 100000 in
set_option maxHeartbeats 16000000 in
theorem volume_any (A : Option Addr) (c : Nat) (C : List Tri) (w : World) (hs : Sl encT 9 w w.heap.size A C) (hl : C.length ≤ 1000000) (hC : ∀ t ∈ C, lowT t) :
    Calls Try.prog 20 #[.slice A C.length c] w (RetW w (volP C)) := by
  have hab := volP_abs hC
  obtain ⟨M, hM⟩ : ∃ M, M = C.length := ⟨_, rfl⟩
  rw [← hM] at hl hab ⊢
  have HC := hide (And.intro hs (And.intro hC (And.intro hM hab)))
  clear hs hC hM hab
  go_enter Try.func20, Try.ntmps20
  go_upto_region 1 with fail
  obtain ⟨X, hX⟩ : ∃ X, X = w.alloc (.cells #[.bool false, .string ⟨#[]⟩] 43) := ⟨_, rfl⟩
  rw [← hX]
  have hb : Blk X w.heap.size 43 #[.bool false, .string ⟨#[]⟩] := by rw [hX]; exact Blk.new _ _ _
  have hBX : Below w.heap.size w X := by rw [hX]; exact (Below.refl _ w).alloc (Nat.le_refl _) _
  obtain ⟨bx, hbx⟩ : ∃ b, b = w.heap.size := ⟨_, rfl⟩
  rw [← hbx] at hb ⊢
  have HX := hide (And.intro hb (And.intro hBX hbx))
  clear hb hBX hbx hX
  go_wp2_with fail
  with_reducible refine (from0_any X).mono ?_
  rintro e w1 ⟨b1, s1, rfl, hW1, hB1⟩
  have H1 := hide (And.intro hW1 hB1)
  clear hW1 hB1
  go_upto_region 2 with fail
  obtain ⟨Y, hY⟩ : ∃ Y, Y = w1.alloc (.cells #[.bool b1, .string s1] 43) := ⟨_, rfl⟩
  rw [← hY]
  have hy : Blk Y w1.heap.size 43 #[.bool b1, .string s1] := by rw [hY]; exact Blk.new _ _ _
  have hBY : Below X.heap.size X Y := by rw [hY]; exact H1.out.2.alloc H1.out.2.size _
  obtain ⟨G, hG⟩ : ∃ b, b = w1.heap.size := ⟨_, rfl⟩
  have hGX : X.heap.size ≤ G := by rw [hG]; exact H1.out.2.size
  rw [← hG] at hy ⊢
  have HY := hide (And.intro hy (And.intro hBY hGX))
  clear hy hBY hG hGX hY
  go_wp2
  go_loopw [4] (fun iv wr => ∃ (k : Nat) (b : Bool) (s : ByteArray), k ≤ M ∧ iv = .int .i64 k ∧ Blk wr G 43 #[.bool b, .string s] ∧ WideI (.agg #[.bool b, .string s]) (volP (C.take k)) ∧ Below X.heap.size X wr) (fun iv _ => M - (intOf iv).toNat)
  case atStart => exact ⟨0, b1, s1, by omega, rfl, HY.out.1, H1.out.1, HY.out.2.1⟩
  case round =>
    obtain ⟨k, b, s, hk, rfl, hbl, hW, hB⟩ := hrel
    obtain ⟨V, rfl⟩ : ∃ V, V = wr := ⟨_, rfl⟩
    by_cases hkM : k < M
    · have i1 : (k : Int) < (M : Int) := by omega
      obtain ⟨t, ht⟩ : ∃ t, C[k]? = some t := ⟨_, List.getElem?_eq_getElem (by rw [← HC.out.2.2.1]; exact hkM)⟩
      have hBw := HX.out.2.1.trans (hB.mono HX.out.2.1.size)
      obtain ⟨tb, oo, hA, _, hcl⟩ := (HC.out.1.below hBw).tri ht
      subst hA
      have htm := HC.out.2.1 t (List.mem_of_getElem? ht)
      have hdv := fun W => detV_any t htm W
      have hvt := volP_take ht
      have hda := detT_abs htm
      have hva := HC.out.2.2.2 k hk
      obtain ⟨dt, hdt⟩ : ∃ d, d = detT t := ⟨_, rfl⟩
      rw [← hdt] at hdv hvt hda
      obtain ⟨⟨p1, p2, p3⟩, ⟨q1, q2, q3⟩, r1, r2, r3⟩ := t
      have hlt0 := hBw.size
      have htb : tb < V.heap.size := by omega
      have hS : ∀ W, Below V.heap.size V W → (W.cell? ⟨G, 0, none⟩ = some (.bool b) ∧ W.cell? ⟨G, 1, none⟩ = some (.string s)) ∧ W.cell? ⟨tb, oo + k * 9, none⟩ = some (.int .i64 p1) ∧ W.cell? ⟨tb, oo + k * 9 + 1, none⟩ = some (.int .i64 p2) ∧ W.cell? ⟨tb, oo + k * 9 + 2, none⟩ = some (.int .i64 p3) ∧ W.cell? ⟨tb, oo + k * 9 + 3, none⟩ = some (.int .i64 q1) ∧ W.cell? ⟨tb, oo + k * 9 + 4, none⟩ = some (.int .i64 q2) ∧ W.cell? ⟨tb, oo + k * 9 + 5, none⟩ = some (.int .i64 q3) ∧ W.cell? ⟨tb, oo + k * 9 + 6, none⟩ = some (.int .i64 r1) ∧ W.cell? ⟨tb, oo + k * 9 + 7, none⟩ = some (.int .i64 r2) ∧ W.cell? ⟨tb, oo + k * 9 + 8, none⟩ = some (.int .i64 r3) := fun W hW => by
        have g := hbl.below hW hbl.lt
        have q := fun o => hW.cell (p := ⟨tb, o, none⟩) htb
        obtain ⟨h0, h1, h2, h3, h4, h5, h6, h7, h8⟩ := hcl
        exact ⟨⟨g.cell 0, g.cell 1⟩, (q _).trans h0, (q _).trans h1, (q _).trans h2, (q _).trans h3, (q _).trans h4, (q _).trans h5, (q _).trans h6, (q _).trans h7, (q _).trans h8⟩
      have HS := hide hS
      have HQ := hide (hS V.drew (Below.refl _ V).drew)
      obtain ⟨vk, hvk⟩ : ∃ v, v = volP (C.take k) := ⟨_, rfl⟩
      rw [← hvk] at hW hvt hva
      have hva2 : vk.natAbs ≤ 1000000 * 14167099448608935641088 := Nat.le_trans hva (Nat.mul_le_mul_right _ (by omega))
      have HD := hide (And.intro hdv (And.intro hvt (And.intro hda (And.intro hva2 (And.intro hW (And.intro hbl hB))))))
      clear hdv hvt hda hva hva2 hW hbl hB hBw hS hdt htm hcl hlt0 htb ht hvk
      go_upto_region 5 with fail
      refine wp_region_mix (fun W => (W.cell? ⟨G, 0, none⟩ = some (.bool b) ∧ W.cell? ⟨G, 1, none⟩ = some (.string s)) ∧ W.cell? ⟨tb, oo + k * 9, none⟩ = some (.int .i64 p1) ∧ W.cell? ⟨tb, oo + k * 9 + 1, none⟩ = some (.int .i64 p2) ∧ W.cell? ⟨tb, oo + k * 9 + 2, none⟩ = some (.int .i64 p3) ∧ W.cell? ⟨tb, oo + k * 9 + 3, none⟩ = some (.int .i64 q1) ∧ W.cell? ⟨tb, oo + k * 9 + 4, none⟩ = some (.int .i64 q2) ∧ W.cell? ⟨tb, oo + k * 9 + 5, none⟩ = some (.int .i64 q3) ∧ W.cell? ⟨tb, oo + k * 9 + 6, none⟩ = some (.int .i64 r1) ∧ W.cell? ⟨tb, oo + k * 9 + 7, none⟩ = some (.int .i64 r2) ∧ W.cell? ⟨tb, oo + k * 9 + 8, none⟩ = some (.int .i64 r3)) [0, 1, 2, 3, 4, 5, 6, 7, 8, 9, 10, 11, 12, 13, 14, 15] [0, 1, 2, 3, 4, 5, 6, 7, 8, 9, 10, 11, 12, 13, 14, 15, 16, 17, 18] mixed_ok (by kernel_rfl) ?_
      refine wpMix_q (v := .agg #[.bool b, .string s]) rfl rfl (fun _ _ _ h => h) HQ.out ⟨rfl, fun _ h' => by simp [go_sem, h'.1.1, h'.1.2]⟩ ?_
      refine wpMix_q (v := .slice (some ⟨tb, oo, none⟩) M c) rfl rfl (fun _ _ _ h => h) HQ.out ⟨rfl, fun _ h' => by simp [go_sem]⟩ ?_
      refine wpMix_q (v := .int .i64 k) rfl rfl (fun _ _ _ h => h) HQ.out ⟨rfl, fun _ h' => by simp [go_sem]⟩ ?_
      refine wpMix_q (v := .pointer (some ⟨tb, oo + k * 9, none⟩)) rfl rfl (fun _ _ _ h => h) HQ.out ⟨rfl, fun _ h' => by simp [go_sem, i1]⟩ ?_
      refine wpMix_q (v := .pointer (some ⟨tb, oo + k * 9, none⟩)) rfl rfl (fun _ _ _ h => h) HQ.out ⟨rfl, fun _ h' => by simp [go_sem]⟩ ?_
      refine wpMix_q (v := .agg #[.int .i64 p1, .int .i64 p2, .int .i64 p3]) rfl rfl (fun _ _ _ h => h) HQ.out ⟨rfl, fun _ h' => by simp [go_sem, h'.2.1, h'.2.2.1, h'.2.2.2.1]⟩ ?_
      simp only [List.getElem_toArray, List.getElem_cons_succ, List.getElem_cons_zero, Act.put, List.setIfInBounds_toArray, List.set_cons_succ, List.set_cons_zero]
      refine wpMix_q (v := .slice (some ⟨tb, oo, none⟩) M c) rfl rfl (fun _ _ _ h => h) HQ.out ⟨rfl, fun _ h' => by simp [go_sem]⟩ ?_
      refine wpMix_q (v := .int .i64 k) rfl rfl (fun _ _ _ h => h) HQ.out ⟨rfl, fun _ h' => by simp [go_sem]⟩ ?_
      refine wpMix_q (v := .pointer (some ⟨tb, oo + k * 9, none⟩)) rfl rfl (fun _ _ _ h => h) HQ.out ⟨rfl, fun _ h' => by simp [go_sem, i1]⟩ ?_
      refine wpMix_q (v := .pointer (some ⟨tb, oo + k * 9 + 3, none⟩)) rfl rfl (fun _ _ _ h => h) HQ.out ⟨rfl, fun _ h' => by simp [go_sem]⟩ ?_
      refine wpMix_q (v := .agg #[.int .i64 q1, .int .i64 q2, .int .i64 q3]) rfl rfl (fun _ _ _ h => h) HQ.out ⟨rfl, fun _ h' => by simp [go_sem, h'.2.2.2.2.1, h'.2.2.2.2.2.1, h'.2.2.2.2.2.2.1]⟩ ?_
      refine wpMix_q (v := .slice (some ⟨tb, oo, none⟩) M c) rfl rfl (fun _ _ _ h => h) HQ.out ⟨rfl, fun _ h' => by simp [go_sem]⟩ ?_
      simp only [List.getElem_toArray, List.getElem_cons_succ, List.getElem_cons_zero, Act.put, List.setIfInBounds_toArray, List.set_cons_succ, List.set_cons_zero]
      refine wpMix_q (v := .int .i64 k) rfl rfl (fun _ _ _ h => h) HQ.out ⟨rfl, fun _ h' => by simp [go_sem]⟩ ?_
      refine wpMix_q (v := .pointer (some ⟨tb, oo + k * 9, none⟩)) rfl rfl (fun _ _ _ h => h) HQ.out ⟨rfl, fun _ h' => by simp [go_sem, i1]⟩ ?_
      refine wpMix_q (v := .pointer (some ⟨tb, oo + k * 9 + 6, none⟩)) rfl rfl (fun _ _ _ h => h) HQ.out ⟨rfl, fun _ h' => by simp [go_sem]⟩ ?_
      refine wpMix_q (v := .agg #[.int .i64 r1, .int .i64 r2, .int .i64 r3]) rfl rfl (fun _ _ _ h => h) HQ.out ⟨rfl, fun _ h' => by simp [go_sem, h'.2.2.2.2.2.2.2.1, h'.2.2.2.2.2.2.2.2.1, h'.2.2.2.2.2.2.2.2.2]⟩ ?_
      simp only [List.getElem_toArray, List.getElem_cons_succ, List.getElem_cons_zero, Act.put, List.setIfInBounds_toArray, List.set_cons_succ, List.set_cons_zero]
      refine wpMix_n rfl rfl ?_
      go_wp2_with fail
      with_reducible refine (HD.out.1 V.drew).mono ?_
      rintro e w5 ⟨b5, s5, rfl, hW5, hB5⟩
      have H5 := hide (And.intro hW5 (show Below V.heap.size V w5 from (Below.refl V.heap.size V).drew.trans hB5))
      clear hW5 hB5
      go_wp2_with fail
      refine ⟨fun _ => HS.out w5 H5.out.2, ?_⟩
      refine wpMix_tail _ [_, _] (by kernel_rfl) rfl ?_
      simp only [List.getElem_toArray, List.getElem_cons_succ, List.getElem_cons_zero]
      go_wp2_with fail
      with_reducible refine (addW_any _ _ _ _ HD.out.2.2.2.2.1 H5.out.1 (by have := HD.out.2.2.2.1; omega) (by have := HD.out.2.2.1; omega) w5).mono ?_
      rintro e w6 ⟨b6, s6, rfl, hW6, hB6⟩
      have hBV := H5.out.2.trans (hB6.mono H5.out.2.size)
      have hG6 := HD.out.2.2.2.2.2.1.below hBV HD.out.2.2.2.2.2.1.lt
      have r0 := hG6.cell 0
      have r1 := hG6.cell 1
      have f0 := hG6.frozen 0
      have f1 := hG6.frozen 1
      have hlt := hG6.lt
      simp only [List.getElem?_toArray, List.getElem?_cons_zero, List.getElem?_cons_succ] at r0 r1
      have hBX6 := HD.out.2.2.2.2.2.2.trans (hBV.mono HD.out.2.2.2.2.2.2.size)
      have hset := (hG6.set_ 0 (.bool b6)).set_ 1 (.string s6)
      have hbel := (hBX6.setCell (p := ⟨G, 0, none⟩) HY.out.2.2 (.bool b6)).setCell (p := ⟨G, 1, none⟩) HY.out.2.2 (.string s6)
      have H6 := hide (And.intro hW6 (And.intro hset hbel))
      clear hW6 hB6 hBV hG6 hBX6 hset hbel
      go_wp2
      go_roundw
      case rel => exact ⟨k + 1, b6, s6, by omega, by go_num, H6.out.2.1, by rw [HD.out.2.1]; exact H6.out.1, H6.out.2.2⟩
      case measure => simp [intOf]; omega
    · have i1 : ¬ (k : Int) < (M : Int) := by omega
      rw [List.take_of_length_le (by rw [← HC.out.2.2.1]; omega)] at hW
      have k0 : V.cell? ⟨G, 0, none⟩ = some (.bool b) := hbl.cell 0
      have k1 : V.cell? ⟨G, 1, none⟩ = some (.string s) := hbl.cell 1
      have hr6 := HX.out.1.below hB HX.out.1.lt
      have hB9 := HX.out.2.1.trans (hB.mono HX.out.2.1.size)
      have r0 := hr6.cell 0
      have r1 := hr6.cell 1
      have f0 := hr6.frozen 0
      have f1 := hr6.frozen 1
      have hlt := hr6.lt
      simp only [List.getElem?_toArray, List.getElem?_cons_zero, List.getElem?_cons_succ] at r0 r1
      have hbx := HX.out.2.2
      have H9 := hide (And.intro hW (And.intro hB9 (And.intro hr6 hbx)))
      clear hW hB9 hr6 hbx hB hbl
      go_wp2
      refine ret_at (v := .agg #[.bool b, .string s]) (fun W => Blk W bx 43 #[.bool b, .string s]) ?_ (fun W h => ?_) rfl ⟨b, s, rfl, H9.out.1, ?_⟩
      · exact (H9.out.2.2.1.set_ 0 (.bool b)).set_ 1 (.string s)
      · have a0 := h.cell 0
        have a1 := h.cell 1
        simp only [List.getElem?_toArray, List.getElem?_cons_zero, List.getElem?_cons_succ] at a0 a1
        simp [results, Try.results20, go_sem, a0, a1]
      · have := H9.out.2.2.2
        exact (H9.out.2.1.setCell (by dsimp only; omega) _).setCell (by dsimp only; omega) _
end Go.Proofs.Ytfljcgehhnmamaa
