/- Joined texts: CtP Ct. -/
import Derived.Test.YtfljcgehhnmamaaCB17
import Derived.Test.YtfljcgehhnmamaaCB25
import Derived.Test.YtfljcgehhnmamaaCB26
import Derived.Test.YtfljcgehhnmamaaCB30
/- Layer 8, plain: a cell's triangles but for their order; the surface of a field. No program. -/
namespace Go.Proofs.Ytfljcgehhnmamaa
open Go.RowKit
def cycT8 (t : Tri) : Tri := (t.2.1, t.2.2, t.1)
def distT8 (t : Tri) : Prop := t.1 ≠ t.2.1 ∧ t.2.1 ≠ t.2.2 ∧ t.2.2 ≠ t.1
theorem distT8_cyc {t : Tri} (h : distT8 t) : distT8 (cycT8 t) := ⟨h.2.1, h.2.2, h.1⟩
theorem ltP_not8 {a b : Pt} (h : a ≠ b) : ltP a b = !ltP b a := by
  cases h1 : ltP a b <;> cases h2 : ltP b a
  · exact absurd (sto_P.total _ _ h1 h2) h
  · rfl
  · rfl
  · have := sto_P.trans _ _ _ h1 h2; rw [sto_P.irrefl] at this; cases this
theorem rotT_cyc8 {t : Tri} (h : distT8 t) : rotT (cycT8 t) = rotT t := by
  obtain ⟨a, b, c⟩ := t
  obtain ⟨hab, hbc, hca⟩ := h
  simp only at hab hbc hca
  have e1 := ltP_not8 hbc.symm
  have e2 := ltP_not8 hca.symm
  have e3 := ltP_not8 hab.symm
  show (if ltP c b = true then (if ltP a c = true then (a, b, c) else (c, a, b)) else (if ltP a b = true then (a, b, c) else (b, c, a))) = (if ltP b a = true then (if ltP c b = true then (c, a, b) else (b, c, a)) else (if ltP c a = true then (c, a, b) else (a, b, c)))
  cases h1 : ltP a b <;> cases h2 : ltP b c <;> cases h3 : ltP c a <;> simp only [h1, h2, h3] at e1 e2 e3 <;> simp [e1, e2, e3]
  · have := sto_P.trans _ _ _ e1 e3
    have := sto_P.trans _ _ _ this e2
    rw [sto_P.irrefl] at this; cases this
  · have := sto_P.trans _ _ _ (sto_P.trans _ _ _ h1 h2) h3
    rw [sto_P.irrefl] at this; cases this
theorem canon_perm8 {s t : List Tri} (h : (s.map rotT).Perm (t.map rotT)) : canonT s = canonT t := tot_T.sort_perm h
/-! Cycles begun elsewhere. -/
theorem addP_assoc (a b c : Pt) : addP (addP a b) c = addP a (addP b c) := by simp [addP, Int.add_assoc]
theorem addP_comm (a b : Pt) : addP a b = addP b a := by simp [addP, Int.add_comm]
theorem foldl_addP (l : List Pt) (a : Pt) : l.foldl addP a = addP a (sumP l) := by
  unfold sumP
  induction l generalizing a with
  | nil => simp [addP]
  | cons x l ih =>
    rw [List.foldl_cons, List.foldl_cons, ih (addP a x), ih (addP (0, 0, 0) x), ← addP_assoc a]
    congr 1
    simp [addP]
theorem sumP_append (a b : List Pt) : sumP (a ++ b) = addP (sumP a) (sumP b) := by
  rw [sumP, List.foldl_append, foldl_addP]; rfl
theorem nthP_eq_get {l : List Pt} {k : Nat} (h : k < l.length) : l[k]? = some (nthP l k) := by
  rw [nthP_getElem h]; exact List.getElem?_eq_getElem h
theorem rot_form {C D : List Pt} {s : Nat} (hs : s < C.length) (hl : D.length = C.length) (h : ∀ k, k < C.length → nthP D k = nthP C ((s + k) % C.length)) : D = C.drop s ++ C.take s := by
  refine List.ext_getElem? fun i => ?_
  rcases Nat.lt_or_ge i D.length with hi | hi
  · rw [nthP_eq_get hi, h i (by omega)]
    rcases Nat.lt_or_ge (s + i) C.length with h1 | h1
    · rw [Nat.mod_eq_of_lt h1, List.getElem?_append_left (by simp; omega), List.getElem?_drop, nthP_eq_get h1]
    · rw [List.getElem?_append_right (by simp; omega), List.getElem?_take, if_pos (by simp; omega)]
      have e : (s + i) % C.length = i - (C.drop s).length := by
        rw [List.length_drop, Nat.mod_eq_sub_mod h1, Nat.mod_eq_of_lt (by omega)]
        omega
      rw [← e, nthP_eq_get (Nat.mod_lt _ (by omega))]
  · rw [List.getElem?_eq_none hi, List.getElem?_eq_none (by simp; omega)]
theorem range_rot (m s : Nat) (hs : s < m) : ((List.range m).map fun i => (s + i) % m).Perm (List.range m) := by
  have e : ((List.range m).map fun i => (s + i) % m) = (List.range m).drop s ++ (List.range m).take s := by
    refine List.ext_getElem? fun i => ?_
    rcases Nat.lt_or_ge i m with hi | hi
    · rw [List.getElem?_map, List.getElem?_range hi, Option.map_some]
      rcases Nat.lt_or_ge (s + i) m with h1 | h1
      · rw [Nat.mod_eq_of_lt h1, List.getElem?_append_left (by simp; omega), List.getElem?_drop, List.getElem?_range h1]
      · rw [List.getElem?_append_right (by simp; omega), List.getElem?_take, if_pos (by simp; omega)]
        rw [List.length_drop, List.length_range, List.getElem?_range (by omega), Nat.mod_eq_sub_mod h1, Nat.mod_eq_of_lt (by omega)]
        congr 1; omega
    · rw [List.getElem?_eq_none (by simpa using hi), List.getElem?_eq_none (by simp; omega)]
  rw [e]
  exact List.perm_append_comm.trans (by rw [List.take_append_drop])
theorem rot_sum {C D : List Pt} (h : Rot C D) : sumP D = sumP C := by
  obtain ⟨s, hs, hl, hk⟩ := h
  rw [rot_form hs hl hk, sumP_append, addP_comm, ← sumP_append, List.take_append_drop]
theorem rot_ctr {C D : List Pt} (h : Rot C D) : ctrP D = ctrP C := by
  unfold ctrP
  rw [rot_sum h]
  obtain ⟨_, _, hl, _⟩ := h
  rw [hl]
theorem nthP_map (f : Pt → Pt) {l : List Pt} {k : Nat} (h : k < l.length) : nthP (l.map f) k = f (nthP l k) :=
  nthP_get (by rw [List.getElem?_map, nthP_eq_get h]; rfl)
theorem Rot.map {C D : List Pt} (h : Rot C D) (f : Pt → Pt) : Rot (C.map f) (D.map f) := by
  obtain ⟨s, hs, hl, hk⟩ := h
  refine ⟨s, by simpa using hs, by simpa using hl, fun k hkl => ?_⟩
  have hk' : k < C.length := by simpa using hkl
  rw [nthP_map f (by omega), List.length_map, nthP_map f (Nat.mod_lt _ (by omega)), hk k hk']
theorem fan_rot {C D : List Pt} (h : Rot C D) (hn : C.Nodup) : ((fanP D).map rotT).Perm ((fanP C).map rotT) := by
  have hc := rot_ctr h
  obtain ⟨s, hs, hl, hk⟩ := h
  unfold fanP
  rw [hl]
  split
  · rename_i h3
    have hd : distT8 (nthP C 0, nthP C 1, nthP C 2) := by
      have key : ∀ i j, i < 3 → j < 3 → i ≠ j → nthP C i ≠ nthP C j := fun i j hi hj hne e => by
        rw [nthP_getElem (by omega), nthP_getElem (by omega)] at e
        exact hne (nd_inj hn (by omega) (by omega) e)
      exact ⟨key 0 1 (by omega) (by omega) (by omega), key 1 2 (by omega) (by omega) (by omega), key 2 0 (by omega) (by omega) (by omega)⟩
    have h0 := hk 0 (by omega)
    have h1 := hk 1 (by omega)
    have h2 := hk 2 (by omega)
    rw [h3] at h0 h1 h2
    rw [h0, h1, h2]
    have hc : s = 0 ∨ s = 1 ∨ s = 2 := by omega
    rcases hc with rfl | rfl | rfl
    · exact List.Perm.refl _
    · exact List.Perm.of_eq (congrArg (fun t => [t]) (rotT_cyc8 hd))
    · exact List.Perm.of_eq (congrArg (fun t => [t]) ((rotT_cyc8 (distT8_cyc hd)).trans (rotT_cyc8 hd)))
  · refine List.Perm.map _ ?_
    unfold fanN
    rw [hc, hl]
    have e : ((List.range C.length).map fun i => (nthP D i, nthP D ((i + 1) % C.length), ctrP C)) = (((List.range C.length).map fun i => (s + i) % C.length).map fun j => (nthP C j, nthP C ((j + 1) % C.length), ctrP C)) := by
      rw [List.map_map]
      refine List.map_congr_left fun i hi => ?_
      have hi := List.mem_range.1 hi
      rw [hk i hi, hk _ (Nat.mod_lt _ (by omega))]
      simp only [Function.comp_apply]
      rw [Nat.add_mod_mod, Nat.mod_add_mod, Nat.add_assoc]
    rw [e]
    exact (range_rot _ _ hs).map _
theorem pointP_inj {c : Pt} {h : Int} (hh : 0 < h / 2) {p q : Pt} (e : pointP c h p = pointP c h q) : p = q := by
  obtain ⟨a, b, d⟩ := p
  obtain ⟨a', b', d'⟩ := q
  simp only [pointP, Prod.mk.injEq] at e
  obtain ⟨e1, e2, e3⟩ := e
  have k : ∀ x y z : Int, z + x * (h / 2) = z + y * (h / 2) → x = y := fun x y z e => Int.eq_of_mul_eq_mul_right (by omega : h / 2 ≠ 0) (by omega)
  rw [k _ _ _ e1, k _ _ _ e2, k _ _ _ e3]
theorem nodup_pts {c : Pt} {h : Int} (hh : 0 < h / 2) {C : List Pt} (hC : C.Nodup) : (C.map (pointP c h)).Nodup := by
  unfold List.Nodup at *
  rw [List.pairwise_map]
  exact hC.imp fun hne e => hne (pointP_inj hh e)
theorem fans_rot {c : Pt} {h : Int} (hh : 0 < h / 2) : ∀ L : List (List Pt × List Pt), (∀ x ∈ L, Rot x.1 x.2 ∧ x.1.Nodup) →
    ((L.flatMap fun x => fanP (x.2.map (pointP c h))).map rotT).Perm (((L.map (·.1)).flatMap fun C => fanP (C.map (pointP c h))).map rotT)
  | [], _ => List.Perm.refl _
  | x :: L, hL => by
    have h0 := hL x (by simp)
    have ih := fans_rot (c := c) hh L (fun y hy => hL y (by simp [hy]))
    simp only [List.flatMap_cons, List.map_cons, List.map_append]
    exact (fan_rot (h0.1.map _) (nodup_pts hh h0.2)).append ih
/-- A cell's triangles, in one order. -/
def cellTs (l : List Bool) (c : Pt) (h : Int) : List Tri := (cyclesP (insL l)).flatMap fun C => fanP (C.map (pointP c h))
theorem cell_perm {l : List Bool} (hl : l.length = 8) {c : Pt} {h : Int} (hh : 0 < h / 2) {ts : List Tri} (H : CellT c h (cyclesP (insL l)) [] ts) : (ts.map rotT).Perm ((cellTs l c h).map rotT) := by
  obtain ⟨L, h1, h2, rfl⟩ := H
  rw [List.append_nil] at h2
  have hc := cyc_of l hl
  refine (fans_rot hh L fun x hx => ⟨h1 x hx, ?_⟩).trans ?_
  · exact hc.cnodup (h2.mem_iff.1 (List.mem_map.2 ⟨x, hx, rfl⟩))
  · exact ((h2.flatMap_right _)).map _
theorem cellTs_few {l : List Bool} (hl : l.length = 8) (c : Pt) (h : Int) : (cellTs l c h).length ≤ 24 := by
  have key : ∀ R : List (List Pt), (∀ C ∈ R, 1 ≤ C.length) → (R.flatMap fun C => fanP (C.map (pointP c h))).length ≤ R.flatten.length := by
    intro R
    induction R with
    | nil => simp
    | cons C R ih =>
      intro hR
      have a := hR C (by simp)
      have b := ih fun D hD => hR D (by simp [hD])
      have f := fanP_length (C.map (pointP c h))
      rw [List.length_map] at f
      rw [List.flatMap_cons, List.length_append, List.flatten_cons, List.length_append]
      omega
  have hc := cellC l hl
  have := key _ fun C hC => by have := hc.three C hC; omega
  have := hc.few
  unfold cellTs
  omega
/-! The field's cells. -/
def cellAt (n k : Nat) : Pt := ((k % n : Nat), (k / n % n : Nat), (k / n / n : Nat))
def bitsF (F : List Bool) (n k : Nat) : List Bool := (List.range 8).map (insF F (n + 1) (k % n) (k / n % n) (k / n / n))
def ctrL (F : List Bool) (n : Nat) (h : Int) (m : Nat) : List Tri := (List.range m).flatMap fun k => cellTs (bitsF F n k) (cellAt n k) h
theorem ctrL_succ (F : List Bool) (n : Nat) (h : Int) (m : Nat) : ctrL F n h (m + 1) = ctrL F n h m ++ cellTs (bitsF F n m) (cellAt n m) h := by
  unfold ctrL
  rw [List.range_succ, List.flatMap_append, List.flatMap_singleton]
theorem bitsF_length (F : List Bool) (n k : Nat) : (bitsF F n k).length = 8 := by simp [bitsF]
/-- The surface of a field. -/
def contourP (L : Int) (F : List Bool) : List Tri := if validF L F = true then canonT (ctrL F (2 ^ L.toNat) ((2 ^ (21 - L.toNat) : Nat) : Int) (2 ^ L.toNat * 2 ^ L.toNat * 2 ^ L.toNat)) else []
theorem cell_no {n x y z : Nat} (hx : x < n) (hy : y < n) : ((z * n + y) * n + x) % n = x ∧ ((z * n + y) * n + x) / n % n = y ∧ ((z * n + y) * n + x) / n / n = z := by
  have hn : 0 < n := by omega
  have e1 : ((z * n + y) * n + x) / n = z * n + y := by
    rw [Nat.add_comm, Nat.add_mul_div_right _ _ hn, Nat.div_eq_of_lt hx, Nat.zero_add]
  refine ⟨by rw [Nat.mul_comm, Nat.mul_add_mod, Nat.mod_eq_of_lt hx], ?_, ?_⟩
  · rw [e1, Nat.mul_comm, Nat.mul_add_mod, Nat.mod_eq_of_lt hy]
  · rw [e1, Nat.add_comm, Nat.add_mul_div_right _ _ hn, Nat.div_eq_of_lt hy, Nat.zero_add]
end Go.Proofs.Ytfljcgehhnmamaa
/- contour.Contour. -/
namespace Go.Proofs.Ytfljcgehhnmamaa
open Go.RowKit Go.Sort
/-- The triangles of the first k cells, but for their order. -/
def CtrS (F : List Bool) (n : Nat) (h : Int) (k : Nat) (ts : List Tri) : Prop := (ts.map rotT).Perm ((ctrL F n h k).map rotT) ∧ ts.length ≤ 24 * k
theorem CtrS.step {F : List Bool} {n k : Nat} {h : Int} {ts us : List Tri} (hh : 0 < h / 2) (H : CtrS F n h k ts) (hc : CellT (cellAt n k) h (cyclesP (insL (bitsF F n k))) [] us) : CtrS F n h (k + 1) (ts ++ us) ∧ us.length ≤ 24 := by
  have hp := cell_perm (bitsF_length F n k) hh hc
  have hl : us.length ≤ 24 := by
    have := hp.length_eq
    rw [List.length_map, List.length_map] at this
    have := cellTs_few (bitsF_length F n k) (cellAt n k) h
    omega
  refine ⟨⟨?_, by rw [List.length_append]; have := H.2; omega⟩, hl⟩
  rw [ctrL_succ, List.map_append, List.map_append]
  exact H.1.append hp
theorem CtrS.canon {F : List Bool} {n k : Nat} {h : Int} {ts : List Tri} (H : CtrS F n h k ts) : canonT ts = canonT (ctrL F n h k) := canon_perm8 H.1
theorem side_ok {l n : Nat} {x y z : Nat} (hl1 : 1 ≤ l) (hl8 : l ≤ 8) (hn : n = 2 ^ l) (hx : x < n) (hy : y < n) (hz : z < n) : cellOk ((x : Int), (y : Int), (z : Int)) ((2 ^ (21 - l) : Nat) : Int) := by
  have hc : l = 1 ∨ l = 2 ∨ l = 3 ∨ l = 4 ∨ l = 5 ∨ l = 6 ∨ l = 7 ∨ l = 8 := by omega
  unfold cellOk
  rcases hc with rfl | rfl | rfl | rfl | rfl | rfl | rfl | rfl <;> (simp only [Nat.reduceSub, Nat.reducePow] at *; subst hn; simp only [Int.cast_ofNat_Int]; omega)
theorem idx_lt {n x y z : Nat} (hn : n ≤ 256) (hz : z < n) (hy : y < n) (hx : x < n) : (z * n + y) * n + x < 16777216 := by
  have h1 : z * n + n ≤ 65536 := by
    have : (z + 1) * n ≤ 256 * 256 := Nat.mul_le_mul (by omega) hn
    rw [Nat.succ_mul] at this
    omega
  have h2 : (z * n + y + 1) * n ≤ 65536 * 256 := Nat.mul_le_mul (by omega) hn
  rw [Nat.succ_mul] at h2
  omega
set_option maxRecDepth 100000 in
set_option maxHeartbeats 16000000 in
theorem contour_bad (L : Int) (A : Option Addr) (c : Nat) (F : List Bool) (w : World) (hs : Sl encBl 1 w w.heap.size A F) (hlF : F.length ≤ maxLen) (hv : validF L F = false) :
    Calls Try.prog 15 #[.agg #[.int .i64 L, .slice A F.length c]] w fun e w' => e = .returned (.slice none 0 0) ∧ Below w.heap.size w w' := by
  have ho := fun w1 (h1 : Sl encBl 1 w1 w1.heap.size A F) => open_any L A c F w1 h1 hlF
  rw [hv] at ho
  simp only [Bool.false_eq_true, if_false] at ho
  obtain ⟨m, hm⟩ : ∃ m, m = F.length := ⟨_, rfl⟩
  have HS := hide (And.intro hs hm)
  rw [← hm] at ho ⊢
  have HO := hide ho
  clear ho hs hm hlF hv
  go_enter Try.func15, Try.ntmps15
  go_wp2_with fail
  refine (HO.out _ ((HS.out.1.below ((Below.refl _ w).alloc (Nat.le_refl _) _)).more (by simp))).mono ?_
  rintro e w1 ⟨rfl, hB1⟩
  have hB : Below w.heap.size w w1 := ((Below.refl _ w).alloc (Nat.le_refl _) _).trans (hB1.mono (by simp))
  have hz := hB.size
  have HB := hide hB
  clear hB hB1
  unfold zeroG
  go_wp2
  go_ret
  exact ⟨rfl, HB.out.alloc (by omega) _⟩
set_option maxRecDepth 100000 in
set_option maxHeartbeats 16000000 in
theorem contour_good (l : Nat) (hl1 : 1 ≤ l) (hl8 : l ≤ 8) (A : Option Addr) (c : Nat) (F : List Bool) (w : World) (hs : Sl encBl 1 w w.heap.size A F) (hlF : F.length ≤ maxLen) (hv : validF (l : Int) F = true) :
    Calls Try.prog 15 #[.agg #[.int .i64 l, .slice A F.length c]] w fun e w' => ∃ v, e = .returned v ∧ Own encT 9 40 w' w.heap.size v (contourP l F).length (contourP l F) ∧ Below w.heap.size w w' := by
  have ho := fun w1 (h1 : Sl encBl 1 w1 w1.heap.size A F) => open_any l A c F w1 h1 hlF
  have hFl : F.length = (2 ^ l + 1) * (2 ^ l + 1) * (2 ^ l + 1) := by
    unfold validF at hv
    simp only [Bool.and_eq_true, decide_eq_true_eq, Int.toNat_natCast] at hv
    exact hv.1.2
  have hres : contourP l F = canonT (ctrL F (2 ^ l) ((2 ^ (21 - l) : Nat) : Int) (2 ^ l * 2 ^ l * 2 ^ l)) := by
    unfold contourP
    rw [if_pos hv, Int.toNat_natCast]
  rw [hv] at ho
  simp only [if_true, Int.toNat_natCast] at ho
  obtain ⟨n, hn⟩ : ∃ n, n = 2 ^ l := ⟨_, rfl⟩
  obtain ⟨h, hh⟩ : ∃ h : Int, h = ((2 ^ (21 - l) : Nat) : Int) := ⟨_, rfl⟩
  have hn256 : n ≤ 256 := by rw [hn]; exact Nat.pow_le_pow_right (by omega) hl8
  have hh2 : 0 < h / 2 := by
    have hc : l = 1 ∨ l = 2 ∨ l = 3 ∨ l = 4 ∨ l = 5 ∨ l = 6 ∨ l = 7 ∨ l = 8 := by omega
    rcases hc with rfl | rfl | rfl | rfl | rfl | rfl | rfl | rfl <;> (rw [hh]; decide)
  have hok : ∀ x y z : Nat, x < n → y < n → z < n → cellOk ((x : Int), (y : Int), (z : Int)) h := fun x y z hx hy hz => by rw [hh]; exact side_ok hl1 hl8 hn hx hy hz
  rw [← hn, ← hh] at ho hres
  rw [← hn] at hFl
  obtain ⟨R, hR⟩ : ∃ R, R = contourP l F := ⟨_, rfl⟩
  rw [← hR] at hres ⊢
  have hcell : ∀ (x y z : Nat) (w1 : World), x < n → y < n → z < n → Sl encBl 1 w1 w1.heap.size A F →
      Calls Try.prog 28 #[.agg #[.slice A F.length c, .int .i64 n, .int .i64 h], .agg #[.int .i64 x, .int .i64 y, .int .i64 z]] w1 fun e w' => ∃ v ts, e = .returned v ∧ Own encT 9 40 w' w1.heap.size v ts.length ts ∧ CellT (cellAt n ((z * n + y) * n + x)) h (cyclesP (insL (bitsF F n ((z * n + y) * n + x)))) [] ts ∧ Below w1.heap.size w1 w' := fun x y z w1 hx hy hz h1 => by
    obtain ⟨e1, e2, e3⟩ := cell_no (z := z) hx hy
    unfold cellAt bitsF
    rw [e1, e2, e3]
    exact cell_any F A c n x y z h w1 h1 hx hy hz hn256 hFl (hok x y z hx hy hz) _ rfl
  obtain ⟨m, hm⟩ : ∃ m, m = F.length := ⟨_, rfl⟩
  rw [← hm] at ho hcell ⊢
  have HS := hide (And.intro hs (And.intro hm (And.intro hres hh2)))
  have HO := hide ho
  have HC := hide hcell
  obtain ⟨L, hL⟩ : ∃ L : Int, L = l := ⟨_, rfl⟩
  rw [← hL] at HO ⊢
  clear ho hs hm hlF hv hFl hres hok hcell hR hL hn hh hh2
  go_enter Try.func15, Try.ntmps15
  go_wp2_with fail
  refine (HO.out _ ((HS.out.1.below ((Below.refl _ w).alloc (Nat.le_refl _) _)).more (by simp))).mono ?_
  rintro e w1 ⟨rfl, hB1⟩
  have hB : Below w.heap.size w w1 := ((Below.refl _ w).alloc (Nat.le_refl _) _).trans (hB1.mono (by simp))
  have hz := hB.size
  obtain ⟨X, hX⟩ : ∃ X, X = w1.alloc (.cells #[.slice A m c, .int .i64 n, .int .i64 h] 57) := ⟨_, rfl⟩
  have hBX : Below w.heap.size w X := by rw [hX]; exact hB.alloc (by omega) _
  have hgX : Blk X w1.heap.size 57 #[.slice A m c, .int .i64 n, .int .i64 h] := by rw [hX]; exact Blk.new _ _ _
  have hzX : X.heap.size = w1.heap.size + 1 := by rw [hX]; simp
  have HB := hide (And.intro hBX (And.intro hgX hX))
  clear hB hB1 hBX hgX hX
  go_wp2
  rw [← HB.out.2.2]
  obtain ⟨gs0, gs1, gs2⟩ := HB.out.2.1.three
  clear gs0 gs2
  go_loopw [5, 18] (fun v iv wr => ∃ (z : Nat) (ts : List Tri), z ≤ n ∧ iv = .int .i64 z ∧ Own encT 9 40 wr X.heap.size v ts.length ts ∧ CtrS F n h (z * n * n) ts ∧ Below X.heap.size X wr) (fun _ iv _ => n - (intOf iv).toNat)
  case atStart => exact ⟨0, [], by omega, rfl, Own.nil, ⟨by simp [ctrL], by simp⟩, Below.refl _ X⟩
  case round =>
    obtain ⟨z, ts, hz, rfl, hown, hct, hB⟩ := hrel
    obtain ⟨A1, c1, rfl⟩ := hown.form
    have hgz := (hB.cell (p := ⟨w1.heap.size, 1, none⟩) (by dsimp only; omega)).trans gs1
    have hzr := hB.size
    by_cases hlt : z < n
    · have i1 : (z : Int) < (n : Int) := by omega
      have HZ := hide (And.intro hown (And.intro hct hB))
      clear hown hct hB
      obtain ⟨tl, htl⟩ : ∃ tl, tl = ts.length := ⟨_, rfl⟩
      rw [← htl]
      have HT := hide htl
      clear htl
      go_wp2
      go_loopw [5, 23] (fun v iv wr => ∃ (y : Nat) (ts : List Tri), y ≤ n ∧ iv = .int .i64 y ∧ Own encT 9 40 wr X.heap.size v ts.length ts ∧ CtrS F n h ((z * n + y) * n) ts ∧ Below X.heap.size X wr) (fun _ iv _ => n - (intOf iv).toNat)
      case atStart => exact ⟨0, ts, by omega, rfl, by rw [HT.out]; exact HZ.out.1, HZ.out.2.1, HZ.out.2.2⟩
      case round =>
        clear hgz hzr
        obtain ⟨y, us, hy, rfl, hown, hct, hB⟩ := hrel
        obtain ⟨A2, c2, rfl⟩ := hown.form
        have hgz := (hB.cell (p := ⟨w1.heap.size, 1, none⟩) (by dsimp only; omega)).trans gs1
        have hzr := hB.size
        obtain ⟨ul, hul⟩ : ∃ ul, ul = us.length := ⟨_, rfl⟩
        rw [← hul] at hown ⊢
        have HY := hide (And.intro hown (And.intro hct (And.intro hB hul)))
        clear hown hct hB hul
        by_cases hlt2 : y < n
        · have i2 : (y : Int) < (n : Int) := by omega
          go_wp2
          go_loopw [5, 28] (fun v iv wr => ∃ (x : Nat) (ts : List Tri), x ≤ n ∧ iv = .int .i64 x ∧ Own encT 9 40 wr X.heap.size v ts.length ts ∧ CtrS F n h ((z * n + y) * n + x) ts ∧ Below X.heap.size X wr) (fun _ iv _ => n - (intOf iv).toNat)
          case atStart => exact ⟨0, us, by omega, rfl, by rw [← HY.out.2.2.2]; exact HY.out.1, HY.out.2.1, HY.out.2.2.1⟩
          case round =>
            clear hgz hzr
            obtain ⟨x, vs, hx, rfl, hown, hct, hB⟩ := hrel
            obtain ⟨A3, c3, rfl⟩ := hown.form
            obtain ⟨s0, s1, s2⟩ := (HB.out.2.1.below hB (by omega)).three
            have hzr := hB.size
            obtain ⟨vl, hvl⟩ : ∃ vl, vl = vs.length := ⟨_, rfl⟩
            rw [← hvl] at hown ⊢
            have HX := hide (And.intro hown (And.intro hct (And.intro hB hvl)))
            clear hown hct hB hvl
            by_cases hlt3 : x < n
            · have i3 : (x : Int) < (n : Int) := by omega
              have hvb : vl ≤ 500000000 := by
                have h1 := HX.out.2.1.2
                have h2 := idx_lt hn256 hlt hlt2 hlt3
                rw [HX.out.2.2.2]
                omega
              go_wp2_with fail
              refine (HC.out x y z wr hlt3 hlt2 hlt ((HS.out.1.below HB.out.1).below (HX.out.2.2.1.mono (by have := HB.out.1.size; omega)) |>.more (by have := HB.out.1.size; omega))).mono ?_
              rintro e w4 ⟨v4, us4, rfl, hown4, hct4, hB4⟩
              obtain ⟨A4, c4, rfl⟩ := hown4.form
              have hst := HX.out.2.1.step HS.out.2.2.2 hct4
              obtain ⟨ul4, hul4⟩ : ∃ u, u = us4.length := ⟨_, rfl⟩
              have hl4 : ul4 ≤ 24 := by rw [hul4]; exact hst.2
              have hB04 : Below X.heap.size X w4 := HX.out.2.2.1.trans (hB4.mono hzr)
              have hz4 := hB4.size
              have hown3 := HX.out.1.below hB4 (Nat.le_refl _)
              have hsl4 := hown4.sl encT_len (Nat.le_refl _)
              have H4 := hide (And.intro hst.1 (And.intro hB04 (And.intro hown3 (And.intro hsl4 hul4))))
              rw [← hul4]
              clear hown4 hct4 hB4 hst hB04 hown3 hsl4 hul4
              go_wp2_with (at_builtin; refine wpList_appendS rfl _ _ _ rfl Try.underlying29 infoT rfl (by omega) encT_len encT_one rfl H4.out.2.2.1 A4 c4 w4.heap.size us4 (by rw [← H4.out.2.2.2.2]; rfl) H4.out.2.2.2.1 (by have := H4.out.2.2.2.2; unfold maxLen; omega) (by have := H4.out.2.2.2.2; omega) (by omega) ?_; intro v5 w5 hown5 hg5 hB5 hat5)
              go_roundw
              case rel => exact ⟨x + 1, vs ++ us4, by omega, by go_num, by rw [List.length_append, ← HX.out.2.2.2]; exact hown5, H4.out.1, H4.out.2.1.trans hB5⟩
              case measure => simp [intOf]; omega
            · have hxe : n = x := by omega
              subst hxe
              go_wp2
              go_roundw
              case rel => exact ⟨y + 1, vs, by omega, by go_num, by rw [← HX.out.2.2.2]; exact HX.out.1, by have := HX.out.2.1; rw [show (z * n + (y + 1)) * n = (z * n + y) * n + n by rw [← Nat.add_assoc, Nat.succ_mul]]; exact this, HX.out.2.2.1⟩
              case measure => simp [intOf]; omega
        · have hye : n = y := by omega
          subst hye
          go_wp2
          go_roundw
          case rel => exact ⟨z + 1, us, by omega, by go_num, by rw [← HY.out.2.2.2]; exact HY.out.1, by have := HY.out.2.1; rw [show (z + 1) * n * n = (z * n + n) * n by rw [Nat.succ_mul]]; exact this, HY.out.2.2.1⟩
          case measure => simp [intOf]; omega
    · have hze : n = z := by omega
      subst hze
      have hcan := hct.canon
      have hlen := hct.2
      have h24 : n * n * n ≤ 16777216 := Nat.mul_le_mul (Nat.mul_le_mul hn256 hn256) hn256
      have hcal := canon_own A1 c1 ts wr (hown.sl encT_len (Nat.le_refl _)) (by omega)
      obtain ⟨tl, htl⟩ : ∃ tl, tl = ts.length := ⟨_, rfl⟩
      rw [← htl] at hcal ⊢
      have HT := hide (And.intro hcal (And.intro hcan (And.intro hB htl)))
      clear hown hcal hcan hct hlen hB htl
      go_wp2_with fail
      refine HT.out.1.mono ?_
      rintro e w4 ⟨v4, rfl, hown4, hB4⟩
      go_wp2
      go_ret
      refine ⟨v4, rfl, ?_, ?_⟩
      · rw [HT.out.2.1, ← HS.out.2.2.1] at hown4
        have hlR : tl = R.length := hown4.1
        rw [← hlR]
        exact hown4.base_le (by have := HB.out.1.size; have := HT.out.2.2.1.size; omega)
      · exact HB.out.1.trans ((HT.out.2.2.1.mono (by have := HB.out.1.size; omega)).trans (hB4.mono (by have := HB.out.1.size; have := HT.out.2.2.1.size; omega)))
theorem contour_any (L : Int) (A : Option Addr) (c : Nat) (F : List Bool) (w : World) (hs : Sl encBl 1 w w.heap.size A F) (hlF : F.length ≤ maxLen) :
    Calls Try.prog 15 #[.agg #[.int .i64 L, .slice A F.length c]] w fun e w' => ∃ v, e = .returned v ∧ Own encT 9 40 w' w.heap.size v (contourP L F).length (contourP L F) ∧ Below w.heap.size w w' := by
  by_cases hv : validF L F = true
  · have hL : 1 ≤ L ∧ L ≤ 8 := by
      unfold validF at hv
      simp only [Bool.and_eq_true, decide_eq_true_eq] at hv
      exact hv.1.1
    obtain ⟨l, rfl⟩ : ∃ l : Nat, L = l := ⟨L.toNat, by omega⟩
    exact contour_good l (by omega) (by omega) A c F w hs hlF hv
  · have hv' : validF L F = false := by simpa using hv
    have hc : contourP L F = [] := by unfold contourP; rw [if_neg hv]
    refine (contour_bad L A c F w hs hlF hv').mono ?_
    rintro e w' ⟨rfl, hB⟩
    rw [hc]
    exact ⟨_, rfl, Own.nil, hB⟩
end Go.Proofs.Ytfljcgehhnmamaa
