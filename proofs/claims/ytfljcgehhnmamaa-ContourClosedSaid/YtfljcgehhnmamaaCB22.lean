/- Joined texts: MixT. -/
import Derived.Test.YtfljcgehhnmamaaCB3
/- A region that draws its order, walked along a tree: where two operations that are not quiet may come in either order, both. No dump is named. -/
namespace Go.Proofs.Ytfljcgehhnmamaa
section
variable {P : Program} {ops : Array Oper} {Q : Exit → Act → World → Prop} {md : Region.Mode} {S : World → Prop}
inductive MixT where
  | nil : MixT
  | q (i : Nat) (r : MixT) : MixT
  | one (i : Nat) (r : MixT) : MixT
  | two (i : Nat) (r : MixT) (j : Nat) (s : MixT) : MixT
def mixTB (md : Region.Mode) (ops : Array Oper) (qs : List Nat) : MixT → Nat → Array Bool → Bool
  | .nil, n, listed => decide (n = 0) && (Region.ready md ops listed).isEmpty
  | .q i r, n, listed => decide (0 < n) && (qs.contains i && (Region.ready md ops listed).contains i && Region.free md ops listed i && mixTB md ops qs r (n - 1) (listed.setIfInBounds i true))
  | .one i r, n, listed => decide (0 < n) && (decide (Region.ready md ops listed = [i]) && mixTB md ops qs r (n - 1) (listed.setIfInBounds i true))
  | .two i r j s, n, listed => decide (0 < n) && (decide (Region.ready md ops listed = [i, j]) && mixTB md ops qs r (n - 1) (listed.setIfInBounds i true) && mixTB md ops qs s (n - 1) (listed.setIfInBounds j true))
def wpMixT (P : Program) (md : Region.Mode) (ops : Array Oper) (Q : Exit → Act → World → Prop) (S : World → Prop) (qs : List Nat) : MixT → Act → World → Prop
  | .nil, a, w => Q .normal a w
  | .q i r, a, w => S w ∧ ∃ o v, ops[i]? = some o ∧ YieldsIf P ops S o v a ∧ (∀ c a w, Q (.panic c) (a.put o.dst v) w → Q (.panic c) a w) ∧ wpMixT P md ops Q S qs r (a.put o.dst v) w
  | .one i r, a, w => wpOp P ops Q i (fun a' w' => (needsS md ops qs i = true → S w') ∧ wpMixT P md ops Q S qs r a' w') a w
  | .two i r j s, a, w => wpOp P ops Q i (fun a' w' => (needsS md ops qs i = true → S w') ∧ wpMixT P md ops Q S qs r a' w') a w ∧ wpOp P ops Q j (fun a' w' => (needsS md ops qs j = true → S w') ∧ wpMixT P md ops Q S qs s a' w') a w
theorem wpAnyM_of_tree {qs : List Nat} (hsel : Region.noSelect ops = true) : ∀ (t : MixT) (n : Nat) (listed : Array Bool) (a : Act) (w : World), Closed md ops listed → mixTB md ops qs t n listed = true →
    wpMixT P md ops Q S qs t a w → wpAnyM P md ops Q S qs n listed a w
  | .nil, n, _, _, _, _, hB, h => by
    simp only [mixTB, Bool.and_eq_true, decide_eq_true_eq] at hB
    obtain ⟨rfl, hB⟩ := hB
    exact ⟨by simpa using hB, h⟩
  | .q i r, n, listed, a, w, hc, hB, h => by
    simp only [mixTB, Bool.and_eq_true, decide_eq_true_eq] at hB
    obtain ⟨hn, ⟨⟨hq, hr⟩, hf⟩, hB'⟩ := hB
    obtain ⟨m, rfl⟩ : ∃ m, n = m + 1 := ⟨n - 1, by omega⟩
    obtain ⟨hS, o, v, ho, hy, hQ, hK⟩ := h
    have hr : i ∈ Region.ready md ops listed := by simpa using hr
    exact wpAnyM_first ho (by simpa using hq) (Region.noSelect_spec hsel) hQ m listed a w hc (Region.free_spec ho hf) hr hy hS
      (wpAnyM_of_tree hsel r m _ _ w (hc.set hr) hB' hK)
  | .one i r, n, listed, a, w, hc, hB, h => by
    simp only [mixTB, Bool.and_eq_true, decide_eq_true_eq] at hB
    obtain ⟨hn, h1, hB'⟩ := hB
    obtain ⟨m, rfl⟩ : ∃ m, n = m + 1 := ⟨n - 1, by omega⟩
    refine ⟨fun h0 => (by rw [h1] at h0; cases h0), fun j hj => ?_⟩
    have hj' := hj
    rw [h1] at hj'
    have : j = i := by simpa using hj'
    subst this
    exact wpOp_mono (fun a' w' h' => ⟨h'.1, wpAnyM_of_tree hsel r m _ a' w' (hc.set hj) hB' h'.2⟩) h
  | .two i r k s, n, listed, a, w, hc, hB, h => by
    simp only [mixTB, Bool.and_eq_true, decide_eq_true_eq] at hB
    obtain ⟨hn, ⟨h1, hB'⟩, hB2⟩ := hB
    obtain ⟨m, rfl⟩ : ∃ m, n = m + 1 := ⟨n - 1, by omega⟩
    refine ⟨fun h0 => (by rw [h1] at h0; cases h0), fun j hj => ?_⟩
    have hj' := hj
    rw [h1] at hj'
    have hc' : j = i ∨ j = k := by simpa using hj'
    rcases hc' with rfl | rfl
    · exact wpOp_mono (fun a' w' h' => ⟨h'.1, wpAnyM_of_tree hsel r m _ a' w' (hc.set hj) hB' h'.2⟩) h.1
    · exact wpOp_mono (fun a' w' h' => ⟨h'.1, wpAnyM_of_tree hsel s m _ a' w' (hc.set hj) hB2 h'.2⟩) h.2
def mixTOK (ops : Array Oper) (qs : List Nat) (t : MixT) : Bool := Region.noSelect ops && mixTB .any ops qs t ops.size (Array.replicate ops.size false)
/-- A drawn region, along a tree. -/
theorem wp_region_tree {id : Nat} {a : Act} {w : World} (S : World → Prop) (qs : List Nat) (t : MixT) (hm : P.follows .mixedOrders = true) (hB : mixTOK ops qs t = true)
    (h : wpMixT P .any ops Q S qs t a w.drew) : (Code.region id ops true).wp P Q a w := by
  simp only [mixTOK, Bool.and_eq_true] at hB
  exact wp_region_any hm (wpAny_of_mixed _ _ _ _ (wpAnyM_of_tree hB.1 t _ _ a _ (closed_none _ _ _) hB.2 h))
theorem wpMixT_nil {qs : List Nat} {a : Act} {w : World} (h : Q .normal a w) : wpMixT P md ops Q S qs .nil a w := h
theorem wpMixT_q {qs : List Nat} {r : MixT} {i : Nat} {a : Act} {w : World} {o : Oper} {v : Value} (ho : ops[i]? = some o) (hQ : ∀ c a w, Q (.panic c) (a.put o.dst v) w → Q (.panic c) a w)
    (hS : S w) (hy : Region.wanted o (yielded ops a.tmps) = true ∧ ∀ w, S w → (execOp a.eval o).run P w = .ok (.value v) w) (h : wpMixT P md ops Q S qs r (a.put o.dst v) w) : wpMixT P md ops Q S qs (.q i r) a w :=
  ⟨hS, o, v, ho, .inl hy, hQ, h⟩
theorem wpMixT_one {qs : List Nat} {r : MixT} {i : Nat} {a : Act} {w : World} {o : Oper} (ho : ops[i]? = some o)
    (h : wpList P ops (Exit.then (fun a' w' => (needsS md ops qs i = true → S w') ∧ wpMixT P md ops Q S qs r a' w') Q) [o] a w) : wpMixT P md ops Q S qs (.one i r) a w := wpOp_of_list ho h
theorem wpMixT_two {qs : List Nat} {r s : MixT} {i j : Nat} {a : Act} {w : World} {o u : Oper} (ho : ops[i]? = some o) (hu : ops[j]? = some u)
    (h : wpList P ops (Exit.then (fun a' w' => (needsS md ops qs i = true → S w') ∧ wpMixT P md ops Q S qs r a' w') Q) [o] a w)
    (k : wpList P ops (Exit.then (fun a' w' => (needsS md ops qs j = true → S w') ∧ wpMixT P md ops Q S qs s a' w') Q) [u] a w) : wpMixT P md ops Q S qs (.two i r j s) a w := ⟨wpOp_of_list ho h, wpOp_of_list hu k⟩
end
end Go.Proofs.Ytfljcgehhnmamaa
