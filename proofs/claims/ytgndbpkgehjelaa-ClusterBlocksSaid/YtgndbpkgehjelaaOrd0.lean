/- Plain laws: the order of points and of triangles is a strict total order. -/
import Derived.Test.YtgndbpkgehjelaaCmp3
import Derived.Sort.Statements
namespace Go.Proofs.Ytgndbpkgehjelaa
open Go.RowKit Go.Sort

/-- A strict total order. -/
structure STO {α : Type} (lt : α → α → Bool) : Prop where
  irrefl : ∀ x, lt x x = false
  trans : ∀ x y z, lt x y = true → lt y z = true → lt x z = true
  total : ∀ x y, lt x y = false → lt y x = false → x = y
theorem STO.swo {α : Type} {lt : α → α → Bool} (h : STO lt) : SWO lt where
  irrefl := h.irrefl
  trans := h.trans
  ntrans x y z h1 h2 := by
    cases hxz : lt x z with
    | false => rfl
    | true =>
      exfalso
      cases hyx : lt y x with
      | false =>
        have e := h.total x y h1 hyx
        subst e
        rw [hxz] at h2; cases h2
      | true =>
        have := h.trans y x z hyx hxz
        rw [this] at h2; cases h2
def lexB {α β : Type} [DecidableEq α] (l1 : α → α → Bool) (l2 : β → β → Bool) (x y : α × β) : Bool := l1 x.1 y.1 || (decide (x.1 = y.1) && l2 x.2 y.2)
theorem STO.lex {α β : Type} [DecidableEq α] {l1 : α → α → Bool} {l2 : β → β → Bool} (h1 : STO l1) (h2 : STO l2) : STO (lexB l1 l2) where
  irrefl x := by simp [lexB, h1.irrefl, h2.irrefl]
  trans x y z hxy hyz := by
    obtain ⟨a, b⟩ := x; obtain ⟨c, d⟩ := y; obtain ⟨e, f⟩ := z
    simp only [lexB, Bool.or_eq_true, Bool.and_eq_true, decide_eq_true_eq] at *
    rcases hxy with h | ⟨rfl, h⟩
    · rcases hyz with k | ⟨rfl, k⟩
      · exact .inl (h1.trans _ _ _ h k)
      · exact .inl h
    · rcases hyz with k | ⟨rfl, k⟩
      · exact .inl k
      · exact .inr ⟨rfl, h2.trans _ _ _ h k⟩
  total x y hxy hyx := by
    obtain ⟨a, b⟩ := x; obtain ⟨c, d⟩ := y
    simp only [lexB, Bool.or_eq_false_iff, Bool.and_eq_false_iff, decide_eq_false_iff_not] at *
    have e : a = c := h1.total _ _ hxy.1 hyx.1
    subst e
    have : b = d := h2.total _ _ (by simpa using hxy.2) (by simpa using hyx.2)
    rw [this]
theorem sto_int : STO (fun a b : Int => decide (a < b)) where
  irrefl x := by simp
  trans x y z h k := by simp at *; omega
  total x y h k := by simp at *; omega
theorem ltP_lex : ltP = lexB (fun a b : Int => decide (a < b)) (lexB (fun a b : Int => decide (a < b)) (fun a b : Int => decide (a < b))) := by
  funext a b
  obtain ⟨a1, a2, a3⟩ := a
  obtain ⟨b1, b2, b3⟩ := b
  simp only [ltP, lexB]
  by_cases h1 : a1 = b1 <;> by_cases h2 : a2 = b2 <;> simp [h1, h2]
theorem sto_P : STO ltP := by rw [ltP_lex]; exact sto_int.lex (sto_int.lex sto_int)
def ltT (s t : Tri) : Bool := lexB ltP (lexB ltP ltP) s t
theorem sto_T : STO ltT := sto_P.lex (sto_P.lex sto_P)
theorem cmpP_neg (a b : Pt) : cmpP a b < 0 ↔ ltP a b = true := by
  unfold cmpP
  cases ltP a b <;> cases ltP b a <;> simp
theorem cmpP_zero (a b : Pt) : cmpP a b = 0 ↔ a = b := by
  unfold cmpP
  constructor
  · intro h
    cases h1 : ltP a b <;> cases h2 : ltP b a <;> simp [h1, h2] at h
    exact sto_P.total _ _ h1 h2
  · rintro rfl
    simp [sto_P.irrefl]
end Go.Proofs.Ytgndbpkgehjelaa
