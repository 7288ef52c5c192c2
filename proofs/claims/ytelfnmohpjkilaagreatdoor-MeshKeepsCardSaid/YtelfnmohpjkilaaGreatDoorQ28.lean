/- MshD. -/
import Derived.WalkKit
import Derived.WalkSpells
import Derived.WalkLawsBesides
import Derived.Laws.OwnMore
import Derived.Deep.AppendLies
import Derived.Deep.Draws
import Derived.Test.YtelfnmohpjkilaaGreatDoorQ4
namespace Go.Proofs.YtelfnmohpjkilaaGreatDoor
/-- In each equivalence that has E. -/
def Eqv (E : Nat → Nat → Prop) (i j : Nat) : Prop := ∀ Q : Nat → Nat → Prop, (∀ a, Q a a) → (∀ a b, Q a b → Q b a) → (∀ a b c, Q a b → Q b c → Q a c) → (∀ a b, E a b → Q a b) → Q i j
section
variable {E F : Nat → Nat → Prop} {i j k : Nat}
theorem Eqv.refl (E : Nat → Nat → Prop) (i : Nat) : Eqv E i i := fun _ hr _ _ _ => hr i
theorem Eqv.symm (h : Eqv E i j) : Eqv E j i := fun Q hr hs ht he => hs _ _ (h Q hr hs ht he)
theorem Eqv.trans (h : Eqv E i j) (h' : Eqv E j k) : Eqv E i k := fun Q hr hs ht he => ht _ _ _ (h Q hr hs ht he) (h' Q hr hs ht he)
theorem Eqv.of (h : E i j) : Eqv E i j := fun _ _ _ _ he => he _ _ h
theorem Eqv.mono (h : Eqv E i j) (hEF : ∀ a b, E a b → Eqv F a b) : Eqv F i j := h (Eqv F) (Eqv.refl F) (fun _ _ => Eqv.symm) (fun _ _ _ => Eqv.trans) hEF
end
/-- R tells the classes of E. -/
structure Tells (R : Nat → Nat) (E : Nat → Nat → Prop) : Prop where
  has : ∀ a b, E a b → R a = R b
  conn : ∀ i j, R i = R j → Eqv E i j
theorem Tells.iff {R : Nat → Nat} {E : Nat → Nat → Prop} (h : Tells R E) (i j : Nat) : R i = R j ↔ Eqv E i j :=
  ⟨h.conn i j, fun he => he (fun a b => R a = R b) (fun _ => rfl) (fun _ _ h => h.symm) (fun _ _ _ h k => h.trans k) h.has⟩
/-- Two classes joined. -/
def joinR (R : Nat → Nat) (x y k : Nat) : Nat := if R k = max (R x) (R y) then min (R x) (R y) else R k
theorem joinR_eq (R : Nat → Nat) (x y i j : Nat) : joinR R x y i = joinR R x y j ↔ R i = R j ∨ (R i = R x ∧ R j = R y) ∨ (R i = R y ∧ R j = R x) := by
  unfold joinR
  constructor
  · intro h
    split at h <;> split at h <;> omega
  · rintro (h | ⟨h, k⟩ | ⟨h, k⟩)
    · rw [h]
    · rw [h, k]
      split <;> split <;> omega
    · rw [h, k]
      split <;> split <;> omega
theorem Tells.join {R : Nat → Nat} {E : Nat → Nat → Prop} (h : Tells R E) (x y : Nat) : Tells (joinR R x y) (fun a b => E a b ∨ (a = x ∧ b = y)) where
  has a b hab := by
    rw [joinR_eq]
    rcases hab with hab | ⟨rfl, rfl⟩
    · exact .inl (h.has a b hab)
    · exact .inr (.inl ⟨rfl, rfl⟩)
  conn i j hij := by
    have up : ∀ a b, R a = R b → Eqv (fun a b => E a b ∨ (a = x ∧ b = y)) a b := fun a b hab => (h.conn a b hab).mono fun a b he => Eqv.of (.inl he)
    have hxy : Eqv (fun a b => E a b ∨ (a = x ∧ b = y)) x y := Eqv.of (.inr ⟨rfl, rfl⟩)
    rcases (joinR_eq R x y i j).1 hij with h1 | ⟨h1, h2⟩ | ⟨h1, h2⟩
    · exact up i j h1
    · exact (up i x h1).trans (hxy.trans (up y j h2.symm))
    · exact (up i y h1).trans (hxy.symm.trans (up x j h2.symm))
theorem Tells.same {R : Nat → Nat} {E F : Nat → Nat → Prop} (h : Tells R E) (hEF : ∀ a b, E a b → Eqv F a b) (hFE : ∀ a b, F a b → Eqv E a b) : Tells R F where
  has a b hab := (h.iff a b).2 (hFE a b hab)
  conn i j hij := (h.conn i j hij).mono hEF
/-- The root of k, f steps at most. -/
def rootF (p : Nat → Nat) : Nat → Nat → Nat
  | 0, k => k
  | f + 1, k => if p k = k then k else rootF p f (p k)
def rootP (p : Nat → Nat) (k : Nat) : Nat := rootF p k k
def Desc (p : Nat → Nat) : Prop := ∀ k, p k ≤ k
theorem rootF_any {p : Nat → Nat} (hp : Desc p) : ∀ (f g k : Nat), k ≤ f → k ≤ g → rootF p f k = rootF p g k := by
  intro f
  induction f with
  | zero =>
    intro g k hf _
    have : k = 0 := by omega
    subst this
    cases g with
    | zero => rfl
    | succ g =>
      have h0 : p 0 = 0 := by have := hp 0; omega
      show 0 = if p 0 = 0 then 0 else rootF p g (p 0)
      rw [if_pos h0]
  | succ f ih =>
    intro g k hf hg
    have hk := hp k
    cases g with
    | zero =>
      have : k = 0 := by omega
      subst this
      have h0 : p 0 = 0 := by omega
      show (if p 0 = 0 then 0 else rootF p f (p 0)) = 0
      rw [if_pos h0]
    | succ g =>
      show (if p k = k then k else rootF p f (p k)) = if p k = k then k else rootF p g (p k)
      split
      · rfl
      · exact ih g (p k) (by omega) (by omega)
theorem root_self {p : Nat → Nat} {k : Nat} (h : p k = k) : rootP p k = k := by
  unfold rootP
  cases k with
  | zero => rfl
  | succ k =>
    show (if p (k + 1) = k + 1 then k + 1 else _) = k + 1
    rw [if_pos h]
theorem root_step {p : Nat → Nat} (hp : Desc p) (k : Nat) : rootP p k = rootP p (p k) := by
  by_cases h : p k = k
  · rw [h]
  · have hk := hp k
    unfold rootP
    rw [rootF_any hp k (k + 1) k (Nat.le_refl _) (by omega)]
    show (if p k = k then k else rootF p k (p k)) = _
    rw [if_neg h]
    exact rootF_any hp _ _ _ hk (Nat.le_refl _)
theorem root_ind {p : Nat → Nat} (hp : Desc p) {Q : Nat → Prop} (h0 : ∀ k, p k = k → Q k) (hs : ∀ k, p k < k → Q (p k) → Q k) : ∀ k, Q k := by
  intro k
  induction k using Nat.strongRecOn with
  | ind k ih =>
    have hk := hp k
    rcases Nat.eq_or_lt_of_le hk with h | h
    · exact h0 k h
    · exact hs k h (ih _ h)
theorem root_fix {p : Nat → Nat} (hp : Desc p) (k : Nat) : p (rootP p k) = rootP p k := by
  refine root_ind hp (Q := fun k => p (rootP p k) = rootP p k) (fun k h => ?_) (fun k _ h => ?_) k
  · rw [root_self h]; exact h
  · show p (rootP p k) = rootP p k
    rw [root_step hp k]; exact h
theorem root_le {p : Nat → Nat} (hp : Desc p) (k : Nat) : rootP p k ≤ k := by
  refine root_ind hp (Q := fun k => rootP p k ≤ k) (fun k h => ?_) (fun k h1 h => ?_) k
  · show rootP p k ≤ k
    rw [root_self h]; exact Nat.le_refl _
  · show rootP p k ≤ k
    rw [root_step hp k]; have h2 : rootP p (p k) ≤ p k := h; omega
theorem root_root {p : Nat → Nat} (hp : Desc p) (k : Nat) : rootP p (rootP p k) = rootP p k := root_self (root_fix hp k)
def setP (p : Nat → Nat) (i v k : Nat) : Nat := if k = i then v else p k
/-- The parent's parent is laid down: the roots stay. -/
theorem root_half {p : Nat → Nat} (hp : Desc p) (i : Nat) : Desc (setP p i (p (p i))) ∧ ∀ k, rootP (setP p i (p (p i))) k = rootP p k := by
  have hd : Desc (setP p i (p (p i))) := fun k => by
    unfold setP
    split
    · rename_i h; subst h; exact Nat.le_trans (hp _) (hp _)
    · exact hp k
  refine ⟨hd, fun k => root_ind hd (Q := fun k => rootP (setP p i (p (p i))) k = rootP p k) (fun k h => ?_) (fun k _ h => ?_) k⟩
  · show rootP _ k = rootP p k
    rw [root_self h]
    unfold setP at h
    split at h
    · rename_i hk
      subst hk
      have h1 := hp k
      have h2 := hp (p k)
      exact (root_self (by omega)).symm
    · exact (root_self h).symm
  · show rootP _ k = rootP p k
    rw [root_step hd k, h]
    unfold setP
    split
    · rename_i hk; subst hk; rw [← root_step hp, ← root_step hp]
    · rw [← root_step hp]
/-- A root is hung under a smaller one. -/
theorem root_join {p : Nat → Nat} (hp : Desc p) (x y : Nat) : Desc (setP p (max (rootP p x) (rootP p y)) (min (rootP p x) (rootP p y))) ∧ ∀ k, rootP (setP p (max (rootP p x) (rootP p y)) (min (rootP p x) (rootP p y))) k = joinR (rootP p) x y k := by
  have fx := root_fix hp x
  have fy := root_fix hp y
  obtain ⟨a, ha⟩ : ∃ a, a = rootP p x := ⟨_, rfl⟩
  obtain ⟨b, hb⟩ : ∃ b, b = rootP p y := ⟨_, rfl⟩
  have e : ∀ k, joinR (rootP p) x y k = if rootP p k = max a b then min a b else rootP p k := fun k => by rw [ha, hb]; rfl
  simp only [e]
  rw [← ha] at fx ⊢
  rw [← hb] at fy ⊢
  have hd : Desc (setP p (max a b) (min a b)) := fun k => by
    unfold setP
    split
    · omega
    · exact hp k
  have hmin : p (min a b) = min a b := by
    rcases Nat.le_total a b with h | h
    · rw [Nat.min_eq_left h]; exact fx
    · rw [Nat.min_eq_right h]; exact fy
  have hmax : p (max a b) = max a b := by
    rcases Nat.le_total a b with h | h
    · rw [Nat.max_eq_right h]; exact fy
    · rw [Nat.max_eq_left h]; exact fx
  have hrmin : rootP (setP p (max a b) (min a b)) (min a b) = min a b := by
    refine root_self ?_
    unfold setP
    split
    · rfl
    · exact hmin
  refine ⟨hd, fun k => root_ind hp (Q := fun k => rootP (setP p (max a b) (min a b)) k = if rootP p k = max a b then min a b else rootP p k) (fun k h => ?_) (fun k h1 h => ?_) k⟩
  · show rootP _ k = if rootP p k = max a b then min a b else rootP p k
    rw [root_self h]
    by_cases hk : k = max a b
    · rw [if_pos hk, root_step hd]
      have : setP p (max a b) (min a b) k = min a b := by unfold setP; rw [if_pos hk]
      rw [this, hrmin]
    · rw [if_neg hk]
      refine root_self ?_
      unfold setP
      rw [if_neg hk]; exact h
  · show rootP _ k = if rootP p k = max a b then min a b else rootP p k
    have hk : k ≠ max a b := fun e => by rw [e, hmax] at h1; omega
    have h2 : rootP p k = rootP p (p k) := root_step hp k
    rw [root_step hd k, h2]
    have : setP p (max a b) (min a b) k = p k := by unfold setP; rw [if_neg hk]
    rw [this]; exact h
def headI (S : Nat → Nat → Bool) (k : Nat) : Bool := (List.range k).all fun j => !S j k
/-- The heads among the first n. -/
def headsI (S : Nat → Nat → Bool) (n : Nat) : List Nat := (List.range n).filter (headI S)
def partsI (S : Nat → Nat → Bool) (n : Nat) : List (List Nat) := (headsI S n).map fun h => (List.range n).filter (S h)
structure EqB (S : Nat → Nat → Bool) : Prop where
  refl : ∀ a, S a a = true
  symm : ∀ a b, S a b = true → S b a = true
  trans : ∀ a b c, S a b = true → S b c = true → S a c = true
theorem headI_iff {S : Nat → Nat → Bool} {k : Nat} : headI S k = true ↔ ∀ j, j < k → S j k = false := by
  unfold headI
  rw [List.all_eq_true]
  constructor
  · intro h j hj
    have := h j (List.mem_range.2 hj)
    rwa [Bool.not_eq_true'] at this
  · intro h j hj
    rw [Bool.not_eq_true']
    exact h j (List.mem_range.1 hj)
/-- Each number has a head among those up to it. -/
theorem head_of {S : Nat → Nat → Bool} (hS : EqB S) (k : Nat) : ∃ h, h ≤ k ∧ headI S h = true ∧ S h k = true := by
  induction k using Nat.strongRecOn with
  | ind k ih =>
    by_cases hk : headI S k = true
    · exact ⟨k, Nat.le_refl _, hk, hS.refl k⟩
    · have : ∃ j, j < k ∧ S j k = true := by
        refine Classical.byContradiction fun hn => hk (headI_iff.2 fun j hj => ?_)
        cases hb : S j k with
        | false => rfl
        | true => exact absurd ⟨j, hj, hb⟩ hn
      obtain ⟨j, hj, hjk⟩ := this
      obtain ⟨h, h1, h2, h3⟩ := ih j hj
      exact ⟨h, by omega, h2, hS.trans _ _ _ h3 hjk⟩
theorem head_one {S : Nat → Nat → Bool} (hS : EqB S) {a b : Nat} (ha : headI S a = true) (hb : headI S b = true) (h : S a b = true) : a = b := by
  rcases Nat.lt_trichotomy a b with h1 | h1 | h1
  · have := headI_iff.1 hb a h1; rw [h] at this; cases this
  · exact h1
  · have := headI_iff.1 ha b h1; rw [hS.symm _ _ h] at this; cases this
theorem headsI_succ (S : Nat → Nat → Bool) (n : Nat) : headsI S (n + 1) = headsI S n ++ if headI S n = true then [n] else [] := by
  unfold headsI
  rw [List.range_succ, List.filter_append]
  congr 1
  by_cases h : headI S n = true
  · rw [if_pos h, List.filter_cons_of_pos h]; rfl
  · rw [if_neg h, List.filter_cons_of_neg h]; rfl
theorem headsI_mem {S : Nat → Nat → Bool} {n h : Nat} : h ∈ headsI S n ↔ h < n ∧ headI S h = true := by
  unfold headsI
  rw [List.mem_filter, List.mem_range]
theorem filt_succ (S : Nat → Nat → Bool) (h n : Nat) : (List.range (n + 1)).filter (S h) = (List.range n).filter (S h) ++ if S h n = true then [n] else [] := by
  rw [List.range_succ, List.filter_append]
  congr 1
  by_cases h1 : S h n = true
  · rw [if_pos h1, List.filter_cons_of_pos h1]; rfl
  · rw [if_neg h1, List.filter_cons_of_neg h1]; rfl
/-- A new head: a new class. -/
theorem partsI_new {S : Nat → Nat → Bool} (hS : EqB S) {n : Nat} (hn : headI S n = true) : partsI S (n + 1) = partsI S n ++ [[n]] := by
  unfold partsI
  rw [headsI_succ, if_pos hn, List.map_append, List.map_singleton]
  congr 1
  · refine List.map_congr_left fun h hh => ?_
    obtain ⟨h1, _⟩ := headsI_mem.1 hh
    rw [filt_succ, headI_iff.1 hn h h1]; simp
  · have : (List.range n).filter (S n) = [] := by
      rw [List.filter_eq_nil_iff]
      intro j hj hc
      have := headI_iff.1 hn j (List.mem_range.1 hj)
      rw [hS.symm _ _ hc] at this; cases this
    rw [filt_succ, this, if_pos (hS.refl n)]; rfl
/-- An old one: its class grows. -/
theorem partsI_old {S : Nat → Nat → Bool} (hS : EqB S) {n i h : Nat} (hi : (headsI S n)[i]? = some h) (hh : S h n = true) : ∃ p, (partsI S n)[i]? = some p ∧ partsI S (n + 1) = (partsI S n).set i (p ++ [n]) := by
  have hm := headsI_mem.1 (List.mem_of_getElem? hi)
  have hn : ¬ headI S n = true := fun hn => by have := headI_iff.1 hn h hm.1; rw [hh] at this; cases this
  refine ⟨(List.range n).filter (S h), by unfold partsI; rw [List.getElem?_map, hi]; rfl, ?_⟩
  unfold partsI
  rw [headsI_succ, if_neg hn, List.append_nil]
  refine List.ext_getElem? fun j => ?_
  rw [List.getElem?_map, List.getElem?_set, List.length_map]
  obtain ⟨hil, _⟩ := List.getElem?_eq_some_iff.1 hi
  by_cases hj : i = j
  · subst hj
    rw [if_pos rfl, if_pos hil, hi, Option.map_some, filt_succ, if_pos hh]
  · rw [if_neg hj, List.getElem?_map]
    cases hg : (headsI S n)[j]? with
    | none => rfl
    | some g =>
      rw [Option.map_some, Option.map_some, filt_succ]
      have hgm := headsI_mem.1 (List.mem_of_getElem? hg)
      by_cases hgn : S g n = true
      · exfalso
        have e : g = h := head_one hS hgm.2 hm.2 (hS.trans _ _ _ hgn (hS.symm _ _ hh))
        subst e
        have nd : (headsI S n).Nodup := List.nodup_range.filter _
        obtain ⟨hjl, ej⟩ := List.getElem?_eq_some_iff.1 hg
        obtain ⟨_, ei⟩ := List.getElem?_eq_some_iff.1 hi
        have nd' := List.pairwise_iff_getElem.1 nd
        rcases Nat.lt_or_ge i j with h4 | h4
        · exact nd' i j hil hjl h4 (ei.trans ej.symm)
        · exact nd' j i hjl hil (by omega) (ej.trans ei.symm)
      · rw [if_neg hgn]; simp
end Go.Proofs.YtelfnmohpjkilaaGreatDoor
