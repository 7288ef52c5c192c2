/- RinP PrmP EulP PcsC EulW. -/
import Derived.WalkKit
import Derived.WalkSpells
import Derived.WalkLawsBesides
import Derived.Laws.OwnMore
import Derived.Deep.AppendLies
import Derived.Deep.Draws
import Derived.Maps.AppendAt
import Derived.OwnWalk
import Derived.Sort.Grow
import Derived.Shelf.GgSortFunc.RowK
import Derived.RangeFuncNested
import Derived.RangeFuncBox
import Derived.Test.YtelfnmohpjkilaaGreatDoorRows
import Derived.Handy
import Derived.Maps.Own
import Derived.Maps.Views
import Derived.DeepKeys4
import Derived.DeepKeys
import Derived.Laws.StructEq
import Derived.Deep.QuietTactic
import Derived.BigQuiet
import Derived.LoopN
import Derived.Laws.EntriesVeiled
import Derived.Shelf.SlSortCmp.QuietGrown
import Derived.Deep.RegionHeld3
import Derived.Deep.DrawnRows
import Derived.Sort.Statements
import Derived.Shelf.SlSortCmp.NoneTotal
import Derived.OrdersHeld
import Derived.OrdersIn
import Derived.RangeFuncCalls
import Derived.OwnWalkIn
import Derived.Deep.CutBlock
import Derived.Deep.DeepCutAuto
import Derived.IntWalk
import Derived.Test.YtelfnmohpjkilaaGreatDoorProg
import Derived.StillTailTactics
import Derived.Deep.WholeRow
import Derived.Great.BuildSlice
import Derived.Great.Walk
import Derived.Maps.OwnSet
import Derived.Maps.RangeWalk
import Derived.Deep.MidRow
import Derived.Shelf.RegionOpen
import Derived.WideKeyEntry
import Derived.Test.YtelfnmohpjkilaaGreatDoorQ36
import Derived.Test.YtelfnmohpjkilaaGreatDoorQ46
import Derived.Test.YtelfnmohpjkilaaGreatDoorQ50
import Derived.Test.YtelfnmohpjkilaaGreatDoorQ51
namespace Go.Proofs.YtelfnmohpjkilaaGreatDoor
open Go.RowKit Go.Sort
def iterO (b : Pt → Option Pt) : Nat → Pt → Option Pt
  | 0, s => some s
  | k + 1, s => (b s).bind (iterO b k)
theorem runO_iff (b : Pt → Option Pt) (s : Pt) : ∀ (n : Nat) (a : Pt), runO b s n a = true ↔ ∃ k, 1 ≤ k ∧ k ≤ n ∧ iterO b k a = some s
  | 0, a => by
    constructor
    · intro h; cases h
    · rintro ⟨k, h1, h2, _⟩; omega
  | n + 1, a => by
    unfold runO
    cases hb : b a with
    | none =>
      constructor
      · intro h; cases h
      · rintro ⟨k, h1, h2, h3⟩
        obtain ⟨k, rfl⟩ : ∃ j, k = j + 1 := ⟨k - 1, by omega⟩
        unfold iterO at h3
        rw [hb] at h3; cases h3
    | some x =>
      show (decide (x = s) || runO b s n x) = true ↔ _
      rw [Bool.or_eq_true, decide_eq_true_eq, runO_iff b s n x]
      constructor
      · rintro (rfl | ⟨k, h1, h2, h3⟩)
        · exact ⟨1, by omega, by omega, by unfold iterO; rw [hb]; rfl⟩
        · exact ⟨k + 1, by omega, by omega, by unfold iterO; rw [hb]; exact h3⟩
      · rintro ⟨k, h1, h2, h3⟩
        obtain ⟨k, rfl⟩ : ∃ j, k = j + 1 := ⟨k - 1, by omega⟩
        unfold iterO at h3
        rw [hb] at h3
        change iterO b k x = some s at h3
        rcases Nat.eq_zero_or_pos k with rfl | hk
        · unfold iterO at h3
          injection h3 with h3
          exact .inl h3
        · exact .inr ⟨k, hk, by omega, h3⟩
theorem ringM_iff {l : List Tri} {e : Ed} : ringM l e = true ↔ ∃ k, 1 ≤ k ∧ k < cntC l e.1 ∧ iterO (behP l e.1) k e.2 = some e.2 := by
  unfold ringM
  cases hb : behP l e.1 e.2 with
  | none =>
    constructor
    · intro h; cases h
    · rintro ⟨k, h1, _, h3⟩
      obtain ⟨k, rfl⟩ : ∃ j, k = j + 1 := ⟨k - 1, by omega⟩
      unfold iterO at h3
      rw [hb] at h3; cases h3
  | some x =>
    show prgO (behP l e.1) e.2 (cntC l e.1) (cntC l e.1) 1 x = true ↔ _
    rw [ring_same _ _ _ _ _ hb (Nat.le_refl _), runO_iff]
    constructor
    · rintro ⟨k, h1, h2, h3⟩; exact ⟨k, h1, by omega, h3⟩
    · rintro ⟨k, h1, h2, h3⟩; exact ⟨k, h1, by omega, h3⟩
theorem iterO_mono {b c : Pt → Option Pt} (h : ∀ x y, b x = some y → c x = some y) : ∀ (k : Nat) (s r : Pt), iterO b k s = some r → iterO c k s = some r
  | 0, s, r, hk => hk
  | k + 1, s, r, hk => by
    unfold iterO at hk ⊢
    cases hb : b s with
    | none => rw [hb] at hk; cases hk
    | some x =>
      rw [hb] at hk
      rw [h _ _ hb]
      exact iterO_mono h k x r hk
/-- No ring but whole ones. -/
def calmP (l : List Tri) : Prop := ∀ p s k, 1 ≤ k → iterO (behP l p) k s = some s → cntC l p ≤ k
theorem calm_iff {l : List Tri} : (edgesP l).any (ringM l) = false ↔ calmP l := by
  constructor
  · intro h p s k hk hi
    refine Classical.byContradiction fun hc => ?_
    have he : (p, s) ∈ edgesP l := by
      obtain ⟨j, rfl⟩ : ∃ j, k = j + 1 := ⟨k - 1, by omega⟩
      unfold iterO at hi
      cases hb : behP l p s with
      | none => rw [hb] at hi; cases hi
      | some x => rw [edges_trip]; exact List.mem_map.2 ⟨_, behP_of hb, rfl⟩
    have : (edgesP l).any (ringM l) = true := List.any_eq_true.2 ⟨(p, s), he, ringM_iff.2 ⟨k, hk, by show k < cntC l p; omega, hi⟩⟩
    rw [h] at this; cases this
  · intro h
    cases hb : (edgesP l).any (ringM l) with
    | false => rfl
    | true =>
      obtain ⟨e, _, he⟩ := List.any_eq_true.1 hb
      obtain ⟨k, h1, h2, h3⟩ := ringM_iff.1 he
      have := h _ _ _ h1 h3
      omega
theorem check_iff {l : List Tri} {op : Bool} : checkP l op = 0 ↔ l.any flatT = false ∧ (edgesP l).Nodup ∧ (op = true ∨ borderP l = []) ∧ calmP l := by
  rw [check_is, ← calm_iff]
  by_cases h1 : l.any flatT = true
  · rw [if_pos h1, h1]; simp
  · rw [if_neg h1]
    have h1' : l.any flatT = false := by simpa using h1
    by_cases h2 : (edgesP l).Nodup
    · rw [if_neg (fun h => h h2)]
      cases op with
      | true => by_cases h4 : (edgesP l).any (ringM l) = true <;> simp [h1', h2, h4]
      | false =>
        by_cases h3 : borderP l = []
        · by_cases h4 : (edgesP l).any (ringM l) = true <;> simp [h1', h2, h3, h4]
        · have : 0 < (borderP l).length := List.length_pos_iff.2 h3
          rw [if_pos (by simpa using this)]
          simp [h3]
    · rw [if_pos h2]; simp [h2]
theorem trip_app (a b : List Tri) : tripP (a ++ b) = tripP a ++ tripP b := by unfold tripP; rw [List.flatMap_append]
theorem edges_app (a b : List Tri) : edgesP (a ++ b) = edgesP a ++ edgesP b := by unfold edgesP; rw [List.flatMap_append]
theorem cors_app (a b : List Tri) : corsP (a ++ b) = corsP a ++ corsP b := by unfold corsP; rw [List.flatMap_append]
theorem piece_check {a b : List Tri} (h : checkP (a ++ b) true = 0) : checkP a true = 0 := by
  obtain ⟨h1, h2, _, h4⟩ := check_iff.1 h
  rw [List.any_append, Bool.or_eq_false_iff] at h1
  have h2' := h2
  rw [edges_app] at h2'
  have hna : (edgesP a).Nodup := (List.nodup_append.1 h2').1
  refine check_iff.2 ⟨h1.1, hna, .inl rfl, fun p s k hk hi => ?_⟩
  have h5 := h4 p s k hk (iterO_mono (fun x y hxy => (behP_iff h2).2 (by rw [trip_app]; exact List.mem_append.2 (.inl (behP_of hxy)))) k s s hi)
  rw [cntC_count, cors_app, List.count_append] at h5
  rw [cntC_count]
  omega
theorem closed_swap {l : List Tri} (h : borderP l = []) : ∀ e, e ∈ edgesP l → swapE e ∈ edgesP l := fun e he => by
  refine Classical.byContradiction fun hc => ?_
  have := ((border_both l).2 e).2 ⟨he, hc⟩
  rw [h] at this; cases this
end Go.Proofs.YtelfnmohpjkilaaGreatDoor
namespace Go.Proofs.YtelfnmohpjkilaaGreatDoor
/-- How many classes E has among the numbers under n. -/
noncomputable def clsN (E : Nat → Nat → Prop) (n : Nat) : Nat := by
  classical
  exact (headsI (fun i j => decide (Eqv E i j)) n).length
/-- A number is the least of its class. -/
def leastE (E : Nat → Nat → Prop) (k : Nat) : Prop := ∀ j, j < k → ¬ Eqv E j k
theorem clsN_eq {E : Nat → Nat → Prop} {n : Nat} {l : List Nat} (hl : l.Nodup) (h : ∀ k, k ∈ l ↔ k < n ∧ leastE E k) : clsN E n = l.length := by
  classical
  unfold clsN
  have nd : (headsI (fun i j => decide (Eqv E i j)) n).Nodup := List.nodup_range.filter _
  refine List.Perm.length_eq ((List.perm_ext_iff_of_nodup nd hl).2 fun k => ?_)
  rw [h k, headsI_mem, headI_iff]
  unfold leastE
  constructor
  · rintro ⟨h1, h2⟩
    exact ⟨h1, fun j hj he => by have := h2 j hj; rw [decide_eq_true he] at this; cases this⟩
  · rintro ⟨h1, h2⟩
    exact ⟨h1, fun j hj => decide_eq_false (h2 j hj)⟩
theorem clsN_list (E : Nat → Nat → Prop) (n : Nat) : ∃ l : List Nat, l.Nodup ∧ (∀ k, k ∈ l ↔ k < n ∧ leastE E k) ∧ clsN E n = l.length := by
  classical
  have key : ∀ k, k ∈ (List.range n).filter (fun k => decide (leastE E k)) ↔ k < n ∧ leastE E k := fun k => by
    rw [List.mem_filter, List.mem_range, decide_eq_true_eq]
  exact ⟨_, List.nodup_range.filter _, key, clsN_eq (List.nodup_range.filter _) key⟩
theorem clsN_congr {E F : Nat → Nat → Prop} {n : Nat} (h : ∀ i j, i < n → j < n → (Eqv E i j ↔ Eqv F i j)) : clsN E n = clsN F n := by
  obtain ⟨l, h1, h2, h3⟩ := clsN_list F n
  rw [h3]
  refine clsN_eq h1 fun k => ?_
  rw [h2]
  constructor
  · rintro ⟨a, b⟩
    exact ⟨a, fun j hj he => b j hj ((h j k (by omega) a).1 he)⟩
  · rintro ⟨a, b⟩
    exact ⟨a, fun j hj he => b j hj ((h j k (by omega) a).2 he)⟩
/-- Each number has a least one in its class. -/
theorem least_of (E : Nat → Nat → Prop) (k : Nat) : ∃ h, h ≤ k ∧ leastE E h ∧ Eqv E h k := by
  induction k using Nat.strongRecOn with
  | ind k ih =>
    by_cases hk : leastE E k
    · exact ⟨k, Nat.le_refl _, hk, Eqv.refl _ k⟩
    · have : ∃ j, j < k ∧ Eqv E j k := Classical.byContradiction fun hn => hk fun j hj he => hn ⟨j, hj, he⟩
      obtain ⟨j, hj, hjk⟩ := this
      obtain ⟨h, h1, h2, h3⟩ := ih j hj
      exact ⟨h, by omega, h2, h3.trans hjk⟩
theorem least_one {E : Nat → Nat → Prop} {a b : Nat} (ha : leastE E a) (hb : leastE E b) (h : Eqv E a b) : a = b := by
  rcases Nat.lt_trichotomy a b with h1 | h1 | h1
  · exact absurd h (hb a h1)
  · exact h1
  · exact absurd h.symm (ha b h1)
/-- E with a and b joined. -/
def addE (E : Nat → Nat → Prop) (a b : Nat) : Nat → Nat → Prop := fun x y => E x y ∨ (x = a ∧ y = b)
theorem addE_iff {E : Nat → Nat → Prop} {a b i j : Nat} : Eqv (addE E a b) i j ↔ Eqv E i j ∨ (Eqv E i a ∧ Eqv E j b) ∨ (Eqv E i b ∧ Eqv E j a) := by
  have up : ∀ {i j}, Eqv E i j → Eqv (addE E a b) i j := fun h => h.mono fun x y he => Eqv.of (.inl he)
  have hab : Eqv (addE E a b) a b := Eqv.of (.inr ⟨rfl, rfl⟩)
  constructor
  · intro h
    refine h (fun i j => Eqv E i j ∨ (Eqv E i a ∧ Eqv E j b) ∨ (Eqv E i b ∧ Eqv E j a)) (fun x => .inl (Eqv.refl _ x)) ?_ ?_ ?_
    · rintro x y (k | ⟨k, l⟩ | ⟨k, l⟩)
      · exact .inl k.symm
      · exact .inr (.inr ⟨l, k⟩)
      · exact .inr (.inl ⟨l, k⟩)
    · rintro x y z (k | ⟨k, l⟩ | ⟨k, l⟩) (p | ⟨p, q⟩ | ⟨p, q⟩)
      · exact .inl (k.trans p)
      · exact .inr (.inl ⟨k.trans p, q⟩)
      · exact .inr (.inr ⟨k.trans p, q⟩)
      · exact .inr (.inl ⟨k, p.symm.trans l⟩)
      · exact .inr (.inl ⟨k, q⟩)
      · exact .inl (k.trans q.symm)
      · exact .inr (.inr ⟨k, p.symm.trans l⟩)
      · exact .inl (k.trans q.symm)
      · exact .inr (.inr ⟨k, q⟩)
    · rintro x y (k | ⟨rfl, rfl⟩)
      · exact .inl (Eqv.of k)
      · exact .inr (.inl ⟨Eqv.refl _ _, Eqv.refl _ _⟩)
  · rintro (k | ⟨k, l⟩ | ⟨k, l⟩)
    · exact up k
    · exact (up k).trans (hab.trans (up l.symm))
    · exact (up k).trans (hab.symm.trans (up l.symm))
theorem cls_same {E : Nat → Nat → Prop} {a b n : Nat} (h : Eqv E a b) : clsN (addE E a b) n = clsN E n := by
  refine clsN_congr fun i j _ _ => ?_
  rw [addE_iff]
  constructor
  · rintro (k | ⟨k, l⟩ | ⟨k, l⟩)
    · exact k
    · exact k.trans (h.trans l.symm)
    · exact k.trans (h.symm.trans l.symm)
  · exact .inl
theorem cls_less {E : Nat → Nat → Prop} {a b n : Nat} (ha : a < n) (hb : b < n) (h : ¬ Eqv E a b) : clsN (addE E a b) n + 1 = clsN E n := by
  obtain ⟨l, h1, h2, h3⟩ := clsN_list (addE E a b) n
  obtain ⟨x, hxa, hx, hxe⟩ := least_of E a
  obtain ⟨y, hyb, hy, hye⟩ := least_of E b
  have hxy : ¬ Eqv E x y := fun e => h (hxe.symm.trans (e.trans hye))
  have hne : x ≠ y := fun e => hxy (e ▸ Eqv.refl _ _)
  have hm : Eqv (addE E a b) x y := addE_iff.2 (.inr (.inl ⟨hxe, hye⟩))
  -- the greater of the two is no least one any more
  obtain ⟨g, s, hg, hs, hgs, hsg, hcase⟩ : ∃ g s, g < n ∧ leastE E g ∧ Eqv (addE E a b) s g ∧ s < g ∧ ((g = x ∧ s = y) ∨ (g = y ∧ s = x)) := by
    rcases Nat.lt_or_ge x y with h4 | h4
    · exact ⟨y, x, by omega, hy, hm, h4, .inr ⟨rfl, rfl⟩⟩
    · exact ⟨x, y, by omega, hx, hm.symm, by omega, .inl ⟨rfl, rfl⟩⟩
  have hgl : g ∉ l := fun hmem => ((h2 g).1 hmem).2 s hsg hgs
  rw [h3]
  have := clsN_eq (E := E) (n := n) (l := g :: l) (List.nodup_cons.2 ⟨hgl, h1⟩) fun k => by
    rw [List.mem_cons, h2]
    constructor
    · rintro (rfl | ⟨k1, k2⟩)
      · exact ⟨hg, hs⟩
      · exact ⟨k1, fun j hj he => k2 j hj (addE_iff.2 (.inl he))⟩
    · rintro ⟨k1, k2⟩
      by_cases hk : k = g
      · exact .inl hk
      · refine .inr ⟨k1, fun j hj he => ?_⟩
        rcases addE_iff.1 he with e | ⟨e1, e2⟩ | ⟨e1, e2⟩
        · exact k2 j hj e
        · -- j ~ a, k ~ b: k = y; then g = x and j ≥ x
          have ky : k = y := least_one k2 hy (e2.trans hye.symm)
          rcases hcase with ⟨c1, c2⟩ | ⟨c1, c2⟩
          · have : ¬ j < x := fun hjx => hx j hjx (e1.trans hxe.symm)
            omega
          · exact hk (ky.trans c1.symm)
        · have kx : k = x := least_one k2 hx (e2.trans hxe.symm)
          rcases hcase with ⟨c1, c2⟩ | ⟨c1, c2⟩
          · exact hk (kx.trans c1.symm)
          · have : ¬ j < y := fun hjy => hy j hjy (e1.trans hye.symm)
            omega
  rw [this, List.length_cons]
def grE (f : Nat → Nat) : Nat → Nat → Prop := fun x y => y = f x
def itN (f : Nat → Nat) : Nat → Nat → Nat
  | 0, x => x
  | k + 1, x => f (itN f k x)
theorem itN_add (f : Nat → Nat) (j k x : Nat) : itN f (j + k) x = itN f j (itN f k x) := by
  induction j with
  | zero => rw [Nat.zero_add]; rfl
  | succ j ih => rw [Nat.succ_add]; show f (itN f (j + k) x) = f (itN f j (itN f k x)); rw [ih]
structure PermN (f : Nat → Nat) (n : Nat) : Prop where
  inj : ∀ x y, f x = f y → x = y
  bnd : ∀ x, x < n → f x < n
theorem PermN.it_inj {f : Nat → Nat} {n : Nat} (h : PermN f n) (k : Nat) {x y : Nat} (e : itN f k x = itN f k y) : x = y := by
  induction k with
  | zero => exact e
  | succ k ih => exact ih (h.inj _ _ e)
theorem PermN.it_bnd {f : Nat → Nat} {n : Nat} (h : PermN f n) (k : Nat) {x : Nat} (hx : x < n) : itN f k x < n := by
  induction k with
  | zero => exact hx
  | succ k ih => exact h.bnd _ ih
theorem nodup_sub_len0 {α : Type} : ∀ {A B : List α}, A.Nodup → (∀ a ∈ A, a ∈ B) → A.length ≤ B.length
  | [], B, _, _ => by simp
  | a :: A, B, hn, h => by
    obtain ⟨s, t, rfl⟩ := List.append_of_mem (h a (List.mem_cons_self ..))
    obtain ⟨ha, hA⟩ := List.nodup_cons.1 hn
    have := nodup_sub_len0 (A := A) (B := s ++ t) hA fun x hx => by
      have h1 := h x (List.mem_cons_of_mem _ hx)
      rw [List.mem_append, List.mem_cons] at h1
      rw [List.mem_append]
      rcases h1 with h1 | rfl | h1
      · exact .inl h1
      · exact absurd hx ha
      · exact .inr h1
    rw [List.length_cons, List.length_append, List.length_cons]
    rw [List.length_append] at this
    omega
theorem PermN.back {f : Nat → Nat} {n : Nat} (h : PermN f n) {x : Nat} (hx : x < n) : ∃ m, 0 < m ∧ itN f m x = x := by
  refine Classical.byContradiction fun hn => ?_
  have key : ((List.range (n + 1)).map fun k => itN f k x).Nodup := by
    refine List.pairwise_map.2 (List.Pairwise.imp_of_mem ?_ (List.nodup_range (n := n + 1)))
    intro i j _ _ hij e
    rcases Nat.lt_or_ge i j with hlt | hge
    · refine hn ⟨j - i, by omega, ?_⟩
      refine (h.it_inj i ?_).symm
      rw [← itN_add, show i + (j - i) = j by omega]; exact e
    · refine hn ⟨i - j, by omega, ?_⟩
      refine (h.it_inj j ?_).symm
      rw [← itN_add, show j + (i - j) = i by omega]; exact e.symm
  have := nodup_sub_len0 key (B := List.range n) fun a ha => by
    obtain ⟨k, _, rfl⟩ := List.mem_map.1 ha
    exact List.mem_range.2 (h.it_bnd k hx)
  rw [List.length_map, List.length_range, List.length_range] at this
  omega
theorem it_eqv (f : Nat → Nat) (k x : Nat) : Eqv (grE f) x (itN f k x) := by
  induction k with
  | zero => exact Eqv.refl _ _
  | succ k ih => exact ih.trans (Eqv.of rfl)
theorem it_mul {f : Nat → Nat} {m x : Nat} (h : itN f m x = x) (k : Nat) : itN f (k * m) x = x := by
  induction k with
  | zero => rw [Nat.zero_mul]; rfl
  | succ k ih => rw [Nat.succ_mul, itN_add, h]; exact ih
theorem PermN.reach {f : Nat → Nat} {n : Nat} (h : PermN f n) {x y : Nat} (hx : x < n) (e : Eqv (grE f) x y) : ∃ k, 0 < k ∧ itN f k x = y := by
  have key : (x < n ↔ y < n) ∧ (x < n → ∃ k, 0 < k ∧ itN f k x = y) := by
    refine e (fun x y => (x < n ↔ y < n) ∧ (x < n → ∃ k, 0 < k ∧ itN f k x = y)) ?_ ?_ ?_ ?_
    · exact fun a => ⟨Iff.rfl, fun ha => h.back ha⟩
    · rintro a b ⟨h1, h2⟩
      refine ⟨h1.symm, fun hb => ?_⟩
      obtain ⟨k, hk, hkb⟩ := h2 (h1.2 hb)
      obtain ⟨m, hm, hma⟩ := h.back (h1.2 hb)
      have h3 := it_mul hma (k + 1)
      refine ⟨(k + 1) * m - k, ?_, ?_⟩
      · have : (k + 1) * 1 ≤ (k + 1) * m := Nat.mul_le_mul_left _ hm
        omega
      · have hle : k ≤ (k + 1) * m := by
          have : (k + 1) * 1 ≤ (k + 1) * m := Nat.mul_le_mul_left _ hm
          omega
        rw [← hkb, ← itN_add, Nat.sub_add_cancel hle]; exact h3
    · rintro a b c ⟨h1, h2⟩ ⟨h3, h4⟩
      refine ⟨h1.trans h3, fun ha => ?_⟩
      obtain ⟨k, hk, hkb⟩ := h2 ha
      obtain ⟨j, hj, hjc⟩ := h4 (h1.1 ha)
      exact ⟨j + k, by omega, by rw [itN_add, hkb, hjc]⟩
    · rintro a b (rfl : b = f a)
      refine ⟨⟨fun ha => h.bnd a ha, fun hb => ?_⟩, fun _ => ⟨1, by omega, rfl⟩⟩
      -- f a < n and f injective on n numbers: a < n
      refine Classical.byContradiction fun hna => ?_
      obtain ⟨m, hm, hma⟩ := h.back hb
      obtain ⟨j, rfl⟩ : ∃ j, m = j + 1 := ⟨m - 1, by omega⟩
      have h1 : itN f j (f a) = a := h.inj _ _ hma
      have h2 := h.it_bnd j hb
      rw [h1] at h2
      exact hna h2
  exact key.2 hx
/-- a and b exchanged. -/
def swN (a b x : Nat) : Nat := if x = a then b else if x = b then a else x
theorem swN_inv (a b x : Nat) : swN a b (swN a b x) = x := by
  unfold swN
  by_cases h1 : x = a
  · subst h1
    rw [if_pos rfl]
    by_cases h2 : b = x
    · rw [if_pos h2]; exact h2
    · rw [if_neg h2, if_pos rfl]
  · rw [if_neg h1]
    by_cases h2 : x = b
    · rw [if_pos h2, if_pos rfl]; exact h2.symm
    · rw [if_neg h2, if_neg h1, if_neg h2]
def tauN (f : Nat → Nat) (a b : Nat) : Nat → Nat := fun x => f (swN a b x)
theorem PermN.tau {f : Nat → Nat} {n a b : Nat} (h : PermN f n) (ha : a < n) (hb : b < n) : PermN (tauN f a b) n where
  inj x y e := by
    have h1 := h.inj _ _ e
    rw [← swN_inv a b x, h1, swN_inv]
  bnd x hx := h.bnd _ (by unfold swN; split; exact hb; split; exact ha; exact hx)
theorem tau_a (f : Nat → Nat) (a b : Nat) : tauN f a b a = f b := by unfold tauN swN; rw [if_pos rfl]
theorem tau_b (f : Nat → Nat) (a b : Nat) : tauN f a b b = f a := by
  unfold tauN swN
  by_cases h : b = a
  · rw [if_pos h, h]
  · rw [if_neg h, if_pos rfl]
theorem tau_o (f : Nat → Nat) {a b x : Nat} (h1 : x ≠ a) (h2 : x ≠ b) : tauN f a b x = f x := by unfold tauN swN; rw [if_neg h1, if_neg h2]
theorem tau_tau (f : Nat → Nat) (a b : Nat) : tauN (tauN f a b) a b = f := funext fun x => by unfold tauN; rw [swN_inv]
/-- Two orbits become one. -/
theorem tau_join {f : Nat → Nat} {n a b : Nat} (h : PermN f n) (hb : b < n) (hab : ¬ Eqv (grE f) a b) (i j : Nat) : Eqv (grE (tauN f a b)) i j ↔ Eqv (addE (grE f) a b) i j := by
  have hne : a ≠ b := fun e => hab (e ▸ Eqv.refl _ _)
  have walk : ∀ k, Eqv (grE (tauN f a b)) a (itN f (k + 1) b) := by
    intro k
    induction k with
    | zero => exact Eqv.of (show itN f 1 b = tauN f a b a by rw [tau_a]; rfl)
    | succ k ih =>
      have h1 : itN f (k + 1) b ≠ a := fun e => hab (by have := it_eqv f (k + 1) b; rw [e] at this; exact this.symm)
      by_cases h2 : itN f (k + 1) b = b
      · refine Eqv.of (show itN f (k + 1 + 1) b = tauN f a b a from ?_)
        rw [tau_a]; show f (itN f (k + 1) b) = f b; rw [h2]
      · exact ih.trans (Eqv.of (show itN f (k + 1 + 1) b = tauN f a b (itN f (k + 1) b) by rw [tau_o f h1 h2]; rfl))
  have hj : Eqv (grE (tauN f a b)) a b := by
    obtain ⟨m, hm, hmb⟩ := h.back hb
    obtain ⟨k, rfl⟩ : ∃ k, m = k + 1 := ⟨m - 1, by omega⟩
    have := walk k
    rwa [hmb] at this
  constructor
  · intro e
    refine e.mono ?_
    rintro x y (rfl : y = tauN f a b x)
    have hs : Eqv (addE (grE f) a b) a b := Eqv.of (.inr ⟨rfl, rfl⟩)
    have hf : ∀ x, Eqv (addE (grE f) a b) x (f x) := fun x => Eqv.of (.inl rfl)
    by_cases h1 : x = a
    · subst h1; rw [tau_a]; exact hs.trans (hf b)
    · by_cases h2 : x = b
      · subst h2; rw [tau_b]; exact hs.symm.trans (hf a)
      · rw [tau_o f h1 h2]; exact hf x
  · intro e
    refine e.mono ?_
    rintro x y ((rfl : y = f x) | ⟨rfl, rfl⟩)
    · have hf : ∀ x, Eqv (grE (tauN f a b)) x (tauN f a b x) := fun x => Eqv.of rfl
      by_cases h1 : x = a
      · subst h1; have := hf b; rw [tau_b] at this; exact hj.trans this
      · by_cases h2 : x = b
        · subst h2; have := hf a; rw [tau_a] at this; exact hj.symm.trans this
        · have := hf x; rwa [tau_o f h1 h2] at this
    · exact hj
/-- The least number with a property. -/
theorem min_of {P : Nat → Prop} {m : Nat} (h : P m) : ∃ k, P k ∧ ∀ j, j < k → ¬ P j := by
  induction m using Nat.strongRecOn with
  | ind m ih =>
    by_cases hj : ∃ j, j < m ∧ P j
    · obtain ⟨j, h1, h2⟩ := hj; exact ih j h1 h2
    · exact ⟨m, h, fun j h1 h2 => hj ⟨j, h1, h2⟩⟩
/-- One orbit becomes two. -/
theorem tau_split {f : Nat → Nat} {n a b : Nat} (h : PermN f n) (hb : b < n) (hne : a ≠ b) (hab : Eqv (grE f) a b) : ¬ Eqv (grE (tauN f a b)) a b := by
  obtain ⟨k0, hk0, hka0⟩ := h.reach hb hab.symm
  obtain ⟨k, ⟨hk, hka⟩, hmin⟩ := min_of (P := fun k => 0 < k ∧ itN f k b = a) ⟨hk0, hka0⟩
  have nota : ∀ i, 0 < i → i < k → itN f i b ≠ a := fun i h1 h2 e => hmin i h2 ⟨h1, e⟩
  have notb : ∀ i, 0 < i → i < k → itN f i b ≠ b := fun i h1 h2 e => by
    refine hmin (k - i) (by omega) ⟨by omega, ?_⟩
    have h3 : itN f (k - i + i) b = a := by rw [Nat.sub_add_cancel (by omega)]; exact hka
    rw [itN_add, e] at h3; exact h3
  have hft : ∀ x y, tauN f a b x = tauN f a b y → x = y := fun x y e => by
    have h1 := h.inj _ _ e
    rw [← swN_inv a b x, h1, swN_inv]
  have key : ∀ x y, Eqv (grE (tauN f a b)) x y → ((∃ i, 0 < i ∧ i ≤ k ∧ itN f i b = x) ↔ ∃ i, 0 < i ∧ i ≤ k ∧ itN f i b = y) := by
    intro x y e
    refine e (fun x y => (∃ i, 0 < i ∧ i ≤ k ∧ itN f i b = x) ↔ ∃ i, 0 < i ∧ i ≤ k ∧ itN f i b = y) (fun _ => Iff.rfl) (fun _ _ h => h.symm) (fun _ _ _ h1 h2 => h1.trans h2) ?_
    rintro x y (rfl : y = tauN f a b x)
    constructor
    · rintro ⟨i, h1, h2, rfl⟩
      rcases Nat.lt_or_ge i k with h3 | h3
      · exact ⟨i + 1, by omega, by omega, by rw [tau_o f (nota i h1 h3) (notb i h1 h3)]; rfl⟩
      · have : i = k := by omega
        subst this
        exact ⟨1, by omega, by omega, by rw [hka, tau_a]; rfl⟩
    · rintro ⟨i, h1, h2, h3⟩
      obtain ⟨j, rfl⟩ : ∃ j, i = j + 1 := ⟨i - 1, by omega⟩
      rcases Nat.eq_zero_or_pos j with h4 | h4
      · subst h4
        have : x = a := hft _ _ (by rw [tau_a, ← h3]; rfl)
        subst this
        exact ⟨k, hk, Nat.le_refl _, hka⟩
      · refine ⟨j, h4, by omega, (hft _ _ ?_).symm⟩
        rw [← h3, tau_o f (nota j h4 (by omega)) (notb j h4 (by omega))]; rfl
  intro e
  obtain ⟨i, h1, h2, h3⟩ := (key a b e).1 ⟨k, hk, Nat.le_refl _, hka⟩
  rcases Nat.lt_or_ge i k with h4 | h4
  · exact notb i h1 h4 h3
  · have : i = k := by omega
    subst this
    exact hne (hka.symm.trans h3)
/-- One transposition: one orbit more or less. -/
theorem tau_cls {f : Nat → Nat} {n a b : Nat} (h : PermN f n) (ha : a < n) (hb : b < n) (hne : a ≠ b) :
    (¬ Eqv (grE f) a b ∧ clsN (grE (tauN f a b)) n + 1 = clsN (grE f) n) ∨ (Eqv (grE f) a b ∧ clsN (grE (tauN f a b)) n = clsN (grE f) n + 1) := by
  by_cases hab : Eqv (grE f) a b
  · refine .inr ⟨hab, ?_⟩
    have h1 := tau_split h hb hne hab
    have h2 := cls_less ha hb h1
    have h3 : clsN (grE f) n = clsN (addE (grE (tauN f a b)) a b) n := clsN_congr fun i j _ _ => by
      have := tau_join (h.tau ha hb) hb h1 i j
      rwa [tau_tau] at this
    rw [h3, h2]
  · refine .inl ⟨hab, ?_⟩
    rw [clsN_congr fun i j _ _ => tau_join h hb hab i j]
    exact cls_less ha hb hab
/-- Many transpositions, one behind the other. -/
def tausN (f : Nat → Nat) : List (Nat × Nat) → Nat → Nat
  | [] => f
  | p :: l => tausN (tauN f p.1 p.2) l
def addsE (E : Nat → Nat → Prop) : List (Nat × Nat) → Nat → Nat → Prop
  | [] => E
  | p :: l => addsE (addE E p.1 p.2) l
theorem taus_cls (l : List (Nat × Nat)) : ∀ (f : Nat → Nat) (E : Nat → Nat → Prop) (n F k : Nat), PermN f n → (∀ p ∈ l, p.1 < n ∧ p.2 < n ∧ p.1 ≠ p.2) → (∀ i j, Eqv (grE f) i j → Eqv E i j) →
    clsN (grE f) n + F ≤ 2 * clsN E n + k → (clsN (grE f) n + F + k) % 2 = 0 →
    clsN (grE (tausN f l)) n + F ≤ 2 * clsN (addsE E l) n + (k + l.length) ∧ (clsN (grE (tausN f l)) n + F + (k + l.length)) % 2 = 0 := by
  induction l with
  | nil => intro f E n F k _ _ _ h1 h2; exact ⟨h1, h2⟩
  | cons p l ih =>
    intro f E n F k hp hl hE h1 h2
    obtain ⟨ha, hb, hne⟩ := hl p (List.mem_cons_self ..)
    have hsub : ∀ i j, Eqv (grE (tauN f p.1 p.2)) i j → Eqv (addE E p.1 p.2) i j := fun i j e => by
      refine e.mono ?_
      rintro x y (rfl : y = tauN f p.1 p.2 x)
      have hs : Eqv (addE E p.1 p.2) p.1 p.2 := Eqv.of (.inr ⟨rfl, rfl⟩)
      have hf : ∀ x, Eqv (addE E p.1 p.2) x (f x) := fun x => (hE _ _ (Eqv.of rfl)).mono fun _ _ h => Eqv.of (.inl h)
      by_cases h1 : x = p.1
      · rw [h1, tau_a]; exact hs.trans (hf _)
      · by_cases h2 : x = p.2
        · rw [h2, tau_b]; exact hs.symm.trans (hf _)
        · rw [tau_o f h1 h2]; exact hf x
    have hstep : clsN (grE (tauN f p.1 p.2)) n + F ≤ 2 * clsN (addE E p.1 p.2) n + (k + 1) ∧ (clsN (grE (tauN f p.1 p.2)) n + F + (k + 1)) % 2 = 0 := by
      rcases tau_cls hp ha hb hne with ⟨h3, h4⟩ | ⟨h3, h4⟩
      · by_cases h5 : Eqv E p.1 p.2
        · rw [cls_same h5]; omega
        · have := cls_less ha hb h5; omega
      · rw [cls_same (hE _ _ h3)]; omega
    have := ih (tauN f p.1 p.2) (addE E p.1 p.2) n F (k + 1) (hp.tau ha hb) (fun q hq => hl q (List.mem_cons_of_mem _ hq)) hsub hstep.1 hstep.2
    rw [show k + (p :: l).length = k + 1 + l.length by rw [List.length_cons]; omega]
    exact this
/-- The law: F orbits at the start, V at the end of E transpositions, C classes of all together. -/
theorem euler_perm_law (f : Nat → Nat) (n : Nat) (l : List (Nat × Nat)) (hp : PermN f n) (hl : ∀ p ∈ l, p.1 < n ∧ p.2 < n ∧ p.1 ≠ p.2) :
    clsN (grE (tausN f l)) n + clsN (grE f) n ≤ 2 * clsN (addsE (grE f) l) n + l.length ∧ (clsN (grE (tausN f l)) n + clsN (grE f) n + l.length) % 2 = 0 := by
  have := taus_cls l f (grE f) n (clsN (grE f) n) 0 hp hl (fun _ _ h => h) (by omega) (by omega)
  rwa [Nat.zero_add] at this
theorem taus_off (l : List (Nat × Nat)) : ∀ (f : Nat → Nat) (x : Nat), (∀ p ∈ l, x ≠ p.1 ∧ x ≠ p.2) → tausN f l x = f x := by
  induction l with
  | nil => intro f x _; rfl
  | cons p l ih =>
    intro f x h
    show tausN (tauN f p.1 p.2) l x = f x
    rw [ih _ x fun q hq => h q (List.mem_cons_of_mem _ hq)]
    exact tau_o f (h p (List.mem_cons_self ..)).1 (h p (List.mem_cons_self ..)).2
/-- Pairs without a number in common: each number of a pair goes by the other. -/
theorem taus_on (l : List (Nat × Nat)) : ∀ (f : Nat → Nat), l.Pairwise (fun p q => p.1 ≠ q.1 ∧ p.1 ≠ q.2 ∧ p.2 ≠ q.1 ∧ p.2 ≠ q.2) → ∀ p ∈ l, tausN f l p.1 = f p.2 ∧ tausN f l p.2 = f p.1 := by
  induction l with
  | nil => intro f _ p hp; cases hp
  | cons q l ih =>
    intro f hd p hp
    obtain ⟨h1, h2⟩ := List.pairwise_cons.1 hd
    rcases List.mem_cons.1 hp with rfl | hp
    · show tausN (tauN f p.1 p.2) l p.1 = f p.2 ∧ tausN (tauN f p.1 p.2) l p.2 = f p.1
      rw [taus_off l _ p.1 fun q hq => ⟨(h1 q hq).1, (h1 q hq).2.1⟩, taus_off l _ p.2 fun q hq => ⟨(h1 q hq).2.2.1, (h1 q hq).2.2.2⟩]
      exact ⟨tau_a f _ _, tau_b f _ _⟩
    · obtain ⟨h3, h4⟩ := ih (tauN f q.1 q.2) h2 p hp
      obtain ⟨n1, n2, n3, n4⟩ := h1 p hp
      show tausN (tauN f q.1 q.2) l p.1 = f p.2 ∧ tausN (tauN f q.1 q.2) l p.2 = f p.1
      rw [h3, h4]
      exact ⟨tau_o f (fun e => n2 e.symm) (fun e => n4 e.symm), tau_o f (fun e => n1 e.symm) (fun e => n3 e.symm)⟩
theorem adds_iff (l : List (Nat × Nat)) : ∀ (E : Nat → Nat → Prop) (x y : Nat), addsE E l x y ↔ E x y ∨ (x, y) ∈ l := by
  induction l with
  | nil => intro E x y; simp [addsE]
  | cons p l ih =>
    intro E x y
    show addsE (addE E p.1 p.2) l x y ↔ _
    rw [ih, List.mem_cons]
    unfold addE
    constructor
    · rintro ((h | ⟨rfl, rfl⟩) | h)
      · exact .inl h
      · exact .inr (.inl rfl)
      · exact .inr (.inr h)
    · rintro (h | h | h)
      · exact .inl (.inl h)
      · exact .inl (.inr (by rw [← h]; exact ⟨rfl, rfl⟩))
      · exact .inr h
end Go.Proofs.YtelfnmohpjkilaaGreatDoor
namespace Go.Proofs.YtelfnmohpjkilaaGreatDoor
/-- Classes told apart by values. -/
theorem clsN_vals {α : Type} {E : Nat → Nat → Prop} {n : Nat} {g : Nat → α} (h : ∀ i j, i < n → j < n → (Eqv E i j ↔ g i = g j)) {m : List α} (hm : m.Nodup) (hmem : ∀ x, x ∈ m ↔ ∃ k, k < n ∧ g k = x) : clsN E n = m.length := by
  classical
  obtain ⟨L, nd, hL, e⟩ := clsN_list E n
  rw [e]
  have nd2 : (L.map g).Nodup := by
    refine List.pairwise_map.2 (List.Pairwise.imp_of_mem ?_ nd)
    intro a b ha hb hab hg
    obtain ⟨a1, a2⟩ := (hL a).1 ha
    obtain ⟨b1, b2⟩ := (hL b).1 hb
    exact hab (least_one a2 b2 ((h a b a1 b1).2 hg))
  have := ((List.perm_ext_iff_of_nodup nd2 hm).2 fun x => by
    rw [hmem, List.mem_map]
    constructor
    · rintro ⟨a, ha, rfl⟩; exact ⟨a, ((hL a).1 ha).1, rfl⟩
    · rintro ⟨k, hk, rfl⟩
      obtain ⟨b, h1, h2, h3⟩ := least_of E k
      exact ⟨b, (hL b).2 ⟨by omega, h2⟩, (h b k (by omega) hk).1 h3⟩).length_eq
  rwa [List.length_map] at this
/-- The next edge of the same triangle. -/
def phN (n k : Nat) : Nat := if k < n then (if k % 3 = 2 then k - 2 else k + 1) else k
theorem trip_phi : ∀ (l : List Tri) (k : Nat) (u : Tri), (tripP l)[k]? = some u → (tripP l)[phN (3 * l.length) k]? = some (cyc3 u)
  | [], k, u, h => by simp [tripP] at h
  | t :: l, k, u, h => by
    have e : tripP (t :: l) = tri3 t ++ tripP l := by unfold tripP; rw [List.flatMap_cons]
    have len : (tripP (t :: l)).length = 3 * (l.length + 1) := by rw [tripP_len, List.length_cons]
    obtain ⟨hk, _⟩ := List.getElem?_eq_some_iff.1 h
    rw [len] at hk
    have h3 : (tri3 t).length = 3 := rfl
    rw [List.length_cons]
    have low : ∀ j, j < 3 → (tripP (t :: l))[j]? = (tri3 t)[j]? := fun j hj => by rw [e]; exact List.getElem?_append_left (by omega)
    rcases Nat.lt_or_ge k 3 with hlt | hge
    · rw [low k hlt] at h
      rcases (show k = 0 ∨ k = 1 ∨ k = 2 by omega) with rfl | rfl | rfl
      · have p : phN (3 * (l.length + 1)) 0 = 1 := by unfold phN; rw [if_pos (by omega), if_neg (by omega)]
        rw [p, low 1 (by omega)]
        simp only [tri3, List.getElem?_cons_zero, Option.some.injEq, List.getElem?_cons_succ] at h ⊢
        rw [← h]; rfl
      · have p : phN (3 * (l.length + 1)) 1 = 2 := by unfold phN; rw [if_pos (by omega), if_neg (by omega)]
        rw [p, low 2 (by omega)]
        simp only [tri3, List.getElem?_cons_zero, Option.some.injEq, List.getElem?_cons_succ] at h ⊢
        rw [← h]; rfl
      · have p : phN (3 * (l.length + 1)) 2 = 0 := by unfold phN; rw [if_pos (by omega), if_pos (by omega)]
        rw [p, low 0 (by omega)]
        simp only [tri3, List.getElem?_cons_zero, Option.some.injEq, List.getElem?_cons_succ] at h ⊢
        rw [← h]; rfl
    · have hi : ∀ j, 3 ≤ j → (tripP (t :: l))[j]? = (tripP l)[j - 3]? := fun j hj => by rw [e, List.getElem?_append_right (by omega), h3]
      rw [hi k hge] at h
      have ih := trip_phi l (k - 3) u h
      have p : phN (3 * (l.length + 1)) k = phN (3 * l.length) (k - 3) + 3 := by
        unfold phN
        rw [if_pos hk, if_pos (show k - 3 < 3 * l.length by omega)]
        have hm : (k - 3) % 3 = k % 3 := by omega
        rw [hm]
        split <;> omega
      rw [p, hi _ (by omega), Nat.add_sub_cancel]
      exact ih
theorem phN_div {n k : Nat} : phN n k / 3 = k / 3 := by unfold phN; split <;> (try split) <;> omega
theorem phN_perm (m : Nat) : PermN (phN (3 * m)) (3 * m) where
  inj x y e := by unfold phN at e; split at e <;> split at e <;> (try split at e) <;> (try split at e) <;> omega
  bnd x hx := by unfold phN; rw [if_pos hx]; split <;> omega
theorem phN_eqv {m i j : Nat} (hi : i < 3 * m) (hj : j < 3 * m) : Eqv (grE (phN (3 * m))) i j ↔ i / 3 = j / 3 := by
  constructor
  · intro e
    exact e (fun x y => x / 3 = y / 3) (fun _ => rfl) (fun _ _ h => h.symm) (fun _ _ _ h k => h.trans k) fun a b (h : b = phN (3 * m) a) => by rw [h, phN_div]
  · intro h
    have step : ∀ k, k < 3 * m → Eqv (grE (phN (3 * m))) (3 * (k / 3)) k := fun k hk => by
      have p0 : phN (3 * m) (3 * (k / 3)) = 3 * (k / 3) + 1 := by unfold phN; rw [if_pos (by omega), if_neg (by omega)]
      have p1 : phN (3 * m) (3 * (k / 3) + 1) = 3 * (k / 3) + 2 := by unfold phN; rw [if_pos (by omega), if_neg (by omega)]
      have e1 : Eqv (grE (phN (3 * m))) (3 * (k / 3)) (3 * (k / 3) + 1) := Eqv.of p0.symm
      have e2 : Eqv (grE (phN (3 * m))) (3 * (k / 3) + 1) (3 * (k / 3) + 2) := Eqv.of p1.symm
      rcases (show k = 3 * (k / 3) ∨ k = 3 * (k / 3) + 1 ∨ k = 3 * (k / 3) + 2 by omega) with h1 | h1 | h1
      · rw [← h1]; exact Eqv.refl _ _
      · have : Eqv (grE (phN (3 * m))) (3 * (k / 3)) k := by have := e1; rwa [← h1] at this
        exact this
      · have : Eqv (grE (phN (3 * m))) (3 * (k / 3)) k := by have := e1.trans e2; rwa [← h1] at this
        exact this
    have := (step i hi).symm
    rw [h] at this
    exact this.trans (step j hj)
theorem taus_perm (ps : List (Nat × Nat)) : ∀ {f : Nat → Nat} {n : Nat}, PermN f n → (∀ p ∈ ps, p.1 < n ∧ p.2 < n) → PermN (tausN f ps) n := by
  induction ps with
  | nil => intro f n h _; exact h
  | cons p l ih => intro f n h hl; exact ih (h.tau (hl p (List.mem_cons_self ..)).1 (hl p (List.mem_cons_self ..)).2) fun q hq => hl q (List.mem_cons_of_mem _ hq)
theorem trip_at {l : List Tri} {k : Nat} (h : k < 3 * l.length) : ∃ u, (tripP l)[k]? = some u := ⟨_, List.getElem?_eq_getElem (by rw [tripP_len]; exact h)⟩
theorem trip_lt {l : List Tri} {k : Nat} {u : Tri} (h : (tripP l)[k]? = some u) : k < 3 * l.length := by
  obtain ⟨h1, _⟩ := List.getElem?_eq_some_iff.1 h
  rwa [tripP_len] at h1
theorem opp_some {l : List Tri} (hc : ∀ e, e ∈ edgesP l → swapE e ∈ edgesP l) : ∃ a, OppN l a := by
  have pick : ∀ k : Nat, ∃ j : Nat, (k < 3 * l.length → j < 3 * l.length) ∧ ∀ u, (tripP l)[k]? = some u → ∃ y, (tripP l)[j]? = some (u.2.1, u.1, y) := fun k => by
    by_cases hk : k < 3 * l.length
    · obtain ⟨u, hu⟩ := trip_at hk
      have h1 : edOf u ∈ edgesP l := by rw [edges_trip]; exact List.mem_map.2 ⟨u, List.mem_of_getElem? hu, rfl⟩
      have h2 := hc _ h1
      rw [edges_trip] at h2
      obtain ⟨v, hv, e⟩ := List.mem_map.1 h2
      obtain ⟨j, hj⟩ := List.mem_iff_getElem?.1 hv
      refine ⟨j, fun _ => trip_lt hj, fun u' hu' => ⟨v.2.2, ?_⟩⟩
      rw [hu] at hu'
      obtain rfl := Option.some.inj hu'
      rw [hj]
      obtain ⟨v1, v2, v3⟩ := v
      have e1 : v1 = u.2.1 := congrArg Prod.fst e
      have e2 : v2 = u.1 := congrArg Prod.snd e
      rw [e1, e2]
    · exact ⟨0, fun h => absurd h hk, fun u hu => absurd (trip_lt hu) hk⟩
  obtain ⟨a, ha⟩ := Classical.axiomOfChoice pick
  exact ⟨a, fun k hk => (ha k).1 hk, fun k u hu => (ha k).2 u hu⟩
theorem edge_num {l : List Tri} (hn : (edgesP l).Nodup) {i j : Nat} {u v : Tri} (hu : (tripP l)[i]? = some u) (hv : (tripP l)[j]? = some v) (h : edOf u = edOf v) : i = j := by
  rw [edges_trip] at hn
  have h1 : ((tripP l).map edOf)[i]? = some (edOf u) := by rw [List.getElem?_map, hu]; rfl
  have h2 : ((tripP l).map edOf)[j]? = some (edOf u) := by rw [List.getElem?_map, hv, h]; rfl
  obtain ⟨a1, a2⟩ := List.getElem?_eq_some_iff.1 h1
  obtain ⟨b1, b2⟩ := List.getElem?_eq_some_iff.1 h2
  rcases Nat.lt_trichotomy i j with h3 | h3 | h3
  · exact absurd (a2.trans b2.symm) (List.pairwise_iff_getElem.1 hn i j a1 b1 h3)
  · exact h3
  · exact absurd (b2.trans a2.symm) (List.pairwise_iff_getElem.1 hn j i b1 a1 h3)
theorem trip_dist {l : List Tri} (hf : l.any flatT = false) {u : Tri} (h : u ∈ tripP l) : u.1 ≠ u.2.1 := by
  obtain ⟨t, ht, hu⟩ := List.mem_flatMap.1 h
  have h1 : flatT t = false := by
    cases hb : flatT t with
    | false => rfl
    | true => rw [List.any_eq_true.2 ⟨t, ht, hb⟩] at hf; cases hf
  simp only [flatT, Bool.or_eq_false_iff, decide_eq_false_iff_not] at h1
  simp only [tri3, List.mem_cons, List.not_mem_nil, or_false] at hu
  rcases hu with rfl | rfl | rfl
  · exact h1.1.1
  · exact h1.1.2
  · exact h1.2
section
variable {l : List Tri} {a : Nat → Nat} (ha : OppN l a) (hn : (edgesP l).Nodup) (hf : l.any flatT = false)
include ha hn
theorem opp_opp {k : Nat} (hk : k < 3 * l.length) : a (a k) = k := by
  obtain ⟨u, hu⟩ := trip_at hk
  obtain ⟨y, hy⟩ := ha.opp k u hu
  obtain ⟨z, hz⟩ := ha.opp _ _ hy
  exact edge_num hn hz hu rfl
include hf
omit hn in
theorem opp_ne {k : Nat} (hk : k < 3 * l.length) : a k ≠ k := by
  intro e
  obtain ⟨u, hu⟩ := trip_at hk
  obtain ⟨y, hy⟩ := ha.opp k u hu
  rw [e, hu] at hy
  have := Option.some.inj hy
  exact trip_dist hf (List.mem_of_getElem? hu) (congrArg Prod.fst this)
omit ha hn hf in
/-- The pairs of opposite edges. -/
def oppL (l : List Tri) (a : Nat → Nat) : List (Nat × Nat) := ((List.range (3 * l.length)).filter fun k => decide (k < a k)).map fun k => (k, a k)
omit ha hn hf in
theorem oppL_mem {p : Nat × Nat} : p ∈ oppL l a ↔ ∃ k, k < 3 * l.length ∧ k < a k ∧ (k, a k) = p := by
  unfold oppL
  rw [List.mem_map]
  constructor
  · rintro ⟨k, hk, rfl⟩
    rw [List.mem_filter, List.mem_range, decide_eq_true_eq] at hk
    exact ⟨k, hk.1, hk.2, rfl⟩
  · rintro ⟨k, h1, h2, rfl⟩
    exact ⟨k, by rw [List.mem_filter, List.mem_range, decide_eq_true_eq]; exact ⟨h1, h2⟩, rfl⟩
omit hn hf in
theorem oppL_bnd : ∀ p ∈ oppL l a, p.1 < 3 * l.length ∧ p.2 < 3 * l.length ∧ p.1 ≠ p.2 := by
  intro p hp
  obtain ⟨k, h1, h2, rfl⟩ := oppL_mem.1 hp
  exact ⟨h1, ha.bnd k h1, by show k ≠ a k; omega⟩
omit hf in
theorem oppL_apart : (oppL l a).Pairwise fun p q => p.1 ≠ q.1 ∧ p.1 ≠ q.2 ∧ p.2 ≠ q.1 ∧ p.2 ≠ q.2 := by
  unfold oppL
  refine List.pairwise_map.2 (List.Pairwise.imp_of_mem ?_ ((List.nodup_range (n := 3 * l.length)).filter _))
  intro i j hi hj hij
  rw [List.mem_filter, List.mem_range, decide_eq_true_eq] at hi hj
  have e1 := opp_opp ha hn hi.1
  have e2 := opp_opp ha hn hj.1
  refine ⟨hij, fun e => ?_, fun e => ?_, fun e => hij ?_⟩
  · have : i = a j := e
    rw [this, e2] at hi; rw [← this] at hj; omega
  · have : a i = j := e
    rw [← this, e1] at hj; rw [this] at hi; omega
  · have : a i = a j := e
    rw [← e1, ← e2, this]
/-- Each edge goes by its opposite one. -/
theorem sig_eq {k : Nat} (hk : k < 3 * l.length) (f : Nat → Nat) : tausN f (oppL l a) k = f (a k) := by
  have hne := opp_ne ha hf hk
  rcases Nat.lt_or_ge k (a k) with h | h
  · exact (taus_on _ f (oppL_apart ha hn) (k, a k) (oppL_mem.2 ⟨k, hk, h, rfl⟩)).1
  · have := (taus_on _ f (oppL_apart ha hn) (a k, k) (oppL_mem.2 ⟨a k, ha.bnd k hk, by rw [opp_opp ha hn hk]; omega, by rw [opp_opp ha hn hk]⟩)).2
    exact this
/-- How many edges there are, not directed. -/
theorem opp_len : (oppL l a).length = (dedup ((edgesP l).map normE)).length := by
  have key : ∀ k : Nat, ∃ e : Ed, ∀ u, (tripP l)[k]? = some u → e = normE (edOf u) := fun k => by
    cases h : (tripP l)[k]? with
    | none => exact ⟨((0, 0, 0), (0, 0, 0)), fun u hu => by cases hu⟩
    | some u => exact ⟨normE (edOf u), fun v hv => by rw [Option.some.inj hv]⟩
  obtain ⟨g, hg⟩ := Classical.axiomOfChoice key
  have nd : ((oppL l a).map fun p => g p.1).Nodup := by
    refine List.pairwise_map.2 (List.Pairwise.imp_of_mem ?_ (oppL_apart ha hn))
    intro p q hp hq hpq e
    obtain ⟨i, hi, _, rfl⟩ := oppL_mem.1 hp
    obtain ⟨j, hj, _, rfl⟩ := oppL_mem.1 hq
    obtain ⟨u, hu⟩ := trip_at hi
    obtain ⟨v, hv⟩ := trip_at hj
    have e' : g i = g j := e
    rw [hg i u hu, hg j v hv] at e'
    rcases normE_eq.1 e' with h | h
    · exact hpq.1 (edge_num hn hu hv h)
    · obtain ⟨y, hy⟩ := ha.opp j v hv
      exact hpq.2.1 (edge_num hn hu hy (h.trans rfl))
  have := ((List.perm_ext_iff_of_nodup nd (dedup_nodup ((edgesP l).map normE))).2 fun e => by
    rw [dedup_mem, List.mem_map, List.mem_map]
    constructor
    · rintro ⟨p, hp, rfl⟩
      obtain ⟨i, hi, _, rfl⟩ := oppL_mem.1 hp
      obtain ⟨u, hu⟩ := trip_at hi
      exact ⟨edOf u, by rw [edges_trip]; exact List.mem_map.2 ⟨u, List.mem_of_getElem? hu, rfl⟩, (hg i u hu).symm⟩
    · rintro ⟨d, hd, rfl⟩
      rw [edges_trip] at hd
      obtain ⟨u, hu, rfl⟩ := List.mem_map.1 hd
      obtain ⟨k, hk⟩ := List.mem_iff_getElem?.1 hu
      have hkl := trip_lt hk
      have hne := opp_ne ha hf hkl
      rcases Nat.lt_or_ge k (a k) with h | h
      · exact ⟨(k, a k), oppL_mem.2 ⟨k, hkl, h, rfl⟩, hg k u hk⟩
      · obtain ⟨y, hy⟩ := ha.opp k u hk
        refine ⟨(a k, k), oppL_mem.2 ⟨a k, ha.bnd k hkl, by rw [opp_opp ha hn hkl]; omega, by rw [opp_opp ha hn hkl]⟩, ?_⟩
        show g (a k) = _
        rw [hg (a k) _ hy]
        exact normE_swap (edOf u)).length_eq
  rwa [List.length_map] at this
/-- Round a corner. -/
theorem sig_at {k : Nat} {p q x : Pt} (h : (tripP l)[k]? = some (p, q, x)) : ∃ y, (tripP l)[tausN (phN (3 * l.length)) (oppL l a) k]? = some (p, y, q) := by
  obtain ⟨y, hy⟩ := ha.opp k _ h
  refine ⟨y, ?_⟩
  rw [sig_eq ha hn hf (trip_lt h)]
  exact trip_phi l _ _ hy
omit hn hf in
theorem sig_perm : PermN (tausN (phN (3 * l.length)) (oppL l a)) (3 * l.length) :=
  taus_perm _ (phN_perm _) fun p hp => ⟨(oppL_bnd ha p hp).1, (oppL_bnd ha p hp).2.1⟩
theorem sig_it {i : Nat} {p q x : Pt} (h : (tripP l)[i]? = some (p, q, x)) : ∀ k, ∃ y z, (tripP l)[itN (tausN (phN (3 * l.length)) (oppL l a)) k i]? = some (p, y, z) ∧ iterO (behP l p) k y = some q
  | 0 => ⟨q, x, h, rfl⟩
  | k + 1 => by
    obtain ⟨y, z, h1, h2⟩ := sig_it h k
    obtain ⟨y', h3⟩ := sig_at ha hn hf h1
    refine ⟨y', y, h3, ?_⟩
    have h4 : behP l p y' = some y := (behP_iff hn).2 (List.mem_of_getElem? h3)
    unfold iterO
    rw [h4]; exact h2
omit ha hn hf in
theorem count_map_range {α : Type} [BEq α] [LawfulBEq α] [DecidableEq α] (p : α) : ∀ (T : List α) (g : Nat → α), (∀ k x, T[k]? = some x → g k = x) → ((List.range T.length).filter fun k => decide (g k = p)).length = T.count p
  | [], g, _ => by simp
  | x :: T, g, h => by
    have ih := count_map_range p T (fun k => g (k + 1)) fun k y hy => h (k + 1) y (by rw [List.getElem?_cons_succ]; exact hy)
    have h0 : g 0 = x := h 0 x rfl
    rw [List.length_cons, List.range_succ_eq_map, List.filter_cons, List.filter_map, List.count_cons, ← ih]
    have e : (fun k => decide (g k = p)) ∘ Nat.succ = fun k => decide (g (k + 1) = p) := rfl
    rw [e, h0]
    by_cases hx : x = p
    · subst hx; simp
    · have : (x == p) = false := by simpa using hx
      simp [hx]
/-- All edges from one corner lie in one orbit. -/
theorem sig_eqv (hc : calmP l) {i j : Nat} {u v : Tri} (hi : (tripP l)[i]? = some u) (hj : (tripP l)[j]? = some v) : Eqv (grE (tausN (phN (3 * l.length)) (oppL l a))) i j ↔ u.1 = v.1 := by
  constructor
  · intro e
    have key := e (fun i j => (i < 3 * l.length ↔ j < 3 * l.length) ∧ ∀ u v, (tripP l)[i]? = some u → (tripP l)[j]? = some v → u.1 = v.1) ?_ ?_ ?_ ?_
    · exact key.2 u v hi hj
    · exact fun i => ⟨Iff.rfl, fun u v h1 h2 => by rw [h1] at h2; rw [Option.some.inj h2]⟩
    · exact fun i j ⟨h1, h2⟩ => ⟨h1.symm, fun u v h3 h4 => (h2 v u h4 h3).symm⟩
    · rintro i j k ⟨h1, h2⟩ ⟨h3, h4⟩
      refine ⟨h1.trans h3, fun u w h5 h6 => ?_⟩
      obtain ⟨v, hv⟩ := trip_at (h1.1 (trip_lt h5))
      exact (h2 u v h5 hv).trans (h4 v w hv h6)
    · rintro i j (rfl : j = _)
      by_cases hk : i < 3 * l.length
      · refine ⟨⟨fun _ => (sig_perm ha).bnd i hk, fun _ => hk⟩, fun u v h5 h6 => ?_⟩
        obtain ⟨y, hy⟩ := sig_at ha hn hf (p := u.1) (q := u.2.1) (x := u.2.2) h5
        rw [hy] at h6
        rw [← Option.some.inj h6]
      · have e1 : tausN (phN (3 * l.length)) (oppL l a) i = i := by
          rw [taus_off _ _ _ fun p hp => ⟨fun e => hk (by rw [e]; exact (oppL_bnd ha p hp).1), fun e => hk (by rw [e]; exact (oppL_bnd ha p hp).2.1)⟩]
          unfold phN; rw [if_neg hk]
        rw [e1]
        exact ⟨Iff.rfl, fun u v h1 h2 => by rw [h1] at h2; rw [Option.some.inj h2]⟩
  · intro huv
    have hP := sig_perm ha
    obtain ⟨m0, hm0, hb0⟩ := hP.back (trip_lt hi)
    obtain ⟨m, ⟨hm, hb⟩, hmin⟩ := min_of (P := fun m => 0 < m ∧ itN (tausN (phN (3 * l.length)) (oppL l a)) m i = i) ⟨hm0, hb0⟩
    obtain ⟨p, q, x⟩ := u
    have hp : v.1 = p := huv.symm
    -- the ring is whole
    have hge : cntC l p ≤ m := by
      obtain ⟨y, z, h1, h2⟩ := sig_it ha hn hf hi m
      rw [hb, hi] at h1
      have h3 := Option.some.inj h1
      have : y = q := (congrArg (fun t : Tri => t.2.1) h3).symm
      rw [this] at h2
      exact hc p q m hm h2
    have hg : ∃ g : Nat → Pt, ∀ k u, (tripP l)[k]? = some u → g k = u.1 :=
      ⟨fun k => (((tripP l)[k]?).map fun u => u.1).getD (0, 0, 0), fun k u hu => by simp only [hu, Option.map_some, Option.getD_some]⟩
    obtain ⟨g, hg⟩ := hg
    have hB : ((List.range (3 * l.length)).filter fun k => decide (g k = p)).length = cntC l p := by
      rw [cntC_count, cors_trip, ← tripP_len]
      have := count_map_range p ((tripP l).map (·.1)) g fun k x hx => by
        rw [List.getElem?_map] at hx
        cases h : (tripP l)[k]? with
        | none => rw [h] at hx; cases hx
        | some u => rw [h] at hx; rw [hg k u h]; exact Option.some.inj hx
      rwa [List.length_map] at this
    have nd : ((List.range m).map fun k => itN (tausN (phN (3 * l.length)) (oppL l a)) k i).Nodup := by
      refine List.pairwise_map.2 (List.Pairwise.imp_of_mem ?_ (List.nodup_range (n := m)))
      intro i' j' hi' hj' hij e
      rw [List.mem_range] at hi' hj'
      rcases Nat.lt_or_ge i' j' with hlt | hge
      · refine hmin (j' - i') (by omega) ⟨by omega, (hP.it_inj i' ?_).symm⟩
        rw [← itN_add, show i' + (j' - i') = j' by omega]; exact e
      · refine hmin (i' - j') (by omega) ⟨by omega, (hP.it_inj j' ?_).symm⟩
        rw [← itN_add, show j' + (i' - j') = i' by omega]; exact e.symm
    have sub : ∀ b ∈ (List.range m).map (fun k => itN (tausN (phN (3 * l.length)) (oppL l a)) k i), b ∈ (List.range (3 * l.length)).filter fun k => decide (g k = p) := by
      intro b hb
      obtain ⟨k, _, rfl⟩ := List.mem_map.1 hb
      obtain ⟨y, z, h1, _⟩ := sig_it ha hn hf hi k
      rw [List.mem_filter, List.mem_range, decide_eq_true_eq]
      exact ⟨trip_lt h1, hg _ _ h1⟩
    have hjm : j ∈ (List.range m).map (fun k => itN (tausN (phN (3 * l.length)) (oppL l a)) k i) := by
      refine Classical.byContradiction fun hno => ?_
      have := nodup_sub_len0 (List.nodup_cons.2 ⟨hno, nd⟩) (B := (List.range (3 * l.length)).filter fun k => decide (g k = p)) fun b hb => by
        rcases List.mem_cons.1 hb with rfl | hb
        · rw [List.mem_filter, List.mem_range, decide_eq_true_eq]
          exact ⟨trip_lt hj, (hg _ _ hj).trans hp⟩
        · exact sub b hb
      rw [hB, List.length_cons, List.length_map, List.length_range] at this
      omega
    obtain ⟨k, _, rfl⟩ := List.mem_map.1 hjm
    exact it_eqv _ k i
end
/-- One closed piece, connected: even, and at most 2. -/
theorem euler_one {l : List Tri} (h : checkP l false = 0) (hne : l ≠ []) (hcon : ∀ P : Tri → Prop, (∀ x ∈ l, ∀ y ∈ l, nearT x y = true → (P x ↔ P y)) → ∀ x ∈ l, ∀ y ∈ l, P x → P y) : eulerP l ≤ 2 ∧ eulerP l % 2 = 0 := by
  obtain ⟨hf, hn, hb, hc⟩ := check_iff.1 h
  have hb : borderP l = [] := by rcases hb with h | h; cases h; exact h
  obtain ⟨a, ha⟩ := opp_some (closed_swap hb)
  have law := euler_perm_law (phN (3 * l.length)) (3 * l.length) (oppL l a) (phN_perm _) (oppL_bnd ha)
  have hpos : 0 < l.length := List.length_pos_iff.2 hne
  have F : clsN (grE (phN (3 * l.length))) (3 * l.length) = l.length := by
    have := clsN_vals (E := grE (phN (3 * l.length))) (n := 3 * l.length) (g := fun k => k / 3) (fun i j hi hj => phN_eqv hi hj) (m := List.range l.length) List.nodup_range fun x => by
      rw [List.mem_range]
      constructor
      · intro hx; exact ⟨3 * x, by omega, by show 3 * x / 3 = x; omega⟩
      · rintro ⟨k, hk, rfl⟩; show k / 3 < _; omega
    rwa [List.length_range] at this
  have hg : ∃ g : Nat → Pt, ∀ k u, (tripP l)[k]? = some u → g k = u.1 :=
    ⟨fun k => (((tripP l)[k]?).map fun u => u.1).getD (0, 0, 0), fun k u hu => by simp only [hu, Option.map_some, Option.getD_some]⟩
  obtain ⟨g, hg⟩ := hg
  have V : clsN (grE (tausN (phN (3 * l.length)) (oppL l a))) (3 * l.length) = (cornersP l).length := by
    rw [corners_len]
    refine clsN_vals (g := g) (fun i j hi hj => ?_) (dedup_nodup _) fun x => ?_
    · obtain ⟨u, hu⟩ := trip_at hi
      obtain ⟨v, hv⟩ := trip_at hj
      rw [sig_eqv ha hn hf hc hu hv, hg i u hu, hg j v hv]
    · rw [dedup_mem, cors_trip, List.mem_map]
      constructor
      · rintro ⟨u, hu, rfl⟩
        obtain ⟨k, hk⟩ := List.mem_iff_getElem?.1 hu
        exact ⟨k, trip_lt hk, hg k u hk⟩
      · rintro ⟨k, hk, rfl⟩
        obtain ⟨u, hu⟩ := trip_at hk
        exact ⟨u, List.mem_of_getElem? hu, (hg k u hu).symm⟩
  have C : clsN (addsE (grE (phN (3 * l.length))) (oppL l a)) (3 * l.length) = 1 := by
    have up : ∀ {i j}, Eqv (grE (phN (3 * l.length))) i j → Eqv (addsE (grE (phN (3 * l.length))) (oppL l a)) i j := fun h => h.mono fun x y he => Eqv.of ((adds_iff _ _ _ _).2 (.inl he))
    -- all edges of triangles joined to edge 0
    have all : ∀ i, i < 3 * l.length → Eqv (addsE (grE (phN (3 * l.length))) (oppL l a)) 0 i := by
      obtain ⟨x0, hx0⟩ : ∃ x, l[0]? = some x := ⟨_, List.getElem?_eq_getElem hpos⟩
      have tri_at : ∀ {k : Nat} {u : Tri}, (tripP l)[k]? = some u → ∃ t, l[k / 3]? = some t ∧ u ∈ tri3 t := by
        have gen : ∀ (l : List Tri) (k : Nat) (u : Tri), (tripP l)[k]? = some u → ∃ t, l[k / 3]? = some t ∧ u ∈ tri3 t := by
          intro l
          induction l with
          | nil => intro k u h; simp [tripP] at h
          | cons t l ih =>
            intro k u h
            have e : tripP (t :: l) = tri3 t ++ tripP l := by unfold tripP; rw [List.flatMap_cons]
            rw [e] at h
            rcases Nat.lt_or_ge k 3 with hlt | hge
            · rw [List.getElem?_append_left (show k < (tri3 t).length from hlt)] at h
              exact ⟨t, by rw [show k / 3 = 0 by omega]; rfl, List.mem_of_getElem? h⟩
            · rw [List.getElem?_append_right (show (tri3 t).length ≤ k from hge)] at h
              obtain ⟨s, h1, h2⟩ := ih (k - 3) u h
              refine ⟨s, ?_, h2⟩
              rw [show k / 3 = (k - 3) / 3 + 1 by omega, List.getElem?_cons_succ]; exact h1
        exact fun {k u} h => gen l k u h
      have at_tri : ∀ {i : Nat} {t u : Tri}, l[i]? = some t → u ∈ tri3 t → ∃ k, (tripP l)[k]? = some u ∧ k / 3 = i := by
        have gen : ∀ (l : List Tri) (i : Nat) (t u : Tri), l[i]? = some t → u ∈ tri3 t → ∃ k, (tripP l)[k]? = some u ∧ k / 3 = i := by
          intro l
          induction l with
          | nil => intro i t u h; simp at h
          | cons s l ih =>
            intro i t u h hu
            have e : tripP (s :: l) = tri3 s ++ tripP l := by unfold tripP; rw [List.flatMap_cons]
            cases i with
            | zero =>
              simp only [List.getElem?_cons_zero, Option.some.injEq] at h
              subst h
              obtain ⟨k, hk⟩ := List.mem_iff_getElem?.1 hu
              obtain ⟨hlt, _⟩ := List.getElem?_eq_some_iff.1 hk
              have h3 : (tri3 s).length = 3 := rfl
              exact ⟨k, by rw [e, List.getElem?_append_left hlt]; exact hk, by omega⟩
            | succ i =>
              rw [List.getElem?_cons_succ] at h
              obtain ⟨k, h1, h2⟩ := ih i t u h hu
              have h3 : (tri3 s).length = 3 := rfl
              exact ⟨k + 3, by rw [e, List.getElem?_append_right (by omega), h3, Nat.add_sub_cancel]; exact h1, by omega⟩
        exact fun {i t u} h hu => gen l i t u h hu
      have P : ∀ y ∈ l, ∀ k u, (tripP l)[k]? = some u → u ∈ tri3 y → Eqv (addsE (grE (phN (3 * l.length))) (oppL l a)) 0 k := by
        intro y hy
        have start : ∀ k u, (tripP l)[k]? = some u → u ∈ tri3 x0 → Eqv (addsE (grE (phN (3 * l.length))) (oppL l a)) 0 k := fun k u hk hu => by
          obtain ⟨k', h1, h2⟩ := at_tri hx0 hu
          have : k' = k := edge_num hn h1 hk rfl
          rw [← this]
          exact up ((phN_eqv (by omega) (trip_lt h1)).2 (by omega))
        refine hcon (fun y => ∀ k u, (tripP l)[k]? = some u → u ∈ tri3 y → Eqv (addsE (grE (phN (3 * l.length))) (oppL l a)) 0 k) ?_ x0 (List.mem_of_getElem? hx0) y hy start
        have half : ∀ x ∈ l, ∀ y ∈ l, nearT x y = true → (∀ k u, (tripP l)[k]? = some u → u ∈ tri3 x → Eqv (addsE (grE (phN (3 * l.length))) (oppL l a)) 0 k) → ∀ k u, (tripP l)[k]? = some u → u ∈ tri3 y → Eqv (addsE (grE (phN (3 * l.length))) (oppL l a)) 0 k := by
          intro x hx y hy hxy hPx k u hk hu
          rcases nearT_iff.1 hxy with ⟨e, h1, h2⟩ | rfl
          · -- the edge of x and the opposite one of y
            obtain ⟨v, hv, hve⟩ : ∃ v ∈ tri3 x, edOf v = e := by
              simp only [edges3, List.mem_cons, List.not_mem_nil, or_false] at h1
              rcases h1 with rfl | rfl | rfl
              · exact ⟨x, by simp [tri3], rfl⟩
              · exact ⟨(x.2.1, x.2.2, x.1), by simp [tri3], rfl⟩
              · exact ⟨(x.2.2, x.1, x.2.1), by simp [tri3], rfl⟩
            obtain ⟨w, hw, hwe⟩ : ∃ w ∈ tri3 y, edOf w = swapE e := by
              simp only [edges3, List.mem_cons, List.not_mem_nil, or_false] at h2
              rcases h2 with h2 | h2 | h2
              · exact ⟨y, by simp [tri3], h2.symm⟩
              · exact ⟨(y.2.1, y.2.2, y.1), by simp [tri3], h2.symm⟩
              · exact ⟨(y.2.2, y.1, y.2.1), by simp [tri3], h2.symm⟩
            obtain ⟨ix, hix⟩ := List.mem_iff_getElem?.1 hx
            obtain ⟨iy, hiy⟩ := List.mem_iff_getElem?.1 hy
            obtain ⟨kv, kv1, kv2⟩ := at_tri hix hv
            obtain ⟨kw, kw1, kw2⟩ := at_tri hiy hw
            obtain ⟨ku, ku1, ku2⟩ := at_tri hiy hu
            have : ku = k := edge_num hn ku1 hk rfl
            subst this
            have h3 := hPx kv v kv1 hv
            obtain ⟨z, hz⟩ := ha.opp kv v kv1
            have h4 : a kv = kw := edge_num hn hz kw1 (by rw [hwe, ← hve]; rfl)
            have h5 : Eqv (addsE (grE (phN (3 * l.length))) (oppL l a)) kv kw := by
              have hkl := trip_lt kv1
              have hne := opp_ne ha hf hkl
              rcases Nat.lt_or_ge kv (a kv) with hlt | hge
              · refine Eqv.of ((adds_iff _ _ _ _).2 (.inr ?_))
                rw [← h4]; exact oppL_mem.2 ⟨kv, hkl, hlt, rfl⟩
              · refine (Eqv.of ((adds_iff _ _ _ _).2 (.inr ?_))).symm
                rw [← h4]; exact oppL_mem.2 ⟨a kv, ha.bnd kv hkl, by rw [opp_opp ha hn hkl]; omega, by rw [opp_opp ha hn hkl]⟩
            exact h3.trans (h5.trans (up ((phN_eqv (trip_lt kw1) (trip_lt ku1)).2 (by omega))))
          · exact hPx k u hk hu
        intro x hx y hy hxy
        refine ⟨half x hx y hy hxy, half y hy x hx ?_⟩
        rcases nearT_iff.1 hxy with ⟨e, h1, h2⟩ | rfl
        · exact nearT_iff.2 (.inl ⟨swapE e, h2, h1⟩)
        · exact nearT_iff.2 (.inr rfl)
      intro i hi
      obtain ⟨u, hu⟩ := trip_at hi
      obtain ⟨t, h1, h2⟩ := tri_at hu
      exact P t (List.mem_of_getElem? h1) i u hu h2
    have := clsN_vals (E := addsE (grE (phN (3 * l.length))) (oppL l a)) (n := 3 * l.length) (g := fun _ => ()) (fun i j hi hj => ⟨fun _ => rfl, fun _ => (all i hi).symm.trans (all j hj)⟩) (m := [()]) (by simp) fun x => by
      constructor
      · intro _; exact ⟨0, by omega, rfl⟩
      · intro _; simp
    exact this
  rw [V, F, C, opp_len ha hn hf] at law
  unfold eulerP
  omega
theorem euler_app {x y : List Tri} (hd : ∀ p, p ∈ corsP x → p ∉ corsP y) : eulerP (x ++ y) = eulerP x + eulerP y := by
  have c : (cornersP (x ++ y)).length = (cornersP x).length + (cornersP y).length := by
    rw [corners_len, corners_len, corners_len, ← List.length_append]
    refine List.Perm.length_eq ((List.perm_ext_iff_of_nodup (dedup_nodup _) ?_).2 fun p => ?_)
    · refine List.nodup_append.2 ⟨dedup_nodup _, dedup_nodup _, fun p hp q hq e => ?_⟩
      subst e
      exact hd p (dedup_mem.1 hp) (dedup_mem.1 hq)
    · rw [List.mem_append, dedup_mem, dedup_mem, dedup_mem, cors_app, List.mem_append]
  have endc : ∀ {l : List Tri} {e : Ed}, e ∈ edgesP l → e.1 ∈ corsP l ∧ e.2 ∈ corsP l := by
    intro l e he
    obtain ⟨t, ht, h⟩ := List.mem_flatMap.1 he
    simp only [edges3, List.mem_cons, List.not_mem_nil, or_false] at h
    have mem : ∀ p, p ∈ cors3 t → p ∈ corsP l := fun p hp => List.mem_flatMap.2 ⟨t, ht, hp⟩
    rcases h with rfl | rfl | rfl <;> exact ⟨mem _ (by simp [cors3]), mem _ (by simp [cors3])⟩
  have n : (dedup ((edgesP (x ++ y)).map normE)).length = (dedup ((edgesP x).map normE)).length + (dedup ((edgesP y).map normE)).length := by
    rw [← List.length_append]
    refine List.Perm.length_eq ((List.perm_ext_iff_of_nodup (dedup_nodup _) ?_).2 fun p => ?_)
    · refine List.nodup_append.2 ⟨dedup_nodup _, dedup_nodup _, fun p hp q hq e => ?_⟩
      subst e
      obtain ⟨d, hd1, hd2⟩ := List.mem_map.1 (dedup_mem.1 hp)
      obtain ⟨f, hf1, hf2⟩ := List.mem_map.1 (dedup_mem.1 hq)
      rcases normE_eq.1 (hd2.trans hf2.symm) with h | h
      · exact hd d.1 (endc hd1).1 (by rw [h]; exact (endc hf1).1)
      · exact hd d.1 (endc hd1).1 (by rw [h]; exact (endc hf1).2)
    · rw [List.mem_append, dedup_mem, dedup_mem, dedup_mem, edges_app, List.map_append, List.mem_append]
  unfold eulerP
  rw [c, n, List.length_append]
  omega
theorem euler_flat : ∀ (L : List (List Tri)), (L.Pairwise fun x y => ∀ p, p ∈ corsP x → p ∉ corsP y) → eulerP L.flatten = (L.map eulerP).foldr (· + ·) 0
  | [], _ => by
    have := euler_app (x := []) (y := []) (fun p hp => by simp [corsP] at hp)
    rw [List.append_nil] at this
    show eulerP [] = 0
    omega
  | x :: L, h => by
    obtain ⟨h1, h2⟩ := List.pairwise_cons.1 h
    rw [List.flatten_cons, List.map_cons, List.foldr_cons, ← euler_flat L h2]
    refine euler_app fun p hp hq => ?_
    unfold corsP at hq
    rw [List.mem_flatMap] at hq
    obtain ⟨t, ht, htp⟩ := hq
    obtain ⟨y, hy, hty⟩ := List.mem_flatten.1 ht
    exact h1 y hy p hp (List.mem_flatMap.2 ⟨t, hty, htp⟩)
theorem pickL_mem {c : List Tri} {ks : List Nat} {x : Tri} : x ∈ pickL c ks ↔ ∃ k ∈ ks, c[k]? = some x := by unfold pickL; exact List.mem_filterMap
theorem pickL_range (c : List Tri) : pickL c (List.range c.length) = c := by
  unfold pickL
  refine List.ext_getElem? fun i => ?_
  have : (List.range c.length).filterMap (fun k => c[k]?) = c := by
    have h : ∀ (pre c : List Tri), (List.range' pre.length c.length).filterMap (fun k => (pre ++ c)[k]?) = c := by
      intro pre c
      induction c generalizing pre with
      | nil => rfl
      | cons x c ih =>
        rw [List.length_cons, List.range'_succ, List.filterMap_cons]
        have e : (pre ++ x :: c)[pre.length]? = some x := by rw [List.getElem?_append_right (Nat.le_refl _), Nat.sub_self]; rfl
        rw [e]
        have := ih (pre ++ [x])
        rw [List.length_append, List.append_assoc] at this
        exact congrArg (x :: ·) this
    have := h [] c
    rw [List.range_eq_range']
    exact this
  rw [this]
/-- The parts of a closed list. -/
theorem parts_euler {c : List Tri} (hc : checkP c false = 0) {S : Nat → Nat → Bool} (hS : ClsS c S) :
    (∀ p ∈ partsT c S c.length, checkP p false = 0 ∧ eulerP p ≤ 2 ∧ eulerP p % 2 = 0) ∧ ((partsT c S c.length).map eulerP).foldr (· + ·) 0 = eulerP c := by
  obtain ⟨hf, hn, hb, hcm⟩ := check_iff.1 hc
  have hb : borderP c = [] := by rcases hb with h | h; cases h; exact h
  have hsw := closed_swap hb
  have hE := hS.eqB
  have hop : checkP c true = 0 := check_iff.2 ⟨hf, hn, .inl rfl, hcm⟩
  have mem : ∀ h x, x ∈ pickL c ((List.range c.length).filter (S h)) ↔ ∃ k, k < c.length ∧ S h k = true ∧ c[k]? = some x := fun h x => by
    rw [pickL_mem]
    constructor
    · rintro ⟨k, hk, hx⟩
      rw [List.mem_filter, List.mem_range] at hk
      exact ⟨k, hk.1, hk.2, hx⟩
    · rintro ⟨k, h1, h2, h3⟩
      exact ⟨k, by rw [List.mem_filter, List.mem_range]; exact ⟨h1, h2⟩, h3⟩
  have split : ∀ h, (pickL c ((List.range c.length).filter (S h)) ++ pickL c ((List.range c.length).filter fun k => !S h k)).Perm c := fun h => by
    have h1 := (List.filter_append_perm (S h) (List.range c.length)).filterMap fun k => c[k]?
    rw [List.filterMap_append] at h1
    have h2 := pickL_range c
    unfold pickL at h2 ⊢
    rw [h2] at h1
    exact h1
  have edge_of : ∀ {e : Ed} {l : List Tri}, e ∈ edgesP l ↔ ∃ t ∈ l, e ∈ edges3 t := fun {e l} => by unfold edgesP; exact List.mem_flatMap
  refine ⟨fun p hp => ?_, ?_⟩
  · unfold partsT at hp
    obtain ⟨ks, hks, rfl⟩ := List.mem_map.1 hp
    unfold partsI at hks
    obtain ⟨h, hh, rfl⟩ := List.mem_map.1 hks
    have hpm := split h
    have htr : (tripP (pickL c ((List.range c.length).filter (S h)) ++ pickL c ((List.range c.length).filter fun k => !S h k))).Perm (tripP c) := hpm.flatMap_right tri3
    have h1 : checkP (pickL c ((List.range c.length).filter (S h))) true = 0 := piece_check (by rw [check_perm htr]; exact hop)
    obtain ⟨g1, g2, _, g4⟩ := check_iff.1 h1
    have hclosed : borderP (pickL c ((List.range c.length).filter (S h))) = [] := by
      refine List.eq_nil_iff_forall_not_mem.2 fun e he => ?_
      obtain ⟨he1, he2⟩ := ((border_both _).2 e).1 he
      obtain ⟨x, hx, hex⟩ := edge_of.1 he1
      obtain ⟨k, k1, k2, k3⟩ := (mem h x).1 hx
      have := hsw e (edge_of.2 ⟨x, List.mem_of_getElem? k3, hex⟩)
      obtain ⟨y, hy, hey⟩ := edge_of.1 this
      obtain ⟨j, hj⟩ := List.mem_iff_getElem?.1 hy
      obtain ⟨hjl, _⟩ := List.getElem?_eq_some_iff.1 hj
      have hkj : S k j = true := (hS k j).2 (Eqv.of ⟨x, y, k3, hj, nearT_iff.2 (.inl ⟨e, hex, hey⟩)⟩)
      exact he2 (edge_of.2 ⟨y, (mem h y).2 ⟨j, hjl, hE.trans _ _ _ k2 hkj, hj⟩, hey⟩)
    have hck : checkP (pickL c ((List.range c.length).filter (S h))) false = 0 := check_iff.2 ⟨g1, g2, .inr hclosed, g4⟩
    refine ⟨hck, euler_one hck ?_ ?_⟩
    · obtain ⟨h2, _⟩ := headsI_mem.1 hh
      have : c[h] ∈ pickL c ((List.range c.length).filter (S h)) := (mem h _).2 ⟨h, h2, hE.refl h, List.getElem?_eq_getElem h2⟩
      exact List.ne_nil_of_mem this
    · intro P hP x hx y hy hPx
      obtain ⟨i, i1, i2, i3⟩ := (mem h x).1 hx
      obtain ⟨j, j1, j2, j3⟩ := (mem h y).1 hy
      have hij : Eqv (nearI c) i j := (hS i j).1 (hE.trans _ _ _ (hE.symm _ _ i2) j2)
      have key := hij (fun i j => (S h i = true ↔ S h j = true) ∧ (S h i = true → ∀ x y, c[i]? = some x → c[j]? = some y → (P x ↔ P y))) ?_ ?_ ?_ ?_
      · exact (key.2 i2 x y i3 j3).1 hPx
      · exact fun i => ⟨Iff.rfl, fun _ x y h1 h2 => by rw [h1] at h2; rw [Option.some.inj h2]⟩
      · rintro i j ⟨h1, h2⟩
        exact ⟨h1.symm, fun hj x y hx hy => (h2 (h1.2 hj) y x hy hx).symm⟩
      · rintro i j k ⟨h1, h2⟩ ⟨h3, h4⟩
        refine ⟨h1.trans h3, fun hi x z hx hz => ?_⟩
        by_cases hjl : j < c.length
        · have hy : c[j]? = some c[j] := List.getElem?_eq_getElem hjl
          exact (h2 hi x _ hx hy).trans (h4 (h1.1 hi) _ z hy hz)
        · -- numbers beyond the list are alone
          exfalso
          have hjh : S h j = true := h1.1 hi
          have e1 : Eqv (nearI c) h j := (hS h j).1 hjh
          have e2 := e1 (fun a b => (a < c.length ↔ b < c.length)) (fun _ => Iff.rfl) (fun _ _ h => h.symm) (fun _ _ _ h k => h.trans k) (by
            rintro a b ⟨x, y, hx, hy, _⟩
            obtain ⟨ha, _⟩ := List.getElem?_eq_some_iff.1 hx
            obtain ⟨hb, _⟩ := List.getElem?_eq_some_iff.1 hy
            exact ⟨fun _ => hb, fun _ => ha⟩)
          exact hjl (e2.1 (headsI_mem.1 hh).1)
      · rintro i j hij
        have hs : S i j = true := (hS i j).2 (Eqv.of hij)
        obtain ⟨x, y, hx, hy, hxy⟩ := hij
        refine ⟨⟨fun h1 => hE.trans _ _ _ h1 hs, fun h1 => hE.trans _ _ _ h1 (hE.symm _ _ hs)⟩, fun hi x' y' hx' hy' => ?_⟩
        rw [hx] at hx'; rw [hy] at hy'
        obtain rfl := Option.some.inj hx'
        obtain rfl := Option.some.inj hy'
        obtain ⟨hil, _⟩ := List.getElem?_eq_some_iff.1 hx
        obtain ⟨hjl, _⟩ := List.getElem?_eq_some_iff.1 hy
        exact hP x ((mem h x).2 ⟨i, hil, hi, hx⟩) y ((mem h y).2 ⟨j, hjl, hE.trans _ _ _ hi hs, hy⟩) hxy
  · have hfl := partsT_perm (c := c) hE c.length (Nat.le_refl _)
    rw [List.take_length] at hfl
    rw [← euler_perm (hfl.flatMap_right tri3)]
    refine (euler_flat _ ?_).symm
    unfold partsT partsI
    refine List.pairwise_map.2 (List.pairwise_map.2 (List.Pairwise.imp_of_mem ?_ (List.nodup_range.filter _ : (headsI S c.length).Nodup)))
    intro h1 h2 m1 m2 hne p hp1 hp2
    obtain ⟨x, hx, hxp⟩ := List.mem_flatMap.1 hp1
    obtain ⟨y, hy, hyp⟩ := List.mem_flatMap.1 hp2
    obtain ⟨i, i1, i2, i3⟩ := (mem h1 x).1 hx
    obtain ⟨j, j1, j2, j3⟩ := (mem h2 y).1 hy
    obtain ⟨a, ha⟩ := opp_some hsw
    have tr : ∀ {i : Nat} {t : Tri} {p : Pt}, c[i]? = some t → p ∈ cors3 t → ∃ k u, (tripP c)[k]? = some u ∧ u.1 = p ∧ k / 3 = i := by
      intro i t p hi hp
      have gen : ∀ (l : List Tri) (i : Nat) (t u : Tri), l[i]? = some t → u ∈ tri3 t → ∃ k, (tripP l)[k]? = some u ∧ k / 3 = i := by
        intro l
        induction l with
        | nil => intro i t u h; simp at h
        | cons s l ih =>
          intro i t u h hu
          have e : tripP (s :: l) = tri3 s ++ tripP l := by unfold tripP; rw [List.flatMap_cons]
          cases i with
          | zero =>
            simp only [List.getElem?_cons_zero, Option.some.injEq] at h
            subst h
            obtain ⟨k, hk⟩ := List.mem_iff_getElem?.1 hu
            obtain ⟨hlt, _⟩ := List.getElem?_eq_some_iff.1 hk
            have h3 : (tri3 s).length = 3 := rfl
            exact ⟨k, by rw [e, List.getElem?_append_left hlt]; exact hk, by omega⟩
          | succ i =>
            rw [List.getElem?_cons_succ] at h
            obtain ⟨k, h1, h2⟩ := ih i t u h hu
            have h3 : (tri3 s).length = 3 := rfl
            exact ⟨k + 3, by rw [e, List.getElem?_append_right (by omega), h3, Nat.add_sub_cancel]; exact h1, by omega⟩
      simp only [cors3, List.mem_cons, List.not_mem_nil, or_false] at hp
      rcases hp with rfl | rfl | rfl
      · obtain ⟨k, h1, h2⟩ := gen c i t t hi (by simp [tri3]); exact ⟨k, _, h1, rfl, h2⟩
      · obtain ⟨k, h1, h2⟩ := gen c i t (t.2.1, t.2.2, t.1) hi (by simp [tri3]); exact ⟨k, _, h1, rfl, h2⟩
      · obtain ⟨k, h1, h2⟩ := gen c i t (t.2.2, t.1, t.2.1) hi (by simp [tri3]); exact ⟨k, _, h1, rfl, h2⟩
    obtain ⟨ki, u, ku, eu, di⟩ := tr i3 hxp
    obtain ⟨kj, v, kv, ev, dj⟩ := tr j3 hyp
    have orb := (sig_eqv ha hn hf hcm ku kv).2 (eu.trans ev.symm)
    -- along an orbit the class stays
    have cls : S i j = true := by
      have := orb (fun x y => S (x / 3) (y / 3) = true) (fun x => hE.refl _) (fun _ _ h => hE.symm _ _ h) (fun _ _ _ h k => hE.trans _ _ _ h k) ?_
      · rwa [di, dj] at this
      · rintro x y (rfl : y = _)
        by_cases hx : x < 3 * c.length
        · rw [sig_eq ha hn hf hx, phN_div]
          obtain ⟨w, hw⟩ := trip_at hx
          obtain ⟨z, hz⟩ := ha.opp x w hw
          have gen : ∀ (l : List Tri) (k : Nat) (u : Tri), (tripP l)[k]? = some u → ∃ t, l[k / 3]? = some t ∧ u ∈ tri3 t := by
            intro l
            induction l with
            | nil => intro k u h; simp [tripP] at h
            | cons t l ih =>
              intro k u h
              have e : tripP (t :: l) = tri3 t ++ tripP l := by unfold tripP; rw [List.flatMap_cons]
              rw [e] at h
              rcases Nat.lt_or_ge k 3 with hlt | hge
              · rw [List.getElem?_append_left (show k < (tri3 t).length from hlt)] at h
                exact ⟨t, by rw [show k / 3 = 0 by omega]; rfl, List.mem_of_getElem? h⟩
              · rw [List.getElem?_append_right (show (tri3 t).length ≤ k from hge)] at h
                obtain ⟨s, h1, h2⟩ := ih (k - 3) u h
                refine ⟨s, ?_, h2⟩
                rw [show k / 3 = (k - 3) / 3 + 1 by omega, List.getElem?_cons_succ]; exact h1
          obtain ⟨t1, ht1, hw1⟩ := gen c _ _ hw
          obtain ⟨t2, ht2, hz1⟩ := gen c _ _ hz
          have ed : ∀ {t u : Tri}, u ∈ tri3 t → edOf u ∈ edges3 t := fun {t u} h => by
            simp only [tri3, List.mem_cons, List.not_mem_nil, or_false] at h
            rcases h with rfl | rfl | rfl <;> simp [edOf, edges3]
          exact (hS _ _).2 (Eqv.of ⟨t1, t2, ht1, ht2, nearT_iff.2 (.inl ⟨edOf w, ed hw1, ed hz1⟩)⟩)
        · have e1 : tausN (phN (3 * c.length)) (oppL c a) x = x := by
            rw [taus_off _ _ _ fun p hp => ⟨fun e => hx (by rw [e]; exact (oppL_bnd ha p hp).1), fun e => hx (by rw [e]; exact (oppL_bnd ha p hp).2.1)⟩]
            unfold phN; rw [if_neg hx]
          rw [e1]; exact hE.refl _
    exact hne (head_one hE (headsI_mem.1 m1).2 (headsI_mem.1 m2).2 (hE.trans _ _ _ i2 (hE.trans _ _ _ cls (hE.symm _ _ j2))))
end Go.Proofs.YtelfnmohpjkilaaGreatDoor
namespace Go.Proofs.YtelfnmohpjkilaaGreatDoor
open Go.RowKit Go.Sort
theorem canon_trip (L : List Tri) : (tripP (canonO L)).Perm (tripP L) := by
  have hp : (canonO L).Perm (L.map rotT) := sortO_perm (lt := ltT) (L.map rotT)
  refine (hp.flatMap_right tri3).trans ?_
  clear hp
  induction L with
  | nil => exact List.Perm.refl _
  | cons t L ih =>
    rw [List.map_cons, List.flatMap_cons]
    unfold tripP
    rw [List.flatMap_cons]
    refine List.Perm.append ?_ ih
    refine tri3_self ?_
    rcases rotT_cases4 t with e | e | e <;> rw [e] <;> simp [tri3, cyc3]
theorem parts_euler_of {L : List Tri} (h : checkP L false = 0) {S : Nat → Nat → Bool} (hS : ClsS (canonO L) S) :
    (∀ p ∈ partsT (canonO L) S (canonO L).length, checkP p false = 0 ∧ eulerP p ≤ 2 ∧ eulerP p % 2 = 0) ∧ ((partsT (canonO L) S (canonO L).length).map eulerP).foldr (· + ·) 0 = eulerP L := by
  have h1 := parts_euler (c := canonO L) (by rw [check_perm (canon_trip L)]; exact h) hS
  rw [euler_perm (canon_trip L)] at h1
  exact h1
theorem sum_app (a b : List Int) : (a ++ b).foldr (· + ·) 0 = a.foldr (· + ·) 0 + b.foldr (· + ·) 0 := by
  induction a with
  | nil => simp
  | cons x a ih => rw [List.cons_append, List.foldr_cons, List.foldr_cons, ih]; omega
theorem eulS_snoc {P : List (List Tri)} {k : Nat} {p : List Tri} (h : P[k]? = some p) : ((P.take (k + 1)).map eulerP).foldr (· + ·) 0 = ((P.take k).map eulerP).foldr (· + ·) 0 + eulerP p := by
  rw [List.take_add_one, h, List.map_append, sum_app]
  simp
theorem euler_low (p : List Tri) : -(3 * (p.length : Int)) ≤ eulerP p ∧ eulerP p ≤ 4 * (p.length : Int) := by
  have := euler_bds p
  unfold eulerP
  omega
theorem eulS_bd {P : List (List Tri)} {n : Nat} (h : ∀ p ∈ P, p.length ≤ n) (k : Nat) : -(4 * (n : Int) * k) ≤ ((P.take k).map eulerP).foldr (· + ·) 0 ∧ ((P.take k).map eulerP).foldr (· + ·) 0 ≤ 4 * (n : Int) * k := by
  induction k with
  | zero => simp
  | succ k ih =>
    cases hp : P[k]? with
    | none =>
      have e : P.take (k + 1) = P.take k := by rw [List.take_add_one, hp]; simp
      rw [e]
      have : 4 * (n : Int) * ((k + 1 : Nat) : Int) = 4 * (n : Int) * k + 4 * n := by rw [Int.natCast_add, Int.mul_add]; simp
      omega
    | some p =>
      rw [eulS_snoc hp]
      have h1 := euler_low p
      have h2 := h p (List.mem_of_getElem? hp)
      have : 4 * (n : Int) * ((k + 1 : Nat) : Int) = 4 * (n : Int) * k + 4 * n := by rw [Int.natCast_add, Int.mul_add]; simp
      omega
end Go.Proofs.YtelfnmohpjkilaaGreatDoor
namespace Go.Proofs.YtelfnmohpjkilaaGreatDoor
open Go.RowKit Go.Sort
set_option maxRecDepth 100000 in
set_option maxHeartbeats 64000000 in
theorem eulers_of (hsan : ∀ W : World, Calls Tryz.prog 12 #[] W fun e w' => e = .returned (.bool true) ∧ Below W.heap.size W w') (op : Bool) (b0 : Nat) (A : Option Addr) (c : Nat) (ns : List Int) (s0 s1 s2 s3 s4 s5 : Int) (w : World) (hb0 : b0 < 4294967296) (hs : ns ≠ [] → Sl encZ4 1 w w.heap.size A ns) (hf : ∀ n ∈ ns, fits n) (hlc : ns.length ≤ c) (hlm : ns.length ≤ 9223372036854775807) :
    Calls Tryz.prog 8 #[.agg (vSh op b0 A ns.length c s0 s1 s2 s3 s4 s5)] w fun e w' => e = .returned (.bool true) ∧ Below w.heap.size w w' := by
  have htr := fun W (hW : Below w.heap.size w W) => tris_any op b0 A c ns s0 s1 s2 s3 s4 s5 W hb0 (fun h => ((hs h).below hW).more hW.size) hf hlc hlm
  obtain ⟨M, hM⟩ : ∃ M, M = ns.length := ⟨_, rfl⟩
  simp only [← hM] at htr ⊢
  have HT := hide htr
  have HS := hide hsan
  clear htr hsan hs hf hM hlc hlm
  go_enter Tryz.func8, Tryz.ntmps8
  go_upto_region 1 with fail
  obtain ⟨xb, hxb⟩ : ∃ g, g = w.heap.size := ⟨_, rfl⟩
  obtain ⟨W0, hW0⟩ : ∃ W, W = w.alloc (.cells (vSh op b0 A M c s0 s1 s2 s3 s4 s5) 26) := ⟨_, rfl⟩
  rw [← hW0, ← hxb]
  have hbx : Blk W0 xb 26 (vSh op b0 A M c s0 s1 s2 s3 s4 s5) := by rw [hW0, hxb]; exact Blk.new _ _ _
  have hB0 : Below w.heap.size w W0 := by rw [hW0]; exact (Below.refl _ w).alloc (Nat.le_refl _) _
  have H0 := hide (And.intro hbx hB0)
  clear hbx hB0 hW0 hxb
  go_upto_region 2 with (go_at_call 12; refine (HS.out W0).mono ?_; rintro e X ⟨rfl, hB⟩; have h1 := H0.out.1.below hB H0.out.1.lt; have h2 := H0.out.2.trans (hB.mono H0.out.2.size); have H1 := hide (And.intro h1 h2); clear h1 h2 hB)
  have x0 : X.cell? ⟨xb, 0, none⟩ = some (.bool op) := H1.out.1.cell 0
  have x1 : X.cell? ⟨xb, 1, none⟩ = some (.int .u32 b0) := H1.out.1.cell 1
  have x2 : X.cell? ⟨xb, 2, none⟩ = some (.slice A M c) := H1.out.1.cell 2
  have x3 : X.cell? ⟨xb, 3, none⟩ = some (.int .i64 s0) := H1.out.1.cell 3
  have x4 : X.cell? ⟨xb, 4, none⟩ = some (.int .i64 s1) := H1.out.1.cell 4
  have x5 : X.cell? ⟨xb, 5, none⟩ = some (.int .i64 s2) := H1.out.1.cell 5
  have x6 : X.cell? ⟨xb, 6, none⟩ = some (.int .i64 s3) := H1.out.1.cell 6
  have x7 : X.cell? ⟨xb, 7, none⟩ = some (.int .i64 s4) := H1.out.1.cell 7
  have x8 : X.cell? ⟨xb, 8, none⟩ = some (.int .i64 s5) := H1.out.1.cell 8
  have hxl := H1.out.1.lt
  go_upto_region 3 with (go_at_call 13; refine (HT.out X H1.out.2).mono ?_; rintro e Y ⟨v, rfl, L, ho, hl, hf, hB⟩; obtain ⟨TA, tc, rfl⟩ := ho.form; have h1 := ho.sl encT_len (Nat.le_refl _); have H2 := hide (And.intro h1 (And.intro hl (And.intro hf (H1.out.2.trans (hB.mono H1.out.2.size))))); clear ho hl hf hB h1)
  clear x0 x1 x2 x3 x4 x5 x6 x7 x8 hxl H1 H0
  obtain ⟨N, hN⟩ : ∃ n, n = L.length := ⟨_, rfl⟩
  have hN4 : N ≤ 401 := by rw [hN]; exact H2.out.2.1
  rw [← hN]
  have hsl := fun W (h : Below Y.heap.size Y W) => (H2.out.1.below h).more h.size
  obtain ⟨S, hS⟩ := ClsS.some (canonO L)
  have hnP := parts_few hS
  have hflP := parts_flat H2.out.2.2.1 hS.eqB
  have hcaP := partsT_canon (ts := L) hS.eqB
  obtain ⟨P, hP⟩ : ∃ P, P = partsT (canonO L) S (canonO L).length := ⟨_, rfl⟩
  rw [← hP] at hnP hflP hcaP
  rw [canonO_length, ← hN] at hnP
  rw [← hN] at hflP
  have kA : ∀ W, Below Y.heap.size Y W → Calls Tryz.prog 34 #[.slice TA N tc] W fun e w' => ∃ A c, e = .returned (.slice A P.length c) ∧ Pcs encT 9 58 28 w' W.heap.size (.slice A P.length c) P ∧ Below W.heap.size W w' := fun W h => by
    have k := parts4_any TA tc L W (hsl W h) (by omega) H2.out.2.2.1 S hS
    rw [← hN, ← hP] at k
    refine Calls.mono k ?_
    rintro e w' ⟨v, rfl, ho, hB⟩
    obtain ⟨A, c, rfl⟩ := ho.form
    exact ⟨A, c, rfl, ho.pcs, hB⟩
  obtain ⟨U, hU⟩ : ∃ E, E = eulerP L := ⟨_, rfl⟩
  obtain ⟨E, hE⟩ : ∃ E, E = checkP L false := ⟨_, rfl⟩
  have k1 : ∀ W, Below Y.heap.size Y W → Calls Tryz.prog 36 #[.slice TA N tc] W fun e w' => e = .returned (.int .i64 U) ∧ Below W.heap.size W w' := fun W h => by
    have := euler4_any TA tc L W (hsl W h) (by omega) H2.out.2.2.1
    rw [← hN, ← hU] at this; exact this
  have k2 : ∀ W, Below Y.heap.size Y W → Calls Tryz.prog 37 #[.slice TA N tc] W fun e w' => e = .returned (.int .i64 U) ∧ Below W.heap.size W w' := fun W h => by
    have := eulerR_any TA tc L W (hsl W h) (by omega) H2.out.2.2.1
    rw [← hN, ← hU] at this; exact this
  have k3 : ∀ W, Below Y.heap.size Y W → Calls Tryz.prog 14 #[.slice TA N tc] W fun e w' => e = .returned (.int .i64 E) ∧ Below W.heap.size W w' := fun W h => by
    have := Check4_any TA tc L W (hsl W h) (by omega) H2.out.2.2.1
    rw [← hN, ← hE] at this; exact this
  have hlaw : E = 0 → (∀ p ∈ P, checkP p false = 0 ∧ eulerP p ≤ 2 ∧ eulerP p % 2 = 0) ∧ (P.map eulerP).foldr (· + ·) 0 = U := fun h => by
    rw [hU, hP]; exact parts_euler_of (hE.symm.trans h) hS
  obtain ⟨np, hnp⟩ : ∃ n, n = P.length := ⟨_, rfl⟩
  simp only [← hnp] at kA hnP
  have K := hide (And.intro kA (And.intro k1 (And.intro k2 (And.intro k3 (And.intro hflP (And.intro hnp hlaw))))))
  have HZ := hide H2.out.2.2.2
  clear kA k1 k2 k3 hflP hcaP hsl hP hN H2 hS hnp hU hE hlaw
  have t0 : (U != U) = false := by simp
  go_upto_if 19 with (first
    | (go_at_call 14; refine (K.out.2.2.2.1 W2 J2.out).mono ?_; rintro e W3 ⟨rfl, hB⟩; have J3 := hide (J2.out.trans (hB.mono J2.out.size)); clear hB)
    | (go_at_call 37; refine (K.out.2.2.1 W1 J1.out).mono ?_; rintro e W2 ⟨rfl, hB⟩; have J2 := hide (J1.out.trans (hB.mono J1.out.size)); clear hB)
    | (go_at_call 36; refine (K.out.2.1 Y (Below.refl _ Y)).mono ?_; rintro e W1 ⟨rfl, hB⟩; have J1 := hide hB; clear hB))
  by_cases hE0 : E = 0
  · have hlaw := K.out.2.2.2.2.2.2 hE0
    have HL := hide hlaw
    clear hlaw
    subst hE0
    go_wp2_with (go_at_call 34; refine (K.out.1 W3 J3.out).mono ?_; rintro e Z ⟨AA, ac, rfl, hp, hB⟩; have J4 := hide (And.intro hp (J3.out.trans (hB.mono J3.out.size))); clear hp hB)
    go_loopw [5, 24] (fun sv kv wr => ∃ k : Nat, k ≤ np ∧ kv = .int .i64 k ∧ sv = .int .i64 (((P.take k).map eulerP).foldr (· + ·) 0) ∧ Below Z.heap.size Z wr) (fun _ kv _ => np - (intOf kv).toNat)
    case atStart => exact ⟨0, by omega, rfl, rfl, Below.refl _ Z⟩
    case round =>
      obtain ⟨k, hk, rfl, rfl, hB⟩ := hrel
      obtain ⟨V, rfl⟩ : ∃ x, x = wr := ⟨_, rfl⟩
      by_cases hlt : k < np
      · have i1 : (k : Int) < (np : Int) := by omega
        obtain ⟨p, hp⟩ : ∃ p, P[k]? = some p := ⟨_, List.getElem?_eq_getElem (by rw [← K.out.2.2.2.2.2.1]; exact hlt)⟩
        have hpm := K.out.2.2.2.2.1.1 p (List.mem_of_getElem? hp)
        obtain ⟨hp0, hp2, hpe⟩ := HL.out.1 p (List.mem_of_getElem? hp)
        obtain ⟨ba, oa, A1, c1, hA1, hl1, x0, ho1⟩ := J4.out.1.piece hp
        subst hA1
        have z0 := (hB.cell (p := ⟨ba, oa + k, none⟩) hl1).trans x0
        have hla : ba < V.heap.size := Nat.lt_of_lt_of_le hl1 hB.size
        have hsn := eulS_snoc hp
        have hbd := eulS_bd (fun q hq => (K.out.2.2.2.2.1.1 q hq).1) k
        have hpb := euler_low p
        obtain ⟨s0, hs0⟩ : ∃ s, s = ((P.take k).map eulerP).foldr (· + ·) 0 := ⟨_, rfl⟩
        obtain ⟨s1, hs1⟩ : ∃ s, s = ((P.take (k + 1)).map eulerP).foldr (· + ·) 0 := ⟨_, rfl⟩
        rw [← hs0] at hsn hbd ⊢
        rw [← hs1] at hsn
        obtain ⟨pe, hpe0⟩ : ∃ e, e = eulerP p := ⟨_, rfl⟩
        rw [← hpe0] at hsn hp2 hpe hpb
        obtain ⟨pl, hpl⟩ : ∃ n, n = p.length := ⟨_, rfl⟩
        rw [← hpl] at z0 ho1 hpm hpb
        have q1 : ∀ W, Below V.heap.size V W → Calls Tryz.prog 36 #[.slice A1 pl c1] W fun e w' => e = .returned (.int .i64 pe) ∧ Below W.heap.size W w' := fun W h => by
          have := euler4_any A1 c1 p W (((ho1.sl encT_len (Nat.le_refl _)).below (hB.trans (h.mono hB.size))).more (Nat.le_trans hB.size h.size)) (by omega) hpm.2
          rw [← hpl, ← hpe0] at this; exact this
        have q2 : ∀ W, Below V.heap.size V W → Calls Tryz.prog 14 #[.slice A1 pl c1] W fun e w' => e = .returned (.int .i64 0) ∧ Below W.heap.size W w' := fun W h => by
          have := Check4_any A1 c1 p W (((ho1.sl encT_len (Nat.le_refl _)).below (hB.trans (h.mono hB.size))).more (Nat.le_trans hB.size h.size)) (by omega) hpm.2
          rw [← hpl, hp0] at this; exact this
        have n1 : ¬ (2 : Int) < pe := by omega
        have n2 : pe % 2 = 0 := hpe
        have n3 : pe.tmod 2 = 0 := Int.tmod_eq_zero_of_dvd (Int.dvd_of_emod_eq_zero hpe)
        have hpl1 := hpm.1
        have hNk : 4 * (N : Int) * (k : Int) ≤ 643204 := by
          have h := Nat.mul_le_mul hN4 (show k ≤ 401 by omega)
          have h2 : 4 * (N : Int) * (k : Int) = ((4 * (N * k) : Nat) : Int) := by push_cast; rw [Int.mul_assoc]
          omega
        have b1 : -4000000 ≤ s0 ∧ s0 ≤ 4000000 := by omega
        have b2 : -4000 ≤ pe := by omega
        have HQ := hide (And.intro q1 (And.intro q2 (And.intro hB (And.intro hs1 hsn))))
        clear q1 q2 hB ho1 hpm x0 hp hp0 hpe hpb hbd hs0 hs1 hsn hpe0 hpl hl1 hNk
        go_wp2_with (first
          | (go_at_call 14; refine (HQ.out.2.1 W4 J5.out).mono ?_; rintro e W5 ⟨rfl, hB⟩; have J6 := hide (J5.out.trans (hB.mono J5.out.size)); clear hB)
          | (go_at_call 36; refine (HQ.out.1 V (Below.refl _ V)).mono ?_; rintro e W4 ⟨rfl, hB⟩; have J5 := hide hB; clear hB))
        go_roundw
        case rel => exact ⟨k + 1, by omega, by go_num, by rw [← HQ.out.2.2.2.1, HQ.out.2.2.2.2], HQ.out.2.2.1.trans (J6.out.mono HQ.out.2.2.1.size)⟩
        case measure => (simp [intOf]; try omega)
      · obtain rfl : k = np := by omega
        have i1 : ¬ (k : Int) < (k : Int) := by omega
        have hPk : P.take k = P := by rw [K.out.2.2.2.2.2.1, List.take_length]
        rw [hPk, HL.out.2]
        have t1 : (U == U) = true := by simp
        have HE := hide (J4.out.2.trans (hB.mono J4.out.2.size))
        clear hB hPk
        go_wp2_with (go_at_call 36; refine (K.out.2.1 V HE.out).mono ?_; rintro e W9 ⟨rfl, hB9⟩; have H9 := hide (HZ.out.trans ((HE.out.trans (hB9.mono HE.out.size)).mono HZ.out.size)); clear hB9)
        go_ret
        exact ⟨rfl, H9.out⟩
  · have e1 : (E != 0) = true := by simp [hE0]
    have HE0 := hide hE0
    clear hE0
    go_wp2
    go_ret
    exact ⟨rfl, HZ.out.trans (J3.out.mono HZ.out.size)⟩
end Go.Proofs.YtelfnmohpjkilaaGreatDoor
