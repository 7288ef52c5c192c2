/- Joined texts: MapK. -/
import Derived.Maps.Own
import Derived.Maps.Views
import Derived.Maps.OwnSet
import Derived.Maps.RangeWalk
import Derived.RangeFuncBox
import Derived.WalkKit
import Derived.Test.YtelfnmohpjkilaaGreatDoorCB4
/- Maps of the call's own: what they hold as a function on keys of a Lean type; stores, look-ups, deletes, len, range. No dump is named. -/
namespace Go.Proofs.YtelfnmohpjkilaaGreatDoor
open Go.RowKit Go.WideMaps Go.Maps
/-- The keys of type kt are read as values of κ. -/
structure KeyFit (P : Program) {κ : Type} (kt : TypeId) (enc : κ → Value) (ok : κ → Prop) : Prop where
  keyed : Keyed P kt
  lit : ∀ p, ok p → ∃ l, keyOf P kt (enc p) = some l
  inj : ∀ p q, enc p = enc q → p = q
def Rh (v : Value) : Option (DataW Value × List MemPlace) := some (.held v, [])
/-- The map's reading says m. -/
def Says (P : Program) {κ : Type} (kt : TypeId) (enc : κ → Value) (ok : κ → Prop) (D : DataW Value) (m : κ → Option Value) : Prop :=
  (∀ p l, keyOf P kt (enc p) = some l → Maps.has D l = (m p).isSome ∧ ∀ v, m p = some v → ∀ z, D.atKey l z = .held v) ∧ ∀ l, Maps.has D l = true → ∃ p, ok p ∧ keyOf P kt (enc p) = some l
/-- Block b is a map of at most n entries that says m. -/
def MapK (P : Program) {κ : Type} (kt : TypeId) (enc : κ → Value) (ok : κ → Prop) (w : World) (b n : Nat) (m : κ → Option Value) : Prop :=
  ∃ D : DataW Value, w.ownsMap P kt Rh b n D ∧ Says P kt enc ok D m
section
variable {P : Program} {κ : Type} [DecidableEq κ] {kt : TypeId} {enc : κ → Value} {ok : κ → Prop} {w w' : World} {b n : Nat} {m : κ → Option Value}
omit [DecidableEq κ] in
theorem MapK.made (P : Program) (kt : TypeId) (enc : κ → Value) (ok : κ → Prop) (w : World) : MapK P kt enc ok (w.alloc (.map #[] 0)) w.heap.size 0 (fun _ => none) :=
  ⟨.map [], World.ownsMap_made w _ _ _, fun _ _ _ => ⟨rfl, fun _ h => by cases h⟩, fun l h => by cases h⟩
omit [DecidableEq κ] in
theorem MapK.kept {row : Option Nat} (h : MapK P kt enc ok w b n m) (hg : w.grownBy w' row) (hne : some b ≠ row) : MapK P kt enc ok w' b n m := by
  obtain ⟨D, h1, h2⟩ := h
  exact ⟨D, h1.kept hg hne, h2⟩
omit [DecidableEq κ] in
theorem MapK.lt (h : MapK P kt enc ok w b n m) : b < w.heap.size := by
  obtain ⟨D, h1, _⟩ := h
  exact h1.lt
omit [DecidableEq κ] in
theorem MapK.below {B : Nat} (h : MapK P kt enc ok w b n m) (hb : Below B w w') (hB : b < B) : MapK P kt enc ok w' b n m := by
  obtain ⟨D, ⟨es, clock, h1, h2⟩, h3⟩ := h
  exact ⟨D, ⟨es, clock, (hb.block b hB).trans h1, h2⟩, h3⟩
omit [DecidableEq κ] in
theorem MapK.obj (h : MapK P kt enc ok w b n m) : ∃ o, w.heap[b]? = some o ∧ o.isCells = false := by
  obtain ⟨D, ⟨es, clock, hb, _⟩, _⟩ := h
  exact ⟨_, hb, rfl⟩
omit [DecidableEq κ] in
theorem MapK.mono (h : MapK P kt enc ok w b n m) {n' : Nat} (hn : n ≤ n') : MapK P kt enc ok w b n' m := by
  obtain ⟨D, h1, h2⟩ := h
  exact ⟨D, h1.mono hn, h2⟩
omit [DecidableEq κ] in
theorem MapK.same {m' : κ → Option Value} (h : MapK P kt enc ok w b n m) (hm : ∀ p, m p = m' p) : MapK P kt enc ok w b n m' := by
  have : m = m' := funext hm
  exact this ▸ h
omit [DecidableEq κ] in
/-- What is there has a key that fits. -/
theorem MapK.ok_of (K : KeyFit P kt enc ok) (h : MapK P kt enc ok w b n m) {p : κ} (hp : ∃ l, keyOf P kt (enc p) = some l) (hm : m p ≠ none) : ok p := by
  obtain ⟨D, _, h2, h3⟩ := h
  obtain ⟨l, hl⟩ := hp
  have : Maps.has D l = true := by
    rw [(h2 p l hl).1]
    cases hv : m p with
    | none => exact absurd hv hm
    | some v => rfl
  obtain ⟨q, hq, hql⟩ := h3 l this
  have := K.inj _ _ (K.keyed.inj hl hql)
  exact this ▸ hq
omit [DecidableEq κ] in
theorem MapK.lookup {t e : TypeId} {z : Value} (K : KeyFit P kt enc ok) (h : MapK P kt enc ok w b n m) (ht : P.underlying t = some (.map kt e)) (hz : (zeroValue e).run P w = .ok z w) (p : κ) (hp : ok p) :
    (Instr.lookup t (.map (some b)) (enc p) false).run P w = .ok ((m p).getD z) w := by
  obtain ⟨D, h1, h2, _⟩ := h
  obtain ⟨l, hl⟩ := K.lit p hp
  obtain ⟨v, ps, hrun, hv⟩ := h1.lookup K.keyed ht hz (zd := .held z) rfl hl
  rw [hrun]
  cases hm : m p with
  | none =>
    have hh : Maps.has D l = false := by rw [(h2 p l hl).1, hm]; rfl
    rw [Maps.atKey_of_not_has hh] at hv
    simp only [Rh, Option.some.injEq, Prod.mk.injEq, DataW.held.injEq] at hv
    rw [hv.1]; rfl
  | some u =>
    rw [(h2 p l hl).2 u hm] at hv
    simp only [Rh, Option.some.injEq, Prod.mk.injEq, DataW.held.injEq] at hv
    rw [hv.1]; rfl
omit [DecidableEq κ] in
theorem MapK.lookup_ok {t e : TypeId} {z : Value} (K : KeyFit P kt enc ok) (h : MapK P kt enc ok w b n m) (ht : P.underlying t = some (.map kt e)) (hz : (zeroValue e).run P w = .ok z w) (p : κ) (hp : ok p) :
    (Instr.lookup t (.map (some b)) (enc p) true).run P w = .ok (.tuple #[(m p).getD z, .bool (m p).isSome]) w := by
  obtain ⟨D, h1, h2, _⟩ := h
  obtain ⟨l, hl⟩ := K.lit p hp
  obtain ⟨v, ps, hrun, hv⟩ := h1.look_ok K.keyed ht hz (zd := .held z) rfl hl
  rw [hrun, (h2 p l hl).1]
  cases hm : m p with
  | none =>
    have hh : Maps.has D l = false := by rw [(h2 p l hl).1, hm]; rfl
    rw [Maps.atKey_of_not_has hh] at hv
    simp only [Rh, Option.some.injEq, Prod.mk.injEq, DataW.held.injEq] at hv
    rw [hv.1]; rfl
  | some u =>
    rw [(h2 p l hl).2 u hm] at hv
    simp only [Rh, Option.some.injEq, Prod.mk.injEq, DataW.held.injEq] at hv
    rw [hv.1]; rfl
theorem Says.put (K : KeyFit P kt enc ok) {D : DataW Value} (hD : Maps.IsMap D) (h : Says P kt enc ok D m) {p : κ} {l : Lit} (hp : ok p) (hl : keyOf P kt (enc p) = some l) (v : Value) :
    Says P kt enc ok (D.put l (.held v)) (fun q => if q = p then some v else m q) := by
  refine ⟨fun q k hk => ?_, fun k hk => ?_⟩
  · by_cases hq : q = p
    · subst hq
      rw [hl] at hk
      cases hk
      show Maps.has (D.put l (.held v)) l = (if q = q then some v else m q).isSome ∧ ∀ u, (if q = q then some v else m q) = some u → _
      rw [if_pos rfl]
      exact ⟨Maps.has_put_same hD (K.keyed.key hl) _, fun u hu z => by cases hu; exact Maps.atKey_put_same hD (K.keyed.key hl) _ _⟩
    · have hne : k ≠ l := fun e => hq (K.inj _ _ (K.keyed.inj (e ▸ hk) hl))
      show Maps.has (D.put l (.held v)) k = (if q = p then some v else m q).isSome ∧ ∀ u, (if q = p then some v else m q) = some u → _
      rw [if_neg hq, Maps.has_put_other hne]
      exact ⟨(h.1 q k hk).1, fun u hu z => by rw [Maps.atKey_put_other hne]; exact (h.1 q k hk).2 u hu z⟩
  · by_cases hkl : k = l
    · exact ⟨p, hp, hkl ▸ hl⟩
    · rw [Maps.has_put_other hkl] at hk
      exact h.2 k hk
theorem Says.del (K : KeyFit P kt enc ok) {D : DataW Value} (h : Says P kt enc ok D m) {p : κ} {l : Lit} (hl : keyOf P kt (enc p) = some l) :
    Says P kt enc ok (D.del l) (fun q => if q = p then none else m q) := by
  refine ⟨fun q k hk => ?_, fun k hk => ?_⟩
  · by_cases hq : q = p
    · subst hq
      rw [hl] at hk
      cases hk
      show Maps.has (D.del l) l = (if q = q then none else m q).isSome ∧ ∀ u, (if q = q then none else m q) = some u → _
      rw [if_pos rfl]
      exact ⟨Maps.has_del_same, fun u hu => by cases hu⟩
    · have hne : k ≠ l := fun e => hq (K.inj _ _ (K.keyed.inj (e ▸ hk) hl))
      show Maps.has (D.del l) k = (if q = p then none else m q).isSome ∧ ∀ u, (if q = p then none else m q) = some u → _
      rw [if_neg hq, Maps.has_del_other hne]
      exact ⟨(h.1 q k hk).1, fun u hu z => by rw [Maps.atKey_del_other hne]; exact (h.1 q k hk).2 u hu z⟩
  · by_cases hkl : k = l
    · subst hkl
      rw [Maps.has_del_same] at hk
      cases hk
    · rw [Maps.has_del_other hkl] at hk
      exact h.2 k hk
theorem MapK.update {t e : TypeId} (K : KeyFit P kt enc ok) (h : MapK P kt enc ok w b n m) (ht : P.underlying t = some (.map kt e)) (hn : n < maxLen) (p : κ) (hp : ok p) (v : Value) :
    ∃ w', (Instr.mapUpdate t (.map (some b)) (enc p) v).run P w = .ok () w' ∧ MapK P kt enc ok w' b (n + 1) (fun q => if q = p then some v else m q) ∧ w.grownBy w' (some b) ∧ w'.heap.size = w.heap.size := by
  obtain ⟨D, h1, h2⟩ := h
  obtain ⟨l, hl⟩ := K.lit p hp
  obtain ⟨w', hrun, ho, hg⟩ := h1.store K.keyed ht hn hl (val := v) (d := .held v) (ps := []) rfl
  refine ⟨w', hrun, ⟨_, ho, h2.put K h1.isMap hp hl v⟩, hg.grown, ?_⟩
  obtain ⟨es, c, es', c', _, rfl⟩ := hg
  simp [Go.ChangeMaps.setBlock]
theorem MapK.delete {t e : TypeId} (K : KeyFit P kt enc ok) (h : MapK P kt enc ok w b n m) (ht : P.underlying t = some (.map kt e)) (p : κ) (hp : ok p) (ty : TypeId) :
    ∃ w', (Builtin.delete_ #[t, kt] ty #[.map (some b), enc p]).run P w = .ok (.tuple #[]) w' ∧ MapK P kt enc ok w' b n (fun q => if q = p then none else m q) ∧ w.grownBy w' (some b) ∧ w'.heap.size = w.heap.size := by
  obtain ⟨D, h1, h2⟩ := h
  obtain ⟨l, hl⟩ := K.lit p hp
  obtain ⟨w', hrun, ho, hg⟩ := h1.drop K.keyed ht hl ty
  refine ⟨w', hrun, ⟨_, ho, h2.del K hl⟩, hg.grown, ?_⟩
  obtain ⟨es, c, es', c', _, rfl⟩ := hg
  simp [Go.ChangeMaps.setBlock]
omit [DecidableEq κ] in
/-- How many entries: one for each key of a list that names each once. -/
theorem Says.size (K : KeyFit P kt enc ok) {D : DataW Value} (hT : ∃ es, D = .map es ∧ es.Pairwise (fun p q => p.1 ≠ q.1) ∧ ∀ p ∈ es, WideAt.IsKeyLit p.1) (h : Says P kt enc ok D m) (ks : List κ) (hnd : ks.Nodup) (hok : ∀ p ∈ ks, ok p) (hks : ∀ p, ok p → (p ∈ ks ↔ m p ≠ none)) : Maps.size D = ks.length := by
  obtain ⟨es, rfl, hp, hkl⟩ := hT
  obtain ⟨lt, hlt⟩ : ∃ lt : κ → Lit, ∀ p, ok p → keyOf P kt (enc p) = some (lt p) := by
    refine ⟨fun p => (keyOf P kt (enc p)).getD (.bool true), fun p hp => ?_⟩
    obtain ⟨l, hl⟩ := K.lit p hp
    show _ = some ((keyOf P kt (enc p)).getD (.bool true))
    rw [hl]; rfl
  have h1 : (es.map (·.1)).Nodup := List.pairwise_map.2 hp
  have h2 : (ks.map lt).Nodup := by
    refine List.pairwise_map.2 (List.Pairwise.imp_of_mem (fun {a b} ha hb hne => ?_) hnd)
    intro e
    exact hne (K.inj _ _ (K.keyed.inj (hlt a (hok a ha)) (e ▸ hlt b (hok b hb))))
  have hmem : ∀ l, l ∈ es.map (·.1) ↔ l ∈ ks.map lt := fun l => by
    constructor
    · intro hl
      obtain ⟨x, hx, rfl⟩ := List.mem_map.1 hl
      have hk : Maps.has (.map es) x.1 = true := List.any_eq_true.2 ⟨x, hx, WideAt.sameKey_self (hkl x hx)⟩
      obtain ⟨p, hp, hpl⟩ := h.2 _ hk
      have hm := (h.1 p x.1 hpl).1
      rw [hk] at hm
      refine List.mem_map.2 ⟨p, (hks p hp).2 (fun e => by rw [e] at hm; cases hm), ?_⟩
      exact Option.some.inj ((hlt p hp).symm.trans hpl)
    · intro hl
      obtain ⟨p, hp, rfl⟩ := List.mem_map.1 hl
      have hm := (h.1 p _ (hlt p (hok p hp))).1
      have : m p ≠ none := (hks p (hok p hp)).1 hp
      have hh : Maps.has (.map es) (lt p) = true := by
        rw [hm]
        cases hv : m p with
        | none => exact absurd hv this
        | some v => rfl
      obtain ⟨x, hx, hxk⟩ := List.any_eq_true.1 hh
      exact List.mem_map.2 ⟨x, hx, WideAt.sameKey_eq hxk⟩
  have := ((List.perm_ext_iff_of_nodup h1 h2).2 hmem).length_eq
  simpa [Maps.size] using this
omit [DecidableEq κ] in
theorem MapK.len {t e : TypeId} (K : KeyFit P kt enc ok) (h : MapK P kt enc ok w b n m) (ht : P.underlying t = some (.map kt e)) (ks : List κ) (hnd : ks.Nodup) (hok : ∀ p ∈ ks, ok p) (hks : ∀ p, ok p → (p ∈ ks ↔ m p ≠ none)) (ty : TypeId) :
    (Builtin.len_ #[t] ty #[.map (some b)]).run P w = .ok (.int .i64 ks.length) w := by
  obtain ⟨D, h1, h2⟩ := h
  rw [h1.len ht ty, h2.size K (h1.entries K.keyed) ks hnd hok hks]
/-- How many entries, read off the world. -/
def mapSize (w : World) (b : Nat) : Nat := match w.heap[b]? with
  | some (.map es _) => es.size
  | _ => 0
omit [DecidableEq κ] in
theorem MapK.size_eq (K : KeyFit P kt enc ok) (h : MapK P kt enc ok w b n m) (ks : List κ) (hnd : ks.Nodup) (hok : ∀ p ∈ ks, ok p) (hks : ∀ p, ok p → (p ∈ ks ↔ m p ≠ none)) : mapSize w b = ks.length := by
  obtain ⟨D, h1, h2⟩ := h
  rw [← h2.size K (h1.entries K.keyed) ks hnd hok hks]
  obtain ⟨es, clock, hb, _, _, rfl⟩ := h1
  unfold mapSize
  rw [hb]
  simp [Maps.size, length_sorted]
/-- 'for p := range m' under way: which keys are still to come. -/
def RngK (P : Program) {κ : Type} (kt : TypeId) (enc : κ → Value) (ok : κ → Prop) (w : World) (b r n : Nat) (m : κ → Option Value) (left : κ → Bool) (cnt : Nat) : Prop :=
  ∃ (D : DataW Value) (lf : Lit → Bool), w.ranges P kt Rh b r n D lf cnt ∧ Says P kt enc ok D m ∧ (∀ p l, keyOf P kt (enc p) = some l → lf l = left p) ∧ ∀ l, lf l = true → Maps.has D l = true
omit [DecidableEq κ] in
theorem RngK.map {r cnt : Nat} {left : κ → Bool} (h : RngK P kt enc ok w b r n m left cnt) : MapK P kt enc ok w b n m := by
  obtain ⟨D, lf, h1, h2, _⟩ := h
  exact ⟨D, h1.owns, h2⟩
omit [DecidableEq κ] in
theorem RngK.kept {r cnt : Nat} {left : κ → Bool} {row : Option Nat} (h : RngK P kt enc ok w b r n m left cnt) (hg : w.grownBy w' row) (hb : some b ≠ row) (hr : some r ≠ row) : RngK P kt enc ok w' b r n m left cnt := by
  obtain ⟨D, lf, h1, h2⟩ := h
  exact ⟨D, lf, h1.kept hg hb hr, h2⟩
omit [DecidableEq κ] in
theorem RngK.lt {r cnt : Nat} {left : κ → Bool} (h : RngK P kt enc ok w b r n m left cnt) : r < w.heap.size := by
  obtain ⟨D, lf, h1, _⟩ := h
  exact h1.lt
omit [DecidableEq κ] in
theorem RngK.left_eq {r cnt : Nat} {left : κ → Bool} (h : RngK P kt enc ok w b r n m left cnt) : w.rangeLeft b r = cnt := by
  obtain ⟨D, lf, h1, _⟩ := h
  exact h1.left_eq
omit [DecidableEq κ] in
theorem MapK.range {t e : TypeId} (K : KeyFit P kt enc ok) (h : MapK P kt enc ok w b n m) (ht : P.underlying t = some (.map kt e)) :
    ∃ w' cnt, (Instr.range t (.map (some b))).run P w = .ok (.pointer (some ⟨w.heap.size, 0, none⟩)) w' ∧ RngK P kt enc ok w' b w.heap.size n m (fun p => (m p).isSome) cnt ∧ w.grownBy w' none ∧ w'.heap.size = w.heap.size + 1 := by
  obtain ⟨D, h1, h2⟩ := h
  obtain ⟨w', hrun, hr, hg, hz⟩ := h1.range K.keyed ht
  exact ⟨w', _, hrun, ⟨D, _, hr, h2, fun p l hl => (h2.1 p l hl).1, fun l hl => hl⟩, hg, hz⟩
theorem RngK.next {r cnt : Nat} {left : κ → Bool} (K : KeyFit P kt enc ok) (h : RngK P kt enc ok w b r n m left cnt) (ty : TypeId) :
    (cnt = 0 ∧ (∀ p, ok p → left p = false) ∧ (Instr.next (.pointer (some ⟨r, 0, none⟩)) false ty).run P w = .ok (.tuple #[.bool false]) w) ∨
    ∃ p v w' cnt', ok p ∧ left p = true ∧ m p = some v ∧ (Instr.next (.pointer (some ⟨r, 0, none⟩)) false ty).run P w = .ok (.tuple #[.bool true, enc p, v]) w' ∧
      RngK P kt enc ok w' b r n m (fun q => left q && !decide (q = p)) cnt' ∧ cnt' < cnt ∧ w.grownBy w' (some r) ∧ w'.heap.size = w.heap.size ∧ (Instr.entry (.pointer (some ⟨r, 0, none⟩))).run P w' = .ok (.tuple #[enc p, v]) w' := by
  obtain ⟨D, lf, h1, h2, h3, h4⟩ := h
  rcases h1.next K.keyed ty with ⟨h0, hall, hrun⟩ | ⟨key, v, kl, y, w', cnt', hkey, hleft, hv, hat, hrun, hr', hlt, hg, hz, hent⟩
  · refine .inl ⟨h0, fun p hp => ?_, hrun⟩
    obtain ⟨l, hl⟩ := K.lit p hp
    rw [← h3 p l hl]
    exact hall l
  · obtain ⟨p, hp, hpl⟩ := h2.2 kl (h4 kl hleft)
    have hkp : key = enc p := K.keyed.inj hkey hpl
    subst hkp
    have hhas := (h2.1 p kl hpl).1
    rw [h4 kl hleft] at hhas
    obtain ⟨u, hu⟩ : ∃ u, m p = some u := by
      cases hm : m p with
      | none => rw [hm] at hhas; cases hhas
      | some u => exact ⟨u, rfl⟩
    have h5 := (h2.1 p kl hpl).2 u hu (.bool false |> DataW.lit)
    rw [hat] at h5
    simp only [Rh, Option.some.injEq] at hv
    subst hv
    simp only [DataW.held.injEq] at h5
    subst h5
    refine .inr ⟨p, v, w', cnt', hp, by rw [← h3 p kl hpl]; exact hleft, hu, hrun, ⟨D, _, hr', h2, fun q l hl => ?_, fun l hl => h4 l ?_⟩, hlt, hg, hz, hent⟩
    · show (lf l && !l.sameKey kl) = (left q && !decide (q = p))
      rw [h3 q l hl]
      by_cases hq : q = p
      · subst hq
        rw [hl] at hpl
        cases hpl
        rw [WideAt.sameKey_self (K.keyed.key hl)]
        simp
      · have hne : l ≠ kl := fun e => hq (K.inj _ _ (K.keyed.inj (e ▸ hl) hpl))
        rw [Maps.sameKey_ne hne]
        simp [hq]
    · simp only [Bool.and_eq_true] at hl
      exact hl.1
/-- 'delete(m, p)' in the round. -/
theorem RngK.delete {t e : TypeId} {r cnt : Nat} {left : κ → Bool} (K : KeyFit P kt enc ok) (h : RngK P kt enc ok w b r n m left cnt) (ht : P.underlying t = some (.map kt e)) (p : κ) (hp : ok p) (ty : TypeId) :
    ∃ w' cnt', (Builtin.delete_ #[t, kt] ty #[.map (some b), enc p]).run P w = .ok (.tuple #[]) w' ∧ RngK P kt enc ok w' b r n (fun q => if q = p then none else m q) (fun q => left q && !decide (q = p)) cnt' ∧ cnt' ≤ cnt ∧ w.grownBy w' (some b) ∧ w'.heap.size = w.heap.size := by
  obtain ⟨D, lf, h1, h2, h3, h4⟩ := h
  obtain ⟨kl, hpl⟩ := K.lit p hp
  obtain ⟨w', cnt', hrun, hr', hle, hg⟩ := h1.drop K.keyed ht hpl ty
  refine ⟨w', cnt', hrun, ⟨_, _, hr', h2.del K hpl, fun q l hl => ?_, fun l hl => ?_⟩, hle, hg.grown, ?_⟩
  · show (lf l && !l.sameKey kl) = (left q && !decide (q = p))
    rw [h3 q l hl]
    by_cases hq : q = p
    · subst hq
      rw [hl] at hpl
      cases hpl
      rw [WideAt.sameKey_self (K.keyed.key hl)]
      simp
    · have hne : l ≠ kl := fun e => hq (K.inj _ _ (K.keyed.inj (e ▸ hl) hpl))
      rw [Maps.sameKey_ne hne]
      simp [hq]
  · simp only [Bool.and_eq_true, Bool.not_eq_true'] at hl
    have hne : l ≠ kl := fun e => by
      subst e
      rw [WideAt.sameKey_self (K.keyed.key hpl)] at hl
      cases hl.2
    rw [Maps.has_del_other hne]
    exact h4 l hl.1
  · obtain ⟨es, c, es', c', _, rfl⟩ := hg
    simp [Go.ChangeMaps.setBlock]
end
section
variable {P : Program} {κ : Type} [DecidableEq κ] {kt : TypeId} {enc : κ → Value} {ok : κ → Prop} {w : World} {b n : Nat} {m : κ → Option Value} {ops : Array Oper} {rest : List Oper} {o : Oper} {a : Act} {Q : Exit → Act → World → Prop}
theorem wpList_updateK (hg : o.guard = none) (mo x v : Operand) (t : TypeId) (hop : o.op = Op.mapUpdate t mo x v) {e : TypeId} (K : KeyFit P kt enc ok) (ht : P.underlying t = some (.map kt e)) (hm : a.eval mo = .map (some b)) (p : κ) (val : Value)
    (hx : a.eval x = enc p) (hv : a.eval v = val) (hp : ok p) (hown : MapK P kt enc ok w b n m) (hn : n < maxLen)
    (hK : ∀ w', MapK P kt enc ok w' b (n + 1) (fun q => if q = p then some val else m q) → w.grownBy w' (some b) → w'.heap.size = w.heap.size → wpList P ops Q rest (a.put o.dst undef) w') : wpList P ops Q (o :: rest) a w := by
  refine wpList_plain hg fun K' hK' => ?_
  obtain ⟨w', hrun, r1, r2, r3⟩ := hown.update K ht hn p hp val
  unfold Oper.wp
  simp [execOp, hop, hm, hx, hv, hrun, Result.andThen]
  exact hK' _ _ (hK w' r1 r2 r3)
theorem wpList_deleteK (hg : o.guard = none) (mo x : Operand) (t : TypeId) (hop : o.op = Op.call { callee := Callee.builtin Builtin.delete, args := #[mo, x], argTypes := #[t, kt] }) {e : TypeId} (K : KeyFit P kt enc ok) (ht : P.underlying t = some (.map kt e))
    (hm : a.eval mo = .map (some b)) (p : κ) (hx : a.eval x = enc p) (hp : ok p) (hown : MapK P kt enc ok w b n m)
    (hK : ∀ w', MapK P kt enc ok w' b n (fun q => if q = p then none else m q) → w.grownBy w' (some b) → w'.heap.size = w.heap.size → wpList P ops Q rest (a.put o.dst (.tuple #[])) w') : wpList P ops Q (o :: rest) a w := by
  refine wpList_plain hg fun K' hK' => ?_
  obtain ⟨w', hrun, r1, r2, r3⟩ := hown.delete K ht p hp o.type
  unfold Oper.wp
  simp [execOp, hop, resolve, invoke, builtin, hm, hx, hrun, Result.andThen]
  exact hK' _ _ (hK w' r1 r2 r3)
omit [DecidableEq κ] in
theorem wpList_lookupK (hg : o.guard = none) (mo x : Operand) (t : TypeId) (hop : o.op = Op.lookup t mo x true) {e : TypeId} {z : Value} (K : KeyFit P kt enc ok) (ht : P.underlying t = some (.map kt e)) (hz : (zeroValue e).run P w = .ok z w)
    (hm : a.eval mo = .map (some b)) (p : κ) (hx : a.eval x = enc p) (hp : ok p) (hown : MapK P kt enc ok w b n m)
    (hK : wpList P ops Q rest (a.put o.dst (.tuple #[(m p).getD z, .bool (m p).isSome])) w) : wpList P ops Q (o :: rest) a w := by
  refine wpList_plain hg fun K' hK' => ?_
  unfold Oper.wp
  simp [execOp, hop, hm, hx, hown.lookup_ok K ht hz p hp, Result.andThen]
  exact hK' _ _ hK
omit [DecidableEq κ] in
theorem wpList_lenK (hg : o.guard = none) (mo : Operand) (t : TypeId) (hop : o.op = Op.call { callee := Callee.builtin Builtin.len, args := #[mo], argTypes := #[t] }) {e : TypeId} (K : KeyFit P kt enc ok) (ht : P.underlying t = some (.map kt e))
    (hm : a.eval mo = .map (some b)) (ks : List κ) (hnd : ks.Nodup) (hok : ∀ p ∈ ks, ok p) (hks : ∀ p, ok p → (p ∈ ks ↔ m p ≠ none)) (hown : MapK P kt enc ok w b n m)
    (hK : wpList P ops Q rest (a.put o.dst (.int .i64 ks.length)) w) : wpList P ops Q (o :: rest) a w := by
  refine wpList_plain hg fun K' hK' => ?_
  unfold Oper.wp
  simp [execOp, hop, resolve, invoke, builtin, hm, hown.len K ht ks hnd hok hks o.type, Result.andThen]
  exact hK' _ _ hK
end
end Go.Proofs.YtelfnmohpjkilaaGreatDoor
