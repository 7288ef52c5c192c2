/- Prt4 Par3. -/
import Derived.WalkKit
import Derived.WalkSpells
import Derived.WalkLawsBesides
import Derived.Laws.OwnMore
import Derived.Deep.AppendLies
import Derived.Deep.Draws
import Derived.Maps.AppendAt
import Derived.OwnWalk
import Derived.Sort.Grow
import Derived.Shelf.GgSortFunc.RowK
import Derived.RangeFuncNested
import Derived.RangeFuncBox
import Derived.Test.YtelfnmohpjkilaaGreatDoorRows
import Derived.Handy
import Derived.Maps.Own
import Derived.Maps.Views
import Derived.DeepKeys4
import Derived.DeepKeys
import Derived.Laws.StructEq
import Derived.Deep.QuietTactic
import Derived.BigQuiet
import Derived.LoopN
import Derived.Laws.EntriesVeiled
import Derived.Shelf.SlSortCmp.QuietGrown
import Derived.Deep.RegionHeld3
import Derived.Deep.DrawnRows
import Derived.Sort.Statements
import Derived.Shelf.SlSortCmp.NoneTotal
import Derived.OrdersHeld
import Derived.OrdersIn
import Derived.RangeFuncCalls
import Derived.OwnWalkIn
import Derived.Deep.CutBlock
import Derived.Deep.DeepCutAuto
import Derived.Maps.OwnSet
import Derived.Maps.RangeWalk
import Derived.WideKeyEntry
import Derived.IntWalk
import Derived.Deep.MidRow
import Derived.StillTailTactics
import Derived.Shelf.RegionOpen
import Derived.Deep.WholeRow
import Derived.Test.YtelfnmohpjkilaaGreatDoorQ25
import Derived.Test.YtelfnmohpjkilaaGreatDoorQ30
namespace Go.Proofs.YtelfnmohpjkilaaGreatDoor
open Go.RowKit Go.Sort Go.WideMaps Go.Maps
/-- The rows of the fill. -/
def fillR (n k : Nat) : List Nat := List.range k ++ List.replicate (n - k) 0
theorem fillR_set {n k : Nat} (h : k < n) : (fillR n k).set k k = fillR n (k + 1) := by
  unfold fillR
  rw [List.set_append_right _ _ (by simp), List.length_range, Nat.sub_self, List.range_succ, List.append_assoc]
  congr 1
  obtain ⟨m, hm⟩ : ∃ m, n - k = m + 1 := ⟨n - k - 1, by omega⟩
  rw [hm, show n - (k + 1) = m by omega, List.replicate_succ]; rfl
theorem fillR_end (n : Nat) : fillR n n = List.range n := by unfold fillR; simp
theorem infoT4s : (Tryz.prog.info? 28).map (fun i => (i.zero, i.size, i.bytes)) = some (some (.slice none 0 0), 1, 24) := by kernel_rfl
end Go.Proofs.YtelfnmohpjkilaaGreatDoor
namespace Go.Proofs.YtelfnmohpjkilaaGreatDoor
open Go.RowKit Go.Sort Go.WideMaps Go.Maps
set_option maxRecDepth 100000
/-- The map from an index to a number. -/
theorem keyedI4 : Keyed Tryz.prog 3 := int_keyed Tryz.underlying3
theorem kfI4 : KeyFit Tryz.prog 3 (fun k : Nat => Value.int .i64 (k : Int)) (fun k => k ≤ 9223372036854775807) := by
  refine ⟨keyedI4, fun p hp => ?_, fun p q h => ?_⟩
  · have w0 : (Lit.int .i64 (p : Int)).wf = true := fits_wf4 ⟨by omega, by omega⟩
    refine ⟨.int .i64 (p : Int), ?_⟩
    unfold keyOf
    simp [Tryz.underlying3, mapKey, w0]
  · simp only [Value.int.injEq, true_and] at h
    omega
/-- The state of mesh.Parts behind the parents: their row and box, find's box, the map of the edges. -/
structure PrtS (W1 w : World) (gp pb fb mb n cnt : Nat) (xs : List Nat) (G : Ed → List Nat) : Prop where
  bel : Below W1.heap.size W1 w
  par : ParS w pb gp n xs
  fun_ : Blk w fb 93 #[.func (.func 69) #[] #[.pointer (some ⟨pb, 0, none⟩)]]
  wth : WthM w mb cnt (mb + 1) G
  o1 : W1.heap.size ≤ gp
  o2 : gp < pb
  o3 : pb < fb
  o4 : fb < mb
section
variable {W1 w w' : World} {gp pb fb mb n cnt : Nat} {xs ys : List Nat} {G : Ed → List Nat}
theorem PrtS.on (h : PrtS W1 w gp pb fb mb n cnt xs G) (hb : Below w.heap.size w w') : PrtS W1 w' gp pb fb mb n cnt xs G :=
  ⟨h.bel.trans (hb.mono h.bel.size), h.par.on hb, h.fun_.below hb h.fun_.lt, h.wth.below hb (Nat.le_refl _), h.o1, h.o2, h.o3, h.o4⟩
theorem PrtS.same (h : PrtS W1 w gp pb fb mb n cnt xs G) {G' : Ed → List Nat} (hG : ∀ e, G e = G' e) : PrtS W1 w gp pb fb mb n cnt xs G' := ⟨h.bel, h.par, h.fun_, h.wth.same hG, h.o1, h.o2, h.o3, h.o4⟩
/-- The parents' row is turned. -/
theorem PrtS.turn (h : PrtS W1 w gp pb fb mb n cnt xs G) (hp : ParS w' pb gp n ys) (hg : w.grownBy w' (some gp)) : PrtS W1 w' gp pb fb mb n cnt ys G where
  bel := h.bel.grown hg h.bel.size (fun r hr => by injection hr with hr; have := h.o1; omega)
  par := hp
  fun_ := h.fun_.grown hg (fun e => by injection e with e; have := h.o2; have := h.o3; omega)
  wth := by
    obtain ⟨mo, m, h1, h2, h3⟩ := h.wth
    exact ⟨mo, m, h1.kept hg (fun e => by injection e with e; have := h.o2; have := h.o3; have := h.o4; omega), h2, h3.step hg (fun r hr => .inl (by injection hr with hr; have := h.o2; have := h.o3; have := h.o4; omega))⟩
  o1 := h.o1
  o2 := h.o2
  o3 := h.o3
  o4 := h.o4
theorem PrtS.lt (h : PrtS W1 w gp pb fb mb n cnt xs G) : mb < w.heap.size := h.wth.lt
end
theorem numR_range (n k : Nat) : numR (List.range n) k = k := by
  unfold numR
  rcases Nat.lt_or_ge k n with h | h
  · rw [List.getElem?_range h]; rfl
  · rw [List.getElem?_eq_none (by rw [List.length_range]; exact h)]; rfl
theorem root_range (n : Nat) : rootP (numR (List.range n)) = fun k => k := funext fun k => root_self (numR_range n k)
theorem edK_get (t : Tri) {j : Nat} (hj : j < 3) : (edges3 t)[j]? = some (edK t j) := by
  rcases (show j = 0 ∨ j = 1 ∨ j = 2 by omega) with rfl | rfl | rfl <;> rfl
/-- An entry of the map is taken, to be appended to. -/
theorem PrtS.entry {W1 w : World} {gp pb fb mb n cnt : Nat} {xs : List Nat} {G : Ed → List Nat} (h : PrtS W1 w gp pb fb mb n cnt xs G) (hn : cnt < maxLen) (p : Ed) (hp : fitsE p) :
    ∃ (st : Nat) (w1 : World) (v : Value), (Instr.mapEntry 95 (.map (some mb)) (vE p)).run Tryz.prog w = .ok (.tuple #[v, goInt st]) w1 ∧ w.grownBy w1 (some mb) ∧ w1.heap.size = w.heap.size ∧ Own encN4 1 3 w1 (mb + 1) v (G p).length (G p) ∧
      ∀ (w2 : World) (v' : Value) (g : Nat) (x : Nat), w1.grownBy w2 v.ownBlock → Own encN4 1 3 w2 (mb + 1) v' ((G p).length + 1) (G p ++ [x]) → v'.ownBlock = some g → (v.ownBlock = some g ∨ g = w1.heap.size) →
        ∃ w3, (Instr.entryStore 95 (.map (some mb)) (goInt st) v').run Tryz.prog w2 = .ok () w3 ∧ PrtS W1 w3 gp pb fb mb n (cnt + 1) xs (fun q => if q = p then G p ++ [x] else G q) ∧ w2.grownBy w3 (some mb) ∧ w3.heap.size = w2.heap.size := by
  obtain ⟨st, w1, v, hrun, hg1, hz1, hown, hst⟩ := h.wth.entry hn p hp (by omega)
  have q1 := h.o1
  have q2 := h.o2
  have q3 := h.o3
  have q4 := h.o4
  have hz := h.bel.size
  refine ⟨st, w1, v, hrun, hg1, hz1, hown, fun w2 v' g x hg2 hv' hb' hat => ?_⟩
  obtain ⟨w3, hrun3, hM3, hg3, hz3⟩ := hst w2 v' g x hg2 hv' hb' hat
  have hr2 : ∀ r, v.ownBlock = some r → mb + 1 ≤ r := fun r hr => (hown.blk r hr).1
  refine ⟨w3, hrun3, ⟨?_, ?_, ?_, hM3, q1, q2, q3, q4⟩, hg3, hz3⟩
  · have b1 := h.bel.grown hg1 hz (fun r hr => by injection hr with hr; omega)
    have b2 := b1.grown hg2 (by rw [hz1]; exact hz) (fun r hr => by have := hr2 r hr; omega)
    exact b2.grown hg3 (Nat.le_trans (by rw [hz1]; exact hz) hg2.size) (fun r hr => by injection hr with hr; omega)
  · have k : ∀ r, some r ≠ v.ownBlock ∨ mb + 1 ≤ r := fun r => by
      by_cases e : v.ownBlock = some r
      · exact .inr (hr2 r e)
      · exact .inl fun e' => e e'.symm
    have n1 : some gp ≠ v.ownBlock := by rcases k gp with h | h; exact h; omega
    have n2 : some pb ≠ v.ownBlock := by rcases k pb with h | h; exact h; omega
    exact ((h.par.kept hg1 (fun e => by injection e with e; omega) (fun e => by injection e with e; omega)).kept hg2 n1 n2).kept hg3 (fun e => by injection e with e; omega) (fun e => by injection e with e; omega)
  · have n3 : some fb ≠ v.ownBlock := fun e => by have := hr2 fb e.symm; omega
    exact ((h.fun_.grown hg1 (fun e => by injection e with e; omega)).grown hg2 n3).grown hg3 (fun e => by injection e with e; omega)
/-- The same while the map is ranged over (it stays; the parents are turned). -/
structure PrtR (W1 w : World) (gp pb fb mb rb n cnt : Nat) (xs : List Nat) (mo : Ed → Option Value) (m : Ed → Value) (G : Ed → List Nat) (left : Ed → Bool) (c : Nat) : Prop where
  bel : Below W1.heap.size W1 w
  par : ParS w pb gp n xs
  fun_ : Blk w fb 93 #[.func (.func 69) #[] #[.pointer (some ⟨pb, 0, none⟩)]]
  rng : RngK Tryz.prog 81 vE fitsE w mb rb cnt mo left c
  gps : GpsE encN4 1 3 w (mb + 1) m G
  o1 : W1.heap.size ≤ gp
  o2 : gp < pb
  o3 : pb < fb
  o4 : fb < mb
  o5 : mb < rb
  o6 : rb < w.heap.size
section
variable {W1 w w' : World} {gp pb fb mb rb n cnt : Nat} {xs ys : List Nat} {mo : Ed → Option Value} {m : Ed → Value} {G : Ed → List Nat} {left : Ed → Bool} {c : Nat}
theorem PrtR.on (h : PrtR W1 w gp pb fb mb rb n cnt xs mo m G left c) (hb : Below w.heap.size w w') : PrtR W1 w' gp pb fb mb rb n cnt xs mo m G left c :=
  ⟨h.bel.trans (hb.mono h.bel.size), h.par.on hb, h.fun_.below hb h.fun_.lt, h.rng.below hb (Nat.le_refl _), h.gps.below hb (Nat.le_refl _), h.o1, h.o2, h.o3, h.o4, h.o5, Nat.lt_of_lt_of_le h.o6 hb.size⟩
theorem PrtR.turn (h : PrtR W1 w gp pb fb mb rb n cnt xs mo m G left c) (hp : ParS w' pb gp n ys) (hg : w.grownBy w' (some gp)) : PrtR W1 w' gp pb fb mb rb n cnt ys mo m G left c where
  bel := h.bel.grown hg h.bel.size (fun r hr => by injection hr with hr; have := h.o1; omega)
  par := hp
  fun_ := h.fun_.grown hg (fun e => by injection e with e; have := h.o2; have := h.o3; omega)
  rng := h.rng.kept hg (fun e => by injection e with e; have := h.o2; have := h.o3; have := h.o4; omega) (fun e => by injection e with e; have := h.o2; have := h.o3; have := h.o4; have := h.o5; omega)
  gps := h.gps.step hg (fun r hr => .inl (by injection hr with hr; have := h.o2; have := h.o3; have := h.o4; omega))
  o1 := h.o1
  o2 := h.o2
  o3 := h.o3
  o4 := h.o4
  o5 := h.o5
  o6 := Nat.lt_of_lt_of_le h.o6 hg.size
end
theorem RngK.iter {P : Program} {κ : Type} {kt : TypeId} {enc : κ → Value} {ok : κ → Prop} {w : World} {b r n cnt : Nat} {m : κ → Option Value} {left : κ → Bool} (h : RngK P kt enc ok w b r n m left cnt) : ∃ o, w.heap[r]? = some o ∧ o.isCells = false := by
  obtain ⟨D, lf, ⟨es, clock, since, seen, c0, _, _, _, _, hr, _⟩, _⟩ := h
  exact ⟨_, hr, rfl⟩
/-- The range goes on. -/
theorem PrtR.step {W1 w w' : World} {gp pb fb mb rb n cnt : Nat} {xs : List Nat} {mo : Ed → Option Value} {m : Ed → Value} {G : Ed → List Nat} {left left' : Ed → Bool} {c c' : Nat} (h : PrtR W1 w gp pb fb mb rb n cnt xs mo m G left c) (hr : RngK Tryz.prog 81 vE fitsE w' mb rb cnt mo left' c') (hg : w.grownBy w' (some rb)) :
    PrtR W1 w' gp pb fb mb rb n cnt xs mo m G left' c' where
  bel := h.bel.grown hg h.bel.size (fun r hr => by injection hr with hr; have q1 := h.o1; have q2 := h.o2; have q3 := h.o3; have q4 := h.o4; have q5 := h.o5; omega)
  par := h.par.kept hg (fun e => by injection e with e; have q2 := h.o2; have q3 := h.o3; have q4 := h.o4; have q5 := h.o5; omega) (fun e => by injection e with e; have q2 := h.o2; have q3 := h.o3; have q4 := h.o4; have q5 := h.o5; omega)
  fun_ := h.fun_.grown hg (fun e => by injection e with e; have q4 := h.o4; have q5 := h.o5; omega)
  rng := hr
  gps := h.gps.step hg (fun r hr' => .inr fun cs hc => by
    injection hr' with hr'
    subst hr'
    obtain ⟨o, ho, hoc⟩ := h.rng.iter
    rw [ho] at hc
    cases Option.some.inj hc
    cases hoc)
  o1 := h.o1
  o2 := h.o2
  o3 := h.o3
  o4 := h.o4
  o5 := h.o5
  o6 := Nat.lt_of_lt_of_le h.o6 hg.size
def posN : List Nat → Nat → Option Nat
  | [], _ => none
  | a :: l, r => if a = r then some 0 else (posN l r).map (· + 1)
theorem posN_some : ∀ {l : List Nat} {r q : Nat}, posN l r = some q → l[q]? = some r
  | [], r, q, h => by cases h
  | a :: l, r, q, h => by
    unfold posN at h
    split at h
    · rename_i e
      obtain rfl := Option.some.inj h
      rw [e]; rfl
    · cases hp : posN l r with
      | none => rw [hp] at h; cases h
      | some p =>
        rw [hp] at h
        obtain rfl := Option.some.inj h
        rw [List.getElem?_cons_succ]
        exact posN_some hp
theorem posN_mem : ∀ {l : List Nat} {r : Nat}, r ∈ l → ∃ q, posN l r = some q
  | a :: l, r, h => by
    unfold posN
    by_cases e : a = r
    · exact ⟨0, if_pos e⟩
    · rw [if_neg e]
      rcases List.mem_cons.1 h with h | h
      · exact absurd h.symm e
      · obtain ⟨q, hq⟩ := posN_mem h
        exact ⟨q + 1, by rw [hq]; rfl⟩
theorem posN_none : ∀ {l : List Nat} {r : Nat}, r ∉ l → posN l r = none
  | [], _, _ => rfl
  | a :: l, r, h => by
    unfold posN
    rw [if_neg (fun e => h (by rw [e]; exact List.mem_cons_self ..)), posN_none (fun e => h (List.mem_cons_of_mem _ e))]; rfl
theorem posN_snoc : ∀ {l : List Nat} {r : Nat}, r ∉ l → ∀ x, posN (l ++ [r]) x = if x = r then some l.length else posN l x
  | [], r, _, x => by
    show (if r = x then some 0 else none) = _
    by_cases e : x = r
    · rw [if_pos e, if_pos e.symm]; rfl
    · rw [if_neg e, if_neg (fun h => e h.symm)]; rfl
  | a :: l, r, h, x => by
    have h1 : a ≠ r := fun e => h (by rw [e]; exact List.mem_cons_self ..)
    have ih := posN_snoc (l := l) (fun e => h (List.mem_cons_of_mem _ e)) x
    show (if a = x then some 0 else (posN (l ++ [r]) x).map (· + 1)) = _
    rw [ih]
    by_cases e : x = r
    · rw [if_pos e, if_pos e, if_neg (fun h => h1 (h.trans e))]; rfl
    · rw [if_neg e, if_neg e]; rfl
/-- What the map says of r. -/
def idxV (l : List Nat) (r : Nat) : Option Value := (posN l r).map fun q => .int .i64 (q : Int)
theorem heads_next {S : Nat → Nat → Bool} {R : Nat → Nat} (h : RootS S R) (k : Nat) : (R k = k ∧ k ∉ headsI S k ∧ headsI S (k + 1) = headsI S k ++ [k] ∧ headI S k = true) ∨ (R k ≠ k ∧ ∃ q, posN (headsI S k) (R k) = some q ∧ headsI S (k + 1) = headsI S k ∧ S (R k) k = true) := by
  have hs := headsI_succ S k
  by_cases hk : R k = k
  · have hh := (h.head k).2 hk
    rw [if_pos hh] at hs
    exact .inl ⟨hk, fun hm => by have := (headsI_mem.1 hm).1; omega, hs, hh⟩
  · rw [if_neg (fun hh => hk ((h.head k).1 hh)), List.append_nil] at hs
    obtain ⟨h1, h2⟩ := h.at_head hk
    obtain ⟨q, hq⟩ := posN_mem h1
    exact .inr ⟨hk, q, hq, hs, h2⟩
theorem with_some {C : List Tri} (hf : ∀ t ∈ C, fitsT t) {w : World} {base : Nat} {mo : Ed → Option Value} {m : Ed → Value} {G : Ed → List Nat} (hg : GpsE encN4 1 3 w base m G) (hm : ∀ e, (mo e).getD (.slice none 0 0) = m e) (hG : ∀ e, G e = withE C e) (d : Ed) (hd : withE C d ≠ []) : mo d ≠ none ∧ fitsE d := by
  refine ⟨fun h => ?_, ?_⟩
  · have ho := hg.1 d
    rw [← hm, h, hG] at ho
    obtain ⟨A, cap, hv⟩ := ho.form
    simp only [Option.getD_none, Value.slice.injEq] at hv
    exact hd (List.eq_nil_of_length_eq_zero hv.2.1.symm)
  · obtain ⟨k, hk⟩ := List.exists_mem_of_ne_nil _ hd
    obtain ⟨t, h1, h2⟩ := withE_mem.1 hk
    exact edgesP_fits hf d (List.mem_flatMap.2 ⟨t, List.mem_of_getElem? h1, h2⟩)
theorem PrtR.look2 {W1 w W : World} {gp pb fb mb rb n cnt : Nat} {xs : List Nat} {mo : Ed → Option Value} {m : Ed → Value} {G : Ed → List Nat} {left : Ed → Bool} {c : Nat} (h : PrtR W1 w gp pb fb mb rb n cnt xs mo m G left c) (hm : ∀ e, (mo e).getD (.slice none 0 0) = m e) (e : Ed) (he : fitsE e) {v : Value} (hv : m e = v) (hW : Below w.heap.size w W) :
    (Instr.lookup 95 (.map (some mb)) (vE e) false).run Tryz.prog W = .ok v W := by
  have hl := (h.rng.map.below hW h.rng.map.lt).lookup kfE4 (t := 95) (e := 23) Tryz.underlying95 (z := .slice none 0 0) rfl e he
  rw [hm, hv] at hl
  exact hl
theorem PrtR.num {W1 w : World} {gp pb fb mb rb n cnt : Nat} {xs : List Nat} {mo : Ed → Option Value} {m : Ed → Value} {G : Ed → List Nat} {left : Ed → Bool} {c : Nat} (h : PrtR W1 w gp pb fb mb rb n cnt xs mo m G left c) {e : Ed} {A : Option Addr} {cp k : Nat} (hv : m e = .slice A k cp) {i x : Nat} (hi : (G e)[i]? = some x) :
    ∃ b o, A = some ⟨b, o, none⟩ ∧ b < w.heap.size ∧ w.cell? ⟨b, o + i, none⟩ = some (.int .i64 x) := by
  have ho := h.gps.1 e
  rw [hv] at ho
  obtain ⟨A', c', e'⟩ := ho.form
  obtain ⟨rfl, rfl, rfl⟩ : A = A' ∧ k = (G e).length ∧ cp = c' := by simpa using e'
  exact (ho.sl encN4_len (Nat.le_refl _)).oneN4 hi
theorem len_flat_mem {α : Type} {L : List (List α)} {p : List α} (h : p ∈ L) : p.length ≤ L.flatten.length := by
  induction L with
  | nil => cases h
  | cons a L ih =>
    rw [List.flatten_cons, List.length_append]
    rcases List.mem_cons.1 h with rfl | h
    · exact Nat.le_add_right _ _
    · exact Nat.le_trans (ih h) (Nat.le_add_left _ _)
/-- PcsD, and no piece lies in block g. -/
def PcsW {α : Type} (enc : α → List Value) (k : Nat) (e te : TypeId) (w : World) (base : Nat) (v : Value) (ps : List (List α)) (g : Nat) : Prop :=
  ∃ ss : List Hdr, Own encS 1 te w base v ps.length ss ∧ Elems enc k e w base ss ps ∧ ss.Pairwise Apart2 ∧ Away g ss
section
variable {α : Type} {enc : α → List Value} {k : Nat} {e te : TypeId} {w w' : World} {base : Nat} {v : Value} {ps : List (List α)} {g : Nat}
theorem PcsD.aw (h : PcsD enc k e te w base v ps) (hg : w.heap.size ≤ g) : PcsW enc k e te w base v ps g := by
  obtain ⟨ss, h1, h2, h3⟩ := h
  exact ⟨ss, h1, h2, h3, h2.away hg⟩
theorem PcsW.below {B : Nat} (h : PcsW enc k e te w base v ps g) (hb : Below B w w') (hB : w.heap.size ≤ B) : PcsW enc k e te w' base v ps g := by
  obtain ⟨ss, h1, h2, h3, h4⟩ := h
  exact ⟨ss, h1.below hb hB, h2.imp fun s _ p ho => ho.below hb hB, h3, h4⟩
theorem PcsW.step {row : Option Nat} (h : PcsW enc k e te w base v ps g) (hg : w.grownBy w' row) (hr : ∀ r, row = some r → r < base) : PcsW enc k e te w' base v ps g := by
  obtain ⟨ss, h1, h2, h3, h4⟩ := h
  exact ⟨ss, h1.step hg fun r e => .inl (hr r e), h2.step hg fun r e => .inl (hr r e), h3, h4⟩
theorem PcsW.more {ss : List Hdr} {v' : Value} (hel : Elems enc k e w' base ss ps) (hap : ss.Pairwise Apart2) (haw : Away g ss) (ho' : Own encS 1 te w' base v' (ps.length + 1) (ss ++ [(none, 0, 0)])) : PcsW enc k e te w' base v' (ps ++ [[]]) g := by
  refine ⟨ss ++ [(none, 0, 0)], by rw [List.length_append]; exact ho', hel.append ⟨⟨rfl, Own.nil⟩, trivial⟩, ?_, ?_⟩
  · refine List.pairwise_append.2 ⟨hap, by simp, fun a _ b hb => ?_⟩
    rw [List.mem_singleton] at hb
    subst hb
    intro g _ he
    cases he
  · intro s hs
    rcases List.mem_append.1 hs with hs | hs
    · exact haw s hs
    · rw [List.mem_singleton] at hs
      subst hs
      exact fun he => by cases he
end
end Go.Proofs.YtelfnmohpjkilaaGreatDoor
