/- Kit EncI VoxP MshP DigP WnP WnQ. -/
import Derived.WalkKit
import Derived.WalkSpells
import Derived.WalkLawsBesides
import Derived.Laws.OwnMore
import Derived.Deep.AppendLies
import Derived.Deep.Draws
namespace Go.Proofs.YtelfnmohpjkilaaGreatDoor
open Go.RowKit

abbrev Pt := Int × Int × Int
abbrev Tri := Pt × Pt × Pt

abbrev vi (x : Int) : Value := .int .i64 x
def encP (p : Pt) : List Value := [.int .i64 p.1, .int .i64 p.2.1, .int .i64 p.2.2]
def encT (t : Tri) : List Value := [.int .i64 t.1.1, .int .i64 t.1.2.1, .int .i64 t.1.2.2, .int .i64 t.2.1.1, .int .i64 t.2.1.2.1, .int .i64 t.2.1.2.2, .int .i64 t.2.2.1, .int .i64 t.2.2.2.1, .int .i64 t.2.2.2.2]
abbrev vP (p : Pt) : Value := .agg #[.int .i64 p.1, .int .i64 p.2.1, .int .i64 p.2.2]
abbrev vT (t : Tri) : Value := .agg #[.int .i64 t.1.1, .int .i64 t.1.2.1, .int .i64 t.1.2.2, .int .i64 t.2.1.1, .int .i64 t.2.1.2.1, .int .i64 t.2.1.2.2, .int .i64 t.2.2.1, .int .i64 t.2.2.2.1, .int .i64 t.2.2.2.2]

theorem add_none (b o n : Nat) : (Addr.add ⟨b, o, none⟩ n) = ⟨b, o + n, none⟩ := by
  unfold Addr.add; split
  · subst_vars; rfl
  · rfl

/-- The slice at A reads, in w, as xs: each element is the k cells of 'enc'; all below block B. -/
def Sl {α : Type} (enc : α → List Value) (k : Nat) (w : World) (B : Nat) (A : Option Addr) (xs : List α) : Prop :=
  (xs = [] ∧ A = none) ∨ ∃ b o, A = some ⟨b, o, none⟩ ∧ b < B ∧ ∀ i x, xs[i]? = some x → ∀ j u, (enc x)[j]? = some u → w.cell? ⟨b, o + i * k + j, none⟩ = some u

section
variable {α : Type} {enc : α → List Value} {k : Nat} {w w' : World} {B B' : Nat} {A : Option Addr} {xs : List α}
theorem Sl.keep (h : Sl enc k w B A xs) (hk : ∀ p : Addr, p.block < B → w'.cell? p = w.cell? p) : Sl enc k w' B A xs := by
  rcases h with h | ⟨b, o, ha, hb, hc⟩
  · exact .inl h
  · exact .inr ⟨b, o, ha, hb, fun i x hx j u hu => (hk ⟨b, _, none⟩ hb).trans (hc i x hx j u hu)⟩
theorem Sl.more (h : Sl enc k w B A xs) (hB : B ≤ B') : Sl enc k w B' A xs := by
  rcases h with h | ⟨b, o, ha, hb, hc⟩
  · exact .inl h
  · exact .inr ⟨b, o, ha, by omega, hc⟩
theorem Sl.below (h : Sl enc k w B A xs) (hb : Below B w w') : Sl enc k w' B A xs := h.keep fun _ hp => hb.cell hp
/-- Where an element lies. -/
theorem Sl.at {i : Nat} {x : α} (h : Sl enc k w B A xs) (hi : xs[i]? = some x) : ∃ b o, A = some ⟨b, o, none⟩ ∧ b < B ∧ ∀ j u, (enc x)[j]? = some u → w.cell? ⟨b, o + i * k + j, none⟩ = some u := by
  rcases h with ⟨h, _⟩ | ⟨b, o, ha, hb, hc⟩
  · subst h; simp at hi
  · exact ⟨b, o, ha, hb, hc i x hi⟩
end
/-- A triangle's nine cells. -/
def CellsT (w : World) (b o : Nat) (t : Tri) : Prop :=
  w.cell? ⟨b, o, none⟩ = some (.int .i64 t.1.1) ∧ w.cell? ⟨b, o + 1, none⟩ = some (.int .i64 t.1.2.1) ∧ w.cell? ⟨b, o + 2, none⟩ = some (.int .i64 t.1.2.2) ∧
  w.cell? ⟨b, o + 3, none⟩ = some (.int .i64 t.2.1.1) ∧ w.cell? ⟨b, o + 4, none⟩ = some (.int .i64 t.2.1.2.1) ∧ w.cell? ⟨b, o + 5, none⟩ = some (.int .i64 t.2.1.2.2) ∧
  w.cell? ⟨b, o + 6, none⟩ = some (.int .i64 t.2.2.1) ∧ w.cell? ⟨b, o + 7, none⟩ = some (.int .i64 t.2.2.2.1) ∧ w.cell? ⟨b, o + 8, none⟩ = some (.int .i64 t.2.2.2.2)
theorem Sl.tri {w : World} {B : Nat} {A : Option Addr} {ts : List Tri} (h : Sl encT 9 w B A ts) {i : Nat} {t : Tri} (hi : ts[i]? = some t) :
    ∃ b o, A = some ⟨b, o, none⟩ ∧ b < B ∧ CellsT w b (o + i * 9) t := by
  obtain ⟨b, o, ha, hb, hc⟩ := h.at hi
  exact ⟨b, o, ha, hb, hc 0 _ rfl, hc 1 _ rfl, hc 2 _ rfl, hc 3 _ rfl, hc 4 _ rfl, hc 5 _ rfl, hc 6 _ rfl, hc 7 _ rfl, hc 8 _ rfl⟩

/-- A block that is known whole, none of it frozen. -/
def Blk (w : World) (g : Nat) (t : TypeId) (cs : Array Value) : Prop := w.heap[g]? = some (.cells cs t (0, 0))
section
variable {w w' : World} {g : Nat} {t : TypeId} {cs : Array Value}
theorem Blk.lt (h : Blk w g t cs) : g < w.heap.size := by
  rcases Nat.lt_or_ge g w.heap.size with hlt | hge
  · exact hlt
  · unfold Blk at h; rw [Array.getElem?_eq_none hge] at h; cases h
theorem Blk.cell (h : Blk w g t cs) (i : Nat) : w.cell? ⟨g, i, none⟩ = cs[i]? := cell_of_row w g i cs t (0, 0) h
theorem Blk.frozen (h : Blk w g t cs) (i : Nat) : w.frozen? ⟨g, i, none⟩ = false := by
  unfold Blk at h
  simp [World.frozen?, h]
theorem Blk.new (w : World) (t : TypeId) (cs : Array Value) : Blk (w.alloc (.cells cs t)) w.heap.size t cs := heap_alloc_new w _
theorem Blk.new' (w : World) (t : TypeId) (cs : Array Value) (g : Nat) (hg : g = w.heap.size) : Blk (w.alloc (.cells cs t)) g t cs := by subst hg; exact Blk.new w t cs
theorem Blk.drew (h : Blk w g t cs) : Blk w.drew g t cs := h
theorem Blk.alloc (h : Blk w g t cs) (o : Obj) : Blk (w.alloc o) g t cs := (Below.heap_alloc w o g h.lt).trans h
theorem Blk.set_ (h : Blk w g t cs) (i : Nat) (u : Value) : Blk (w.setCell ⟨g, i, none⟩ u) g t (cs.setIfInBounds i u) := by
  unfold Blk at h ⊢
  simp [World.setCell, Array.getElem?_modify, h]
theorem Blk.far (h : Blk w g t cs) {p : Addr} (hp : g ≠ p.block) (u : Value) : Blk (w.setCell p u) g t cs := (Below.heap_setCell w p u g hp).trans h
theorem Blk.set3 {a b c : Value} (h : Blk w g t #[a, b, c]) (x y z : Value) : Blk (((w.setCell ⟨g, 0, none⟩ x).setCell ⟨g, 1, none⟩ y).setCell ⟨g, 2, none⟩ z) g t #[x, y, z] :=
  ((h.set_ 0 x).set_ 1 y).set_ 2 z
theorem Blk.far3 (h : Blk w g t cs) {g' : Nat} (hg : g ≠ g') (x y z : Value) : Blk (((w.setCell ⟨g', 0, none⟩ x).setCell ⟨g', 1, none⟩ y).setCell ⟨g', 2, none⟩ z) g t cs :=
  ((h.far (p := ⟨g', 0, none⟩) hg x).far (p := ⟨g', 1, none⟩) hg y).far (p := ⟨g', 2, none⟩) hg z
theorem Blk.below {B : Nat} (h : Blk w g t cs) (hb : Below B w w') (hg : g < B) : Blk w' g t cs := (hb.block g hg).trans h
theorem Blk.grown {row : Option Nat} (h : Blk w g t cs) (hb : w.grownBy w' row) (hg : some g ≠ row) : Blk w' g t cs := (hb.block g h.lt hg).trans h
end
theorem below_drewN {B : Nat} {a w : World} (h : Below B a w) (n : Nat) : Below B a (w.drewN n) := ⟨h.os, h.tape, h.output, h.size, h.block⟩
theorem hide {p : Prop} (h : p) : Hid p := h
theorem unhide {p : Prop} (h : Hid p) : p := h
end Go.Proofs.YtelfnmohpjkilaaGreatDoor
namespace Go.Proofs.YtelfnmohpjkilaaGreatDoor
def encI (x : Nat) : List Value := [.int .i64 x]
theorem encI_len (x : Nat) : (encI x).length = 1 := rfl
theorem encI_one (x : Nat) : ∀ u ∈ encI x, u.oneCell' = true := by
  intro u hu
  simp only [encI, List.mem_singleton] at hu
  subst hu
  rfl
end Go.Proofs.YtelfnmohpjkilaaGreatDoor
namespace Go.Proofs.YtelfnmohpjkilaaGreatDoor
def quadP (a b c d : Pt) : List Tri := [(a, b, c), (a, c, d)]
def sideP (f : Nat → Pt) : Nat → List Tri
  | 0 => quadP (f 0) (f 2) (f 3) (f 1)
  | 1 => quadP (f 4) (f 5) (f 7) (f 6)
  | 2 => quadP (f 0) (f 1) (f 5) (f 4)
  | 3 => quadP (f 2) (f 6) (f 7) (f 3)
  | 4 => quadP (f 0) (f 4) (f 6) (f 2)
  | _ => quadP (f 1) (f 3) (f 7) (f 5)
theorem mem_side {f : Nat → Pt} {k : Nat} {t : Tri} (h : t ∈ sideP f k) : ∃ i j l, i < 8 ∧ j < 8 ∧ l < 8 ∧ t = (f i, f j, f l) := by
  unfold sideP at h
  split at h <;> simp only [quadP, List.mem_cons, List.not_mem_nil, or_false] at h <;> rcases h with rfl | rfl <;> exact ⟨_, _, _, by omega, by omega, by omega, rfl⟩
end Go.Proofs.YtelfnmohpjkilaaGreatDoor
namespace Go.Proofs.YtelfnmohpjkilaaGreatDoor
/-- The reference's walk: b tells the corner behind; at most so many steps. -/
def runO (b : Pt → Option Pt) (s : Pt) : Nat → Pt → Bool
  | 0, _ => false
  | k + 1, at_ => match b at_ with
    | none => false
    | some x => decide (x = s) || runO b s k x
/-- The program's walk: m triangles at the corner, size of them met, at the place come to. -/
def prgO (b : Pt → Option Pt) (s : Pt) (m : Nat) : Nat → Nat → Pt → Bool
  | 0, size, at_ => decide (at_ = s) && decide (size < m)
  | f + 1, size, at_ => if at_ = s ∨ m < size then decide (at_ = s) && decide (size < m) else match b at_ with
    | none => false
    | some x => prgO b s m f (size + 1) x
theorem prgO_run (b : Pt → Option Pt) (s : Pt) (m : Nat) : ∀ (f size : Nat) (a : Pt), m < f + size → prgO b s m f size a = (decide (size < m) && (decide (a = s) || runO b s (m - 1 - size) a))
  | 0, size, a, h => by
    unfold prgO
    rw [decide_eq_false (by omega : ¬ size < m)]
    simp
  | f + 1, size, a, h => by
    unfold prgO
    by_cases ha : a = s
    · rw [if_pos (.inl ha), decide_eq_true ha]
      simp
    · by_cases hm : m < size
      · rw [if_pos (.inr hm), decide_eq_false ha, decide_eq_false (by omega : ¬ size < m)]
        rfl
      · rw [if_neg (by rintro (h1 | h1); exact ha h1; exact hm h1), decide_eq_false ha, Bool.false_or]
        cases hb : b a with
        | none =>
          by_cases hs : size < m
          · rw [decide_eq_true hs, Bool.true_and]
            cases hk : m - 1 - size with
            | zero => rfl
            | succ k => unfold runO; rw [hb]
          · rw [decide_eq_false hs]; rfl
        | some x =>
          show prgO b s m f (size + 1) x = _
          rw [prgO_run b s m f (size + 1) x (by omega)]
          by_cases hs : size + 1 < m
          · rw [decide_eq_true hs, decide_eq_true (by omega : size < m), Bool.true_and, Bool.true_and]
            have hk : m - 1 - size = (m - 1 - (size + 1)) + 1 := by omega
            rw [hk]
            show _ = runO b s (m - 1 - (size + 1) + 1) a
            conv => rhs; unfold runO
            rw [hb]
          · rw [decide_eq_false hs, Bool.false_and]
            by_cases h1 : size < m
            · have hk : m - 1 - size = 0 := by omega
              rw [hk, decide_eq_true h1]
              rfl
            · rw [decide_eq_false h1]; rfl
/-- The program begins behind the first triangle; the reference at its start. -/
theorem ring_same (b : Pt → Option Pt) (s x : Pt) (m f : Nat) (hx : b s = some x) (hf : m ≤ f) : prgO b s m f 1 x = runO b s (m - 1) s := by
  rw [prgO_run b s m f 1 x (by omega)]
  by_cases h : 1 < m
  · rw [decide_eq_true h, Bool.true_and]
    have hk : m - 1 = (m - 1 - 1) + 1 := by omega
    conv => rhs; rw [hk]; unfold runO
    rw [hx]
  · rw [decide_eq_false h, Bool.false_and]
    have hk : m - 1 = 0 := by omega
    rw [hk]
    rfl
end Go.Proofs.YtelfnmohpjkilaaGreatDoor
namespace Go.Proofs.YtelfnmohpjkilaaGreatDoor
def valD : List Nat → Nat
  | [] => 0
  | d :: l => d + 65536 * valD l
def okD (l : List Nat) : Prop := ∀ d ∈ l, d < 65536
/-- No zeros at the end. -/
def trimD : List Nat → List Nat
  | [] => []
  | d :: l => match trimD l with
    | [] => if d = 0 then [] else [d]
    | e :: m => d :: e :: m
theorem valD_app (l m : List Nat) : valD (l ++ m) = valD l + 65536 ^ l.length * valD m := by
  induction l with
  | nil => simp [valD]
  | cons d l ih =>
    rw [List.cons_append, valD, valD, ih, List.length_cons, Nat.pow_succ, Nat.mul_add, Nat.add_assoc, ← Nat.mul_assoc, Nat.mul_comm 65536 (65536 ^ l.length)]
theorem valD_trim (l : List Nat) : valD (trimD l) = valD l := by
  induction l with
  | nil => rfl
  | cons d l ih =>
    unfold trimD
    split
    · rename_i h
      rw [h] at ih
      have h0 : valD l = 0 := ih.symm
      split
      · rename_i hd; show 0 = d + 65536 * valD l; omega
      · show d + 65536 * 0 = d + 65536 * valD l; rw [h0]
    · rename_i e m h
      rw [h] at ih
      rw [valD, ih, valD]
theorem trim_ok {l : List Nat} (h : okD l) : okD (trimD l) := by
  induction l with
  | nil => exact h
  | cons d l ih =>
    have h2 := ih fun x hx => h x (by simp [hx])
    have h1 := h d (by simp)
    unfold trimD
    split
    · split
      · intro x hx; cases hx
      · intro x hx; rw [List.mem_singleton.1 hx]; exact h1
    · rename_i e m he
      rw [he] at h2
      intro x hx
      rcases List.mem_cons.1 hx with rfl | hx
      · exact h1
      · exact h2 x hx
theorem trim_snoc0 (l : List Nat) : trimD (l ++ [0]) = trimD l := by
  induction l with
  | nil => rfl
  | cons d l ih => rw [List.cons_append, trimD, trimD, ih]
theorem trim_snoc (l : List Nat) {d : Nat} (hd : d ≠ 0) : trimD (l ++ [d]) = l ++ [d] := by
  induction l with
  | nil => simp [trimD, hd]
  | cons e l ih =>
    rw [List.cons_append, trimD, ih]
    cases l <;> rfl
/-- Trimmed lists: nothing, or no zero at the end. -/
theorem trim_self {l : List Nat} (h : trimD l = l) (hne : l ≠ []) : ∃ m d, l = m ++ [d] ∧ d ≠ 0 := by
  obtain ⟨m, d, rfl⟩ : ∃ m d, l = m ++ [d] := ⟨l.dropLast, l.getLast hne, (List.dropLast_concat_getLast hne).symm⟩
  refine ⟨m, d, rfl, fun hd => ?_⟩
  subst hd
  rw [trim_snoc0] at h
  have h2 : (trimD m).length ≤ m.length := by
    clear h hne
    induction m with
    | nil => exact Nat.le_refl _
    | cons e m ih =>
      unfold trimD
      split
      · split <;> simp
      · rename_i x y hx; rw [hx] at ih; simp only [List.length_cons] at ih ⊢; omega
  have := congrArg List.length h
  rw [List.length_append, List.length_singleton] at this
  omega
theorem trim_trim (l : List Nat) : trimD (trimD l) = trimD l := by
  induction l with
  | nil => rfl
  | cons d l ih =>
    cases h : trimD l with
    | nil =>
      have e : trimD (d :: l) = if d = 0 then [] else [d] := by rw [trimD, h]
      rw [e]
      split
      · rfl
      · rename_i hd; simp [trimD, hd]
    | cons x m =>
      have e : trimD (d :: l) = d :: x :: m := by rw [trimD, h]
      rw [h] at ih
      rw [e, trimD, ih]
/-- The bytes, the least significant one first; no zero at the end if the digits have none. -/
def bytesD : List Nat → List Nat
  | [] => []
  | [d] => if 256 ≤ d then [d % 256, d / 256] else [d]
  | d :: e :: l => d % 256 :: d / 256 :: bytesD (e :: l)
theorem bytesD_cons (d : Nat) {l : List Nat} (h : l ≠ []) : bytesD (d :: l) = d % 256 :: d / 256 :: bytesD l := by
  cases l with
  | nil => exact absurd rfl h
  | cons e l => rfl
theorem bytesD_len : ∀ l : List Nat, l ≠ [] → (bytesD l).length = 2 * l.length ∨ (bytesD l).length + 1 = 2 * l.length
  | [], h => absurd rfl h
  | [d], _ => by unfold bytesD; split <;> simp
  | d :: e :: l, _ => by
    have := bytesD_len (e :: l) (by simp)
    rw [bytesD_cons d (by simp)]
    simp only [List.length_cons] at this ⊢
    omega
theorem bytesD_low : ∀ (l : List Nat), okD l → ∀ k d, l[k]? = some d → (bytesD l)[2 * k]? = some (if 2 * k + 1 < (bytesD l).length then d % 256 else d) ∧ (2 * k + 1 < (bytesD l).length → (bytesD l)[2 * k + 1]? = some (d / 256)) ∧ (¬ 2 * k + 1 < (bytesD l).length → d < 256)
  | [], _, k, d, h => by simp at h
  | [e], ho, 0, d, h => by
    simp only [List.getElem?_cons_zero, Option.some.injEq] at h
    subst h
    unfold bytesD
    by_cases h : 256 ≤ e
    · rw [if_pos h]; simp
    · rw [if_neg h]; simp; omega
  | [e], _, k + 1, d, h => by simp at h
  | e :: f :: l, ho, 0, d, h => by
    simp only [List.getElem?_cons_zero, Option.some.injEq] at h
    subst h
    rw [bytesD_cons e (by simp)]
    simp
  | e :: f :: l, ho, k + 1, d, h => by
    have ih := bytesD_low (f :: l) (fun x hx => ho x (by simp [hx])) k d (by simpa using h)
    rw [bytesD_cons e (by simp)]
    simp only [List.length_cons, show 2 * (k + 1) = 2 * k + 1 + 1 by omega, List.getElem?_cons_succ, Nat.add_lt_add_iff_right] at ih ⊢
    refine ⟨?_, ?_, ?_⟩
    · rw [ih.1]
    · intro hc; exact ih.2.1 (by omega)
    · intro hc; exact ih.2.2 (by omega)
theorem bytesD_lt {l : List Nat} (h : okD l) : ∀ b ∈ bytesD l, b < 256 := by
  intro b hb
  obtain ⟨i, hi⟩ := List.mem_iff_getElem?.1 hb
  have hil : i < (bytesD l).length := (List.getElem?_eq_some_iff.1 hi).1
  by_cases hne : l = []
  · subst hne; cases hb
  · have hl := bytesD_len l hne
    have hk : i / 2 < l.length := by omega
    obtain ⟨d, hd⟩ : ∃ d, l[i / 2]? = some d := ⟨_, List.getElem?_eq_getElem hk⟩
    have hd6 := h d (List.mem_of_getElem? hd)
    obtain ⟨h1, h2, h3⟩ := bytesD_low l h _ _ hd
    have hc : i = 2 * (i / 2) ∨ i = 2 * (i / 2) + 1 := by omega
    rcases hc with hc | hc
    · rw [hc, h1] at hi
      cases hi
      split
      · omega
      · exact h3 (by assumption)
    · rw [hc, h2 (by omega)] at hi
      cases hi
      omega
def intD (neg : Bool) (l : List Nat) : Int := if neg then -(valD l : Int) else (valD l : Int)
end Go.Proofs.YtelfnmohpjkilaaGreatDoor
namespace Go.Proofs.YtelfnmohpjkilaaGreatDoor
def valG (b : Nat) : List Nat → Nat
  | [] => 0
  | d :: l => d + b * valG b l
def okG (b : Nat) (l : List Nat) : Prop := ∀ d ∈ l, d < b
abbrev W32 : Nat := 4294967296
theorem valG_app (b : Nat) (l m : List Nat) : valG b (l ++ m) = valG b l + b ^ l.length * valG b m := by
  induction l with
  | nil => simp [valG]
  | cons d l ih =>
    rw [List.cons_append, valG, valG, ih, List.length_cons, Nat.pow_succ, Nat.mul_add, Nat.add_assoc, ← Nat.mul_assoc, Nat.mul_comm b (b ^ l.length)]
theorem valG_trim (b : Nat) (l : List Nat) : valG b (trimD l) = valG b l := by
  induction l with
  | nil => rfl
  | cons d l ih =>
    unfold trimD
    split
    · rename_i h
      rw [h] at ih
      have h0 : valG b l = 0 := ih.symm
      split
      · rename_i hd; show 0 = d + b * valG b l; rw [h0, hd]; simp
      · show d + b * 0 = d + b * valG b l; rw [h0]
    · rename_i e m h
      rw [h] at ih
      rw [valG, ih, valG]
theorem trim_okG {b : Nat} {l : List Nat} (h : okG b l) : okG b (trimD l) := by
  induction l with
  | nil => exact h
  | cons d l ih =>
    have h2 := ih fun x hx => h x (by simp [hx])
    have h1 := h d (by simp)
    unfold trimD
    split
    · split
      · intro x hx; cases hx
      · intro x hx; rw [List.mem_singleton.1 hx]; exact h1
    · rename_i e m he
      rw [he] at h2
      intro x hx
      rcases List.mem_cons.1 hx with rfl | hx
      · exact h1
      · exact h2 x hx
theorem trim_tail {d : Nat} {l : List Nat} (h : trimD (d :: l) = d :: l) : trimD l = l := by
  unfold trimD at h
  split at h
  · rename_i h0
    split at h
    · cases h
    · injection h with _ h; rw [h0]; exact h
  · rename_i e m h0
    injection h with _ h
    rw [h0]; exact h
theorem valG_zero {b : Nat} (hb : 0 < b) {l : List Nat} (h : trimD l = l) (h0 : valG b l = 0) : l = [] := by
  induction l with
  | nil => rfl
  | cons d l ih =>
    exfalso
    rw [valG] at h0
    have h1 : b * valG b l = 0 := by omega
    have h2 : valG b l = 0 := by
      rcases Nat.mul_eq_zero.1 h1 with h2 | h2
      · omega
      · exact h2
    have h3 := ih (trim_tail h) h2
    subst h3
    have hd : d = 0 := by omega
    subst hd
    simp [trimD] at h
theorem valG_uniq {b : Nat} (hb : 0 < b) : ∀ {l m : List Nat}, okG b l → okG b m → trimD l = l → trimD m = m → valG b l = valG b m → l = m
  | [], m, _, _, _, hm, h => (valG_zero hb hm h.symm).symm
  | d :: l, [], _, _, hl, _, h => valG_zero hb hl h
  | d :: l, e :: m, ol, om, hl, hm, h => by
    have hd := ol d (by simp)
    have he := om e (by simp)
    rw [valG, valG] at h
    have h1 : d = e := by
      have := congrArg (· % b) h
      simpa [Nat.add_mul_mod_self_left, Nat.mod_eq_of_lt hd, Nat.mod_eq_of_lt he] using this
    subst h1
    have h2 : valG b l = valG b m := Nat.eq_of_mul_eq_mul_left hb (by omega)
    rw [valG_uniq hb (fun x hx => ol x (by simp [hx])) (fun x hx => om x (by simp [hx])) (trim_tail hl) (trim_tail hm) h2]
theorem trim_idem (l : List Nat) : trimD (trimD l) = trimD l := trim_trim l
def bytes4 (d : Nat) : List Nat := [d % 256, d / 256 % 256, d / 65536 % 256, d / 16777216 % 256]
def bytesW (l : List Nat) : List Nat := l.flatMap bytes4
theorem bytesW_ok (l : List Nat) : okG 256 (bytesW l) := by
  intro x hx
  obtain ⟨d, _, hx⟩ := List.mem_flatMap.1 hx
  simp only [bytes4, List.mem_cons, List.not_mem_nil, or_false] at hx
  omega
theorem bytesW_len (l : List Nat) : (bytesW l).length = 4 * l.length := by
  unfold bytesW
  induction l with
  | nil => rfl
  | cons d l ih => rw [List.flatMap_cons, List.length_append, ih, List.length_cons]; simp [bytes4]; omega
theorem bytesW_val {l : List Nat} (h : okG W32 l) : valG 256 (bytesW l) = valG W32 l := by
  unfold bytesW
  induction l with
  | nil => rfl
  | cons d l ih =>
    have h1 : d < 4294967296 := h d (by simp)
    rw [List.flatMap_cons, valG_app, ih fun x hx => h x (by simp [hx]), valG]
    simp only [bytes4, valG, List.length_cons, List.length_nil]
    have : d % 256 + 256 * (d / 256 % 256 + 256 * (d / 65536 % 256 + 256 * (d / 16777216 % 256 + 256 * 0))) = d := by omega
    rw [this]
/-- Word j of bytes, of the places from k on. -/
def wAt (bs : List Nat) (k j : Nat) : Nat := (if k ≤ 4 * j then bs.getD (4 * j) 0 else 0) + 256 * (if k ≤ 4 * j + 1 then bs.getD (4 * j + 1) 0 else 0) + 65536 * (if k ≤ 4 * j + 2 then bs.getD (4 * j + 2) 0 else 0) + 16777216 * (if k ≤ 4 * j + 3 then bs.getD (4 * j + 3) 0 else 0)
def wordsC (bs : List Nat) (k n : Nat) : List Nat := (List.range n).map (wAt bs k)
theorem getD_ok {b : Nat} (hb : 0 < b) {l : List Nat} (h : okG b l) (i : Nat) : l.getD i 0 < b := by
  rw [List.getD_eq_getElem?_getD]
  cases hi : l[i]? with
  | none => exact hb
  | some x => exact h x (List.mem_of_getElem? hi)
theorem wAt_lt {bs : List Nat} (h : okG 256 bs) (k j : Nat) : wAt bs k j < 4294967296 := by
  have h0 := getD_ok (by omega) h (4 * j)
  have h1 := getD_ok (by omega) h (4 * j + 1)
  have h2 := getD_ok (by omega) h (4 * j + 2)
  have h3 := getD_ok (by omega) h (4 * j + 3)
  unfold wAt
  split <;> split <;> split <;> split <;> omega
theorem wordsC_ok {bs : List Nat} (h : okG 256 bs) (k n : Nat) : okG W32 (wordsC bs k n) := by
  intro x hx
  obtain ⟨j, _, rfl⟩ := List.mem_map.1 hx
  exact wAt_lt h k j
theorem wordsC_len (bs : List Nat) (k n : Nat) : (wordsC bs k n).length = n := by simp [wordsC]
theorem wordsC_get {bs : List Nat} {k n j : Nat} (hj : j < n) : (wordsC bs k n)[j]? = some (wAt bs k j) := by simp [wordsC, hj]
/-- No place yet. -/
theorem wordsC_none {bs : List Nat} {k : Nat} (n : Nat) (hk : bs.length ≤ k) : wordsC bs k n = List.replicate n 0 := by
  refine List.ext_getElem? fun j => ?_
  by_cases hj : j < n
  · rw [wordsC_get hj, List.getElem?_replicate, if_pos hj]
    have hz : ∀ i, (if k ≤ i then bs.getD i 0 else 0) = 0 := fun i => by
      split
      · rw [List.getD_eq_getElem?_getD, List.getElem?_eq_none (by omega)]; rfl
      · rfl
    unfold wAt
    rw [hz, hz, hz, hz]
  · rw [List.getElem?_eq_none (by rw [wordsC_len]; omega), List.getElem?_replicate, if_neg hj]
/-- One place more. -/
theorem wordsC_step {bs : List Nat} (h : okG 256 bs) {k n d : Nat} (hd : bs[k]? = some d) (hn : k / 4 < n) : wordsC bs k n = (wordsC bs (k + 1) n).set (k / 4) (wAt bs (k + 1) (k / 4) ||| d <<< (8 * (k % 4))) := by
  have hdl : d < 256 := h d (List.mem_of_getElem? hd)
  have hg : bs.getD k 0 = d := by rw [List.getD_eq_getElem?_getD, hd]; rfl
  refine List.ext_getElem? fun j => ?_
  by_cases hj : j < n
  · rw [wordsC_get hj, List.getElem?_set, wordsC_len]
    by_cases he : k / 4 = j
    · rw [if_pos he, if_pos (by omega), he]
      congr 1
      have hr : k % 4 < 4 := Nat.mod_lt _ (by omega)
      have h0 := getD_ok (by omega) h (4 * j)
      have h1 := getD_ok (by omega) h (4 * j + 1)
      have h2 := getD_ok (by omega) h (4 * j + 2)
      have h3 := getD_ok (by omega) h (4 * j + 3)
      have hor : ∀ (i a : Nat), d <<< (8 * i) < 2 ^ (8 * i + 8) ∧ (2 ^ (8 * i + 8) * a ||| d <<< (8 * i)) = 2 ^ (8 * i + 8) * a + d <<< (8 * i) := fun i a => by
        have : d <<< (8 * i) < 2 ^ (8 * i + 8) := by
          rw [Nat.shiftLeft_eq, Nat.pow_add, Nat.mul_comm]
          exact Nat.mul_lt_mul_of_pos_left hdl (Nat.two_pow_pos _)
        exact ⟨this, (Nat.two_pow_add_eq_or_of_lt this a).symm⟩
      have hc : k % 4 = 0 ∨ k % 4 = 1 ∨ k % 4 = 2 ∨ k % 4 = 3 := by omega
      rcases hc with hc | hc | hc | hc
      · have ek : k = 4 * j := by omega
        rw [hc]
        have e : wAt bs (k + 1) j = 2 ^ (8 * 0 + 8) * (bs.getD (4 * j + 1) 0 + 256 * bs.getD (4 * j + 2) 0 + 65536 * bs.getD (4 * j + 3) 0) := by
          unfold wAt
          rw [if_neg (by omega), if_pos (by omega), if_pos (by omega), if_pos (by omega)]
          omega
        rw [e, (hor 0 _).2]
        unfold wAt
        rw [if_pos (by omega), if_pos (by omega), if_pos (by omega), if_pos (by omega), ← ek, hg, Nat.shiftLeft_eq]
        omega
      · have ek : k = 4 * j + 1 := by omega
        rw [hc]
        have e : wAt bs (k + 1) j = 2 ^ (8 * 1 + 8) * (bs.getD (4 * j + 2) 0 + 256 * bs.getD (4 * j + 3) 0) := by
          unfold wAt
          rw [if_neg (by omega), if_neg (by omega), if_pos (by omega), if_pos (by omega)]
          omega
        rw [e, (hor 1 _).2]
        unfold wAt
        rw [if_neg (by omega), if_pos (by omega), if_pos (by omega), if_pos (by omega), ← ek, hg, Nat.shiftLeft_eq]
        omega
      · have ek : k = 4 * j + 2 := by omega
        rw [hc]
        have e : wAt bs (k + 1) j = 2 ^ (8 * 2 + 8) * (bs.getD (4 * j + 3) 0) := by
          unfold wAt
          rw [if_neg (by omega), if_neg (by omega), if_neg (by omega), if_pos (by omega)]
          omega
        rw [e, (hor 2 _).2]
        unfold wAt
        rw [if_neg (by omega), if_neg (by omega), if_pos (by omega), if_pos (by omega), ← ek, hg, Nat.shiftLeft_eq]
        omega
      · have ek : k = 4 * j + 3 := by omega
        rw [hc]
        have e : wAt bs (k + 1) j = 2 ^ (8 * 3 + 8) * 0 := by
          unfold wAt
          rw [if_neg (by omega), if_neg (by omega), if_neg (by omega), if_neg (by omega)]
        rw [e, (hor 3 _).2]
        unfold wAt
        rw [if_neg (by omega), if_neg (by omega), if_neg (by omega), if_pos (by omega), ← ek, hg, Nat.shiftLeft_eq]
        omega
    · rw [if_neg he, wordsC_get hj]
      congr 1
      unfold wAt
      have a : ∀ r, r < 4 → (k ≤ 4 * j + r ↔ k + 1 ≤ 4 * j + r) := fun r hr => by omega
      have a0 := a 0 (by omega)
      rw [Nat.add_zero] at a0
      simp only [a0, a 1 (by omega), a 2 (by omega), a 3 (by omega)]
  · rw [List.getElem?_eq_none (by rw [wordsC_len]; omega), List.getElem?_eq_none (by rw [List.length_set, wordsC_len]; omega)]
theorem wordsC_val : ∀ (n : Nat) {bs : List Nat}, bs.length ≤ 4 * n → valG W32 (wordsC bs 0 n) = valG 256 bs
  | 0, bs, h => by
    have : bs = [] := List.eq_nil_of_length_eq_zero (by omega)
    subst this
    rfl
  | n + 1, bs, h => by
    have e1 : wordsC bs 0 (n + 1) = wAt bs 0 0 :: wordsC (bs.drop 4) 0 n := by
      unfold wordsC
      rw [List.range_succ_eq_map, List.map_cons, List.map_map]
      congr 1
      refine List.map_congr_left fun j _ => ?_
      have hd : ∀ i, (bs.drop 4).getD i 0 = bs.getD (i + 4) 0 := fun i => by
        rw [List.getD_eq_getElem?_getD, List.getD_eq_getElem?_getD, List.getElem?_drop, Nat.add_comm]
      show wAt bs 0 (j + 1) = wAt (bs.drop 4) 0 j
      unfold wAt
      rw [if_pos (by omega), if_pos (by omega), if_pos (by omega), if_pos (by omega), if_pos (by omega), if_pos (by omega), if_pos (by omega), if_pos (by omega), hd, hd, hd, hd]
      rw [show 4 * (j + 1) = 4 * j + 4 by omega, show 4 * j + 4 + 1 = 4 * j + 1 + 4 by omega, show 4 * j + 4 + 2 = 4 * j + 2 + 4 by omega, show 4 * j + 4 + 3 = 4 * j + 3 + 4 by omega]
    rw [e1, valG, wordsC_val n (bs := bs.drop 4) (by rw [List.length_drop]; omega)]
    have e2 : ∀ l : List Nat, valG 256 l = l.getD 0 0 + 256 * valG 256 (l.drop 1) := fun l => by cases l <;> simp [valG]
    have hd : ∀ i m, (bs.drop m).getD i 0 = bs.getD (m + i) 0 := fun i m => by
      rw [List.getD_eq_getElem?_getD, List.getD_eq_getElem?_getD, List.getElem?_drop]
    have v0 := e2 bs
    have v1 := e2 (bs.drop 1)
    have v2 := e2 (bs.drop 2)
    have v3 := e2 (bs.drop 3)
    rw [List.drop_drop, hd] at v1 v2 v3
    unfold wAt
    rw [if_pos (by omega), if_pos (by omega), if_pos (by omega), if_pos (by omega)]
    simp only [Nat.mul_zero, Nat.zero_add, Nat.add_zero, Nat.reduceAdd] at *
    show _ + 4294967296 * _ = _
    omega
end Go.Proofs.YtelfnmohpjkilaaGreatDoor
namespace Go.Proofs.YtelfnmohpjkilaaGreatDoor
def valW : List Nat → Nat
  | [] => 0
  | d :: l => d + 4294967296 * valW l
def okW (l : List Nat) : Prop := ∀ d ∈ l, d < 4294967296
theorem valW_app (l m : List Nat) : valW (l ++ m) = valW l + 4294967296 ^ l.length * valW m := by
  induction l with
  | nil => simp [valW]
  | cons d l ih =>
    rw [List.cons_append, valW, valW, ih, List.length_cons, Nat.pow_succ, Nat.mul_add, Nat.add_assoc, ← Nat.mul_assoc, Nat.mul_comm 4294967296 (4294967296 ^ l.length)]
theorem valW_lt {l : List Nat} (h : okW l) : valW l < 4294967296 ^ l.length := by
  induction l with
  | nil => simp [valW]
  | cons d l ih =>
    have h1 := h d (by simp)
    have h2 := ih fun x hx => h x (by simp [hx])
    rw [valW, List.length_cons, Nat.pow_succ]
    omega
theorem valW_trim (l : List Nat) : valW (trimD l) = valW l := by
  induction l with
  | nil => rfl
  | cons d l ih =>
    unfold trimD
    split
    · rename_i h
      rw [h] at ih
      have h0 : valW l = 0 := ih.symm
      split
      · rename_i hd; show 0 = d + 4294967296 * valW l; omega
      · show d + 4294967296 * 0 = d + 4294967296 * valW l; rw [h0]
    · rename_i e m h
      rw [h] at ih
      rw [valW, ih, valW]
theorem w_trim_ok {l : List Nat} (h : okW l) : okW (trimD l) := by
  induction l with
  | nil => exact h
  | cons d l ih =>
    have h2 := ih fun x hx => h x (by simp [hx])
    have h1 := h d (by simp)
    unfold trimD
    split
    · split
      · intro x hx; cases hx
      · intro x hx; rw [List.mem_singleton.1 hx]; exact h1
    · rename_i e m he
      rw [he] at h2
      intro x hx
      rcases List.mem_cons.1 hx with rfl | hx
      · exact h1
      · exact h2 x hx
theorem valW_take (l : List Nat) (k : Nat) : valW (l.take (k + 1)) = valW (l.take k) + 4294967296 ^ k * l.getD k 0 := by
  rcases Nat.lt_or_ge k l.length with h | h
  · have hd : l[k]? = some l[k] := List.getElem?_eq_getElem h
    rw [List.take_add_one, hd, Option.toList_some, valW_app, List.length_take, Nat.min_eq_left (by omega), List.getD_eq_getElem?_getD, hd]
    simp [valW]
  · rw [List.take_of_length_le (by omega), List.take_of_length_le h, List.getD_eq_getElem?_getD, List.getElem?_eq_none h]
    simp
theorem valW_snoc (l : List Nat) (d : Nat) : valW (l ++ [d]) = valW l + 4294967296 ^ l.length * d := by
  rw [valW_app]
  simp [valW]
theorem okW_snoc {l : List Nat} (h : okW l) {d : Nat} (hd : d < 4294967296) : okW (l ++ [d]) := by
  intro x hx
  rcases List.mem_append.1 hx with hx | hx
  · exact h x hx
  · rw [List.mem_singleton.1 hx]; exact hd
theorem w_getD_lt {l : List Nat} (h : okW l) (k : Nat) : l.getD k 0 < 4294967296 := by
  rw [List.getD_eq_getElem?_getD]
  cases hk : l[k]? with
  | none => simp
  | some x => exact h x (List.mem_of_getElem? hk)
theorem w_plus_step {a b out : List Nat} {k cy d : Nat} (hl : out.length = k) (h : valW out + 4294967296 ^ k * cy = valW (a.take k) + valW (b.take k)) (hd : d = cy + a.getD k 0 + b.getD k 0) :
    valW (out ++ [d % 4294967296]) + 4294967296 ^ (k + 1) * (d / 4294967296) = valW (a.take (k + 1)) + valW (b.take (k + 1)) := by
  rw [valW_snoc, valW_take, valW_take, hl]
  have e : 4294967296 ^ k * (d % 4294967296) + 4294967296 ^ (k + 1) * (d / 4294967296) = 4294967296 ^ k * d := by
    rw [Nat.pow_succ, Nat.mul_assoc, ← Nat.mul_add, Nat.mod_add_div]
  have e2 : 4294967296 ^ k * d = 4294967296 ^ k * cy + 4294967296 ^ k * a.getD k 0 + 4294967296 ^ k * b.getD k 0 := by rw [hd, Nat.mul_add, Nat.mul_add]
  omega
theorem w_val_ge {l : List Nat} (h : trimD l = l) (hne : l ≠ []) : 4294967296 ^ (l.length - 1) ≤ valW l := by
  obtain ⟨m, d, rfl, hd⟩ := trim_self h hne
  rw [valW_snoc, List.length_append, List.length_singleton, Nat.add_sub_cancel]
  have : 4294967296 ^ m.length * 1 ≤ 4294967296 ^ m.length * d := Nat.mul_le_mul_left _ (by omega)
  omega
theorem w_val_len {a b : List Nat} (oa : okW a) (tb : trimD b = b) (h : a.length < b.length) : valW a < valW b := by
  have h1 := valW_lt oa
  have hne : b ≠ [] := fun e => by rw [e] at h; simp at h
  have h2 := w_val_ge tb hne
  have h3 : 4294967296 ^ a.length ≤ 4294967296 ^ (b.length - 1) := Nat.pow_le_pow_right (by omega) (by omega)
  omega
theorem valW_at {l : List Nat} {i : Nat} (hi : i < l.length) : valW l = valW (l.take i) + 4294967296 ^ i * (l.getD i 0 + 4294967296 * valW (l.drop (i + 1))) := by
  have e : l = l.take i ++ (l.getD i 0 :: l.drop (i + 1)) := by
    have hd : l.getD i 0 = l[i] := by rw [List.getD_eq_getElem?_getD, List.getElem?_eq_getElem hi]; rfl
    rw [hd, ← List.drop_eq_getElem_cons hi, List.take_append_drop]
  conv => lhs; rw [e]
  rw [valW_app, List.length_take, Nat.min_eq_left (by omega), valW]
theorem w_val_less {a b : List Nat} (oa : okW a) (hl : a.length = b.length) {i : Nat} (hi : i < a.length) (hd : a.drop (i + 1) = b.drop (i + 1)) (h : a.getD i 0 < b.getD i 0) : valW a < valW b := by
  rw [valW_at hi, valW_at (l := b) (i := i) (by omega), hd]
  have h1 : valW (a.take i) < 4294967296 ^ i := by
    have := valW_lt (l := a.take i) (fun x hx => oa x (List.mem_of_mem_take hx))
    rw [List.length_take, Nat.min_eq_left (by omega)] at this
    exact this
  have h2 : 4294967296 ^ i * (a.getD i 0 + 4294967296 * valW (b.drop (i + 1)) + 1) ≤ 4294967296 ^ i * (b.getD i 0 + 4294967296 * valW (b.drop (i + 1))) := Nat.mul_le_mul_left _ (by omega)
  rw [Nat.mul_succ] at h2
  omega
theorem w_minus_step {a b out : List Nat} {k cy d q : Nat} (hl : out.length = k) (h : valW out + valW (b.take k) = valW (a.take k) + 4294967296 ^ k * cy) (hd : d + b.getD k 0 + cy = a.getD k 0 + 4294967296 * q) :
    valW (out ++ [d]) + valW (b.take (k + 1)) = valW (a.take (k + 1)) + 4294967296 ^ (k + 1) * q := by
  rw [valW_snoc, valW_take, valW_take, hl]
  have e2 : 4294967296 ^ k * d + 4294967296 ^ k * b.getD k 0 + 4294967296 ^ k * cy = 4294967296 ^ k * a.getD k 0 + 4294967296 ^ (k + 1) * q := by
    rw [Nat.pow_succ, Nat.mul_assoc, ← Nat.mul_add, ← Nat.mul_add, ← Nat.mul_add, hd]
  omega
theorem w_minus_end {a b out : List Nat} {m cy : Nat} (ho : okW out) (hl : out.length = m) (hba : valW b ≤ valW a) (h : valW out + valW b = valW a + 4294967296 ^ m * cy) (hcy : cy ≤ 1) : valW out + valW b = valW a := by
  have h1 := valW_lt ho
  rw [hl] at h1
  rcases (show cy = 0 ∨ cy = 1 by omega) with rfl | rfl <;> omega
theorem valW_set : ∀ {L : List Nat} {j v : Nat}, j < L.length → valW (L.set j v) + 4294967296 ^ j * L.getD j 0 = valW L + 4294967296 ^ j * v
  | d :: L, 0, v, _ => by simp only [List.set_cons_zero, valW, List.getD_cons_zero, Nat.pow_zero, Nat.one_mul]; omega
  | d :: L, j + 1, v, h => by
    have ih := valW_set (L := L) (j := j) (v := v) (by simpa using h)
    simp only [List.set_cons_succ, valW, List.getD_cons_succ, Nat.pow_succ]
    have e1 : 4294967296 ^ j * 4294967296 * L.getD j 0 = 4294967296 * (4294967296 ^ j * L.getD j 0) := by rw [Nat.mul_comm (4294967296 ^ j) 4294967296, Nat.mul_assoc]
    have e2 : 4294967296 ^ j * 4294967296 * v = 4294967296 * (4294967296 ^ j * v) := by rw [Nat.mul_comm (4294967296 ^ j) 4294967296, Nat.mul_assoc]
    rw [e1, e2]
    omega
theorem okW_set {L : List Nat} (h : okW L) {j v : Nat} (hv : v < 4294967296) : okW (L.set j v) := by
  intro x hx
  rcases List.mem_or_eq_of_mem_set hx with hx | rfl
  · exact h x hx
  · exact hv
theorem w_times_step {L a b : List Nat} {i k cy T d : Nat} (hj : i + k < L.length) (h : valW L + cy * 4294967296 ^ (i + k) = T + a.getD i 0 * valW (b.take k) * 4294967296 ^ i) (hd : d = L.getD (i + k) 0 + a.getD i 0 * b.getD k 0 + cy) :
    valW (L.set (i + k) (d % 4294967296)) + d / 4294967296 * 4294967296 ^ (i + (k + 1)) = T + a.getD i 0 * valW (b.take (k + 1)) * 4294967296 ^ i := by
  have h1 := valW_set (v := d % 4294967296) hj
  rw [valW_take]
  have e : 4294967296 ^ (i + k) * (d % 4294967296) + d / 4294967296 * 4294967296 ^ (i + (k + 1)) = 4294967296 ^ (i + k) * d := by
    rw [show i + (k + 1) = (i + k) + 1 by omega, Nat.pow_succ, Nat.mul_comm (d / 4294967296), Nat.mul_assoc, ← Nat.mul_add, Nat.mod_add_div]
  have e2 : 4294967296 ^ (i + k) * d = 4294967296 ^ (i + k) * L.getD (i + k) 0 + 4294967296 ^ (i + k) * (a.getD i 0 * b.getD k 0) + cy * 4294967296 ^ (i + k) := by rw [hd, Nat.mul_add, Nat.mul_add, Nat.mul_comm cy]
  have e3 : a.getD i 0 * (valW (b.take k) + 4294967296 ^ k * b.getD k 0) * 4294967296 ^ i = a.getD i 0 * valW (b.take k) * 4294967296 ^ i + 4294967296 ^ (i + k) * (a.getD i 0 * b.getD k 0) := by
    rw [Nat.mul_add, Nat.add_mul, Nat.pow_add]
    congr 1
    simp only [Nat.mul_comm, Nat.mul_assoc, Nat.mul_left_comm]
  rw [e3]
  omega
theorem w_times_row {L a b : List Nat} {i n cy : Nat} (hj : i + n < L.length) (hn : b.length = n) (h0 : L.getD (i + n) 0 = 0) (h : valW L + cy * 4294967296 ^ (i + n) = valW (a.take i) * valW b + a.getD i 0 * valW (b.take n) * 4294967296 ^ i) :
    valW (L.set (i + n) cy) = valW (a.take (i + 1)) * valW b := by
  have h1 := valW_set (v := cy) hj
  rw [h0, Nat.mul_zero, Nat.add_zero] at h1
  rw [h1, valW_take, Nat.add_mul, Nat.mul_comm (4294967296 ^ (i + n)), h, List.take_of_length_le (l := b) (by omega)]
  congr 1
  simp only [Nat.mul_comm, Nat.mul_assoc, Nat.mul_left_comm]
theorem valW_zeros (n : Nat) : valW (List.replicate n 0) = 0 := by
  induction n with
  | zero => rfl
  | succ n ih => rw [List.replicate_succ, valW, ih]
theorem valW_G (l : List Nat) : valW l = valG W32 l := by
  induction l with
  | nil => rfl
  | cons d l ih => rw [valW, valG, ih]
theorem word_prod {x y z cy : Nat} (hx : x < 4294967296) (hy : y < 4294967296) (hz : z < 4294967296) (hc : cy < 4294967296) : x * y ≤ 18446744065119617025 ∧ z + x * y + cy < 18446744073709551616 ∧ (z + x * y + cy) / 4294967296 < 4294967296 := by
  have h1 : x * y ≤ 4294967295 * 4294967295 := Nat.mul_le_mul (by omega) (by omega)
  omega
end Go.Proofs.YtelfnmohpjkilaaGreatDoor
