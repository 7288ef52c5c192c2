/- Joined texts: Word. -/
import Derived.Test.YtelfnmohpjkilaaGreatDoorCB3
import Derived.Test.YtelfnmohpjkilaaGreatDoorCB4
import Derived.Test.YtelfnmohpjkilaaGreatDoorCB11
/- Words about the values of operations that run in any order; each lies on where only new blocks are made. -/
namespace Go.Proofs.YtelfnmohpjkilaaGreatDoor
open Go.RowKit
theorem wpOp_of_list_g {P : Program} {ops : Array Oper} {Q : Exit → Act → World → Prop} {i g : Nat} {d : Tmp} {o : Oper} {K : Act → World → Prop} {a : Act} {w : World} (ho : ops[i]? = some o) (hg : o.guard = some (g, true)) (hd : dstOf ops g = some d) (ht : a.tmps[d]? = some (.bool true))
    (h : wpList P ops (Exit.then K Q) [{ o with guard := none }] a w) : wpOp P ops Q i K a w := by
  have hl : LetsOut (Exit.then K Q) → LetsOut Q := fun ⟨a, w, h⟩ => ⟨a, w, h⟩
  have hw : Region.wanted o (yielded ops a.tmps) = true := by
    unfold dstOf at hd
    simp [Region.wanted, hg, yielded, hd, ht]
  have e1 : ({ o with guard := none } : Oper).wp P a w (wpList P ops (Exit.then K Q) []) (Exit.then K Q) = o.wp P a w (wpList P ops (Exit.then K Q) []) (Exit.then K Q) := rfl
  have e2 : ({ o with guard := none } : Oper).asks P a w = o.asks P a w := rfl
  unfold wpOp
  simp only [ho, hw, if_true]
  unfold wpList at h
  rw [e1, e2] at h
  simp only [Region.wanted, if_true] at h
  rcases h with h | ⟨h1, h2⟩
  · left
    unfold Oper.wp at *
    generalize (execOp a.eval o).run P w = res at *
    cases res with
    | ok n w' =>
      cases n <;> simp only [Oper.upon] at h ⊢ <;>
        first
          | exact h
          | exact Calls.mono h (fun e w'' he => by cases e <;> first | exact he | exact hl he)
          | exact Rows.mono h (fun _ _ he => he)
    | halt x w' => cases x <;> simp only [Oper.upon] at h ⊢ <;> exact h
  · exact .inr ⟨h1, hl h2⟩
/-- The operations of a region. -/
def regOps (id : Nat) : Code → Option (Array Oper)
  | .region i ops _ => if i = id then some ops else none
  | .seq a b => (regOps id a).or (regOps id b)
  | .cond _ a b => (regOps id a).or (regOps id b)
  | .block _ a => regOps id a
  | .loop a => regOps id a
  | .rangeFunc _ _ a b => (regOps id a).or (regOps id b)
  | .scope a => regOps id a
  | _ => none
def opsOf (f : Func) (id : Nat) : Array Oper := ((f.body.bind (regOps id)).getD #[])
inductive Word where
  | any
  | is (v : Value)
  | tris (xs : List Tri)
  | lists (ls : List (List Tri))
  | nats (xs : List Nat)
  | natls (ls : List (List Nat))
  | ptr (p : List Tri)
  | len (n : Nat)
def Word.met : Word → Value → World → Prop
  | .any, _, _ => True
  | .is v, u, _ => u = v
  | .tris xs, u, w => ∃ A c, u = .slice A xs.length c ∧ xs.length ≤ c ∧ Sl encT 9 w w.heap.size A xs
  | .lists ls, u, w => ∃ A c, u = .slice A ls.length c ∧ ls.length ≤ c ∧ LstE encT 9 w w.heap.size A ls
  | .nats xs, u, w => ∃ A c, u = .slice A xs.length c ∧ xs.length ≤ c ∧ Sl encI 1 w w.heap.size A xs
  | .natls ls, u, w => ∃ A c, u = .slice A ls.length c ∧ ls.length ≤ c ∧ LstE encI 1 w w.heap.size A ls
  | .ptr p, u, w => ∃ b o A c, u = .pointer (some ⟨b, o, none⟩) ∧ b < w.heap.size ∧ w.cell? ⟨b, o, none⟩ = some (.slice A p.length c) ∧ Sl encT 9 w w.heap.size A p
  | .len n, u, _ => ∃ A c, u = .slice A n c
def RB (x y : World) : Prop := Below x.heap.size x y
theorem RB.refl (x : World) : RB x x := Below.refl _ x
theorem RB.trans (x y z : World) (h : RB x y) (k : RB y z) : RB x z := Below.trans h (Below.mono k h.size)
theorem RB.drew (x : World) : RB x x.drew := (Below.refl _ x).drew
theorem RB.drewN (x : World) (n : Nat) : RB x (x.drewN n) := below_drewN (Below.refl _ x) n
theorem RB.alloc (x : World) (o : Obj) : RB x (x.alloc o) := (Below.refl _ x).alloc (Nat.le_refl _) o
theorem Word.keeps (W : Word) (v : Value) (w w' : World) (h : W.met v w) (hR : RB w w') : W.met v w' := by
  have hsz := hR.size
  cases W with
  | any => trivial
  | is u => exact h
  | len n => exact h
  | tris xs => obtain ⟨A, c, h1, h2, h3⟩ := h; exact ⟨A, c, h1, h2, (h3.below hR).more hsz⟩
  | lists xs => obtain ⟨A, c, h1, h2, h3⟩ := h; exact ⟨A, c, h1, h2, (h3.below hR).more hsz⟩
  | nats xs => obtain ⟨A, c, h1, h2, h3⟩ := h; exact ⟨A, c, h1, h2, (h3.below hR).more hsz⟩
  | natls xs => obtain ⟨A, c, h1, h2, h3⟩ := h; exact ⟨A, c, h1, h2, (h3.below hR).more hsz⟩
  | ptr p => obtain ⟨b, o, A, c, h1, h2, h3, h4⟩ := h; exact ⟨b, o, A, c, h1, by omega, (hR.cell (p := ⟨b, o, none⟩) h2).trans h3, (h4.below hR).more hsz⟩
def wordAt (wd : List Word) (i : Nat) (v : Value) (w : World) : Prop := (wd.getD i .any).met v w
theorem wordAt_keeps (wd : List Word) (i : Nat) (v : Value) (w w' : World) (h : wordAt wd i v w) (hR : RB w w') : wordAt wd i v w' := Word.keeps _ _ _ _ h hR
/-- A slice literal's block reads as what it holds. -/
theorem Sl.ofBlk {α : Type} {enc : α → List Value} {k : Nat} {w : World} {g : Nat} {t : TypeId} {cs : Array Value} {xs : List α} (hk : ∀ x, (enc x).length = k) (hb : Blk w g t cs) (hc : cs.toList = xs.flatMap enc) : Sl enc k w w.heap.size (some ⟨g, 0, none⟩) xs := by
  refine .inr ⟨g, 0, rfl, hb.lt, fun i x hx j u hu => ?_⟩
  have := flat_get hk xs i x hx j u hu
  rw [Nat.zero_add, hb.cell, ← this, ← hc, Array.getElem?_toList]
def Each {α : Type} (enc : α → List Value) (k : Nat) (w : World) : List Hdr → List (List α) → Prop
  | [], [] => True
  | (A, n, _) :: hs, p :: ps => n = p.length ∧ Sl enc k w w.heap.size A p ∧ Each enc k w hs ps
  | _, _ => False
theorem Each.at {α : Type} {enc : α → List Value} {k : Nat} {w : World} : ∀ {hs : List Hdr} {ps : List (List α)}, Each enc k w hs ps → ∀ (i : Nat) (p : List α), ps[i]? = some p → ∃ A' c', hs[i]? = some (A', p.length, c') ∧ Sl enc k w w.heap.size A' p
  | [], [], _, i, p, h => by simp at h
  | (A, n, c) :: hs, q :: ps, ⟨h1, h2, h3⟩, 0, p, h => by
    simp only [List.getElem?_cons_zero, Option.some.injEq] at h
    subst h
    exact ⟨A, c, by rw [h1]; rfl, h2⟩
  | (A, n, c) :: hs, q :: ps, ⟨h1, h2, h3⟩, i + 1, p, h => by
    simp only [List.getElem?_cons_succ] at h ⊢
    exact Each.at h3 i p h
  | [], _ :: _, h, _, _, _ => h.elim
  | _ :: _, [], h, _, _, _ => by cases h
theorem LstE.ofBlk {α : Type} {enc : α → List Value} {k : Nat} {w : World} {g : Nat} {t : TypeId} {cs : Array Value} {ls : List (List α)} {hs : List Hdr} (hl : hs.length = ls.length) (hb : Blk w g t cs) (hc : cs.toList = hs.flatMap encS) (h : Each enc k w hs ls) : LstE enc k w w.heap.size (some ⟨g, 0, none⟩) ls :=
  ⟨hs, hl, Sl.ofBlk encS_len hb hc, h.at⟩
theorem cells9 {w : World} {b : Nat} {ty : TypeId} {t : Tri} (h : Blk w b ty (encT t).toArray) : CellsT w b 0 t := ⟨h.cell 0, h.cell 1, h.cell 2, h.cell 3, h.cell 4, h.cell 5, h.cell 6, h.cell 7, h.cell 8⟩
theorem cells9z {w : World} {b : Nat} {ty : TypeId} {t : Tri} (h : Blk w b ty (encT t).toArray) : w.cell? ⟨b, 0, none⟩ = some (.int .i64 t.1.1) ∧ w.cell? ⟨b, 1, none⟩ = some (.int .i64 t.1.2.1) ∧ w.cell? ⟨b, 2, none⟩ = some (.int .i64 t.1.2.2) ∧ w.cell? ⟨b, 3, none⟩ = some (.int .i64 t.2.1.1) ∧ w.cell? ⟨b, 4, none⟩ = some (.int .i64 t.2.1.2.1) ∧ w.cell? ⟨b, 5, none⟩ = some (.int .i64 t.2.1.2.2) ∧ w.cell? ⟨b, 6, none⟩ = some (.int .i64 t.2.2.1) ∧ w.cell? ⟨b, 7, none⟩ = some (.int .i64 t.2.2.2.1) ∧ w.cell? ⟨b, 8, none⟩ = some (.int .i64 t.2.2.2.2) := ⟨h.cell 0, h.cell 1, h.cell 2, h.cell 3, h.cell 4, h.cell 5, h.cell 6, h.cell 7, h.cell 8⟩
end Go.Proofs.YtelfnmohpjkilaaGreatDoor
