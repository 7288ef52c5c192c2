/- Joined texts: Word SanAct. -/
import Derived.Test.YtgndbpkgehjelaaCB2
import Derived.Test.YtgndbpkgehjelaaCB3
import Derived.Test.YtgndbpkgehjelaaCB7
/- Words about the values of operations that run in any order; each lies on where only new blocks are made. -/
namespace Go.Proofs.Ytgndbpkgehjelaa
open Go.RowKit
theorem wpOp_of_list_g {P : Program} {ops : Array Oper} {Q : Exit → Act → World → Prop} {i g : Nat} {d : Tmp} {o : Oper} {K : Act → World → Prop} {a : Act} {w : World} (ho : ops[i]? = some o) (hg : o.guard = some (g, true)) (hd : dstOf ops g = some d) (ht : a.tmps[d]? = some (.bool true))
    (h : wpList P ops (Exit.then K Q) [{ o with guard := none }] a w) : wpOp P ops Q i K a w := by
  have hl : LetsOut (Exit.then K Q) → LetsOut Q := fun ⟨a, w, h⟩ => ⟨a, w, h⟩
  have hw : Region.wanted o (yielded ops a.tmps) = true := by
    unfold dstOf at hd
    simp [Region.wanted, hg, yielded, hd, ht]
  have e1 : ({ o with guard := none } : Oper).wp P a w (wpList P ops (Exit.then K Q) []) (Exit.then K Q) = o.wp P a w (wpList P ops (Exit.then K Q) []) (Exit.then K Q) := rfl
  have e2 : ({ o with guard := none } : Oper).asks P a w = o.asks P a w := rfl
  unfold wpOp
  simp only [ho, hw, if_true]
  unfold wpList at h
  rw [e1, e2] at h
  simp only [Region.wanted, if_true] at h
  rcases h with h | ⟨h1, h2⟩
  · left
    unfold Oper.wp at *
    generalize (execOp a.eval o).run P w = res at *
    cases res with
    | ok n w' =>
      cases n <;> simp only [Oper.upon] at h ⊢ <;>
        first
          | exact h
          | exact Calls.mono h (fun e w'' he => by cases e <;> first | exact he | exact hl he)
          | exact Rows.mono h (fun _ _ he => he)
    | halt x w' => cases x <;> simp only [Oper.upon] at h ⊢ <;> exact h
  · exact .inr ⟨h1, hl h2⟩
/-- The operations of a region. -/
def regOps (id : Nat) : Code → Option (Array Oper)
  | .region i ops _ => if i = id then some ops else none
  | .seq a b => (regOps id a).or (regOps id b)
  | .cond _ a b => (regOps id a).or (regOps id b)
  | .block _ a => regOps id a
  | .loop a => regOps id a
  | .rangeFunc _ _ a b => (regOps id a).or (regOps id b)
  | .scope a => regOps id a
  | _ => none
def opsOf (f : Func) (id : Nat) : Array Oper := ((f.body.bind (regOps id)).getD #[])
inductive Word where
  | any
  | is (v : Value)
  | tris (xs : List Tri)
  | lists (ls : List (List Tri))
  | nats (xs : List Nat)
  | natls (ls : List (List Nat))
  | ptr (p : List Tri)
  | len (n : Nat)
def Word.met : Word → Value → World → Prop
  | .any, _, _ => True
  | .is v, u, _ => u = v
  | .tris xs, u, w => ∃ A c, u = .slice A xs.length c ∧ xs.length ≤ c ∧ Sl encT 9 w w.heap.size A xs
  | .lists ls, u, w => ∃ A c, u = .slice A ls.length c ∧ ls.length ≤ c ∧ LstE encT 9 w w.heap.size A ls
  | .nats xs, u, w => ∃ A c, u = .slice A xs.length c ∧ xs.length ≤ c ∧ Sl encI 1 w w.heap.size A xs
  | .natls ls, u, w => ∃ A c, u = .slice A ls.length c ∧ ls.length ≤ c ∧ LstE encI 1 w w.heap.size A ls
  | .ptr p, u, w => ∃ b o A c, u = .pointer (some ⟨b, o, none⟩) ∧ b < w.heap.size ∧ w.cell? ⟨b, o, none⟩ = some (.slice A p.length c) ∧ Sl encT 9 w w.heap.size A p
  | .len n, u, _ => ∃ A c, u = .slice A n c
def RB (x y : World) : Prop := Below x.heap.size x y
theorem RB.refl (x : World) : RB x x := Below.refl _ x
theorem RB.trans (x y z : World) (h : RB x y) (k : RB y z) : RB x z := Below.trans h (Below.mono k h.size)
theorem RB.drew (x : World) : RB x x.drew := (Below.refl _ x).drew
theorem RB.drewN (x : World) (n : Nat) : RB x (x.drewN n) := below_drewN (Below.refl _ x) n
theorem RB.alloc (x : World) (o : Obj) : RB x (x.alloc o) := (Below.refl _ x).alloc (Nat.le_refl _) o
theorem Word.keeps (W : Word) (v : Value) (w w' : World) (h : W.met v w) (hR : RB w w') : W.met v w' := by
  have hsz := hR.size
  cases W with
  | any => trivial
  | is u => exact h
  | len n => exact h
  | tris xs => obtain ⟨A, c, h1, h2, h3⟩ := h; exact ⟨A, c, h1, h2, (h3.below hR).more hsz⟩
  | lists xs => obtain ⟨A, c, h1, h2, h3⟩ := h; exact ⟨A, c, h1, h2, (h3.below hR).more hsz⟩
  | nats xs => obtain ⟨A, c, h1, h2, h3⟩ := h; exact ⟨A, c, h1, h2, (h3.below hR).more hsz⟩
  | natls xs => obtain ⟨A, c, h1, h2, h3⟩ := h; exact ⟨A, c, h1, h2, (h3.below hR).more hsz⟩
  | ptr p => obtain ⟨b, o, A, c, h1, h2, h3, h4⟩ := h; exact ⟨b, o, A, c, h1, by omega, (hR.cell (p := ⟨b, o, none⟩) h2).trans h3, (h4.below hR).more hsz⟩
def wordAt (wd : List Word) (i : Nat) (v : Value) (w : World) : Prop := (wd.getD i .any).met v w
theorem wordAt_keeps (wd : List Word) (i : Nat) (v : Value) (w w' : World) (h : wordAt wd i v w) (hR : RB w w') : wordAt wd i v w' := Word.keeps _ _ _ _ h hR
/-- A slice literal's block reads as what it holds. -/
theorem Sl.ofBlk {α : Type} {enc : α → List Value} {k : Nat} {w : World} {g : Nat} {t : TypeId} {cs : Array Value} {xs : List α} (hk : ∀ x, (enc x).length = k) (hb : Blk w g t cs) (hc : cs.toList = xs.flatMap enc) : Sl enc k w w.heap.size (some ⟨g, 0, none⟩) xs := by
  refine .inr ⟨g, 0, rfl, hb.lt, fun i x hx j u hu => ?_⟩
  have := flat_get hk xs i x hx j u hu
  rw [Nat.zero_add, hb.cell, ← this, ← hc, Array.getElem?_toList]
def Each {α : Type} (enc : α → List Value) (k : Nat) (w : World) : List Hdr → List (List α) → Prop
  | [], [] => True
  | (A, n, _) :: hs, p :: ps => n = p.length ∧ Sl enc k w w.heap.size A p ∧ Each enc k w hs ps
  | _, _ => False
theorem Each.at {α : Type} {enc : α → List Value} {k : Nat} {w : World} : ∀ {hs : List Hdr} {ps : List (List α)}, Each enc k w hs ps → ∀ (i : Nat) (p : List α), ps[i]? = some p → ∃ A' c', hs[i]? = some (A', p.length, c') ∧ Sl enc k w w.heap.size A' p
  | [], [], _, i, p, h => by simp at h
  | (A, n, c) :: hs, q :: ps, ⟨h1, h2, h3⟩, 0, p, h => by
    simp only [List.getElem?_cons_zero, Option.some.injEq] at h
    subst h
    exact ⟨A, c, by rw [h1]; rfl, h2⟩
  | (A, n, c) :: hs, q :: ps, ⟨h1, h2, h3⟩, i + 1, p, h => by
    simp only [List.getElem?_cons_succ] at h ⊢
    exact Each.at h3 i p h
  | [], _ :: _, h, _, _, _ => h.elim
  | _ :: _, [], h, _, _, _ => by cases h
theorem LstE.ofBlk {α : Type} {enc : α → List Value} {k : Nat} {w : World} {g : Nat} {t : TypeId} {cs : Array Value} {ls : List (List α)} {hs : List Hdr} (hl : hs.length = ls.length) (hb : Blk w g t cs) (hc : cs.toList = hs.flatMap encS) (h : Each enc k w hs ls) : LstE enc k w w.heap.size (some ⟨g, 0, none⟩) ls :=
  ⟨hs, hl, Sl.ofBlk encS_len hb hc, h.at⟩
theorem cells9 {w : World} {b : Nat} {ty : TypeId} {t : Tri} (h : Blk w b ty (encT t).toArray) : CellsT w b 0 t := ⟨h.cell 0, h.cell 1, h.cell 2, h.cell 3, h.cell 4, h.cell 5, h.cell 6, h.cell 7, h.cell 8⟩
theorem cells9z {w : World} {b : Nat} {ty : TypeId} {t : Tri} (h : Blk w b ty (encT t).toArray) : w.cell? ⟨b, 0, none⟩ = some (.int .i64 t.1.1) ∧ w.cell? ⟨b, 1, none⟩ = some (.int .i64 t.1.2.1) ∧ w.cell? ⟨b, 2, none⟩ = some (.int .i64 t.1.2.2) ∧ w.cell? ⟨b, 3, none⟩ = some (.int .i64 t.2.1.1) ∧ w.cell? ⟨b, 4, none⟩ = some (.int .i64 t.2.1.2.1) ∧ w.cell? ⟨b, 5, none⟩ = some (.int .i64 t.2.1.2.2) ∧ w.cell? ⟨b, 6, none⟩ = some (.int .i64 t.2.2.1) ∧ w.cell? ⟨b, 7, none⟩ = some (.int .i64 t.2.2.2.1) ∧ w.cell? ⟨b, 8, none⟩ = some (.int .i64 t.2.2.2.2) := ⟨h.cell 0, h.cell 1, h.cell 2, h.cell 3, h.cell 4, h.cell 5, h.cell 6, h.cell 7, h.cell 8⟩
end Go.Proofs.Ytgndbpkgehjelaa
/- The frames of law13.sanity's drawn regions. Printed by mk_SanAct.py. -/
namespace Go.Proofs.Ytgndbpkgehjelaa
open Go.RowKit
theorem Blk.far9 {w : World} {g g' : Nat} {t : TypeId} {cs : Array Value} (h : Blk w g t cs) (hg : g ≠ g') (x0 x1 x2 x3 x4 x5 x6 x7 x8 : Value) : Blk (((((((((w.setCell ⟨g', 0, none⟩ x0).setCell ⟨g', 1, none⟩ x1).setCell ⟨g', 2, none⟩ x2).setCell ⟨g', 3, none⟩ x3).setCell ⟨g', 4, none⟩ x4).setCell ⟨g', 5, none⟩ x5).setCell ⟨g', 6, none⟩ x6).setCell ⟨g', 7, none⟩ x7).setCell ⟨g', 8, none⟩ x8) g t cs :=
  ((((((((h.far (p := ⟨g', 0, none⟩) hg x0).far (p := ⟨g', 1, none⟩) hg x1).far (p := ⟨g', 2, none⟩) hg x2).far (p := ⟨g', 3, none⟩) hg x3).far (p := ⟨g', 4, none⟩) hg x4).far (p := ⟨g', 5, none⟩) hg x5).far (p := ⟨g', 6, none⟩) hg x6).far (p := ⟨g', 7, none⟩) hg x7).far (p := ⟨g', 8, none⟩) hg x8
set_option maxRecDepth 10000 in
theorem san_act4 (x0 x1 x2 x3 x4 x5 x6 x7 x8 x9 x10 x11 x12 x13 x14 x15 x16 x17 x18 x19 x20 x21 x22 x23 x24 x25 x26 x27 x28 x29 x30 x31 x32 x33 x34 x35 x36 x37 x38 x39 x40 x41 x42 x43 x44 x45 x46 x47 x48 x49 x50 x51 x52 x53 x54 x55 x56 x57 x58 x59 x60 x61 x62 x63 x64 x65 x66 x67 x68 x69 x70 x71 x72 x73 x74 x75 x76 x77 x78 x79 x80 x81 x82 x83 x84 x85 x86 x87 x88 x89 x90 : Value) (d : _) (vals : Nat → Value) : actL [(0, 19), (1, 20), (2, 21), (3, 22), (4, 4), (5, 5)] { tmps := #[x0, x1, x2, x3, x4, x5, x6, x7, x8, x9, x10, x11, x12, x13, x14, x15, x16, x17, x18, x19, x20, x21, x22, x23, x24, x25, x26, x27, x28, x29, x30, x31, x32, x33, x34, x35, x36, x37, x38, x39, x40, x41, x42, x43, x44, x45, x46, x47, x48, x49, x50, x51, x52, x53, x54, x55, x56, x57, x58, x59, x60, x61, x62, x63, x64, x65, x66, x67, x68, x69, x70, x71, x72, x73, x74, x75, x76, x77, x78, x79, x80, x81, x82, x83, x84, x85, x86, x87, x88, x89, x90], defers := d } vals = { tmps := #[x0, x1, x2, x3, vals 4, vals 5, x6, x7, x8, x9, x10, x11, x12, x13, x14, x15, x16, x17, x18, vals 0, vals 1, vals 2, vals 3, x23, x24, x25, x26, x27, x28, x29, x30, x31, x32, x33, x34, x35, x36, x37, x38, x39, x40, x41, x42, x43, x44, x45, x46, x47, x48, x49, x50, x51, x52, x53, x54, x55, x56, x57, x58, x59, x60, x61, x62, x63, x64, x65, x66, x67, x68, x69, x70, x71, x72, x73, x74, x75, x76, x77, x78, x79, x80, x81, x82, x83, x84, x85, x86, x87, x88, x89, x90], defers := d } := by kernel_rfl
set_option maxRecDepth 10000 in
theorem san_act6 (x0 x1 x2 x3 x4 x5 x6 x7 x8 x9 x10 x11 x12 x13 x14 x15 x16 x17 x18 x19 x20 x21 x22 x23 x24 x25 x26 x27 x28 x29 x30 x31 x32 x33 x34 x35 x36 x37 x38 x39 x40 x41 x42 x43 x44 x45 x46 x47 x48 x49 x50 x51 x52 x53 x54 x55 x56 x57 x58 x59 x60 x61 x62 x63 x64 x65 x66 x67 x68 x69 x70 x71 x72 x73 x74 x75 x76 x77 x78 x79 x80 x81 x82 x83 x84 x85 x86 x87 x88 x89 x90 : Value) (d : _) (vals : Nat → Value) : actL [(0, 30), (1, 31), (2, 32), (3, 33), (4, 34), (5, 35), (6, 36), (7, 37), (8, 38), (9, 39), (10, 40), (11, 41), (12, 42), (13, 43), (14, 44), (15, 45), (16, 46), (17, 47), (18, 48), (19, 49), (20, 50), (21, 51), (22, 52), (23, 53), (24, 54), (25, 55), (26, 56), (27, 57), (28, 58), (29, 59), (30, 60), (31, 61), (32, 62), (33, 63), (34, 64), (35, 65), (36, 66), (37, 67), (38, 68), (39, 69), (40, 70), (41, 71), (42, 72), (43, 73), (44, 74), (45, 75), (46, 76), (47, 77), (48, 78), (49, 79), (50, 80), (51, 81), (52, 82), (53, 83), (54, 84), (55, 85), (56, 86), (57, 87), (58, 88), (59, 89), (60, 90), (61, 0)] { tmps := #[x0, x1, x2, x3, x4, x5, x6, x7, x8, x9, x10, x11, x12, x13, x14, x15, x16, x17, x18, x19, x20, x21, x22, x23, x24, x25, x26, x27, x28, x29, x30, x31, x32, x33, x34, x35, x36, x37, x38, x39, x40, x41, x42, x43, x44, x45, x46, x47, x48, x49, x50, x51, x52, x53, x54, x55, x56, x57, x58, x59, x60, x61, x62, x63, x64, x65, x66, x67, x68, x69, x70, x71, x72, x73, x74, x75, x76, x77, x78, x79, x80, x81, x82, x83, x84, x85, x86, x87, x88, x89, x90], defers := d } vals = { tmps := #[vals 61, x1, x2, x3, x4, x5, x6, x7, x8, x9, x10, x11, x12, x13, x14, x15, x16, x17, x18, x19, x20, x21, x22, x23, x24, x25, x26, x27, x28, x29, vals 0, vals 1, vals 2, vals 3, vals 4, vals 5, vals 6, vals 7, vals 8, vals 9, vals 10, vals 11, vals 12, vals 13, vals 14, vals 15, vals 16, vals 17, vals 18, vals 19, vals 20, vals 21, vals 22, vals 23, vals 24, vals 25, vals 26, vals 27, vals 28, vals 29, vals 30, vals 31, vals 32, vals 33, vals 34, vals 35, vals 36, vals 37, vals 38, vals 39, vals 40, vals 41, vals 42, vals 43, vals 44, vals 45, vals 46, vals 47, vals 48, vals 49, vals 50, vals 51, vals 52, vals 53, vals 54, vals 55, vals 56, vals 57, vals 58, vals 59, vals 60], defers := d } := by kernel_rfl
end Go.Proofs.Ytgndbpkgehjelaa
