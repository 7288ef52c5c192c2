/- With Cor Edge Qud Hil Edge2 Bord Beh Pin Chk MshA MshB ShfP Wd8 WdF SanP. -/
import Derived.WalkKit
import Derived.WalkSpells
import Derived.WalkLawsBesides
import Derived.Laws.OwnMore
import Derived.Deep.AppendLies
import Derived.Deep.Draws
import Derived.Maps.AppendAt
import Derived.OwnWalk
import Derived.Sort.Grow
import Derived.Shelf.GgSortFunc.RowK
import Derived.RangeFuncNested
import Derived.RangeFuncBox
import Derived.Test.YtelfnmohpjkilaaGreatDoorRows
import Derived.Handy
import Derived.Maps.Own
import Derived.Maps.Views
import Derived.DeepKeys4
import Derived.DeepKeys
import Derived.Laws.StructEq
import Derived.Deep.QuietTactic
import Derived.BigQuiet
import Derived.LoopN
import Derived.Laws.EntriesVeiled
import Derived.Shelf.SlSortCmp.QuietGrown
import Derived.Deep.RegionHeld3
import Derived.Deep.DrawnRows
import Derived.Sort.Statements
import Derived.Shelf.SlSortCmp.NoneTotal
import Derived.OrdersHeld
import Derived.OrdersIn
import Derived.RangeFuncCalls
import Derived.OwnWalkIn
import Derived.Deep.CutBlock
import Derived.Deep.DeepCutAuto
import Derived.Test.YtelfnmohpjkilaaGreatDoorProg
import Derived.IntWalk
import Derived.Laws.IdiomStrings
import Derived.Test.YtelfnmohpjkilaaGreatDoorQ5
import Derived.Test.YtelfnmohpjkilaaGreatDoorQ19
import Derived.Test.YtelfnmohpjkilaaGreatDoorQ20
namespace Go.Proofs.YtelfnmohpjkilaaGreatDoor
open Go.RowKit Go.Sort
theorem infoPt : (Tryz.prog.info? 41).map (fun i => (i.zero, i.size, i.bytes)) = some (some (.agg #[.int .i64 0, .int .i64 0, .int .i64 0]), 3, 24) := by kernel_rfl
/-- The place of a point among ordered ones. -/
def atP (l : List Pt) (p : Pt) : Nat := (l.takeWhile fun x => ltP x p).length
def withP (l : List Pt) (p : Pt) : List Pt := if l[atP l p]? = some p then l else l.take (atP l p) ++ (p :: l.drop (atP l p))
theorem withP_length (l : List Pt) (p : Pt) : (withP l p).length ≤ l.length + 1 := by
  unfold withP
  split
  · omega
  · simp; omega
theorem Sl.take8 {α : Type} {enc : α → List Value} {k B : Nat} {w : World} {A : Option Addr} {xs : List α} (h : Sl enc k w B A xs) (a : Nat) : Sl enc k w B A (xs.take a) := by
  rcases h with ⟨rfl, h⟩ | ⟨b, o, hA, hb, hc⟩
  · exact .inl ⟨by simp, h⟩
  · refine .inr ⟨b, o, hA, hb, fun i x hx => hc i x ?_⟩
    rw [List.getElem?_take] at hx
    split at hx
    · exact hx
    · cases hx
end Go.Proofs.YtelfnmohpjkilaaGreatDoor
namespace Go.Proofs.YtelfnmohpjkilaaGreatDoor
open Go.RowKit Go.Sort
def corN (l : List Pt) (t : Tri) (j : Nat) : List Pt := if j = 0 then l else if j = 1 then withP l t.1 else if j = 2 then withP (withP l t.1) t.2.1 else withP (withP (withP l t.1) t.2.1) t.2.2
theorem corN_succ (l : List Pt) (t : Tri) {j : Nat} (hj : j < 3) : withP (corN l t j) (corner t j) = corN l t (j + 1) := by
  have hc : j = 0 ∨ j = 1 ∨ j = 2 := by omega
  rcases hc with rfl | rfl | rfl <;> rfl
/-- The corners of triangles, each once, in order. -/
def cornersP (ts : List Tri) : List Pt := ts.foldl (fun l t => corN l t 3) []
theorem corner_fits {t : Tri} (h : fitsT t) (j : Nat) : fitsP (corner t j) := by
  unfold corner
  split
  · exact h.1
  · split
    · exact h.2.1
    · exact h.2.2
theorem CellsT.corner8 {w : World} {b o : Nat} {t : Tri} (h : CellsT w b o t) {j : Nat} (hj : j < 3) :
    w.cell? ⟨b, o + j * 3, none⟩ = some (.int .i64 (corner t j).1) ∧ w.cell? ⟨b, o + j * 3 + 1, none⟩ = some (.int .i64 (corner t j).2.1) ∧ w.cell? ⟨b, o + j * 3 + 2, none⟩ = some (.int .i64 (corner t j).2.2) := by
  obtain ⟨h0, h1, h2, h3, h4, h5, h6, h7, h8⟩ := h
  have hc : j = 0 ∨ j = 1 ∨ j = 2 := by omega
  rcases hc with rfl | rfl | rfl
  · exact ⟨h0, h1, h2⟩
  · exact ⟨h3, h4, h5⟩
  · exact ⟨h6, h7, h8⟩
end Go.Proofs.YtelfnmohpjkilaaGreatDoor
namespace Go.Proofs.YtelfnmohpjkilaaGreatDoor
open Go.RowKit Go.Sort
abbrev Ed := Pt × Pt
def encE (e : Ed) : List Value := [.int .i64 e.1.1, .int .i64 e.1.2.1, .int .i64 e.1.2.2, .int .i64 e.2.1, .int .i64 e.2.2.1, .int .i64 e.2.2.2]
abbrev vE (e : Ed) : Value := .agg #[.int .i64 e.1.1, .int .i64 e.1.2.1, .int .i64 e.1.2.2, .int .i64 e.2.1, .int .i64 e.2.2.1, .int .i64 e.2.2.2]
theorem encE_len (e : Ed) : (encE e).length = 6 := rfl
theorem encE_one (e : Ed) : ∀ u ∈ encE e, u.oneCell' = true := by
  intro u hu
  simp only [encE, List.mem_cons, List.not_mem_nil, or_false] at hu
  rcases hu with rfl | rfl | rfl | rfl | rfl | rfl <;> rfl
theorem infoE : (Tryz.prog.info? 62).map (fun i => (i.zero, i.size, i.bytes)) = some (some (.agg #[.int .i64 0, .int .i64 0, .int .i64 0, .int .i64 0, .int .i64 0, .int .i64 0]), 6, 48) := by kernel_rfl
def fitsE (e : Ed) : Prop := fitsP e.1 ∧ fitsP e.2
set_option maxRecDepth 100000 in
theorem litsE (e : Ed) (he : fitsE e) : Tryz.prog.keyLits 3 62 (encE e) = some [.int .i64 e.1.1, .int .i64 e.1.2.1, .int .i64 e.1.2.2, .int .i64 e.2.1, .int .i64 e.2.2.1, .int .i64 e.2.2.2] := by
  have c : Tryz.prog.cellsOf 41 = 3 := by kernel_rfl
  have c9 : Tryz.prog.cellsOf 62 = 6 := by kernel_rfl
  have h0 := litsP e.1 he.1
  have h1 := litsP e.2 he.2
  unfold Program.keyLits
  simp [encE, Tryz.underlying62, c, c9, List.range_succ, h0, h1]
set_option maxRecDepth 100000 in
theorem eqE (a b : Ed) (ha : fitsE a) (hb : fitsE b) (w : World) : (Op.equalIn 10000 62 (vE a) (vE b)).run Tryz.prog w = .ok (decide (a = b)) w := by
  have c : Tryz.prog.cellsOf 62 = 6 := by kernel_rfl
  obtain ⟨r, hr, he⟩ := run_equalIn_deep (P := Tryz.prog) 9997 3 62 (by kernel_rfl) w 3 3 (vE a) (vE b) _ _ (by simp [Value.formed, Tryz.underlying62, c]) (by simp [Value.formed, Tryz.underlying62, c]) (litsE a ha) (litsE b hb)
  rw [hr]
  have : r = decide (a = b) := by
    rw [Bool.eq_iff_iff, he]
    obtain ⟨⟨a1, a2, a3⟩, a4, a5, a6⟩ := a
    obtain ⟨⟨b1, b2, b3⟩, b4, b5, b6⟩ := b
    simp [and_assoc]
  rw [this]
section
variable {α : Type} {enc : α → List Value} {k B : Nat}
theorem Sl.of_blk (hk : ∀ x, (enc x).length = k) {w : World} {g : Nat} {t : TypeId} {ys : List α} (h : Blk w g t (ys.flatMap enc).toArray) (hg : g < B) : Sl enc k w B (some ⟨g, 0, none⟩) ys := by
  refine .inr ⟨g, 0, rfl, hg, fun i x hi j u hu => ?_⟩
  rw [show 0 + i * k + j = i * k + j by omega, h.cell]
  have := flat_get hk ys i x hi j u hu
  simpa using this
end
/-- The edges of a triangle, of triangles. -/
def edges3 (t : Tri) : List Ed := [(t.1, t.2.1), (t.2.1, t.2.2), (t.2.2, t.1)]
def edgesP (ts : List Tri) : List Ed := ts.flatMap edges3
theorem edgesP_length (ts : List Tri) : (edgesP ts).length = 3 * ts.length := by
  unfold edgesP
  induction ts with
  | nil => rfl
  | cons t ts ih => rw [List.flatMap_cons, List.length_append, ih, List.length_cons]; simp [edges3]; omega
theorem edgesP_snoc (ts : List Tri) (k : Nat) (t : Tri) (h : ts[k]? = some t) : edgesP (ts.take (k + 1)) = edgesP (ts.take k) ++ edges3 t := by
  unfold edgesP
  rw [List.take_add_one, h, Option.toList_some, List.flatMap_append, List.flatMap_singleton]
theorem edgesP_fits {ts : List Tri} (h : ∀ t ∈ ts, fitsT t) : ∀ e ∈ edgesP ts, fitsE e := by
  intro e he
  obtain ⟨t, ht, he⟩ := List.mem_flatMap.1 he
  have hf := h t ht
  simp only [edges3, List.mem_cons, List.not_mem_nil, or_false] at he
  rcases he with rfl | rfl | rfl
  · exact ⟨hf.1, hf.2.1⟩
  · exact ⟨hf.2.1, hf.2.2⟩
  · exact ⟨hf.2.2, hf.1⟩
end Go.Proofs.YtelfnmohpjkilaaGreatDoor
namespace Go.Proofs.YtelfnmohpjkilaaGreatDoor
open Go.RowKit Go.Sort
set_option maxRecDepth 100000 in
set_option maxHeartbeats 8000000 in
theorem quad_any (a b c d : Pt) (w : World) : Calls Tryz.prog 79 #[vP a, vP b, vP c, vP d] w fun e w' => ∃ v, e = .returned v ∧ Own encT 9 58 w' w.heap.size v 2 (quadP a b c d) ∧ Below w.heap.size w w' := by
  obtain ⟨a1, a2, a3⟩ := a
  obtain ⟨b1, b2, b3⟩ := b
  obtain ⟨c1, c2, c3⟩ := c
  obtain ⟨d1, d2, d3⟩ := d
  go_enter Tryz.func79, Tryz.ntmps79
  go_wp2
  go_ret
  refine ⟨.slice (some ⟨w.heap.size + 1 + 1 + 1 + 1, 0, none⟩) 2 2, rfl, own_lits' encT_len 58 (quadP (a1, a2, a3) (b1, b2, b3) (c1, c2, c3) (d1, d2, d3)) (by simp) (by omega) (show 2 ≤ 4294967296 by omega), ?_⟩
  exact Below.alloc (Below.alloc (Below.alloc (Below.alloc (Below.alloc (Below.refl _ w) (Nat.le_refl _) _) (by simp) _) (by simp; omega) _) (by simp; omega) _) (by simp; omega) _
end Go.Proofs.YtelfnmohpjkilaaGreatDoor
namespace Go.Proofs.YtelfnmohpjkilaaGreatDoor
open Go.RowKit Go.Sort
/-- Numbers as elements. -/
def encZ4 (x : Int) : List Value := [.int .i64 x]
set_option maxRecDepth 100000 in
set_option maxHeartbeats 16000000 in
theorem hill_any (x y : Nat) (hx : x ≤ 6) (hy : y ≤ 6) (A : Option Addr) (c : Nat) (ns : List Int) (w : World) (hs : ns ≠ [] → Sl encZ4 1 w w.heap.size A ns) (hl : ns.length ≤ 49) (hf : ∀ n ∈ ns, fits n) :
    Calls Tryz.prog 78 #[.int .i64 x, .int .i64 y, .int .i64 8, .slice A ns.length c] w fun e w' => ∃ p, e = .returned (vP p) ∧ fitsP p ∧ Below w.heap.size w w' := by
  obtain ⟨M, hM⟩ : ∃ M, M = ns.length := ⟨_, rfl⟩
  rw [← hM] at hl ⊢
  have HS := hide (And.intro hs (And.intro hf hM))
  clear hs hf hM
  go_enter Tryz.func78, Tryz.ntmps78
  go_upto_if 12 with fail
  obtain ⟨pb, hpb⟩ : ∃ g, g = w.heap.size := ⟨_, rfl⟩
  obtain ⟨X, hX⟩ : ∃ X, X = w.alloc (.cells #[.int .i64 0, .int .i64 0, .int .i64 0] 41) := ⟨_, rfl⟩
  rw [← hX, ← hpb]
  have hbp : Blk X pb 41 #[.int .i64 0, .int .i64 0, .int .i64 0] := by rw [hX, hpb]; exact Blk.new _ _ _
  have hBX : Below w.heap.size w X := by rw [hX]; exact (Below.refl _ w).alloc (Nat.le_refl _) _
  have HX := hide (And.intro hbp (And.intro hBX (show w.heap.size ≤ pb by omega)))
  clear hbp hBX hX hpb
  go_cut [9] (fun v wx => ∃ h : Int, v = .int .i64 h ∧ (0 ≤ h ∧ h < 64) ∧ Below X.heap.size X wx)
  case first =>
    by_cases hM0 : 0 < M
    · have i1 : (0 : Int) < (M : Int) := by omega
      obtain ⟨j, hj⟩ : ∃ j, j = (y * 7 + x) % M := ⟨_, rfl⟩
      have hjM : j < M := by rw [hj]; exact Nat.mod_lt _ hM0
      have e0 : (y : Int) * 7 + (x : Int) = ((y * 7 + x : Nat) : Int) := by omega
      have tm : ((y : Int) * 7 + (x : Int)) % (M : Int) = (j : Int) := by rw [e0, hj]; exact (Int.natCast_emod _ _).symm
      have tm2 : ((y : Int) * 7 + (x : Int)).tmod (M : Int) = (j : Int) := by rw [Int.tmod_eq_emod_of_nonneg (by omega)]; exact tm
      have hne : ns ≠ [] := fun h => by have := HS.out.2.2; rw [h] at this; simp at this; omega
      obtain ⟨q, hq⟩ : ∃ q, ns[j]? = some q := ⟨_, List.getElem?_eq_getElem (by rw [← HS.out.2.2]; exact hjM)⟩
      obtain ⟨ab, ao, hA0, hlt0, hc0⟩ := ((HS.out.1 hne).below HX.out.2.1).at hq
      have hc := hc0 0 _ rfl
      subst hA0
      have hM00 : ¬ M = 0 := by omega
      have i4 : ¬ (M : Int) = 0 := by omega
      rw [show ao + j * 1 + 0 = ao + j by omega] at hc
      have hmo := mod_any q 64 (by omega) (by omega) X
      have hmb := modC_bound q 64 (by omega)
      obtain ⟨h, hh⟩ : ∃ h, h = modC q 64 := ⟨_, rfl⟩
      rw [← hh] at hmo hmb
      have HM := hide (And.intro hmo hmb)
      clear hc0 hj hne hq e0 hmo hmb hh
      go_wp2_with (go_at_call 63; refine HM.out.1.mono ?_; rintro e W ⟨rfl, hW⟩; obtain rfl : X = W := hW.symm)
      go_meet
      case rel => exact ⟨_, rfl, HM.out.2, Below.refl _ X⟩
    · have i1 : ¬ (0 : Int) < (M : Int) := by omega
      go_wp2
      go_meet
      case rel => exact ⟨0, rfl, ⟨by omega, by omega⟩, Below.refl _ X⟩
  case rest =>
  obtain ⟨h, rfl, hh, hB⟩ := hcut
  obtain ⟨Y, rfl⟩ : ∃ W, W = wc := ⟨_, rfl⟩
  have hbY := HX.out.1.below hB HX.out.1.lt
  have f0 := hbY.frozen 0
  have f1 := hbY.frozen 1
  have f2 := hbY.frozen 2
  have c0 : Y.cell? ⟨pb, 0, none⟩ = some (.int .i64 0) := hbY.cell 0
  have c1 : Y.cell? ⟨pb, 1, none⟩ = some (.int .i64 0) := hbY.cell 1
  have c2 : Y.cell? ⟨pb, 2, none⟩ = some (.int .i64 0) := hbY.cell 2
  have hlt := hbY.lt
  have HY := hide (And.intro hbY (HX.out.2.1.trans (hB.mono HX.out.2.1.size)))
  clear hbY hB
  go_wp2
  refine ret_at (v := vP ((x : Int) * 8, (y : Int) * 8, 100 + h)) (fun W => Blk W pb 41 #[.int .i64 ((x : Int) * 8), .int .i64 ((y : Int) * 8), .int .i64 (100 + h)]) ?_ (fun W hW => ?_) rfl ⟨_, rfl, ?_, ?_⟩
  · exact HY.out.1.set3 _ _ _
  · obtain ⟨a0, a1, a2⟩ := hW.three
    simp [results, Tryz.results78, go_sem, a0, a1, a2]
  · unfold fitsP fits
    dsimp only
    omega
  · exact ((HY.out.2.setCell (p := ⟨pb, 0, none⟩) HX.out.2.2 _).setCell (p := ⟨pb, 1, none⟩) HX.out.2.2 _).setCell (p := ⟨pb, 2, none⟩) HX.out.2.2 _
end Go.Proofs.YtelfnmohpjkilaaGreatDoor
namespace Go.Proofs.YtelfnmohpjkilaaGreatDoor
open Go.RowKit Go.Sort
def cntE (l : List Ed) (e : Ed) : Nat := l.countP fun x => decide (x = e)
def ltE (a b : Ed) : Bool := if a.1 = b.1 then ltP a.2 b.2 else ltP a.1 b.1
end Go.Proofs.YtelfnmohpjkilaaGreatDoor
namespace Go.Proofs.YtelfnmohpjkilaaGreatDoor
open Go.RowKit Go.Sort
def atE (l : List Ed) (e : Ed) : Nat := (l.takeWhile fun x => ltE x e).length
def insE (l : List Ed) (e : Ed) : List Ed := l.take (atE l e) ++ (e :: l.drop (atE l e))
def swapE (e : Ed) : Ed := (e.2, e.1)
def bordS (all out : List Ed) (e : Ed) : List Ed := if 0 < cntE all (swapE e) ∨ 0 < cntE out e then out else insE out e
def bordP (all : List Ed) : List Ed := all.foldl (bordS all) []
def borderP (ts : List Tri) : List Ed := bordP (edgesP ts)
end Go.Proofs.YtelfnmohpjkilaaGreatDoor
namespace Go.Proofs.YtelfnmohpjkilaaGreatDoor
open Go.RowKit Go.Sort
def behK (t : Tri) (p q : Pt) : Option Pt := if t.1 = p ∧ t.2.1 = q then some t.2.2 else if t.2.1 = p ∧ t.2.2 = q then some t.1 else if t.2.2 = p ∧ t.1 = q then some t.2.1 else none
/-- The corner behind the edge from p to q. -/
def behP (l : List Tri) (p q : Pt) : Option Pt := l.findSome? fun t => behK t p q
theorem behK_none {t : Tri} {p q : Pt} (hn : ∀ i, i < 3 → ¬(corner t i = p ∧ corner t ((i + 1) % 3) = q)) : behK t p q = none := by
  unfold behK
  exact (if_neg (hn 0 (by omega))).trans ((if_neg (hn 1 (by omega))).trans (if_neg (hn 2 (by omega))))
end Go.Proofs.YtelfnmohpjkilaaGreatDoor
namespace Go.Proofs.YtelfnmohpjkilaaGreatDoor
open Go.RowKit Go.Sort
/-- The triangles at p, with the corner that follows there. -/
def pinN (t : Tri) (p : Pt) (j : Nat) : List (Tri × Pt) := (List.range j).flatMap fun i => if corner t i = p then [(t, corner t ((i + 1) % 3))] else []
def pinL (l : List Tri) (p : Pt) : List (Tri × Pt) := l.flatMap fun t => pinN t p 3
theorem pinN_yes (j : Nat) {t : Tri} {p : Pt} (h : corner t j = p) : pinN t p (j + 1) = pinN t p j ++ [(t, corner t ((j + 1) % 3))] := by
  unfold pinN
  rw [List.range_succ, List.flatMap_append, List.flatMap_singleton, if_pos h]
theorem pinN_no (j : Nat) {t : Tri} {p : Pt} (h : corner t j ≠ p) : pinN t p (j + 1) = pinN t p j := by
  unfold pinN
  rw [List.range_succ, List.flatMap_append, List.flatMap_singleton, if_neg h, List.append_nil]
theorem pinL_snoc (l : List Tri) (p : Pt) (k : Nat) (t : Tri) (h : l[k]? = some t) : pinL (l.take (k + 1)) p = pinL (l.take k) p ++ pinN t p 3 := by
  unfold pinL
  rw [List.take_add_one, h, Option.toList_some, List.flatMap_append, List.flatMap_singleton]
/-- Round the corner, from one start. -/
def runP (mine : List Tri) (p s : Pt) : Nat → Pt → Bool
  | 0, _ => false
  | f + 1, x => match behP mine p x with
    | none => false
    | some y => if y = s then true else runP mine p s f y
def pinchedP (l : List Tri) (p : Pt) : Bool := ((pinL l p).map (·.2)).any fun s => runP ((pinL l p).map (·.1)) p s ((pinL l p).length - 1) s
theorem behP_fits {l : List Tri} (h : ∀ t ∈ l, fitsT t) {p q r : Pt} (hb : behP l p q = some r) : fitsP r := by
  unfold behP at hb
  obtain ⟨t, ht, hr⟩ := List.exists_of_findSome?_eq_some hb
  have hf := h t ht
  unfold behK at hr
  split at hr
  · cases hr; exact hf.2.2
  · split at hr
    · cases hr; exact hf.1
    · split at hr
      · cases hr; exact hf.2.1
      · cases hr
end Go.Proofs.YtelfnmohpjkilaaGreatDoor
namespace Go.Proofs.YtelfnmohpjkilaaGreatDoor
open Go.RowKit Go.Sort
def flatT (t : Tri) : Bool := decide (t.1 = t.2.1) || decide (t.2.1 = t.2.2) || decide (t.2.2 = t.1)
def twiceE (l : List Ed) (e : Ed) : Bool := decide (1 < cntE l e)
def checkP (l : List Tri) (op : Bool) : Int := if l.any flatT = true then 20 else if (edgesP l).any (twiceE (edgesP l)) = true then 21 else if (!op && decide (0 < (borderP l).length)) = true then 22 else if (cornersP l).any (pinchedP l) = true then 23 else 0
theorem any_none {α : Type} {f : α → Bool} {l : List α} {n k : Nat} (hn : n = l.length) (hk : n ≤ k) (h : ∀ i x, i < k → l[i]? = some x → f x = false) : l.any f = false := by
  rw [List.any_eq_false]
  intro x hx
  obtain ⟨i, hi⟩ := List.mem_iff_getElem?.1 hx
  have hil : i < l.length := (List.getElem?_eq_some_iff.1 hi).1
  rw [h i x (by omega) hi]
  simp
theorem corN_le (l : List Pt) (t : Tri) : (corN l t 3).length ≤ l.length + 3 := by
  have h1 := withP_length l t.1
  have h2 := withP_length (withP l t.1) t.2.1
  have h3 := withP_length (withP (withP l t.1) t.2.1) t.2.2
  show (withP (withP (withP l t.1) t.2.1) t.2.2).length ≤ _
  omega
theorem cornersP_le (ts : List Tri) : (cornersP ts).length ≤ 3 * ts.length := by
  have key : ∀ (us : List Tri) (l : List Pt), (us.foldl (fun l t => corN l t 3) l).length ≤ l.length + 3 * us.length := by
    intro us
    induction us with
    | nil => intro l; simp
    | cons t us ih =>
      intro l
      have h1 := ih (corN l t 3)
      have h2 := corN_le l t
      rw [List.foldl_cons, List.length_cons]
      omega
  have := key ts []
  unfold cornersP
  simpa using this
end Go.Proofs.YtelfnmohpjkilaaGreatDoor
namespace Go.Proofs.YtelfnmohpjkilaaGreatDoor
open Go.RowKit Go.Sort
section
variable {α : Type} {lt : α → α → Bool}
def Srt (lt : α → α → Bool) (l : List α) : Prop := l.Pairwise fun a b => lt a b = true
theorem Srt.nodup (h : STO lt) {l : List α} (hl : Srt lt l) : l.Nodup := hl.imp fun {f g} h' e => by subst e; rw [h.irrefl] at h'; cases h'
theorem srt_uniq (h : STO lt) {l m : List α} (hl : Srt lt l) (hm : Srt lt m) (hmem : ∀ x, x ∈ l ↔ x ∈ m) : l = m := by
  haveI : DecidableEq α := fun a b => Classical.propDecidable (a = b)
  exact ((List.perm_ext_iff_of_nodup (hl.nodup h) (hm.nodup h)).2 hmem).eq_of_pairwise (fun a b _ _ h1 h2 => by have := h.trans _ _ _ h1 h2; rw [h.irrefl] at this; cases this) hl hm
/-- The library's sort. -/
def sortG (lt : α → α → Bool) (l : List α) : List α := l.mergeSort fun x y => !lt y x
theorem sortG_mem {l : List α} {x : α} : x ∈ sortG lt l ↔ x ∈ l := List.mem_mergeSort
theorem sortG_length (l : List α) : (sortG lt l).length = l.length := by simp [sortG]
theorem sortG_srt (h : STO lt) {l : List α} (hl : l.Nodup) : Srt lt (sortG lt l) := by
  have hp : (sortG lt l).Perm l := List.mergeSort_perm l _
  have hs : (sortG lt l).Pairwise fun f g => (!lt g f) = true := List.pairwise_mergeSort (fun a b c h1 h2 => by
    rw [Bool.not_eq_true'] at *
    exact h.swo.ntrans _ _ _ h2 h1) (fun a b => by
    rw [Bool.or_eq_true, Bool.not_eq_true', Bool.not_eq_true']
    cases h1 : lt b a with
    | false => exact .inl rfl
    | true =>
      refine .inr ?_
      cases h2 : lt a b with
      | false => rfl
      | true => have := h.trans _ _ _ h1 h2; rw [h.irrefl] at this; cases this) l
  have hnd : (sortG lt l).Nodup := hp.nodup_iff.2 hl
  refine (hs.and hnd).imp fun {a b} hab => ?_
  have h1 : lt b a = false := by have := hab.1; rwa [Bool.not_eq_true'] at this
  cases h2 : lt a b with
  | true => rfl
  | false => exact absurd (h.total a b h2 h1) hab.2
/-- Insertion at the place that the order tells. -/
def atG (lt : α → α → Bool) (l : List α) (p : α) : Nat := (l.takeWhile fun x => lt x p).length
def insG (lt : α → α → Bool) (l : List α) (p : α) : List α := l.take (atG lt l p) ++ (p :: l.drop (atG lt l p))
theorem insG_mem {l : List α} {p q : α} : q ∈ insG lt l p ↔ q ∈ l ∨ q = p := by
  unfold insG
  rw [List.mem_append, List.mem_cons]
  have : q ∈ l ↔ q ∈ l.take (atG lt l p) ∨ q ∈ l.drop (atG lt l p) := by rw [← List.mem_append, List.take_append_drop]
  rw [this]
  constructor
  · rintro (h | h | h)
    · exact .inl (.inl h)
    · exact .inr h
    · exact .inl (.inr h)
  · rintro ((h | h) | h)
    · exact .inl h
    · exact .inr (.inr h)
    · exact .inr (.inl h)
theorem atG_cons (a : α) (l : List α) (p : α) : atG lt (a :: l) p = if lt a p = true then atG lt l p + 1 else 0 := by
  unfold atG
  rw [List.takeWhile_cons]
  split <;> rfl
theorem atG_spec : ∀ (l : List α) (p : α), (∀ x ∈ l.take (atG lt l p), lt x p = true) ∧ ∀ x, l[atG lt l p]? = some x → lt x p = false
  | [], p => ⟨by simp, by simp⟩
  | a :: l, p => by
    have ih := atG_spec l p
    rw [atG_cons]
    by_cases h : lt a p = true
    · rw [if_pos h]
      refine ⟨fun x hx => ?_, fun x hx => ?_⟩
      · rw [List.take_succ_cons] at hx
        rcases List.mem_cons.1 hx with rfl | hx
        · exact h
        · exact ih.1 x hx
      · rw [List.getElem?_cons_succ] at hx
        exact ih.2 x hx
    · rw [if_neg h]
      refine ⟨by simp, fun x hx => ?_⟩
      simp only [List.getElem?_cons_zero, Option.some.injEq] at hx
      rw [← hx]
      simpa using h
theorem insG_srt (ho : STO lt) {l : List α} (h : Srt lt l) (p : α) (hne : l[atG lt l p]? ≠ some p) : Srt lt (insG lt l p) := by
  have hlo := (atG_spec (lt := lt) l p).1
  have hhi : ∀ x ∈ l.drop (atG lt l p), lt p x = true := fun x hx => by
    obtain ⟨j, hj⟩ := List.mem_iff_getElem?.1 hx
    rw [List.getElem?_drop] at hj
    obtain ⟨hlt, ej⟩ := List.getElem?_eq_some_iff.1 hj
    have hi : atG lt l p < l.length := by omega
    have h0 : lt l[atG lt l p] p = false := (atG_spec l p).2 _ (List.getElem?_eq_getElem hi)
    have hn : l[atG lt l p] ≠ p := fun e => hne (by rw [List.getElem?_eq_getElem hi, e])
    have h1 : lt p l[atG lt l p] = true := by
      cases hb : lt p l[atG lt l p] with
      | true => rfl
      | false => exact absurd (ho.total _ _ h0 hb) hn
    rcases Nat.eq_zero_or_pos j with rfl | hj0
    · simp only [Nat.add_zero] at ej; rw [← ej]; exact h1
    · have := List.pairwise_iff_getElem.1 h (atG lt l p) (atG lt l p + j) hi hlt (by omega)
      rw [ej] at this
      exact ho.trans _ _ _ h1 this
  refine List.pairwise_append.2 ⟨h.sublist (List.take_sublist _ _), List.pairwise_cons.2 ⟨hhi, h.sublist (List.drop_sublist _ _)⟩, fun a ha b hb => ?_⟩
  rcases List.mem_cons.1 hb with rfl | hb
  · exact hlo a ha
  · exact ho.trans _ _ _ (hlo a ha) (hhi b hb)
end
section
variable {α : Type} [DecidableEq α]
def addL (L : List α) (x : α) : List α := if x ∈ L then L else L ++ [x]
def dedup (xs : List α) : List α := xs.foldl addL []
theorem addL_mem {L : List α} {x y : α} : y ∈ addL L x ↔ y ∈ L ∨ y = x := by
  unfold addL
  split
  · rename_i h
    constructor
    · exact .inl
    · rintro (h1 | rfl)
      · exact h1
      · exact h
  · rw [List.mem_append, List.mem_singleton]
theorem addL_nodup {L : List α} (h : L.Nodup) (x : α) : (addL L x).Nodup := by
  unfold addL
  split
  · exact h
  · rename_i hx
    rw [List.nodup_append]
    refine ⟨h, by simp, fun a ha b hb => ?_⟩
    rw [List.mem_singleton] at hb
    subst hb
    intro e
    subst e
    exact hx ha
theorem addL_length (L : List α) (x : α) : (addL L x).length ≤ L.length + 1 := by
  unfold addL
  split
  · omega
  · simp
theorem fold_addL_mem {xs L : List α} {y : α} : y ∈ xs.foldl addL L ↔ y ∈ L ∨ y ∈ xs := by
  induction xs generalizing L with
  | nil => simp
  | cons x xs ih =>
    rw [List.foldl_cons, ih, addL_mem, List.mem_cons, or_assoc]
theorem dedup_mem {xs : List α} {y : α} : y ∈ dedup xs ↔ y ∈ xs := by
  unfold dedup
  rw [fold_addL_mem]
  simp
theorem fold_addL_nodup {xs L : List α} (h : L.Nodup) : (xs.foldl addL L).Nodup := by
  induction xs generalizing L with
  | nil => exact h
  | cons x xs ih => exact ih (addL_nodup h x)
theorem dedup_nodup (xs : List α) : (dedup xs).Nodup := fold_addL_nodup List.nodup_nil
theorem dedup_snoc (xs : List α) (x : α) : dedup (xs ++ [x]) = addL (dedup xs) x := by
  unfold dedup
  rw [List.foldl_append]
  rfl
theorem dedup_length (xs : List α) : (dedup xs).length ≤ xs.length := by
  have key : ∀ (xs L : List α), (xs.foldl addL L).length ≤ L.length + xs.length := by
    intro xs
    induction xs with
    | nil => intro L; simp
    | cons x xs ih =>
      intro L
      have h1 := ih (addL L x)
      have h2 := addL_length L x
      rw [List.foldl_cons, List.length_cons]
      omega
  have := key xs []
  unfold dedup
  simpa using this
omit [DecidableEq α] in
theorem nodup_snoc {xs : List α} {x : α} : (xs ++ [x]).Nodup ↔ xs.Nodup ∧ x ∉ xs := by
  rw [List.nodup_append]
  constructor
  · rintro ⟨h1, _, h3⟩
    exact ⟨h1, fun hx => h3 x hx x (by simp) rfl⟩
  · rintro ⟨h1, h2⟩
    refine ⟨h1, by simp, fun a ha b hb e => ?_⟩
    rw [List.mem_singleton] at hb
    subst hb
    subst e
    exact h2 ha
end
def cors3 (t : Tri) : List Pt := [t.1, t.2.1, t.2.2]
def corsP (ts : List Tri) : List Pt := ts.flatMap cors3
theorem withP_iff4 {l : List Pt} {p q : Pt} : q ∈ withP l p ↔ q ∈ l ∨ q = p := by
  unfold withP
  split
  · rename_i h
    constructor
    · exact .inl
    · rintro (h1 | rfl)
      · exact h1
      · exact List.mem_of_getElem? h
  · exact insG_mem (lt := ltP)
theorem withP_srt {l : List Pt} (h : Srt ltP l) (p : Pt) : Srt ltP (withP l p) := by
  unfold withP
  split
  · exact h
  · rename_i hne
    exact insG_srt sto_P h p hne
theorem corners_both (ts : List Tri) : Srt ltP (cornersP ts) ∧ ∀ q, q ∈ cornersP ts ↔ q ∈ corsP ts := by
  have key : ∀ (ts : List Tri) (l : List Pt), Srt ltP l → Srt ltP (ts.foldl (fun l t => corN l t 3) l) ∧ ∀ q, q ∈ ts.foldl (fun l t => corN l t 3) l ↔ q ∈ l ∨ q ∈ corsP ts := by
    intro ts
    induction ts with
    | nil => intro l h; exact ⟨h, fun q => by simp [corsP]⟩
    | cons t ts ih =>
      intro l h
      obtain ⟨h1, h2⟩ := ih (corN l t 3) (withP_srt (withP_srt (withP_srt h _) _) _)
      refine ⟨h1, fun q => ?_⟩
      rw [List.foldl_cons, h2]
      show q ∈ withP (withP (withP l t.1) t.2.1) t.2.2 ∨ _ ↔ _
      rw [withP_iff4, withP_iff4, withP_iff4]
      unfold corsP
      rw [List.flatMap_cons, List.mem_append]
      unfold cors3
      simp only [List.mem_cons, List.not_mem_nil, or_false]
      constructor
      · rintro ((((h | h) | h) | h) | h)
        · exact .inl h
        · exact .inr (.inl (.inl h))
        · exact .inr (.inl (.inr (.inl h)))
        · exact .inr (.inl (.inr (.inr h)))
        · exact .inr (.inr h)
      · rintro (h | (h | h | h) | h)
        · exact .inl (.inl (.inl (.inl h)))
        · exact .inl (.inl (.inl (.inr h)))
        · exact .inl (.inl (.inr h))
        · exact .inl (.inr h)
        · exact .inr h
  have := key ts [] List.Pairwise.nil
  refine ⟨this.1, fun q => (this.2 q).trans (by simp)⟩
/-- The program's corners: a set, sorted. -/
theorem corners_sort {L : List Pt} {ts : List Tri} (hn : L.Nodup) (hm : ∀ q, q ∈ L ↔ q ∈ corsP ts) : sortG ltP L = cornersP ts :=
  srt_uniq sto_P (sortG_srt sto_P hn) (corners_both ts).1 fun q => by rw [sortG_mem, hm, (corners_both ts).2]
theorem corners_len (ts : List Tri) : (cornersP ts).length = (dedup (corsP ts)).length := by
  rw [← corners_sort (dedup_nodup _) (fun q => dedup_mem), sortG_length]
theorem ltE_lex : ltE = lexB ltP ltP := by
  funext a b
  obtain ⟨a1, a2⟩ := a
  obtain ⟨b1, b2⟩ := b
  simp only [ltE, lexB]
  by_cases h1 : a1 = b1 <;> simp [h1, sto_P.irrefl]
theorem sto_E : STO ltE := by rw [ltE_lex]; exact sto_P.lex sto_P
theorem cntE_pos {l : List Ed} {e : Ed} : 0 < cntE l e ↔ e ∈ l := by
  unfold cntE
  rw [List.countP_pos_iff]
  simp
theorem border_both (ts : List Tri) : Srt ltE (borderP ts) ∧ ∀ e, e ∈ borderP ts ↔ e ∈ edgesP ts ∧ swapE e ∉ edgesP ts := by
  have key : ∀ (all : List Ed) (xs l : List Ed), Srt ltE l → Srt ltE (xs.foldl (bordS all) l) ∧ ∀ e, e ∈ xs.foldl (bordS all) l ↔ e ∈ l ∨ (e ∈ xs ∧ swapE e ∉ all) := by
    intro all xs
    induction xs with
    | nil => intro l h; exact ⟨h, fun e => by simp⟩
    | cons x xs ih =>
      intro l h
      have hb : Srt ltE (bordS all l x) ∧ ∀ e, e ∈ bordS all l x ↔ e ∈ l ∨ (e = x ∧ swapE e ∉ all) := by
        unfold bordS
        split
        · rename_i hc
          refine ⟨h, fun e => ?_⟩
          constructor
          · exact .inl
          · rintro (h1 | ⟨rfl, h1⟩)
            · exact h1
            · rcases hc with hc | hc
              · exact absurd (cntE_pos.1 hc) h1
              · exact cntE_pos.1 hc
        · rename_i hc
          have h1 : swapE x ∉ all := fun h1 => hc (.inl (cntE_pos.2 h1))
          have h2 : x ∉ l := fun h1 => hc (.inr (cntE_pos.2 h1))
          refine ⟨insG_srt sto_E h x (fun hh => h2 (List.mem_of_getElem? hh)), fun e => ?_⟩
          show e ∈ insG ltE l x ↔ _
          rw [insG_mem]
          constructor
          · rintro (h3 | rfl)
            · exact .inl h3
            · exact .inr ⟨rfl, h1⟩
          · rintro (h3 | ⟨h3, _⟩)
            · exact .inl h3
            · exact .inr h3
      obtain ⟨h1, h2⟩ := ih _ hb.1
      refine ⟨h1, fun e => ?_⟩
      rw [List.foldl_cons, h2, hb.2, List.mem_cons]
      constructor
      · rintro ((h | ⟨h, k⟩) | ⟨h, k⟩)
        · exact .inl h
        · exact .inr ⟨.inl h, k⟩
        · exact .inr ⟨.inr h, k⟩
      · rintro (h | ⟨h | h, k⟩)
        · exact .inl (.inl h)
        · exact .inl (.inr ⟨h, k⟩)
        · exact .inr ⟨h, k⟩
  have := key (edgesP ts) (edgesP ts) [] List.Pairwise.nil
  exact ⟨this.1, fun e => (this.2 e).trans (by simp)⟩
theorem border_sort {L : List Ed} {ts : List Tri} (hn : L.Nodup) (hm : ∀ e, e ∈ L ↔ e ∈ edgesP ts ∧ swapE e ∉ edgesP ts) : sortG ltE L = borderP ts :=
  srt_uniq sto_E (sortG_srt sto_E hn) (border_both ts).1 fun q => by rw [sortG_mem, hm, (border_both ts).2]
theorem cntE_count (es : List Ed) (e : Ed) : cntE es e = List.count e es := by
  unfold cntE List.count
  exact List.countP_congr fun x _ => by simp
theorem twice_iff (es : List Ed) : es.any (twiceE es) = true ↔ ¬ es.Nodup := by
  rw [List.any_eq_true]
  constructor
  · rintro ⟨e, he, h⟩ hn
    have h1 := List.nodup_iff_count.1 hn e
    have h2 : 1 < cntE es e := of_decide_eq_true h
    rw [cntE_count] at h2
    omega
  · intro hn
    have h1 : ∃ e, 1 < List.count e es := by
      exact Classical.byContradiction fun h => hn (List.nodup_iff_count.2 fun e => Nat.le_of_not_lt fun h' => h ⟨e, h'⟩)
    obtain ⟨e, he⟩ := h1
    refine ⟨e, List.count_pos_iff.1 (by omega), ?_⟩
    show decide (1 < cntE es e) = true
    rw [cntE_count]
    exact decide_eq_true he
def normE (e : Ed) : Ed := if ltP e.2 e.1 = true then swapE e else e
theorem normE_or (e : Ed) : normE e = e ∨ normE e = swapE e := by
  unfold normE
  split
  · exact .inr rfl
  · exact .inl rfl
theorem swapE_swap (e : Ed) : swapE (swapE e) = e := rfl
/-- The Euler number. -/
def eulerP (ts : List Tri) : Int := ((cornersP ts).length : Int) - ((dedup ((edgesP ts).map normE)).length : Int) + (ts.length : Int)
end Go.Proofs.YtelfnmohpjkilaaGreatDoor
namespace Go.Proofs.YtelfnmohpjkilaaGreatDoor
open Go.RowKit Go.Sort
def edJ (t : Tri) (j : Nat) : Ed := (corner t j, corner t ((j + 1) % 3))
def updE (m : Ed → Option Pt) (e : Ed) (v : Pt) : Ed → Option Pt := fun q => if q = e then some v else m q
def nxtJ (m : Ed → Option Pt) (t : Tri) : Nat → Ed → Option Pt
  | 0 => m
  | j + 1 => updE (nxtJ m t j) (edJ t j) (corner t ((j + 2) % 3))
def nxtN (l : List Tri) : Ed → Option Pt := l.foldl (fun m t => nxtJ m t 3) fun _ => none
theorem nxtN_snoc (l : List Tri) (k : Nat) (t : Tri) (h : l[k]? = some t) : nxtN (l.take (k + 1)) = nxtJ (nxtN (l.take k)) t 3 := by
  unfold nxtN
  rw [List.take_add_one, h, Option.toList_some, List.foldl_append]
  rfl
/-- How many triangles are at each corner. -/
def cntJ (t : Tri) (p : Pt) (j : Nat) : Nat := (pinN t p j).length
def cntC (l : List Tri) (p : Pt) : Nat := (pinL l p).length
theorem cntJ_succ (t : Tri) (p : Pt) (j : Nat) : cntJ t p (j + 1) = if p = corner t j then cntJ t p j + 1 else cntJ t p j := by
  unfold cntJ
  by_cases h : corner t j = p
  · rw [pinN_yes j h, if_pos h.symm]; simp
  · rw [pinN_no j h, if_neg (fun e => h e.symm)]
theorem cntC_snoc (l : List Tri) (p : Pt) (k : Nat) (t : Tri) (h : l[k]? = some t) : cntC (l.take (k + 1)) p = cntC (l.take k) p + cntJ t p 3 := by
  unfold cntC cntJ
  rw [pinL_snoc _ _ _ _ h, List.length_append]
theorem edges3_nodup {t : Tri} (h : (edges3 t).Nodup) : (t.1, t.2.1) ≠ (t.2.1, t.2.2) ∧ (t.1, t.2.1) ≠ (t.2.2, t.1) ∧ (t.2.1, t.2.2) ≠ (t.2.2, t.1) := by
  unfold edges3 at h
  simp only [List.nodup_cons, List.mem_cons, List.not_mem_nil, or_false, not_or, not_false_eq_true] at h
  exact ⟨h.1.1, h.1.2, h.2.1⟩
theorem behK_mem {t : Tri} {e : Ed} (h : e ∉ edges3 t) : behK t e.1 e.2 = none := by
  unfold edges3 at h
  simp only [List.mem_cons, List.not_mem_nil, or_false, not_or] at h
  obtain ⟨h1, h2, h3⟩ := h
  unfold behK
  rw [if_neg (fun c => h1 (Prod.ext c.1.symm c.2.symm)), if_neg (fun c => h2 (Prod.ext c.1.symm c.2.symm)), if_neg (fun c => h3 (Prod.ext c.1.symm c.2.symm))]
theorem nxtJ_beh {t : Tri} (hn : (edges3 t).Nodup) (m : Ed → Option Pt) (e : Ed) : nxtJ m t 3 e = (behK t e.1 e.2).or (m e) := by
  obtain ⟨h1, h2, h3⟩ := edges3_nodup hn
  show (if e = (t.2.2, t.1) then some t.2.1 else if e = (t.2.1, t.2.2) then some t.1 else if e = (t.1, t.2.1) then some t.2.2 else m e) = _
  unfold behK
  by_cases c1 : e = (t.1, t.2.1)
  · subst c1
    rw [if_neg h2, if_neg h1, if_pos rfl, if_pos ⟨rfl, rfl⟩]; rfl
  · rw [if_neg (fun c : t.1 = e.1 ∧ t.2.1 = e.2 => c1 (Prod.ext c.1.symm c.2.symm))]
    by_cases c2 : e = (t.2.1, t.2.2)
    · subst c2
      rw [if_neg h3, if_pos rfl, if_pos ⟨rfl, rfl⟩]; rfl
    · rw [if_neg (fun c : t.2.1 = e.1 ∧ t.2.2 = e.2 => c2 (Prod.ext c.1.symm c.2.symm))]
      by_cases c3 : e = (t.2.2, t.1)
      · subst c3
        rw [if_pos rfl, if_pos ⟨rfl, rfl⟩]; rfl
      · rw [if_neg c3, if_neg c2, if_neg c1, if_neg (fun c : t.2.2 = e.1 ∧ t.1 = e.2 => c3 (Prod.ext c.1.symm c.2.symm))]; rfl
theorem behP_snoc (l : List Tri) (t : Tri) (p q : Pt) : behP (l ++ [t]) p q = (behP l p q).or (behK t p q) := by
  unfold behP
  rw [List.findSome?_append]
  simp
theorem behP_mem {l : List Tri} {e : Ed} (h : e ∉ edgesP l) : behP l e.1 e.2 = none := by
  unfold behP
  rw [List.findSome?_eq_none_iff]
  intro t ht
  exact behK_mem fun h' => h (List.mem_flatMap.2 ⟨t, ht, h'⟩)
theorem nxtN_beh {l : List Tri} (hn : (edgesP l).Nodup) : ∀ e, nxtN l e = behP l e.1 e.2 := by
  have key : ∀ (k : Nat), k ≤ l.length → ∀ e, nxtN (l.take k) e = behP (l.take k) e.1 e.2 := by
    intro k
    induction k with
    | zero => intro _ e; rfl
    | succ k ih =>
      intro hk e
      obtain ⟨t, ht⟩ : ∃ t, l[k]? = some t := ⟨_, List.getElem?_eq_getElem hk⟩
      have hsub : (edgesP (l.take (k + 1))).Sublist (edgesP l) := by
        have h1 := List.take_append_drop (k + 1) l
        have h2 : edgesP l = edgesP (l.take (k + 1)) ++ edgesP (l.drop (k + 1)) := by
          unfold edgesP
          rw [← List.flatMap_append, h1]
        rw [h2]
        exact List.sublist_append_left _ _
      have hd := hn.sublist hsub
      rw [edgesP_snoc _ _ _ ht, List.nodup_append] at hd
      rw [nxtN_snoc _ _ _ ht, nxtJ_beh hd.2.1, ih (by omega)]
      have e1 : l.take (k + 1) = l.take k ++ [t] := by rw [List.take_add_one, ht]; rfl
      rw [e1, behP_snoc]
      by_cases hm : e ∈ edges3 t
      · have : e ∉ edgesP (l.take k) := fun h' => hd.2.2 e h' e hm rfl
        rw [behP_mem this]
        cases behK t e.1 e.2 <;> rfl
      · rw [behK_mem hm]
        cases behP (l.take k) e.1 e.2 <;> rfl
  intro e
  have := key l.length (Nat.le_refl _) e
  rwa [List.take_length] at this
theorem behP_has {l : List Tri} {e : Ed} (h : e ∈ edgesP l) : ∃ x, behP l e.1 e.2 = some x := by
  obtain ⟨t, ht, he⟩ := List.mem_flatMap.1 h
  cases hb : behP l e.1 e.2 with
  | some x => exact ⟨x, rfl⟩
  | none =>
    exfalso
    unfold behP at hb
    rw [List.findSome?_eq_none_iff] at hb
    have h1 := hb t ht
    unfold behK at h1
    simp only [edges3, List.mem_cons, List.not_mem_nil, or_false] at he
    rcases he with rfl | rfl | rfl
    · rw [if_pos ⟨rfl, rfl⟩] at h1; cases h1
    · split at h1
      · cases h1
      · rw [if_pos ⟨rfl, rfl⟩] at h1; cases h1
    · split at h1
      · cases h1
      · split at h1
        · cases h1
        · rw [if_pos ⟨rfl, rfl⟩] at h1; cases h1
theorem behK_at_p {t : Tri} {p q x : Pt} (h : behK t p q = some x) : pinN t p 3 ≠ [] := by
  have hh : t.1 = p ∨ t.2.1 = p ∨ t.2.2 = p := by
    unfold behK at h
    split at h
    · rename_i c; exact .inl c.1
    · split at h
      · rename_i c; exact .inr (.inl c.1)
      · split at h
        · rename_i c; exact .inr (.inr c.1)
        · cases h
  intro hn
  have key : ∀ j, j < 3 → corner t j ≠ p := fun j hj hc => by
    have : (t, corner t ((j + 1) % 3)) ∈ pinN t p 3 := List.mem_flatMap.2 ⟨j, List.mem_range.2 hj, by rw [if_pos hc]; simp⟩
    rw [hn] at this
    cases this
  rcases hh with h | h | h
  · exact key 0 (by omega) h
  · exact key 1 (by omega) h
  · exact key 2 (by omega) h
theorem pinN_fst {t : Tri} {p : Pt} {j : Nat} : ∀ x ∈ (pinN t p j).map (·.1), x = t := by
  intro x hx
  obtain ⟨y, hy, rfl⟩ := List.mem_map.1 hx
  obtain ⟨i, _, hy⟩ := List.mem_flatMap.1 hy
  split at hy
  · rw [List.mem_singleton.1 hy]
  · cases hy
theorem findSome_rep {β : Type} (f : Tri → Option β) (t : Tri) : ∀ l : List Tri, (∀ x ∈ l, x = t) → l ≠ [] → l.findSome? f = f t
  | [], _, h => absurd rfl h
  | [x], h, _ => by
    rw [h x (by simp)]
    simp [List.findSome?]
    cases f t <;> rfl
  | x :: y :: l, h, _ => by
    rw [List.findSome?_cons, h x (by simp)]
    cases hf : f t with
    | some v => rfl
    | none => 
      have := findSome_rep f t (y :: l) (fun z hz => h z (by simp [List.mem_cons.1 hz])) (by simp)
      rw [hf] at this
      exact this
theorem behP_mine (l : List Tri) (p q : Pt) : behP ((pinL l p).map (·.1)) p q = behP l p q := by
  unfold pinL
  induction l with
  | nil => rfl
  | cons t l ih =>
    rw [List.flatMap_cons, List.map_append]
    unfold behP at *
    rw [List.findSome?_append, ih, List.findSome?_cons]
    by_cases hn : pinN t p 3 = []
    · rw [hn]
      cases hb : behK t p q with
      | none => rfl
      | some x => exact absurd hn (behK_at_p hb)
    · rw [findSome_rep (fun t => behK t p q) t _ pinN_fst (fun h => hn (List.map_eq_nil_iff.1 h))]
      cases behK t p q <;> rfl
theorem runP_O (l : List Tri) (p s : Pt) : ∀ (n : Nat) (x : Pt), runP ((pinL l p).map (·.1)) p s n x = runO (fun q => behP l p q) s n x
  | 0, x => rfl
  | n + 1, x => by
    unfold runP runO
    rw [behP_mine]
    cases behP l p x with
    | none => rfl
    | some y =>
      show (if y = s then true else runP ((pinL l p).map (·.1)) p s n y) = (decide (y = s) || runO (fun q => behP l p q) s n y)
      rw [← runP_O l p s n y]
      by_cases h : y = s
      · simp [h]
      · simp [h]
theorem pinL_iff {l : List Tri} {p s : Pt} : s ∈ (pinL l p).map (·.2) ↔ (p, s) ∈ edgesP l := by
  unfold pinL edgesP
  rw [List.map_flatMap, List.mem_flatMap, List.mem_flatMap]
  constructor
  · rintro ⟨t, ht, hs⟩
    refine ⟨t, ht, ?_⟩
    obtain ⟨y, hy, rfl⟩ := List.mem_map.1 hs
    obtain ⟨i, hi, hy⟩ := List.mem_flatMap.1 hy
    rw [List.mem_range] at hi
    split at hy
    · rename_i hc
      rw [List.mem_singleton.1 hy]
      have hc3 : i = 0 ∨ i = 1 ∨ i = 2 := by omega
      rcases hc3 with rfl | rfl | rfl <;> (subst hc; simp [edges3, corner])
    · cases hy
  · rintro ⟨t, ht, hs⟩
    refine ⟨t, ht, ?_⟩
    simp only [edges3, List.mem_cons, List.not_mem_nil, or_false, Prod.mk.injEq] at hs
    rw [List.mem_map]
    rcases hs with ⟨rfl, rfl⟩ | ⟨rfl, rfl⟩ | ⟨rfl, rfl⟩
    · exact ⟨(t, t.2.1), List.mem_flatMap.2 ⟨0, by simp, by rw [if_pos (show corner t 0 = t.1 from rfl)]; exact List.mem_singleton.2 rfl⟩, rfl⟩
    · exact ⟨(t, t.2.2), List.mem_flatMap.2 ⟨1, by simp, by rw [if_pos (show corner t 1 = t.2.1 from rfl)]; exact List.mem_singleton.2 rfl⟩, rfl⟩
    · exact ⟨(t, t.1), List.mem_flatMap.2 ⟨2, by simp, by rw [if_pos (show corner t 2 = t.2.2 from rfl)]; exact List.mem_singleton.2 rfl⟩, rfl⟩
/-- The program's ring from one edge. -/
def ringM (l : List Tri) (e : Ed) : Bool := match behP l e.1 e.2 with
  | none => false
  | some x => prgO (fun q => behP l e.1 q) e.2 (cntC l e.1) (cntC l e.1) 1 x
theorem edge_cors {l : List Tri} {e : Ed} (h : e ∈ edgesP l) : e.1 ∈ corsP l := by
  obtain ⟨t, ht, he⟩ := List.mem_flatMap.1 h
  refine List.mem_flatMap.2 ⟨t, ht, ?_⟩
  simp only [edges3, List.mem_cons, List.not_mem_nil, or_false] at he
  rcases he with rfl | rfl | rfl <;> simp [cors3]
theorem pinch_same (l : List Tri) : (cornersP l).any (pinchedP l) = (edgesP l).any (ringM l) := by
  have hr : ∀ e ∈ edgesP l, ringM l e = runP ((pinL l e.1).map (·.1)) e.1 e.2 ((pinL l e.1).length - 1) e.2 := fun e he => by
    obtain ⟨x, hx⟩ := behP_has he
    unfold ringM
    rw [hx]
    show prgO _ _ _ _ _ _ = _
    rw [ring_same (fun q => behP l e.1 q) e.2 x (cntC l e.1) (cntC l e.1) hx (Nat.le_refl _), runP_O]
    rfl
  rw [Bool.eq_iff_iff, List.any_eq_true, List.any_eq_true]
  constructor
  · rintro ⟨p, _, h⟩
    unfold pinchedP at h
    rw [List.any_eq_true] at h
    obtain ⟨s, hs, h⟩ := h
    have he : (p, s) ∈ edgesP l := pinL_iff.1 hs
    exact ⟨(p, s), he, by rw [hr _ he]; exact h⟩
  · rintro ⟨e, he, h⟩
    refine ⟨e.1, ((corners_both l).2 _).2 (edge_cors he), ?_⟩
    unfold pinchedP
    rw [List.any_eq_true]
    exact ⟨e.2, pinL_iff.2 he, by rw [← hr e he]; exact h⟩
/-- What the program's check tells. -/
theorem check_is (l : List Tri) (op : Bool) : checkP l op = if l.any flatT = true then 20 else if ¬ (edgesP l).Nodup then 21 else if (!op && decide (0 < (borderP l).length)) = true then 22 else if (edgesP l).any (ringM l) = true then 23 else 0 := by
  unfold checkP
  rw [pinch_same]
  by_cases h : (edgesP l).any (twiceE (edgesP l)) = true
  · rw [if_pos h, if_pos ((twice_iff _).1 h)]
  · rw [if_neg h, if_neg (fun h' => h ((twice_iff _).2 h'))]
end Go.Proofs.YtelfnmohpjkilaaGreatDoor
namespace Go.Proofs.YtelfnmohpjkilaaGreatDoor
open Go.RowKit Go.Sort
def tri3 (t : Tri) : List Tri := [t, (t.2.1, t.2.2, t.1), (t.2.2, t.1, t.2.1)]
def tripP (l : List Tri) : List Tri := l.flatMap tri3
end Go.Proofs.YtelfnmohpjkilaaGreatDoor
namespace Go.Proofs.YtelfnmohpjkilaaGreatDoor
open Go.RowKit Go.Sort
/-- v stands for x. -/
def WideI (v : Value) (x : Int) : Prop := ∃ neg l, v = wvalV neg l ∧ okD l ∧ trimD l = l ∧ x = intD neg l ∧ (l = [] → neg = false)
theorem wideI_sg {neg : Bool} {l : List Nat} (ho : okD l) : WideI (wvalV (sgB neg (trimD l)) (trimD l)) (intD neg l) := by
  refine ⟨_, _, rfl, trim_ok ho, trim_trim l, ?_, fun h => by rw [h]; cases neg <;> rfl⟩
  unfold intD
  rw [valD_trim]
  cases h : trimD l with
  | nil =>
    have h0 : valD l = 0 := by rw [← valD_trim, h]; rfl
    rw [h0]
    cases neg <;> rfl
  | cons d m => cases neg <;> rfl
/-- ref01.wide, as a number. -/
theorem wideE_any (neg : Bool) (A : Option Addr) (c : Nat) (l : List Nat) (w : World) (hs : Sl encI 1 w w.heap.size A l) (hlc : l.length ≤ c) (hok : okD l) (hl : l.length ≤ 1000000) (x : Int) (hx : x = intD neg l) :
    Calls Tryz.prog 76 #[.bool neg, .slice A l.length c] w fun e w' => ∃ b s, e = .returned (.agg #[.bool b, .string s]) ∧ WideI (.agg #[.bool b, .string s]) x ∧ Below w.heap.size w w' := by
  subst hx
  refine (wideW_any neg A c l w hs hlc hok hl).mono ?_
  rintro e w' ⟨rfl, hB⟩
  exact ⟨_, _, rfl, wideI_sg hok, hB⟩
end Go.Proofs.YtelfnmohpjkilaaGreatDoor
namespace Go.Proofs.YtelfnmohpjkilaaGreatDoor
open Go.RowKit Go.Sort
theorem u64_small {a : Int} (h0 : 0 ≤ a) (h1 : a < 1099511627776) : IntKind.u64.wrap a = a := by
  have e : IntKind.u64.wrap a = a % 18446744073709551616 := by simp [IntKind.wrap, IntKind.bits, IntKind.signed]
  rw [e]
  omega
theorem pow_few {k m v n : Nat} (h : v + 65536 ^ k * m = n) (hm : 0 < m) (hn : n < 1099511627776) : k ≤ 2 := by
  rcases Nat.lt_or_ge 2 k with hk | hk
  · have h1 : 65536 ^ 3 ≤ 65536 ^ k := Nat.pow_le_pow_right (by omega) (by omega)
    have h2 : 65536 ^ k * 1 ≤ 65536 ^ k * m := Nat.mul_le_mul_left _ hm
    omega
  · exact hk
theorem from_step {out : List Nat} {k m n : Nat} (hl : out.length = k) (h : valD out + 65536 ^ k * m = n) : valD (out ++ [m % 65536]) + 65536 ^ (k + 1) * (m / 65536) = n := by
  have e : 65536 ^ k * (m % 65536) + 65536 ^ (k + 1) * (m / 65536) = 65536 ^ k * m := by
    rw [Nat.pow_succ, Nat.mul_assoc, ← Nat.mul_add, Nat.mod_add_div]
  rw [valD_snoc, hl]
  omega
set_option maxRecDepth 100000 in
set_option maxHeartbeats 16000000 in
theorem fromW_any (n : Nat) (hn : n < 1099511627776) (w : World) :
    Calls Tryz.prog 38 #[.int .i64 n] w fun e w' => ∃ b s, e = .returned (.agg #[.bool b, .string s]) ∧ WideI (.agg #[.bool b, .string s]) (n : Int) ∧ Below w.heap.size w w' := by
  have i0 : ¬ (n : Int) < 0 := by omega
  have iu : IntKind.u64.wrap (n : Int) = (n : Int) := u64_small (by omega) (by omega)
  go_enter Tryz.func38, Tryz.ntmps38
  go_upto_region 1 with fail
  obtain ⟨X, hX⟩ : ∃ X, X = w.alloc (.cells #[.bool false, .string ⟨#[]⟩] 46) := ⟨_, rfl⟩
  rw [← hX]
  have hb : Blk X w.heap.size 46 #[.bool false, .string ⟨#[]⟩] := by rw [hX]; exact Blk.new _ _ _
  have hBX : Below w.heap.size w X := by rw [hX]; exact (Below.refl _ w).alloc (Nat.le_refl _) _
  obtain ⟨bx, hbx⟩ : ∃ b, b = w.heap.size := ⟨_, rfl⟩
  rw [← hbx] at hb ⊢
  have HX := hide (And.intro hb (And.intro hBX hbx))
  clear hb hBX hbx hX
  go_wp2
  go_loopw [3, 4] (fun ov mv wr => ∃ (k m : Nat) (out : List Nat), mv = .int .u64 m ∧ Own encI 1 3 wr X.heap.size ov k out ∧ okD out ∧ valD out + 65536 ^ k * m = n ∧ k ≤ 3 ∧ Below X.heap.size X wr) (fun _ mv _ => (intOf mv).toNat)
  case atStart => exact ⟨0, n, [], rfl, Own.nil, (fun x hx => by cases hx), by simp [valD], by omega, Below.refl _ X⟩
  case round =>
    obtain ⟨k, m, out, rfl, hown, hok, hval, hk, hB⟩ := hrel
    obtain ⟨V, rfl⟩ : ∃ V, V = wr := ⟨_, rfl⟩
    obtain ⟨A1, c1, rfl⟩ := hown.form
    have hzr := hB.size
    by_cases hm0 : m = 0
    · subst hm0
      have i1 : ¬ (0 : Int) < ((0 : Nat) : Int) := by omega
      rw [Nat.mul_zero, Nat.add_zero] at hval
      have hwd := wideE_any false A1 c1 out V (hown.sl encI_len (Nat.le_refl _)) (by rw [← hown.1]; exact hown.place.1) hok (by rw [← hown.1]; omega) (n : Int) (by rw [← hval]; rfl)
      rw [← hown.1] at hwd
      have hr := HX.out.1.below hB HX.out.1.lt
      have H5 := hide (And.intro hwd (And.intro hr (HX.out.2.1.trans (hB.mono HX.out.2.1.size))))
      clear hwd hr hval hown hok hB i1
      go_wp2_with fail
      rw [decide_eq_false (show ¬ (n : Int) < 0 by omega)]
      with_reducible refine H5.out.1.mono ?_
      rintro e w8 ⟨rb, rs, rfl, hW, hB8⟩
      have hr6 := H5.out.2.1.below hB8 H5.out.2.1.lt
      have hB9 := H5.out.2.2.trans (hB8.mono H5.out.2.2.size)
      have r0 := hr6.cell 0
      have r1 := hr6.cell 1
      have f0 := hr6.frozen 0
      have f1 := hr6.frozen 1
      have hlt := hr6.lt
      simp only [List.getElem?_toArray, List.getElem?_cons_zero, List.getElem?_cons_succ] at r0 r1
      have hbx := HX.out.2.2
      have H9 := hide (And.intro hW (And.intro hB9 (And.intro hr6 hbx)))
      clear hW hB9 hr6 hbx hB8
      go_wp2
      refine ret_at (v := .agg #[.bool rb, .string rs]) (fun W => Blk W bx 46 #[.bool rb, .string rs]) ?_ (fun W h => ?_) rfl ⟨rb, rs, rfl, H9.out.1, ?_⟩
      · exact (H9.out.2.2.1.set_ 0 (.bool rb)).set_ 1 (.string rs)
      · have a0 := h.cell 0
        have a1 := h.cell 1
        simp only [List.getElem?_toArray, List.getElem?_cons_zero, List.getElem?_cons_succ] at a0 a1
        simp [results, Tryz.results38, go_sem, a0, a1]
      · have := H9.out.2.2.2
        exact (H9.out.2.1.setCell (by dsimp only; omega) _).setCell (by dsimp only; omega) _
    · have i1 : (0 : Int) < (m : Int) := by omega
      have hk2 := pow_few hval (by omega) hn
      have hst := from_step hown.1.symm hval
      have hmn : m ≤ n := by
        have h2 : 1 * m ≤ 65536 ^ k * m := Nat.mul_le_mul_right _ (Nat.pow_pos (by omega))
        omega
      obtain ⟨r, hr⟩ : ∃ r, r = m % 65536 := ⟨_, rfl⟩
      obtain ⟨q, hq⟩ : ∃ q, q = m / 65536 := ⟨_, rfl⟩
      rw [← hr, ← hq] at hst
      have t1 : (m : Int) % 65536 = (r : Int) := by omega
      have t2 : (m : Int) / 65536 = (q : Int) := by omega
      have hr6 : r < 65536 := by omega
      have hqm : q < m := by omega
      have ur : IntKind.u64.wrap (r : Int) = (r : Int) := u64_small (by omega) (by omega)
      have uq : IntKind.u64.wrap (q : Int) = (q : Int) := u64_small (by omega) (by omega)
      have HT := hide (And.intro hst (And.intro hok (And.intro hr6 (And.intro hk2 (And.intro hqm hB)))))
      have HO := hide (hown.alloc (.cells (encI r).toArray 3))
      clear hst hok hr hq hk2 hk hB hown hval hm0 hmn hqm
      go_wp2_with (at_builtin; refine wpList_append1 rfl _ _ _ rfl Tryz.underlying23 infoI1 rfl (by omega) encI_len encI_one rfl HO.out V.heap.size 1 r rfl (Blk.new _ _ _) (by unfold maxLen; have := HT.out.2.2.2.1; omega) (by have := HT.out.2.2.2.1; omega) (by simp; omega) ?_; intro g cap w7 hown7 hg7 hB7 hat7 hgb7 hlt7)
      go_roundw
      case rel =>
        obtain ⟨hst, hok, hr6, hk2, hqm, hB⟩ := HT.out
        exact ⟨k + 1, q, out ++ [r], rfl, hown7, okD_snoc hok hr6, hst, by omega, (hB.alloc hzr _).trans hB7⟩
      case measure => have := HT.out.2.2.2.2.1; (simp [intOf]; try omega)
end Go.Proofs.YtelfnmohpjkilaaGreatDoor
namespace Go.Proofs.YtelfnmohpjkilaaGreatDoor
def kO : Pt := (0, 0, 0)
def kX : Pt := (1, 0, 0)
def kY : Pt := (0, 1, 0)
def kZ : Pt := (0, 0, 1)
def tetP : List Tri := [(kO, kY, kX), (kO, kX, kZ), (kO, kZ, kY), (kX, kY, kZ)]
def turP : List Tri := [(kO, kY, kX), (kO, kZ, kX), (kO, kZ, kY), (kX, kY, kZ)]
def negP4 (p : Pt) : Pt := (-p.1, -p.2.1, -p.2.2)
def negT4 (t : Tri) : Tri := (negP4 t.1, negP4 t.2.2, negP4 t.2.1)
def twiP : List Tri := tetP ++ tetP.map negT4
theorem tet_check : checkP tetP false = 0 := by decide
theorem tet_euler : eulerP tetP = 2 := by decide
theorem tet3_check : checkP (tetP.take 3) false = 22 := by decide
theorem tet3_open : checkP (tetP.take 3) true = 0 := by decide
theorem tet3_border : borderP (tetP.take 3) = [(kZ, kY), (kY, kX), (kX, kZ)] := by decide
theorem tur_check : checkP turP false = 21 := by decide
theorem twi_check : checkP twiP false = 23 := by decide
theorem rot_zyo : rotT (kZ, kY, kO) = (kO, kZ, kY) := by decide
instance dec_fits (n : Int) : Decidable (fits n) := by unfold fits; infer_instance
instance dec_fitsP (p : Pt) : Decidable (fitsP p) := by unfold fitsP; infer_instance
instance dec_fitsT (t : Tri) : Decidable (fitsT t) := by unfold fitsT; infer_instance
theorem tet_fits : ∀ t ∈ tetP, fitsT t := by decide
theorem tur_fits : ∀ t ∈ turP, fitsT t := by decide
theorem twi_fits : ∀ t ∈ twiP, fitsT t := by decide
end Go.Proofs.YtelfnmohpjkilaaGreatDoor
