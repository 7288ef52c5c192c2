/- Joined texts: Map Eq. -/
import Derived.Maps.Own
import Derived.Maps.Views
import Derived.DeepKeys4
import Derived.RangeFuncBox
import Derived.DeepKeys
import Derived.Laws.StructEq
import Derived.Test.YtelfnmohpjkilaaGreatDoorCB9
/- Maps from points to slices. -/
namespace Go.Proofs.YtelfnmohpjkilaaGreatDoor
set_option maxRecDepth 100000
open Go.RowKit Go.WideMaps Go.Maps
theorem laid_ok : laidOutB Tryz.prog = true := by kernel_rfl
theorem rowPt : (41 : TypeId) < Tryz.prog.types.size := of_decide_eq_true (by kernel_rfl)
theorem widePt : (match Tryz.prog.underlying 41 with | some (.array _ _) | some (.struct _) => true | _ => false) = true := by rw [Tryz.underlying41]
theorem lawPt : KeyLaw Tryz.prog 41 := deep_law_laid laid_ok (m := 2) (by omega) rowPt (by kernel_rfl) widePt
theorem keyedPt : Keyed Tryz.prog 41 := Keyed.of_law lawPt
theorem fits_wf {c : Int} (h : fits c) : (Lit.int .i64 c).wf = true := by
  obtain ⟨h1, h2⟩ := h
  simp only [Lit.wf, IntKind.min, IntKind.max, IntKind.signed, IntKind.bits, Bool.and_eq_true, decide_eq_true_eq, if_true]
  omega
theorem key_some (p : Pt) (hp : fitsP p) : ∃ l, keyOf Tryz.prog 41 (vP p) = some l := by
  obtain ⟨h0, h1, h2⟩ := hp
  have w0 := fits_wf h0
  have w1 := fits_wf h1
  have w2 := fits_wf h2
  have k : Tryz.prog.keyType 41 = true := by kernel_rfl
  have c : Tryz.prog.cellsOf 41 = 3 := by kernel_rfl
  have c1 : Tryz.prog.cellsOf 3 = 1 := by kernel_rfl
  obtain ⟨n, hn⟩ : ∃ n, Tryz.prog.types.size + 1 = n + 1 + 1 := ⟨Tryz.prog.types.size - 1, by have : (41 : Nat) < Tryz.prog.types.size := rowPt; omega⟩
  unfold keyOf
  simp only [Tryz.underlying41, k, Value.formed, c, hn, Bool.true_and]
  simp [Program.keyLits, Tryz.underlying41, Tryz.underlying3, c, c1, w0, w1, w2, Value.cells]
theorem vP_inj {p q : Pt} (h : vP p = vP q) : p = q := by
  obtain ⟨a, b, c⟩ := p
  obtain ⟨d, e, f⟩ := q
  simpa using h
def Rm (v : Value) : Option (DataW Value × List MemPlace) := some (.held v, [])
/-- Block b is a map of at most n entries, from points to slices: what m says. -/
def MapP (w : World) (b n : Nat) (m : Pt → Value) : Prop :=
  ∃ D : DataW Value, w.ownsMap Tryz.prog 41 Rm b n D ∧ Maps.IsMap D ∧ ∀ p l, keyOf Tryz.prog 41 (vP p) = some l → D.atKey l (.held (.slice none 0 0)) = .held (m p)
section
variable {w w' : World} {b n : Nat} {m : Pt → Value}
theorem MapP.made (w : World) : MapP (w.alloc (.map #[] 0)) w.heap.size 0 (fun _ => .slice none 0 0) :=
  ⟨.map [], World.ownsMap_made w _ _ _, Maps.isMap_empty, fun _ _ _ => rfl⟩
theorem MapP.kept {row : Option Nat} (h : MapP w b n m) (hg : w.grownBy w' row) (hne : some b ≠ row) : MapP w' b n m := by
  obtain ⟨D, h1, h2⟩ := h
  exact ⟨D, h1.kept hg hne, h2⟩
theorem MapP.lt (h : MapP w b n m) : b < w.heap.size := by
  obtain ⟨D, h1, _⟩ := h
  exact h1.lt
theorem MapP.obj (h : MapP w b n m) : ∃ o, w.heap[b]? = some o ∧ o.isCells = false := by
  obtain ⟨D, ⟨es, clock, hb, _⟩, _⟩ := h
  exact ⟨_, hb, rfl⟩
theorem MapP.lookup {t e : TypeId} (h : MapP w b n m) (ht : Tryz.prog.underlying t = some (.map 41 e)) (hz : (zeroValue e).run Tryz.prog w = .ok (.slice none 0 0) w) (p : Pt) (hp : fitsP p) :
    (Instr.lookup t (.map (some b)) (vP p) false).run Tryz.prog w = .ok (m p) w := by
  obtain ⟨D, h1, _, h2⟩ := h
  obtain ⟨l, hl⟩ := key_some p hp
  obtain ⟨v, ps, hrun, hv⟩ := h1.lookup keyedPt ht hz (zd := .held (.slice none 0 0)) rfl hl
  rw [h2 p l hl] at hv
  simp only [Rm, Option.some.injEq, Prod.mk.injEq, DataW.held.injEq] at hv
  rw [hrun, hv.1]
theorem MapP.update {t e : TypeId} (h : MapP w b n m) (ht : Tryz.prog.underlying t = some (.map 41 e)) (hn : n < maxLen) (p : Pt) (hp : fitsP p) (v : Value) :
    ∃ w', (Instr.mapUpdate t (.map (some b)) (vP p) v).run Tryz.prog w = .ok () w' ∧ MapP w' b (n + 1) (fun q => if q = p then v else m q) ∧ w.grownBy w' (some b) := by
  obtain ⟨D, h1, hm, h2⟩ := h
  obtain ⟨l, hl⟩ := key_some p hp
  obtain ⟨w', hrun, ho, hg⟩ := h1.update keyedPt ht hn hl (val := v) (d := .held v) (ps := []) rfl
  refine ⟨w', hrun, ⟨_, ho, ?_, fun q k hk => ?_⟩, hg⟩
  · obtain ⟨es, rfl⟩ := hm
    exact ⟨_, rfl⟩
  · by_cases hq : q = p
    · subst hq
      rw [hl] at hk
      cases hk
      show _ = DataW.held (ite (q = q) v (m q))
      rw [if_pos rfl, Maps.atKey_put_same hm (keyedPt.key hl)]
    · show _ = DataW.held (ite (q = p) v (m q))
      rw [if_neg hq, Maps.atKey_put_other (fun e => hq ?_), h2 q k hk]
      subst e
      exact vP_inj (keyedPt.inj hk hl)
end
theorem run_eql_slice_nil {P : Program} (w : World) (t e : TypeId) (A : Option Addr) (n c : Nat) (h : P.underlying t = some (.slice e)) :
    (binOp .eql t (.slice A n c) (.slice none 0 0)).run P w = .ok (.bool A.isNone) w := by
  have h2 : ∀ d : Nat, (Op.equalIn (d + 1) t (.slice A n c) (.slice none 0 0)).run P w = .ok A.isNone w := fun d => by
    cases A <;> simp [Op.equalIn, run_underlying h]
  simp only [binOp]
  simp [Op.equal, Op.maxDepth, h2 9999]
end Go.Proofs.YtelfnmohpjkilaaGreatDoor
/- Equality of points and of triangles. -/
namespace Go.Proofs.YtelfnmohpjkilaaGreatDoor
open Go.RowKit
set_option maxRecDepth 100000
theorem litsP (p : Pt) (hp : fitsP p) : Tryz.prog.keyLits 2 41 [.int .i64 p.1, .int .i64 p.2.1, .int .i64 p.2.2] = some [.int .i64 p.1, .int .i64 p.2.1, .int .i64 p.2.2] := by
  have w0 := fits_wf hp.1
  have w1 := fits_wf hp.2.1
  have w2 := fits_wf hp.2.2
  have c : Tryz.prog.cellsOf 41 = 3 := by kernel_rfl
  have c1 : Tryz.prog.cellsOf 3 = 1 := by kernel_rfl
  simp [Program.keyLits, Tryz.underlying41, Tryz.underlying3, c, c1, w0, w1, w2]
theorem litsT (t : Tri) (ht : fitsT t) : Tryz.prog.keyLits 3 58 (encT t) = some [.int .i64 t.1.1, .int .i64 t.1.2.1, .int .i64 t.1.2.2, .int .i64 t.2.1.1, .int .i64 t.2.1.2.1, .int .i64 t.2.1.2.2, .int .i64 t.2.2.1, .int .i64 t.2.2.2.1, .int .i64 t.2.2.2.2] := by
  have c : Tryz.prog.cellsOf 41 = 3 := by kernel_rfl
  have c9 : Tryz.prog.cellsOf 58 = 9 := by kernel_rfl
  have h0 := litsP t.1 ht.1
  have h1 := litsP t.2.1 ht.2.1
  have h2 := litsP t.2.2 ht.2.2
  unfold Program.keyLits
  simp [encT, Tryz.underlying58, c, c9, List.range_succ, h0, h1, h2]
theorem eqP (a b : Pt) (ha : fitsP a) (hb : fitsP b) (w : World) : (Op.equalIn 10000 41 (vP a) (vP b)).run Tryz.prog w = .ok (decide (a = b)) w := by
  have c : Tryz.prog.cellsOf 41 = 3 := by kernel_rfl
  obtain ⟨r, hr, he⟩ := run_equalIn_deep (P := Tryz.prog) 9998 2 41 (by kernel_rfl) w 2 2 (vP a) (vP b) _ _ (by simp [Value.formed, Tryz.underlying41, c]) (by simp [Value.formed, Tryz.underlying41, c]) (litsP a ha) (litsP b hb)
  rw [hr]
  have : r = decide (a = b) := by
    rw [Bool.eq_iff_iff, he]
    obtain ⟨a1, a2, a3⟩ := a
    obtain ⟨b1, b2, b3⟩ := b
    simp
  rw [this]
theorem eqT (a b : Tri) (ha : fitsT a) (hb : fitsT b) (w : World) : (Op.equalIn 10000 58 (vT a) (vT b)).run Tryz.prog w = .ok (decide (a = b)) w := by
  have c : Tryz.prog.cellsOf 58 = 9 := by kernel_rfl
  obtain ⟨r, hr, he⟩ := run_equalIn_deep (P := Tryz.prog) 9997 3 58 (by kernel_rfl) w 3 3 (vT a) (vT b) _ _ (by simp [Value.formed, Tryz.underlying58, c]) (by simp [Value.formed, Tryz.underlying58, c]) (litsT a ha) (litsT b hb)
  rw [hr]
  have : r = decide (a = b) := by
    rw [Bool.eq_iff_iff, he]
    obtain ⟨⟨a1, a2, a3⟩, ⟨a4, a5, a6⟩, a7, a8, a9⟩ := a
    obtain ⟨⟨b1, b2, b3⟩, ⟨b4, b5, b6⟩, b7, b8, b9⟩ := b
    simp [and_assoc]
  rw [this]
end Go.Proofs.YtelfnmohpjkilaaGreatDoor
