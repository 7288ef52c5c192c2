/- Rfn. -/
import Derived.RangeFuncNested
import Derived.RangeFuncBox
namespace Go.Proofs.YtelfnmohpjkilaaGreatDoor
open Go.RowKit
variable {F : Fence} {n : Nat} {P : Program}
/-- What a round does: the state Pre x is handed to the body, Post x comes back; the law's own two blocks (B, B + 1) lie as they lay. -/
def roundJoint {α : Type} (B : Nat) (Post : α → World → Prop) (x : α) (W : World) : Exit → Act → World → Prop
  | .normal, _, W' => Post x W' ∧ W'.heap[B]? = W.heap[B]? ∧ W'.heap[B + 1]? = W.heap[B + 1]?
  | _, _, _ => False
theorem wpIn_rangeFunc_joint {α : Type} {g : Operand} {ps : Array Tmp} {assign body : Code} {Q : Exit → Act → World → Prop} {a : Act} {w : World}
    (hro : F.round = none) (h1 : 1 ≤ n) {gf : Nat} {lb : Array Value} (hg : a.eval g = .func (.func gf) #[] lb) (hFg : F.fn gf) (eg : ∀ args w, (callFunc gf args).run P w = .ok (.enter gf args) w)
    (encs : α → Array Value) (hps : ∀ x, (encs x).size = ps.size) (Start Fin : World → Prop) (Pre Post : α → World → Prop)
    (hstart : ∀ o o', Start ((w.alloc o).alloc o')) (hPre : ∀ x W o, Pre x W → (∃ r, W.heap[w.heap.size + 1]? = some (.loop r)) → Pre x (W.putObj (w.heap.size + 1) o)) (hPost : ∀ x W o, Post x W → Post x (W.putObj (w.heap.size + 1) o)) (hFin : ∀ W o, Fin W → Fin (W.putObj (w.heap.size + 1) o))
    (hseq : ∀ (l : Nat) (Bk : World → Prop), (∀ A B row, Bk A → A.grownBy B row → (∀ r, row = some r → r < w.heap.size ∨ w.heap.size + 2 ≤ r) → Bk B) →
      (∀ x W, Pre x W → Bk W → YieldAt F (n - 1 - 1) P l (encs x) W fun e W' => e = .returned (.bool true) ∧ Post x W' ∧ Bk W') →
      ∀ W, Start W → Bk W → CallsIn F (n - 1) P gf (#[.func (.yield l) #[] #[]] ++ lb) W fun e W' => (∃ v, e = .returned v) ∧ Fin W' ∧ Bk W')
    (a₁ : α → Act)
    (hassign : ∀ (l : Nat) (x : α) (W : World) (K : Act → World → Prop), K (a₁ x) W →
      assign.wpIn (F.inRound l) (n - 1 - 1) P (Exit.then K (fun _ _ _ => False)) { tmps := (ps.zip (encs x)).foldl (fun t (p, v) => t.setIfInBounds p v) a.tmps, defers := [] } W)
    (hbody : ∀ (l : Nat) (x : α) (W : World), Pre x W → w.heap.size + 1 < W.heap.size → body.wpIn (F.inRound l) (n - 1 - 1) P (roundJoint w.heap.size Post x W) (a₁ x) W)
    (hdone : ∀ W, Fin W → W.heap[w.heap.size]? = some (.deferred (some [])) → Q .normal { a with defers := { target := .collected w.heap.size, args := #[] } :: a.defers } W) :
    (Code.rangeFunc g ps assign body).wpIn F n P Q a w := by
  refine wpIn_rangeFunc fun fn hfn => ?_
  rw [hro]
  obtain ⟨B, hB⟩ : ∃ B, B = w.heap.size := ⟨_, rfl⟩
  obtain ⟨rec, hrec⟩ : ∃ rec : LoopState → Loop, rec = fun st => { state := st, pending := none, fn, tmps := a.tmps, params := ps, assign, body, defers := B } := ⟨_, rfl⟩
  obtain ⟨W1, hW1⟩ : ∃ W1, W1 = (w.alloc (.deferred (some []))).alloc (.loop (rec .ready)) := ⟨_, rfl⟩
  have hL : W1.heap[B + 1]? = some (.loop (rec .ready)) := by
    rw [hW1]
    have := World.alloc_heap_new (w.alloc (.deferred (some []))) (.loop (rec .ready))
    rw [World.size_alloc, ← hB] at this
    exact this
  have hD : W1.heap[B]? = some (.deferred (some [])) := by
    rw [hW1, hB]
    exact (Below.heap_alloc _ _ _ (by simp)).trans (World.alloc_heap_new w _)
  have hS : Start W1 := by rw [hW1]; exact hstart _ _
  refine ⟨B + 1, [{ target := .collected B, args := #[] }], W1, { target := .fn (.func gf) lb, args := #[.func (.yield (B + 1)) #[] #[]] }, W1, gf, #[.func (.yield (B + 1)) #[] #[]] ++ lb, W1, ?_, ?_, ?_, ?_, fun _ => h1, ?_⟩
  · rw [hW1, hrec, hB]
    exact run_enterLoop_outer _ _ _ _ _
  · simp only [resolve, hg]
    simp [go_sem]
  · intro f' hf'
    simp [Target.leads] at hf'
    subst hf'
    exact hFg
  · simp [invoke, go_sem, eg]
  · have hbook : ∀ (o o' : Obj) (A W : World) (row : Option Nat), (A.heap[B + 1]? = some o ∧ A.heap[B]? = some o') → A.grownBy W row → (∀ r, row = some r → r < w.heap.size ∨ w.heap.size + 2 ≤ r) → W.heap[B + 1]? = some o ∧ W.heap[B]? = some o' := fun o o' A W row h hg' hr => by
      have e1 := (Array.getElem?_eq_some_iff.1 h.1).1
      exact ⟨(hg'.block (B + 1) e1 (fun e => by have := hr _ e.symm; omega)).trans h.1, (hg'.block B (by omega) (fun e => by have := hr _ e.symm; omega)).trans h.2⟩
    refine (hseq (B + 1) (fun W => W.heap[B + 1]? = some (.loop (rec .ready)) ∧ W.heap[B]? = some (.deferred (some []))) (fun A W row h => hbook _ _ A W row h) ?_ _ hS ⟨hL, hD⟩).mono ?_
    · rintro x W hx ⟨hl, hd⟩
      have hlt : B + 1 < W.heap.size := (Array.getElem?_eq_some_iff.1 hl).1
      have hy := run_yield (P := P) (args := encs x) hl (by rw [hrec]; exact hps x)
      rw [hrec] at hy
      refine ⟨fn, _, assign, body, hy, roundIn_of_wpIn hfn (hassign _ x W _ ⟨_, run_beginRound hl (by rw [hrec]), ?_⟩)⟩
      have hl2 : (W.putObj (B + 1) (.loop { rec .ready with state := .busy })).heap[B + 1]? = some (.loop { rec .ready with state := .busy }) := World.putObj_heap_same hlt
      have hd2 : (W.putObj (B + 1) (.loop { rec .ready with state := .busy })).heap[B]? = some (.deferred (some [])) := (World.putObj_heap_other (by omega)).trans hd
      refine wpIn_mono (hbody _ x _ (by rw [hB]; exact hPre x W _ hx ⟨_, by rw [← hB]; exact hl⟩) (by rw [← hB]; simp [World.putObj]; omega)) ?_
      rintro e a3 W3 hp
      cases e with
      | normal =>
        obtain ⟨hq, k0, k1⟩ := hp
        rw [← hB] at k0 k1
        have hl3 := k1.trans hl2
        have hd3 := k0.trans hd2
        have hr := run_endRound (P := P) none hl3
        refine ⟨_, _, hr, rfl, by rw [hB]; exact hPost x W3 _ hq, ?_, (World.putObj_heap_other (by omega)).trans hd3⟩
        rw [World.putObj_heap_same (Array.getElem?_eq_some_iff.1 hl3).1, hrec]
        rfl
      | ret => exact hp.elim
      | exit id => exact hp.elim
      | goto t => exact hp.elim
      | panic ch => exact hp.elim
      | outgrown => exact hp.elim
    · rintro e W2 ⟨⟨v, rfl⟩, hf, hl, hd⟩
      have hend := run_endLoop (P := P) hl (by rw [hrec]; simp)
      rw [hrec] at hend
      refine ⟨none, _, hend, ?_⟩
      have := hdone _ (hFin W2 (.loop { rec .ready with state := .exhausted }) hf) (by rw [← hB]; exact (World.putObj_heap_other (by omega)).trans hd)
      rw [← hB, hrec] at this
      exact this
end Go.Proofs.YtelfnmohpjkilaaGreatDoor
