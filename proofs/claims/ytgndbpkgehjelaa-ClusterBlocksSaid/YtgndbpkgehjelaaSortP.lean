/- The sort of points by the closure of gathered. -/
import Derived.Test.YtgndbpkgehjelaaSort
namespace Go.Proofs.Ytgndbpkgehjelaa
open Go.RowKit Go.Sort Go.Lib
def cmpG (a b : Pt) : Int := if ltP a b = true then -1 else 1
theorem ltOf_cmpG : ltOf cmpG = ltP := by
  funext a b
  unfold ltOf cmpG
  cases ltP a b <;> simp
theorem cmpG_any (a b : Pt) (w : World) : Calls Try.prog 52 #[vP a, vP b] w fun e w' => e = .returned (vi (cmpG a b)) ∧ Lay w w' := by
  go_enter Try.func52, Try.ntmps52
  cases h : ltP a b
  · go_wp2_with fail
    refine (less_any a b _).mono ?_
    rintro e w1 ⟨rfl, hL⟩
    have HL := hide (((Lay.refl w).alloc _).alloc _ |>.trans hL)
    clear hL
    go_wp2
    go_ret
    exact ⟨by simp [cmpG, h], HL.out⟩
  · go_wp2_with fail
    refine (less_any a b _).mono ?_
    rintro e w1 ⟨rfl, hL⟩
    have HL := hide (((Lay.refl w).alloc _).alloc _ |>.trans hL)
    clear hL
    go_wp2
    go_ret
    exact ⟨by simp [cmpG, h], HL.out⟩
theorem cmpGi_any (a b : Pt) (w : World) : Calls Try.prog 56 #[vP a, vP b] w fun e w' => e = .returned (vi (cmpG a b)) ∧ Lay w w' := by
  go_enter Try.func56, Try.ntmps56
  cases h : ltP a b
  · go_wp2_with fail
    refine (less_any a b _).mono ?_
    rintro e w1 ⟨rfl, hL⟩
    have HL := hide (((Lay.refl w).alloc _).alloc _ |>.trans hL)
    clear hL
    go_wp2
    go_ret
    exact ⟨by simp [cmpG, h], HL.out⟩
  · go_wp2_with fail
    refine (less_any a b _).mono ?_
    rintro e w1 ⟨rfl, hL⟩
    have HL := hide (((Lay.refl w).alloc _).alloc _ |>.trans hL)
    clear hL
    go_wp2
    go_ret
    exact ⟨by simp [cmpG, h], HL.out⟩
theorem sort_pt (F : Nat) (hF : F = 52 ∨ F = 56) (g o cap : Nat) (ts : List Pt) (w : World) (hH : HoldsK encP 3 w g o ts.toArray) (hg : g < w.heap.size) (hn : ts.length < 4611686018427387904) :
    Calls Try.prog 51 #[.slice (some ⟨g, o, none⟩) ts.length cap, .func (.func F) #[] #[]] w fun e w' =>
      e = .returned (.tuple #[]) ∧ w.grownBy w' (some g) ∧ HoldsK encP 3 w' g o (sortP ts).toArray := by
  have eg : ∀ args w, (callFunc F args).run Try.prog w = .ok (.enter F args) w := by
    rcases hF with rfl | rfl
    · exact enters_of Try.func52 (by kernel_rfl) rfl
    · exact enters_of Try.func56 (by kernel_rfl) rfl
  have hO : SWO (ltOf cmpG) := by rw [ltOf_cmpG]; exact sto_P.swo
  have hT : ∀ x y, ltOf cmpG x y = false → ltOf cmpG y x = false → x = y := by rw [ltOf_cmpG]; exact sto_P.total
  have hC : ∀ (x y : Pt) (w : World), Calls Try.prog F #[vP x, vP y] w fun e w' => e = .returned (vi (cmpG x y)) ∧ Lay w w' := by
    rcases hF with rfl | rfl
    · exact cmpG_any
    · exact cmpGi_any
  have h := AnyQ.slices_SortFunc_total sortPtL 3 Try.isAgg23 Try.sizeOf23 encP encP_len encP_one cmpG hO F #[] g o cap ts.toArray w eg
    (fun _ _ _ _ x y => hC x y _) hH hg (by simpa using hn) hT
  change Calls Try.prog 51 _ _ _ at h
  rw [ltOf_cmpG] at h
  refine h.mono ?_
  rintro e w' ⟨rfl, n, os, rfl⟩
  exact ⟨rfl, sortWorldK_grownBy, sortWorldK_holds hg hH (by simp)⟩
theorem sort_pt_none (F : Nat) (p : Option Addr) (c : Nat) (w : World) : Calls Try.prog 51 #[.slice p 0 c, .func (.func F) #[] #[]] w fun e w' => e = .returned (.tuple #[]) ∧ w = w' := by
  have h := AnyF.slices_SortFunc_none sortPtL p c (.func (.func F) #[] #[]) w
  exact h.mono fun e w' h => ⟨h.1, h.2.symm⟩
end Go.Proofs.Ytgndbpkgehjelaa
