/- The library's sort at triangles and at points, by its contract. -/
import Derived.Test.YtgndbpkgehjelaaOrd
import Derived.Test.YtgndbpkgehjelaaLay
import Derived.Test.YtgndbpkgehjelaaEnc
namespace Go.Proofs.Ytgndbpkgehjelaa
open Go.RowKit Go.Sort Go.Lib
def sortT (ts : List Tri) : List Tri := ts.mergeSort fun x y => !ltT y x
def sortP (ps : List Pt) : List Pt := ps.mergeSort fun x y => !ltP y x

section
variable {α : Type} [Inhabited α] {enc : α → List Value} {k : Nat}
/-- A row that holds d, read cell by cell. -/
theorem holdsK_cell (hk : ∀ x, (enc x).length = k) {w : World} {g o : Nat} {xs : List α} (h : HoldsK enc k w g o xs.toArray) :
    ∀ i x, xs[i]? = some x → ∀ j u, (enc x)[j]? = some u → w.cell? ⟨g, o + i * k + j, none⟩ = some u ∧ w.frozen? ⟨g, o + i * k + j, none⟩ = false := by
  intro i x hx j u hu
  have hi : i < xs.length := (List.getElem?_eq_some_iff.1 hx).1
  have hj : j < k := by rw [← hk x]; exact (List.getElem?_eq_some_iff.1 hu).1
  have hlt : i * k + j < xs.length * k := by
    have : (i + 1) * k ≤ xs.length * k := Nat.mul_le_mul_right k hi
    rw [Nat.add_mul, Nat.one_mul] at this
    omega
  have h1 := h (i * k + j) (by simpa using hlt)
  rw [get_flatK _ _ _ _ (by simpa using hlt)] at h1
  have e1 : (i * k + j) / k = i := by rw [Nat.mul_comm, Nat.mul_add_div (by omega), Nat.div_eq_of_lt hj, Nat.add_zero]
  have e2 : (i * k + j) % k = j := by rw [Nat.mul_comm, Nat.mul_add_mod, Nat.mod_eq_of_lt hj]
  have e3 : xs.toArray[i]! = x := by
    have := List.getElem?_eq_some_iff.1 hx
    obtain ⟨_, e⟩ := this
    simp [hi, e]
  have e4 : (enc x)[j]! = u := by
    obtain ⟨h', e⟩ := List.getElem?_eq_some_iff.1 hu
    rw [getElem!_pos (enc x) j h']; exact e
  rw [e1, e2, e3, e4, ← Nat.add_assoc] at h1
  exact h1
theorem Sl.of_holdsK (hk : ∀ x, (enc x).length = k) {w : World} {g o B : Nat} {xs : List α} (hg : g < B) (h : HoldsK enc k w g o xs.toArray) : Sl enc k w B (some ⟨g, o, none⟩) xs :=
  .inr ⟨g, o, rfl, hg, fun i x hx j u hu => (holdsK_cell hk h i x hx j u hu).1⟩
theorem sortWorldK_grownBy {w : World} {g o n : Nat} {d : Array α} {os : Array Obj} : w.grownBy (sortWorldK enc k w g o n d os) (some g) := by
  refine ⟨rfl, rfl, rfl, by simp [sortWorldK, grow, putRowK], fun i hi hne => ?_⟩
  have hne' : i ≠ g := fun e => hne (by rw [e])
  unfold sortWorldK
  rw [heap_grow_old _ _ (by simpa [putRowK] using hi)]
  simp only [putRowK, putRow, mapBlock, heap_ahead, Array.getElem?_modify]
  rw [if_neg (Ne.symm hne')]
theorem sortWorldK_holds {w : World} {g o n : Nat} {d d' : Array α} {os : Array Obj} (hg : g < w.heap.size) (h : HoldsK enc k w g o d) (hs : d'.size = d.size) : HoldsK enc k (sortWorldK enc k w g o n d' os) g o d' := by
  unfold sortWorldK HoldsK
  refine holds_grow id _ os g o _ (by simpa [putRowK] using hg) ?_
  refine holds_putRow id _ g o (flatK enc k d) _ ?_ (by simp [hs])
  exact h
end

theorem sort_tri (g o cap : Nat) (ts : List Tri) (w : World) (hH : HoldsK encT 9 w g o ts.toArray) (hg : g < w.heap.size) (hn : ts.length < 4611686018427387904) :
    Calls Try.prog 48 #[.slice (some ⟨g, o, none⟩) ts.length cap, .func (.func 49) #[] #[]] w fun e w' =>
      e = .returned (.tuple #[]) ∧ w.grownBy w' (some g) ∧ HoldsK encT 9 w' g o (sortT ts).toArray := by
  have eg : ∀ args w, (callFunc 49 args).run Try.prog w = .ok (.enter 49 args) w := enters_of Try.func49 (by kernel_rfl) rfl
  have hO : SWO (ltOf cmpT) := by rw [ltOf_cmpT]; exact sto_T.swo
  have hT : ∀ x y, ltOf cmpT x y = false → ltOf cmpT y x = false → x = y := by rw [ltOf_cmpT]; exact sto_T.total
  have h := AnyQ.slices_SortFunc_total sortTriL 9 Try.isAgg26 Try.sizeOf26 encT encT_len encT_one cmpT hO 49 #[] g o cap ts.toArray w eg
    (fun _ _ _ _ x y => cmpTris_any x y _) hH hg (by simpa using hn) hT
  change Calls Try.prog 48 _ _ _ at h
  rw [ltOf_cmpT] at h
  refine h.mono ?_
  rintro e w' ⟨rfl, n, os, rfl⟩
  exact ⟨rfl, sortWorldK_grownBy, sortWorldK_holds hg hH (by simp)⟩
end Go.Proofs.Ytgndbpkgehjelaa
