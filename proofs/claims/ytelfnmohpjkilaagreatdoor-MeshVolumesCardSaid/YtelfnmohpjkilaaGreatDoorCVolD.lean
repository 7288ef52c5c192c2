/- Six times a surface's volume, plain. No program. -/
import Derived.Test.YtelfnmohpjkilaaGreatDoorCB4
namespace Go.Proofs.YtelfnmohpjkilaaGreatDoor
def detP (p q r : Pt) : Int := p.1 * (q.2.1 * r.2.2 - q.2.2 * r.2.1) + p.2.1 * (q.2.2 * r.1 - q.1 * r.2.2) + p.2.2 * (q.1 * r.2.1 - q.2.1 * r.1)
def detT (t : Tri) : Int := detP t.1 t.2.1 t.2.2
def volP (C : List Tri) : Int := (C.map detT).foldl (· + ·) 0
theorem volP_snoc (C : List Tri) (t : Tri) : volP (C ++ [t]) = volP C + detT t := by
  unfold volP
  rw [List.map_append, List.foldl_append]
  rfl
theorem volP_take {C : List Tri} {k : Nat} {t : Tri} (h : C[k]? = some t) : volP (C.take (k + 1)) = volP (C.take k) + detT t := by
  rw [List.take_add_one, h, Option.toList_some, volP_snoc]
theorem foldl_addI (l : List Int) (a : Int) : l.foldl (· + ·) a = a + l.foldl (· + ·) 0 := by
  induction l generalizing a with
  | nil => simp
  | cons x l ih =>
    rw [List.foldl_cons, List.foldl_cons, ih (a + x), ih (0 + x)]
    omega
theorem volP_cons (t : Tri) (C : List Tri) : volP (t :: C) = detT t + volP C := by
  unfold volP
  rw [List.map_cons, List.foldl_cons, foldl_addI]
  omega
theorem volP_append (A B : List Tri) : volP (A ++ B) = volP A + volP B := by
  induction A with
  | nil => simp [volP]
  | cons t A ih => rw [List.cons_append, volP_cons, volP_cons, ih]; omega
theorem volP_perm {A B : List Tri} (h : A.Perm B) : volP A = volP B := by
  induction h with
  | nil => rfl
  | cons x _ ih => rw [volP_cons, volP_cons, ih]
  | swap x y l => rw [volP_cons, volP_cons, volP_cons, volP_cons]; omega
  | trans _ _ a b => exact a.trans b
end Go.Proofs.YtelfnmohpjkilaaGreatDoor
