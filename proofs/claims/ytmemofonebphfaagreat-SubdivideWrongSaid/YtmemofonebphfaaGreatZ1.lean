import Derived.WalkKit
import Derived.Test.YtmemofonebphfaaGreatZA0
namespace Go.Proofs.YtmemofonebphfaaGreat
section
variable {α:Type} {lt:α→α→Bool}
structure Tot (lt:α→α→Bool):Prop where
 irr:∀x,lt x x=false
 tr:∀x y z,lt x y=true→lt y z=true→lt x z=true
 tot:∀x y,lt x y=false→lt y x=false→x=y
def leO (lt:α→α→Bool) (x y:α):Bool:= !lt y x
theorem Tot.le_trans (h:Tot lt) (a b c:α) (hab:leO lt a b=true) (hbc:leO lt b c=true):leO lt a c=true:=by
 unfold leO at*
 simp only [Bool.not_eq_true'] at*
 cases hca:lt c a with
 | false=>rfl
 | true=>
  cases hba:lt a b with
  | true=>have:=h.tr _ _ _ hca hba;rw [hbc] at this;cases this
  | false=>
   have e:=h.tot _ _ hba hab
   subst e
   rw [hca] at hbc;cases hbc
theorem Tot.le_total (h:Tot lt) (a b:α):(leO lt a b || leO lt b a)=true:=by
 unfold leO
 cases hab:lt a b with
 | false=>simp
 | true=>
  cases hba:lt b a with
  | false=>simp
  | true=>have:=h.tr _ _ _ hab hba;rw [h.irr] at this;cases this
def vC (lt:α→α→Bool) (l:List α):List α:=l.mergeSort (leO lt)
theorem y7 (l:List α):List.Perm (vC lt l) l:=List.mergeSort_perm _ _
theorem Tot.sorted (h:Tot lt) (l:List α):(vC lt l).Pairwise (fun a b=>leO lt a b=true):=List.pairwise_mergeSort h.le_trans h.le_total l
theorem Tot.anti (h:Tot lt) (a b:α) (h1:leO lt a b=true) (h2:leO lt b a=true):a=b:=by
 unfold leO at h1 h2
 exact h.tot _ _ (by simpa using h2) (by simpa using h1)
theorem Tot.uniq (h:Tot lt) {l l':List α} (hp:l'.Perm l) (hs:l'.Pairwise (fun a b=>leO lt a b=true)):l'=vC lt l:=
 List.Perm.eq_of_pairwise (le:=fun a b=>leO lt a b=true) (fun a b _ _ h1 h2=>h.anti a b h1 h2) hs (h.sorted l) (hp.trans (y7 l).symm)
theorem Tot.merge (h:Tot lt) (a b:List α):List.merge (vC lt a) (vC lt b) (leO lt)=vC lt (a++b):=
 h.uniq ((List.merge_perm_append (le:=leO lt)).trans ((y7 a).append (y7 b))) (List.pairwise_merge h.le_trans h.le_total _ _ (h.sorted a) (h.sorted b))
theorem Tot.halves (h:Tot lt) (l:List α) (n:Nat):List.merge (vC lt (l.take n)) (vC lt (l.drop n)) (leO lt)=vC lt l:=by
 rw [h.merge,List.take_append_drop]
theorem yE (l:List α):(vC lt l).length=l.length:=(y7 l).length_eq
theorem uM {l:List α} {x:α}:x∈vC lt l ↔ x∈l:=(y7 l).mem_iff
theorem jZ {l:List α} (h:l.length < 2):vC lt l=l:=by
 match l,h with
 | [],_=>simp [vC]
 | [a],_=>simp [vC]
theorem uK (le:α→α→Bool) (l:List α):List.merge l [] le=l:=by cases l <;>simp
theorem zD6 {a b:List α} {x y:α} {i j:Nat} (hx:a[i]? =some x) (hy:b[j]? =some y) (hl:lt y x=true):List.merge (a.drop i) (b.drop j) (leO lt)=y::List.merge (a.drop i) (b.drop (j+1)) (leO lt):=by
 obtain ⟨hi,ex⟩:=List.getElem?_eq_some_iff.1 hx
 obtain ⟨hj,ey⟩:=List.getElem?_eq_some_iff.1 hy
 rw [List.drop_eq_getElem_cons hi,List.drop_eq_getElem_cons hj,ex,ey,List.cons_merge_cons,if_neg (by simp [leO,hl])]
theorem zBC {a b:List α} {x:α} {i j:Nat} (hx:a[i]? =some x) (hl:∀y,b[j]? =some y→lt y x=false):List.merge (a.drop i) (b.drop j) (leO lt)=x::List.merge (a.drop (i+1)) (b.drop j) (leO lt):=by
 obtain ⟨hi,ex⟩:=List.getElem?_eq_some_iff.1 hx
 rw [List.drop_eq_getElem_cons hi,ex]
 rcases Nat.lt_or_ge j b.length with hj | hj
 ·have hy:b[j]? =some b[j]:=List.getElem?_eq_getElem hj
  rw [List.drop_eq_getElem_cons hj,List.cons_merge_cons,if_pos (by simp [leO,hl _ hy])]
 ·rw [List.drop_eq_nil_of_le hj,uK,uK]
theorem zJR {a b:List α} {i j:Nat} (hi:a.length≤i):List.merge (a.drop i) (b.drop j) (leO lt)=b.drop j:=by
 rw [List.drop_eq_nil_of_le hi,List.nil_merge]
end
end Go.Proofs.YtmemofonebphfaaGreat
