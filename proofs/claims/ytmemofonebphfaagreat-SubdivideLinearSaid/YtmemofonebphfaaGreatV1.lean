import Derived.WalkKit
namespace Go.Proofs.YtmemofonebphfaaGreat
section
variable {α:Type} {lt:α→α→Bool}
structure Tot (lt:α→α→Bool):Prop where
 irr:∀x,lt x x=false
 tr:∀x y z,lt x y=true→lt y z=true→lt x z=true
 tot:∀x y,lt x y=false→lt y x=false→x=y
def leO (lt:α→α→Bool) (x y:α):Bool:= !lt y x
theorem Tot.le_trans (h:Tot lt) (a b c:α) (hab:leO lt a b=true) (hbc:leO lt b c=true):leO lt a c=true:=by
 unfold leO at*
 simp only [Bool.not_eq_true'] at*
 cases hca:lt c a with
 | false=>rfl
 | true=>
  cases hba:lt a b with
  | true=>have:=h.tr _ _ _ hca hba;rw [hbc] at this;cases this
  | false=>
   have e:=h.tot _ _ hba hab
   subst e
   rw [hca] at hbc;cases hbc
theorem Tot.le_total (h:Tot lt) (a b:α):(leO lt a b || leO lt b a)=true:=by
 unfold leO
 cases hab:lt a b with
 | false=>simp
 | true=>
  cases hba:lt b a with
  | false=>simp
  | true=>have:=h.tr _ _ _ hab hba;rw [h.irr] at this;cases this
def sortO (lt:α→α→Bool) (l:List α):List α:=l.mergeSort (leO lt)
theorem sortO_perm (l:List α):List.Perm (sortO lt l) l:=List.mergeSort_perm _ _
theorem Tot.sorted (h:Tot lt) (l:List α):(sortO lt l).Pairwise (fun a b=>leO lt a b=true):=List.pairwise_mergeSort h.le_trans h.le_total l
theorem Tot.anti (h:Tot lt) (a b:α) (h1:leO lt a b=true) (h2:leO lt b a=true):a=b:=by
 unfold leO at h1 h2
 exact h.tot _ _ (by simpa using h2) (by simpa using h1)
theorem Tot.uniq (h:Tot lt) {l l':List α} (hp:l'.Perm l) (hs:l'.Pairwise (fun a b=>leO lt a b=true)):l'=sortO lt l:=
 List.Perm.eq_of_pairwise (le:=fun a b=>leO lt a b=true) (fun a b _ _ h1 h2=>h.anti a b h1 h2) hs (h.sorted l) (hp.trans (sortO_perm l).symm)
theorem Tot.merge (h:Tot lt) (a b:List α):List.merge (sortO lt a) (sortO lt b) (leO lt)=sortO lt (a++b):=
 h.uniq ((List.merge_perm_append (le:=leO lt)).trans ((sortO_perm a).append (sortO_perm b))) (List.pairwise_merge h.le_trans h.le_total _ _ (h.sorted a) (h.sorted b))
theorem Tot.halves (h:Tot lt) (l:List α) (n:Nat):List.merge (sortO lt (l.take n)) (sortO lt (l.drop n)) (leO lt)=sortO lt l:=by
 rw [h.merge,List.take_append_drop]
theorem sortO_length (l:List α):(sortO lt l).length=l.length:=(sortO_perm l).length_eq
theorem sortO_mem {l:List α} {x:α}:x∈sortO lt l ↔ x∈l:=(sortO_perm l).mem_iff
theorem sortO_short {l:List α} (h:l.length < 2):sortO lt l=l:=by
 match l,h with
 | [],_=>simp [sortO]
 | [a],_=>simp [sortO]
end
end Go.Proofs.YtmemofonebphfaaGreat
