import Derived.Test.YtmemofonebphfaaGreatP22
import Derived.Test.YtmemofonebphfaaGreatP39
namespace Go.Proofs.YtmemofonebphfaaGreat
open Go.RowKit Go.Sort
structure GdT (t:List Pt):Prop where
 dist:∀x∈t,x.1≠x.2.1∧x.2.1≠x.2.2∧x.2.2≠x.1
 nodup:(dirE t).Nodup
 clos:∀e∈dirE t,swE e∈dirE t
theorem GdT.of {t:List Pt} (h:checkP (t.map numT) false=0):GdT t:=by
 obtain ⟨h1,h2,h3,_⟩:=check_num.1 h
 exact ⟨h1,h2,h3⟩
def Near (n:Nat) (l m:List Pt):Prop:=∃K A B,l.Perm (K++A)∧m.Perm (K++B)∧A.length≤n∧B.length≤n∧(A= []→∀b∈B,b∈l)
theorem Near.refl (n:Nat) (l:List Pt):Near n l l:=⟨l, [], [],by simp,by simp,by simp,by simp,fun _ b hb=>by cases hb⟩
theorem Near.set {l:List Pt} {k:Nat} {x y:Pt} (h:l[k]? =some x):Near 1 l (l.set k y):=by
 obtain ⟨hk,e⟩:=List.getElem?_eq_some_iff.1 h
 refine ⟨l.take k++l.drop (k+1), [x], [y],?_,?_,by simp,by simp,by simp⟩
 ·have:l=l.take k++x::l.drop (k+1):=by rw [←e,←List.drop_eq_getElem_cons hk,List.take_append_drop]
  exact (List.Perm.of_eq this).trans (List.perm_middle.trans (List.perm_append_comm (l₁:= [x])))
 ·rw [List.set_eq_take_append_cons_drop,if_pos hk]
  exact List.perm_middle.trans (List.perm_append_comm (l₁:= [y]))
theorem Near.erase {l:List Pt} {k:Nat} {x:Pt} (h:l[k]? =some x):Near 1 l (l.take k++l.drop (k+1)):=by
 obtain ⟨hk,e⟩:=List.getElem?_eq_some_iff.1 h
 refine ⟨l.take k++l.drop (k+1), [x], [],?_,by simp,by simp,by simp,by simp⟩
 have:l=l.take k++x::l.drop (k+1):=by rw [←e,←List.drop_eq_getElem_cons hk,List.take_append_drop]
 exact (List.Perm.of_eq this).trans (List.perm_middle.trans (List.perm_append_comm (l₁:= [x])))
theorem Near.more {l:List Pt} {x:Pt} (h:x∈l):Near 1 l (l++ [x]):=⟨l, [], [x],by simp,by simp,by simp,by simp,fun _ b hb=>by rw [List.mem_singleton.1 hb];exact h⟩
theorem Near.le {n m:Nat} {l r:List Pt} (h:Near n l r) (hn:n≤m):Near m l r:=by
 obtain ⟨K,A,B,h1,h2,h3,h4,h5⟩:=h
 exact ⟨K,A,B,h1,h2,by omega,by omega,h5⟩
theorem two_or {A:List Pt} (h:A.length≤2):A= []∨(∃z,A= [z])∨∃z y,A= [z,y]:=by
 match A,h with
 | [],_=>exact .inl rfl
 | [z],_=>exact .inr (.inl ⟨z,rfl⟩)
 | [z,y],_=>exact .inr (.inr ⟨z,y,rfl⟩)
def Bk (x y:Pt):Prop:=∀e∈de3 x,swE e∈de3 y
abbrev Dst (x:Pt):Prop:=x.1≠x.2.1∧x.2.1≠x.2.2∧x.2.2≠x.1
theorem bk_iff {x y:Pt}:Bk x y ↔ (x.2.1,x.1)∈de3 y∧(x.2.2,x.2.1)∈de3 y∧(x.1,x.2.2)∈de3 y:=by
 constructor
 ·intro h
  exact ⟨h (x.1,x.2.1) (by simp [de3]),h (x.2.1,x.2.2) (by simp [de3]),h (x.2.2,x.1) (by simp [de3])⟩
 ·rintro ⟨h1,h2,h3⟩ e he
  rcases mem_de3.1 he with rfl | rfl | rfl
  ·exact h1
  ·exact h2
  ·exact h3
theorem Bk.sym {x y:Pt} (h:Bk x y) (hx:Dst x):Bk y x:=by
 obtain ⟨h1,h2,h3⟩:=bk_iff.1 h
 obtain ⟨d1,d2,d3⟩:=hx
 rw [bk_iff]
 simp only [mem_de3,Prod.mk.injEq] at h1 h2 h3⊢
 omega
theorem bk_two {x n:Pt} (hx:Dst x) (hn:Dst n) {e f:E2} (he:e∈de3 x) (hf:f∈de3 x) (hne:e≠f) (h1:swE e∈de3 n) (h2:swE f∈de3 n):Bk x n:=by
 obtain ⟨d1,d2,d3⟩:=hx
 obtain ⟨c1,c2,c3⟩:=hn
 obtain ⟨e1,e2⟩:=e
 obtain ⟨f1,f2⟩:=f
 rw [bk_iff]
 simp only [mem_de3,swE,Prod.mk.injEq,ne_eq] at he hf hne h1 h2⊢
 rcases he with ⟨rfl,rfl⟩ | ⟨rfl,rfl⟩ | ⟨rfl,rfl⟩ <;>rcases hf with ⟨rfl,rfl⟩ | ⟨rfl,rfl⟩ | ⟨rfl,rfl⟩ <;>first
  | exact absurd ⟨rfl,rfl⟩ hne
  | (rcases h1 with ⟨a1,b1⟩ | ⟨a1,b1⟩ | ⟨a1,b1⟩ <;>rcases h2 with ⟨a2,b2⟩ | ⟨a2,b2⟩ | ⟨a2,b2⟩ <;>first | (exfalso;omega) | (refine ⟨?_,?_,?_⟩ <;>omega))
theorem not_self {x:Pt} (hx:Dst x) {e:E2} (he:e∈de3 x):swE e ∉ de3 x:=by
 obtain ⟨d1,d2,d3⟩:=hx
 obtain ⟨e1,e2⟩:=e
 simp only [mem_de3,swE,Prod.mk.injEq] at he⊢
 omega
theorem GdT.same {t:List Pt} (h:GdT t) {x y:Pt} (hx:x∈t) (hy:y∈t) {e:E2} (ex:e∈de3 x) (ey:e∈de3 y):x=y:=by
 obtain ⟨i,hi⟩:=List.mem_iff_getElem?.1 hx
 obtain ⟨j,hj⟩:=List.mem_iff_getElem?.1 hy
 have:=nodup_flat h.nodup hi hj ex ey
 subst this
 rw [hi] at hj
 exact Option.some.inj hj
theorem GdT.apart {K A:List Pt} (h:GdT (K++A)) {e:E2} (hk:e∈dirE K) (ha:e∈dirE A):False:=by
 have:=h.nodup
 unfold dirE at this
 rw [List.flatMap_append] at this
 exact (List.nodup_append.1 this).2.2 e hk e ha rfl
theorem de3_three (x:Pt) (hx:Dst x):(x.1,x.2.1)≠(x.2.1,x.2.2)∧(x.2.1,x.2.2)≠(x.2.2,x.1)∧(x.1,x.2.1)≠(x.2.2,x.1):=by
 obtain ⟨d1,d2,d3⟩:=hx
 simp only [ne_eq,Prod.mk.injEq]
 omega
theorem near_old {K A B:List Pt} (hA:A.length≤2) (hl:GdT (K++A)) (hm:GdT (K++B)) (hn:NoBack (K++A)) {x y:Pt} (hx:x∈K++A) (hy:y∈K++B) (hb:Bk x y):False:=by
 have hd:=hl.dist x hx
 have key:∀e∈de3 x,∃n∈A,swE e∈de3 n:=fun e he=>by
  obtain ⟨n,hn1,hn2⟩:=mem_dirE.1 (hl.clos e (mem_dirE.2 ⟨x,hx,he⟩))
  rcases List.mem_append.1 hn1 with h | h
  ·have:=hm.same (List.mem_append.2 (.inl h)) hy hn2 (hb e he)
   subst this
   exact absurd hb (hn x hx n hn1)
  ·exact ⟨n,h,hn2⟩
 have both:∀e∈de3 x,∀f∈de3 x,e≠f→∀n∈A,swE e∈de3 n→swE f∈de3 n→False:=fun e he f hf hne n hA1 h1 h2=>by
  have hn1:n∈K++A:=List.mem_append.2 (.inr hA1)
  exact hn x hx n hn1 (bk_two hd (hl.dist n hn1) he hf hne h1 h2)
 have m1:(x.1,x.2.1)∈de3 x:=by simp [de3]
 have m2:(x.2.1,x.2.2)∈de3 x:=by simp [de3]
 have m3:(x.2.2,x.1)∈de3 x:=by simp [de3]
 obtain ⟨u1,u2,u3⟩:=de3_three x hd
 obtain ⟨n1,a1,b1⟩:=key _ m1
 obtain ⟨n2,a2,b2⟩:=key _ m2
 obtain ⟨n3,a3,b3⟩:=key _ m3
 have e12:n1≠n2:=fun e=>both _ m1 _ m2 u1 n1 a1 b1 (by rw [e];exact b2)
 have e23:n2≠n3:=fun e=>both _ m2 _ m3 u2 n2 a2 b2 (by rw [e];exact b3)
 have e13:n1≠n3:=fun e=>both _ m1 _ m3 u3 n1 a1 b1 (by rw [e];exact b3)
 rcases two_or hA with rfl | ⟨z,rfl⟩ | ⟨z,w,rfl⟩
 ·cases a1
 ·rw [List.mem_singleton] at a1 a2
  exact e12 (a1.trans a2.symm)
 ·simp only [List.mem_cons,List.not_mem_nil,or_false] at a1 a2 a3
  rcases a1 with rfl | rfl <;>rcases a2 with rfl | rfl <;>rcases a3 with rfl | rfl <;>first | exact e12 rfl | exact e23 rfl | exact e13 rfl
theorem GdT.perm {l m:List Pt} (h:GdT l) (hp:l.Perm m):GdT m where
 dist x hx:=h.dist x ((hp.mem_iff).2 hx)
 nodup:=((hp.flatMap_right de3).nodup_iff).1 h.nodup
 clos e he:=by
  have he':e∈dirE l:=((hp.flatMap_right de3).mem_iff).2 he
  exact ((hp.flatMap_right de3).mem_iff).1 (h.clos e he')
theorem NoBack.perm {l m:List Pt} (h:NoBack l) (hp:l.Perm m):NoBack m:=fun x hx y hy=>h x ((hp.mem_iff).2 hx) y ((hp.mem_iff).2 hy)
theorem near_back {l m:List Pt} (hnr:Near 2 l m) (hl0:GdT l) (hm0:GdT m) (hn0:NoBack l):NoBack m:=by
 obtain ⟨K,A,B,p1,p2,hA,hB,hAB⟩:=hnr
 have hl:=hl0.perm p1
 have hm:=hm0.perm p2
 have hn:=hn0.perm p1
 refine NoBack.perm ?_ p2.symm
 intro x hx y hy hb
 have hb:Bk x y:=hb
 have hdx:=hm.dist x hx
 have hdy:=hm.dist y hy
 have hbs:=hb.sym hdx
 have hx1:x ∉ K++A:=fun h=>near_old hA hl hm hn h hy hb
 have hy1:y ∉ K++A:=fun h=>near_old hA hl hm hn h hx hbs
 have hxB:x∈B:=by
  rcases List.mem_append.1 hx with h | h
  ·exact absurd (List.mem_append.2 (.inl h)) hx1
  ·exact h
 have hyB:y∈B:=by
  rcases List.mem_append.1 hy with h | h
  ·exact absurd (List.mem_append.2 (.inl h)) hy1
  ·exact h
 have hxy:∀b∈B,b=x∨b=y:=by
  have hne:x≠y:=fun e=>by
   subst e
   exact not_self hdx (e:=(x.1,x.2.1)) (by simp [de3]) (hb _ (by simp [de3]))
  rcases two_or hB with rfl | ⟨z,rfl⟩ | ⟨z,w,rfl⟩
  ·cases hxB
  ·rw [List.mem_singleton] at hxB hyB
   exact absurd (hxB.trans hyB.symm) hne
  ·simp only [List.mem_cons,List.not_mem_nil,or_false] at hxB hyB⊢
   intro b hb
   rcases hxB with rfl | rfl <;>rcases hyB with rfl | rfl <;>first | exact absurd rfl hne | exact hb | exact hb.symm
 have kc:∀e∈dirE K,swE e∈dirE K:=fun e he=>by
  have he2:e∈dirE (K++B):=by
   obtain ⟨z,h1,h2⟩:=mem_dirE.1 he
   exact mem_dirE.2 ⟨z,List.mem_append.2 (.inl h1),h2⟩
  obtain ⟨z,h1,h2⟩:=mem_dirE.1 (hm.clos e he2)
  rcases List.mem_append.1 h1 with h | h
  ·exact mem_dirE.2 ⟨z,h,h2⟩
  ·exfalso
   rcases hxy z h with rfl | rfl
   ·exact hm.apart he (mem_dirE.2 ⟨y,hyB,hb _ h2⟩)
   ·exact hm.apart he (mem_dirE.2 ⟨x,hxB,hbs _ h2⟩)
 have inA:∀a∈A,∀e∈de3 a,∃b∈A,swE e∈de3 b:=fun a ha e he=>by
  obtain ⟨z,h1,h2⟩:=mem_dirE.1 (hl.clos e (mem_dirE.2 ⟨a,List.mem_append.2 (.inr ha),he⟩))
  rcases List.mem_append.1 h1 with h | h
  ·exact (hl.apart (kc _ (mem_dirE.2 ⟨z,h,h2⟩)) (mem_dirE.2 ⟨a,ha,he⟩)).elim
  ·exact ⟨z,h,h2⟩
 have one:∀a b:Pt,a∈A→b∈A→(∀z∈A,z=a∨z=b)→False:=fun a b ha hb hab=>by
  have hla:a∈K++A:=List.mem_append.2 (.inr ha)
  have hd:=hl.dist a hla
  refine hn a hla b (List.mem_append.2 (.inr hb)) fun e he=> ?_
  obtain ⟨z,hz,h2⟩:=inA a ha e he
  rcases hab z hz with rfl | rfl
  ·exact absurd h2 (not_self hd he)
  ·exact h2
 rcases two_or hA with rfl | ⟨z,rfl⟩ | ⟨z,w,rfl⟩
 ·exact hx1 ((p1.mem_iff).1 (hAB rfl x hxB))
 ·exact one z z (by simp) (by simp) (by simp)
 ·exact one z w (by simp) (by simp) (by simp)
end Go.Proofs.YtmemofonebphfaaGreat
