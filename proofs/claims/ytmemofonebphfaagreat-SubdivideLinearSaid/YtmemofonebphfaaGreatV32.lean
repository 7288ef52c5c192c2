import Derived.Test.YtmemofonebphfaaGreatV30
namespace Go.Proofs.YtmemofonebphfaaGreat
open Go.RowKit Go.Sort
def addZ (p q:Pt):Pt:=(p.1+q.1,p.2.1+q.2.1,p.2.2+q.2.2)
def halfP (p:Pt):Pt:=(p.1.tdiv 2,p.2.1.tdiv 2,p.2.2.tdiv 2)
def sumD:List (List Pt)→List (List Pt)→List (List Pt)
 | [],b=>b
 | a::xs0, []=>a::xs0
 | x::xs0,y::bs=>List.zipWith addZ x y::sumD xs0 bs
theorem sumD_get:∀{a b:List (List Pt)} {k:Nat} {d:List Pt},(sumD a b)[k]? =some d→(∃x,a[k]? =some x∧b[k]? =none∧d=x)∨(∃y,a[k]? =none∧b[k]? =some y∧d=y)∨(∃x y,a[k]? =some x∧b[k]? =some y∧d=List.zipWith addZ x y)
 | [],b,k,d,h=> .inr (.inl ⟨d,by simp,h,rfl⟩)
 | x::xs0, [],k,d,h=> .inl ⟨d,h,by simp,rfl⟩
 | x::xs0,y::bs,0,d,h=>by
  simp only [sumD,List.getElem?_cons_zero,Option.some.injEq] at h
  exact .inr (.inr ⟨x,y,by simp,by simp,h.symm⟩)
 | x::xs0,y::bs,k+1,d,h=>by
  simp only [sumD,List.getElem?_cons_succ] at h⊢
  exact sumD_get h
theorem sumD_len:∀(a b:List (List Pt)),(sumD a b).length=max a.length b.length
 | [],b=>by simp [sumD]
 | x::xs0, []=>by simp [sumD]
 | x::xs0,y::bs=>by simp only [sumD,List.length_cons];rw [sumD_len xs0 bs];omega
theorem zip_getD {x y:List Pt} (h:x.length=y.length) (i:Nat):(List.zipWith addZ x y).getD i (0,0,0)=addZ (x.getD i (0,0,0)) (y.getD i (0,0,0)):=by
 rw [List.getD_eq_getElem?_getD,List.getD_eq_getElem?_getD,List.getD_eq_getElem?_getD,List.getElem?_zipWith]
 rcases Nat.lt_or_ge i x.length with hi | hi
 ·rw [List.getElem?_eq_getElem hi,List.getElem?_eq_getElem (show i < y.length by omega)]
  rfl
 ·rw [List.getElem?_eq_none hi,List.getElem?_eq_none (show y.length≤i by omega)]
  rfl
theorem sumD_dtl {a b:List (List Pt)} (hl:∀(k:Nat) (x y:List Pt),a[k]? =some x→b[k]? =some y→x.length=y.length) (k i:Nat):((sumD a b).getD k []).getD i (0,0,0)=addZ ((a.getD k []).getD i (0,0,0)) ((b.getD k []).getD i (0,0,0)):=by
 have h0:∀z:Pt,addZ z (0,0,0)=z:=fun z=>by unfold addZ;simp
 have h1:∀z:Pt,addZ (0,0,0) z=z:=fun z=>by unfold addZ;simp
 rw [List.getD_eq_getElem?_getD (l:=sumD a b),List.getD_eq_getElem?_getD (l:=a),List.getD_eq_getElem?_getD (l:=b)]
 cases hs:(sumD a b)[k]? with
 | none=>
  have h2:=List.getElem?_eq_none_iff.1 hs
  rw [sumD_len] at h2
  rw [List.getElem?_eq_none (show a.length≤k by omega),List.getElem?_eq_none (show b.length≤k by omega)]
  rfl
 | some d=>
  rcases sumD_get hs with ⟨x,e1,e2,rfl⟩ | ⟨y,e1,e2,rfl⟩ | ⟨x,y,e1,e2,rfl⟩
  ·rw [e1,e2]
   exact (h0 _).symm
  ·rw [e1,e2]
   exact (h1 _).symm
  ·rw [e1,e2]
   exact zip_getD (hl k x y e1 e2) i
def shpB (s s2:ShpC):ShpC:={s2 with kind:=s.kind,bits:=s.bits,steps:=s.steps}
def linA (s:ShpC):Ctl:={madeC s with points:=(madeC s).points.map halfP}
def linB (s s2:ShpC):Ctl:={madeC (shpB s s2) with points:=(madeC (shpB s s2)).points.map halfP,creases:=(madeC s).creases,corners:=(madeC s).corners}
def linC (s s2:ShpC):Ctl:={linA s with points:=List.zipWith addZ (linA s).points (linB s s2).points,details:=sumD (linA s).details (linB s s2).details}
theorem half_rng {m x:Int} (h:0≤x∧x≤m):0≤x.tdiv 2∧2*x.tdiv 2≤m:=by
 rw [Int.tdiv_eq_ediv_of_nonneg h.1]
 omega
theorem made_halves (s:ShpC):∀p∈(madeC s).points.map halfP,(0≤p.1∧2*p.1≤2097151 / 16^(madeC s).steps.toNat)∧(0≤p.2.1∧2*p.2.1≤2097151 / 16^(madeC s).steps.toNat)∧0≤p.2.2∧2*p.2.2≤2097151 / 16^(madeC s).steps.toNat:=fun p hp=>by
 obtain ⟨q,hq,rfl⟩:=List.mem_map.1 hp
 have h:=(outR_no (right_of (made_right s)).rng) q hq
 exact ⟨half_rng h.1,half_rng h.2.1,half_rng h.2.2⟩
theorem linA_right (s:ShpC):errC (linA s)=0:=
 points_right (made_right s) (List.length_map _) fun p hp=>by
  have h:=made_halves s p hp
  omega
theorem made_np (s:ShpC):(madeC s).points.length=baseN s.kind s.bits:=by
 show (List.map _ _).length=_
 rw [List.length_map,List.length_range]
theorem linB_right (s s2:ShpC):errC (linB s s2)=0:=by
 obtain ⟨h1,h2,h3,h4,h5,h6⟩:=right_iff.1 (made_right (shpB s s2))
 obtain ⟨g1,g2,g3,g4,g5,g6⟩:=right_iff.1 (made_right s)
 have hn:(linB s s2).points.length=(madeC s).points.length:=by
  show (List.map _ _).length=_
  rw [List.length_map,made_np,made_np]
  rfl
 refine right_iff.2 ⟨h1,?_,h3,g4,h5,?_⟩
 ·unfold badIx at g2⊢
  rw [hn]
  exact g2
 ·unfold farC at h6⊢
  simp only [Bool.or_eq_false_iff] at h6⊢
  refine ⟨outR_of fun p hp=> ?_,h6.2⟩
  have h:=made_halves (shpB s s2) p hp
  show _∧_∧_
  have e:(linB s s2).steps=(madeC (shpB s s2)).steps:=rfl
  rw [e]
  omega
theorem made_det_small (s:ShpC):∀d∈(madeC s).details,smallD 19 d:=by
 intro d hd p hp
 have hd:d∈(if s.details.length=0 then [] else (List.range (stM s)).map (detM s)):=hd
 split at hd
 ·cases hd
 ·obtain ⟨k,_,rfl⟩:=List.mem_map.1 hd
  obtain ⟨i,_,rfl⟩:=List.mem_map.1 hp
  have key:∀x:Int,-19≤x.tmod 20∧x.tmod 20≤19:=fun x=>by
   have h1:=Int.tmod_lt_of_pos x (show (0:Int) < 20 by decide)
   have h2:=Int.lt_tmod_of_pos x (show (0:Int) < 20 by decide)
   omega
  exact ⟨key _,key _,key _⟩
theorem made_det_len (s:ShpC) {k:Nat} {d:List Pt} (h:(madeC s).details[k]? =some d):d.length=min (4^k*(3*(baseT s.kind s.bits).length / 2)) (40*(k+1)):=by
 have h:(if s.details.length=0 then [] else (List.range (stM s)).map (detM s))[k]? =some d:=h
 split at h
 ·simp at h
 ·rw [List.getElem?_map] at h
  cases hk:(List.range (stM s))[k]? with
  | none=>rw [hk] at h;cases h
  | some j=>
   rw [hk] at h
   obtain rfl:=Option.some.inj h
   have:j=k:=by
    have hlt:=(List.getElem?_eq_some_iff.1 hk).1
    rw [List.length_range] at hlt
    rw [List.getElem?_range hlt] at hk
    exact (Option.some.inj hk).symm
   subst this
   show (List.map _ _).length=_
   rw [List.length_map,List.length_range]
theorem lin_len (s s2:ShpC):∀(k:Nat) (x y:List Pt),(linA s).details[k]? =some x→(linB s s2).details[k]? =some y→x.length=y.length:=fun k x y hx hy=>by
 rw [made_det_len s hx,made_det_len (shpB s s2) hy]
 rfl
theorem lin_pl (s s2:ShpC):(linA s).points.length=(linC s s2).points.length∧(linB s s2).points.length=(linC s s2).points.length:=by
 have h1:(linA s).points.length=baseN s.kind s.bits:=by show (List.map _ _).length=_;rw [List.length_map,made_np]
 have h2:(linB s s2).points.length=baseN s.kind s.bits:=by show (List.map _ _).length=_;rw [List.length_map,made_np];rfl
 have h3:(linC s s2).points.length=min (linA s).points.length (linB s s2).points.length:=List.length_zipWith
 omega
theorem linC_right (s s2:ShpC):errC (linC s s2)=0:=by
 obtain ⟨h1,h2,h3,h4,h5,h6⟩:=right_iff.1 (linA_right s)
 have hRA:=right_of (linA_right s)
 have hRB:=right_of (linB_right s s2)
 have hst:(linB s s2).steps=(linC s s2).steps:=rfl
 refine right_iff.2 ⟨?_,?_,h3,h4,?_,?_⟩
 ·unfold argC at h1⊢
  simp only [Bool.or_eq_false_iff,decide_eq_false_iff_not] at h1⊢
  refine ⟨h1.1,?_⟩
  have e:(linC s s2).details.length=max (linA s).details.length (linB s s2).details.length:=sumD_len _ _
  have k1:=hRA.det
  have k2:=hRB.det
  rw [hst] at k2
  have k3:(linA s).steps=(linC s s2).steps:=rfl
  rw [k3] at k1
  omega
 ·unfold badIx at h2⊢
  rw [←(lin_pl s s2).1]
  exact h2
 ·unfold manyC at h5⊢
  simp only [Bool.or_eq_false_iff] at h5⊢
  refine ⟨many_of fun k d hd=> ?_,h5.2⟩
  have hm:∀t:ShpC,t.kind=s.kind→t.bits=s.bits→∀x,(madeC t).details[k]? =some x→x.length≤4^k*(3*(linC s s2).tris.length / 2):=fun t e1 e2 x hx=>by
   rw [made_det_len t hx,e1,e2]
   exact Nat.min_le_left _ _
  rcases sumD_get hd with ⟨x,e1,e2,rfl⟩ | ⟨y,e1,e2,rfl⟩ | ⟨x,y,e1,e2,rfl⟩
  ·exact hm s rfl rfl _ e1
  ·exact hm (shpB s s2) rfl rfl _ e2
  ·rw [List.length_zipWith]
   exact Nat.le_trans (Nat.min_le_left _ _) (hm s rfl rfl _ e1)
 ·unfold farC
  simp only [Bool.or_eq_false_iff]
  refine ⟨outR_of fun p hp=> ?_,List.any_eq_false.2 fun d hd=> ?_⟩
  ·obtain ⟨i,hi⟩:=List.mem_iff_getElem?.1 hp
   have hi:(List.zipWith addZ (linA s).points (linB s s2).points)[i]? =some p:=hi
   rw [List.getElem?_zipWith] at hi
   cases hx:(linA s).points[i]? with
   | none=>rw [hx] at hi;cases hi
   | some x=>
    cases hy:(linB s s2).points[i]? with
    | none=>rw [hx,hy] at hi;cases hi
    | some y=>
     rw [hx,hy] at hi
     obtain rfl:=Option.some.inj hi
     have k1:=made_halves s x (List.mem_of_getElem? hx)
     have k2:=made_halves (shpB s s2) y (List.mem_of_getElem? hy)
     have e1:(madeC s).steps=(linC s s2).steps:=rfl
     have e2:(madeC (shpB s s2)).steps=(linC s s2).steps:=rfl
     rw [e1] at k1
     rw [e2] at k2
     unfold addZ
     dsimp only
     omega
  ·rw [Bool.not_eq_true]
   refine outR_of fun p hp=> ?_
   obtain ⟨k,hk⟩:=List.mem_iff_getElem?.1 hd
   have hs:smallD 38 d:=by
    rcases sumD_get hk with ⟨x,e1,e2,rfl⟩ | ⟨y,e1,e2,rfl⟩ | ⟨x,y,e1,e2,rfl⟩
    ·exact fun p hp=>by have:=made_det_small s _ (List.mem_of_getElem? e1) p hp;omega
    ·exact fun p hp=>by have:=made_det_small (shpB s s2) _ (List.mem_of_getElem? e2) p hp;omega
    ·intro p hp
     obtain ⟨i,hi⟩:=List.mem_iff_getElem?.1 hp
     rw [List.getElem?_zipWith] at hi
     cases hx:x[i]? with
     | none=>rw [hx] at hi;cases hi
     | some u=>
      cases hy:y[i]? with
      | none=>rw [hx,hy] at hi;cases hi
      | some v=>
       rw [hx,hy] at hi
       obtain rfl:=Option.some.inj hi
       have k1:=made_det_small s _ (List.mem_of_getElem? e1) u (List.mem_of_getElem? hx)
       have k2:=made_det_small (shpB s s2) _ (List.mem_of_getElem? e2) v (List.mem_of_getElem? hy)
       unfold addZ
       dsimp only
       omega
   have:=hs p hp
   omega
theorem lin_sum (s s2:ShpC):SumL (linA s).points (linB s s2).points (linC s s2).points:=by
 obtain ⟨h1,h2⟩:=lin_pl s s2
 refine ⟨h1,h2,fun i=> ?_⟩
 have h:(linC s s2).points.getD i (0,0,0)=addZ ((linA s).points.getD i (0,0,0)) ((linB s s2).points.getD i (0,0,0)):=zip_getD (by omega) i
 rw [h]
 exact ⟨rfl,rfl,rfl⟩
theorem lin_back (s:ShpC):NoBack (linA s).tris:=made_back s
theorem lin_law (s s2:ShpC):(finP (linA s)).length=(finP (linC s s2)).length∧(finP (linB s s2)).length=(finP (linC s s2)).length∧∀(i:Nat) (x y:Pt),(finP (linA s))[i]? =some x→(finP (linB s s2))[i]? =some y→(finP (linC s s2))[i]? =some (wrap64 (x.1+y.1),wrap64 (x.2.1+y.2.1),wrap64 (x.2.2+y.2.2)):=by
 have ha:=linA_right s
 have hb:=linB_right s s2
 have hc:=linC_right s s2
 have hl:=level_sum (right_of ha) (right_of hb) (right_of hc) rfl rfl rfl rfl rfl rfl rfl rfl (lin_sum s s2) (fun k i _=>by
  have h:dtl (linC s s2) k i=addZ (dtl (linA s) k i) (dtl (linB s s2) k i):=sumD_dtl (lin_len s s2) k i
  rw [h]
  exact ⟨rfl,rfl,rfl⟩) (linC s s2).steps.toNat (Nat.le_refl _)
 have e1:finP (linA s)=((linA s).level (linC s s2).steps.toNat).p:=by unfold finP;rw [if_pos ha];rfl
 have e2:finP (linB s s2)=((linB s s2).level (linC s s2).steps.toNat).p:=by unfold finP;rw [if_pos hb];rfl
 have e3:finP (linC s s2)=((linC s s2).level (linC s s2).steps.toNat).p:=by unfold finP;rw [if_pos hc]
 obtain ⟨h1,h2,h3⟩:=hl.1
 rw [←e1,←e2,←e3] at h3
 rw [←e1,←e3] at h1
 rw [←e2,←e3] at h2
 refine ⟨h1,h2,fun i x y hx hy=> ?_⟩
 have hi:i < (finP (linC s s2)).length:=by have:=(List.getElem?_eq_some_iff.1 hx).1;omega
 have hz:(finP (linC s s2))[i]? =some ((finP (linC s s2))[i]):=List.getElem?_eq_getElem hi
 obtain ⟨z,hzz⟩:∃z,z=(finP (linC s s2))[i]:=⟨_,rfl⟩
 rw [←hzz] at hz
 have hf:=fin_fits (linC s s2) z (List.mem_of_getElem? hz)
 obtain ⟨g1,g2,g3⟩:=h3 i
 rw [List.getD_eq_getElem?_getD,List.getD_eq_getElem?_getD,List.getD_eq_getElem?_getD,hx,hy,hz] at g1 g2 g3
 simp only [Option.getD_some] at g1 g2 g3
 rw [hz]
 obtain ⟨z1,z2,z3⟩:=z
 simp only at g1 g2 g3
 obtain ⟨f1,f2,f3⟩:=hf
 have w:∀v:Int,fits v→wrap64 v=v:=fun v hv=>by unfold fits at hv;unfold wrap64;omega
 rw [←g1,←g2,←g3,w _ f1,w _ f2,w _ f3]
end Go.Proofs.YtmemofonebphfaaGreat
namespace Go.Proofs.YtmemofonebphfaaGreat
open Go.RowKit Go.Sort
def zpL (P Q:List Pt) (i:Nat):List Pt:=(List.zipWith addZ P Q).take i++P.drop i
section
variable {P Q:List Pt} {i:Nat}
theorem zpL_len (h:P.length=Q.length):(zpL P Q i).length=P.length:=by
 unfold zpL;rw [List.length_append,List.length_take,List.length_drop,List.length_zipWith];omega
theorem zpL_get (h:P.length=Q.length) (hi:i < P.length):(zpL P Q i)[i]? =P[i]? :=by
 unfold zpL
 have hl:((List.zipWith addZ P Q).take i).length=i:=by rw [List.length_take,List.length_zipWith];omega
 rw [List.getElem?_append_right (by omega),hl,Nat.sub_self,List.getElem?_drop,Nat.add_zero]
theorem zpL_set {x y:Pt} (hx:P[i]? =some x) (hy:Q[i]? =some y):(zpL P Q i).set i (addZ x y)=zpL P Q (i+1):=by
 have hi:=(List.getElem?_eq_some_iff.1 hx).1
 have hj:=(List.getElem?_eq_some_iff.1 hy).1
 have hd:P.drop i=x::P.drop (i+1):=by
  rw [List.drop_eq_getElem_cons hi]
  congr 1
  rw [List.getElem?_eq_getElem hi] at hx
  exact Option.some.inj hx
 have hl:((List.zipWith addZ P Q).take i).length=i:=by rw [List.length_take,List.length_zipWith];omega
 have hz:(List.zipWith addZ P Q)[i]? =some (addZ x y):=by rw [List.getElem?_zipWith,hx,hy]
 unfold zpL
 rw [hd,List.set_append_right _ _ (by omega),hl,Nat.sub_self,List.set_cons_zero,List.take_add_one,hz,List.append_assoc]
 rfl
theorem zpL_zero:zpL P Q 0=P:=by unfold zpL;simp
theorem zpL_end (h:P.length=Q.length):zpL P Q P.length=List.zipWith addZ P Q:=by
 unfold zpL
 rw [List.take_of_length_le (by rw [List.length_zipWith];omega),List.drop_length,List.append_nil]
end
theorem sumD_nil_r:∀a:List (List Pt),sumD a []=a
 | []=>rfl
 | _::_=>rfl
theorem sumD_take_get:∀{a b:List (List Pt)} {k:Nat},k < a.length→(sumD a (b.take k))[k]? =a[k]?
 | [],b,k,h=>absurd h (by simp)
 | x::xs0,b,0,_=>by rw [List.take_zero,sumD_nil_r]
 | x::xs0, [],k+1,_=>by rw [List.take_nil,sumD_nil_r]
 | x::xs0,y::bs,k+1,h=>by
  rw [List.take_succ_cons]
  simp only [sumD,List.getElem?_cons_succ]
  exact sumD_take_get (by simpa using h)
theorem sumD_take_set:∀{a b:List (List Pt)} {k:Nat} {x y:List Pt},a[k]? =some x→b[k]? =some y→(sumD a (b.take k)).set k (List.zipWith addZ x y)=sumD a (b.take (k+1))
 | [],b,k,x,y,h,_=>by simp at h
 | u::xs0, [],k,x,y,_,h=>by simp at h
 | u::xs0,v::bs,0,x,y,h,h2=>by
  simp at h h2
  subst h h2
  simp only [List.take_zero,List.take_succ_cons,sumD,List.set_cons_zero,sumD_nil_r]
 | u::xs0,v::bs,k+1,x,y,h,h2=>by
  simp only [List.getElem?_cons_succ] at h h2
  simp only [List.take_succ_cons,sumD,List.set_cons_succ]
  rw [sumD_take_set h h2]
theorem set_same9 {α:Type} {l:List α} {k:Nat} {x:α} (h:l[k]? =some x):l.set k x=l:=by
 apply List.ext_getElem?
 intro i
 rw [List.getElem?_set]
 by_cases hik:k=i
 ·subst hik
  rw [if_pos rfl,h]
  simp [(List.getElem?_eq_some_iff.1 h).1]
 ·rw [if_neg hik]
theorem linA_small (s:ShpC):CtlB (linA s):=by
 have h:=made_small s
 refine ⟨?_,h.t,h.cr,h.o,h.d,h.dd⟩
 show (List.map _ _).length≤_
 rw [List.length_map]
 exact h.p
theorem linB_small (s s2:ShpC):CtlB (linB s s2):=by
 have h:=made_small (shpB s s2)
 have h2:=made_small s
 refine ⟨?_,h.t,h2.cr,h2.o,h.d,h.dd⟩
 show (List.map _ _).length≤_
 rw [List.length_map]
 exact h.p
theorem linC_small (s s2:ShpC):CtlB (linC s s2):=by
 have h:=linA_small s
 have h2:=linB_small s s2
 refine ⟨?_,h.t,h.cr,h.o,?_,fun d hd=> ?_⟩
 ·have h3:=(lin_pl s s2).1
  have h4:=h.p
  omega
 ·have e:(linC s s2).details.length=max (linA s).details.length (linB s s2).details.length:=sumD_len _ _
  have h3:=h.d
  have h4:=h2.d
  omega
 ·obtain ⟨k,hk⟩:=List.mem_iff_getElem?.1 hd
  rcases sumD_get hk with ⟨x,e1,e2,rfl⟩ | ⟨y,e1,e2,rfl⟩ | ⟨x,y,e1,e2,rfl⟩
  ·exact h.dd _ (List.mem_of_getElem? e1)
  ·exact h2.dd _ (List.mem_of_getElem? e2)
  ·have h3:=h.dd _ (List.mem_of_getElem? e1)
   rw [List.length_zipWith]
   omega
theorem lin_nd (s s2:ShpC):(linA s).details.length=0∨(linB s s2).details.length≤(linA s).details.length:=by
 have h1:(linA s).details=if s.details.length=0 then [] else (List.range (stM s)).map (detM s):=rfl
 have h2:(linB s s2).details=if s2.details.length=0 then [] else (List.range (stM s)).map (detM (shpB s s2)):=rfl
 rw [h1,h2]
 split
 ·exact .inl rfl
 ·refine .inr ?_
  split
  ·exact Nat.zero_le _
  ·rw [List.length_map,List.length_map]
   exact Nat.le_refl _
theorem addP_Z {x y:Pt} (hx:(0≤x.1∧x.1≤2097151)∧(0≤x.2.1∧x.2.1≤2097151)∧0≤x.2.2∧x.2.2≤2097151) (hy:(0≤y.1∧y.1≤2097151)∧(0≤y.2.1∧y.2.1≤2097151)∧0≤y.2.2∧y.2.2≤2097151):addP x y=addZ x y:=by
 unfold addP addZ wrap64
 obtain ⟨x1,x2,x3⟩:=x
 obtain ⟨y1,y2,y3⟩:=y
 dsimp only at hx hy⊢
 simp only [Prod.mk.injEq]
 omega
theorem lin_pts (s:ShpC):∀x∈(linA s).points,(0≤x.1∧x.1≤2097151)∧(0≤x.2.1∧x.2.1≤2097151)∧0≤x.2.2∧x.2.2≤2097151:=fun x hx=>by
 have h:=made_halves s x hx
 have hd:(2097151:Int) / 16^(madeC s).steps.toNat≤2097151:=Int.ediv_le_self _ (by decide)
 omega
theorem lin_addP (s s2:ShpC):∀x∈(linA s).points,∀y∈(linB s s2).points,addP x y=addZ x y:=fun x hx y hy=>addP_Z (lin_pts s x hx) (lin_pts (shpB s s2) y hy)
theorem lin_addD (s s2:ShpC):∀d∈(linA s).details,∀e∈(linB s s2).details,∀x∈d,∀y∈e,addP x y=addZ x y:=fun d hd e he x hx y hy=>by
 have h1:=made_det_small s d hd x hx
 have h2:=made_det_small (shpB s s2) e he y hy
 unfold addP addZ wrap64
 obtain ⟨x1,x2,x3⟩:=x
 obtain ⟨y1,y2,y3⟩:=y
 dsimp only at h1 h2⊢
 simp only [Prod.mk.injEq]
 omega
theorem lin_fits (s s2:ShpC):fits (linA s).steps∧fits (linB s s2).steps∧fits (linC s s2).steps:=⟨made_fits s,made_fits s,made_fits s⟩
end Go.Proofs.YtmemofonebphfaaGreat
