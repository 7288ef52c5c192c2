import Derived.Test.YtmemofonebphfaaGreatP23
import Derived.Test.YtmemofonebphfaaGreatP39
namespace Go.Proofs.YtmemofonebphfaaGreat
open Go.RowKit Go.Sort
theorem lowS_few {n:Nat} (h:n≤800):∀k,n*2^(2*lowS n k)≤800
 | 0=>by unfold lowS;simpa using h
 | k+1=>by
  unfold lowS
  split
  ·exact lowS_few h k
  ·omega
theorem getD_memE {E:List E2} (h:1≤E.length) (x:Int):E.getD (x % (E.length:Int)).toNat (0,0)∈E:=by
 have:(x % (E.length:Int)).toNat < E.length:=by
  have:=Int.emod_nonneg x (show (E.length:Int)≠0 by omega)
  have:=Int.emod_lt_of_pos x (show (0:Int) < E.length by omega)
  omega
 rw [List.getD_eq_getElem?_getD,List.getElem?_eq_getElem this]
 exact List.getElem_mem this
theorem creM_mem {t:List Pt} (h:1≤(edgesE t).length) (x:Int):nrmE (creM (edgesE t) x).1 (creM (edgesE t) x).2∈edgesE t∧((creM (edgesE t) x).1,(creM (edgesE t) x).2)∈edgesE t∨((creM (edgesE t) x).2,(creM (edgesE t) x).1)∈edgesE t:=by
 unfold creM
 split
 ·exact .inr (getD_memE h x)
 ·have:=getD_memE h x
  refine .inl ⟨?_,this⟩
  rw [nrmE_up (mem_edgesE.1 this).2]
  exact this
theorem many_of:∀{ds:List (List Pt)} {n m:Nat},(∀(k:Nat) (d:List Pt),ds[k]? =some d→d.length≤4^k*m)→manyE ds n m=false
 | _,0,_,_=>by unfold manyE;rfl
 | [],_+1,_,_=>by unfold manyE;rfl
 | d::ds,n+1,m,h=>by
  unfold manyE
  rw [Bool.or_eq_false_iff,decide_eq_false_iff_not]
  refine ⟨by have:=h 0 d rfl;simp at this;omega,many_of fun k e he=> ?_⟩
  have:=h (k+1) e (by simpa using he)
  rw [Nat.pow_succ,Nat.mul_assoc] at this
  exact this
theorem made_few (s:ShpC):4^stM s*(baseT s.kind s.bits).length≤800:=by
 have h:=lowS_few (n:=(baseT s.kind s.bits).length) (by have:=(base_right s.kind s.bits).few;omega) (s.steps % 5).toNat
 unfold stM
 rw [show (4:Nat)=2^2 from rfl,←Nat.pow_mul,Nat.mul_comm]
 exact h
theorem top_pos (s:ShpC):0≤topM s:=Int.ediv_nonneg (by decide) (Int.le_of_lt (Int.pow_pos (by decide)))
theorem outR_of {lo hi:Int} {l:List Pt} (h:∀p∈l,(lo≤p.1∧p.1≤hi)∧(lo≤p.2.1∧p.2.1≤hi)∧lo≤p.2.2∧p.2.2≤hi):outR lo hi l=false:=by
 refine List.any_eq_false.2 fun p hp=> ?_
 have:=h p hp
 simp only [decide_eq_true_eq]
 omega
theorem made_right (s:ShpC):errC (madeC s)=0:=by
 have hb:=base_right s.kind s.bits
 have hs:=made_st s
 have hf:=made_few s
 have hlen:(madeC s).points.length=baseN s.kind s.bits:=by show (List.map _ _).length=_;rw [List.length_map,List.length_range]
 have hdl:(madeC s).details.length≤stM s:=by
  show (if _ then _ else _:List (List Pt)).length≤_
  split
  ·exact Nat.zero_le _
  ·rw [List.length_map,List.length_range];exact Nat.le_refl _
 have hdg:∀(k:Nat) (d:List Pt),(madeC s).details[k]? =some d→d=detM s k:=fun k d h=>by
  have h:(if s.details.length=0 then [] else (List.range (stM s)).map (detM s))[k]? =some d:=h
  split at h
  ·cases h
  ·rw [List.getElem?_map] at h
   cases hk:(List.range (stM s))[k]? with
   | none=>rw [hk] at h;cases h
   | some j=>
    rw [hk] at h
    have:=List.getElem?_eq_some_iff.1 hk
    obtain ⟨h1,h2⟩:=this
    rw [List.getElem_range] at h2
    subst h2
    exact (Option.some.inj h).symm
 have hed:∀a b:Int,(a,b)∈edgesE (baseT s.kind s.bits)→(0≤a∧a < (baseN s.kind s.bits:Int))∧0≤b∧b < (baseN s.kind s.bits:Int):=fun a b h=>by
  obtain ⟨x,hx,hx2⟩:=mem_dirE.1 (mem_edgesE.1 h).1
  have:=hb.idx x hx
  obtain ⟨x1,x2,x3⟩:=x
  simp only [mem_de3,Prod.mk.injEq] at hx2
  dsimp only at this
  omega
 have h16:(16:Int)^(madeC s).steps.toNat=16^stM s:=by show (16:Int)^((stM s:Int)).toNat=_;rw [Int.toNat_natCast]
 refine right_iff.2 ⟨?_,?_,hb.chk,noEdge_no.2 fun e he=> ?_,?_,?_⟩
 ·show (decide ((stM s:Int) < 0) || decide (4 < (stM s:Int)) || decide ((stM s:Int) < ((madeC s).details.length:Int)))=false
  simp only [Bool.or_eq_false_iff,decide_eq_false_iff_not]
  omega
 ·unfold badIx
  rw [hlen,Bool.or_eq_false_iff,Bool.or_eq_false_iff]
  refine ⟨⟨?_,?_⟩,?_⟩
  ·refine outE_all fun i hi=>okI_iff.2 ?_
   obtain ⟨x,hx,hx2⟩:=List.mem_flatMap.1 hi
   have:=hb.idx x hx
   simp only [corN3,List.mem_cons,List.not_mem_nil,or_false] at hx2
   omega
  ·refine outE_all fun i hi=>okI_iff.2 ?_
   obtain ⟨e,he,h⟩:=List.mem_flatMap.1 hi
   obtain ⟨x,_,rfl⟩:=List.mem_map.1 he
   simp only [List.mem_cons,List.not_mem_nil,or_false] at h
   rcases creM_mem hb.edg x with ⟨_,h1⟩ | h1
   ·have:=hed _ _ h1;omega
   ·have:=hed _ _ h1;omega
  ·refine outE_all fun i hi=>okI_iff.2 ?_
   obtain ⟨x,_,rfl⟩:=List.mem_map.1 hi
   have h1:=hb.some
   exact ⟨Int.emod_nonneg x (by omega),Int.emod_lt_of_pos x (by omega)⟩
 ·obtain ⟨x,_,rfl⟩:=List.mem_map.1 he
  rcases creM_mem hb.edg x with ⟨h1,_⟩ | h1
  ·exact h1
  ·rw [nrmE_sym,nrmE_up (mem_edgesE.1 h1).2];exact h1
 ·unfold manyC
  rw [Bool.or_eq_false_iff,decide_eq_false_iff_not]
  refine ⟨many_of fun k d hd=> ?_,?_⟩
  ·rw [hdg k d hd]
   unfold detM
   rw [List.length_map,List.length_range]
   exact Nat.min_le_left _ _
  ·have:4^(madeC s).steps.toNat*(madeC s).tris.length=4^stM s*(baseT s.kind s.bits).length:=by show 4^((stM s:Int)).toNat*_=_;rw [Int.toNat_natCast];rfl
   omega
 ·unfold farC
  rw [h16,Bool.or_eq_false_iff]
  refine ⟨outR_of fun p hp=> ?_,?_⟩
  ·obtain ⟨i,_,rfl⟩:=List.mem_map.1 hp
   have h1:=top_pos s
   have key:∀x:Int,0≤x % (topM s+1)∧x % (topM s+1)≤topM s:=fun x=>⟨Int.emod_nonneg x (by omega),by have:=Int.emod_lt_of_pos x (show 0 < topM s+1 by omega);omega⟩
   exact ⟨key _,key _,key _⟩
  ·refine List.any_eq_false.2 fun d hd=> ?_
   rw [Bool.not_eq_true]
   obtain ⟨k,hk⟩:=List.mem_iff_getElem?.1 hd
   rw [hdg k d hk]
   refine outR_of fun p hp=> ?_
   obtain ⟨i,_,rfl⟩:=List.mem_map.1 hp
   exact ⟨tmod20 _,tmod20 _,tmod20 _⟩
end Go.Proofs.YtmemofonebphfaaGreat
