import Derived.WalkKit
import Derived.WalkSpells
import Derived.WalkLawsBesides
import Derived.Laws.OwnMore
import Derived.Deep.AppendLies
import Derived.Deep.Draws
import Derived.Test.YtmemofonebphfaaGreatRows
import Derived.Handy
import Derived.Maps.Own
import Derived.Maps.Views
import Derived.DeepKeys4
import Derived.RangeFuncBox
import Derived.DeepKeys
import Derived.Laws.StructEq
import Derived.Sort.Grow
import Derived.Deep.QuietTactic
import Derived.BigQuiet
import Derived.LoopN
import Derived.Laws.EntriesVeiled
import Derived.Shelf.SlSortCmp.QuietGrown
import Derived.Deep.RegionHeld3
import Derived.Deep.DrawnRows
import Derived.Maps.AppendAt
import Derived.OwnWalk
import Derived.Shelf.GgSortFunc.RowK
import Derived.RangeFuncNested
import Derived.Sort.Statements
import Derived.Shelf.SlSortCmp.NoneTotal
import Derived.OrdersHeld
import Derived.OrdersIn
import Derived.RangeFuncCalls
import Derived.OwnWalkIn
import Derived.Deep.CutBlock
import Derived.Deep.DeepCutAuto
import Derived.StillTailTactics
import Derived.BigRegion
import Derived.Test.YtmemofonebphfaaGreatProg
import Derived.IntWalk
import Derived.Deep.WholeRow
import Derived.Great.BuildSlice
import Derived.Great.Walk
import Derived.Maps.OwnSet
import Derived.Maps.RangeWalk
import Derived.Deep.MidRow
import Derived.Shelf.RegionOpen
import Derived.Shelf.SlicesE.Clone
import Derived.WideKeyEntry
import Derived.Shelf.Abstract
import Derived.Test.YtmemofonebphfaaGreatP30
import Derived.Test.YtmemofonebphfaaGreatP35
import Derived.Test.YtmemofonebphfaaGreatP36
namespace Go.Proofs.YtmemofonebphfaaGreat
open Go.RowKit Go.Sort
section
variable {α:Type} {enc:α→List Value} {k:Nat} {e te:TypeId} {w w':World} {base:Nat} {v:Value} {n:Nat} {xs:List α} {ps:List (List α)}
theorem Pcs.base_le {b':Nat} (h:Pcs enc k e te w base v ps) (hb:b'≤base):Pcs enc k e te w b' v ps:=by
 obtain ⟨ss,ho,hp⟩:=h
 refine ⟨ss,ho.base_le hb,fun i p hi=> ?_⟩
 obtain ⟨A,c,hs,hO⟩:=hp i p hi
 exact ⟨A,c,hs,hO.base_le hb⟩
end
end Go.Proofs.YtmemofonebphfaaGreat
namespace Go.Proofs.YtmemofonebphfaaGreat
open Go.RowKit Go.Sort
def BndL (P:List Pt) (C:Int):Prop:=∀p∈P,(-C≤p.1∧p.1≤C)∧(-C≤p.2.1∧p.2.1≤C)∧ -C≤p.2.2∧p.2.2≤C
def DivL (P:List Pt) (k:Int):Prop:=∀p∈P,k ∣ p.1∧k ∣ p.2.1∧k ∣ p.2.2
def wabs:List (Int × Int)→Int
 | []=>0
 | (k,_)::ws=>k.natAbs+wabs ws
theorem wabs_nn:∀ws,0≤wabs ws
 | []=>by simp [wabs]
 | (k,_)::ws=>by have:=wabs_nn ws;simp only [wabs];omega
theorem mul_bnd {k x C:Int} (h1: -C≤x) (h2:x≤C): -((k.natAbs:Int)*C)≤k*x∧k*x≤(k.natAbs:Int)*C:=by
 have hC:0≤C:=by omega
 rcases Int.le_total 0 k with hk | hk
 ·have e:(k.natAbs:Int)=k:=Int.natAbs_of_nonneg hk
  rw [e]
  have a1:=Int.mul_le_mul_of_nonneg_left h2 hk
  have a2:=Int.mul_le_mul_of_nonneg_left h1 hk
  rw [Int.mul_neg] at a2
  exact ⟨a2,a1⟩
 ·have e:(k.natAbs:Int)= -k:=by omega
  rw [e]
  have hk':0≤ -k:=by omega
  have a1:=Int.mul_le_mul_of_nonneg_left h2 hk'
  have a2:=Int.mul_le_mul_of_nonneg_left h1 hk'
  rw [Int.mul_neg] at a2
  have e2: -k*x= -(k*x):=Int.neg_mul _ _
  omega
theorem getD_mem {P:List Pt} {i:Nat}:P.getD i (0,0,0)∈P∨P.getD i (0,0,0)=(0,0,0):=by
 rw [List.getD_eq_getElem?_getD]
 cases h:P[i]? with
 | none=>exact .inr rfl
 | some p=>exact .inl (List.mem_of_getElem? h)
theorem BndL.get {P:List Pt} {C:Int} (h:BndL P C) (hC:0≤C) (i:Nat):(-C≤(P.getD i (0,0,0)).1∧(P.getD i (0,0,0)).1≤C)∧(-C≤(P.getD i (0,0,0)).2.1∧(P.getD i (0,0,0)).2.1≤C)∧ -C≤(P.getD i (0,0,0)).2.2∧(P.getD i (0,0,0)).2.2≤C:=by
 rcases getD_mem (P:=P) (i:=i) with hm | hm
 ·exact h _ hm
 ·rw [hm];dsimp only;omega
theorem DivL.get {P:List Pt} {k:Int} (h:DivL P k) (i:Nat):k ∣ (P.getD i (0,0,0)).1∧k ∣ (P.getD i (0,0,0)).2.1∧k ∣ (P.getD i (0,0,0)).2.2:=by
 rcases getD_mem (P:=P) (i:=i) with hm | hm
 ·exact h _ hm
 ·rw [hm];exact ⟨Int.dvd_zero _,Int.dvd_zero _,Int.dvd_zero _⟩
theorem wsum_bnd {P:List Pt} {C:Int} (h:BndL P C) (hC:0≤C):∀ws,(-(wabs ws*C)≤(wsum P ws).1∧(wsum P ws).1≤wabs ws*C)∧(-(wabs ws*C)≤(wsum P ws).2.1∧(wsum P ws).2.1≤wabs ws*C)∧ -(wabs ws*C)≤(wsum P ws).2.2∧(wsum P ws).2.2≤wabs ws*C
 | []=>by simp [wsum,wabs]
 | (k,i)::ws=>by
  have ih:=wsum_bnd h hC ws
  obtain ⟨g1,g2,g3⟩:=h.get hC i.toNat
  have m1:=mul_bnd (k:=k) g1.1 g1.2
  have m2:=mul_bnd (k:=k) g2.1 g2.2
  have m3:=mul_bnd (k:=k) g3.1 g3.2
  simp only [wsum,wabs,Int.add_mul]
  omega
theorem wsum_div {P:List Pt} {k:Int} (h:DivL P k):∀ws,k ∣ (wsum P ws).1∧k ∣ (wsum P ws).2.1∧k ∣ (wsum P ws).2.2
 | []=>⟨Int.dvd_zero _,Int.dvd_zero _,Int.dvd_zero _⟩
 | (c,i)::ws=>by
  have ih:=wsum_div h ws
  obtain ⟨g1,g2,g3⟩:=h.get i.toNat
  exact ⟨Int.dvd_add (Int.dvd_mul_of_dvd_right g1) ih.1,Int.dvd_add (Int.dvd_mul_of_dvd_right g2) ih.2.1,Int.dvd_add (Int.dvd_mul_of_dvd_right g3) ih.2.2⟩
theorem wabs_ws (t:List Pt) (cr:List E2) (co:List Int) (a b:Int):wabs (wsE t cr co a b)≤24:=by
 unfold wsE
 split <;>simp [wabs]
theorem rule_ex {P t:List Pt} {cr:List E2} {co:List Int} {a b C k:Int} (h:BndL P C) (hC:0≤C) (hC2:C≤281474976710656) (hd:DivL P (16*k)):
  (16*(ruleE P t cr co a b).1=(wsum P (wsE t cr co a b)).1∧16*(ruleE P t cr co a b).2.1=(wsum P (wsE t cr co a b)).2.1∧16*(ruleE P t cr co a b).2.2=(wsum P (wsE t cr co a b)).2.2)∧
  (k ∣ (ruleE P t cr co a b).1∧k ∣ (ruleE P t cr co a b).2.1∧k ∣ (ruleE P t cr co a b).2.2)∧
  (-(2*C)≤(ruleE P t cr co a b).1∧(ruleE P t cr co a b).1≤2*C)∧(-(2*C)≤(ruleE P t cr co a b).2.1∧(ruleE P t cr co a b).2.1≤2*C)∧ -(2*C)≤(ruleE P t cr co a b).2.2∧(ruleE P t cr co a b).2.2≤2*C:=by
 have hb:=wsum_bnd h hC (wsE t cr co a b)
 have hv:=wsum_div hd (wsE t cr co a b)
 have hw:wabs (wsE t cr co a b)*C≤24*C:=Int.mul_le_mul_of_nonneg_right (wabs_ws t cr co a b) hC
 have key:∀x:Int,-(24*C)≤x→x≤24*C→16*k ∣ x→16*(wrap64 x).tdiv 16=x∧k ∣ (wrap64 x).tdiv 16∧ -(2*C)≤(wrap64 x).tdiv 16∧(wrap64 x).tdiv 16≤2*C:=fun x h1 h2 h3=>by
  have e:wrap64 x=x:=by unfold wrap64;omega
  rw [e]
  obtain ⟨q,rfl⟩:=h3
  have e2:(16*k*q).tdiv 16=k*q:=by rw [Int.mul_assoc,Int.mul_tdiv_cancel_left _ (by omega)]
  rw [e2]
  have e3:16*k*q=16*(k*q):=Int.mul_assoc _ _ _
  rw [e3] at h1 h2⊢
  exact ⟨rfl,Int.dvd_mul_right k q,by omega,by omega⟩
 unfold ruleE
 obtain ⟨a1,a2,a3,a4⟩:=key (wsum P (wsE t cr co a b)).1 (by omega) (by omega) hv.1
 obtain ⟨b1,b2,b3,b4⟩:=key (wsum P (wsE t cr co a b)).2.1 (by omega) (by omega) hv.2.1
 obtain ⟨c1,c2,c3,c4⟩:=key (wsum P (wsE t cr co a b)).2.2 (by omega) (by omega) hv.2.2
 exact ⟨⟨a1,b1,c1⟩,⟨a2,b2,c2⟩,⟨a3,a4⟩,⟨b3,b4⟩,c3,c4⟩
end Go.Proofs.YtmemofonebphfaaGreat
namespace Go.Proofs.YtmemofonebphfaaGreat
open Go.RowKit Go.Sort
theorem lowS_few {n:Nat} (h:n≤800):∀k,n*2^(2*lowS n k)≤800
 | 0=>by unfold lowS;simpa using h
 | k+1=>by
  unfold lowS
  split
  ·exact lowS_few h k
  ·omega
theorem getD_memE {E:List E2} (h:1≤E.length) (x:Int):E.getD (x % (E.length:Int)).toNat (0,0)∈E:=by
 have:(x % (E.length:Int)).toNat < E.length:=by
  have:=Int.emod_nonneg x (show (E.length:Int)≠0 by omega)
  have:=Int.emod_lt_of_pos x (show (0:Int) < E.length by omega)
  omega
 rw [List.getD_eq_getElem?_getD,List.getElem?_eq_getElem this]
 exact List.getElem_mem this
theorem creM_mem {t:List Pt} (h:1≤(edgesE t).length) (x:Int):nrmE (creM (edgesE t) x).1 (creM (edgesE t) x).2∈edgesE t∧((creM (edgesE t) x).1,(creM (edgesE t) x).2)∈edgesE t∨((creM (edgesE t) x).2,(creM (edgesE t) x).1)∈edgesE t:=by
 unfold creM
 split
 ·exact .inr (getD_memE h x)
 ·have:=getD_memE h x
  refine .inl ⟨?_,this⟩
  rw [nrmE_up (mem_edgesE.1 this).2]
  exact this
theorem many_of:∀{ds:List (List Pt)} {n m:Nat},(∀(k:Nat) (d:List Pt),ds[k]? =some d→d.length≤4^k*m)→manyE ds n m=false
 | _,0,_,_=>by unfold manyE;rfl
 | [],_+1,_,_=>by unfold manyE;rfl
 | d::ds,n+1,m,h=>by
  unfold manyE
  rw [Bool.or_eq_false_iff,decide_eq_false_iff_not]
  refine ⟨by have:=h 0 d rfl;simp at this;omega,many_of fun k e he=> ?_⟩
  have:=h (k+1) e (by simpa using he)
  rw [Nat.pow_succ,Nat.mul_assoc] at this
  exact this
theorem made_few (s:ShpC):4^stM s*(baseT s.kind s.bits).length≤800:=by
 have h:=lowS_few (n:=(baseT s.kind s.bits).length) (by have:=(base_right s.kind s.bits).few;omega) (s.steps % 5).toNat
 unfold stM
 rw [show (4:Nat)=2^2 from rfl,←Nat.pow_mul,Nat.mul_comm]
 exact h
theorem top_pos (s:ShpC):0≤topM s:=Int.ediv_nonneg (by decide) (Int.le_of_lt (Int.pow_pos (by decide)))
theorem outR_of {lo hi:Int} {l:List Pt} (h:∀p∈l,(lo≤p.1∧p.1≤hi)∧(lo≤p.2.1∧p.2.1≤hi)∧lo≤p.2.2∧p.2.2≤hi):outR lo hi l=false:=by
 refine List.any_eq_false.2 fun p hp=> ?_
 have:=h p hp
 simp only [decide_eq_true_eq]
 omega
theorem made_right (s:ShpC):errC (madeC s)=0:=by
 have hb:=base_right s.kind s.bits
 have hs:=made_st s
 have hf:=made_few s
 have hlen:(madeC s).points.length=baseN s.kind s.bits:=by show (List.map _ _).length=_;rw [List.length_map,List.length_range]
 have hdl:(madeC s).details.length≤stM s:=by
  show (if _ then _ else _:List (List Pt)).length≤_
  split
  ·exact Nat.zero_le _
  ·rw [List.length_map,List.length_range];exact Nat.le_refl _
 have hdg:∀(k:Nat) (d:List Pt),(madeC s).details[k]? =some d→d=detM s k:=fun k d h=>by
  have h:(if s.details.length=0 then [] else (List.range (stM s)).map (detM s))[k]? =some d:=h
  split at h
  ·cases h
  ·rw [List.getElem?_map] at h
   cases hk:(List.range (stM s))[k]? with
   | none=>rw [hk] at h;cases h
   | some j=>
    rw [hk] at h
    have:=List.getElem?_eq_some_iff.1 hk
    obtain ⟨h1,h2⟩:=this
    rw [List.getElem_range] at h2
    subst h2
    exact (Option.some.inj h).symm
 have hed:∀a b:Int,(a,b)∈edgesE (baseT s.kind s.bits)→(0≤a∧a < (baseN s.kind s.bits:Int))∧0≤b∧b < (baseN s.kind s.bits:Int):=fun a b h=>by
  obtain ⟨x,hx,hx2⟩:=mem_dirE.1 (mem_edgesE.1 h).1
  have:=hb.idx x hx
  obtain ⟨x1,x2,x3⟩:=x
  simp only [mem_de3,Prod.mk.injEq] at hx2
  dsimp only at this
  omega
 have h16:(16:Int)^(madeC s).steps.toNat=16^stM s:=by show (16:Int)^((stM s:Int)).toNat=_;rw [Int.toNat_natCast]
 refine right_iff.2 ⟨?_,?_,hb.chk,noEdge_no.2 fun e he=> ?_,?_,?_⟩
 ·show (decide ((stM s:Int) < 0) || decide (4 < (stM s:Int)) || decide ((stM s:Int) < ((madeC s).details.length:Int)))=false
  simp only [Bool.or_eq_false_iff,decide_eq_false_iff_not]
  omega
 ·unfold badIx
  rw [hlen,Bool.or_eq_false_iff,Bool.or_eq_false_iff]
  refine ⟨⟨?_,?_⟩,?_⟩
  ·refine outE_all fun i hi=>okI_iff.2 ?_
   obtain ⟨x,hx,hx2⟩:=List.mem_flatMap.1 hi
   have:=hb.idx x hx
   simp only [corN3,List.mem_cons,List.not_mem_nil,or_false] at hx2
   omega
  ·refine outE_all fun i hi=>okI_iff.2 ?_
   obtain ⟨e,he,h⟩:=List.mem_flatMap.1 hi
   obtain ⟨x,_,rfl⟩:=List.mem_map.1 he
   simp only [List.mem_cons,List.not_mem_nil,or_false] at h
   rcases creM_mem hb.edg x with ⟨_,h1⟩ | h1
   ·have:=hed _ _ h1;omega
   ·have:=hed _ _ h1;omega
  ·refine outE_all fun i hi=>okI_iff.2 ?_
   obtain ⟨x,_,rfl⟩:=List.mem_map.1 hi
   have h1:=hb.some
   exact ⟨Int.emod_nonneg x (by omega),Int.emod_lt_of_pos x (by omega)⟩
 ·obtain ⟨x,_,rfl⟩:=List.mem_map.1 he
  rcases creM_mem hb.edg x with ⟨h1,_⟩ | h1
  ·exact h1
  ·rw [nrmE_sym,nrmE_up (mem_edgesE.1 h1).2];exact h1
 ·unfold manyC
  rw [Bool.or_eq_false_iff,decide_eq_false_iff_not]
  refine ⟨many_of fun k d hd=> ?_,?_⟩
  ·rw [hdg k d hd]
   unfold detM
   rw [List.length_map,List.length_range]
   exact Nat.min_le_left _ _
  ·have:4^(madeC s).steps.toNat*(madeC s).tris.length=4^stM s*(baseT s.kind s.bits).length:=by show 4^((stM s:Int)).toNat*_=_;rw [Int.toNat_natCast];rfl
   omega
 ·unfold farC
  rw [h16,Bool.or_eq_false_iff]
  refine ⟨outR_of fun p hp=> ?_,?_⟩
  ·obtain ⟨i,_,rfl⟩:=List.mem_map.1 hp
   have h1:=top_pos s
   have key:∀x:Int,0≤x % (topM s+1)∧x % (topM s+1)≤topM s:=fun x=>⟨Int.emod_nonneg x (by omega),by have:=Int.emod_lt_of_pos x (show 0 < topM s+1 by omega);omega⟩
   exact ⟨key _,key _,key _⟩
  ·refine List.any_eq_false.2 fun d hd=> ?_
   rw [Bool.not_eq_true]
   obtain ⟨k,hk⟩:=List.mem_iff_getElem?.1 hd
   rw [hdg k d hk]
   refine outR_of fun p hp=> ?_
   obtain ⟨i,_,rfl⟩:=List.mem_map.1 hp
   exact ⟨tmod20 _,tmod20 _,tmod20 _⟩
end Go.Proofs.YtmemofonebphfaaGreat
namespace Go.Proofs.YtmemofonebphfaaGreat
open Go.RowKit Go.Sort
theorem setW_grown (g:Nat):∀(vs:List Value) (w:World) (o:Nat),w.grownBy (setW w g o vs) (some g)
 | [],_,_=>World.grownBy.refl _ _
 | v::vs,w,o=>by
  have h1:w.grownBy (w.setCell ⟨g,o,none⟩ v) (some g):=⟨rfl,rfl,rfl,(KeepsWalks.setCell w _ v).size,fun k _ hne=>Below.heap_setCell w ⟨g,o,none⟩ v k (fun e=>hne (by rw [e]))⟩
  exact h1.trans (setW_grown g vs _ _)
end Go.Proofs.YtmemofonebphfaaGreat
namespace Go.Proofs.YtmemofonebphfaaGreat
open Go.RowKit Go.Sort
set_option maxRecDepth 100000 in
theorem litsN3 (e:Pt) (h:fitsP e):Tryz.prog.keyLits 2 35 (encN3 e)=some [.int .i64 e.1, .int .i64 e.2.1, .int .i64 e.2.2]:=by
 have c:Tryz.prog.cellsOf 3=1:=by kernel_rfl
 have c2:Tryz.prog.cellsOf 35=3:=by kernel_rfl
 have w0:=fits_wf h.1
 have w1:=fits_wf h.2.1
 have w2:=fits_wf h.2.2
 simp [encN3,Program.keyLits,Tryz.underlying35,Tryz.underlying3,c,c2,List.range_succ,w0,w1,w2]
set_option maxRecDepth 100000 in
theorem eqN3 (a b:Pt) (ha:fitsP a) (hb:fitsP b) (w:World):(Op.equalIn 10000 35 (vP a) (vP b)).run Tryz.prog w= .ok (decide (a=b)) w:=by
 have c:Tryz.prog.cellsOf 35=3:=by kernel_rfl
 obtain ⟨r,hr,he⟩:=run_equalIn_deep (P:=Tryz.prog) 9998 2 35 (by kernel_rfl) w 2 2 (vP a) (vP b) _ _ (by simp [Value.formed,Tryz.underlying35,c]) (by simp [Value.formed,Tryz.underlying35,c]) (litsN3 a ha) (litsN3 b hb)
 rw [hr]
 have:r=decide (a=b):=by
  rw [Bool.eq_iff_iff,he]
  obtain ⟨a1,a2,a3⟩:=a
  obtain ⟨b1,b2,b3⟩:=b
  simp
 rw [this]
set_option maxHeartbeats 2000000 in
theorem sameTris_any (A B:Option Addr) (c d:Nat) (xs ys:List Pt) (w:World) (n1 n2:Nat) (hx:Sl encN3 3 w n1 A xs) (hy:Sl encN3 3 w n2 B ys) (hlx:xs.length≤4294967296) (_hly:ys.length≤4294967296) (hfx:∀t∈xs,fitsP t) (hfy:∀t∈ys,fitsP t):
  Calls Tryz.prog 25 #[.slice A xs.length c, .slice B ys.length d] w fun e w'=>e= .returned (.bool (decide (xs=ys)))∧∃k,w'=w.drewN k:=by
 go_enter Tryz.func25,Tryz.ntmps25
 by_cases hl:xs.length=ys.length
 ·rw [←hl]
  go_wp2
  go_loopw [5] (fun i wr=>∃k n:Nat,k≤xs.length∧i= .int .i64 k∧xs.take k=ys.take k∧wr=w.drewN n) (fun i _=>xs.length - (intOf i).toNat)
  case atStart=>exact ⟨0,0,Nat.zero_le _,rfl,rfl,rfl⟩
  case round=>
   obtain ⟨k,n,hk,rfl,htk,rfl⟩:=hrel
   by_cases hlt:k < xs.length
   ·obtain ⟨u,hu⟩:∃u,xs[k]? =some u:=⟨_,List.getElem?_eq_getElem hlt⟩
    obtain ⟨v,hv⟩:∃v,ys[k]? =some v:=⟨_,List.getElem?_eq_getElem (by omega)⟩
    obtain ⟨bA,oA,rfl,_,g0,g1,g2⟩:=hx.n3 hu
    obtain ⟨bB,oB,rfl,_,k0,k1,k2⟩:=hy.n3 hv
    have hq:=eqN3 u v (hfx u (List.mem_of_getElem? hu)) (hfy v (List.mem_of_getElem? hv))
    have H:=hide (And.intro hx (And.intro hy (And.intro hu (And.intro hv (And.intro htk hl)))))
    have i1:(k:Int) < (xs.length:Int):=by omega
    clear hx hy hu hv htk hl
    have htk1:=take_succ_eq H.out.2.2.1 H.out.2.2.2.1 H.out.2.2.2.2.1
    have HT:=hide htk1
    clear htk1
    by_cases huv:u=v
    ·have hd:decide (u=v)=true:=by simp [huv]
     rw [hd] at hq
     have HU:=hide huv
     clear huv hd
     go_wp2_with fail
     go_quiet (fail)
     go_wp2
     go_roundw
     case rel=>exact ⟨k+1,n+nq,by omega,by go_num,HT.out.2 HU.out,rfl⟩
     case measure=>simp [intOf];omega
    ·have hd:decide (u=v)=false:=by simp [huv]
     rw [hd] at hq
     have HU:=hide huv
     clear huv hd
     go_wp2_with fail
     go_quiet (fail)
     go_wp2
     go_ret
     refine ⟨?_,n+nq,by simp [World.drewN,Nat.add_assoc]⟩
     have:¬xs=ys:=fun e=>HU.out (HT.out.1 (by rw [e]))
     simp [this]
   ·have hke:k=xs.length:=by omega
    have hxy:xs=ys:=by
     rw [hke,List.take_length,hl,List.take_length] at htk
     exact htk
    have HX:=hide hxy
    clear hxy htk hx hy
    go_wp2
    go_ret
    exact ⟨by simp [HX.out],n,rfl⟩
 ·have hne:¬((xs.length:Int)=(ys.length:Int)):=by omega
  have hne2:¬xs=ys:=fun e=>hl (by rw [e])
  have HN:=hide hne2
  clear hx hy hne2
  go_wp2
  go_ret
  exact ⟨by simp [HN.out],0,rfl⟩
end Go.Proofs.YtmemofonebphfaaGreat
namespace Go.Proofs.YtmemofonebphfaaGreat
open Go.RowKit Go.Sort
theorem finT_fits {c:Ctl} (hb:CtlB c) (hnb:errC c=0→NoBack c.tris):∀x∈finT c,fitsP x:=fun x hx=>by
 by_cases he:errC c=0
 ·have h:=(fin_facts he (hnb he)).idx x hx
  have h1:=(fin_lens hb hnb).1
  unfold fitsP fits
  omega
 ·rw [(fin_none he).2] at hx
  cases hx
end Go.Proofs.YtmemofonebphfaaGreat
namespace Go.Proofs.YtmemofonebphfaaGreat
open Go.RowKit Go.Sort
structure CtE (w W:World) (g:Nat) (vp vt vc vo vd:Value) (c:Ctl):Prop where
 bel:Below w.heap.size w W
 b:Blk W g 32 (cMad vp vt vc vo c.steps vd)
 le:w.heap.size≤g
 p:Own encP 3 43 W w.heap.size vp c.points.length c.points
 t:Own encN3 3 35 W w.heap.size vt c.tris.length c.tris
 cr:Own encE2 2 56 W w.heap.size vc c.creases.length c.creases
 o:Own encZ9 1 3 W w.heap.size vo c.corners.length c.corners
 d:Pcs encP 3 43 28 W w.heap.size vd c.details
structure CtO (w W:World) (B g:Nat) (vp vt vc vo vd:Value) (c:Ctl):Prop where
 e:CtE w W g vp vt vc vo vd c
 lb:w.heap.size≤B∧B≤W.heap.size
 lp:∀r,vp.ownBlock=some r→r < B
 d:Pcs encP 3 43 28 W B vd c.details
section
variable {w W W':World} {B g:Nat} {vp vt vc vo vd:Value} {c:Ctl} {P T:List Pt} {C:List E2} {O:List Int} {D:List (List Pt)} {st:Int} {cs:Array Value}
theorem ctl_row (hb:Blk W g 32 cs) {t:TypeId} (ht:t≠32) (b:Nat):∀r,(some g:Option Nat)=some r→r < b∨∀cs,W.heap[r]? ≠some (.cells cs t (0,0)):=fun r e=>by
 cases e
 refine .inr fun cs hc=> ?_
 have hb:W.heap[g]? =some (.cells _ _ (0,0)):=hb
 rw [hb] at hc
 cases hc
 exact ht rfl
theorem cte_set (hbel:Below w.heap.size w W) (hb:Blk W g 32 cs) (hle:w.heap.size≤g) (hp:Own encP 3 43 W w.heap.size vp P.length P) (ht:Own encN3 3 35 W w.heap.size vt T.length T) (hc:Own encE2 2 56 W w.heap.size vc C.length C) (ho:Own encZ9 1 3 W w.heap.size vo O.length O) (hd:Pcs encP 3 43 28 W w.heap.size vd D)
  (i:Nat) (v:Value) (hv:cs.setIfInBounds i v=cMad vp vt vc vo st vd):CtE w (W.setCell ⟨g,i,none⟩ v) g vp vt vc vo vd ⟨P,T,C,O,st,D⟩:=by
 have hg:=grown_set9 W g i v
 refine ⟨hbel.trans (grown_bel hg hle hbel.size),?_,hle,hp.step hg (ctl_row hb (by decide) _),ht.step hg (ctl_row hb (by decide) _),hc.step hg (ctl_row hb (by decide) _),ho.step hg (ctl_row hb (by decide) _),hd.turn hg (fun t e=>ctl_row hb (by rcases e with rfl | rfl <;>decide) _)⟩
 show Blk _ g _ (cMad vp vt vc vo st vd)
 rw [←hv]
 exact hb.set_ i v
theorem CtE.below (h:CtE w W g vp vt vc vo vd c) (hB:Below W.heap.size W W'):CtE w W' g vp vt vc vo vd c:=
 ⟨h.bel.trans (hB.mono h.bel.size),h.b.below hB h.b.lt,h.le,h.p.below hB (Nat.le_refl _),h.t.below hB (Nat.le_refl _),h.cr.below hB (Nat.le_refl _),h.o.below hB (Nat.le_refl _),h.d.below hB (Nat.le_refl _)⟩
theorem CtO.below (h:CtO w W B g vp vt vc vo vd c) (hB:Below W.heap.size W W'):CtO w W' B g vp vt vc vo vd c:=
 ⟨h.e.below hB,⟨h.lb.1,Nat.le_trans h.lb.2 hB.size⟩,h.lp,h.d.below hB (Nat.le_refl _)⟩
theorem CtE.row {α:Type} {enc:α→List Value} {k:Nat} {e:TypeId} {v:Value} {n b:Nat} {xs:List α} (h:CtE w W g vp vt vc vo vd c) (ho:Own enc k e W b v n xs) (hb:w.heap.size≤b) (h5:e≠32) (hg:W.grownBy W' v.ownBlock):Below w.heap.size w W'∧Blk W' g 32 (cMad vp vt vc vo c.steps vd):=
 ⟨h.bel.trans (grown_belO hg (fun r hr=>Nat.le_trans hb (ho.blk r hr).1) h.bel.size),h.b.grown hg (blk_own_ne9 h.b ho h5)⟩
theorem CtE.ap_t {v6:Value} {Q:List Pt} (h:CtE w W g vp vt vc vo vd c) (hg:W.grownBy W' vt.ownBlock) (ho:Own encN3 3 35 W' w.heap.size v6 Q.length Q):CtE w (W'.setCell ⟨g,1,none⟩ v6) g vp v6 vc vo vd {c with tris:=Q}:=by
 obtain ⟨b1,b2⟩:=h.row h.t (Nat.le_refl _) (by decide) hg
 exact cte_set b1 b2 h.le (h.p.step hg (own_rowT h.t (show (35:TypeId)≠43 by decide))) ho (h.cr.step hg (own_rowT h.t (show (35:TypeId)≠56 by decide))) (h.o.step hg (own_rowT h.t (show (35:TypeId)≠3 by decide))) (h.d.turn hg (fun t e=>own_rowT h.t (by rcases e with rfl | rfl <;>decide))) 1 v6 rfl
theorem CtO.ap_t {v6:Value} {Q:List Pt} (h:CtO w W B g vp vt vc vo vd c) (hg:W.grownBy W' vt.ownBlock) (ho:Own encN3 3 35 W' w.heap.size v6 Q.length Q):CtO w (W'.setCell ⟨g,1,none⟩ v6) B g vp v6 vc vo vd {c with tris:=Q}:=by
 obtain ⟨b1,b2⟩:=h.e.row h.e.t (Nat.le_refl _) (by decide) hg
 refine ⟨h.e.ap_t hg ho,⟨h.lb.1,Nat.le_trans h.lb.2 (Nat.le_trans hg.size (grown_set9 W' g 1 v6).size)⟩,h.lp,?_⟩
 exact (h.d.turn hg (fun t e=>by
  have key:=own_rowT h.e.t (show (35:TypeId)≠t by rcases e with rfl | rfl <;>decide)
  exact fun r hr=>(key r hr).imp (fun hlt=>Nat.lt_of_lt_of_le hlt h.lb.1) id)).turn (grown_set9 W' g 1 v6) (fun t e=>ctl_row b2 (by rcases e with rfl | rfl <;>decide) _)
theorem CtE.ap_cr {v6:Value} {Q:List E2} (h:CtE w W g vp vt vc vo vd c) (hg:W.grownBy W' vc.ownBlock) (ho:Own encE2 2 56 W' w.heap.size v6 Q.length Q):CtE w (W'.setCell ⟨g,2,none⟩ v6) g vp vt v6 vo vd {c with creases:=Q}:=by
 obtain ⟨b1,b2⟩:=h.row h.cr (Nat.le_refl _) (by decide) hg
 exact cte_set b1 b2 h.le (h.p.step hg (own_rowT h.cr (show (56:TypeId)≠43 by decide))) (h.t.step hg (own_rowT h.cr (show (56:TypeId)≠35 by decide))) ho (h.o.step hg (own_rowT h.cr (show (56:TypeId)≠3 by decide))) (h.d.turn hg (fun t e=>own_rowT h.cr (by rcases e with rfl | rfl <;>decide))) 2 v6 rfl
theorem CtO.ap_cr {v6:Value} {Q:List E2} (h:CtO w W B g vp vt vc vo vd c) (hg:W.grownBy W' vc.ownBlock) (ho:Own encE2 2 56 W' w.heap.size v6 Q.length Q):CtO w (W'.setCell ⟨g,2,none⟩ v6) B g vp vt v6 vo vd {c with creases:=Q}:=by
 obtain ⟨b1,b2⟩:=h.e.row h.e.cr (Nat.le_refl _) (by decide) hg
 refine ⟨h.e.ap_cr hg ho,⟨h.lb.1,Nat.le_trans h.lb.2 (Nat.le_trans hg.size (grown_set9 W' g 2 v6).size)⟩,h.lp,?_⟩
 exact (h.d.turn hg (fun t e=>by
  have key:=own_rowT h.e.cr (show (56:TypeId)≠t by rcases e with rfl | rfl <;>decide)
  exact fun r hr=>(key r hr).imp (fun hlt=>Nat.lt_of_lt_of_le hlt h.lb.1) id)).turn (grown_set9 W' g 2 v6) (fun t e=>ctl_row b2 (by rcases e with rfl | rfl <;>decide) _)
theorem CtE.ap_o {v6:Value} {Q:List Int} (h:CtE w W g vp vt vc vo vd c) (hg:W.grownBy W' vo.ownBlock) (ho:Own encZ9 1 3 W' w.heap.size v6 Q.length Q):CtE w (W'.setCell ⟨g,3,none⟩ v6) g vp vt vc v6 vd {c with corners:=Q}:=by
 obtain ⟨b1,b2⟩:=h.row h.o (Nat.le_refl _) (by decide) hg
 exact cte_set b1 b2 h.le (h.p.step hg (own_rowT h.o (show (3:TypeId)≠43 by decide))) (h.t.step hg (own_rowT h.o (show (3:TypeId)≠35 by decide))) (h.cr.step hg (own_rowT h.o (show (3:TypeId)≠56 by decide))) ho (h.d.turn hg (fun t e=>own_rowT h.o (by rcases e with rfl | rfl <;>decide))) 3 v6 rfl
theorem CtO.ap_o {v6:Value} {Q:List Int} (h:CtO w W B g vp vt vc vo vd c) (hg:W.grownBy W' vo.ownBlock) (ho:Own encZ9 1 3 W' w.heap.size v6 Q.length Q):CtO w (W'.setCell ⟨g,3,none⟩ v6) B g vp vt vc v6 vd {c with corners:=Q}:=by
 obtain ⟨b1,b2⟩:=h.e.row h.e.o (Nat.le_refl _) (by decide) hg
 refine ⟨h.e.ap_o hg ho,⟨h.lb.1,Nat.le_trans h.lb.2 (Nat.le_trans hg.size (grown_set9 W' g 3 v6).size)⟩,h.lp,?_⟩
 exact (h.d.turn hg (fun t e=>by
  have key:=own_rowT h.e.o (show (3:TypeId)≠t by rcases e with rfl | rfl <;>decide)
  exact fun r hr=>(key r hr).imp (fun hlt=>Nat.lt_of_lt_of_le hlt h.lb.1) id)).turn (grown_set9 W' g 3 v6) (fun t e=>ctl_row b2 (by rcases e with rfl | rfl <;>decide) _)
theorem CtE.ap_p0 {v6:Value} {Q:List Pt} (h:CtE w W g vp vt vc vo (.slice none 0 0) ⟨P,T,C,O,st, []⟩) (hg:W.grownBy W' vp.ownBlock) (ho:Own encP 3 43 W' w.heap.size v6 Q.length Q):CtO w (W'.setCell ⟨g,0,none⟩ v6) W'.heap.size g v6 vt vc vo (.slice none 0 0) ⟨Q,T,C,O,st, []⟩:=by
 obtain ⟨b1,b2⟩:=h.row h.p (Nat.le_refl _) (by decide) hg
 exact ⟨cte_set b1 b2 h.le ho (h.t.step hg (own_rowT h.p (show (43:TypeId)≠35 by decide))) (h.cr.step hg (own_rowT h.p (show (43:TypeId)≠56 by decide))) (h.o.step hg (own_rowT h.p (show (43:TypeId)≠3 by decide))) Pcs.nil 0 v6 rfl,⟨b1.size,(grown_set9 W' g 0 v6).size⟩,fun r hr=>(ho.blk r hr).2,Pcs.nil⟩
theorem CtE.low9 (h:CtE w W g vp vt vc vo vd c) (st':Int):CtE w (W.setCell ⟨g,4,none⟩ (.int .i64 st')) g vp vt vc vo vd {c with steps:=st'}:=
 cte_set h.bel h.b h.le h.p h.t h.cr h.o h.d 4 _ rfl
theorem CtO.ap_d {ss:List Hdr} {v6:Value} {A:Option Addr} {k:Nat} {x:List Pt} (h:CtO w W B g vp vt vc vo vd c) (hos:Own encS 1 28 W B vd c.details.length ss) (hps:∀(i:Nat) (p:List Pt),c.details[i]? =some p→∃A k,ss[i]? =some (A,p.length,k)∧Own encP 3 43 W B (.slice A p.length k) p.length p)
  (hx:Own encP 3 43 W B (.slice A x.length k) x.length x) (hg:W.grownBy W' vd.ownBlock) (ho:Own encS 1 28 W' B v6 (c.details.length+1) (ss++ [(A,x.length,k)])):CtO w (W'.setCell ⟨g,5,none⟩ v6) B g vp vt vc vo v6 {c with details:=c.details++ [x]}:=by
 obtain ⟨b1,b2⟩:=h.e.row hos h.lb.1 (by decide) hg
 have hp:=Pcs.snoc (show (28:TypeId)≠43 by decide) hos hps hx hg ho
 have key:∀t:TypeId,28≠t→∀r,vd.ownBlock=some r→r < w.heap.size∨∀cs,W.heap[r]? ≠some (.cells cs t (0,0)):=fun t ht=>own_rowT (hos.base_le h.lb.1) ht
 exact ⟨cte_set b1 b2 h.e.le (h.e.p.step hg (key _ (by decide))) (h.e.t.step hg (key _ (by decide))) (h.e.cr.step hg (key _ (by decide))) (h.e.o.step hg (key _ (by decide))) (hp.base_le h.lb.1) 5 v6 rfl,⟨h.lb.1,Nat.le_trans h.lb.2 (Nat.le_trans hg.size (grown_set9 W' g 5 v6).size)⟩,h.lp,hp.turn (grown_set9 W' g 5 v6) (fun t e=>ctl_row b2 (by rcases e with rfl | rfl <;>decide) _)⟩
theorem CtE.in_d {v6:Value} (h:CtE w W g vp vt vc vo vd c) (hd:Pcs encP 3 43 28 W w.heap.size v6 D):CtE w (W.setCell ⟨g,5,none⟩ v6) g vp vt vc vo v6 {c with details:=D}:=
 cte_set h.bel h.b h.le h.p h.t h.cr h.o hd 5 v6 rfl
end
def CpyR (w w':World) (c:Ctl) (e:Ending):Prop:=
 ∃(B:Nat) (Ap At Ac Ao Ad:Option Addr) (cp ct cc oc dc:Nat),e= .returned (vCtl Ap c.points.length cp At c.tris.length ct Ac c.creases.length cc Ao c.corners.length oc c.steps Ad c.details.length dc)∧
  Own encN3 3 35 w' w.heap.size (.slice At c.tris.length ct) c.tris.length c.tris∧Own encP 3 43 w' w.heap.size (.slice Ap c.points.length cp) c.points.length c.points∧Own encE2 2 56 w' w.heap.size (.slice Ac c.creases.length cc) c.creases.length c.creases∧
  Own encZ9 1 3 w' w.heap.size (.slice Ao c.corners.length oc) c.corners.length c.corners∧Pcs encP 3 43 28 w' B (.slice Ad c.details.length dc) c.details∧(w.heap.size≤B∧B≤w'.heap.size∧∀r,(Value.slice Ap c.points.length cp).ownBlock=some r→r < B)∧Below w.heap.size w w'
theorem CtO.res {w0 w W W':World} {B g g2:Nat} {vp vt vc vo vd:Value} {c:Ctl} (h:CtO w W B g vp vt vc vo vd c) (hw:Below w0.heap.size w0 w) (hg2:w0.heap.size≤g2) (hlt:g2 < w.heap.size) (hg:W.grownBy W' (some g2)):CpyR w0 W' c (.returned (.agg (cMad vp vt vc vo c.steps vd))):=by
 obtain ⟨Ap,cp,e1⟩:=h.e.p.form
 obtain ⟨At,ct,e2⟩:=h.e.t.form
 obtain ⟨Ac,cc,e3⟩:=h.e.cr.form
 obtain ⟨Ao,oc,e4⟩:=h.e.o.form
 obtain ⟨Ad,dc,e5⟩:=h.d.form
 subst e1 e2 e3 e4 e5
 have hr:∀r,(some g2:Option Nat)=some r→r < w.heap.size:=fun r e=>by cases e;exact hlt
 exact ⟨B,Ap,At,Ac,Ao,Ad,cp,ct,cc,oc,dc,rfl,(h.e.t.step hg (fun r e=> .inl (hr r e))).base_le hw.size,(h.e.p.step hg (fun r e=> .inl (hr r e))).base_le hw.size,(h.e.cr.step hg (fun r e=> .inl (hr r e))).base_le hw.size,(h.e.o.step hg (fun r e=> .inl (hr r e))).base_le hw.size,h.d.turn hg (fun _ _ r e=> .inl (Nat.lt_of_lt_of_le (hr r e) h.lb.1)),⟨Nat.le_trans hw.size h.lb.1,Nat.le_trans h.lb.2 hg.size,h.lp⟩,(hw.trans (h.e.bel.mono hw.size)).trans (grown_bel hg hg2 (Nat.le_trans hw.size h.e.bel.size))⟩
end Go.Proofs.YtmemofonebphfaaGreat
namespace Go.Proofs.YtmemofonebphfaaGreat
open Go.RowKit Go.Sort
theorem infoLP:(Tryz.prog.info? 28).map (fun i=>(i.zero,i.size,i.bytes))=some (some (.slice none 0 0),1,24):=by kernel_rfl
set_option maxRecDepth 100000 in
set_option maxHeartbeats 64000000 in
theorem copy9_any (Ap At Ac Ao Ad:Option Addr) (cp ct cc oc dc:Nat) (c:Ctl) (w:World) (hm:CtlM w w.heap.size Ap At Ac Ao Ad c) (hb:CtlB c):
  Calls Tryz.prog 21 #[vCtl Ap c.points.length cp At c.tris.length ct Ac c.creases.length cc Ao c.corners.length oc c.steps Ad c.details.length dc] w fun e w'=>CpyR w w' c e:=by
 obtain ⟨P,T,C,O,st,D⟩:=c
 obtain ⟨hbp,hbt,hbc,hbo,hbd,hbdd⟩:=hb
 dsimp only at hbp hbt hbc hbo hbd hbdd⊢
 obtain ⟨np,hnp⟩:∃n,n=P.length:=⟨_,rfl⟩
 obtain ⟨nt,hnt⟩:∃n,n=T.length:=⟨_,rfl⟩
 obtain ⟨nc,hnc⟩:∃n,n=C.length:=⟨_,rfl⟩
 obtain ⟨no,hno⟩:∃n,n=O.length:=⟨_,rfl⟩
 obtain ⟨nd,hnd⟩:∃n,n=D.length:=⟨_,rfl⟩
 rw [←hnp] at hbp
 rw [←hnt] at hbt
 rw [←hnc] at hbc
 rw [←hno] at hbo
 rw [←hnd] at hbd
 rw [←hnp,←hnt,←hnc,←hno,←hnd]
 have HN:=hide (And.intro hnp (And.intro hnt (And.intro hnc (And.intro hno hnd))))
 have HM:=hide (And.intro hm hbdd)
 clear hm hbdd hnp hnt hnc hno hnd
 go_enter Tryz.func21,Tryz.ntmps21
 go_upto_region 1 with fail
 obtain ⟨g1,hg1⟩:∃g,g=w.heap.size:=⟨_,rfl⟩
 obtain ⟨g2,hg2⟩:∃g,g=w.heap.size+1:=⟨_,rfl⟩
 obtain ⟨X0,hX⟩:∃W,W=(w.alloc (.cells (cCtl Ap np cp At nt ct Ac nc cc Ao no oc st Ad nd dc) 32)).alloc (.cells (cCtl none 0 0 none 0 0 none 0 0 none 0 0 0 none 0 0) 32):=⟨_,rfl⟩
 rw [←hX,←hg2,←hg1]
 have hb1:Blk X0 g1 32 (cCtl Ap np cp At nt ct Ac nc cc Ao no oc st Ad nd dc):=by rw [hX,hg1];exact (Blk.new _ _ _).alloc _
 have hb2:Blk X0 g2 32 (cCtl none 0 0 none 0 0 none 0 0 none 0 0 0 none 0 0):=by rw [hX,hg2];exact Blk.new' _ _ _ _ (by simp)
 have hBX:Below w.heap.size w X0:=by rw [hX];exact ((Below.refl _ w).alloc (Nat.le_refl _) _).alloc (by simp) _
 have hmX:CtlM X0 X0.heap.size Ap At Ac Ao Ad ⟨P,T,C,O,st,D⟩:=HM.out.1.below hBX hBX.size
 have c4:X0.cell? ⟨g1,4,none⟩=some (.int .i64 st):=hb1.cell 4
 have hgl:=hb1.lt
 have H0:=hide (And.intro hb1 (And.intro hb2 (And.intro hBX (And.intro hmX (show w.heap.size≤g2 by omega)))))
 clear hb1 hb2 hBX hX hg1 hg2 hmX
 go_upto_region 2 with fail
 obtain ⟨g3,hg3⟩:∃g,g=X0.heap.size:=⟨_,rfl⟩
 obtain ⟨X2,hX2⟩:∃W,W=X0.alloc (.cells (cMad (.slice none 0 0) (.slice none 0 0) (.slice none 0 0) (.slice none 0 0) st (.slice none 0 0)) 32):=⟨_,rfl⟩
 rw [←hX2,←hg3]
 have hBa:Below X0.heap.size X0 X2:=by rw [hX2];exact (Below.refl _ _).alloc (Nat.le_refl _) _
 have hS2:CtE X0 X2 g3 (.slice none 0 0) (.slice none 0 0) (.slice none 0 0) (.slice none 0 0) (.slice none 0 0) ⟨[], [], [], [],st, []⟩:=⟨hBa,by rw [hX2,hg3];exact Blk.new _ _ _,by omega,Own.nil,Own.nil,Own.nil,Own.nil,Pcs.nil⟩
 have HS2:=hide hS2
 clear hS2 hX2 hg3 hBa c4 hgl
 have c1:X2.cell? ⟨g1,0,none⟩=some (.slice Ap np cp):=((HS2.out.bel).cell (p:=⟨g1,0,none⟩) H0.out.1.lt).trans (H0.out.1.cell 0)
 have c3:X2.cell? ⟨g3,0,none⟩=some (.slice none 0 0):=HS2.out.b.cell 0
 have hg1l:g1 < X2.heap.size:=Nat.lt_of_lt_of_le H0.out.1.lt HS2.out.bel.size
 have hg3l:=HS2.out.b.lt
 have hXl:=HS2.out.bel.size
 go_upto_region 3 with (at_builtin;refine wpList_appendS rfl _ _ _ rfl Tryz.underlying28 infoP rfl (by omega) encP_len encP_one rfl HS2.out.p Ap cp X0.heap.size P (by rw [←HN.out.1];rfl) (H0.out.2.2.2.1.p.below HS2.out.bel) (by rw [←HN.out.1];simp only [List.length_nil];unfold maxLen;omega) (by rw [←HN.out.1];simp only [List.length_nil];omega) hXl ?_;intro v6 w6 hown6 hg6 hB6 hat6;rw [List.length_nil,Nat.zero_add,List.nil_append] at hown6;obtain ⟨B0,b0,rfl⟩:∃A c,v6= .slice A np c:=(by have h:=hown6.form;rw [←HN.out.1] at h;exact h);have hS6:=HS2.out.ap_p0 hg6 hown6;have h61:=HS2.out.b.grown hg6 (blk_own_ne9 HS2.out.b HS2.out.p (show (43:TypeId)≠32 by decide));have f6:=h61.frozen 0;have hl6:=h61.lt;have c7:=h61.cell 0;have H6:=hide hS6;clear hown6 hg6 hB6 hat6 hS6 h61)
 obtain ⟨X3,hX3⟩:∃W,W=w6.setCell ⟨g3,0,none⟩ (.slice B0 np b0):=⟨_,rfl⟩
 try rw [←hX3]
 obtain ⟨B,hBw⟩:∃B,B=w6.heap.size:=⟨_,rfl⟩
 have HS3:=hide (show CtO X0 X3 B g3 (.slice B0 np b0) (.slice none 0 0) (.slice none 0 0) (.slice none 0 0) (.slice none 0 0) ⟨P, [], [], [],st, []⟩ from by
  rw [hX3]
  rw [hBw]
  exact H6.out)
 clear H6 f6 hl6 c7 c1 c3 hg1l hg3l hXl hX3 hBw
 have c1:X3.cell? ⟨g1,1,none⟩=some (.slice At nt ct):=((HS3.out.e.bel).cell (p:=⟨g1,1,none⟩) H0.out.1.lt).trans (H0.out.1.cell 1)
 have c3:X3.cell? ⟨g3,1,none⟩=some (.slice none 0 0):=HS3.out.e.b.cell 1
 have hg1l:g1 < X3.heap.size:=Nat.lt_of_lt_of_le H0.out.1.lt HS3.out.e.bel.size
 have hg3l:=HS3.out.e.b.lt
 have hXl:=HS3.out.e.bel.size
 go_upto_region 4 with (at_builtin;refine wpList_appendS rfl _ _ _ rfl Tryz.underlying22 infoN3 rfl (by omega) encN3_len encN3_one rfl HS3.out.e.t At ct X0.heap.size T (by rw [←HN.out.2.1];rfl) (H0.out.2.2.2.1.t.below HS3.out.e.bel) (by rw [←HN.out.2.1];simp only [List.length_nil];unfold maxLen;omega) (by rw [←HN.out.2.1];simp only [List.length_nil];omega) hXl ?_;intro v6 w6 hown6 hg6 hB6 hat6;rw [List.length_nil,Nat.zero_add,List.nil_append] at hown6;obtain ⟨B1,b1,rfl⟩:∃A c,v6= .slice A nt c:=(by have h:=hown6.form;rw [←HN.out.2.1] at h;exact h);have hS6:=HS3.out.ap_t hg6 hown6;have h61:=HS3.out.e.b.grown hg6 (blk_own_ne9 HS3.out.e.b HS3.out.e.t (show (35:TypeId)≠32 by decide));have f6:=h61.frozen 1;have hl6:=h61.lt;have c7:=h61.cell 1;have H6:=hide hS6;clear hown6 hg6 hB6 hat6 hS6 h61)
 obtain ⟨X4,hX4⟩:∃W,W=w6.setCell ⟨g3,1,none⟩ (.slice B1 nt b1):=⟨_,rfl⟩
 try rw [←hX4]
 have HS4:=hide (show CtO X0 X4 B g3 (.slice B0 np b0) (.slice B1 nt b1) (.slice none 0 0) (.slice none 0 0) (.slice none 0 0) ⟨P,T, [], [],st, []⟩ from by
  rw [hX4]
  skip
  exact H6.out)
 clear H6 f6 hl6 c7 c1 c3 hg1l hg3l hXl hX4
 have c1:X4.cell? ⟨g1,2,none⟩=some (.slice Ac nc cc):=((HS4.out.e.bel).cell (p:=⟨g1,2,none⟩) H0.out.1.lt).trans (H0.out.1.cell 2)
 have c3:X4.cell? ⟨g3,2,none⟩=some (.slice none 0 0):=HS4.out.e.b.cell 2
 have hg1l:g1 < X4.heap.size:=Nat.lt_of_lt_of_le H0.out.1.lt HS4.out.e.bel.size
 have hg3l:=HS4.out.e.b.lt
 have hXl:=HS4.out.e.bel.size
 go_upto_region 5 with (at_builtin;refine wpList_appendS rfl _ _ _ rfl Tryz.underlying29 infoE2 rfl (by omega) encE2_len encE2_one rfl HS4.out.e.cr Ac cc X0.heap.size C (by rw [←HN.out.2.2.1];rfl) (H0.out.2.2.2.1.cr.below HS4.out.e.bel) (by rw [←HN.out.2.2.1];simp only [List.length_nil];unfold maxLen;omega) (by rw [←HN.out.2.2.1];simp only [List.length_nil];omega) hXl ?_;intro v6 w6 hown6 hg6 hB6 hat6;rw [List.length_nil,Nat.zero_add,List.nil_append] at hown6;obtain ⟨B2,b2,rfl⟩:∃A c,v6= .slice A nc c:=(by have h:=hown6.form;rw [←HN.out.2.2.1] at h;exact h);have hS6:=HS4.out.ap_cr hg6 hown6;have h61:=HS4.out.e.b.grown hg6 (blk_own_ne9 HS4.out.e.b HS4.out.e.cr (show (56:TypeId)≠32 by decide));have f6:=h61.frozen 2;have hl6:=h61.lt;have c7:=h61.cell 2;have H6:=hide hS6;clear hown6 hg6 hB6 hat6 hS6 h61)
 obtain ⟨X5,hX5⟩:∃W,W=w6.setCell ⟨g3,2,none⟩ (.slice B2 nc b2):=⟨_,rfl⟩
 try rw [←hX5]
 have HS5:=hide (show CtO X0 X5 B g3 (.slice B0 np b0) (.slice B1 nt b1) (.slice B2 nc b2) (.slice none 0 0) (.slice none 0 0) ⟨P,T,C, [],st, []⟩ from by
  rw [hX5]
  skip
  exact H6.out)
 clear H6 f6 hl6 c7 c1 c3 hg1l hg3l hXl hX5
 have c1:X5.cell? ⟨g1,3,none⟩=some (.slice Ao no oc):=((HS5.out.e.bel).cell (p:=⟨g1,3,none⟩) H0.out.1.lt).trans (H0.out.1.cell 3)
 have c3:X5.cell? ⟨g3,3,none⟩=some (.slice none 0 0):=HS5.out.e.b.cell 3
 have hg1l:g1 < X5.heap.size:=Nat.lt_of_lt_of_le H0.out.1.lt HS5.out.e.bel.size
 have hg3l:=HS5.out.e.b.lt
 have hXl:=HS5.out.e.bel.size
 go_upto_region 6 with (at_builtin;refine wpList_appendS rfl _ _ _ rfl Tryz.underlying23 infoI9 rfl (by omega) encZ9_len encZ9_one rfl HS5.out.e.o Ao oc X0.heap.size O (by rw [←HN.out.2.2.2.1];rfl) (H0.out.2.2.2.1.o.below HS5.out.e.bel) (by rw [←HN.out.2.2.2.1];simp only [List.length_nil];unfold maxLen;omega) (by rw [←HN.out.2.2.2.1];simp only [List.length_nil];omega) hXl ?_;intro v6 w6 hown6 hg6 hB6 hat6;rw [List.length_nil,Nat.zero_add,List.nil_append] at hown6;obtain ⟨B3,b3,rfl⟩:∃A c,v6= .slice A no c:=(by have h:=hown6.form;rw [←HN.out.2.2.2.1] at h;exact h);have hS6:=HS5.out.ap_o hg6 hown6;have h61:=HS5.out.e.b.grown hg6 (blk_own_ne9 HS5.out.e.b HS5.out.e.o (show (3:TypeId)≠32 by decide));have f6:=h61.frozen 3;have hl6:=h61.lt;have c7:=h61.cell 3;have H6:=hide hS6;clear hown6 hg6 hB6 hat6 hS6 h61)
 obtain ⟨X6,hX6⟩:∃W,W=w6.setCell ⟨g3,3,none⟩ (.slice B3 no b3):=⟨_,rfl⟩
 try rw [←hX6]
 have HS6:=hide (show CtO X0 X6 B g3 (.slice B0 np b0) (.slice B1 nt b1) (.slice B2 nc b2) (.slice B3 no b3) (.slice none 0 0) ⟨P,T,C,O,st, []⟩ from by
  rw [hX6]
  skip
  exact H6.out)
 clear H6 f6 hl6 c7 c1 c3 hg1l hg3l hXl hX6
 go_upto_region 7 with fail
 go_loopw [4] (fun iv wr=>∃(k:Nat) (vd:Value),k≤nd∧iv= .int .i64 k∧CtO X0 wr B g3 (.slice B0 np b0) (.slice B1 nt b1) (.slice B2 nc b2) (.slice B3 no b3) vd ⟨P,T,C,O,st,D.take k⟩) (fun iv _=>nd - (intOf iv).toNat)
 case atStart=>exact ⟨0,_,by omega,rfl,HS6.out⟩
 case round=>
  obtain ⟨k,vd,hk,rfl,hS⟩:=hrel
  obtain ⟨V,rfl⟩:∃x,x=wr:=⟨_,rfl⟩
  have c1:V.cell? ⟨g1,5,none⟩=some (.slice Ad nd dc):=(hS.e.bel.cell (p:=⟨g1,5,none⟩) H0.out.1.lt).trans (H0.out.1.cell 5)
  have hg1l:g1 < V.heap.size:=Nat.lt_of_lt_of_le H0.out.1.lt hS.e.bel.size
  by_cases hlt:k < nd
  ·have k1:(k:Int) < (nd:Int):=by omega
   obtain ⟨d,hd⟩:∃d,D[k]? =some d:=⟨_,List.getElem?_eq_getElem (by rw [←HN.out.2.2.2.2];exact hlt)⟩
   have hdl:=HM.out.2 d (List.mem_of_getElem? hd)
   have hkl:(D.take k).length=k:=by rw [List.length_take,←HN.out.2.2.2.2];omega
   have htk:D.take (k+1)=D.take k++ [d]:=by rw [List.take_add_one,hd];rfl
   obtain ⟨bd,od,Ax,kx,hA,hbd,hcd,hsd⟩:=H0.out.2.2.2.1.det hd
   subst hA
   have hsdV:=hsd.below hS.e.bel
   obtain ⟨ss,hos,hps⟩:=hS.d
   dsimp only at hos hps
   rw [hkl] at hos
   obtain ⟨Av,kv,rfl⟩:=hos.form
   obtain ⟨dl,hdn⟩:∃n,n=d.length:=⟨_,rfl⟩
   rw [←hdn] at hdl hcd
   have hBV:B≤V.heap.size:=hS.lb.2
   have HS:=hide (And.intro hS (And.intro hos (And.intro hps (And.intro hsdV (And.intro hkl (And.intro htk hdn))))))
   have HC:=hide (And.intro hcd hbd)
   clear hS hos hps hsdV hkl htk hdn hsd hcd hbd hd
   go_upto_region 9 with fail
   clear c1 hg1l
   have HSB:=hide (show Blk V.drew g3 32 (cMad (.slice B0 np b0) (.slice B1 nt b1) (.slice B2 nc b2) (.slice B3 no b3) st (.slice Av k kv))∧Below X0.heap.size X0 V.drew from ⟨HS.out.1.e.b,HS.out.1.e.bel.drew⟩)
   refine wp_region_mix (fun W=>Blk W g3 32 (cMad (.slice B0 np b0) (.slice B1 nt b1) (.slice B2 nc b2) (.slice B3 no b3) st (.slice Av k kv))∧Below X0.heap.size X0 W) [0,1,3,4,5,6,7] [0,1,3,4,5,6,7,2,8,9,10,11,12] mixed_ok (by kernel_rfl) ?_
   refine wpMix_q (v:=(.pointer (some ⟨g3,5,none⟩))) rfl rfl (fun _ _ _ h=>h) HSB.out ⟨rfl,fun _ _=>by simp [go_sem]⟩ ?_
   refine wpMix_q (v:=(.slice Av k kv)) rfl rfl (fun _ _ _ h=>h) HSB.out ⟨rfl,fun _ h'=>by have a0:=h'.1.cell 5;simp only [List.getElem?_toArray,List.getElem?_cons_zero,List.getElem?_cons_succ] at a0;simp [go_sem,a0]⟩ ?_
   refine wpMix_q (v:=(.pointer (some ⟨g1,5,none⟩))) rfl rfl (fun _ _ _ h=>h) HSB.out ⟨rfl,fun _ _=>by simp [go_sem]⟩ ?_
   refine wpMix_q (v:=(.slice (some ⟨bd,od,none⟩) nd dc)) rfl rfl (fun _ _ _ h=>h) HSB.out ⟨rfl,fun _ h'=>by have a0:=(h'.2.cell (p:=⟨g1,5,none⟩) H0.out.1.lt).trans (H0.out.1.cell 5);simp only [List.getElem?_toArray,List.getElem?_cons_zero,List.getElem?_cons_succ] at a0;simp [go_sem,a0]⟩ ?_
   refine wpMix_q (v:=(.int .i64 k)) rfl rfl (fun _ _ _ h=>h) HSB.out ⟨rfl,fun _ _=>by simp [go_sem]⟩ ?_
   refine wpMix_q (v:=(.pointer (some ⟨bd,od+k,none⟩))) rfl rfl (fun _ _ _ h=>h) HSB.out ⟨rfl,fun _ _=>by simp [go_sem,k1]⟩ ?_
   simp only [List.getElem_toArray,List.getElem_cons_succ,List.getElem_cons_zero,Act.put,List.setIfInBounds_toArray,List.set_cons_succ,List.set_cons_zero]
   refine wpMix_q (v:=(.slice Ax dl kx)) rfl rfl (fun _ _ _ h=>h) HSB.out ⟨rfl,fun _ h'=>by have a0:=(h'.2.cell (p:=⟨bd,od+k,none⟩) HC.out.2).trans HC.out.1;simp [go_sem,a0]⟩ ?_
   simp only [List.getElem_toArray,List.getElem_cons_succ,List.getElem_cons_zero,Act.put,List.setIfInBounds_toArray,List.set_cons_succ,List.set_cons_zero]
   refine wpMix_n rfl rfl ?_
   go_wp2_with fail
   refine ⟨fun _=>⟨HSB.out.1.alloc _,HSB.out.2.alloc (Nat.le_trans HS.out.1.lb.1 hBV) _⟩,?_⟩
   refine wpMix_n rfl rfl ?_
   have hE:Own encP 3 43 (V.drew.alloc (.cells #[] 43)) B (.slice (some ⟨V.heap.size,0,none⟩) 0 0) 0 ([]:List Pt):=own_empty9 rfl hBV
   have hal:Below V.heap.size V (V.drew.alloc (.cells #[] 43)):=(Below.refl _ V).drew.alloc (Nat.le_refl _) _
   have HE:=hide (And.intro hE hal)
   clear hE hal
   have hXV:X0.heap.size≤V.heap.size:=Nat.le_trans HS.out.1.lb.1 hBV
   refine wpList_appendS rfl _ _ _ rfl Tryz.underlying28 infoP rfl (by omega) encP_len encP_one rfl HE.out.1 Ax kx X0.heap.size d (by rw [←HS.out.2.2.2.2.2.2];rfl) (HS.out.2.2.2.1.below (HE.out.2.mono hXV)) (by rw [←HS.out.2.2.2.2.2.2];unfold maxLen;omega) (by rw [←HS.out.2.2.2.2.2.2];omega) (Nat.le_trans hBV HE.out.2.size) ?_
   intro v5 w5 hown5 hg5 hB5 hat5
   rw [Nat.zero_add,List.nil_append] at hown5
   have hbl:∀r,(Value.slice (some ⟨V.heap.size,0,none⟩) 0 0).ownBlock=some r→V.heap.size≤r:=fun r hr=>by cases hr;exact Nat.le_refl _
   have hV5:Below V.heap.size V w5:=HE.out.2.trans (grown_belO hg5 hbl HE.out.2.size)
   rw [←HS.out.2.2.2.2.2.2] at hown5
   obtain ⟨Ay,ky,rfl⟩:=hown5.form
   have H5:=hide (And.intro hown5 hV5)
   clear hown5 hg5 hB5 hat5 hbl hV5
   go_wp2_with fail
   refine ⟨fun _=>⟨HS.out.1.e.b.below H5.out.2 HS.out.1.e.b.lt,HS.out.1.e.bel.trans (H5.out.2.mono hXV)⟩,?_⟩
   refine wpMix_n rfl rfl ?_
   go_wp2_with fail
   obtain ⟨Y,hY⟩:∃W,W=w5.alloc (.cells #[.slice Ay dl ky] 28):=⟨_,rfl⟩
   rw [←hY]
   have hBY:Below w5.heap.size w5 Y:=by rw [hY];exact (Below.refl _ _).alloc (Nat.le_refl _) _
   have hKY:Blk Y w5.heap.size 28 #[.slice Ay dl ky]:=by rw [hY];exact Blk.new _ _ _
   have hVY:Below V.heap.size V Y:=H5.out.2.trans (hBY.mono H5.out.2.size)
   have hpsY:∀(i:Nat) (p:List Pt),(D.take k)[i]? =some p→∃A c,ss[i]? =some (A,p.length,c)∧Own encP 3 43 Y B (.slice A p.length c) p.length p:=fun i p hi=>by
    obtain ⟨A,c,h1,h2⟩:=HS.out.2.2.1 i p hi
    exact ⟨A,c,h1,h2.below hVY (Nat.le_refl _)⟩
   have HY:=hide (And.intro (HS.out.1.below hVY) (And.intro (HS.out.2.1.below hVY (Nat.le_refl _)) (And.intro hpsY (And.intro (H5.out.1.below hBY (Nat.le_refl _)) (And.intro hKY (And.intro hVY.size hY))))))
   clear hBY hKY hVY hY hpsY
   refine ⟨fun _=>⟨HY.out.1.e.b,HY.out.1.e.bel⟩,?_⟩
   refine wpMix_tail _ [_,_,_] (by kernel_rfl) rfl ?_
   clear HSB
   refine wpList_append1 rfl _ _ _ rfl Tryz.underlying30 infoLP rfl (by omega) encS_len encS_one rfl HY.out.2.1 w5.heap.size 1 (Ay,dl,ky) rfl HY.out.2.2.2.2.1 (by unfold maxLen;omega) (by omega) (Nat.le_trans hBV HY.out.2.2.2.2.2.1) ?_
   intro g6 cap6 w6 hown6 hg6 hB6 hat6 hgb6 hlt6
   have hS6:=HY.out.1.ap_d (x:=d) (A:=Ay) (k:=ky) (by show Own _ _ _ _ _ _ (D.take k).length _;rw [HS.out.2.2.2.2.1];exact HY.out.2.1) HY.out.2.2.1 (by rw [←HS.out.2.2.2.2.2.2];exact HY.out.2.2.2.1) hg6 (by show Own _ _ _ _ _ _ ((D.take k).length+1) _;rw [HS.out.2.2.2.2.1,←HS.out.2.2.2.2.2.2];exact hown6)
   have h61:=HY.out.1.e.b.grown hg6 (blk_own_ne9 HY.out.1.e.b HY.out.2.1 (show (28:TypeId)≠32 by decide))
   have f6:=h61.frozen 5
   have hl6:=h61.lt
   have c7:=h61.cell 5
   dsimp only at hS6
   rw [←HS.out.2.2.2.2.2.1] at hS6
   have H6:=hide hS6
   clear hown6 hg6 hB6 hat6 hgb6 hlt6 hS6 h61
   go_wp2
   go_roundw
   case rel=>repeat (first | exact ⟨k+1,_,by omega,by go_num,H6.out⟩ | (refine ⟨?_,rfl⟩;exact ⟨k+1,_,by omega,by go_num,H6.out⟩) | apply Exists.intro)
   case measure=>(simp [intOf];try omega)
  ·obtain rfl:k=nd:=by omega
   have k1:¬(k:Int) < (k:Int):=by omega
   have htk:D.take k=D:=List.take_of_length_le (by rw [←HN.out.2.2.2.2];exact Nat.le_refl _)
   rw [htk] at hS
   obtain ⟨Av,kv,rfl⟩:∃A c,vd= .slice A k c:=by have h:=hS.d.form;dsimp only at h;rw [←HN.out.2.2.2.2] at h;exact h
   obtain ⟨z0,z1,z2,z3,z4,z5⟩:=hS.e.b.six9
   have hg3l:=hS.e.b.lt
   have hV2:=H0.out.2.1.below hS.e.bel H0.out.2.1.lt
   obtain ⟨e0,e1,e2,e3,e4,e5⟩:=hV2.six9
   have hg2l:=hV2.lt
   have f0:=hV2.frozen 0
   have f1:=hV2.frozen 1
   have f2:=hV2.frozen 2
   have f3:=hV2.frozen 3
   have f4:=hV2.frozen 4
   have f5:=hV2.frozen 5
   have HV:=hide (And.intro hS hV2)
   clear hS htk hV2
   go_wp2
   have hE:=(((((HV.out.2.set_ 0 (.slice B0 np b0)).set_ 1 (.slice B1 nt b1)).set_ 2 (.slice B2 nc b2)).set_ 3 (.slice B3 no b3)).set_ 4 (.int .i64 st)).set_ 5 (.slice Av k kv)
   refine ret_at (v:= .agg (cMad (.slice B0 np b0) (.slice B1 nt b1) (.slice B2 nc b2) (.slice B3 no b3) st (.slice Av k kv))) (fun W=>Blk W g2 32 (cMad (.slice B0 np b0) (.slice B1 nt b1) (.slice B2 nc b2) (.slice B3 no b3) st (.slice Av k kv))) hE (fun W hW=> ?_) rfl ?_
   ·obtain ⟨a0,a1,a2,a3,a4,a5⟩:=hW.six9
    simp [results,Tryz.results21,go_sem,a0,a1,a2,a3,a4,a5]
    try trivial
   ·exact HV.out.1.res H0.out.2.2.1 H0.out.2.2.2.2 H0.out.2.1.lt (setW_grown g2 [(.slice B0 np b0),(.slice B1 nt b1),(.slice B2 nc b2),(.slice B3 no b3), .int .i64 st,(.slice Av k kv)] V 0)
end Go.Proofs.YtmemofonebphfaaGreat
namespace Go.Proofs.YtmemofonebphfaaGreat
open Go.RowKit Go.Sort
def bareC (c:Ctl):Ctl:={c with details:= []}
theorem bare_right {c:Ctl} (h:errC c=0):errC (bareC c)=0:=by
 obtain ⟨h1,h2,h3,h4,h5,h6⟩:=right_iff.1 h
 refine right_iff.2 ⟨?_,h2,h3,h4,?_,?_⟩
 ·unfold argC at h1⊢
  simp only [Bool.or_eq_false_iff,decide_eq_false_iff_not] at h1⊢
  refine ⟨h1.1,?_⟩
  show¬c.steps < ((0:Nat):Int)
  omega
 ·unfold manyC at h5⊢
  simp only [Bool.or_eq_false_iff] at h5⊢
  exact ⟨many_of (fun k d hd=>(by cases hd)),h5.2⟩
 ·unfold farC at h6⊢
  simp only [Bool.or_eq_false_iff] at h6⊢
  exact ⟨h6.1,rfl⟩
end Go.Proofs.YtmemofonebphfaaGreat
namespace Go.Proofs.YtmemofonebphfaaGreat
open Go.RowKit Go.Sort
theorem infoPs:(Tryz.prog.info? 43).map (fun i=>(i.zero,i.size,i.bytes))=some (some (.agg #[.int .i64 0, .int .i64 0, .int .i64 0]),3,24):=by kernel_rfl
theorem rep_flat (n:Nat):∀u∈(List.replicate n ((0,0,0):Pt)).flatMap encP,u=Value.int .i64 0:=fun u hu=>by
 obtain ⟨x,hx,hu⟩:=List.mem_flatMap.1 hu
 obtain rfl:=(List.mem_replicate.1 hx).2
 simp only [encP,List.mem_cons,List.not_mem_nil,or_false,or_self] at hu
 exact hu
theorem mk_p9 (n:Nat) (hn:n≤100000000) (W:World):(Instr.makeSlice 28 (.int .i64 (n:Int)) (.int .i64 (n:Int))).run Tryz.prog W= .ok (.slice (some ⟨W.heap.size,0,none⟩) n n) (W.alloc (.cells ((List.replicate n ((0,0,0):Pt)).flatMap encP).toArray 43)):=by
 obtain ⟨i,hi,hz,hs,hb⟩:=info_parts infoPs
 have h:=run_make (P:=Tryz.prog) W 28 43 i (.agg #[.int .i64 0, .int .i64 0, .int .i64 0]) Tryz.underlying28 hi hz .i64 .i64 n n (by omega) (by omega) (by rw [hb];omega) (by omega)
 rw [h,hs]
 have e:madeCells (Value.agg #[.int .i64 0, .int .i64 0, .int .i64 0]).cells ((n:Int).toNat*3)=((List.replicate n ((0,0,0):Pt)).flatMap encP).toArray:=by
  refine Array.ext (by simp [size_madeCells,flat_len encP_len]) fun k h1 h2=> ?_
  have hr:=rep_flat n (((List.replicate n ((0,0,0):Pt)).flatMap encP).toArray[k]) (by simp)
  rw [hr]
  have hk:k % 3=0∨k % 3=1∨k % 3=2:=by omega
  rcases hk with hk | hk | hk <;>simp [madeCells,Value.cells,hk]
 rw [e,Int.toNat_natCast]
end Go.Proofs.YtmemofonebphfaaGreat
namespace Go.Proofs.YtmemofonebphfaaGreat
open Go.RowKit Go.Sort
theorem CtE.ctl {w W:World} {g:Nat} {Ap At Ac Ao Ad:Option Addr} {cp ct cc oc dc:Nat} {c:Ctl} (h:CtE w W g (.slice Ap c.points.length cp) (.slice At c.tris.length ct) (.slice Ac c.creases.length cc) (.slice Ao c.corners.length oc) (.slice Ad c.details.length dc) c):CtlM W W.heap.size Ap At Ac Ao Ad c:=
 ⟨h.p.sl encP_len (Nat.le_refl _),h.t.sl encN3_len (Nat.le_refl _),h.cr.sl encE2_len (Nat.le_refl _),h.o.sl encZ9_len (Nat.le_refl _),h.d.sl (Nat.le_refl _)⟩
end Go.Proofs.YtmemofonebphfaaGreat
namespace Go.Proofs.YtmemofonebphfaaGreat
open Go.RowKit Go.Sort
def bnd9 (k:Nat):Int:=137438953472*3^k
theorem bnd_step {k:Nat}:bnd9 (k+1)=3*bnd9 k:=by unfold bnd9;rw [Int.pow_succ];omega
theorem bnd_low:∀k,137438953472≤bnd9 k
 | 0=>by decide
 | k+1=>by have:=bnd_low k;rw [bnd_step];omega
theorem bnd_top {k:Nat} (h:k≤4):bnd9 k≤281474976710656:=by
 have hk:k=0∨k=1∨k=2∨k=3∨k=4:=by omega
 rcases hk with rfl | rfl | rfl | rfl | rfl <;>decide
theorem pow16_le {n:Nat} (h:n≤4):(1:Int)≤16^n∧(16:Int)^n≤65536:=by
 have hk:n=0∨n=1∨n=2∨n=3∨n=4:=by omega
 rcases hk with rfl | rfl | rfl | rfl | rfl <;>decide
theorem mul_rng {n x m:Int} (h0:1≤n) (h1:n≤65536) (hm:0≤m) (hx: -m≤x∧x≤m): -(65536*m)≤n*x∧n*x≤65536*m:=by
 have a1:n*x≤n*m:=Int.mul_le_mul_of_nonneg_left hx.2 (by omega)
 have a2:n*(-m)≤n*x:=Int.mul_le_mul_of_nonneg_left hx.1 (by omega)
 have a3:n*m≤65536*m:=Int.mul_le_mul_of_nonneg_right h1 hm
 rw [Int.mul_neg] at a2
 omega
theorem plus_ex {p q:Pt} {n C:Int} (h0:1≤n) (h1:n≤65536) (hC:C≤4611686018427387904) (hp:(-C≤p.1∧p.1≤C)∧(-C≤p.2.1∧p.2.1≤C)∧ -C≤p.2.2∧p.2.2≤C) (hq:(-2097151≤q.1∧q.1≤2097151)∧(-2097151≤q.2.1∧q.2.1≤2097151)∧ -2097151≤q.2.2∧q.2.2≤2097151):
  plusP p q n=(p.1+n*q.1,p.2.1+n*q.2.1,p.2.2+n*q.2.2):=by
 have m1:=mul_rng h0 h1 (by omega) hq.1
 have m2:=mul_rng h0 h1 (by omega) hq.2.1
 have m3:=mul_rng h0 h1 (by omega) hq.2.2
 have key:∀x y:Int,-C≤x→x≤C→ -(65536*2097151)≤y→y≤65536*2097151→wrap64 (x+y)=x+y:=fun x y a b c d=>by unfold wrap64;omega
 unfold plusP
 rw [key _ _ hp.1.1 hp.1.2 m1.1 m1.2,key _ _ hp.2.1.1 hp.2.1.2 m2.1 m2.2,key _ _ hp.2.2.1 hp.2.2.2 m3.1 m3.2]
theorem zero_rng {m:Int} (h:0≤m):(-m≤((0,0,0):Pt).1∧((0,0,0):Pt).1≤m)∧(-m≤((0,0,0):Pt).2.1∧((0,0,0):Pt).2.1≤m)∧ -m≤((0,0,0):Pt).2.2∧((0,0,0):Pt).2.2≤m:=by
 dsimp only
 omega
def dtl (c:Ctl) (k i:Nat):Pt:=(c.details.getD k []).getD i (0,0,0)
theorem dtl_rng {c:Ctl} (h:RightC c) (k i:Nat):(-2097151≤(dtl c k i).1∧(dtl c k i).1≤2097151)∧(-2097151≤(dtl c k i).2.1∧(dtl c k i).2.1≤2097151)∧ -2097151≤(dtl c k i).2.2∧(dtl c k i).2.2≤2097151:=by
 unfold dtl
 rw [List.getD_eq_getElem?_getD,List.getD_eq_getElem?_getD]
 cases hk:c.details[k]? with
 | none=>exact zero_rng (by decide)
 | some d=>
  simp only [Option.getD_some]
  cases hi:d[i]? with
  | none=>exact zero_rng (by decide)
  | some x=>exact outR_no (h.drng d (List.mem_of_getElem? hk)) x (List.mem_of_getElem? hi)
def newE (c:Ctl) (k:Nat) (i:Nat) (e:E2):Pt:=plusP (ruleE (c.level k).p (c.level k).t (c.level k).cr c.corners e.1 e.2) (dtl c k i) (16^(c.steps.toNat - 1 - k))
theorem plus_zero {p:Pt} (hp:fitsP p) (n:Int):plusP p (0,0,0) n=p:=by
 have h1:∀x:Int,fits x→wrap64 (x+n*0)=x:=fun x hx=>by rw [Int.mul_zero,Int.add_zero];unfold fits at hx;unfold wrap64;omega
 unfold plusP
 rw [h1 _ hp.1,h1 _ hp.2.1,h1 _ hp.2.2]
theorem rule_fits9 (p t:List Pt) (cr:List E2) (co:List Int) (a b:Int):fitsP (ruleE p t cr co a b):=by
 have h:∀x:Int,fits ((wrap64 x).tdiv 16):=fun x=>by
  rw [←tdiv16_wrap]
  unfold fits wrap64
  omega
 exact ⟨h _,h _,h _⟩
theorem level_new (c:Ctl) (k:Nat):(c.level (k+1)).p=(c.level k).p++(edgesE (c.level k).t).mapIdx (newE c k):=by
 show (c.level k).p++detE ((c.level k).rules c.corners) (c.details.getD k []) _=_
 congr 1
 refine List.ext_getElem? fun i=> ?_
 unfold detE Lev.rules
 rw [List.getElem?_mapIdx,List.getElem?_mapIdx,List.getElem?_map]
 cases (edgesE (c.level k).t)[i]? with
 | none=>rfl
 | some e=>
  simp only [Option.map_some,Option.some.injEq]
  unfold newE dtl
  have e9:(c.details.getD k []).getD i (0,0,0)=((c.details.getD k [])[i]?).getD (0,0,0):=List.getD_eq_getElem?_getD
  rw [e9]
  cases hd:(c.details.getD k [])[i]? with
  | none=>exact (plus_zero (rule_fits9 _ _ _ _ _ _) _).symm
  | some x=>rfl
theorem DivL.weak {P:List Pt} {k m:Int} (h:DivL P (k*m)):DivL P m:=fun p hp=>by
 obtain ⟨h1,h2,h3⟩:=h p hp
 exact ⟨Int.dvd_trans (Int.dvd_mul_left k m) h1,Int.dvd_trans (Int.dvd_mul_left k m) h2,Int.dvd_trans (Int.dvd_mul_left k m) h3⟩
theorem level_zero {c:Ctl} (h:RightC c):c.begin.p=c.points.map fun p=>(16^c.steps.toNat*p.1,16^c.steps.toNat*p.2.1,16^c.steps.toNat*p.2.2):=by
 refine List.map_congr_left fun p hp=> ?_
 have hs:=pow16_le (show c.steps.toNat≤4 by have:=h.st;omega)
 have hr:=outR_no h.rng p hp
 have hd:(2097151:Int) / 16^c.steps.toNat≤2097151:=Int.ediv_le_self _ (by decide)
 rw [plus_ex hs.1 hs.2 (C:=0) (by decide) (zero_rng (by decide)) (by omega)]
 simp only [Int.zero_add]
theorem new_ex {c:Ctl} (h:RightC c) {k:Nat} (hk:k < c.steps.toNat) (hB:BndL (c.level k).p (bnd9 k)) (hD:DivL (c.level k).p (16^(c.steps.toNat - k))) (i:Nat) (e:E2):
  newE c k i e=((ruleE (c.level k).p (c.level k).t (c.level k).cr c.corners e.1 e.2).1+16^(c.steps.toNat - 1 - k)*(dtl c k i).1,(ruleE (c.level k).p (c.level k).t (c.level k).cr c.corners e.1 e.2).2.1+16^(c.steps.toNat - 1 - k)*(dtl c k i).2.1,(ruleE (c.level k).p (c.level k).t (c.level k).cr c.corners e.1 e.2).2.2+16^(c.steps.toNat - 1 - k)*(dtl c k i).2.2):=by
 have hst:=h.st
 have hs:=pow16_le (show c.steps.toNat - 1 - k≤4 by omega)
 have hb:=bnd_top (show k≤4 by omega)
 have hl:=bnd_low k
 have hpw:(16:Int)^(c.steps.toNat - k)=16*16^(c.steps.toNat - 1 - k):=by
  rw [show c.steps.toNat - k=(c.steps.toNat - 1 - k)+1 by omega,Int.pow_succ,Int.mul_comm]
 rw [hpw] at hD
 have hr:=(rule_ex (t:=(c.level k).t) (cr:=(c.level k).cr) (co:=c.corners) (a:=e.1) (b:=e.2) hB (by omega) hb hD).2.2
 exact plus_ex hs.1 hs.2 (C:=2*bnd9 k) (by omega) hr (dtl_rng h k i)
theorem level_ex {c:Ctl} (h:RightC c):∀k:Nat,k≤c.steps.toNat→BndL (c.level k).p (bnd9 k)∧DivL (c.level k).p (16^(c.steps.toNat - k))
 | 0,_=>by
  have hs:=pow16_le (show c.steps.toNat≤4 by have:=h.st;omega)
  have hd:(2097151:Int) / 16^c.steps.toNat≤2097151:=Int.ediv_le_self _ (by decide)
  have e:(c.level 0).p=c.points.map fun p=>(16^c.steps.toNat*p.1,16^c.steps.toNat*p.2.1,16^c.steps.toNat*p.2.2):=level_zero h
  rw [e]
  constructor
  ·intro q hq
   obtain ⟨p,hp,rfl⟩:=List.mem_map.1 hq
   have hr:=outR_no h.rng p hp
   have m1:=mul_rng hs.1 hs.2 (m:=2097151) (by decide) (x:=p.1) (by omega)
   have m2:=mul_rng hs.1 hs.2 (m:=2097151) (by decide) (x:=p.2.1) (by omega)
   have m3:=mul_rng hs.1 hs.2 (m:=2097151) (by decide) (x:=p.2.2) (by omega)
   have hb:=bnd_low 0
   dsimp only
   omega
  ·intro q hq
   obtain ⟨p,hp,rfl⟩:=List.mem_map.1 hq
   exact ⟨Int.dvd_mul_right _ _,Int.dvd_mul_right _ _,Int.dvd_mul_right _ _⟩
 | k+1,hk=>by
  obtain ⟨hB,hD⟩:=level_ex h k (by omega)
  have hst:=h.st
  have hs:=pow16_le (show c.steps.toNat - 1 - k≤4 by omega)
  have hb:=bnd_top (show k≤4 by omega)
  have hl:=bnd_low k
  have hpw:(16:Int)^(c.steps.toNat - k)=16*16^(c.steps.toNat - 1 - k):=by
   rw [show c.steps.toNat - k=(c.steps.toNat - 1 - k)+1 by omega,Int.pow_succ,Int.mul_comm]
  have hD2:=hD
  rw [hpw] at hD2
  rw [level_new,show c.steps.toNat - (k+1)=c.steps.toNat - 1 - k by omega,bnd_step]
  constructor
  ·intro p hp
   rcases List.mem_append.1 hp with hp | hp
   ·have:=hB p hp
    omega
   ·obtain ⟨i,hi,rfl⟩:=List.mem_mapIdx.1 hp
    rw [new_ex h (by omega) hB hD]
    have hr:=(rule_ex (t:=(c.level k).t) (cr:=(c.level k).cr) (co:=c.corners) (a:=((edgesE (c.level k).t)[i]).1) (b:=((edgesE (c.level k).t)[i]).2) hB (by omega) hb hD2).2.2
    have hd:=dtl_rng h k i
    have m1:=mul_rng hs.1 hs.2 (by decide) hd.1
    have m2:=mul_rng hs.1 hs.2 (by decide) hd.2.1
    have m3:=mul_rng hs.1 hs.2 (by decide) hd.2.2
    dsimp only
    omega
  ·intro p hp
   rcases List.mem_append.1 hp with hp | hp
   ·exact hD2.weak p hp
   ·obtain ⟨i,hi,rfl⟩:=List.mem_mapIdx.1 hp
    rw [new_ex h (by omega) hB hD]
    have hr:=(rule_ex (t:=(c.level k).t) (cr:=(c.level k).cr) (co:=c.corners) (a:=((edgesE (c.level k).t)[i]).1) (b:=((edgesE (c.level k).t)[i]).2) hB (by omega) hb hD2).2.1
    exact ⟨Int.dvd_add hr.1 (Int.dvd_mul_right _ _),Int.dvd_add hr.2.1 (Int.dvd_mul_right _ _),Int.dvd_add hr.2.2 (Int.dvd_mul_right _ _)⟩
theorem new_16 {c:Ctl} (h:RightC c) {k:Nat} (hk:k < c.steps.toNat) (i:Nat) (e:E2):
  16*(newE c k i e).1=(wsum (c.level k).p (wsE (c.level k).t (c.level k).cr c.corners e.1 e.2)).1+16*(16^(c.steps.toNat - 1 - k)*(dtl c k i).1)∧
  16*(newE c k i e).2.1=(wsum (c.level k).p (wsE (c.level k).t (c.level k).cr c.corners e.1 e.2)).2.1+16*(16^(c.steps.toNat - 1 - k)*(dtl c k i).2.1)∧
  16*(newE c k i e).2.2=(wsum (c.level k).p (wsE (c.level k).t (c.level k).cr c.corners e.1 e.2)).2.2+16*(16^(c.steps.toNat - 1 - k)*(dtl c k i).2.2):=by
 obtain ⟨hB,hD⟩:=level_ex h k (by omega)
 have hst:=h.st
 have hb:=bnd_top (show k≤4 by omega)
 have hl:=bnd_low k
 have hpw:(16:Int)^(c.steps.toNat - k)=16*16^(c.steps.toNat - 1 - k):=by
  rw [show c.steps.toNat - k=(c.steps.toNat - 1 - k)+1 by omega,Int.pow_succ,Int.mul_comm]
 rw [new_ex h hk hB hD]
 rw [hpw] at hD
 have hr:=(rule_ex (t:=(c.level k).t) (cr:=(c.level k).cr) (co:=c.corners) (a:=e.1) (b:=e.2) hB (by omega) hb hD).1
 dsimp only
 omega
theorem getD_app {P R:List Pt} (i:Nat):(P++R).getD i (0,0,0)=if i < P.length then P.getD i (0,0,0) else R.getD (i - P.length) (0,0,0):=by
 rw [List.getD_eq_getElem?_getD,List.getD_eq_getElem?_getD,List.getD_eq_getElem?_getD]
 split
 ·rename_i h
  rw [List.getElem?_append_left h]
 ·rename_i h
  rw [List.getElem?_append_right (by omega)]
end Go.Proofs.YtmemofonebphfaaGreat
namespace Go.Proofs.YtmemofonebphfaaGreat
open Go.RowKit Go.Sort
def splitL (t:List Pt) (n:Int) (l:List E2):List E2:=l.flatMap fun e=> [(e.1,midE t n e.1 e.2),(e.2,midE t n e.1 e.2)]
def splitC (c:Ctl):Nat→List E2
 | 0=>c.creases
 | k+1=>splitL (c.level k).t (c.level k).p.length (splitC c k)
theorem midE_sym (t:List Pt) (n a b:Int):midE t n a b=midE t n b a:=by unfold midE;rw [posE_sym]
theorem nrm_or (a b:Int):nrmE a b=(a,b)∨nrmE a b=(b,a):=by
 unfold nrmE
 rcases Int.le_total a b with h | h
 ·rw [Int.min_eq_left h,Int.max_eq_right h];exact .inl rfl
 ·rw [Int.min_eq_right h,Int.max_eq_left h];exact .inr rfl
theorem setE_congr {l m:List E2} (h:∀e,(∃f∈l,e=nrmE f.1 f.2) ↔∃f∈m,e=nrmE f.1 f.2):setE l=setE m:=
 sorted_uniq (setE_sorted l) (setE_sorted m) ((List.perm_ext_iff_of_nodup (setE_nodup l) (setE_nodup m)).2 fun e=>by rw [setE_mem,setE_mem];exact h e)
theorem split_set (t:List Pt) (n:Int) (l:List E2):setE (splitL t n l)=setE (splitL t n (setE l)):=by
 have half:∀(f:E2) (e:E2),(e=nrmE f.1 (midE t n f.1 f.2)∨e=nrmE f.2 (midE t n f.1 f.2)) ↔ (e=nrmE (nrmE f.1 f.2).1 (midE t n (nrmE f.1 f.2).1 (nrmE f.1 f.2).2)∨e=nrmE (nrmE f.1 f.2).2 (midE t n (nrmE f.1 f.2).1 (nrmE f.1 f.2).2)):=fun f e=>by
  rcases nrm_or f.1 f.2 with h | h
  ·rw [h]
  ·rw [h]
   dsimp only
   rw [midE_sym t n f.2 f.1]
   exact ⟨fun h=>h.symm,fun h=>h.symm⟩
 refine setE_congr fun e=> ?_
 constructor
 ·rintro ⟨g,hg,rfl⟩
  obtain ⟨f,hf,hg⟩:=List.mem_flatMap.1 hg
  simp only [List.mem_cons,List.not_mem_nil,or_false] at hg
  have h1:nrmE g.1 g.2=nrmE f.1 (midE t n f.1 f.2)∨nrmE g.1 g.2=nrmE f.2 (midE t n f.1 f.2):=by rcases hg with rfl | rfl <;>simp
  have hs:nrmE f.1 f.2∈setE l:=setE_mem.2 ⟨f,hf,rfl⟩
  rcases (half f _).1 h1 with h | h
  ·exact ⟨_,List.mem_flatMap.2 ⟨_,hs,List.mem_cons_self⟩,h⟩
  ·exact ⟨_,List.mem_flatMap.2 ⟨_,hs,List.mem_cons_of_mem _ List.mem_cons_self⟩,h⟩
 ·rintro ⟨g,hg,rfl⟩
  obtain ⟨f',hf',hg⟩:=List.mem_flatMap.1 hg
  obtain ⟨f,hf,rfl⟩:=setE_mem.1 hf'
  simp only [List.mem_cons,List.not_mem_nil,or_false] at hg
  have h1:nrmE g.1 g.2=nrmE (nrmE f.1 f.2).1 (midE t n (nrmE f.1 f.2).1 (nrmE f.1 f.2).2)∨nrmE g.1 g.2=nrmE (nrmE f.1 f.2).2 (midE t n (nrmE f.1 f.2).1 (nrmE f.1 f.2).2):=by rcases hg with rfl | rfl <;>simp
  rcases (half f _).2 h1 with h | h
  ·exact ⟨_,List.mem_flatMap.2 ⟨_,hf,List.mem_cons_self⟩,h⟩
  ·exact ⟨_,List.mem_flatMap.2 ⟨_,hf,List.mem_cons_of_mem _ List.mem_cons_self⟩,h⟩
theorem split_lev (c:Ctl):∀k,setE (splitC c k)=(c.level k).cr
 | 0=>rfl
 | k+1=>by
  show setE (splitL _ _ (splitC c k))=setE (Lev.halved (c.level k))
  rw [split_set,split_lev c k]
  rfl
def fstC (c:Ctl):Ctl:={c with steps:=c.steps - 1}
theorem fst_right {c:Ctl} (h:errC c=0) (hd:c.details= []) (hs:1≤c.steps):errC (fstC c)=0:=by
 obtain ⟨h1,h2,h3,h4,h5,h6⟩:=right_iff.1 h
 have hst:=(right_of h).st
 have hn:(fstC c).steps.toNat=c.steps.toNat - 1:=by show (c.steps - 1).toNat=_;omega
 refine right_iff.2 ⟨?_,h2,h3,h4,?_,?_⟩
 ·unfold argC
  simp only [Bool.or_eq_false_iff,decide_eq_false_iff_not]
  have e:(fstC c).details.length=0:=by show c.details.length=0;rw [hd];rfl
  have e2:(fstC c).steps=c.steps - 1:=rfl
  rw [e,e2]
  omega
 ·unfold manyC at h5⊢
  simp only [Bool.or_eq_false_iff,decide_eq_false_iff_not] at h5⊢
  refine ⟨many_of fun k d hk=> ?_,?_⟩
  ·have hk:c.details[k]? =some d:=hk
   rw [hd] at hk
   cases hk
  ·rw [hn]
   have hp:4^(c.steps.toNat - 1)≤4^c.steps.toNat:=Nat.pow_le_pow_right (by decide) (by omega)
   have:=Nat.mul_le_mul_right c.tris.length hp
   show¬65536 < 4^(c.steps.toNat - 1)*c.tris.length
   omega
 ·unfold farC
  simp only [Bool.or_eq_false_iff]
  refine ⟨outR_of fun p hp=> ?_,?_⟩
  ·have hr:=outR_no (right_of h).rng p hp
   have hle:(2097151:Int) / 16^c.steps.toNat≤2097151 / 16^(c.steps.toNat - 1):=by
    have hp:c.steps.toNat=1∨c.steps.toNat=2∨c.steps.toNat=3∨c.steps.toNat=4:=by omega
    rcases hp with e | e | e | e <;>rw [e] <;>decide
   rw [hn]
   omega
  ·show c.details.any _=false
   rw [hd]
   rfl
theorem dtl_nil {c:Ctl} (hd:c.details= []) (k i:Nat):dtl c k i=(0,0,0):=by
 unfold dtl
 rw [hd]
 rfl
def SixL (P Q:List Pt):Prop:=P.length=Q.length∧∀i:Nat,(P.getD i (0,0,0)).1=16*(Q.getD i (0,0,0)).1∧(P.getD i (0,0,0)).2.1=16*(Q.getD i (0,0,0)).2.1∧(P.getD i (0,0,0)).2.2=16*(Q.getD i (0,0,0)).2.2
theorem wsum_six {P Q:List Pt} (h:SixL P Q):∀ws,(wsum P ws).1=16*(wsum Q ws).1∧(wsum P ws).2.1=16*(wsum Q ws).2.1∧(wsum P ws).2.2=16*(wsum Q ws).2.2
 | []=>by simp [wsum]
 | (k,i)::ws=>by
  obtain ⟨h1,h2,h3⟩:=wsum_six h ws
  obtain ⟨g1,g2,g3⟩:=h.2 i.toNat
  simp only [wsum]
  rw [h1,h2,h3,g1,g2,g3,Int.mul_add,Int.mul_add,Int.mul_add,Int.mul_left_comm,Int.mul_left_comm k 16,Int.mul_left_comm k 16]
  exact ⟨rfl,rfl,rfl⟩
theorem first_lev {c:Ctl} (h:errC c=0) (hd:c.details= []) (hs:1≤c.steps):∀k:Nat,k+1≤c.steps.toNat→SixL (c.level k).p ((fstC c).level k).p∧((fstC c).level k).t=(c.level k).t∧((fstC c).level k).cr=(c.level k).cr
 | 0,hk=>by
  have hf:=fst_right h hd hs
  have hn:(fstC c).steps.toNat=c.steps.toNat - 1:=by show (c.steps - 1).toNat=_;omega
  have e1:(c.level 0).p=_:=level_zero (right_of h)
  have e2:((fstC c).level 0).p=_:=level_zero (right_of hf)
  have hfp:(fstC c).points=c.points:=rfl
  rw [hn,hfp] at e2
  refine ⟨?_,rfl,rfl⟩
  rw [e1,e2]
  refine ⟨by rw [List.length_map,List.length_map],fun i=> ?_⟩
  have hpw:(16:Int)^c.steps.toNat=16*16^(c.steps.toNat - 1):=by
   conv=>lhs;rw [show c.steps.toNat=(c.steps.toNat - 1)+1 by omega,Int.pow_succ,Int.mul_comm]
  rw [List.getD_eq_getElem?_getD,List.getD_eq_getElem?_getD,List.getElem?_map,List.getElem?_map]
  cases c.points[i]? with
  | none=>simp
  | some x=>
   simp only [Option.map_some,Option.getD_some]
   rw [hpw,Int.mul_assoc,Int.mul_assoc,Int.mul_assoc]
   exact ⟨rfl,rfl,rfl⟩
 | k+1,hk=>by
  obtain ⟨hS,ht,hr⟩:=first_lev h hd hs k (by omega)
  have hf:=fst_right h hd hs
  have hn:(fstC c).steps.toNat=c.steps.toNat - 1:=by show (c.steps - 1).toNat=_;omega
  have hl:=hS.1
  refine ⟨?_,?_,?_⟩
  ·rw [level_new,level_new,ht]
   refine ⟨by rw [List.length_append,List.length_append,List.length_mapIdx,List.length_mapIdx,hl],fun i=> ?_⟩
   rw [getD_app,getD_app,hl]
   split
   ·exact hS.2 i
   ·generalize i - ((fstC c).level k).p.length=j
    rw [List.getD_eq_getElem?_getD,List.getD_eq_getElem?_getD,List.getElem?_mapIdx,List.getElem?_mapIdx]
    cases (edgesE (c.level k).t)[j]? with
    | none=>simp
    | some e=>
     simp only [Option.map_some,Option.getD_some]
     obtain ⟨a1,a2,a3⟩:=new_16 (right_of h) (k:=k) (by omega) j e
     obtain ⟨b1,b2,b3⟩:=new_16 (right_of hf) (k:=k) (by rw [hn];omega) j e
     rw [dtl_nil hd] at a1 a2 a3
     rw [dtl_nil (c:=fstC c) hd,ht,hr] at b1 b2 b3
     have ho:(fstC c).corners=c.corners:=rfl
     rw [ho] at b1 b2 b3
     obtain ⟨w1,w2,w3⟩:=wsum_six hS (wsE (c.level k).t (c.level k).cr c.corners e.1 e.2)
     simp only [Int.mul_zero] at a1 a2 a3 b1 b2 b3
     omega
  ·show stepT (midE _ _) _=stepT (midE _ _) _
   rw [ht,hl]
  ·show setE (Lev.halved _)=setE (Lev.halved _)
   unfold Lev.halved
   rw [hr,ht,hl]
def secC (c:Ctl):Ctl where
 points:=finP (fstC c)
 tris:=finT (fstC c)
 creases:=splitC c (c.steps.toNat - 1)
 corners:=c.corners
 steps:=1
 details:= []
theorem sec_fin {c:Ctl} (h:errC c=0) (hd:c.details= []) (hs:1≤c.steps):finP (fstC c)=((fstC c).level (c.steps.toNat - 1)).p∧finT (fstC c)=(c.level (c.steps.toNat - 1)).t:=by
 have hf:=fst_right h hd hs
 have hst:=(right_of h).st
 have hn:(fstC c).steps.toNat=c.steps.toNat - 1:=by show (c.steps - 1).toNat=_;omega
 unfold finP finT
 rw [if_pos hf,if_pos hf,hn]
 exact ⟨rfl,(first_lev h hd hs _ (by omega)).2.1⟩
theorem sec_err {c:Ctl} (h:errC c=0) (hd:c.details= []) (hs:1≤c.steps) (hb:NoBack c.tris):errC (secC c)=0∨errC (secC c)=3:=by
 have hR:=right_of h
 have hst:=hR.st
 obtain ⟨hS,_,_⟩:=first_lev h hd hs (c.steps.toNat - 1) (by omega)
 obtain ⟨e1,e2⟩:=sec_fin h hd hs
 have hL:=Ctl.level_right hR hb (c.steps.toNat - 1)
 have hlen:(secC c).points.length=(c.level (c.steps.toNat - 1)).p.length:=by show (finP (fstC c)).length=_;rw [e1];exact hS.1.symm
 have htr:(secC c).tris=(c.level (c.steps.toNat - 1)).t:=e2
 have hset:=split_lev c (c.steps.toNat - 1)
 have hcre:∀e∈(secC c).creases,nrmE e.1 e.2∈edgesE (secC c).tris:=fun e he=>by
  rw [htr]
  refine hL.crE _ ?_
  rw [←hset]
  exact setE_mem.2 ⟨e,he,rfl⟩
 have hpts:c.points.length≤(secC c).points.length:=by
  have hF:=(fin_facts (fst_right h hd hs) hb).le
  exact hF
 have hrngT:∀x∈(secC c).tris,(0≤x.1∧x.1 < ((secC c).points.length:Int))∧(0≤x.2.1∧x.2.1 < ((secC c).points.length:Int))∧0≤x.2.2∧x.2.2 < ((secC c).points.length:Int):=fun x hx=>by
  rw [hlen]
  rw [htr] at hx
  exact hL.cls.idx x hx
 have h1:argC (secC c)=false:=by unfold argC;rfl
 have out_of:∀{n:Nat} {l:List Int},(∀i∈l,0≤i∧i < (n:Int))→outE n l=false:=fun {n l} hh=>by
  unfold outE
  refine List.any_eq_false.2 fun i hi=> ?_
  have:=hh i hi
  simp only [decide_eq_true_eq]
  omega
 have h2:badIx (secC c)=false:=by
  unfold badIx
  simp only [Bool.or_eq_false_iff]
  refine ⟨⟨out_of fun i hi=> ?_,out_of fun i hi=> ?_⟩,out_of fun i hi=> ?_⟩
  ·obtain ⟨x,hx,hi⟩:=List.mem_flatMap.1 hi
   have:=hrngT x hx
   simp only [corN3,List.mem_cons,List.not_mem_nil,or_false] at hi
   omega
  ·obtain ⟨e,he,hi⟩:=List.mem_flatMap.1 hi
   obtain ⟨x,hx,hdx⟩:=mem_dirE.1 (mem_edgesE.1 (hcre e he)).1
   have hr:=hrngT x hx
   simp only [List.mem_cons,List.not_mem_nil,or_false] at hi
   have hm:nrmE e.1 e.2=(x.1,x.2.1)∨nrmE e.1 e.2=(x.2.1,x.2.2)∨nrmE e.1 e.2=(x.2.2,x.1):=mem_de3.1 hdx
   simp only [nrmE,Prod.mk.injEq] at hm
   omega
  ·have hi:i∈c.corners:=hi
   have:=hR.cor i hi
   omega
 have h3:checkP ((secC c).tris.map numT) false=0:=by rw [htr];exact hL.chk
 have h4:noEdge (secC c).tris (secC c).creases=false:=noEdge_no.2 hcre
 have h5:manyC (secC c)=false:=by
  unfold manyC
  simp only [Bool.or_eq_false_iff,decide_eq_false_iff_not]
  refine ⟨many_of fun k d hk=>(by cases hk),?_⟩
  rw [htr,Ctl.level_t]
  have ht:=hR.tri
  have hpw:4^c.steps.toNat=4^1*4^(c.steps.toNat - 1):=by rw [←Nat.pow_add];congr 1;omega
  rw [hpw,Nat.mul_assoc] at ht
  show¬65536 < 4^1*_
  omega
 unfold errC
 rw [if_neg (by rw [h1];simp),if_neg (by rw [h2];simp),if_neg (by rw [h3];simp),if_neg (by rw [h4];simp),if_neg (by rw [h5];simp)]
 split
 ·exact .inr rfl
 ·exact .inl rfl
theorem sec_same {c:Ctl} (h:errC c=0) (hd:c.details= []) (hs:1≤c.steps) (hg:errC (secC c)=0):finP (secC c)=finP c∧finT (secC c)=finT c:=by
 have hst:=(right_of h).st
 obtain ⟨hS,ht,_⟩:=first_lev h hd hs (c.steps.toNat - 1) (by omega)
 obtain ⟨e1,e2⟩:=sec_fin h hd hs
 have hz:=level_zero (right_of hg)
 have hb:(secC c).begin=c.level (c.steps.toNat - 1):=by
  have hp:(secC c).begin.p=(c.level (c.steps.toNat - 1)).p:=by
   rw [hz]
   show (finP (fstC c)).map (fun p=>((16:Int)^1*p.1,(16:Int)^1*p.2.1,(16:Int)^1*p.2.2))=_
   rw [e1]
   refine List.ext_getElem? fun i=> ?_
   rw [List.getElem?_map]
   obtain ⟨g1,g2,g3⟩:=hS.2 i
   rw [List.getD_eq_getElem?_getD,List.getD_eq_getElem?_getD] at g1 g2 g3
   by_cases hi:i < (c.level (c.steps.toNat - 1)).p.length
   ·have hi2:i < ((fstC c).level (c.steps.toNat - 1)).p.length:=by rw [←hS.1];exact hi
    rw [List.getElem?_eq_getElem hi,List.getElem?_eq_getElem hi2] at g1 g2 g3⊢
    simp only [Option.getD_some,Option.map_some,Option.some.injEq] at g1 g2 g3⊢
    refine Prod.ext ?_ (Prod.ext ?_ ?_)
    ·exact g1.symm
    ·exact g2.symm
    ·exact g3.symm
   ·have hl9:=hS.1
    rw [List.getElem?_eq_none (by omega),List.getElem?_eq_none (by omega)]
    rfl
  have hcr:(secC c).begin.cr=(c.level (c.steps.toNat - 1)).cr:=split_lev c _
  have htt:(secC c).begin.t=(c.level (c.steps.toNat - 1)).t:=e2
  calc (secC c).begin=⟨(secC c).begin.p,(secC c).begin.t,(secC c).begin.cr⟩:=rfl
   _=c.level (c.steps.toNat - 1):=by rw [hp,hcr,htt]
 have hlev:(secC c).level 1=c.level c.steps.toNat:=by
  obtain ⟨m,hm⟩:∃m,c.steps.toNat=m+1:=⟨c.steps.toNat - 1,by omega⟩
  have hb2:=hb
  rw [hm,Nat.add_sub_cancel] at hb2
  rw [hm]
  show ((secC c).begin).step (detE (((secC c).begin).rules c.corners) [] _)=(c.level m).step (detE ((c.level m).rules c.corners) (c.details.getD m []) _)
  rw [hb2,hd]
  show (c.level m).step (detE _ [] _)=(c.level m).step (detE _ [] _)
  rw [detE_nil,detE_nil]
 unfold finP finT
 rw [if_pos hg,if_pos h,if_pos hg,if_pos h]
 show ((secC c).level 1).p=_∧((secC c).level 1).t=_
 rw [hlev]
 exact ⟨rfl,rfl⟩
end Go.Proofs.YtmemofonebphfaaGreat
namespace Go.Proofs.YtmemofonebphfaaGreat
open Go.RowKit Go.Sort
def cntC9 (t:List Pt) (n:Nat):Ctl:=⟨List.replicate n (0,0,0),t, [], [],1, []⟩
theorem cnt_right {t:List Pt} {n:Nat} (hi:∀x∈t,(0≤x.1∧x.1 < (n:Int))∧(0≤x.2.1∧x.2.1 < (n:Int))∧0≤x.2.2∧x.2.2 < (n:Int)) (hc:checkP (t.map numT) false=0) (hm:4*t.length≤65536):errC (cntC9 t n)=0:=by
 refine right_iff.2 ⟨rfl,?_,hc,rfl,?_,?_⟩
 ·unfold badIx cntC9
  simp only [List.length_replicate,List.flatMap_nil,Bool.or_eq_false_iff]
  refine ⟨⟨?_,rfl⟩,rfl⟩
  unfold outE
  refine List.any_eq_false.2 fun i hi2=> ?_
  obtain ⟨x,hx,hxi⟩:=List.mem_flatMap.1 hi2
  have:=hi x hx
  simp only [corN3,List.mem_cons,List.not_mem_nil,or_false] at hxi
  simp only [decide_eq_true_eq]
  omega
 ·unfold manyC cntC9
  simp only [Bool.or_eq_false_iff,decide_eq_false_iff_not]
  refine ⟨many_of fun k d hk=>(by cases hk),?_⟩
  show¬65536 < 4*t.length
  omega
 ·unfold farC
  simp only [Bool.or_eq_false_iff]
  refine ⟨outR_of fun p hp=> ?_,rfl⟩
  have:p=(0,0,0):=(List.mem_replicate.1 hp).2
  subst this
  show ((0:Int)≤0∧(0:Int)≤2097151 / 16^1)∧((0:Int)≤0∧(0:Int)≤2097151 / 16^1)∧(0:Int)≤0∧(0:Int)≤2097151 / 16^1
  decide
theorem cnt_fin {t:List Pt} {n:Nat} (he:errC (cntC9 t n)=0):finT (cntC9 t n)=stepT (midE t n) t∧(finP (cntC9 t n)).length=n+(edgesE t).length:=by
 have hl:(cntC9 t n).begin.p.length=n:=by show (List.map _ _).length=n;rw [List.length_map];exact List.length_replicate
 unfold finT finP
 rw [if_pos he,if_pos he]
 show ((cntC9 t n).level 1).t=_∧((cntC9 t n).level 1).p.length=_
 refine ⟨?_,?_⟩
 ·show stepT (midE t (cntC9 t n).begin.p.length) t=_
  rw [hl]
 ·show ((cntC9 t n).begin.p++detE _ _ _).length=_
  rw [List.length_append,detE_len,rules_len,hl]
  rfl
theorem cnt_lev {c:Ctl} (h:errC c=0) (hb:NoBack c.tris) {k:Nat} (hk:k+1≤c.steps.toNat):
  errC (cntC9 (c.level k).t (c.level k).p.length)=0∧finT (cntC9 (c.level k).t (c.level k).p.length)=(c.level (k+1)).t∧(finP (cntC9 (c.level k).t (c.level k).p.length)).length=(c.level (k+1)).p.length∧NoBack (c.level k).t:=by
 have hR:=right_of h
 have hL:=Ctl.level_right hR hb k
 have ht:=hR.tri
 have hm:4*(c.level k).t.length≤65536:=by
  rw [Ctl.level_t,←Nat.mul_assoc]
  have h1:4*4^k≤4^c.steps.toNat:=by
   rw [Nat.mul_comm,←Nat.pow_succ]
   exact Nat.pow_le_pow_right (by decide) hk
  exact Nat.le_trans (Nat.mul_le_mul_right _ h1) ht
 have he:=cnt_right hL.cls.idx hL.chk hm
 obtain ⟨h1,h2⟩:=cnt_fin he
 refine ⟨he,h1,?_,hL.cls.back⟩
 rw [h2,Ctl.level_p]
theorem split_len (c:Ctl):∀k,(splitC c k).length=2^k*c.creases.length
 | 0=>by show c.creases.length=1*_;rw [Nat.one_mul]
 | k+1=>by
  have key:∀(t:List Pt) (n:Int) (l:List E2),(splitL t n l).length=2*l.length:=fun t n l=>by
   unfold splitL
   induction l with
   | nil=>rfl
   | cons a l ih=>rw [List.flatMap_cons,List.length_append,ih];simp;omega
  show (splitL _ _ (splitC c k)).length=_
  rw [key,split_len c k,Nat.pow_succ,←Nat.mul_assoc,Nat.mul_comm 2]
theorem split_at {c:Ctl} (h:errC c=0) (hb:NoBack c.tris) (k:Nat) {f:E2} (hf:f∈splitC c k):∃j:Nat,(edgesE (c.level k).t)[j]? =some (nrmE f.1 f.2)∧midE (c.level k).t (c.level k).p.length f.1 f.2=((c.level k).p.length:Int)+(j:Int)∧∀i:Nat,(edgesE (c.level k).t)[i]? =some (nrmE f.1 f.2)→i=j:=by
 have hL:=Ctl.level_right (right_of h) hb k
 have hm:nrmE f.1 f.2∈edgesE (c.level k).t:=by
  refine hL.crE _ ?_
  rw [←split_lev]
  exact setE_mem.2 ⟨f,hf,rfl⟩
 have hn:=edgesE_nodup hL.cls.nodup
 obtain ⟨j,hj⟩:=List.mem_iff_getElem?.1 hm
 refine ⟨j,hj,?_,fun i hi=> ?_⟩
 ·unfold midE
  rw [posE_at hn hj]
 ·have h1:=posE_at hn hj
  have h2:=posE_at hn hi
  rw [h1] at h2
  exact (Int.ofNat.inj h2).symm
theorem split_rng {c:Ctl} (h:errC c=0) (hb:NoBack c.tris) (k:Nat) {f:E2} (hf:f∈splitC c k):(0≤f.1∧f.1 < ((c.level k).p.length:Int))∧0≤f.2∧f.2 < ((c.level k).p.length:Int):=by
 have hL:=Ctl.level_right (right_of h) hb k
 obtain ⟨j,hj,_⟩:=split_at h hb k hf
 obtain ⟨x,hx,hd⟩:=mem_dirE.1 (mem_edgesE.1 (List.mem_of_getElem? hj)).1
 have hr:=hL.cls.idx x hx
 have hm:=mem_de3.1 hd
 simp only [nrmE,Prod.mk.injEq] at hm
 omega
theorem edge_rng {c:Ctl} (h:errC c=0) (hb:NoBack c.tris) (k:Nat) {e:E2} (he:e∈edgesE (c.level k).t):(0≤e.1∧e.1 < ((c.level k).p.length:Int))∧0≤e.2∧e.2 < ((c.level k).p.length:Int):=by
 have hL:=Ctl.level_right (right_of h) hb k
 obtain ⟨x,hx,hd⟩:=mem_dirE.1 (mem_edgesE.1 he).1
 have hr:=hL.cls.idx x hx
 rcases mem_de3.1 hd with rfl | rfl | rfl
 ·exact ⟨hr.1,hr.2.1⟩
 ·exact ⟨hr.2.1,hr.2.2⟩
 ·exact ⟨hr.2.2,hr.1⟩
theorem splitL_snoc (t:List Pt) (n:Int) (l:List E2) (f:E2):splitL t n (l++ [f])=splitL t n l++ [(f.1,midE t n f.1 f.2),(f.2,midE t n f.1 f.2)]:=by
 unfold splitL
 rw [List.flatMap_append]
 rfl
end Go.Proofs.YtmemofonebphfaaGreat
namespace Go.Proofs.YtmemofonebphfaaGreat
open Go.RowKit Go.Sort
theorem take_succ9 {l:List E2} {i:Nat} {f:E2} (h:l[i]? =some f):l.take (i+1)=l.take i++ [f]:=by rw [List.take_add_one,h];rfl
set_option maxRecDepth 100000 in
set_option maxHeartbeats 64000000 in
theorem split_any (Ap At Ac Ao Ad:Option Addr) (cp ct cc oc dc:Nat) (c:Ctl) (w:World) (hm:CtlM w w.heap.size Ap At Ac Ao Ad c) (_hb:CtlB c) (he:errC c=0) (hnb:NoBack c.tris) (hs1:1≤c.steps) (hcr:c.creases.length≤1000) (hpb:∀k,k≤c.steps.toNat→(c.level k).p.length≤100000):
  Calls Tryz.prog 23 #[vCtl Ap c.points.length cp At c.tris.length ct Ac c.creases.length cc Ao c.corners.length oc c.steps Ad c.details.length dc] w fun e w'=>∃A k,e= .returned (.slice A (splitC c (c.steps.toNat - 1)).length k)∧Sl encE2 2 w' w'.heap.size A (splitC c (c.steps.toNat - 1))∧(1≤c.steps.toNat - 1→Own encE2 2 56 w' w.heap.size (.slice A (splitC c (c.steps.toNat - 1)).length k) (splitC c (c.steps.toNat - 1)).length (splitC c (c.steps.toNat - 1)))∧Below w.heap.size w w':=by
 have hR:=right_of he
 have hst:=hR.st
 have hcnt:=fun (k:Nat)=>cnt_lev he hnb (k:=k)
 have hat:=fun (k:Nat) (f:E2)=>split_at he hnb k (f:=f)
 have hrg:=fun (k:Nat) (f:E2)=>split_rng he hnb k (f:=f)
 have heg:=fun (k:Nat) (e:E2)=>edge_rng he hnb k (e:=e)
 have hln:=split_len c
 have htb:∀k,k≤c.steps.toNat→(c.level k).t.length≤65536:=fun k hk=>by
  rw [Ctl.level_t]
  exact level_tri hR hk
 obtain ⟨m1,hm1⟩:∃m,m=c.steps.toNat - 1:=⟨_,rfl⟩
 obtain ⟨np,hnp⟩:∃n,n=c.points.length:=⟨_,rfl⟩
 obtain ⟨nt,hnt⟩:∃n,n=c.tris.length:=⟨_,rfl⟩
 obtain ⟨nc,hnc⟩:∃n,n=c.creases.length:=⟨_,rfl⟩
 obtain ⟨no,hno⟩:∃n,n=c.corners.length:=⟨_,rfl⟩
 obtain ⟨nd,hnd⟩:∃n,n=c.details.length:=⟨_,rfl⟩
 obtain ⟨st,hst0⟩:∃n,n=c.steps:=⟨_,rfl⟩
 rw [←hm1]
 rw [←hst0] at hst hs1
 have hms:st - 1=(m1:Int):=by omega
 have hmk:∀k,k≤m1→k≤c.steps.toNat:=fun k hk=>by omega
 have hmk1:∀k,k < m1→k+1≤c.steps.toNat:=fun k hk=>by omega
 rw [←hnp,←hnt,←hnc,←hno,←hnd,←hst0]
 rw [←hnc] at hcr
 have hm4:m1≤3:=by omega
 have HK:=hide (And.intro hcnt (And.intro hat (And.intro hrg (And.intro heg (And.intro hln (And.intro hpb htb))))))
 have HM:=hide (And.intro hm (And.intro hmk hmk1))
 have HN:=hide (And.intro hnp (And.intro hnt hnc))
 clear hcnt hat hrg heg hln hpb htb hm hmk hmk1 hnp hnt hnc hno hnd hst0 hm1 hR _hb
 go_enter Tryz.func23,Tryz.ntmps23
 go_upto_region 1 with fail
 obtain ⟨g1,hg1⟩:∃g,g=w.heap.size:=⟨_,rfl⟩
 obtain ⟨X0,hX⟩:∃W,W=w.alloc (.cells (cCtl Ap np cp At nt ct Ac nc cc Ao no oc st Ad nd dc) 32):=⟨_,rfl⟩
 rw [←hX,←hg1]
 have hb1:Blk X0 g1 32 (cCtl Ap np cp At nt ct Ac nc cc Ao no oc st Ad nd dc):=by rw [hX,hg1];exact Blk.new _ _ _
 have hBX:Below w.heap.size w X0:=by rw [hX];exact (Below.refl _ w).alloc (Nat.le_refl _) _
 obtain ⟨z0,z1,z2,z3,z4,z5⟩:=hb1.six9
 have hgl:=hb1.lt
 have H0:=hide (And.intro hb1 (And.intro hBX (HM.out.1.below hBX hBX.size)))
 clear hb1 hBX hX hg1
 go_upto_region 5 with fail
 clear z0 z1 z2 z3 z4 z5
 go_loopw [3,4,5,6] (fun lv tv nv kv wr=>∃(k:Nat) (Al At':Option Addr) (kl kt:Nat),k≤m1∧kv= .int .i64 k∧lv= .slice Al (splitC c k).length kl∧tv= .slice At' (c.level k).t.length kt∧nv= .int .i64 ((c.level k).p.length:Nat)∧Sl encE2 2 wr wr.heap.size Al (splitC c k)∧Sl encN3 3 wr wr.heap.size At' (c.level k).t∧Below X0.heap.size X0 wr∧(1≤k→Own encE2 2 56 wr X0.heap.size (.slice Al (splitC c k).length kl) (splitC c k).length (splitC c k))) (fun _ _ _ kv _=>m1 - (intOf kv).toNat)
 case atStart=>exact ⟨0,Ac,At,cc,ct,by omega,rfl,by rw [HN.out.2.2];rfl,by rw [HN.out.2.1];rfl,by rw [HN.out.1];show _=Value.int .i64 (((List.map _ c.points).length:Nat):Int);rw [List.length_map],H0.out.2.2.cr,H0.out.2.2.t,Below.refl _ _,fun h=>absurd h (by omega)⟩
 case round=>
  obtain ⟨k,Al,At',kl,kt,hk,rfl,rfl,rfl,rfl,hsl,hst',hB,how⟩:=hrel
  obtain ⟨V,rfl⟩:∃x,x=wr:=⟨_,rfl⟩
  have z4:=(hB.cell (p:=⟨g1,4,none⟩) hgl).trans (H0.out.1.cell 4)
  have hglV:g1 < V.heap.size:=Nat.lt_of_lt_of_le hgl hB.size
  have u1:IntKind.i64.wrap (m1:Int)=(m1:Int):=IntWalk.i64_in _ (by omega)
  by_cases hlt:k < m1
  ·have k1':(k:Int) < (m1:Int):=by omega
   obtain ⟨hec,hfT,hfP,hnbk⟩:=HK.out.1 k (HM.out.2.2 k hlt)
   have hatk:=HK.out.2.1 k
   have hrgk:=HK.out.2.2.1 k
   have hegk:=HK.out.2.2.2.1 k
   have hlnk:=HK.out.2.2.2.2.1 k
   have hpbk:=HK.out.2.2.2.2.2.1 k (HM.out.2.1 k hk)
   have htbk:=HK.out.2.2.2.2.2.2 k (HM.out.2.1 k hk)
   have hcL:splitC c (k+1)=splitL (c.level k).t (c.level k).p.length (splitC c k):=rfl
   obtain ⟨L,hL⟩:∃l,l=splitC c k:=⟨_,rfl⟩
   obtain ⟨T,hT⟩:∃l,l=(c.level k).t:=⟨_,rfl⟩
   obtain ⟨NP,hNP⟩:∃l,l=(c.level k).p.length:=⟨_,rfl⟩
   obtain ⟨L',hL'⟩:∃l,l=splitC c (k+1):=⟨_,rfl⟩
   obtain ⟨T',hT'⟩:∃l,l=(c.level (k+1)).t:=⟨_,rfl⟩
   obtain ⟨NP',hNP'⟩:∃l,l=(c.level (k+1)).p.length:=⟨_,rfl⟩
   simp only [←hL,←hT,←hNP,←hL',←hT',←hNP'] at hec hfT hfP hnbk hatk hrgk hegk hlnk hpbk htbk hcL hsl hst'⊢
   have hbC:CtlB (cntC9 T NP):=⟨by show (List.replicate _ _).length≤_;rw [List.length_replicate];exact hpbk,by show T.length≤_;omega,by show (0:Nat)≤_;omega,by show (0:Nat)≤_;omega,by show (0:Nat)≤_;omega,by intro d hd;cases hd⟩
   have hf1:fits 1:=by unfold fits;decide
   have kfin:=fun (Ap At Ac Ao Ad:Option Addr) (cp ct cc oc dc:Nat) (W:World) (h:CtlM W W.heap.size Ap At Ac Ao Ad (cntC9 T NP))=>Fine9_any Ap At Ac Ao Ad cp ct cc oc dc (cntC9 T NP) W h hbC hf1 (fun _=>hnbk)
   have ked:=fun (W:World) (hW:Below V.heap.size V W)=>edges9_any At' kt T W ((hst'.below hW).more hW.size) (by omega)
   have hEb:=edgesE_le T
   clear how
   simp only [hec,hfT,hfP] at kfin
   have e1:(cntC9 T NP).points.length=NP:=List.length_replicate
   have e2:(cntC9 T NP).tris.length=T.length:=rfl
   have e3:(cntC9 T NP).creases.length=0:=rfl
   have e4:(cntC9 T NP).corners.length=0:=rfl
   have e5:(cntC9 T NP).details.length=0:=rfl
   have e6:(cntC9 T NP).steps=1:=rfl
   rw [e1,e2,e3,e4,e5,e6] at kfin
   obtain ⟨NT,hNT⟩:∃n,n=T.length:=⟨_,rfl⟩
   obtain ⟨NL,hNL⟩:∃n,n=L.length:=⟨_,rfl⟩
   obtain ⟨NT',hNT'⟩:∃n,n=T'.length:=⟨_,rfl⟩
   obtain ⟨FPx,hFPx⟩:∃n,n=finP (cntC9 T NP):=⟨_,rfl⟩
   obtain ⟨EE,hEE⟩:∃n,n=edgesE T:=⟨_,rfl⟩
   obtain ⟨NE,hNE⟩:∃n,n=EE.length:=⟨_,rfl⟩
   simp only [←hNT,←hNT',←hFPx] at kfin
   simp only [←hNT,←hEE,←hNE] at ked hEb
   simp only [←hEE] at hatk hegk
   rw [←hNT] at htbk
   have hNLb:NL≤16000:=by
    rw [hNL,hlnk]
    have h2:2^k≤16:=by
     have hk3:k=0∨k=1∨k=2∨k=3:=by omega
     rcases hk3 with rfl | rfl | rfl | rfl <;>decide
    rw [←HN.out.2.2]
    exact Nat.le_trans (Nat.mul_le_mul h2 hcr) (by decide)
   rw [←hNT,←hNL]
   have hmk:=mk_p9 NP (by omega)
   obtain ⟨R0,hR0⟩:∃r,r=((List.replicate NP ((0,0,0):Pt)).flatMap encP).toArray:=⟨_,rfl⟩
   rw [←hR0] at hmk
   have HR0:=hide hR0
   have HQ:=hide (And.intro kfin (And.intro ked (And.intro hatk (And.intro hrgk (And.intro hegk (And.intro hcL (And.intro hfP hst')))))))
   have HX:=hide (And.intro hNT (And.intro hNL (And.intro hNT' (And.intro hNE hB))))
   have HSL:=hide hsl
   have HT:=hide (And.intro hL' (And.intro hT' (And.intro hNP' hNT')))
   clear hR0 kfin ked hatk hrgk hegk hcL hst' hNT hNL hNT' hNE hB hsl hec hfT hfP hnbk hlnk hL hT hNP hL' hT' hNP' e1 e2 e3 e4 e5 e6 hbC hf1 hFPx hEE
   go_upto_region 8 with fail
   clear hmk z4 hglV u1
   obtain ⟨g0,hg0⟩:∃g,g=V.heap.size:=⟨_,rfl⟩
   obtain ⟨g7,hg7⟩:∃g,g=V.heap.size+1:=⟨_,rfl⟩
   obtain ⟨V1,hV1⟩:∃W,W=(V.alloc (.cells R0 43)).alloc (.cells (cMad (.slice (some ⟨g0,0,none⟩) NP NP) (.slice At' NT kt) (.slice none 0 0) (.slice none 0 0) 1 (.slice none 0 0)) 32):=⟨_,rfl⟩
   rw [←hg7,←hg0]
   rw [←hV1]
   have hB1:Below V.heap.size V V1:=by rw [hV1];exact ((Below.refl _ V).alloc (Nat.le_refl _) _).alloc (by simp) _
   have hb7:Blk V1 g7 32 (cMad (.slice (some ⟨g0,0,none⟩) NP NP) (.slice At' NT kt) (.slice none 0 0) (.slice none 0 0) 1 (.slice none 0 0)):=by rw [hV1,hg7];exact Blk.new' _ _ _ _ (by simp)
   have hcx:CtlM V1 V1.heap.size (some ⟨g0,0,none⟩) At' none none none (cntC9 T NP):=by
    have h1:=own_lits' encP_len 43 (w:=V) (base:=V.heap.size) (g:=g0) (List.replicate NP ((0,0,0):Pt)) hg0 (by omega) (by rw [List.length_replicate];omega)
    rw [List.length_replicate,←HR0.out] at h1
    have h2:=(h1.alloc (.cells (cMad (.slice (some ⟨g0,0,none⟩) NP NP) (.slice At' NT kt) (.slice none 0 0) (.slice none 0 0) 1 (.slice none 0 0)) 32)).sl encP_len (Nat.le_refl _)
    rw [←hV1] at h2
    exact ⟨h2,(HQ.out.2.2.2.2.2.2.2.below hB1).more hB1.size,Sl.nil,Sl.nil,⟨[],Sl.nil,rfl,fun i d hd=>by cases hd⟩⟩
   obtain ⟨z0,z1,z2,z3,z4,z5⟩:=hb7.six9
   have hg7l:=hb7.lt
   have H7:=hide (And.intro hcx hB1)
   clear hcx hB1 hb7 hV1 hg0 hg7
   go_upto_region 9 with (go_at_call 32;refine (HQ.out.1 _ _ _ _ _ _ _ _ _ _ V1 H7.out.1).mono ?_;rintro e V2 ⟨F1,c1,F2,c2,rfl,hP,hT,hB4⟩;have H8:=hide (And.intro (hT.sl encN3_len (Nat.le_refl _)) (H7.out.2.trans (hB4.mono H7.out.2.size)));clear hP hT hB4)
   clear z0 z1 z2 z3 z4 z5 hg7l
   try rw [HQ.out.2.2.2.2.2.2.1]
   try rw [←HX.out.2.2.1]
   go_upto_region 12 with (go_at_call 26;refine (HQ.out.2.1 V2 H8.out.2).mono ?_;rintro e V3 ⟨A9,k9,rfl,hs9,hB4⟩;have H9:=hide (And.intro hs9 (And.intro ((H8.out.1.below hB4).more hB4.size) (H8.out.2.trans (hB4.mono H8.out.2.size))));clear hs9 hB4)
   have hf0:Sl encE2 2 V3 V3.heap.size Al L:=(HSL.out.below H9.out.2.2).more H9.out.2.2.size
   have HLL:=hide hf0
   clear hf0
   go_loopw [12,13] (fun nv iv wr=>∃i:Nat,i≤NL∧iv= .int .i64 i∧Own encE2 2 56 wr V3.heap.size nv (2*i) (splitL T NP (L.take i))∧Below V3.heap.size V3 wr) (fun _ iv _=>NL - (intOf iv).toNat)
   case atStart=>exact ⟨0,by omega,rfl,Own.nil,Below.refl _ _⟩
   case round=>
    obtain ⟨i,hi,rfl,hO,hB⟩:=hrel
    obtain ⟨Y,rfl⟩:∃x,x=wr:=⟨_,rfl⟩
    obtain ⟨An,kn,rfl⟩:=hO.form
    by_cases hlt2:i < NL
    ·have i1:(i:Int) < (NL:Int):=by omega
     obtain ⟨f,hf⟩:∃f,L[i]? =some f:=⟨_,List.getElem?_eq_getElem (by rw [←HX.out.2.1];exact hlt2)⟩
     have hfm:=List.mem_of_getElem? hf
     obtain ⟨j0,hj0,hmid,huq⟩:=HQ.out.2.2.1 f hfm
     have hfr:=HQ.out.2.2.2.1 f hfm
     have htk:splitL T NP (L.take (i+1))=splitL T NP (L.take i)++ [(f.1,(NP:Int)+(j0:Int)),(f.2,(NP:Int)+(j0:Int))]:=by rw [take_succ9 hf,splitL_snoc,hmid]
     obtain ⟨S,hS⟩:∃x,x=splitL T NP (L.take i):=⟨_,rfl⟩
     obtain ⟨S',hS'⟩:∃x,x=splitL T NP (L.take (i+1)):=⟨_,rfl⟩
     rw [←hS,←hS'] at htk
     rw [←hS] at hO
     have hj0l:j0 < NE:=by
      have:=(List.getElem?_eq_some_iff.1 hj0).1
      rw [HX.out.2.2.2.1]
      exact this
     obtain ⟨f1,f2⟩:=f
     dsimp only at hfr htk hj0 huq
     obtain ⟨u1,hu1⟩:∃m,min f1 f2=m:=⟨_,rfl⟩
     obtain ⟨u2,hu2⟩:∃m,max f1 f2=m:=⟨_,rfl⟩
     have hnm:nrmE f1 f2=(u1,u2):=by unfold nrmE;rw [hu1,hu2]
     rw [hnm] at hj0 huq
     have hfu:fits2 (u1,u2):=by
      have h1:fits u1:=by unfold fits;omega
      have h2:fits u2:=by unfold fits;omega
      exact ⟨h1,h2⟩
     have HI:=hide (And.intro hO (And.intro hB (And.intro htk (And.intro hj0 (And.intro huq (And.intro hfu (And.intro hf hS')))))))
     clear hO hB htk hj0 huq hfu hf hS hS' hfm hmid hfr hnm
     go_upto_region 15 with fail
     go_loopw [12,14] (fun nv jv wz=>∃j m:Nat,j≤NE∧jv= .int .i64 j∧Own encE2 2 56 wz V3.heap.size nv m (if j0 < j then S' else S)∧m=(if j0 < j then 2*i+2 else 2*i)∧Below V3.heap.size V3 wz) (fun _ jv _=>NE - (intOf jv).toNat)
     case atStart=>exact ⟨0,2*i,by omega,rfl,by rw [if_neg (by omega)];exact HI.out.1,by rw [if_neg (by omega)],HI.out.2.1⟩
     case round=>
      obtain ⟨j,m,hj,rfl,hO,hm,hB⟩:=hrel
      obtain ⟨Z,rfl⟩:∃x,x=wr:=⟨_,rfl⟩
      obtain ⟨Aw,kw,rfl⟩:=hO.form
      have hmb:m≤2*i+2:=by rw [hm];split <;>omega
      by_cases hlt3:j < NE
      ·have j1:(j:Int) < (NE:Int):=by omega
       obtain ⟨e,he'⟩:∃e,EE[j]? =some e:=⟨_,List.getElem?_eq_getElem (by rw [←HX.out.2.2.2.1];exact hlt3)⟩
       have her:=HQ.out.2.2.2.2.1 e (List.mem_of_getElem? he')
       have hfe:fits2 e:=by
        have h1:fits e.1:=by unfold fits;omega
        have h2:fits e.2:=by unfold fits;omega
        exact ⟨h1,h2⟩
       have hq:=eqE2 e (u1,u2) hfe HI.out.2.2.2.2.2.1
       obtain ⟨bl,ol,hA,hbl,d0,d1⟩:=(HLL.out.below hB).e2 HI.out.2.2.2.2.2.2.1
       subst hA
       obtain ⟨be,oe9,hA,hbe,e0,e1⟩:=(H9.out.1.below hB).e2 he'
       subst hA
       have hblZ:bl < Z.heap.size:=Nat.lt_of_lt_of_le hbl hB.size
       have hbeZ:be < Z.heap.size:=Nat.lt_of_lt_of_le hbe hB.size
       obtain ⟨e1',e2'⟩:=e
       dsimp only at d0 d1 e0 e1
       by_cases hjj:j=j0
       ·subst hjj
        have hee:(e1',e2')=(u1,u2):=Option.some.inj (he'.symm.trans HI.out.2.2.2.1)
        rw [decide_eq_true hee] at hq
        rw [if_neg (by omega)] at hO hm
        subst hm
        have HO:=hide (And.intro hO hB)
        have HD:=hide (And.intro d0 (And.intro d1 hblZ))
        clear hO hB he' her hfe hee hbl hbe
        go_upto_region 17 with fail
        go_quiet (fail)
        go_upto_region 18 with fail
        obtain ⟨Z1,hZ1⟩:∃W,W=Z.drewN nq:=⟨_,rfl⟩
        rw [←hZ1]
        have hBZ:Below Z.heap.size Z Z1:=by rw [hZ1];exact below_drewN (Below.refl _ _) _
        obtain ⟨nj,hnj⟩:∃n:Nat,n=NP+j:=⟨_,rfl⟩
        have t5:(NP:Int)+(j:Int)=(nj:Int):=by omega
        have w5:IntKind.i64.wrap (nj:Int)=(nj:Int):=IntWalk.i64_in _ (by omega)
        have d0:=(hBZ.cell (p:=⟨bl,ol+i*2,none⟩) HD.out.2.2).trans HD.out.1
        have d1:=(hBZ.cell (p:=⟨bl,ol+i*2+1,none⟩) HD.out.2.2).trans HD.out.2.1
        have hblZ1:bl < Z1.heap.size:=Nat.lt_of_lt_of_le HD.out.2.2 hBZ.size
        have HZ1:=hide (And.intro (HO.out.1.below hBZ (Nat.le_refl _)) (HO.out.2.trans (hBZ.mono HO.out.2.size)))
        clear hBZ hZ1 hq hnj
        have HSB:=hide (show Below Z1.heap.size Z1 Z1.drew from (Below.refl _ Z1).drew)
        refine wp_region_mix (fun W=>Below Z1.heap.size Z1 W) [0,1,2,3,4,5,6,7,8,9,10,11,12,13,14,15,16,17,18] [0,1,2,3,4,5,6,7,8,9,10,11,12,13,14,15,16,17,18,19,20,21] mixed_ok (by kernel_rfl) ?_
        refine wpMix_q (v:=(.slice Aw (2*i) kw)) rfl rfl (fun _ _ _ h=>h) HSB.out ⟨rfl,fun _ _=>by simp [go_sem]⟩ ?_
        refine wpMix_q (v:=(.slice (some ⟨bl,ol,none⟩) NL kl)) rfl rfl (fun _ _ _ h=>h) HSB.out ⟨rfl,fun _ _=>by simp [go_sem]⟩ ?_
        refine wpMix_q (v:=(.int .i64 i)) rfl rfl (fun _ _ _ h=>h) HSB.out ⟨rfl,fun _ _=>by simp [go_sem]⟩ ?_
        refine wpMix_q (v:=(.pointer (some ⟨bl,ol+i*2,none⟩))) rfl rfl (fun _ _ _ h=>h) HSB.out ⟨rfl,fun _ _=>by simp [go_sem,i1]⟩ ?_
        refine wpMix_q (v:=(.pointer (some ⟨bl,ol+i*2,none⟩))) rfl rfl (fun _ _ _ h=>h) HSB.out ⟨rfl,fun _ _=>by simp [go_sem]⟩ ?_
        refine wpMix_q (v:=(.int .i64 f1)) rfl rfl (fun _ _ _ h=>h) HSB.out ⟨rfl,fun _ h'=>by have a0:=(h'.cell (p:=⟨bl,ol+i*2,none⟩) hblZ1).trans d0;simp [go_sem,a0]⟩ ?_
        simp only [List.getElem_toArray,List.getElem_cons_succ,List.getElem_cons_zero,Act.put,List.setIfInBounds_toArray,List.set_cons_succ,List.set_cons_zero]
        refine wpMix_q (v:=(.int .i64 NP)) rfl rfl (fun _ _ _ h=>h) HSB.out ⟨rfl,fun _ _=>by simp [go_sem]⟩ ?_
        refine wpMix_q (v:=(.int .i64 j)) rfl rfl (fun _ _ _ h=>h) HSB.out ⟨rfl,fun _ _=>by simp [go_sem]⟩ ?_
        refine wpMix_q (v:=(.int .i64 nj)) rfl rfl (fun _ _ _ h=>h) HSB.out ⟨rfl,fun _ _=>by simp [go_sem,t5,w5]⟩ ?_
        refine wpMix_q (v:=(.agg #[.int .i64 f1, .int .i64 nj])) rfl rfl (fun _ _ _ h=>h) HSB.out ⟨rfl,fun _ _=>by simp [go_sem]⟩ ?_
        refine wpMix_q (v:=(.slice (some ⟨bl,ol,none⟩) NL kl)) rfl rfl (fun _ _ _ h=>h) HSB.out ⟨rfl,fun _ _=>by simp [go_sem]⟩ ?_
        refine wpMix_q (v:=(.int .i64 i)) rfl rfl (fun _ _ _ h=>h) HSB.out ⟨rfl,fun _ _=>by simp [go_sem]⟩ ?_
        simp only [List.getElem_toArray,List.getElem_cons_succ,List.getElem_cons_zero,Act.put,List.setIfInBounds_toArray,List.set_cons_succ,List.set_cons_zero]
        refine wpMix_q (v:=(.pointer (some ⟨bl,ol+i*2,none⟩))) rfl rfl (fun _ _ _ h=>h) HSB.out ⟨rfl,fun _ _=>by simp [go_sem,i1]⟩ ?_
        refine wpMix_q (v:=(.pointer (some ⟨bl,ol+i*2+1,none⟩))) rfl rfl (fun _ _ _ h=>h) HSB.out ⟨rfl,fun _ _=>by simp [go_sem]⟩ ?_
        refine wpMix_q (v:=(.int .i64 f2)) rfl rfl (fun _ _ _ h=>h) HSB.out ⟨rfl,fun _ h'=>by have a0:=(h'.cell (p:=⟨bl,ol+i*2+1,none⟩) hblZ1).trans d1;simp [go_sem,a0]⟩ ?_
        refine wpMix_q (v:=(.int .i64 NP)) rfl rfl (fun _ _ _ h=>h) HSB.out ⟨rfl,fun _ _=>by simp [go_sem]⟩ ?_
        refine wpMix_q (v:=(.int .i64 j)) rfl rfl (fun _ _ _ h=>h) HSB.out ⟨rfl,fun _ _=>by simp [go_sem]⟩ ?_
        refine wpMix_q (v:=(.int .i64 nj)) rfl rfl (fun _ _ _ h=>h) HSB.out ⟨rfl,fun _ _=>by simp [go_sem,t5,w5]⟩ ?_
        simp only [List.getElem_toArray,List.getElem_cons_succ,List.getElem_cons_zero,Act.put,List.setIfInBounds_toArray,List.set_cons_succ,List.set_cons_zero]
        refine wpMix_q (v:=(.agg #[.int .i64 f2, .int .i64 nj])) rfl rfl (fun _ _ _ h=>h) HSB.out ⟨rfl,fun _ _=>by simp [go_sem]⟩ ?_
        simp only [List.getElem_toArray,List.getElem_cons_succ,List.getElem_cons_zero,Act.put,List.setIfInBounds_toArray,List.set_cons_succ,List.set_cons_zero]
        refine wpMix_n rfl rfl ?_
        go_wp2_with fail
        refine ⟨fun _=>HSB.out.alloc (Nat.le_refl _) _,?_⟩
        refine wpMix_tail _ [_,_] (by kernel_rfl) rfl ?_
        obtain ⟨ys,hys⟩:∃ys:List E2,ys= [(f1,(nj:Int)),(f2,(nj:Int))]:=⟨_,rfl⟩
        have hal:Below Z1.heap.size Z1 (Z1.drew.alloc (.cells #[.int .i64 f1, .int .i64 nj, .int .i64 f2, .int .i64 nj] 56)):=(show Below Z1.heap.size Z1 Z1.drew from (Below.refl _ Z1).drew).alloc (Nat.le_refl _) _
        have hys2:ys.length=2:=by rw [hys];rfl
        have hsy:Sl encE2 2 (Z1.drew.alloc (.cells #[.int .i64 f1, .int .i64 nj, .int .i64 f2, .int .i64 nj] 56)) (Z1.heap.size+1) (some ⟨Z1.heap.size,0,none⟩) ys:=by
         have h:=own_lits' encE2_len 56 (w:=Z1.drew) (base:=0) (g:=Z1.heap.size) [((f1,(nj:Int)):E2),(f2,(nj:Int))] rfl (Nat.zero_le _) (by simp)
         rw [hys]
         exact h.sl encE2_len (by simp)
        have hS2:S'=S++ys:=by rw [hys,←t5];exact HI.out.2.2.1
        have hVZ:=HZ1.out.2.size
        refine wpList_appendS rfl _ _ _ rfl Tryz.underlying29 infoE2 rfl (by omega) encE2_len encE2_one rfl (HZ1.out.1.below hal (Nat.le_refl _)) (some ⟨Z1.heap.size,0,none⟩) 2 (Z1.heap.size+1) ys (by rw [hys2];rfl) hsy (by rw [hys2];unfold maxLen;omega) (by rw [hys2];omega) (Nat.le_trans hVZ hal.size) ?_
        intro v6 w6 hown6 hg6 hB6 hat6
        rw [hys2,←hS2] at hown6
        obtain ⟨A6,k6,rfl⟩:=hown6.form
        have hB7:=HZ1.out.2.trans ((hal.mono hVZ).trans hB6)
        have H6:=hide (And.intro hown6 hB7)
        clear hown6 hg6 hB6 hat6 hB7 hal hsy hS2 hys hys2 HSB
        go_wp2
        go_roundw
        case rel=>repeat (first | exact ⟨j+1,2*i+2,by omega,by go_num,by rw [if_pos (by omega)];exact H6.out.1,by rw [if_pos (by omega)],H6.out.2⟩ | (refine ⟨?_,rfl⟩;exact ⟨j+1,2*i+2,by omega,by go_num,by rw [if_pos (by omega)];exact H6.out.1,by rw [if_pos (by omega)],H6.out.2⟩) | apply Exists.intro)
        case measure=>(simp [intOf];try omega)
       ·have hne:¬(e1',e2')=(u1,u2):=fun h=>hjj (HI.out.2.2.2.2.1 j (by rw [←h];exact he'))
        rw [decide_eq_false hne] at hq
        have hif:(if j0 < j+1 then S' else S)=(if j0 < j then S' else S):=by
         by_cases h:j0 < j
         ·rw [if_pos h,if_pos (by omega)]
         ·rw [if_neg h,if_neg (by omega)]
        have hif2:(if j0 < j+1 then 2*i+2 else 2*i)=(if j0 < j then 2*i+2 else 2*i):=by
         by_cases h:j0 < j
         ·rw [if_pos h,if_pos (by omega)]
         ·rw [if_neg h,if_neg (by omega)]
        have HO:=hide (And.intro hO (And.intro hB (And.intro hif (And.intro hif2 hm))))
        clear hO hB he' her hfe hne hbl hbe hif hif2 hm
        go_upto_region 17 with fail
        go_quiet (fail)
        go_wp2
        go_roundw
        case rel=>repeat (first | exact ⟨j+1,m,by omega,by go_num,by first | (rw [HO.out.2.2.1];exact HO.out.1.below (below_drewN (Below.refl _ _) _) (Nat.le_refl _)) | skip,by rw [HO.out.2.2.2.1];exact HO.out.2.2.2.2,below_drewN HO.out.2.1 _⟩ | (refine ⟨?_,rfl⟩;exact ⟨j+1,m,by omega,by go_num,by first | (rw [HO.out.2.2.1];exact HO.out.1.below (below_drewN (Below.refl _ _) _) (Nat.le_refl _)) | skip,by rw [HO.out.2.2.2.1];exact HO.out.2.2.2.2,below_drewN HO.out.2.1 _⟩) | apply Exists.intro)
        case measure=>(simp [intOf];try omega)
      ·obtain rfl:j=NE:=by omega
       have j1:¬(j:Int) < (j:Int):=by omega
       rw [if_pos (by omega)] at hO hm
       subst hm
       have HO:=hide (And.intro hO hB)
       clear hO hB
       go_wp2
       go_roundw
       case rel=>repeat (first | exact ⟨i+1,by omega,by go_num,by rw [←HI.out.2.2.2.2.2.2.2];exact HO.out.1,HO.out.2⟩ | (refine ⟨?_,rfl⟩;exact ⟨i+1,by omega,by go_num,by rw [←HI.out.2.2.2.2.2.2.2];exact HO.out.1,HO.out.2⟩) | apply Exists.intro)
       case measure=>(simp [intOf];try omega)
    ·obtain rfl:i=NL:=by omega
     have i1:¬(i:Int) < (i:Int):=by omega
     rw [List.take_of_length_le (by rw [←HX.out.2.1];exact Nat.le_refl _),←HQ.out.2.2.2.2.2.1] at hO
     have hl:=hO.1
     have hZs:=(HX.out.2.2.2.2.trans (H9.out.2.2.mono HX.out.2.2.2.2.size)).trans (hB.mono (HX.out.2.2.2.2.trans (H9.out.2.2.mono HX.out.2.2.2.2.size)).size)
     have hbs:=(HX.out.2.2.2.2.trans (H9.out.2.2.mono HX.out.2.2.2.2.size)).size
     have HO:=hide (And.intro (hO.sl encE2_len (Nat.le_refl _)) (And.intro ((H9.out.2.1.below hB).more hB.size) (And.intro hZs (And.intro hl (hO.base_le hbs)))))
     clear hO hB hl hZs
     go_wp2
     go_roundw
     case rel=>repeat (first | exact ⟨k+1,An,F2,kn,c2,by omega,by go_num,by rw [←HT.out.1,←HO.out.2.2.2.1],by rw [←HT.out.2.1,←HT.out.2.2.2],by rw [←HT.out.2.2.1],by rw [←HT.out.1];exact HO.out.1,by rw [←HT.out.2.1];exact HO.out.2.1,HO.out.2.2.1,fun _=>by rw [←HT.out.1,←HO.out.2.2.2.1];exact HO.out.2.2.2.2⟩ | (refine ⟨?_,rfl⟩;exact ⟨k+1,An,F2,kn,c2,by omega,by go_num,by rw [←HT.out.1,←HO.out.2.2.2.1],by rw [←HT.out.2.1,←HT.out.2.2.2],by rw [←HT.out.2.2.1],by rw [←HT.out.1];exact HO.out.1,by rw [←HT.out.2.1];exact HO.out.2.1,HO.out.2.2.1,fun _=>by rw [←HT.out.1,←HO.out.2.2.2.1];exact HO.out.2.2.2.2⟩) | apply Exists.intro)
     case measure=>(simp [intOf];try omega)
  ·obtain rfl:k=m1:=by omega
   have k1':¬(k:Int) < (k:Int):=by omega
   have HF:=hide (And.intro hsl (And.intro (fun h=>(how h).base_le H0.out.2.1.size) (H0.out.2.1.trans (hB.mono H0.out.2.1.size))))
   clear hsl hst' hB how
   go_wp2
   go_ret
   first | exact ⟨_,_,HF.out.1,HF.out.2.1,HF.out.2.2⟩ | exact ⟨_,_,rfl,HF.out.1,HF.out.2.1,HF.out.2.2⟩ | exact ⟨_,⟨_,rfl⟩,HF.out.1,HF.out.2.1,HF.out.2.2⟩
end Go.Proofs.YtmemofonebphfaaGreat
