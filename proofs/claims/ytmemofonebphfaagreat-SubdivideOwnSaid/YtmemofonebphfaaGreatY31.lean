import Derived.Test.YtmemofonebphfaaGreatY30
namespace Go.Proofs.YtmemofonebphfaaGreat
open Go.RowKit Go.Sort
def overP (p:Pt) (n:Int):Pt:=(p.1.tdiv n,p.2.1.tdiv n,p.2.2.tdiv n)
def overB (p:Pt) (n:Int):Bool:=decide (p.1.tmod n=0) && (decide (p.2.1.tmod n=0) && decide (p.2.2.tmod n=0))
def anaZ (c:Ctl):Ctl:={c with points:=List.replicate c.points.length (0,0,0),details:= []}
def anaPts (c:Ctl) (fine:List Pt):List Pt:=(fine.take c.points.length).map fun p=>overP p (16^c.steps.toNat)
def anaLev (c:Ctl) (fine:List Pt):Nat→Lev
 | 0=>({c with points:=anaPts c fine}:Ctl).begin
 | k+1=>(anaLev c fine k).step ((fine.drop (anaLev c fine k).p.length).take (edgesE (anaLev c fine k).t).length)
def anaDif (c:Ctl) (fine:List Pt) (k:Nat):List Pt:=((anaLev c fine k).rules c.corners).mapIdx fun i r=>plusP (fine.getD ((anaLev c fine k).p.length+i) (0,0,0)) r (-1)
def anaDet (c:Ctl) (fine:List Pt) (k:Nat):List Pt:=(anaDif c fine k).map fun p=>overP p (16^(c.steps.toNat - 1 - k))
def anaOut (c:Ctl) (fine:List Pt):Ctl:={c with points:=anaPts c fine,details:=(List.range c.steps.toNat).map (anaDet c fine)}
def anaMany (c:Ctl):Nat→Nat × Nat
 | 0=>(c.points.length,3*c.tris.length / 2)
 | k+1=>((anaMany c k).1+(anaMany c k).2,4*(anaMany c k).2)
def anaWhole (c:Ctl) (fine:List Pt):Bool:=((fine.take c.points.length).all fun p=>overB p (16^c.steps.toNat)) && (List.range c.steps.toNat).all fun k=>(anaDif c fine k).all fun p=>overB p (16^(c.steps.toNat - 1 - k))
def anaE (c:Ctl) (fine:List Pt):Int:=
 if errC (anaZ c)≠0 then errC (anaZ c) else if fine.length≠(anaMany c c.steps.toNat).1 then 1 else if anaWhole c fine=false then 13 else errC (anaOut c fine)
def noneC:Ctl:=⟨[], [], [], [],0, []⟩
def anaR (c:Ctl) (fine:List Pt):Ctl:=if anaE c fine=0 then anaOut c fine else noneC
theorem overP_mul {n x:Int} (h:0 < n):(n*x).tdiv n=x∧(n*x).tmod n=0:=⟨Int.mul_tdiv_cancel_left x (by omega),Int.mul_tmod_right n x⟩
end Go.Proofs.YtmemofonebphfaaGreat
namespace Go.Proofs.YtmemofonebphfaaGreat
open Go.RowKit Go.Sort
theorem lev_pre (c:Ctl) (k:Nat):∀m:Nat,∃r,(c.level (k+m)).p=(c.level k).p++r
 | 0=>⟨[],by simp⟩
 | m+1=>by
  obtain ⟨r,hr⟩:=lev_pre c k m
  refine ⟨r++(edgesE (c.level (k+m)).t).mapIdx (newE c (k+m)),?_⟩
  rw [←List.append_assoc,←hr,←Nat.add_assoc,level_new]
theorem fin_pre {c:Ctl} (h:errC c=0) {k:Nat} (hk:k≤c.steps.toNat):∃r,finP c=(c.level k).p++r:=by
 obtain ⟨r,hr⟩:=lev_pre c k (c.steps.toNat - k)
 refine ⟨r,?_⟩
 unfold finP
 rw [if_pos h,←hr]
 congr 2
 omega
structure Like (c0 c:Ctl):Prop where
 n:c0.points.length=c.points.length
 t:c0.tris=c.tris
 r:c0.creases=c.creases
 o:c0.corners=c.corners
 s:c0.steps=c.steps
theorem ana_pts {c0 c:Ctl} (hl:Like c0 c) (h:errC c=0):anaPts c0 (finP c)=c.points:=by
 obtain ⟨r,hr⟩:=fin_pre h (Nat.zero_le _)
 have hz:(c.level 0).p=_:=level_zero (right_of h)
 have hb:(c.level 0).p.length=c.points.length:=by rw [hz,List.length_map]
 have hp:=pow16_le (show c.steps.toNat≤4 by have:=(right_of h).st;omega)
 unfold anaPts
 rw [hr,hl.n,hl.s,List.take_append_of_le_length (by omega),List.take_of_length_le (by omega),hz,List.map_map]
 refine (List.map_congr_left fun p _=> ?_).trans (List.map_id _)
 show overP (16^c.steps.toNat*p.1,16^c.steps.toNat*p.2.1,16^c.steps.toNat*p.2.2) (16^c.steps.toNat)=p
 unfold overP
 dsimp only
 rw [(overP_mul (by omega)).1,(overP_mul (by omega)).1,(overP_mul (by omega)).1]
theorem ana_lev {c0 c:Ctl} (hl:Like c0 c) (h:errC c=0):∀k:Nat,k≤c.steps.toNat→anaLev c0 (finP c) k=c.level k
 | 0,_=>by
  show ({c0 with points:=anaPts c0 (finP c)}:Ctl).begin=c.begin
  rw [ana_pts hl h]
  unfold Ctl.begin
  dsimp only
  rw [hl.t,hl.r,hl.s]
 | k+1,hk=>by
  have ih:=ana_lev hl h k (by omega)
  obtain ⟨r,hr⟩:=fin_pre h hk
  show (anaLev c0 (finP c) k).step _=(c.level k).step (detE _ _ _)
  rw [ih]
  congr 1
  have hn:detE ((c.level k).rules c.corners) (c.details.getD k []) (16^(c.steps.toNat - 1 - k))=(edgesE (c.level k).t).mapIdx (newE c k):=by
   have e1:(c.level (k+1)).p=(c.level k).p++detE ((c.level k).rules c.corners) (c.details.getD k []) (16^(c.steps.toNat - 1 - k)):=rfl
   rw [level_new] at e1
   exact (List.append_cancel_left e1).symm
  rw [hn,hr,level_new,List.append_assoc,List.drop_left,List.take_append_of_le_length (by rw [List.length_mapIdx];exact Nat.le_refl _),List.take_of_length_le (by rw [List.length_mapIdx];exact Nat.le_refl _)]
theorem rules_idx (c:Ctl) (k:Nat) {α:Type} (g:Nat→Pt→α):((c.level k).rules c.corners).mapIdx g=(edgesE (c.level k).t).mapIdx fun i e=>g i (ruleE (c.level k).p (c.level k).t (c.level k).cr c.corners e.1 e.2):=by
 refine List.ext_getElem? fun i=> ?_
 unfold Lev.rules
 rw [List.getElem?_mapIdx,List.getElem?_map,List.getElem?_mapIdx]
 cases (edgesE (c.level k).t)[i]? <;>rfl
theorem ana_dif {c0 c:Ctl} (hl:Like c0 c) (h:errC c=0) {k:Nat} (hk:k < c.steps.toNat):
  anaDif c0 (finP c) k=(edgesE (c.level k).t).mapIdx fun i _=>(16^(c.steps.toNat - 1 - k)*(dtl c k i).1,16^(c.steps.toNat - 1 - k)*(dtl c k i).2.1,16^(c.steps.toNat - 1 - k)*(dtl c k i).2.2):=by
 have hR:=right_of h
 obtain ⟨hB,hD⟩:=level_ex hR k (by omega)
 obtain ⟨r,hr⟩:=fin_pre h (k:=k+1) (by omega)
 have hs:=pow16_le (show c.steps.toNat - 1 - k≤4 by have:=hR.st;omega)
 unfold anaDif
 rw [ana_lev hl h k (by omega),hl.o,rules_idx]
 refine List.ext_getElem? fun i=> ?_
 rw [List.getElem?_mapIdx,List.getElem?_mapIdx]
 cases he:(edgesE (c.level k).t)[i]? with
 | none=>rfl
 | some e=>
  simp only [Option.map_some,Option.some.injEq]
  have hg:(finP c).getD ((c.level k).p.length+i) (0,0,0)=newE c k i e:=by
   rw [hr,level_new,List.append_assoc,List.getD_eq_getElem?_getD,List.getElem?_append_right (by omega),Nat.add_sub_cancel_left]
   have hi:=(List.getElem?_eq_some_iff.1 he).1
   rw [List.getElem?_append_left (by rw [List.length_mapIdx];exact hi),List.getElem?_mapIdx,he]
   rfl
  rw [hg,new_ex hR hk hB hD]
  have hd:=dtl_rng hR k i
  have m1:=mul_rng hs.1 hs.2 (by decide) hd.1
  have m2:=mul_rng hs.1 hs.2 (by decide) hd.2.1
  have m3:=mul_rng hs.1 hs.2 (by decide) hd.2.2
  have key:∀x y:Int,-(65536*2097151)≤y→y≤65536*2097151→wrap64 (x+y+ -1*x)=y:=fun x y a b=>by
   have e9:x+y+ -1*x=y:=by omega
   rw [e9]
   unfold wrap64
   omega
  unfold plusP
  dsimp only
  rw [key _ _ m1.1 m1.2,key _ _ m2.1 m2.2,key _ _ m3.1 m3.2]
def fullD (c:Ctl) (k:Nat):List Pt:=(edgesE (c.level k).t).mapIdx fun i _=>dtl c k i
def fullC (c:Ctl):Ctl:={c with details:=(List.range c.steps.toNat).map (fullD c)}
theorem ana_det {c0 c:Ctl} (hl:Like c0 c) (h:errC c=0) {k:Nat} (hk:k < c.steps.toNat):anaDet c0 (finP c) k=fullD c k:=by
 have hs:=pow16_le (show c.steps.toNat - 1 - k≤4 by have:=(right_of h).st;omega)
 unfold anaDet fullD
 rw [ana_dif hl h hk,hl.s]
 refine List.ext_getElem? fun i=> ?_
 rw [List.getElem?_map,List.getElem?_mapIdx,List.getElem?_mapIdx]
 cases (edgesE (c.level k).t)[i]? with
 | none=>rfl
 | some e=>
  simp only [Option.map_some,Option.some.injEq]
  unfold overP
  dsimp only
  rw [(overP_mul (by omega)).1,(overP_mul (by omega)).1,(overP_mul (by omega)).1]
theorem ana_out {c0 c:Ctl} (hl:Like c0 c) (h:errC c=0):anaOut c0 (finP c)=fullC c:=by
 unfold anaOut fullC
 have hd:(List.range c0.steps.toNat).map (anaDet c0 (finP c))=(List.range c.steps.toNat).map (fullD c):=by
  rw [hl.s]
  exact List.map_congr_left fun k hk=>ana_det hl h (List.mem_range.1 hk)
 rw [hd,ana_pts hl h,hl.t,hl.r,hl.o,hl.s]
theorem ana_whole {c0 c:Ctl} (hl:Like c0 c) (h:errC c=0):anaWhole c0 (finP c)=true:=by
 obtain ⟨r,hr⟩:=fin_pre h (Nat.zero_le _)
 have hz:(c.level 0).p=_:=level_zero (right_of h)
 have hb:(c.level 0).p.length=c.points.length:=by rw [hz,List.length_map]
 unfold anaWhole
 rw [Bool.and_eq_true]
 constructor
 ·rw [hr,hl.n,hl.s,List.take_append_of_le_length (by omega),List.take_of_length_le (by omega),hz]
  refine List.all_eq_true.2 fun p hp=> ?_
  obtain ⟨q,_,rfl⟩:=List.mem_map.1 hp
  have hs:=pow16_le (show c.steps.toNat≤4 by have:=(right_of h).st;omega)
  unfold overB
  simp only [(overP_mul (n:=16^c.steps.toNat) (x:=q.1) (by omega)).2,(overP_mul (n:=16^c.steps.toNat) (x:=q.2.1) (by omega)).2,(overP_mul (n:=16^c.steps.toNat) (x:=q.2.2) (by omega)).2,decide_true,Bool.and_self]
 ·refine List.all_eq_true.2 fun k hk=> ?_
  rw [hl.s] at hk
  have hk:=List.mem_range.1 hk
  have hs:=pow16_le (show c.steps.toNat - 1 - k≤4 by have:=(right_of h).st;omega)
  rw [ana_dif hl h hk,hl.s]
  refine List.all_eq_true.2 fun p hp=> ?_
  obtain ⟨i,hi,rfl⟩:=List.mem_mapIdx.1 hp
  unfold overB
  simp only [(overP_mul (n:=16^(c.steps.toNat - 1 - k)) (x:=(dtl c k i).1) (by omega)).2,(overP_mul (n:=16^(c.steps.toNat - 1 - k)) (x:=(dtl c k i).2.1) (by omega)).2,(overP_mul (n:=16^(c.steps.toNat - 1 - k)) (x:=(dtl c k i).2.2) (by omega)).2,decide_true,Bool.and_self]
theorem full_get {c:Ctl} {k:Nat} (hk:k < c.steps.toNat):(fullC c).details.getD k []=fullD c k:=by
 show ((List.range c.steps.toNat).map (fullD c)).getD k []=_
 rw [List.getD_eq_getElem?_getD,List.getElem?_map,List.getElem?_range hk]
 rfl
theorem full_dtl {c:Ctl} {k i:Nat} (hk:k < c.steps.toNat) (hi:i < (edgesE (c.level k).t).length):dtl (fullC c) k i=dtl c k i:=by
 unfold dtl
 rw [full_get hk]
 unfold fullD
 rw [List.getD_eq_getElem?_getD,List.getElem?_mapIdx,List.getElem?_eq_getElem hi]
 rfl
theorem det_new (c:Ctl) (k:Nat):detE ((c.level k).rules c.corners) (c.details.getD k []) (16^(c.steps.toNat - 1 - k))=(edgesE (c.level k).t).mapIdx (newE c k):=by
 have e1:(c.level (k+1)).p=(c.level k).p++detE ((c.level k).rules c.corners) (c.details.getD k []) (16^(c.steps.toNat - 1 - k)):=rfl
 rw [level_new] at e1
 exact (List.append_cancel_left e1).symm
theorem full_lev (c:Ctl):∀k:Nat,k≤c.steps.toNat→(fullC c).level k=c.level k
 | 0,_=>rfl
 | k+1,hk=>by
  have ih:=full_lev c k (by omega)
  show ((fullC c).level k).step (detE (((fullC c).level k).rules (fullC c).corners) ((fullC c).details.getD k []) (16^((fullC c).steps.toNat - 1 - k)))=(c.level k).step (detE ((c.level k).rules c.corners) (c.details.getD k []) (16^(c.steps.toNat - 1 - k)))
  rw [det_new,det_new,ih]
  congr 1
  refine List.ext_getElem? fun i=> ?_
  rw [List.getElem?_mapIdx,List.getElem?_mapIdx]
  cases he:(edgesE (c.level k).t)[i]? with
  | none=>rfl
  | some e=>
   simp only [Option.map_some,Option.some.injEq]
   unfold newE
   rw [full_dtl (by omega) (List.getElem?_eq_some_iff.1 he).1,ih]
   rfl
theorem full_right {c:Ctl} (h:errC c=0) (hb:NoBack c.tris):errC (fullC c)=0:=by
 have hR:=right_of h
 obtain ⟨h1,h2,h3,h4,h5,h6⟩:=right_iff.1 h
 have hlen:(fullC c).details.length=c.steps.toNat:=by show (List.map _ _).length=_;rw [List.length_map,List.length_range]
 refine right_iff.2 ⟨?_,h2,h3,h4,?_,?_⟩
 ·unfold argC at h1⊢
  simp only [Bool.or_eq_false_iff,decide_eq_false_iff_not] at h1⊢
  refine ⟨h1.1,?_⟩
  rw [hlen]
  have e:(fullC c).steps=c.steps:=rfl
  have:=hR.st
  rw [e]
  omega
 ·unfold manyC at h5⊢
  simp only [Bool.or_eq_false_iff] at h5⊢
  refine ⟨many_of fun k d hd=> ?_,h5.2⟩
  obtain ⟨k',hk',rfl⟩:=List.mem_map.1 (List.mem_of_getElem? hd)
  have hd:((List.range c.steps.toNat).map (fullD c))[k]? =some (fullD c k'):=hd
  have hk:k < c.steps.toNat:=by
   have:=(List.getElem?_eq_some_iff.1 hd).1
   rwa [List.length_map,List.length_range] at this
  rw [List.getElem?_map,List.getElem?_range hk] at hd
  have hd:=Option.some.inj hd
  rw [←hd]
  show (List.mapIdx _ _).length≤4^k*(3*c.tris.length / 2)
  rw [List.length_mapIdx]
  have h0:=level_edges hR hb 0
  have hk2:=level_edges hR hb k
  have e0:2*(edgesE c.tris).length=3*c.tris.length:=by
   have:2*(edgesE c.tris).length=3*(4^0*c.tris.length):=h0
   omega
  have e1:3*c.tris.length / 2=(edgesE c.tris).length:=by omega
  rw [e1]
  have e2:2*(edgesE (c.level k).t).length=2*(4^k*(edgesE c.tris).length):=by
   rw [hk2,Nat.mul_left_comm 2,e0,Nat.mul_left_comm]
  omega
 ·unfold farC at h6⊢
  simp only [Bool.or_eq_false_iff] at h6⊢
  refine ⟨h6.1,List.any_eq_false.2 fun d hd=> ?_⟩
  obtain ⟨k,_,rfl⟩:=List.mem_map.1 hd
  rw [Bool.not_eq_true]
  refine outR_of fun p hp=> ?_
  obtain ⟨i,hi,rfl⟩:=List.mem_mapIdx.1 hp
  exact dtl_rng hR k i
theorem full_fin {c:Ctl} (h:errC c=0) (hb:NoBack c.tris):finP (fullC c)=finP c∧finT (fullC c)=finT c:=by
 have h2:=full_right h hb
 have hl:=full_lev c c.steps.toNat (Nat.le_refl _)
 have hs:(fullC c).steps=c.steps:=rfl
 unfold finP finT
 rw [if_pos h,if_pos h,if_pos h2,if_pos h2,hs,hl]
 exact ⟨rfl,rfl⟩
end Go.Proofs.YtmemofonebphfaaGreat
namespace Go.Proofs.YtmemofonebphfaaGreat
open Go.RowKit Go.Sort
theorem many_lev {c0 c:Ctl} (hl:Like c0 c) (h:errC c=0) (hb:NoBack c.tris):∀k:Nat,anaMany c0 k=((c.level k).p.length,(edgesE (c.level k).t).length)
 | 0=>by
  have hR:=right_of h
  have h0:2*(edgesE c.tris).length=3*(4^0*c.tris.length):=level_edges hR hb 0
  have hz:(c.level 0).p.length=c.points.length:=by show (List.map _ _).length=_;rw [List.length_map]
  show (c0.points.length,3*c0.tris.length / 2)=_
  rw [hl.n,hl.t,hz]
  refine Prod.ext rfl ?_
  show 3*c.tris.length / 2=(edgesE c.tris).length
  omega
 | k+1=>by
  have hR:=right_of h
  have ih:=many_lev hl h hb k
  have h0:=level_edges hR hb k
  have h1:=level_edges hR hb (k+1)
  show ((anaMany c0 k).1+(anaMany c0 k).2,4*(anaMany c0 k).2)=_
  rw [ih]
  refine Prod.ext ?_ ?_
  ·show (c.level k).p.length+(edgesE (c.level k).t).length=_
   rw [Ctl.level_p]
  ·show 4*(edgesE (c.level k).t).length=_
   rw [Nat.pow_succ] at h1
   have e:3*(4^k*4*c.tris.length)=4*(3*(4^k*c.tris.length)):=by
    rw [Nat.mul_comm (4^k) 4,Nat.mul_assoc,Nat.mul_left_comm]
   omega
theorem zero_right {c0 c:Ctl} (hl:Like c0 c) (h:errC c=0):errC (anaZ c0)=0:=by
 have e:anaZ c0={bareC c with points:=List.replicate c.points.length (0,0,0)}:=by
  unfold anaZ bareC
  rw [hl.n,hl.t,hl.r,hl.o,hl.s]
 rw [e]
 refine points_right (bare_right h) List.length_replicate fun p hp=> ?_
 have:p=(0,0,0):=(List.mem_replicate.1 hp).2
 subst this
 have hs:=pow16_le (show c.steps.toNat≤4 by have:=(right_of h).st;omega)
 have hd:(0:Int)≤2097151 / 16^c.steps.toNat:=Int.ediv_nonneg (by decide) (by omega)
 exact ⟨⟨Int.le_refl 0,hd⟩,⟨Int.le_refl 0,hd⟩,Int.le_refl 0,hd⟩
theorem ana_law {c0 c:Ctl} (hl:Like c0 c) (h:errC c=0) (hb:NoBack c.tris):anaE c0 (finP c)=0∧anaR c0 (finP c)=fullC c:=by
 have he:anaE c0 (finP c)=0:=by
  unfold anaE
  have hm:=many_lev hl h hb c.steps.toNat
  have hfl:(finP c).length=(c.level c.steps.toNat).p.length:=by unfold finP;rw [if_pos h]
  rw [if_neg (by rw [zero_right hl h];simp),hl.s,hm,if_neg (by rw [hfl];simp),ana_whole hl h,if_neg (by simp),ana_out hl h]
  exact full_right h hb
 refine ⟨he,?_⟩
 unfold anaR
 rw [if_pos he,ana_out hl h]
end Go.Proofs.YtmemofonebphfaaGreat
namespace Go.Proofs.YtmemofonebphfaaGreat
open Go.RowKit Go.Sort
structure SamT (L M:Lev):Prop where
 p:L.p.length=M.p.length
 t:L.t=M.t
 c:L.cr=M.cr
theorem SamT.step {L M:Lev} (h:SamT L M) {a b:List Pt} (ha:a.length=b.length):SamT (L.step a) (M.step b):=by
 refine ⟨?_,?_,?_⟩
 ·show (L.p++a).length=(M.p++b).length
  rw [List.length_append,List.length_append,h.p,ha]
 ·show stepT (midE L.t L.p.length) L.t=stepT (midE M.t M.p.length) M.t
  rw [h.t,h.p]
 ·show setE L.halved=setE M.halved
  unfold Lev.halved
  rw [h.t,h.p,h.c]
theorem SamT.lvr {L M:Lev} (h:SamT L M) (hM:LvR M):LvR L:=by
 obtain ⟨h1,h2,h3⟩:=h
 obtain ⟨p,t,c⟩:=L
 obtain ⟨p',t',c'⟩:=M
 simp only at h1 h2 h3
 subst h2
 subst h3
 exact ⟨by have:=hM.cls;simp only at this⊢;rw [h1];exact this,hM.calm,hM.crE,hM.crS,hM.crN⟩
theorem SamT.lvb {L M:Lev} {co:List Int} (h:SamT L M) (hM:LevB M co):LevB L co:=
 ⟨by rw [h.p];exact hM.p,by rw [h.t];exact hM.t,by rw [h.c];exact hM.c,hM.o⟩
theorem like_zero (c:Ctl):Like c (anaZ c):=⟨by simp [anaZ],rfl,rfl,rfl,rfl⟩
theorem many_le (c:Ctl) (k:Nat):∀m:Nat,(anaMany c k).1≤(anaMany c (k+m)).1
 | 0=>Nat.le_refl _
 | m+1=>Nat.le_trans (many_le c k m) (Nat.le_add_right _ _)
section
variable {c:Ctl} {fine:List Pt} (h:errC (anaZ c)=0) (hb:NoBack c.tris) (hf:fine.length=(anaMany c c.steps.toNat).1)
include h hb hf
theorem ana_sam:∀k:Nat,k≤c.steps.toNat→SamT (anaLev c fine k) ((anaZ c).level k)
 | 0,_=>by
  have hm:=many_le c 0 c.steps.toNat
  rw [Nat.zero_add,←hf] at hm
  have hm:c.points.length≤fine.length:=hm
  refine ⟨?_,rfl,rfl⟩
  show (List.map _ (anaPts c fine)).length=(List.map _ (List.replicate c.points.length (0,0,0))).length
  unfold anaPts
  rw [List.length_map,List.length_map,List.length_map,List.length_take,List.length_replicate]
  omega
 | k+1,hk=>by
  have ih:=ana_sam k (by omega)
  refine ih.step ?_
  have hm:=many_lev (like_zero c) h hb
  have h1:=hm k
  have h2:=many_le c (k+1) (c.steps.toNat - (k+1))
  rw [show k+1+(c.steps.toNat - (k+1))=c.steps.toNat by omega,←hf] at h2
  have h3:(anaMany c (k+1)).1=(anaMany c k).1+(anaMany c k).2:=rfl
  rw [h1] at h3
  dsimp only at h3
  rw [detE_len,rules_len,List.length_take,List.length_drop,ih.p,ih.t]
  omega
theorem ana_lvr {k:Nat} (hk:k≤c.steps.toNat):LvR (anaLev c fine k):=(ana_sam h hb hf k hk).lvr (Ctl.level_right (right_of h) hb k)
theorem ana_lvb (hB:CtlB c) {k:Nat} (hk:k≤c.steps.toNat):LevB (anaLev c fine k) c.corners:=by
 have hB2:CtlB (anaZ c):=⟨by simpa [anaZ] using hB.p,hB.t,hB.cr,hB.o,by simp [anaZ],by simp [anaZ]⟩
 exact (ana_sam h hb hf k hk).lvb (level_small (right_of h) hb hB2 hk)
theorem ana_num {k:Nat} (hk:k≤c.steps.toNat):anaMany c k=((anaLev c fine k).p.length,(edgesE (anaLev c fine k).t).length):=by
 rw [many_lev (like_zero c) h hb k,(ana_sam h hb hf k hk).p,(ana_sam h hb hf k hk).t]
theorem ana_in {k:Nat} (hk:k < c.steps.toNat):(anaLev c fine k).p.length+(edgesE (anaLev c fine k).t).length≤fine.length:=by
 have h2:=many_le c (k+1) (c.steps.toNat - (k+1))
 rw [show k+1+(c.steps.toNat - (k+1))=c.steps.toNat by omega,←hf] at h2
 have h3:(anaMany c (k+1)).1=(anaMany c k).1+(anaMany c k).2:=rfl
 rw [ana_num h hb hf (show k≤c.steps.toNat by omega)] at h3
 omega
theorem ana_mk {k:Nat} (hk:k < c.steps.toNat):(anaLev c fine k).step (((anaLev c fine k).rules c.corners).mapIdx fun i _=>fine.getD ((anaLev c fine k).p.length+i) (0,0,0))=anaLev c fine (k+1):=by
 have hi:=ana_in h hb hf hk
 show _=(anaLev c fine k).step ((fine.drop (anaLev c fine k).p.length).take (edgesE (anaLev c fine k).t).length)
 congr 1
 have hl:=rules_len (anaLev c fine k) c.corners
 refine List.ext_getElem (by rw [List.length_mapIdx,List.length_take,List.length_drop];omega) fun i h1 h2=> ?_
 rw [List.length_mapIdx] at h1
 rw [List.getElem_mapIdx,List.getElem_take,List.getElem_drop,List.getD_eq_getElem?_getD,List.getElem?_eq_getElem (by omega)]
 rfl
theorem ana_pts_len:(anaPts c fine).length=c.points.length:=by
 have _:=h
 have _:=hb
 have hm:=many_le c 0 c.steps.toNat
 rw [Nat.zero_add,←hf] at hm
 have hm:c.points.length≤fine.length:=hm
 unfold anaPts
 rw [List.length_map,List.length_take]
 omega
end
theorem dif_len (c:Ctl) (fine:List Pt) (k:Nat):(anaDif c fine k).length=(edgesE (anaLev c fine k).t).length:=by
 unfold anaDif
 rw [List.length_mapIdx,rules_len]
theorem det_len9 (c:Ctl) (fine:List Pt) (k:Nat):(anaDet c fine k).length=(edgesE (anaLev c fine k).t).length:=by
 unfold anaDet
 rw [List.length_map,dif_len]
theorem dif_at {c:Ctl} {fine:List Pt} {k i:Nat} {q f:Pt} (hq:((anaLev c fine k).rules c.corners)[i]? =some q) (hf:fine[(anaLev c fine k).p.length+i]? =some f):(anaDif c fine k)[i]? =some (plusP f q (-1)):=by
 unfold anaDif
 rw [List.getElem?_mapIdx,hq,List.getD_eq_getElem?_getD,hf]
 rfl
theorem det_at {c:Ctl} {fine:List Pt} {k i:Nat} {d:Pt} (hd:(anaDif c fine k)[i]? =some d):(anaDet c fine k)[i]? =some (overP d (16^(c.steps.toNat - 1 - k))):=by
 unfold anaDet
 rw [List.getElem?_map,hd]
 rfl
def wholeP (c:Ctl) (fine:List Pt) (i:Nat):Bool:=(fine.take i).all fun p=>overB p (16^c.steps.toNat)
def wholeK (c:Ctl) (fine:List Pt) (k i:Nat):Bool:=(wholeP c fine c.points.length && (List.range k).all fun k=>(anaDif c fine k).all fun p=>overB p (16^(c.steps.toNat - 1 - k))) && ((anaDif c fine k).take i).all fun p=>overB p (16^(c.steps.toNat - 1 - k))
theorem wholeP_zero (c:Ctl) (fine:List Pt):wholeP c fine 0=true:=by unfold wholeP;simp
theorem wholeP_succ {c:Ctl} {fine:List Pt} {i:Nat} {f:Pt} (hf:fine[i]? =some f):wholeP c fine (i+1)=(wholeP c fine i && overB f (16^c.steps.toNat)):=by
 unfold wholeP
 rw [List.take_add_one,hf,List.all_append]
 simp
theorem wholeK_zero (c:Ctl) (fine:List Pt):wholeK c fine 0 0=wholeP c fine c.points.length:=by unfold wholeK;simp
theorem wholeK_succ {c:Ctl} {fine:List Pt} {k i:Nat} {d:Pt} (hd:(anaDif c fine k)[i]? =some d):wholeK c fine k (i+1)=(wholeK c fine k i && overB d (16^(c.steps.toNat - 1 - k))):=by
 unfold wholeK
 rw [List.take_add_one,hd,List.all_append,←Bool.and_assoc]
 simp
theorem wholeK_next {c:Ctl} {fine:List Pt} {k:Nat}:wholeK c fine (k+1) 0=wholeK c fine k (edgesE (anaLev c fine k).t).length:=by
 unfold wholeK
 rw [←dif_len,List.take_length,List.range_succ (n:=k),List.all_append,List.take_zero,←Bool.and_assoc]
 simp
theorem wholeK_end (c:Ctl) (fine:List Pt):wholeK c fine c.steps.toNat 0=anaWhole c fine:=by
 unfold wholeK anaWhole wholeP
 simp
theorem pts_at {c:Ctl} {fine:List Pt} {i:Nat} {f:Pt} (hi:i < c.points.length) (hf:fine[i]? =some f):(anaPts c fine)[i]? =some (overP f (16^c.steps.toNat)):=by
 unfold anaPts
 rw [List.getElem?_map,List.getElem?_take_of_lt hi,hf]
 rfl
end Go.Proofs.YtmemofonebphfaaGreat
namespace Go.Proofs.YtmemofonebphfaaGreat
open Go.RowKit Go.Sort
def lastC (c:Ctl) (D:List Pt):Ctl:={c with details:=(List.range (c.steps.toNat - 1)).map (fullD c)++ [D]}
def lastN (c:Ctl):Nat:=(edgesE (c.level (c.steps.toNat - 1)).t).length
def lastB (c:Ctl):Nat:=(c.level (c.steps.toNat - 1)).p.length
def smallD (n:Int) (D:List Pt):Prop:=∀p∈D,(-n≤p.1∧p.1≤n)∧(-n≤p.2.1∧p.2.1≤n)∧ -n≤p.2.2∧p.2.2≤n
theorem lastC_len {c:Ctl} {D:List Pt} (hs:0 < c.steps.toNat):(lastC c D).details.length=c.steps.toNat:=by
 show ((List.range (c.steps.toNat - 1)).map (fullD c)++ [D]).length=_
 rw [List.length_append,List.length_map,List.length_range]
 show c.steps.toNat - 1+1=_
 omega
theorem lastC_get {c:Ctl} {D:List Pt} {k:Nat} (hk:k < c.steps.toNat - 1):(lastC c D).details.getD k []=fullD c k:=by
 show ((List.range (c.steps.toNat - 1)).map (fullD c)++ [D]).getD k []=_
 rw [List.getD_eq_getElem?_getD,List.getElem?_append_left (by rw [List.length_map,List.length_range];exact hk),List.getElem?_map,List.getElem?_range hk]
 rfl
theorem lastC_top {c:Ctl} {D:List Pt} (_hs:0 < c.steps.toNat):(lastC c D).details.getD (c.steps.toNat - 1) []=D:=by
 show ((List.range (c.steps.toNat - 1)).map (fullD c)++ [D]).getD (c.steps.toNat - 1) []=_
 rw [List.getD_eq_getElem?_getD,List.getElem?_append_right (by rw [List.length_map,List.length_range];exact Nat.le_refl _),List.length_map,List.length_range,Nat.sub_self]
 rfl
theorem lastC_lev {c:Ctl} {D:List Pt}:∀k:Nat,k≤c.steps.toNat - 1→(lastC c D).level k=c.level k
 | 0,_=>rfl
 | k+1,hk=>by
  rw [←full_lev c (k+1) (by omega)]
  have ih:=lastC_lev (c:=c) (D:=D) k (by omega)
  rw [←full_lev c k (by omega)] at ih
  show ((lastC c D).level k).step (detE (((lastC c D).level k).rules c.corners) ((lastC c D).details.getD k []) (16^(c.steps.toNat - 1 - k)))=((fullC c).level k).step (detE (((fullC c).level k).rules c.corners) ((fullC c).details.getD k []) (16^(c.steps.toNat - 1 - k)))
  rw [ih,lastC_get (c:=c) (D:=D) (k:=k) (by omega),full_get (c:=c) (k:=k) (by omega)]
theorem lastC_full {c:Ctl} (hs:0 < c.steps.toNat):lastC c (fullD c (c.steps.toNat - 1))=fullC c:=by
 unfold lastC fullC
 have e:List.range c.steps.toNat=List.range (c.steps.toNat - 1)++ [c.steps.toNat - 1]:=by
  rw [←List.range_succ]
  congr 1
  omega
 rw [e,List.map_append]
 rfl
theorem lastC_right {c:Ctl} {D:List Pt} (h:errC c=0) (hb:NoBack c.tris) (hs:0 < c.steps.toNat) (hD:D.length≤lastN c) (hr:smallD 2097151 D):errC (lastC c D)=0:=by
 have hR:=right_of h
 obtain ⟨h1,h2,h3,h4,h5,h6⟩:=right_iff.1 h
 have hlen:=lastC_len (c:=c) (D:=D) hs
 refine right_iff.2 ⟨?_,h2,h3,h4,?_,?_⟩
 ·unfold argC at h1⊢
  simp only [Bool.or_eq_false_iff,decide_eq_false_iff_not] at h1⊢
  refine ⟨h1.1,?_⟩
  rw [hlen]
  have e:(lastC c D).steps=c.steps:=rfl
  have:=hR.st
  rw [e]
  omega
 ·unfold manyC at h5⊢
  simp only [Bool.or_eq_false_iff] at h5⊢
  refine ⟨many_of fun k d hd=> ?_,h5.2⟩
  have hk:k < c.steps.toNat:=by
   have:=(List.getElem?_eq_some_iff.1 hd).1
   rw [hlen] at this
   exact this
  have hd2:d=(lastC c D).details.getD k []:=by rw [List.getD_eq_getElem?_getD,hd];rfl
  have hle:d.length≤(edgesE (c.level k).t).length:=by
   rcases Nat.lt_or_ge k (c.steps.toNat - 1) with hlt | hge
   ·rw [hd2,lastC_get hlt]
    show (List.mapIdx _ _).length≤_
    rw [List.length_mapIdx]
    exact Nat.le_refl _
   ·obtain rfl:k=c.steps.toNat - 1:=by omega
    rw [hd2,lastC_top hs]
    exact hD
  refine Nat.le_trans hle ?_
  show _≤4^k*(3*c.tris.length / 2)
  have h0:=level_edges hR hb 0
  have hk2:=level_edges hR hb k
  have e0:2*(edgesE c.tris).length=3*c.tris.length:=by
   have:2*(edgesE c.tris).length=3*(4^0*c.tris.length):=h0
   omega
  have e1:3*c.tris.length / 2=(edgesE c.tris).length:=by omega
  rw [e1]
  have e2:2*(edgesE (c.level k).t).length=2*(4^k*(edgesE c.tris).length):=by
   rw [hk2,Nat.mul_left_comm 2,e0,Nat.mul_left_comm]
  omega
 ·unfold farC at h6⊢
  simp only [Bool.or_eq_false_iff] at h6⊢
  refine ⟨h6.1,List.any_eq_false.2 fun d hd=> ?_⟩
  rw [Bool.not_eq_true]
  refine outR_of fun p hp=> ?_
  have hd:d∈(List.range (c.steps.toNat - 1)).map (fullD c)++ [D]:=hd
  rcases List.mem_append.1 hd with hd | hd
  ·obtain ⟨k,_,rfl⟩:=List.mem_map.1 hd
   obtain ⟨i,hi,rfl⟩:=List.mem_mapIdx.1 hp
   exact dtl_rng hR k i
  ·obtain rfl:=List.mem_singleton.1 hd
   exact hr p hp
theorem lastC_fin {c:Ctl} {D:List Pt} (hs:0 < c.steps.toNat) (h:errC (lastC c D)=0):finP (lastC c D)=(c.level (c.steps.toNat - 1)).p++(edgesE (c.level (c.steps.toNat - 1)).t).mapIdx fun i e=>plusP (ruleE (c.level (c.steps.toNat - 1)).p (c.level (c.steps.toNat - 1)).t (c.level (c.steps.toNat - 1)).cr c.corners e.1 e.2) (D.getD i (0,0,0)) 1:=by
 have hst:(lastC c D).steps=c.steps:=rfl
 have hco:(lastC c D).corners=c.corners:=rfl
 have hl:=level_new (lastC c D) (c.steps.toNat - 1)
 rw [show c.steps.toNat - 1+1=c.steps.toNat by omega] at hl
 unfold finP
 rw [if_pos h,hst,hl,lastC_lev _ (Nat.le_refl _)]
 congr 1
 refine List.ext_getElem? fun i=> ?_
 rw [List.getElem?_mapIdx,List.getElem?_mapIdx]
 congr 1
 funext e
 unfold newE dtl
 rw [lastC_lev _ (Nat.le_refl _),lastC_top hs,hst,hco,Nat.sub_self]
 rfl
theorem lastC_move {c:Ctl} {D:List Pt} {j:Nat} {x v:Pt} (hs:0 < c.steps.toNat) (h:errC (lastC c D)=0) (hD:D.length=lastN c) (hj:j < lastN c) (hx:D[j]? =some x) (h':errC (lastC c (D.set j (x.1+v.1,x.2.1+v.2.1,x.2.2+v.2.2)))=0):
  ∃p,(finP (lastC c D))[lastB c+j]? =some p∧(finP (lastC c D)).set (lastB c+j) (wrap64 (p.1+v.1),wrap64 (p.2.1+v.2.1),wrap64 (p.2.2+v.2.2))=finP (lastC c (D.set j (x.1+v.1,x.2.1+v.2.1,x.2.2+v.2.2))):=by
 rw [lastC_fin hs h,lastC_fin hs h']
 unfold lastN at hD hj
 unfold lastB
 obtain ⟨e,he⟩:∃e,(edgesE (c.level (c.steps.toNat - 1)).t)[j]? =some e:=⟨_,List.getElem?_eq_getElem hj⟩
 obtain ⟨P,hP⟩:∃P,P=(c.level (c.steps.toNat - 1)).p:=⟨_,rfl⟩
 obtain ⟨r,hr⟩:∃r:E2→Pt,r=fun e=>ruleE (c.level (c.steps.toNat - 1)).p (c.level (c.steps.toNat - 1)).t (c.level (c.steps.toNat - 1)).cr c.corners e.1 e.2:=⟨_,rfl⟩
 have hg:∀D:List Pt,((edgesE (c.level (c.steps.toNat - 1)).t).mapIdx fun i e=>plusP (ruleE (c.level (c.steps.toNat - 1)).p (c.level (c.steps.toNat - 1)).t (c.level (c.steps.toNat - 1)).cr c.corners e.1 e.2) (D.getD i (0,0,0)) 1)=(edgesE (c.level (c.steps.toNat - 1)).t).mapIdx fun i e=>plusP (r e) (D.getD i (0,0,0)) 1:=fun D=>by rw [hr]
 rw [hg,hg,←hP]
 have hdj:D.getD j (0,0,0)=x:=by rw [List.getD_eq_getElem?_getD,hx];rfl
 refine ⟨plusP (r e) x 1,?_,?_⟩
 ·rw [List.getElem?_append_right (by omega),Nat.add_sub_cancel_left,List.getElem?_mapIdx,he]
  show some (plusP (r e) (D.getD j (0,0,0)) 1)=_
  rw [hdj]
 ·rw [List.set_append_right _ _ (by omega),Nat.add_sub_cancel_left]
  congr 1
  refine List.ext_getElem? fun i=> ?_
  rw [List.getElem?_set,List.getElem?_mapIdx,List.getElem?_mapIdx,List.length_mapIdx]
  by_cases hi:j=i
  ·subst hi
   rw [if_pos rfl,if_pos hj,he]
   show some _=some (plusP (r e) ((D.set j _).getD j (0,0,0)) 1)
   have hs2:(D.set j (x.1+v.1,x.2.1+v.2.1,x.2.2+v.2.2)).getD j (0,0,0)=(x.1+v.1,x.2.1+v.2.1,x.2.2+v.2.2):=by
    rw [List.getD_eq_getElem?_getD,List.getElem?_set,if_pos rfl,if_pos (by omega)]
    rfl
   rw [hs2]
   unfold plusP
   simp only [Int.one_mul,wrap64_add_l,Int.add_assoc]
  ·rw [if_neg hi]
   cases hei:(edgesE (c.level (c.steps.toNat - 1)).t)[i]? with
   | none=>rfl
   | some u=>
    show some (plusP (r u) (D.getD i (0,0,0)) 1)=some (plusP (r u) ((D.set j _).getD i (0,0,0)) 1)
    have:(D.set j (x.1+v.1,x.2.1+v.2.1,x.2.2+v.2.2)).getD i (0,0,0)=D.getD i (0,0,0):=by
     rw [List.getD_eq_getElem?_getD,List.getElem?_set,if_neg hi,List.getD_eq_getElem?_getD]
    rw [this]
theorem small_set {n m:Int} {D:List Pt} {j:Nat} {x v:Pt} (h:smallD n D) (hx:D[j]? =some x) (hv:(-m≤v.1∧v.1≤m)∧(-m≤v.2.1∧v.2.1≤m)∧ -m≤v.2.2∧v.2.2≤m) (_hm:0≤m):smallD (n+m) (D.set j (x.1+v.1,x.2.1+v.2.1,x.2.2+v.2.2)):=by
 intro p hp
 have h0:=h x (List.mem_of_getElem? hx)
 rcases List.mem_or_eq_of_mem_set hp with hp | rfl
 ·have:=h p hp
  omega
 ·simp only
  omega
theorem last_half {c:Ctl} (h:errC c=0) (hb:NoBack c.tris) (hs:0 < c.steps.toNat):(finP c).length=lastB c+lastN c∧c.points.length≤lastB c∧(finP c).length - c.points.length+1≤2*lastN c+(if lastN c=0 then 1 else 0):=by
 have hR:=right_of h
 have hl:∀k,k < c.steps.toNat→(c.level (k+1)).p.length - c.points.length≤2*(edgesE (c.level k).t).length - (if (edgesE (c.level k).t).length=0 then 0 else 1)∧c.points.length≤(c.level k).p.length:=by
  intro k
  induction k with
  | zero=>
   intro _
   have hz:(c.level 0).p.length=c.points.length:=by show (List.map _ _).length=_;rw [List.length_map]
   have h1:=Ctl.level_p c 0
   rw [h1,hz]
   refine ⟨?_,Nat.le_refl _⟩
   split <;>omega
  | succ k ih=>
   intro hk
   obtain ⟨h1,h2⟩:=ih (by omega)
   have h3:=Ctl.level_p c k
   have h4:=Ctl.level_p c (k+1)
   have e0:=level_edges hR hb k
   have e1:=level_edges hR hb (k+1)
   rw [Nat.pow_succ] at e1
   have e:3*(4^k*4*c.tris.length)=4*(3*(4^k*c.tris.length)):=by
    rw [Nat.mul_comm (4^k) 4,Nat.mul_assoc,Nat.mul_left_comm]
   have e5:(edgesE (c.level (k+1)).t).length=4*(edgesE (c.level k).t).length:=by omega
   refine ⟨?_,by omega⟩
   rw [h4,e5]
   split at h1 <;>split <;>omega
 have h1:=Ctl.level_p c (c.steps.toNat - 1)
 rw [show c.steps.toNat - 1+1=c.steps.toNat by omega] at h1
 have hf:(finP c).length=(c.level c.steps.toNat).p.length:=by unfold finP;rw [if_pos h]
 obtain ⟨h2,h3⟩:=hl (c.steps.toNat - 1) (by omega)
 rw [show c.steps.toNat - 1+1=c.steps.toNat by omega] at h2
 unfold lastB lastN
 refine ⟨by rw [hf,h1],h3,?_⟩
 rw [hf]
 split at h2 <;>split <;>omega
theorem fin_zero {c:Ctl} (h:errC c=0) (hs:c.steps.toNat=0):(finP c).length=c.points.length:=by
 unfold finP
 rw [if_pos h,hs]
 show (List.map _ _).length=_
 rw [List.length_map]
theorem full_small {s:ShpC} {k:Nat}:smallD 19 (fullD (madeC s) k):=by
 intro p hp
 obtain ⟨i,_,rfl⟩:=List.mem_mapIdx.1 hp
 have hd:∀d∈(madeC s).details,∀p∈d,(-19≤p.1∧p.1≤19)∧(-19≤p.2.1∧p.2.1≤19)∧ -19≤p.2.2∧p.2.2≤(19:Int):=by
  intro d hd p hp
  have hd:d∈(if s.details.length=0 then [] else (List.range (stM s)).map (detM s)):=hd
  split at hd
  ·cases hd
  ·obtain ⟨k,_,rfl⟩:=List.mem_map.1 hd
   obtain ⟨i,_,rfl⟩:=List.mem_map.1 hp
   have key:∀x:Int,-19≤x.tmod 20∧x.tmod 20≤19:=fun x=>by
    have h1:=Int.tmod_lt_of_pos x (show (0:Int) < 20 by decide)
    have h2:=Int.lt_tmod_of_pos x (show (0:Int) < 20 by decide)
    omega
   exact ⟨key _,key _,key _⟩
 show (-19≤(dtl (madeC s) k i).1∧_)∧_
 unfold dtl
 rw [List.getD_eq_getElem?_getD,List.getD_eq_getElem?_getD]
 cases hk:(madeC s).details[k]? with
 | none=>simp
 | some d=>
  simp only [Option.getD_some]
  cases hi:d[i]? with
  | none=>simp
  | some x=>exact hd d (List.mem_of_getElem? hk) x (List.mem_of_getElem? hi)
end Go.Proofs.YtmemofonebphfaaGreat
namespace Go.Proofs.YtmemofonebphfaaGreat
open Go.RowKit Go.Sort
def AnaI (c:Ctl) (i:Nat) (P:List Pt):Prop:=(c.steps.toNat=0∧P=finP c)∨(0 < c.steps.toNat∧∃D,P=finP (lastC c D)∧D.length=lastN c∧smallD (19+50*i) D)
theorem small_mono {n m:Int} {D:List Pt} (h:smallD n D) (hm:n≤m):smallD m D:=fun p hp=>by have:=h p hp;omega
theorem fullD_len (c:Ctl) (k:Nat):(fullD c k).length=(edgesE (c.level k).t).length:=by unfold fullD;rw [List.length_mapIdx]
theorem ana_i0 (s:ShpC):AnaI (madeC s) 0 (finP (madeC s)):=by
 rcases Nat.eq_zero_or_pos (madeC s).steps.toNat with h | h
 ·exact .inl ⟨h,rfl⟩
 ·refine .inr ⟨h,fullD (madeC s) ((madeC s).steps.toNat - 1),?_,fullD_len _ _,small_mono full_small (by omega)⟩
  rw [lastC_full h]
  exact (full_fin (made_right s) (made_back s)).1.symm
section
variable {c:Ctl} {i:Nat} {P:List Pt} (h:errC c=0) (hb:NoBack c.tris)
include h hb
theorem ana_right {D:List Pt} (hi:i≤10) (hs:0 < c.steps.toNat) (hD:D.length=lastN c) (hd:smallD (19+50*i) D):errC (lastC c D)=0:=lastC_right h hb hs (by omega) (small_mono hd (by omega))
theorem ana_len (hI:AnaI c i P) (hi:i≤10):P.length=(finP c).length:=by
 rcases hI with ⟨_,rfl⟩ | ⟨hs,D,rfl,hD,hd⟩
 ·rfl
 ·have h1:=ana_right h hb hi hs hD hd
  rw [lastC_fin hs h1,List.length_append,List.length_mapIdx,(last_half h hb hs).1]
  rfl
theorem ana_step (hI:AnaI c i P) (hi:i < 10) (hlt:c.points.length < P.length) {r:Nat} (hr:r < (P.length - c.points.length+1) / 2) {v:Pt} (hv:(-49≤v.1∧v.1≤49)∧(-49≤v.2.1∧v.2.1≤49)∧ -49≤v.2.2∧v.2.2≤49):
  ∃p,P[P.length - 1 - r]? =some p∧AnaI c (i+1) (P.set (P.length - 1 - r) (wrap64 (p.1+v.1),wrap64 (p.2.1+v.2.1),wrap64 (p.2.2+v.2.2))):=by
 have hl:=ana_len h hb hI (by omega)
 rcases hI with ⟨h0,rfl⟩ | ⟨hs,D,rfl,hD,hd⟩
 ·rw [fin_zero h h0] at hlt
  omega
 ·obtain ⟨h1,h2,h3⟩:=last_half h hb hs
  have hn:lastN c≠0:=fun e=>by rw [if_pos e] at h3;omega
  rw [if_neg hn] at h3
  obtain ⟨j,hj⟩:∃j,j=lastN c - 1 - r:=⟨_,rfl⟩
  have hjl:j < lastN c:=by omega
  obtain ⟨x,hx⟩:∃x,D[j]? =some x:=⟨_,List.getElem?_eq_getElem (by omega)⟩
  have hd2:=small_set hd hx (m:=49) hv (by omega)
  have hd3:smallD (19+50*((i+1:Nat):Int)) (D.set j (x.1+v.1,x.2.1+v.2.1,x.2.2+v.2.2)):=small_mono hd2 (by omega)
  have hD2:(D.set j (x.1+v.1,x.2.1+v.2.1,x.2.2+v.2.2)).length=lastN c:=by rw [List.length_set];exact hD
  obtain ⟨p,hp1,hp2⟩:=lastC_move (v:=v) hs (ana_right h hb (by omega) hs hD hd) hD hjl hx (ana_right h hb (by omega) hs hD2 hd3)
  have hk:(finP (lastC c D)).length - 1 - r=lastB c+j:=by omega
  rw [hk]
  exact ⟨p,hp1, .inr ⟨hs,_,hp2,hD2,hd3⟩⟩
theorem ana_end (hB:CtlB c) (hI:AnaI c i P) (hi:i≤10):∃R:Ctl,anaE (anaZ c) P=0∧anaR (anaZ c) P=R∧errC R=0∧finP R=P∧NoBack R.tris∧CtlB R∧fits R.steps∧R.points=c.points∧R.details.length=c.steps.toNat∧R.steps=c.steps:=by
 have key:∀c':Ctl,errC c'=0→c'.points=c.points→c'.tris=c.tris→c'.creases=c.creases→c'.corners=c.corners→c'.steps=c.steps→(∃R:Ctl,anaE (anaZ c) (finP c')=0∧anaR (anaZ c) (finP c')=R∧errC R=0∧finP R=finP c'∧NoBack R.tris∧CtlB R∧fits R.steps∧R.points=c.points∧R.details.length=c.steps.toNat∧R.steps=c.steps):=by
  intro c' h' e1 e2 e3 e4 e5
  have hb':NoBack c'.tris:=by rw [e2];exact hb
  have hl:Like (anaZ c) c':=⟨by rw [e1];simp [anaZ],e2.symm,e3.symm,e4.symm,e5.symm⟩
  obtain ⟨a1,a2⟩:=ana_law hl h' hb'
  have hf:=full_right h' hb'
  have hst:=(right_of h').st
  have p1:c'.points.length≤100000:=by rw [e1];exact hB.p
  have p2:c'.tris.length≤100000:=by rw [e2];exact hB.t
  have p3:c'.creases.length≤100000:=by rw [e3];exact hB.cr
  have p4:c'.corners.length≤100000:=by rw [e4];exact hB.o
  refine ⟨fullC c',a1,a2,hf,(full_fin h' hb').1,hb',⟨p1,p2,p3,p4,?_,fun d hd=> ?_⟩,by show fits c'.steps;unfold fits;omega,e1,?_,e5⟩
  ·show (List.map _ _).length≤_
   rw [List.length_map,List.length_range]
   omega
  ·obtain ⟨k,hk,rfl⟩:=List.mem_map.1 hd
   have hk:=List.mem_range.1 hk
   rw [fullD_len]
   have h1:=level_small (right_of h') hb' (c:=c') ⟨p1,p2,p3,p4,by have:=(right_of h').det;omega,fun d hd=> ?_⟩ (k:=k) (by omega)
   ·have h2:=edgesE_le (c'.level k).t
    have h3:=h1.t
    omega
   ·obtain ⟨j,hj⟩:=List.mem_iff_getElem?.1 hd
    have hjl:j < c'.steps.toNat:=by
     have:=(List.getElem?_eq_some_iff.1 hj).1
     have:=(right_of h').det
     omega
    have h4:=det_few (right_of h') hb' hjl hj
    have h5:=level_edges (right_of h') hb' j
    have h6:=level_tri (right_of h') (k:=j) (by omega)
    omega
  ·show (List.map _ _).length=_
   rw [List.length_map,List.length_range,e5]
 rcases hI with ⟨_,rfl⟩ | ⟨hs,D,rfl,hD,hd⟩
 ·exact key c h rfl rfl rfl rfl rfl
 ·exact key (lastC c D) (ana_right h hb hi hs hD hd) rfl rfl rfl rfl rfl
end
end Go.Proofs.YtmemofonebphfaaGreat
