import Derived.Test.YtmemofonebphfaaGreatZ4
import Derived.Test.YtmemofonebphfaaGreatZ28
import Derived.Test.YtmemofonebphfaaGreatZ29
namespace Go.Proofs.YtmemofonebphfaaGreat
open Go.RowKit Go.Sort
theorem zM6 {a b:Nat} (ha:a < 9223372036854775808) (hb:b < 9223372036854775808):bits .or .i64 (a:Int) (b:Int)=((a ||| b:Nat):Int):=by
 have hor:a ||| b < 9223372036854775808:=Nat.or_lt_two_pow (n:=63) ha hb
 have h:(BitVec.ofInt IntKind.i64.bits a ||| BitVec.ofInt IntKind.i64.bits b).toNat=a ||| b:=by
  rw [BitVec.toNat_or]
  show (BitVec.ofInt 64 a).toNat ||| (BitVec.ofInt 64 b).toNat=_
  rw [BitVec.toNat_ofInt,BitVec.toNat_ofInt]
  have ea:((a:Int) % ((2^64:Nat):Int)).toNat=a:=by omega
  have eb:((b:Int) % ((2^64:Nat):Int)).toNat=b:=by omega
  rw [ea,eb]
 show IntKind.i64.wrap ((BitVec.ofInt IntKind.i64.bits a ||| BitVec.ofInt IntKind.i64.bits b).toNat:Nat)=_
 rw [h]
 exact IntWalk.i64_in _ (by omega)
theorem zK4 (bits:Int):∀t∈voxB bits,fitsT t:=fun t ht=>by
 obtain ⟨n,f,hn,hf,_,_,hs⟩:=zEF ht
 obtain ⟨i,j,l,hi,hj,hl,rfl⟩:=zKY hs
 have key:∀m,m < 8→yJ (cor8 (voxC (0,0,0) 1 n) 1 m):=fun m hm=>by
  have:=zJV (o:=(0,0,0)) (s:=1) (B:=3) (by decide) (by decide) (by decide) (by decide) hn hm
  unfold yJ fits
  omega
 exact ⟨key i hi,key j hj,key l hl⟩
theorem zIR {w W:World} {B b o:Nat} {t:Tri} (hB:Below B w W) (hb:b < B) (h:gJ w b o t):gJ W b o t:=by
 obtain ⟨h0,h1,h2,h3,h4,h5,h6,h7,h8⟩:=h
 exact ⟨(hB.cell hb).trans h0,(hB.cell hb).trans h1,(hB.cell hb).trans h2,(hB.cell hb).trans h3,(hB.cell hb).trans h4,(hB.cell hb).trans h5,(hB.cell hb).trans h6,(hB.cell hb).trans h7,(hB.cell hb).trans h8⟩
def lstK (p:List Pt) (q:Pt):Nat→Nat
 | 0=>0
 | k+1=>if p[k]? =some q then k else lstK p q k
theorem zIG {p:List Pt} {q:Pt}:∀{k:Nat},(∃i,i < k∧p[i]? =some q)→p[lstK p q k]? =some q
 | 0,⟨i,hi,_⟩=>absurd hi (by omega)
 | k+1,⟨i,hi,h⟩=>by
  unfold lstK
  split
  ·assumption
  ·rename_i hn
   refine zIG ⟨i,?_,h⟩
   have:i≠k:=fun e=>hn (by rw [←e];exact h)
   omega
theorem zBY {p:List Pt} (hn:p.Nodup) {q:Pt} (hq:q∈p):(posC p q:Int)=(lstK p q p.length:Int):=by
 have h1:=zAC hq
 obtain ⟨i,hi⟩:=List.mem_iff_getElem?.1 hq
 have h2:=zIG (k:=p.length) ⟨i,(List.getElem?_eq_some_iff.1 hi).1,hi⟩
 obtain ⟨l1,g1⟩:=List.getElem?_eq_some_iff.1 h1
 obtain ⟨l2,g2⟩:=List.getElem?_eq_some_iff.1 h2
 have:=(List.getElem_inj hn).1 (g1.trans g2.symm)
 omega
theorem zGL {l:List Pt} (h:Srt ltP l):l.Nodup:=h.imp fun h e=>by rw [e,fJ.irrefl] at h;cases h
def boxJ (p:List Pt) (n:Nat) (t:Tri) (j:Nat):Array Value:=
 #[.int .i64 (if 0 < j then (lstK p (zT t 0) n:Int) else 0), .int .i64 (if 1 < j then (lstK p (zT t 1) n:Int) else 0), .int .i64 (if 2 < j then (lstK p (zT t 2) n:Int) else 0)]
theorem zJ2 (p:List Pt) (n:Nat) (t:Tri) {j:Nat} (hj:j < 3):(boxJ p n t j).setIfInBounds j (.int .i64 (lstK p (zT t j) 0))=boxJ p n t j:=by
 have hc:j=0∨j=1∨j=2:=by omega
 rcases hc with rfl | rfl | rfl <;>simp [boxJ,lstK]
theorem zJ9 (p:List Pt) (n:Nat) (t:Tri) {j:Nat} (hj:j < 3):(boxJ p n t j).setIfInBounds j (.int .i64 (lstK p (zT t j) n))=boxJ p n t (j+1):=by
 have hc:j=0∨j=1∨j=2:=by omega
 rcases hc with rfl | rfl | rfl <;>simp [boxJ]
def BasR (w w':World) (t:List Pt) (n:Nat) (e:Ending):Prop:=
 ∃A c,e= .returned (.tuple #[.slice A t.length c, .int .i64 n])∧Own yF 3 35 w' w.heap.size (.slice A t.length c) t.length t∧Below w.heap.size w w'
set_option maxRecDepth 100000 in
set_option maxHeartbeats 16000000 in
theorem zDG (k b:Int) (hk:k % 4=0) (w:World):Calls Tryz.prog 38 #[.int .i64 k, .int .i64 b] w fun e w'=>BasR w w' tetB 4 e:=by
 have km:=fun W=>yA k 4 (by omega) (by omega) W
 rw [hk] at km
 have HK:=hide km
 clear km hk
 go_enter Tryz.func38,Tryz.ntmps38
 go_wp2_with (go_at_call 17;refine (HK.o _).mono ?_;rintro e w1 ⟨rfl,rfl⟩)
 go_ret2
 exact ⟨_,_,rfl,jK zS 35 _ tetB lr9 (by simp [tetB]),(Below.refl _ _).alloc lr9 _⟩
set_option maxRecDepth 100000 in set_option maxHeartbeats 64000000 in
theorem zLQ (k b:Int) (hb:fits b) (w:World):Calls Tryz.prog 38 #[.int .i64 k, .int .i64 b] w fun e w'=>BasR w w' (qN k b) (kW k b) e:=by
 have km:=fun W=>yA k 4 (by omega) (by omega) W
 have hm1:=Int.emod_nonneg k (show (4:Int)≠0 by omega)
 have hm2:=Int.emod_lt_of_pos k (show (0:Int) < 4 by omega)
 by_cases h0:k % 4=0
 ·have e1:qN k b=tetB:=if_pos h0
  have e2:kW k b=4:=if_pos h0
  rw [e1,e2]
  exact zDG k b h0 w
 by_cases h1:k % 4=1
 ·have e1:qN k b=octB:=by unfold qN;rw [if_neg h0,if_pos h1]
  have e2:kW k b=6:=by unfold kW;rw [if_neg h0,if_pos h1]
  rw [e1,e2]
  rw [h1] at km
  have HK:=hide km
  clear km h0 h1 hm1 hm2 e1 e2
  go_enter Tryz.func38,Tryz.ntmps38
  go_wp2_with (go_at_call 17;refine (HK.o _).mono ?_;rintro e w1 ⟨rfl,rfl⟩)
  go_ret2
  exact ⟨_,_,rfl,jK zS 35 _ octB lr9 (by simp [octB]),(Below.refl _ _).alloc lr9 _⟩
 by_cases h2:k % 4=2
 ·have e1:qN k b=torB:=by unfold qN;rw [if_neg h0,if_neg h1,if_pos h2]
  have e2:kW k b=9:=by unfold kW;rw [if_neg h0,if_neg h1,if_pos h2]
  rw [e1,e2]
  rw [h2] at km
  have HK:=hide km
  clear km h0 h1 h2 hm1 hm2 e1 e2 hb
  go_enter Tryz.func38,Tryz.ntmps38
  go_upto_region 9 with (go_at_call 17;refine (HK.o _).mono ?_;rintro e w1 ⟨rfl,hw⟩;obtain rfl:w=w1:=hw.symm)
  go_loopw [6,7] (fun ov yv wr=>∃y:Nat,y≤3∧yv= .int .i64 y∧Own yF 3 35 wr w.heap.size ov (6*y) ((List.range y).flatMap fun y=>(List.range 3).flatMap (torR y))∧Below w.heap.size w wr) (fun _ yv _=>3 - (intOf yv).toNat)
  case atStart=>exact ⟨0,by omega,rfl,Own.nil,Below.refl _ _⟩
  case round=>
   obtain ⟨y,hy,rfl,hO,hB⟩:=hrel
   obtain ⟨V,rfl⟩:=ex9 (wr)
   by_cases hlt:y < 3
   ·have y1:(y:Int) < 3:=by omega
    obtain ⟨yn,hyn⟩:∃n:Nat,n=(y+1) % 3:=⟨_,rfl⟩
    have hyl:yn < 3:=by omega
    have ty:((y:Int)+1) % 3=(yn:Int):=by omega
    have ty':((y:Int)+1).tmod 3=(yn:Int):=by rw [Int.tmod_eq_emod_of_nonneg (by omega)];exact ty
    have hrg:((List.range (y+1)).flatMap fun y=>(List.range 3).flatMap (torR y))=((List.range y).flatMap fun y=>(List.range 3).flatMap (torR y))++(List.range 3).flatMap (torR y):=by rw [List.range_succ (n:=y),List.flatMap_append,List.flatMap_singleton]
    have HV:=hide (ai9 hO (ai9 hB (ai9 hrg hyn)))
    clear hO hB hrg hyn
    go_upto_region 12 with fail
    go_loopw [6,8] (fun ov xv wz=>∃x:Nat,x≤3∧xv= .int .i64 x∧Own yF 3 35 wz w.heap.size ov (6*y+2*x) (((List.range y).flatMap fun y=>(List.range 3).flatMap (torR y))++(List.range x).flatMap (torR y))∧Below w.heap.size w wz) (fun _ xv _=>3 - (intOf xv).toNat)
    case atStart=>exact ⟨0,by omega,rfl,by simpa using HV.o.1,HV.o.2.1⟩
    case round=>
     obtain ⟨x,hx,rfl,hO,hB⟩:=hrel
     obtain ⟨U,rfl⟩:=ex9 (wr)
     obtain ⟨A7,c7,rfl⟩:=hO.form
     by_cases hlx:x < 3
     ·have x1:(x:Int) < 3:=by omega
      obtain ⟨xn,hxn⟩:∃n:Nat,n=(x+1) % 3:=⟨_,rfl⟩
      have hxl:xn < 3:=by omega
      have tx:((x:Int)+1) % 3=(xn:Int):=by omega
      have tx':((x:Int)+1).tmod 3=(xn:Int):=by rw [Int.tmod_eq_emod_of_nonneg (by omega)];exact tx
      obtain ⟨a,ha⟩:∃n:Nat,n=3*y+x:=⟨_,rfl⟩
      obtain ⟨b1,hb1⟩:∃n:Nat,n=3*y+xn:=⟨_,rfl⟩
      obtain ⟨c1,hc1⟩:∃n:Nat,n=3*yn+xn:=⟨_,rfl⟩
      obtain ⟨d1,hd1⟩:∃n:Nat,n=3*yn+x:=⟨_,rfl⟩
      have sa:3*(y:Int)+(x:Int)=(a:Int):=by omega
      have sb:3*(y:Int)+(xn:Int)=(b1:Int):=by omega
      have sc:3*(yn:Int)+(xn:Int)=(c1:Int):=by omega
      have sd:3*(yn:Int)+(x:Int)=(d1:Int):=by omega
      have ba:a < 9:=by omega
      have bb:b1 < 9:=by omega
      have bc:c1 < 9:=by omega
      have bd:d1 < 9:=by omega
      obtain ⟨ys,hys⟩:∃ys:List Pt,ys= [((a:Int),(b1:Int),(c1:Int)),((a:Int),(c1:Int),(d1:Int))]:=⟨_,rfl⟩
      have htr:torR y x=ys:=by rw [hys,ha,hb1,hc1,hd1,hxn,HV.o.2.2.2];rfl
      have hrx:(List.range (x+1)).flatMap (torR y)=(List.range x).flatMap (torR y)++ys:=by rw [List.range_succ,List.flatMap_append,List.flatMap_singleton,htr]
      have hyl2:ys.length=2:=by rw [hys];rfl
      have hya:(ys.flatMap yF).toArray=#[.int .i64 a, .int .i64 b1, .int .i64 c1, .int .i64 a, .int .i64 c1, .int .i64 d1]:=by rw [hys];rfl
      have hol:=jK zS 35 U ys lr9 (by rw [hyl2];omega)
      rw [hya] at hol
      have hbU:=hB.size
      have HU:=hide (ai9 (hol.sl zS lr9) (ai9 hyl2 (ai9 hrx (ai9 hO hB))))
      clear hol hya hyl2 hys htr hrx hO hB hxn ha hb1 hc1 hd1
      go_wp2_with (at_builtin;refine zI rfl _ _ _ rfl Tryz.underlying22 fE rfl (by omega) zS vX rfl (HU.o.2.2.2.1.alloc _) (some ⟨U.heap.size,0,none⟩) 2 _ ys (by rw [HU.o.2.1];rfl) HU.o.1 (by rw [HU.o.2.1];unfold maxLen;omega) (by rw [HU.o.2.1];omega) (by simp;omega) ?_;intro v5 w5 ho5 hg5 hB5 hat5;rw [HU.o.2.1,List.append_assoc,←HU.o.2.2.1,show 6*y+2*x+2=6*y+2*(x+1) by omega] at ho5;have H5:=hide (ai9 ho5 ((HU.o.2.2.2.2.alloc (by omega) _).trans hB5));clear ho5 hg5 hB5 hat5)
      go_roundw
      case rel=>exact ⟨x+1,by omega,by go_num,H5.o.1,H5.o.2⟩
      case measure=>(simp [intOf];try omega)
     ·obtain rfl:x=3:=by omega
      have x1:¬((3:Nat):Int) < 3:=by omega
      rw [show ((3:Nat):Int)=3 from rfl]
      have HU:=hide (ai9 hO hB)
      clear hO hB hlx x1
      go_wp2
      go_roundw
      case rel=>exact ⟨y+1,by omega,by go_num,by rw [HV.o.2.2.1,show 6*(y+1)=6*y+2*3 by omega];exact HU.o.1,HU.o.2⟩
      case measure=>(simp [intOf];try omega)
   ·obtain rfl:y=3:=by omega
    rw [show ((3:Nat):Int)=3 from rfl]
    obtain ⟨A7,c7,rfl⟩:=hO.form
    have HU:=hide (ai9 hO hB)
    clear hO hB hlt
    go_wp2
    go_ret2
    exact ⟨_,_,rfl,HU.o.1,HU.o.2⟩
 have h3:k % 4=3:=by omega
 obtain ⟨i,hi⟩:∃i:Nat,b % 27=(i:Int):=⟨(b % 27).toNat,by have:=Int.emod_nonneg b (show (27:Int)≠0 by omega);omega⟩
 have hi27:i < 27:=by have:=Int.emod_lt_of_pos b (show (0:Int) < 27 by omega);omega
 obtain ⟨q,hq⟩:=ex9 (b.tdiv 27)
 obtain ⟨j,hj⟩:∃j:Nat,q % 27=(j:Int):=⟨(q % 27).toNat,by have:=Int.emod_nonneg q (show (27:Int)≠0 by omega);omega⟩
 have hj27:j < 27:=by have:=Int.emod_lt_of_pos q (show (0:Int) < 27 by omega);omega
 have hbits:uH b=2^i ||| 2^j:=by unfold uH;rw [hi,←hq,hj,Int.toNat_natCast,Int.toNat_natCast]
 have hbl:=zLO b
 have kv:=fun (W:World)=>zG7 (uH b) hbl 1 (0,0,0) W (by unfold voxR;decide)
 have hvf:∀t∈voxB b,fitsT t:=zK4 b
 have hvl:(voxB b).length≤324:=zD5 _ _ _
 have hv0:voxP (uH b).testBit (0,0,0) 1=voxB b:=rfl
 rw [hv0] at kv
 have km2:=fun W=>yA b 27 (by omega) (by omega) W
 have km3:=fun W=>yA q 27 (by omega) (by omega) W
 rw [hi] at km2
 rw [hj] at km3
 rw [h3] at km
 have hqf: -9223372036854775808≤q∧q≤9223372036854775807:=by
  unfold fits at hb
  have e:q=if 0≤b then b / 27 else -((-b) / 27):=by
   rw [hq]
   split
   ·rw [Int.tdiv_eq_ediv_of_nonneg (by assumption)]
   ·rename_i h
    have e0:b= -(-b):=by omega
    rw [e0,Int.neg_tdiv,Int.tdiv_eq_ediv_of_nonneg (by omega)]
    simp
  split at e <;>omega
 have t0:IntKind.i64.wrap q=q:=IntWalk.i64_in _ (by omega)
 obtain ⟨p1,hp1⟩:∃p:Nat,p=2^i:=⟨_,rfl⟩
 obtain ⟨p2,hp2⟩:∃p:Nat,p=2^j:=⟨_,rfl⟩
 have t1:(2:Int)^i=(p1:Int):=by rw [hp1];exact (Int.natCast_pow 2 i).symm
 have t2:(2:Int)^j=(p2:Int):=by rw [hp2];exact (Int.natCast_pow 2 j).symm
 have b1:p1 < 134217728:=by rw [hp1];exact Nat.pow_lt_pow_right (n:=27) (by omega) hi27
 have b2:p2 < 134217728:=by rw [hp2];exact Nat.pow_lt_pow_right (n:=27) (by omega) hj27
 rw [←hp1,←hp2] at hbits
 have t3:=zM6 (show p1 < 9223372036854775808 by omega) (show p2 < 9223372036854775808 by omega)
 rw [←hbits] at t3
 obtain ⟨bt,hbt⟩:=ex9 (uH b)
 rw [←hbt] at kv t3 hbl
 obtain ⟨L,hL⟩:=ex9 (voxB b)
 have e1:qN k b=if yN L false=0 then numV L else tetB:=by unfold qN;rw [if_neg h0,if_neg h1,if_neg h2,hL]
 have e2:kW k b=if yN L false=0 then (zN L).length else 4:=by unfold kW;rw [if_neg h0,if_neg h1,if_neg h2,hL]
 obtain ⟨TT,hTT⟩:=ex9 (qN k b)
 obtain ⟨NN,hNN⟩:=ex9 (kW k b)
 rw [←hTT,←hNN]
 rw [←hTT] at e1
 rw [←hNN] at e2
 have HE:=hide (ai9 e1 e2)
 rw [←hL] at kv hvf hvl
 obtain ⟨LN,hLN⟩:=ex9 (L.length)
 rw [←hLN] at kv hvl
 have HK:=hide (ai9 km (ai9 km2 (ai9 km3 (ai9 kv (ai9 hvf hLN)))))
 have w1:IntKind.i64.wrap (p1:Int)=p1:=IntWalk.i64_in _ (by omega)
 have w2:IntKind.i64.wrap (p2:Int)=p2:=IntWalk.i64_in _ (by omega)
 clear km km2 km3 kv hvf hv0 hbits hbt hL e1 e2 hTT hNN hp1 hp2 h0 h1 h2 h3 hi hj hb hm1 hm2 hLN
 have HQ:=hide (ai9 hq hqf)
 clear hq
 go_enter Tryz.func38,Tryz.ntmps38
 go_upto_region 20 with (go_at_call 17;refine (HK.o.1 _).mono ?_;rintro e w1 ⟨rfl,hw⟩;obtain rfl:w=w1:=hw.symm)
 have HSB:=hide (show True from trivial)
 refine zB (fun _=>True) [0,3,4,8,2,6,7] [0,3,4,8,1,2,5,6,7,9,10] zL (by kernel_rfl) ?_
 refine zA (v:=(.int .i64 b)) rfl rfl (fun _ _ _ h=>h) HSB.o ⟨rfl,fun _ _=>by simp [go_sem]⟩ ?_
 refine zA (v:=(.int .i64 b)) rfl rfl (fun _ _ _ h=>h) HSB.o ⟨rfl,fun _ _=>by simp [go_sem]⟩ ?_
 refine zA (v:=(.int .i64 q)) rfl rfl (fun _ _ _ h=>h) HSB.o ⟨rfl,fun _ _=>by simp [go_sem,←HQ.o.1,t0]⟩ ?_
 refine zA (v:=(.agg #[.int .i64 0, .int .i64 0, .int .i64 0])) rfl rfl (fun _ _ _ h=>h) HSB.o ⟨rfl,fun _ _=>by simp [go_sem]⟩ ?_
 simp only [List.getElem_toArray,List.getElem_cons_succ,List.getElem_cons_zero,Act.put,List.setIfInBounds_toArray,List.set_cons_succ,List.set_cons_zero]
 refine zD rfl rfl ?_
 go_wp2_with fail
 refine (HK.o.2.1 w.drew).mono ?_
 rintro e W1 ⟨rfl,rfl⟩
 go_wp2_with fail
 refine ⟨fun _=>trivial,?_⟩
 refine zA (v:=(.int .i64 p1)) rfl rfl (fun _ _ _ h=>h) HSB.o ⟨rfl,fun _ _=>by simp [go_sem,t1,w1]⟩ ?_
 refine zD rfl rfl ?_
 go_wp2_with fail
 refine (HK.o.2.2.1 w.drew).mono ?_
 rintro e W2 ⟨rfl,rfl⟩
 go_wp2_with fail
 refine ⟨fun _=>trivial,?_⟩
 refine zA (v:=(.int .i64 p2)) rfl rfl (fun _ _ _ h=>h) HSB.o ⟨rfl,fun _ _=>by simp [go_sem,t2,w2]⟩ ?_
 refine zA (v:=(.int .i64 bt)) rfl rfl (fun _ _ _ h=>h) HSB.o ⟨rfl,fun _ _=>by simp [go_sem,t3]⟩ ?_
 refine zJ _ [_,_] (by kernel_rfl) rfl ?_
 clear t0 t1 t2 t3 w1 w2 HSB
 go_wp2_with fail
 refine (HK.o.2.2.2.1 w.drew).mono ?_
 rintro e X ⟨v,rfl,ho,hB⟩
 obtain ⟨Al,cl,rfl⟩:=ho.form
 have kc:=zDP Al cl L X (ho.sl zW lr9) (by rw [←HK.o.2.2.2.2.2];omega) HK.o.2.2.2.2.1
 rw [←HK.o.2.2.2.2.2] at kc
 obtain ⟨ck,hck⟩:=ex9 (yN L false)
 rw [←hck] at kc
 have HX:=hide (ai9 (ho.sl zW lr9) (ai9 (qY hB) (ai9 kc hck)))
 clear ho hB kc hck
 by_cases hc0:ck=0
 ·subst hc0
  have kcs:=fun (W:World) (hW:Below X.heap.size X W)=>dW Al cl L W ((HX.o.1.below hW).more hW.size) (by rw [←HK.o.2.2.2.2.2];omega) HK.o.2.2.2.2.1
  rw [←HK.o.2.2.2.2.2] at kcs
  obtain ⟨PL,hPL⟩:=ex9 (zN L)
  rw [←hPL] at kcs
  obtain ⟨PN,hPN⟩:=ex9 (PL.length)
  rw [←hPN] at kcs
  have hpn:PN≤3*LN:=by rw [hPN,hPL,HK.o.2.2.2.2.2];exact wW L
  have hnd:PL.Nodup:=by rw [hPL];exact zGL (jE L).1
  have hmm:∀t∈L,∀m,m < 3→zT t m∈PL:=fun t ht m hm=>by
   have h:=wC ht
   rw [←hPL] at h
   unfold zT
   split
   ·exact h.1
   ·split
    ·exact h.2.1
    ·exact h.2.2
  have hnum:numV L=L.map fun t=>((lstK PL t.1 PN:Int),(lstK PL t.2.1 PN:Int),(lstK PL t.2.2 PN:Int)):=by
   unfold numV
   rw [←hPL]
   refine List.map_congr_left fun t ht=> ?_
   have h:=wC ht
   rw [←hPL] at h
   rw [hPN,zBY hnd h.1,zBY hnd h.2.1,zBY hnd h.2.2]
  have HP:=hide (ai9 kcs (ai9 hPL (ai9 hPN (ai9 hmm hnum))))
  clear kcs hPL hPN hmm hnum hnd
  go_upto_region 23 with (go_at_call 70;refine HX.o.2.2.1.mono ?_;rintro e W3 ⟨rfl,hB3⟩;have H3:=hide hB3;clear hB3)
  go_upto_region 24 with (go_at_call 71;refine (HP.o.1 W3 H3.o).mono ?_;rintro e W4 ⟨A4,c4,rfl,hs4,_,hB4,_⟩;have H4:=hide (ai9 hs4 (H3.o.trans (hB4.mono H3.o.size)));clear hs4 hB4)
  go_upto_region 26 with fail
  go_loopw [15,16] (fun ov iv wr=>∃i:Nat,i≤LN∧iv= .int .i64 i∧Own yF 3 35 wr W4.heap.size ov i ((L.take i).map fun t=>((lstK PL t.1 PN:Int),(lstK PL t.2.1 PN:Int),(lstK PL t.2.2 PN:Int)))∧Below W4.heap.size W4 wr) (fun _ iv _=>LN - (intOf iv).toNat)
  case atStart=>exact ⟨0,by omega,rfl,by rw [List.take_zero];exact Own.nil,Below.refl _ W4⟩
  case round=>
   obtain ⟨i,hi,rfl,hO,hB⟩:=hrel
   obtain ⟨V,rfl⟩:=ex9 (wr)
   obtain ⟨Ax,cx,rfl⟩:=hO.form
   by_cases hlt:i < LN
   ·have i1:(i:Int) < (LN:Int):=by omega
    obtain ⟨t,ht⟩:∃t,L[i]? =some t:=⟨_,List.getElem?_eq_getElem (by rw [←HK.o.2.2.2.2.2];exact hlt)⟩
    have htk:((L.take (i+1)).map fun t=>((lstK PL t.1 PN:Int),(lstK PL t.2.1 PN:Int),(lstK PL t.2.2 PN:Int)))=((L.take i).map fun t=>((lstK PL t.1 PN:Int),(lstK PL t.2.1 PN:Int),(lstK PL t.2.2 PN:Int)))++ [((lstK PL t.1 PN:Int),(lstK PL t.2.1 PN:Int),(lstK PL t.2.2 PN:Int))]:=by rw [take_at ht,List.map_append];rfl
    obtain ⟨bl,ol,hA,hbl2,hct⟩:=((HX.o.1.below H4.o.2).more H4.o.2.size).tri ht
    subst hA
    have HV:=hide (ai9 hO (ai9 hB (ai9 htk (ai9 hct (ai9 hbl2 ht)))))
    clear hO hB htk hct hbl2 ht
    go_upto_region 29 with fail
    obtain ⟨gt,hgt⟩:=ex9 (V.heap.size)
    obtain ⟨Y,hY⟩:=ex9 (V.alloc (.cells #[.int .i64 0, .int .i64 0, .int .i64 0] 35))
    have hBY:Below V.heap.size V Y:=by rw [hY];exact (Below.refl _ V).alloc lr9 _
    have hKY:Blk Y gt 35 (boxJ PL PN t 0):=by rw [hY,hgt];exact Blk.new _ _ _
    rw [←hY,←hgt]
    have hbs:=HV.o.2.1.size
    have HY:=hide (ai9 hKY (ai9 (HV.o.1.below hBY lr9) (ai9 (HV.o.2.1.trans (hBY.mono hbs)) (ai9 (show W4.heap.size≤gt by omega) (show∀r,(Value.slice Ax i cx).ownBlock=some r→r≠gt from fun r hr=>by have:=(HV.o.1.blk r hr).2;omega)))))
    clear hBY hKY hY hgt hbs
    go_upto_region 30 with fail
    go_loopw [18] (fun jv wz=>∃j:Nat,j≤3∧jv= .int .i64 j∧Blk wz gt 35 (boxJ PL PN t j)∧Y.grownBy wz (some gt)) (fun jv _=>3 - (intOf jv).toNat)
    case atStart=>exact ⟨0,by omega,rfl,HY.o.1,⟨rfl,rfl,rfl,Nat.le_refl _,fun _ _ _=>rfl⟩⟩
    case round=>
     obtain ⟨j,hj,rfl,hK,hG⟩:=hrel
     obtain ⟨U,rfl⟩:=ex9 (wr)
     by_cases hj3:j < 3
     ·have j1:(j:Int) < 3:=by omega
      have HU:=hide (ai9 hK hG)
      clear hK hG
      go_upto_region 33 with fail
      go_loopw [19] (fun kv wq=>∃k:Nat,k≤PN∧kv= .int .i64 k∧Blk wq gt 35 ((boxJ PL PN t j).setIfInBounds j (.int .i64 (lstK PL (zT t j) k)))∧Y.grownBy wq (some gt)) (fun kv _=>PN - (intOf kv).toNat)
      case atStart=>exact ⟨0,by omega,rfl,by rw [zJ2 PL PN t hj3];exact HU.o.1,HU.o.2⟩
      case round=>
       obtain ⟨k,hk,rfl,hK,hG⟩:=hrel
       obtain ⟨Q,rfl⟩:=ex9 (wr)
       by_cases hkn:k < PN
       ·have k1:(k:Int) < (PN:Int):=by omega
        obtain ⟨pk,hpk⟩:∃p,PL[k]? =some p:=⟨_,List.getElem?_eq_getElem (by rw [←HP.o.2.2.1];exact hkn)⟩
        have hBY:Below W4.heap.size Y Q:=yK hG HY.o.2.2.2.1 HY.o.2.2.1.size
        have hBQ:=HY.o.2.2.1.trans hBY
        obtain ⟨bp,op,hA4,hbp,c0,c1,c2⟩:=(H4.o.1.below hBQ).pt9 hpk
        subst hA4
        obtain ⟨d0,d1,d2⟩:=(zIR hBQ HV.o.2.2.2.2.1 HV.o.2.2.2.1).corner8 hj3
        have hbpQ:bp < Q.heap.size:=Nat.lt_of_lt_of_le hbp hBQ.size
        have hblQ:bl < Q.heap.size:=Nat.lt_of_lt_of_le HV.o.2.2.2.2.1 hBQ.size
        obtain ⟨r,hr⟩:=ex9 (zT t j)
        rw [←hr] at d0 d1 d2 hK
        have hls:lstK PL r (k+1)=if PL[k]? =some r then k else lstK PL r k:=rfl
        have HQ2:=hide (ai9 c0 (ai9 c1 (ai9 c2 (ai9 d0 (ai9 d1 (ai9 d2 (ai9 hbpQ hblQ)))))))
        have HQ3:=hide (ai9 hK (ai9 hG (ai9 hr (ai9 hls hpk))))
        clear hBY hBQ hbp c0 c1 c2 d0 d1 d2 hbpQ hblQ hK hG hls hr hpk
        obtain ⟨s1,s2,s3⟩:=pk
        obtain ⟨r1,r2,r3⟩:=r
        go_upto_region 35 with fail
        have HSB:=hide (show Below Q.heap.size Q Q.drew from (Below.refl _ Q).drew)
        by_cases heq:((s1,s2,s3):Pt)=(r1,r2,r3)
        ·have hls:=HQ3.o.2.2.2.1
         rw [if_pos (by rw [HQ3.o.2.2.2.2,heq])] at hls
         have HLS:=hide hls
         have hs1:s1=r1:=congrArg (·.1) heq
         have hs2:s2=r2:=congrArg (·.2.1) heq
         have hs3:s3=r3:=congrArg (·.2.2) heq
         clear hls heq
         refine zB (fun W=>Below Q.heap.size Q W) [0,1,2,3,4,5,6,7,8,9,10] [0,1,2,3,4,5,6,7,8,9,10] zL (by kernel_rfl) ?_
         refine zA (v:=(.slice (some ⟨bp,op,none⟩) PN c4)) rfl rfl (fun _ _ _ h=>h) HSB.o ⟨rfl,fun _ _=>by simp [go_sem]⟩ ?_
         refine zA (v:=(.int .i64 k)) rfl rfl (fun _ _ _ h=>h) HSB.o ⟨rfl,fun _ _=>by simp [go_sem]⟩ ?_
         refine zA (v:=(.pointer (some ⟨bp,op+k*3,none⟩))) rfl rfl (fun _ _ _ h=>h) HSB.o ⟨rfl,fun _ _=>by simp [go_sem,k1]⟩ ?_
         refine zA (v:=(.agg #[.int .i64 s1, .int .i64 s2, .int .i64 s3])) rfl rfl (fun _ _ _ h=>h) HSB.o ⟨rfl,fun _ h'=>by have e0:=(h'.cell (p:=⟨bp,op+k*3,none⟩) HQ2.o.2.2.2.2.2.2.1).trans HQ2.o.1;have e1:=(h'.cell (p:=⟨bp,op+k*3+1,none⟩) HQ2.o.2.2.2.2.2.2.1).trans HQ2.o.2.1;have e2:=(h'.cell (p:=⟨bp,op+k*3+2,none⟩) HQ2.o.2.2.2.2.2.2.1).trans HQ2.o.2.2.1;simp [go_sem,e0,e1,e2]⟩ ?_
         refine zA (v:=(.slice (some ⟨bl,ol,none⟩) LN cl)) rfl rfl (fun _ _ _ h=>h) HSB.o ⟨rfl,fun _ _=>by simp [go_sem]⟩ ?_
         refine zA (v:=(.int .i64 i)) rfl rfl (fun _ _ _ h=>h) HSB.o ⟨rfl,fun _ _=>by simp [go_sem]⟩ ?_
         simp only [List.getElem_toArray,List.getElem_cons_succ,List.getElem_cons_zero,Act.put,List.setIfInBounds_toArray,List.set_cons_succ,List.set_cons_zero]
         refine zA (v:=(.int .i64 j)) rfl rfl (fun _ _ _ h=>h) HSB.o ⟨rfl,fun _ _=>by simp [go_sem]⟩ ?_
         refine zA (v:=(.pointer (some ⟨bl,ol+i*9,none⟩))) rfl rfl (fun _ _ _ h=>h) HSB.o ⟨rfl,fun _ _=>by simp [go_sem,i1]⟩ ?_
         refine zA (v:=(.pointer (some ⟨bl,ol+i*9+j*3,none⟩))) rfl rfl (fun _ _ _ h=>h) HSB.o ⟨rfl,fun _ _=>by simp [go_sem,j1]⟩ ?_
         refine zA (v:=(.agg #[.int .i64 r1, .int .i64 r2, .int .i64 r3])) rfl rfl (fun _ _ _ h=>h) HSB.o ⟨rfl,fun _ h'=>by have e0:=(h'.cell (p:=⟨bl,ol+i*9+j*3,none⟩) HQ2.o.2.2.2.2.2.2.2).trans HQ2.o.2.2.2.1;have e1:=(h'.cell (p:=⟨bl,ol+i*9+j*3+1,none⟩) HQ2.o.2.2.2.2.2.2.2).trans HQ2.o.2.2.2.2.1;have e2:=(h'.cell (p:=⟨bl,ol+i*9+j*3+2,none⟩) HQ2.o.2.2.2.2.2.2.2).trans HQ2.o.2.2.2.2.2.1;simp [go_sem,e0,e1,e2]⟩ ?_
         refine zA (v:=(.bool true)) rfl rfl (fun _ _ _ h=>h) HSB.o ⟨rfl,fun _ _=>by simp [go_sem,hs1,hs2,hs3]⟩ ?_
         simp only [List.getElem_toArray,List.getElem_cons_succ,List.getElem_cons_zero,Act.put,List.setIfInBounds_toArray,List.set_cons_succ,List.set_cons_zero]
         refine xB ?_
         clear hs1 hs2 hs3
         have hKd:=HQ3.o.1
         obtain ⟨vj,hvj⟩:∃v,((boxJ PL PN t j).setIfInBounds j (.int .i64 (lstK PL (r1,r2,r3) k)))[j]? =some v:=⟨_,Array.getElem?_eq_getElem (by rw [Array.size_setIfInBounds];exact hj3)⟩
         have cj:Q.drew.cell? ⟨gt,j,none⟩=some vj:=(hKd.cell j).trans hvj
         have fj:Q.drew.frozen? ⟨gt,j,none⟩=false:=hKd.frozen j
         have gj:gt < Q.drew.heap.size:=hKd.lt
         have HK9:=hide (show Blk (Q.drew.setCell ⟨gt,j,none⟩ (.int .i64 k)) gt 35 (((boxJ PL PN t j).setIfInBounds j (.int .i64 (lstK PL (r1,r2,r3) k))).setIfInBounds j (.int .i64 k)) from (show Blk Q.drew gt 35 _ from hKd).set_ j _)
         have HG9:=hide (HQ3.o.2.1.trans ((xR (Below.refl _ Q).drew (some gt)).trans (zG Q.drew gt j (.int .i64 k))))
         clear hKd hvj HSB
         go_wp2
         go_roundw
         case rel=>
          have hb:=HK9.o
          rw [Array.setIfInBounds_setIfInBounds] at hb
          exact ⟨k+1,by omega,by go_num,by rw [←HQ3.o.2.2.1,HLS.o];exact hb,HG9.o⟩
         case measure=>(simp [intOf];try omega)
        ·have hls:=HQ3.o.2.2.2.1
         rw [if_neg (by rw [HQ3.o.2.2.2.2];exact fun e=>heq (Option.some.inj e))] at hls
         have HLS:=hide hls
         have hne3:s1=r1→s2=r2→¬s3=r3:=fun a b c=>heq (by rw [a,b,c])
         clear hls heq
         refine zB (fun W=>Below Q.heap.size Q W) [0,1,2,3,4,5,6,7,8,9,10] [0,1,2,3,4,5,6,7,8,9,10] zL (by kernel_rfl) ?_
         refine zA (v:=(.slice (some ⟨bp,op,none⟩) PN c4)) rfl rfl (fun _ _ _ h=>h) HSB.o ⟨rfl,fun _ _=>by simp [go_sem]⟩ ?_
         refine zA (v:=(.int .i64 k)) rfl rfl (fun _ _ _ h=>h) HSB.o ⟨rfl,fun _ _=>by simp [go_sem]⟩ ?_
         refine zA (v:=(.pointer (some ⟨bp,op+k*3,none⟩))) rfl rfl (fun _ _ _ h=>h) HSB.o ⟨rfl,fun _ _=>by simp [go_sem,k1]⟩ ?_
         refine zA (v:=(.agg #[.int .i64 s1, .int .i64 s2, .int .i64 s3])) rfl rfl (fun _ _ _ h=>h) HSB.o ⟨rfl,fun _ h'=>by have e0:=(h'.cell (p:=⟨bp,op+k*3,none⟩) HQ2.o.2.2.2.2.2.2.1).trans HQ2.o.1;have e1:=(h'.cell (p:=⟨bp,op+k*3+1,none⟩) HQ2.o.2.2.2.2.2.2.1).trans HQ2.o.2.1;have e2:=(h'.cell (p:=⟨bp,op+k*3+2,none⟩) HQ2.o.2.2.2.2.2.2.1).trans HQ2.o.2.2.1;simp [go_sem,e0,e1,e2]⟩ ?_
         refine zA (v:=(.slice (some ⟨bl,ol,none⟩) LN cl)) rfl rfl (fun _ _ _ h=>h) HSB.o ⟨rfl,fun _ _=>by simp [go_sem]⟩ ?_
         refine zA (v:=(.int .i64 i)) rfl rfl (fun _ _ _ h=>h) HSB.o ⟨rfl,fun _ _=>by simp [go_sem]⟩ ?_
         simp only [List.getElem_toArray,List.getElem_cons_succ,List.getElem_cons_zero,Act.put,List.setIfInBounds_toArray,List.set_cons_succ,List.set_cons_zero]
         refine zA (v:=(.int .i64 j)) rfl rfl (fun _ _ _ h=>h) HSB.o ⟨rfl,fun _ _=>by simp [go_sem]⟩ ?_
         refine zA (v:=(.pointer (some ⟨bl,ol+i*9,none⟩))) rfl rfl (fun _ _ _ h=>h) HSB.o ⟨rfl,fun _ _=>by simp [go_sem,i1]⟩ ?_
         refine zA (v:=(.pointer (some ⟨bl,ol+i*9+j*3,none⟩))) rfl rfl (fun _ _ _ h=>h) HSB.o ⟨rfl,fun _ _=>by simp [go_sem,j1]⟩ ?_
         refine zA (v:=(.agg #[.int .i64 r1, .int .i64 r2, .int .i64 r3])) rfl rfl (fun _ _ _ h=>h) HSB.o ⟨rfl,fun _ h'=>by have e0:=(h'.cell (p:=⟨bl,ol+i*9+j*3,none⟩) HQ2.o.2.2.2.2.2.2.2).trans HQ2.o.2.2.2.1;have e1:=(h'.cell (p:=⟨bl,ol+i*9+j*3+1,none⟩) HQ2.o.2.2.2.2.2.2.2).trans HQ2.o.2.2.2.2.1;have e2:=(h'.cell (p:=⟨bl,ol+i*9+j*3+2,none⟩) HQ2.o.2.2.2.2.2.2.2).trans HQ2.o.2.2.2.2.2.1;simp [go_sem,e0,e1,e2]⟩ ?_
         refine zA (v:=(.bool false)) rfl rfl (fun _ _ _ h=>h) HSB.o ⟨rfl,fun _ _=>by simp [go_sem];exact hne3⟩ ?_
         simp only [List.getElem_toArray,List.getElem_cons_succ,List.getElem_cons_zero,Act.put,List.setIfInBounds_toArray,List.set_cons_succ,List.set_cons_zero]
         refine xB ?_
         clear hne3 HSB
         go_wp2
         go_roundw
         case rel=>exact ⟨k+1,by omega,by go_num,by rw [←HQ3.o.2.2.1,HLS.o];exact HQ3.o.1,HQ3.o.2.1.trans (xR (Below.refl _ Q).drew (some gt))⟩
         case measure=>(simp [intOf];try omega)
       ·obtain rfl:k=PN:=by omega
        have k1:¬(k:Int) < (k:Int):=by omega
        rw [zJ9 PL k t hj3] at hK
        have HQ2:=hide (ai9 hK hG)
        clear hK hG
        go_wp2
        go_roundw
        case rel=>exact ⟨j+1,by omega,by go_num,HQ2.o.1,HQ2.o.2⟩
        case measure=>(simp [intOf];try omega)
     ·obtain rfl:j=3:=by omega
      rw [show ((3:Nat):Int)=3 from rfl]
      have hK2:Blk U gt 35 #[.int .i64 (lstK PL t.1 PN), .int .i64 (lstK PL t.2.1 PN), .int .i64 (lstK PL t.2.2 PN)]:=hK
      obtain ⟨y0,y1,y2⟩:=hK2.three
      have hgtl:=hK2.lt
      have hBY:Below W4.heap.size Y U:=yK hG HY.o.2.2.2.1 HY.o.2.2.1.size
      have hoU:=HY.o.2.1.kept hG (by
       cases ho:(Value.slice Ax i cx).ownBlock with
       | none=>exact .inl rfl
       | some r=>exact .inr (fun e=>HY.o.2.2.2.2 r ho (Option.some.inj e)))
      have hzU:=(HY.o.2.2.1.trans hBY).size
      have HU:=hide (ai9 hoU (HY.o.2.2.1.trans hBY))
      clear hK hG hK2 hBY hoU
      obtain ⟨n1,hn1⟩:=ex9 (lstK PL t.1 PN)
      obtain ⟨n2,hn2⟩:=ex9 (lstK PL t.2.1 PN)
      obtain ⟨n3,hn3⟩:=ex9 (lstK PL t.2.2 PN)
      rw [←hn1] at y0
      rw [←hn2] at y1
      rw [←hn3] at y2
      have HN3:=hide (ai9 hn1 (ai9 hn2 hn3))
      clear hn1 hn2 hn3 hj3
      go_wp2_with (at_builtin;refine zC rfl _ _ _ rfl Tryz.underlying22 fE rfl (by omega) zS vX rfl (HU.o.1.alloc _) U.heap.size 1 (((n1:Int),(n2:Int),(n3:Int)):Pt) rfl (Blk.new _ _ _) (by unfold maxLen;omega) (by omega) (by simp;omega) ?_;intro g6 cap6 w6 hown6 hg6 hB6 hat6 hgb6 hlt6;have H6:=hide (ai9 hown6 ((HU.o.2.alloc hzU _).trans hB6));clear hown6 hg6 hB6 hat6 hgb6 hlt6)
      go_roundw
      case rel=>exact ⟨i+1,by omega,by go_num,by rw [HV.o.2.2.1,←HN3.o.1,←HN3.o.2.1,←HN3.o.2.2];exact H6.o.1,H6.o.2⟩
      case measure=>(simp [intOf];try omega)
   ·obtain rfl:i=LN:=by omega
    have i1:¬(i:Int) < (i:Int):=by omega
    rw [List.take_of_length_le (by rw [←HK.o.2.2.2.2.2];exact Nat.le_refl _),←HP.o.2.2.2.2] at hO
    have hTT:=HE.o.1
    have hNN:=HE.o.2
    rw [if_pos HX.o.2.2.2.symm] at hTT hNN
    rw [←HP.o.2.1,←HP.o.2.2.1] at hNN
    rw [←hTT] at hO
    have hl:=hO.1
    subst hNN
    have HV:=hide (ai9 hO (ai9 hB hl))
    clear hO hB hTT hl
    go_wp2
    go_ret2
    have hO:=HV.o.1
    rw [HV.o.2.2] at hO
    exact ⟨_,_,by rw [←HV.o.2.2];rfl,hO.base_le (by have:=HX.o.2.1.size;have:=H4.o.2.size;omega),HX.o.2.1.trans ((H4.o.2.trans (HV.o.2.1.mono H4.o.2.size)).mono HX.o.2.1.size)⟩
 ·have hne:(ck !=0)=true:=by simpa using hc0
  go_wp2_with (first | (go_at_call 70;refine HX.o.2.2.1.mono ?_;rintro e W3 ⟨rfl,hB3⟩;have H3:=hide hB3;clear hB3) | (go_at_call 38;refine (zDG 0 0 rfl _).mono ?_;rintro e W4 ⟨A4,c4,rfl,ho4,hB4⟩;have H4:=hide (ai9 ho4 (H3.o.trans (hB4.mono H3.o.size)));clear ho4 hB4))
  go_ret2
  have hTT:=HE.o.1
  have hNN:=HE.o.2
  rw [if_neg (by rw [←HX.o.2.2.2];exact hc0)] at hTT hNN
  subst hTT hNN
  exact ⟨_,_,rfl,H4.o.1.base_le (by have:=HX.o.2.1.size;have:=H3.o.size;omega),HX.o.2.1.trans (H4.o.2.mono HX.o.2.1.size)⟩
end Go.Proofs.YtmemofonebphfaaGreat
namespace Go.Proofs.YtmemofonebphfaaGreat
open Go.RowKit Go.Sort
abbrev cMad (vp vt vc vo:Value) (st:Int) (vd:Value):Array Value:=#[vp,vt,vc,vo, .int .i64 st,vd]
structure MadB (w W:World) (g1 g2 g5:Nat) (shp zc cs:Array Value):Prop where
 bel:Below w.heap.size w W
 b1:Blk W g1 25 shp
 b2:Blk W g2 32 zc
 b5:Blk W g5 32 cs
 le:w.heap.size≤g5∧g1≠g5∧g2≠g5∧w.heap.size≤g2
structure MadS (w W:World) (g1 g2 g5:Nat) (shp zc:Array Value) (vp vt vc vo vd:Value) (st:Int) (np nt nc no:Nat) (P T:List Pt) (C:List E2) (O:List Int) (D:List (List Pt)):Prop where
 bx:MadB w W g1 g2 g5 shp zc (cMad vp vt vc vo st vd)
 t:Own yF 3 35 W w.heap.size vt nt T
 p:Own encP 3 43 W w.heap.size vp np P
 c:Own yH 2 56 W w.heap.size vc nc C
 o:Own xH 1 3 W w.heap.size vo no O
 d:Pcs encP 3 43 28 W w.heap.size vd D
theorem Pcs.turn {α:Type} {enc:α→List Value} {k:Nat} {e te:TypeId} {w w':World} {base:Nat} {v:Value} {ps:List (List α)} {row:Option Nat} (h:Pcs enc k e te w base v ps) (hg:w.grownBy w' row) (hr:∀t,t=te∨t=e→∀r,row=some r→r < base∨∀cs,w.heap[r]? ≠some (.cells cs t (0,0))):Pcs enc k e te w' base v ps:=by
 obtain ⟨ss,ho,hp⟩:=h
 refine ⟨ss,ho.step hg (hr te (.inl rfl)),fun i p hi=> ?_⟩
 obtain ⟨A,c,h1,h2⟩:=hp i p hi
 exact ⟨A,c,h1,h2.step hg (hr e (.inr rfl))⟩
section
variable {w W W':World} {g1 g2 g5:Nat} {shp zc cs:Array Value} {vp vt vc vo vd:Value} {st:Int} {np nt nc no:Nat} {P T:List Pt} {C:List E2} {O:List Int} {D:List (List Pt)}
theorem MadB.below (h:MadB w W g1 g2 g5 shp zc cs) (hB:Below W.heap.size W W'):MadB w W' g1 g2 g5 shp zc cs:=⟨h.bel.trans (hB.mono h.bel.size),h.b1.below hB h.b1.lt,h.b2.below hB h.b2.lt,h.b5.below hB h.b5.lt,h.le⟩
theorem MadB.row {α:Type} {enc:α→List Value} {k:Nat} {e:TypeId} {v:Value} {n:Nat} {xs:List α} (h:MadB w W g1 g2 g5 shp zc cs) (ho:Own enc k e W w.heap.size v n xs) (h1:e≠25) (h5:e≠32) (hg:W.grownBy W' v.ownBlock):MadB w W' g1 g2 g5 shp zc cs:=
 ⟨h.bel.trans (qP hg (fun r hr=>(ho.blk r hr).1) h.bel.size),h.b1.grown hg (zF h.b1 ho h1),h.b2.grown hg (zF h.b2 ho h5),h.b5.grown hg (zF h.b5 ho h5),h.le⟩
theorem MadS.below (h:MadS w W g1 g2 g5 shp zc vp vt vc vo vd st np nt nc no P T C O D) (hB:Below W.heap.size W W'):MadS w W' g1 g2 g5 shp zc vp vt vc vo vd st np nt nc no P T C O D:=
 ⟨h.bx.below hB,h.t.below hB lr9,h.p.below hB lr9,h.c.below hB lr9,h.o.below hB lr9,h.d.below hB lr9⟩
theorem zAF (h:MadB w W g1 g2 g5 shp zc cs) (ht:Own yF 3 35 W w.heap.size vt nt T) (hp:Own encP 3 43 W w.heap.size vp np P) (hc:Own yH 2 56 W w.heap.size vc nc C) (ho:Own xH 1 3 W w.heap.size vo no O) (hd:Pcs encP 3 43 28 W w.heap.size vd D)
  (i:Nat) (v:Value) (hv:cs.setIfInBounds i v=cMad vp vt vc vo st vd):MadS w (W.setCell ⟨g5,i,none⟩ v) g1 g2 g5 shp zc vp vt vc vo vd st np nt nc no P T C O D:=by
 have hg:=zG W g5 i v
 have hr:∀t,t≠32→∀r,(some g5:Option Nat)=some r→r < w.heap.size∨∀cs,W.heap[r]? ≠some (.cells cs t (0,0)):=fun t ht r e=>by
  cases e
  refine .inr fun cs hc=> ?_
  have hb:W.heap[g5]? =some (.cells _ _ (0,0)):=h.b5
  rw [hb] at hc
  cases hc
  exact ht rfl
 refine ⟨⟨h.bel.trans (yK hg h.le.1 h.bel.size),h.b1.grown hg (fun e=>h.le.2.1 (Option.some.inj e)),h.b2.grown hg (fun e=>h.le.2.2.1 (Option.some.inj e)),?_,h.le⟩,ht.step hg (hr _ (by decide)),hp.step hg (hr _ (by decide)),hc.step hg (hr _ (by decide)),ho.step hg (hr _ (by decide)),hd.turn hg (fun t e=>hr t (by rcases e with rfl | rfl <;>decide))⟩
 rw [←hv]
 exact h.b5.set_ i v
theorem MadS.apP {v6:Value} {x:Pt} (h:MadS w W g1 g2 g5 shp zc vp vt vc vo (.slice none 0 0) st np nt nc no P T C O []) (hg:W.grownBy W' vp.ownBlock) (ho:Own encP 3 43 W' w.heap.size v6 (np+1) (P++ [x])):MadS w (W'.setCell ⟨g5,0,none⟩ v6) g1 g2 g5 shp zc v6 vt vc vo (.slice none 0 0) st (np+1) nt nc no (P++ [x]) T C O []:=
 zAF (h.bx.row h.p (by decide) (by decide) hg) (h.t.step hg (zQ h.p (show (43:TypeId)≠35 by decide))) ho (h.c.step hg (zQ h.p (show (43:TypeId)≠56 by decide))) (h.o.step hg (zQ h.p (show (43:TypeId)≠3 by decide))) Pcs.nil 0 v6 rfl
theorem MadS.apC {v6:Value} {x:E2} (h:MadS w W g1 g2 g5 shp zc vp vt vc vo vd st np nt nc no P T C O D) (hg:W.grownBy W' vc.ownBlock) (ho:Own yH 2 56 W' w.heap.size v6 (nc+1) (C++ [x])):MadS w (W'.setCell ⟨g5,2,none⟩ v6) g1 g2 g5 shp zc vp vt v6 vo vd st np nt (nc+1) no P T (C++ [x]) O D:=
 zAF (h.bx.row h.c (by decide) (by decide) hg) (h.t.step hg (zQ h.c (show (56:TypeId)≠35 by decide))) (h.p.step hg (zQ h.c (show (56:TypeId)≠43 by decide))) ho (h.o.step hg (zQ h.c (show (56:TypeId)≠3 by decide))) (h.d.turn hg (fun t e=>zQ h.c (by rcases e with rfl | rfl <;>decide))) 2 v6 rfl
theorem MadS.apO {v6:Value} {x:Int} (h:MadS w W g1 g2 g5 shp zc vp vt vc vo vd st np nt nc no P T C O D) (hg:W.grownBy W' vo.ownBlock) (ho:Own xH 1 3 W' w.heap.size v6 (no+1) (O++ [x])):MadS w (W'.setCell ⟨g5,3,none⟩ v6) g1 g2 g5 shp zc vp vt vc v6 vd st np nt nc (no+1) P T C (O++ [x]) D:=
 zAF (h.bx.row h.o (by decide) (by decide) hg) (h.t.step hg (zQ h.o (show (3:TypeId)≠35 by decide))) (h.p.step hg (zQ h.o (show (3:TypeId)≠43 by decide))) (h.c.step hg (zQ h.o (show (3:TypeId)≠56 by decide))) ho (h.d.turn hg (fun t e=>zQ h.o (by rcases e with rfl | rfl <;>decide))) 3 v6 rfl
theorem MadS.low (h:MadS w W g1 g2 g5 shp zc vp vt vc vo vd st np nt nc no P T C O D) (st':Int):MadS w (W.setCell ⟨g5,4,none⟩ (.int .i64 st')) g1 g2 g5 shp zc vp vt vc vo vd st' np nt nc no P T C O D:=
 zAF h.bx h.t h.p h.c h.o h.d 4 _ rfl
theorem MadS.apD {ss:List Hdr} {v6:Value} {A:Option Addr} {c:Nat} {x:List Pt} (h:MadS w W g1 g2 g5 shp zc vp vt vc vo vd st np nt nc no P T C O D) (hos:Own encS 1 28 W w.heap.size vd D.length ss) (hps:∀(i:Nat) (p:List Pt),D[i]? =some p→∃A c,ss[i]? =some (A,p.length,c)∧Own encP 3 43 W w.heap.size (.slice A p.length c) p.length p)
  (hx:Own encP 3 43 W w.heap.size (.slice A x.length c) x.length x) (hg:W.grownBy W' vd.ownBlock) (ho:Own encS 1 28 W' w.heap.size v6 (D.length+1) (ss++ [(A,x.length,c)])):MadS w (W'.setCell ⟨g5,5,none⟩ v6) g1 g2 g5 shp zc vp vt vc vo v6 st np nt nc no P T C O (D++ [x]):=
 zAF (h.bx.row hos (by decide) (by decide) hg) (h.t.step hg (zQ hos (show (28:TypeId)≠35 by decide))) (h.p.step hg (zQ hos (show (28:TypeId)≠43 by decide))) (h.c.step hg (zQ hos (show (28:TypeId)≠56 by decide))) (h.o.step hg (zQ hos (show (28:TypeId)≠3 by decide)))
  (Pcs.snoc (show (28:TypeId)≠43 by decide) hos hps hx hg ho) 5 v6 rfl
end
structure ShpA (w:World) (B:Nat) (Ap Ac Ao Ad:Option Addr) (s:ShpC):Prop where
 p:s.points≠ []→Sl yF 3 w B Ap s.points
 c:s.creases≠ []→Sl xH 1 w B Ac s.creases
 o:s.corners≠ []→Sl xH 1 w B Ao s.corners
 d:s.details≠ []→Sl yF 3 w B Ad s.details
theorem ShpA.below {w W:World} {B B':Nat} {Ap Ac Ao Ad:Option Addr} {s:ShpC} (h:ShpA w B Ap Ac Ao Ad s) (hB:Below B w W) (hb:B≤B'):ShpA W B' Ap Ac Ao Ad s:=
 ⟨fun hn=>((h.p hn).below hB).more hb,fun hn=>((h.c hn).below hB).more hb,fun hn=>((h.o hn).below hB).more hb,fun hn=>((h.d hn).below hB).more hb⟩
abbrev cShp (k b st:Int) (Ap:Option Addr) (np cp:Nat) (Ac:Option Addr) (nc cc:Nat) (Ao:Option Addr) (no oc:Nat) (Ad:Option Addr) (nd dc:Nat):Array Value:=
 #[.int .i64 k, .int .i64 b, .int .i64 st, .slice Ap np cp, .slice Ac nc cc, .slice Ao no oc, .slice Ad nd dc]
abbrev vShp (k b st:Int) (Ap:Option Addr) (np cp:Nat) (Ac:Option Addr) (nc cc:Nat) (Ao:Option Addr) (no oc:Nat) (Ad:Option Addr) (nd dc:Nat):Value:= .agg (cShp k b st Ap np cp Ac nc cc Ao no oc Ad nd dc)
def MadR (w w':World) (c:Ctl) (e:Ending):Prop:=
 ∃(Ap At Ac Ao Ad:Option Addr) (cp ct cc oc dc:Nat),e= .returned (vCtl Ap c.points.length cp At c.tris.length ct Ac c.creases.length cc Ao c.corners.length oc c.steps Ad c.details.length dc)∧
  Own yF 3 35 w' w.heap.size (.slice At c.tris.length ct) c.tris.length c.tris∧Own encP 3 43 w' w.heap.size (.slice Ap c.points.length cp) c.points.length c.points∧Own yH 2 56 w' w.heap.size (.slice Ac c.creases.length cc) c.creases.length c.creases∧
  Own xH 1 3 w' w.heap.size (.slice Ao c.corners.length oc) c.corners.length c.corners∧Pcs encP 3 43 28 w' w.heap.size (.slice Ad c.details.length dc) c.details∧Below w.heap.size w w'
end Go.Proofs.YtmemofonebphfaaGreat
namespace Go.Proofs.YtmemofonebphfaaGreat
open Go.RowKit Go.Sort
structure FinF (c:Ctl):Prop where
 st:0≤c.steps∧c.steps≤4
 lenT:(finT c).length=4^c.steps.toNat*c.tris.length
 few:(finT c).length≤65536
 le:c.points.length≤(finP c).length
 pts:(finP c).length≤c.points.length+393216
 pre:∀(i:Nat) (x:Pt),c.points[i]? =some x→(finP c)[i]? =some (wrap64 (16^c.steps.toNat*x.1),wrap64 (16^c.steps.toNat*x.2.1),wrap64 (16^c.steps.toNat*x.2.2))
 idx:∀x∈finT c,(0≤x.1∧x.1 < ((finP c).length:Int))∧(0≤x.2.1∧x.2.1 < ((finP c).length:Int))∧0≤x.2.2∧x.2.2 < ((finP c).length:Int)
 chk:yN ((finT c).map numT) false=0
theorem zDV (c:Ctl):∀k:Nat,∃r,(c.level k).p=c.begin.p++r
 | 0=>⟨[],by simp [Ctl.level]⟩
 | k+1=>by
  obtain ⟨r,hr⟩:=zDV c k
  refine ⟨r++detE ((c.level k).rules c.corners) (c.details.getD k []) (16^(c.steps.toNat - 1 - k)),?_⟩
  rw [←List.append_assoc,←hr]
  rfl
theorem LvR.chk {L:Lev} (h:LvR L):yN (L.t.map numT) false=0:=vW.2 ⟨h.cls.dist,h.cls.nodup,h.cls.clos,h.calm⟩
theorem zDA {c:Ctl} (he:errC c=0) (hb:xE c.tris):FinF c:=by
 have hR:=uY he
 have hst:=hR.st
 have hL:=Ctl.level_right hR hb c.steps.toNat
 obtain ⟨r,hr⟩:=zDV c c.steps.toNat
 have hpl:(c.begin.p).length=c.points.length:=by show (c.points.map _).length=_;rw [List.length_map]
 have eT:finT c=(c.level c.steps.toNat).t:=by unfold finT;rw [if_pos he]
 have eP:finP c=(c.level c.steps.toNat).p:=by unfold finP;rw [if_pos he]
 have hlt:(finT c).length=4^c.steps.toNat*c.tris.length:=by rw [eT];exact Ctl.level_t c _
 have hpp:(finP c).length≤c.points.length+c.steps.toNat*98304:=by rw [eP];exact zAR hR hb lr9
 refine ⟨hst,hlt,by rw [hlt];exact zAK hR lr9,?_,?_,fun i x hx=> ?_,?_,?_⟩
 ·rw [eP,hr,List.length_append]
  omega
 ·have:c.steps.toNat*98304≤4*98304:=Nat.mul_le_mul_right _ (by omega)
  omega
 ·have hlt:=(List.getElem?_eq_some_iff.1 hx).1
  rw [eP,hr,List.getElem?_append_left (by rw [hpl];exact hlt)]
  show (c.points.map _)[i]? =_
  rw [List.getElem?_map,hx]
  simp [xU]
 ·rw [eT,eP]
  exact hL.cls.idx
 ·rw [eT]
  exact hL.chk
theorem zGS (s:ShpC):CtlB (xC s):=by
 have hb:=xQ s.kind s.bits
 have hs:=zAS s
 have hdt:∀d∈(xC s).details,∃k,k < 4∧d=detM s k:=fun d hd=>by
  have hd:d∈(if s.details.length=0 then [] else (List.range (stM s)).map (detM s)):=hd
  split at hd
  ·cases hd
  ·obtain ⟨k,hk,rfl⟩:=List.mem_map.1 hd
   exact ⟨k,by have:=List.mem_range.1 hk;omega,rfl⟩
 refine ⟨?_,?_,?_,?_,?_,fun d hd=> ?_⟩
 ·show (List.map _ _).length≤_
  rw [List.length_map,List.length_range]
  have:=hb.pts
  omega
 ·have:=hb.few
  show (qN s.kind s.bits).length≤_
  omega
 ·show (List.map _ _).length≤_
  rw [List.length_map,List.length_take]
  omega
 ·show (List.map _ _).length≤_
  rw [List.length_map,List.length_take]
  omega
 ·show (if _ then _ else _:List (List Pt)).length≤_
  split
  ·exact Nat.zero_le _
  ·rw [List.length_map,List.length_range]
   omega
 ·obtain ⟨k,hk,rfl⟩:=hdt d hd
  unfold detM
  rw [List.length_map,List.length_range]
  omega
theorem Pcs.sl {ps:List (List Pt)} {w:World} {b n c B:Nat} {A:Option Addr} (h:Pcs encP 3 43 28 w b (.slice A n c) ps) (hB:w.heap.size≤B):
  ∃ss:List Hdr,Sl encS 1 w B A ss∧ss.length=ps.length∧∀(i:Nat) (d:List Pt),ps[i]? =some d→∃A k,ss[i]? =some (A,d.length,k)∧Sl encP 3 w B A d:=by
 obtain ⟨ss,hos,hps⟩:=h
 have hn:=hos.1
 obtain ⟨A',c',he⟩:=hos.form
 injection he with e1 e2 e3
 subst e1 e2 e3
 refine ⟨ss,hos.sl fU hB,hn.symm,fun i d hd=> ?_⟩
 obtain ⟨A',k,h1,h2⟩:=hps i d hd
 exact ⟨A',k,h1,h2.sl zO hB⟩
end Go.Proofs.YtmemofonebphfaaGreat
namespace Go.Proofs.YtmemofonebphfaaGreat
open Go.RowKit Go.Sort
theorem dG (x:Int):fits (wrap64 x):=by unfold fits wrap64;omega
theorem zB2 (x:Int):fits ((wrap64 x).tdiv 16):=by
 rw [←yS]
 exact dG _
theorem zJG (p t:List Pt) (cr:List E2) (co:List Int) (a b:Int):yJ (jC p t cr co a b):=⟨zB2 _,zB2 _,zB2 _⟩
theorem zCK (p q:Pt) (n:Int):yJ (xU p q n):=⟨dG _,dG _,dG _⟩
theorem zLK {a d:List Pt} {n:Int} (h:∀p∈a,yJ p):∀p∈detE a d n,yJ p:=fun p hp=>by
 obtain ⟨i,hi,e⟩:=List.mem_mapIdx.1 hp
 cases hd:d[i]? with
 | none=>simp only [hd] at e;rw [←e];exact h _ (List.getElem_mem _)
 | some x=>simp only [hd] at e;rw [←e];exact zCK _ _ _
theorem zBI (c:Ctl):∀k:Nat,∀p∈(c.level k).p,yJ p
 | 0=>fun p hp=>by
  obtain ⟨x,_,rfl⟩:=List.mem_map.1 (show p∈c.points.map _ from hp)
  exact zCK _ _ _
 | k+1=>fun p hp=>by
  rcases List.mem_append.1 (show p∈(c.level k).p++detE _ _ _ from hp) with hp | hp
  ·exact zBI c k p hp
  ·refine zLK (fun q hq=> ?_) p hp
   obtain ⟨e,_,rfl⟩:=List.mem_map.1 (show q∈(zH _).map _ from hq)
   exact zJG _ _ _ _ _ _
theorem dA (c:Ctl):∀p∈finP c,yJ p:=fun p hp=>by
 unfold finP at hp
 by_cases he:errC c=0
 ·rw [if_pos he] at hp
  exact zBI c _ p hp
 ·rw [if_neg he] at hp
  cases hp
theorem zBX {c:Ctl} (he:errC c≠0):finP c= []∧finT c= []:=⟨if_neg he,if_neg he⟩
theorem zCB {c:Ctl} (hb:CtlB c) (hnb:errC c=0→xE c.tris):(finP c).length≤500000∧(finT c).length≤65536:=by
 by_cases he:errC c=0
 ·have h:=zDA he (hnb he)
  have h1:=h.pts
  have h2:=h.few
  have h3:=hb.p
  exact ⟨by omega,h2⟩
 ·rw [(zBX he).1,(zBX he).2]
  exact ⟨by decide,by decide⟩
theorem zHQ {c:Ctl} (hb:CtlB c) (hnb:errC c=0→xE c.tris):∀x∈finT c,yJ x:=fun x hx=>by
 by_cases he:errC c=0
 ·have h:=(zDA he (hnb he)).idx x hx
  have h1:=(zCB hb hnb).1
  unfold yJ fits
  omega
 ·rw [(zBX he).2] at hx
  cases hx
theorem zE7 {P:List Pt} (h:∀p∈P,yJ p) (n:Int):yJ (gP P n):=by
 unfold gP
 rw [List.getD_eq_getElem?_getD]
 cases e:P[n.toNat]? with
 | none=>exact ⟨by unfold fits;decide,by unfold fits;decide,by unfold fits;decide⟩
 | some x=>exact h x (List.mem_of_getElem? e)
theorem zLV (c:Ctl):∀t∈subR c,fitsT t:=fun t ht=>by
 unfold subR at ht
 by_cases he:errS c=0
 ·rw [if_pos he] at ht
  refine zE9 (fun t ht=> ?_) t ht
  obtain ⟨x,_,rfl⟩:=List.mem_map.1 ht
  exact ⟨zE7 (dA c) _,zE7 (dA c) _,zE7 (dA c) _⟩
 ·rw [if_neg he] at ht
  cases ht
theorem zMK {c:Ctl} (hb:CtlB c) (hnb:errC c=0→xE c.tris):(subR c).length≤65536:=by
 unfold subR
 by_cases he:errS c=0
 ·rw [if_pos he]
  have h:(bT (subT c)).length=(subT c).length:=fC _
  rw [h,subT,List.length_map]
  exact (zCB hb hnb).2
 ·rw [if_neg he]
  decide
end Go.Proofs.YtmemofonebphfaaGreat
namespace Go.Proofs.YtmemofonebphfaaGreat
open Go.RowKit Go.Sort
def zK3:Prop:=∀(Ap Ac Ao Ad:Option Addr) (cp cc oc dc:Nat) (s:ShpC) (w:World),ShpA w w.heap.size Ap Ac Ao Ad s→fits s.bits→s.points.length≤9223372036854775807∧s.creases.length≤9223372036854775807∧s.corners.length≤9223372036854775807∧s.details.length≤9223372036854775807→
  Calls Tryz.prog 15 #[vShp s.kind s.bits s.steps Ap s.points.length cp Ac s.creases.length cc Ao s.corners.length oc Ad s.details.length dc] w fun e w'=>MadR w w' (xC s) e
theorem Blk.seven9 {w:World} {g:Nat} {t:TypeId} {a b c d e f h:Value} (hb:Blk w g t #[a,b,c,d,e,f,h]):w.cell? ⟨g,0,none⟩=some a∧w.cell? ⟨g,1,none⟩=some b∧w.cell? ⟨g,2,none⟩=some c∧w.cell? ⟨g,3,none⟩=some d∧w.cell? ⟨g,4,none⟩=some e∧w.cell? ⟨g,5,none⟩=some f∧w.cell? ⟨g,6,none⟩=some h:=
 ⟨hb.cell 0,hb.cell 1,hb.cell 2,hb.cell 3,hb.cell 4,hb.cell 5,hb.cell 6⟩
end Go.Proofs.YtmemofonebphfaaGreat
namespace Go.Proofs.YtmemofonebphfaaGreat
open Go.RowKit Go.Sort
set_option maxRecDepth 100000 in set_option maxHeartbeats 64000000 in
theorem zA4 (Ap At Ac Ao Ad:Option Addr) (cp ct cc oc dc:Nat) (c:Ctl) (w:World) (hm:CtlM w w.heap.size Ap At Ac Ao Ad c) (hb:CtlB c) (hfs:fits c.steps) (hnb:errC c=0→xE c.tris):
  Calls Tryz.prog 14 #[vCtl Ap c.points.length cp At c.tris.length ct Ac c.creases.length cc Ao c.corners.length oc c.steps Ad c.details.length dc] w fun e w'=>e= .returned (.bool true)∧Below w.heap.size w w':=by
 have kf:=fun (W:World) (hW:Below w.heap.size w W)=>zCD Ap At Ac Ao Ad cp ct cc oc dc c W (hm.below hW hW.size) hb hfs hnb
 have kg:=fun (W:World) (hW:Below w.heap.size w W)=>zC0 Ap At Ac Ao Ad cp ct cc oc dc c W (hm.below hW hW.size) hb hfs hnb
 have ks:=fun (W:World) (hW:Below w.heap.size w W)=>zA8 Ap At Ac Ao Ad cp ct cc oc dc c W (hm.below hW hW.size) hb hfs hnb
 have kr:=fun (W:World) (hW:Below w.heap.size w W)=>zD7 Ap At Ac Ao Ad cp ct cc oc dc c W (hm.below hW hW.size) hb hfs hnb
 have h1:=zCB hb hnb
 have h2:=dA c
 have h3:=zHQ hb hnb
 have h4:=zLV c
 have h5:=zMK hb hnb
 obtain ⟨P,hP⟩:=ex9 (finP c)
 obtain ⟨T,hT⟩:=ex9 (finT c)
 obtain ⟨R,hR⟩:=ex9 (subR c)
 simp only [←hP,←hT,←hR] at kf kg ks kr h1 h2 h3 h4 h5
 obtain ⟨np,hnp⟩:=ex9 (c.points.length)
 obtain ⟨nt,hnt⟩:=ex9 (c.tris.length)
 obtain ⟨nc,hnc⟩:=ex9 (c.creases.length)
 obtain ⟨no,hno⟩:=ex9 (c.corners.length)
 obtain ⟨nd,hnd⟩:=ex9 (c.details.length)
 obtain ⟨st,hst⟩:=ex9 (c.steps)
 obtain ⟨er,her⟩:=ex9 (errC c)
 obtain ⟨ES,hES⟩:=ex9 (errS c)
 obtain ⟨PN,hPN⟩:=ex9 (P.length)
 obtain ⟨TN,hTN⟩:=ex9 (T.length)
 rw [←hnp,←hnt,←hnc,←hno,←hnd,←hst]
 simp only [←hnp,←hnt,←hnc,←hno,←hnd,←hst,←her,←hES,←hPN,←hTN] at kf kg ks kr h1
 have HK:=hide (ai9 kf (ai9 kg (ai9 ks kr)))
 have HL:=hide (ai9 h1 (ai9 h2 (ai9 h3 (ai9 h4 (ai9 h5 (ai9 hPN hTN))))))
 clear kf kg ks kr h1 h2 h3 h4 h5 hP hT hR hnp hnt hnc hno hnd hst her hES hPN hTN hm hb hfs hnb
 go_enter Tryz.func14,Tryz.ntmps14
 go_upto_region 1 with fail
 obtain ⟨g1,hg1⟩:=ex9 (w.heap.size)
 obtain ⟨X0,hX⟩:=ex9 (w.alloc (.cells (cCtl Ap np cp At nt ct Ac nc cc Ao no oc st Ad nd dc) 32))
 rw [←hX,←hg1]
 have hb1:Blk X0 g1 32 (cCtl Ap np cp At nt ct Ac nc cc Ao no oc st Ad nd dc):=by rw [hX,hg1];exact Blk.new _ _ _
 have hBX:Below w.heap.size w X0:=by rw [hX];exact (Below.refl _ w).alloc lr9 _
 have H0:=hide (ai9 hb1 hBX)
 clear hb1 hBX hX hg1
 obtain ⟨z0,z1,z2,z3,z4,z5⟩:=H0.o.1.six9
 have hgl:=H0.o.1.lt
 go_upto_region 2 with (go_at_call 18;refine (HK.o.1 X0 H0.o.2).mono ?_;rintro e X1 ⟨A1,c1,A2,c2,rfl,ho1,ho2,hB⟩;have H1:=hide (ai9 (H0.o.1.below hB H0.o.1.lt) (ai9 (ho1.sl zO lr9) (ai9 (ho2.sl zS lr9) (H0.o.2.trans (hB.mono H0.o.2.size)))));clear ho1 ho2 hB)
 clear z0 z1 z2 z3 z4 z5 hgl
 obtain ⟨z0,z1,z2,z3,z4,z5⟩:=H1.o.1.six9
 have hgl:=H1.o.1.lt
 go_upto_region 3 with (go_at_call 32;refine (HK.o.2.1 X1 H1.o.2.2.2).mono ?_;rintro e X2 ⟨A3,c3,A4,c4,rfl,ho1,ho2,hB⟩;have H2:=hide (ai9 (H1.o.1.below hB H1.o.1.lt) (ai9 ((H1.o.2.1.below hB).more hB.size) (ai9 ((H1.o.2.2.1.below hB).more hB.size) (ai9 (ho1.sl zO lr9) (ai9 (ho2.sl zS lr9) (H1.o.2.2.2.trans (hB.mono H1.o.2.2.2.size)))))));clear ho1 ho2 hB)
 clear z0 z1 z2 z3 z4 z5 hgl
 obtain ⟨z0,z1,z2,z3,z4,z5⟩:=H2.o.1.six9
 have hgl:=H2.o.1.lt
 go_upto_region 4 with (go_at_call 27;refine (HK.o.2.2.1 X2 H2.o.2.2.2.2.2).mono ?_;rintro e X3 ⟨A5,n5,c5,rfl,ho1,hB⟩;have hn5:=ho1.1;have H3:=hide (ai9 (H2.o.1.below hB H2.o.1.lt) (ai9 ((H2.o.2.1.below hB).more hB.size) (ai9 ((H2.o.2.2.1.below hB).more hB.size) (ai9 ((H2.o.2.2.2.1.below hB).more hB.size) (ai9 ((H2.o.2.2.2.2.1.below hB).more hB.size) (ai9 (ho1.sl zW lr9) (ai9 hn5 (H2.o.2.2.2.2.2.trans (hB.mono H2.o.2.2.2.2.2.size)))))))));clear ho1 hB hn5)
 clear z0 z1 z2 z3 z4 z5 hgl
 obtain ⟨z0,z1,z2,z3,z4,z5⟩:=H3.o.1.six9
 have hgl:=H3.o.1.lt
 go_upto_region 5 with (go_at_call 37;refine (HK.o.2.2.2 X3 H3.o.2.2.2.2.2.2.2).mono ?_;rintro e X4 ⟨A6,n6,c6,rfl,ho1,hB⟩;have H4:=hide (ai9 (ai9 ((H3.o.2.1.below hB).more hB.size) (ai9 ((H3.o.2.2.1.below hB).more hB.size) (ai9 ((H3.o.2.2.2.1.below hB).more hB.size) ((H3.o.2.2.2.2.1.below hB).more hB.size)))) (ai9 (ai9 ((H3.o.2.2.2.2.2.1.below hB).more hB.size) (ai9 H3.o.2.2.2.2.2.2.1 ho1)) (H3.o.2.2.2.2.2.2.2.trans (hB.mono H3.o.2.2.2.2.2.2.2.size))));clear ho1 hB)
 clear z0 z1 z2 z3 z4 z5 hgl
 obtain rfl:n5=n6:=H4.o.2.1.2.1.trans H4.o.2.1.2.2.1.symm
 have kp:=zK2 A1 A3 c1 c3 P P X4 X4.heap.size X4.heap.size H4.o.1.1 H4.o.1.2.2.1 (by have:=HL.o.1.1;rw [←HL.o.2.2.2.2.2.1];omega) (by have:=HL.o.1.1;rw [←HL.o.2.2.2.2.2.1];omega) HL.o.2.1 HL.o.2.1
 have kt:=fun (W:World) (hW:Below X4.heap.size X4 W)=>zCO A2 A4 c2 c4 T T W X4.heap.size X4.heap.size (H4.o.1.2.1.below hW) (H4.o.1.2.2.2.below hW) (by have:=HL.o.1.2;rw [←HL.o.2.2.2.2.2.2];omega) (by have:=HL.o.1.2;rw [←HL.o.2.2.2.2.2.2];omega) HL.o.2.2.1 HL.o.2.2.1
 have ke:=fun (W:World) (hW:Below X4.heap.size X4 W)=>zIH A5 A6 c5 c6 R R W X4.heap.size X4.heap.size (H4.o.2.1.1.below hW) (H4.o.2.1.2.2.2.below hW) (by have:=HL.o.2.2.2.2.1;omega) (by have:=HL.o.2.2.2.2.1;omega) HL.o.2.2.2.1 HL.o.2.2.2.1
 simp only [←HL.o.2.2.2.2.2.1,←HL.o.2.2.2.2.2.2,←H4.o.2.1.2.1,decide_true] at kp kt ke
 have HC:=hide (ai9 kp (ai9 kt ke))
 clear kp kt ke
 go_upto_region 6 with (go_at_call 24;refine HC.o.1.mono ?_;rintro e X5 ⟨rfl,k5,hX5⟩;have H5:=hide (show Below X4.heap.size X4 X5 from by rw [hX5];exact below_drewN (Below.refl X4.heap.size X4) k5);clear hX5)
 go_upto_region 7 with (go_at_call 25;refine (HC.o.2.1 _ H5.o).mono ?_;rintro e X6 ⟨rfl,k6,hX6⟩;have H6:=hide (show Below X4.heap.size X4 X6 from by rw [hX6];exact below_drewN H5.o k6);clear hX6)
 go_wp2_with (go_at_call 29;refine (HC.o.2.2 _ H6.o).mono ?_;rintro e X7 ⟨rfl,k7,hX7⟩;have H7:=hide (show Below w.heap.size w X7 from by rw [hX7];exact H4.o.2.2.trans ((below_drewN H6.o k7).mono H4.o.2.2.size));clear hX7)
 go_ret
 exact ⟨rfl,H7.o⟩
end Go.Proofs.YtmemofonebphfaaGreat
namespace Go.Proofs.YtmemofonebphfaaGreat
open Go.RowKit Go.Sort
structure CtE (w W:World) (g:Nat) (vp vt vc vo vd:Value) (c:Ctl):Prop where
 bel:Below w.heap.size w W
 b:Blk W g 32 (cMad vp vt vc vo c.steps vd)
 le:w.heap.size≤g
 p:Own encP 3 43 W w.heap.size vp c.points.length c.points
 t:Own yF 3 35 W w.heap.size vt c.tris.length c.tris
 cr:Own yH 2 56 W w.heap.size vc c.creases.length c.creases
 o:Own xH 1 3 W w.heap.size vo c.corners.length c.corners
 d:Pcs encP 3 43 28 W w.heap.size vd c.details
structure CtO (w W:World) (B g:Nat) (vp vt vc vo vd:Value) (c:Ctl):Prop where
 e:CtE w W g vp vt vc vo vd c
 lb:w.heap.size≤B∧B≤W.heap.size
 lp:∀r,vp.ownBlock=some r→r < B
 d:Pcs encP 3 43 28 W B vd c.details
section
variable {w W W':World} {B g:Nat} {vp vt vc vo vd:Value} {c:Ctl} {P T:List Pt} {C:List E2} {O:List Int} {D:List (List Pt)} {st:Int} {cs:Array Value}
theorem vO (hb:Blk W g 32 cs) {t:TypeId} (ht:t≠32) (b:Nat):∀r,(some g:Option Nat)=some r→r < b∨∀cs,W.heap[r]? ≠some (.cells cs t (0,0)):=fun r e=>by
 cases e
 refine .inr fun cs hc=> ?_
 have hb:W.heap[g]? =some (.cells _ _ (0,0)):=hb
 rw [hb] at hc
 cases hc
 exact ht rfl
theorem uC (hbel:Below w.heap.size w W) (hb:Blk W g 32 cs) (hle:w.heap.size≤g) (hp:Own encP 3 43 W w.heap.size vp P.length P) (ht:Own yF 3 35 W w.heap.size vt T.length T) (hc:Own yH 2 56 W w.heap.size vc C.length C) (ho:Own xH 1 3 W w.heap.size vo O.length O) (hd:Pcs encP 3 43 28 W w.heap.size vd D)
  (i:Nat) (v:Value) (hv:cs.setIfInBounds i v=cMad vp vt vc vo st vd):CtE w (W.setCell ⟨g,i,none⟩ v) g vp vt vc vo vd ⟨P,T,C,O,st,D⟩:=by
 have hg:=zG W g i v
 refine ⟨hbel.trans (yK hg hle hbel.size),?_,hle,hp.step hg (vO hb (by decide) _),ht.step hg (vO hb (by decide) _),hc.step hg (vO hb (by decide) _),ho.step hg (vO hb (by decide) _),hd.turn hg (fun t e=>vO hb (by rcases e with rfl | rfl <;>decide) _)⟩
 show Blk _ g _ (cMad vp vt vc vo st vd)
 rw [←hv]
 exact hb.set_ i v
theorem CtE.below (h:CtE w W g vp vt vc vo vd c) (hB:Below W.heap.size W W'):CtE w W' g vp vt vc vo vd c:=
 ⟨h.bel.trans (hB.mono h.bel.size),h.b.below hB h.b.lt,h.le,h.p.below hB lr9,h.t.below hB lr9,h.cr.below hB lr9,h.o.below hB lr9,h.d.below hB lr9⟩
theorem CtO.below (h:CtO w W B g vp vt vc vo vd c) (hB:Below W.heap.size W W'):CtO w W' B g vp vt vc vo vd c:=
 ⟨h.e.below hB,⟨h.lb.1,Nat.le_trans h.lb.2 hB.size⟩,h.lp,h.d.below hB lr9⟩
theorem CtE.row {α:Type} {enc:α→List Value} {k:Nat} {e:TypeId} {v:Value} {n b:Nat} {xs:List α} (h:CtE w W g vp vt vc vo vd c) (ho:Own enc k e W b v n xs) (hb:w.heap.size≤b) (h5:e≠32) (hg:W.grownBy W' v.ownBlock):Below w.heap.size w W'∧Blk W' g 32 (cMad vp vt vc vo c.steps vd):=
 ⟨h.bel.trans (qP hg (fun r hr=>Nat.le_trans hb (ho.blk r hr).1) h.bel.size),h.b.grown hg (zF h.b ho h5)⟩
theorem CtE.ap_t {v6:Value} {Q:List Pt} (h:CtE w W g vp vt vc vo vd c) (hg:W.grownBy W' vt.ownBlock) (ho:Own yF 3 35 W' w.heap.size v6 Q.length Q):CtE w (W'.setCell ⟨g,1,none⟩ v6) g vp v6 vc vo vd {c with tris:=Q}:=by
 obtain ⟨b1,b2⟩:=h.row h.t lr9 (by decide) hg
 exact uC b1 b2 h.le (h.p.step hg (zQ h.t (show (35:TypeId)≠43 by decide))) ho (h.cr.step hg (zQ h.t (show (35:TypeId)≠56 by decide))) (h.o.step hg (zQ h.t (show (35:TypeId)≠3 by decide))) (h.d.turn hg (fun t e=>zQ h.t (by rcases e with rfl | rfl <;>decide))) 1 v6 rfl
theorem CtO.ap_t {v6:Value} {Q:List Pt} (h:CtO w W B g vp vt vc vo vd c) (hg:W.grownBy W' vt.ownBlock) (ho:Own yF 3 35 W' w.heap.size v6 Q.length Q):CtO w (W'.setCell ⟨g,1,none⟩ v6) B g vp v6 vc vo vd {c with tris:=Q}:=by
 obtain ⟨b1,b2⟩:=h.e.row h.e.t lr9 (by decide) hg
 refine ⟨h.e.ap_t hg ho,⟨h.lb.1,Nat.le_trans h.lb.2 (Nat.le_trans hg.size (zG W' g 1 v6).size)⟩,h.lp,?_⟩
 exact (h.d.turn hg (fun t e=>by
  have key:=zQ h.e.t (show (35:TypeId)≠t by rcases e with rfl | rfl <;>decide)
  exact fun r hr=>(key r hr).imp (fun hlt=>Nat.lt_of_lt_of_le hlt h.lb.1) id)).turn (zG W' g 1 v6) (fun t e=>vO b2 (by rcases e with rfl | rfl <;>decide) _)
theorem CtE.in_t {Q:List Pt} (h:CtE w W g vp vt vc vo vd c) (hg:W.grownBy W' vt.ownBlock) (ho:Own yF 3 35 W' w.heap.size vt Q.length Q):CtE w W' g vp vt vc vo vd {c with tris:=Q}:=by
 obtain ⟨b1,b2⟩:=h.row h.t lr9 (by decide) hg
 exact ⟨b1,b2,h.le,(h.p.step hg (zQ h.t (show (35:TypeId)≠43 by decide))),ho,(h.cr.step hg (zQ h.t (show (35:TypeId)≠56 by decide))),(h.o.step hg (zQ h.t (show (35:TypeId)≠3 by decide))),(h.d.turn hg (fun t e=>zQ h.t (by rcases e with rfl | rfl <;>decide)))⟩
theorem CtE.ap_cr {v6:Value} {Q:List E2} (h:CtE w W g vp vt vc vo vd c) (hg:W.grownBy W' vc.ownBlock) (ho:Own yH 2 56 W' w.heap.size v6 Q.length Q):CtE w (W'.setCell ⟨g,2,none⟩ v6) g vp vt v6 vo vd {c with creases:=Q}:=by
 obtain ⟨b1,b2⟩:=h.row h.cr lr9 (by decide) hg
 exact uC b1 b2 h.le (h.p.step hg (zQ h.cr (show (56:TypeId)≠43 by decide))) (h.t.step hg (zQ h.cr (show (56:TypeId)≠35 by decide))) ho (h.o.step hg (zQ h.cr (show (56:TypeId)≠3 by decide))) (h.d.turn hg (fun t e=>zQ h.cr (by rcases e with rfl | rfl <;>decide))) 2 v6 rfl
theorem CtO.ap_cr {v6:Value} {Q:List E2} (h:CtO w W B g vp vt vc vo vd c) (hg:W.grownBy W' vc.ownBlock) (ho:Own yH 2 56 W' w.heap.size v6 Q.length Q):CtO w (W'.setCell ⟨g,2,none⟩ v6) B g vp vt v6 vo vd {c with creases:=Q}:=by
 obtain ⟨b1,b2⟩:=h.e.row h.e.cr lr9 (by decide) hg
 refine ⟨h.e.ap_cr hg ho,⟨h.lb.1,Nat.le_trans h.lb.2 (Nat.le_trans hg.size (zG W' g 2 v6).size)⟩,h.lp,?_⟩
 exact (h.d.turn hg (fun t e=>by
  have key:=zQ h.e.cr (show (56:TypeId)≠t by rcases e with rfl | rfl <;>decide)
  exact fun r hr=>(key r hr).imp (fun hlt=>Nat.lt_of_lt_of_le hlt h.lb.1) id)).turn (zG W' g 2 v6) (fun t e=>vO b2 (by rcases e with rfl | rfl <;>decide) _)
theorem CtE.ap_o {v6:Value} {Q:List Int} (h:CtE w W g vp vt vc vo vd c) (hg:W.grownBy W' vo.ownBlock) (ho:Own xH 1 3 W' w.heap.size v6 Q.length Q):CtE w (W'.setCell ⟨g,3,none⟩ v6) g vp vt vc v6 vd {c with corners:=Q}:=by
 obtain ⟨b1,b2⟩:=h.row h.o lr9 (by decide) hg
 exact uC b1 b2 h.le (h.p.step hg (zQ h.o (show (3:TypeId)≠43 by decide))) (h.t.step hg (zQ h.o (show (3:TypeId)≠35 by decide))) (h.cr.step hg (zQ h.o (show (3:TypeId)≠56 by decide))) ho (h.d.turn hg (fun t e=>zQ h.o (by rcases e with rfl | rfl <;>decide))) 3 v6 rfl
theorem CtO.ap_o {v6:Value} {Q:List Int} (h:CtO w W B g vp vt vc vo vd c) (hg:W.grownBy W' vo.ownBlock) (ho:Own xH 1 3 W' w.heap.size v6 Q.length Q):CtO w (W'.setCell ⟨g,3,none⟩ v6) B g vp vt vc v6 vd {c with corners:=Q}:=by
 obtain ⟨b1,b2⟩:=h.e.row h.e.o lr9 (by decide) hg
 refine ⟨h.e.ap_o hg ho,⟨h.lb.1,Nat.le_trans h.lb.2 (Nat.le_trans hg.size (zG W' g 3 v6).size)⟩,h.lp,?_⟩
 exact (h.d.turn hg (fun t e=>by
  have key:=zQ h.e.o (show (3:TypeId)≠t by rcases e with rfl | rfl <;>decide)
  exact fun r hr=>(key r hr).imp (fun hlt=>Nat.lt_of_lt_of_le hlt h.lb.1) id)).turn (zG W' g 3 v6) (fun t e=>vO b2 (by rcases e with rfl | rfl <;>decide) _)
theorem CtO.rowP (h:CtO w W B g vp vt vc vo vd c):∀t:TypeId,∀r,vp.ownBlock=some r→r < B∨∀cs,W.heap[r]? ≠some (.cells cs t (0,0)):=fun _ r hr=> .inl (h.lp r hr)
theorem CtO.ap_p {v6:Value} {Q:List Pt} (h:CtO w W B g vp vt vc vo vd c) (hg:W.grownBy W' vp.ownBlock) (ho:Own encP 3 43 W' w.heap.size v6 Q.length Q):CtE w (W'.setCell ⟨g,0,none⟩ v6) g v6 vt vc vo vd {c with points:=Q}:=by
 obtain ⟨b1,b2⟩:=h.e.row h.e.p lr9 (by decide) hg
 exact uC b1 b2 h.e.le ho (h.e.t.step hg (zQ h.e.p (show (43:TypeId)≠35 by decide))) (h.e.cr.step hg (zQ h.e.p (show (43:TypeId)≠56 by decide))) (h.e.o.step hg (zQ h.e.p (show (43:TypeId)≠3 by decide))) ((h.d.turn hg (fun t _=>h.rowP t)).base_le h.lb.1) 0 v6 rfl
theorem CtO.in_p {Q:List Pt} (h:CtO w W B g vp vt vc vo vd c) (hg:W.grownBy W' vp.ownBlock) (ho:Own encP 3 43 W' w.heap.size vp Q.length Q):CtE w W' g vp vt vc vo vd {c with points:=Q}:=by
 obtain ⟨b1,b2⟩:=h.e.row h.e.p lr9 (by decide) hg
 exact ⟨b1,b2,h.e.le,ho,(h.e.t.step hg (zQ h.e.p (show (43:TypeId)≠35 by decide))),(h.e.cr.step hg (zQ h.e.p (show (43:TypeId)≠56 by decide))),(h.e.o.step hg (zQ h.e.p (show (43:TypeId)≠3 by decide))),(h.d.turn hg (fun t _=>h.rowP t)).base_le h.lb.1⟩
theorem CtE.ap_p0 {v6:Value} {Q:List Pt} (h:CtE w W g vp vt vc vo (.slice none 0 0) ⟨P,T,C,O,st, []⟩) (hg:W.grownBy W' vp.ownBlock) (ho:Own encP 3 43 W' w.heap.size v6 Q.length Q):CtO w (W'.setCell ⟨g,0,none⟩ v6) W'.heap.size g v6 vt vc vo (.slice none 0 0) ⟨Q,T,C,O,st, []⟩:=by
 obtain ⟨b1,b2⟩:=h.row h.p lr9 (by decide) hg
 exact ⟨uC b1 b2 h.le ho (h.t.step hg (zQ h.p (show (43:TypeId)≠35 by decide))) (h.cr.step hg (zQ h.p (show (43:TypeId)≠56 by decide))) (h.o.step hg (zQ h.p (show (43:TypeId)≠3 by decide))) Pcs.nil 0 v6 rfl,⟨b1.size,(zG W' g 0 v6).size⟩,fun r hr=>(ho.blk r hr).2,Pcs.nil⟩
theorem CtE.low9 (h:CtE w W g vp vt vc vo vd c) (st':Int):CtE w (W.setCell ⟨g,4,none⟩ (.int .i64 st')) g vp vt vc vo vd {c with steps:=st'}:=
 uC h.bel h.b h.le h.p h.t h.cr h.o h.d 4 _ rfl
theorem CtO.ap_d {ss:List Hdr} {v6:Value} {A:Option Addr} {k:Nat} {x:List Pt} (h:CtO w W B g vp vt vc vo vd c) (hos:Own encS 1 28 W B vd c.details.length ss) (hps:∀(i:Nat) (p:List Pt),c.details[i]? =some p→∃A k,ss[i]? =some (A,p.length,k)∧Own encP 3 43 W B (.slice A p.length k) p.length p)
  (hx:Own encP 3 43 W B (.slice A x.length k) x.length x) (hg:W.grownBy W' vd.ownBlock) (ho:Own encS 1 28 W' B v6 (c.details.length+1) (ss++ [(A,x.length,k)])):CtO w (W'.setCell ⟨g,5,none⟩ v6) B g vp vt vc vo v6 {c with details:=c.details++ [x]}:=by
 obtain ⟨b1,b2⟩:=h.e.row hos h.lb.1 (by decide) hg
 have hp:=Pcs.snoc (show (28:TypeId)≠43 by decide) hos hps hx hg ho
 have key:∀t:TypeId,28≠t→∀r,vd.ownBlock=some r→r < w.heap.size∨∀cs,W.heap[r]? ≠some (.cells cs t (0,0)):=fun t ht=>zQ (hos.base_le h.lb.1) ht
 exact ⟨uC b1 b2 h.e.le (h.e.p.step hg (key _ (by decide))) (h.e.t.step hg (key _ (by decide))) (h.e.cr.step hg (key _ (by decide))) (h.e.o.step hg (key _ (by decide))) (hp.base_le h.lb.1) 5 v6 rfl,⟨h.lb.1,Nat.le_trans h.lb.2 (Nat.le_trans hg.size (zG W' g 5 v6).size)⟩,h.lp,hp.turn (zG W' g 5 v6) (fun t e=>vO b2 (by rcases e with rfl | rfl <;>decide) _)⟩
theorem CtE.in_d {v6:Value} (h:CtE w W g vp vt vc vo vd c) (hd:Pcs encP 3 43 28 W w.heap.size v6 D):CtE w (W.setCell ⟨g,5,none⟩ v6) g vp vt vc vo v6 {c with details:=D}:=
 uC h.bel h.b h.le h.p h.t h.cr h.o hd 5 v6 rfl
end
def CpyR (w w':World) (c:Ctl) (e:Ending):Prop:=
 ∃(B:Nat) (Ap At Ac Ao Ad:Option Addr) (cp ct cc oc dc:Nat),e= .returned (vCtl Ap c.points.length cp At c.tris.length ct Ac c.creases.length cc Ao c.corners.length oc c.steps Ad c.details.length dc)∧
  Own yF 3 35 w' w.heap.size (.slice At c.tris.length ct) c.tris.length c.tris∧Own encP 3 43 w' w.heap.size (.slice Ap c.points.length cp) c.points.length c.points∧Own yH 2 56 w' w.heap.size (.slice Ac c.creases.length cc) c.creases.length c.creases∧
  Own xH 1 3 w' w.heap.size (.slice Ao c.corners.length oc) c.corners.length c.corners∧Pcs encP 3 43 28 w' B (.slice Ad c.details.length dc) c.details∧(w.heap.size≤B∧B≤w'.heap.size∧∀r,(Value.slice Ap c.points.length cp).ownBlock=some r→r < B)∧Below w.heap.size w w'
theorem CtO.res {w0 w W W':World} {B g g2:Nat} {vp vt vc vo vd:Value} {c:Ctl} (h:CtO w W B g vp vt vc vo vd c) (hw:Below w0.heap.size w0 w) (hg2:w0.heap.size≤g2) (hlt:g2 < w.heap.size) (hg:W.grownBy W' (some g2)):CpyR w0 W' c (.returned (.agg (cMad vp vt vc vo c.steps vd))):=by
 obtain ⟨Ap,cp,e1⟩:=h.e.p.form
 obtain ⟨At,ct,e2⟩:=h.e.t.form
 obtain ⟨Ac,cc,e3⟩:=h.e.cr.form
 obtain ⟨Ao,oc,e4⟩:=h.e.o.form
 obtain ⟨Ad,dc,e5⟩:=h.d.form
 subst e1 e2 e3 e4 e5
 have hr:∀r,(some g2:Option Nat)=some r→r < w.heap.size:=fun r e=>by cases e;exact hlt
 exact ⟨B,Ap,At,Ac,Ao,Ad,cp,ct,cc,oc,dc,rfl,(h.e.t.step hg (fun r e=> .inl (hr r e))).base_le hw.size,(h.e.p.step hg (fun r e=> .inl (hr r e))).base_le hw.size,(h.e.cr.step hg (fun r e=> .inl (hr r e))).base_le hw.size,(h.e.o.step hg (fun r e=> .inl (hr r e))).base_le hw.size,h.d.turn hg (fun _ _ r e=> .inl (Nat.lt_of_lt_of_le (hr r e) h.lb.1)),⟨Nat.le_trans hw.size h.lb.1,Nat.le_trans h.lb.2 hg.size,h.lp⟩,(hw.trans (h.e.bel.mono hw.size)).trans (yK hg hg2 (Nat.le_trans hw.size h.e.bel.size))⟩
theorem CtE.res {w0 w W W':World} {g g2:Nat} {vp vt vc vo vd:Value} {c:Ctl} (h:CtE w W g vp vt vc vo vd c) (hw:Below w0.heap.size w0 w) (hg2:w0.heap.size≤g2) (hlt:g2 < w.heap.size) (hg:W.grownBy W' (some g2)):MadR w0 W' c (.returned (.agg (cMad vp vt vc vo c.steps vd))):=by
 obtain ⟨Ap,cp,e1⟩:=h.p.form
 obtain ⟨At,ct,e2⟩:=h.t.form
 obtain ⟨Ac,cc,e3⟩:=h.cr.form
 obtain ⟨Ao,oc,e4⟩:=h.o.form
 obtain ⟨Ad,dc,e5⟩:=h.d.form
 subst e1 e2 e3 e4 e5
 have hr:∀r,(some g2:Option Nat)=some r→r < w.heap.size:=fun r e=>by cases e;exact hlt
 exact ⟨Ap,At,Ac,Ao,Ad,cp,ct,cc,oc,dc,rfl,(h.t.step hg (fun r e=> .inl (hr r e))).base_le hw.size,(h.p.step hg (fun r e=> .inl (hr r e))).base_le hw.size,(h.cr.step hg (fun r e=> .inl (hr r e))).base_le hw.size,(h.o.step hg (fun r e=> .inl (hr r e))).base_le hw.size,(h.d.turn hg (fun _ _ r e=> .inl (hr r e))).base_le hw.size,(hw.trans (h.bel.mono hw.size)).trans (yK hg hg2 (Nat.le_trans hw.size h.bel.size))⟩
end Go.Proofs.YtmemofonebphfaaGreat
namespace Go.Proofs.YtmemofonebphfaaGreat
open Go.RowKit Go.Sort
theorem zMB:(Tryz.prog.info? 28).map (fun i=>(i.zero,i.size,i.bytes))=some (some (.slice none 0 0),1,24):=by kernel_rfl
set_option maxRecDepth 100000 in set_option maxHeartbeats 64000000 in
theorem zCL (Ap At Ac Ao Ad:Option Addr) (cp ct cc oc dc:Nat) (c:Ctl) (w:World) (hm:CtlM w w.heap.size Ap At Ac Ao Ad c) (hb:CtlB c):
  Calls Tryz.prog 21 #[vCtl Ap c.points.length cp At c.tris.length ct Ac c.creases.length cc Ao c.corners.length oc c.steps Ad c.details.length dc] w fun e w'=>CpyR w w' c e:=by
 obtain ⟨P,T,C,O,st,D⟩:=c
 obtain ⟨hbp,hbt,hbc,hbo,hbd,hbdd⟩:=hb
 dsimp only at hbp hbt hbc hbo hbd hbdd⊢
 obtain ⟨np,hnp⟩:=ex9 (P.length)
 obtain ⟨nt,hnt⟩:=ex9 (T.length)
 obtain ⟨nc,hnc⟩:=ex9 (C.length)
 obtain ⟨no,hno⟩:=ex9 (O.length)
 obtain ⟨nd,hnd⟩:=ex9 (D.length)
 rw [←hnp] at hbp
 rw [←hnt] at hbt
 rw [←hnc] at hbc
 rw [←hno] at hbo
 rw [←hnd] at hbd
 rw [←hnp,←hnt,←hnc,←hno,←hnd]
 have HN:=hide (ai9 hnp (ai9 hnt (ai9 hnc (ai9 hno hnd))))
 have HM:=hide (ai9 hm hbdd)
 clear hm hbdd hnp hnt hnc hno hnd
 go_enter Tryz.func21,Tryz.ntmps21
 go_upto_region 1 with fail
 obtain ⟨g1,hg1⟩:=ex9 (w.heap.size)
 obtain ⟨g2,hg2⟩:=ex9 (w.heap.size+1)
 obtain ⟨X0,hX⟩:=ex9 ((w.alloc (.cells (cCtl Ap np cp At nt ct Ac nc cc Ao no oc st Ad nd dc) 32)).alloc (.cells (cCtl none 0 0 none 0 0 none 0 0 none 0 0 0 none 0 0) 32))
 rw [←hX,←hg2,←hg1]
 have hb1:Blk X0 g1 32 (cCtl Ap np cp At nt ct Ac nc cc Ao no oc st Ad nd dc):=by rw [hX,hg1];exact (Blk.new _ _ _).alloc _
 have hb2:Blk X0 g2 32 (cCtl none 0 0 none 0 0 none 0 0 none 0 0 0 none 0 0):=by rw [hX,hg2];exact Blk.new' _ _ _ _ (by simp)
 have hBX:Below w.heap.size w X0:=by rw [hX];exact ((Below.refl _ w).alloc lr9 _).alloc (by simp) _
 have hmX:CtlM X0 X0.heap.size Ap At Ac Ao Ad ⟨P,T,C,O,st,D⟩:=HM.o.1.below hBX hBX.size
 have c4:X0.cell? ⟨g1,4,none⟩=some (.int .i64 st):=hb1.cell 4
 have hgl:=hb1.lt
 have H0:=hide (ai9 hb1 (ai9 hb2 (ai9 hBX (ai9 hmX (show w.heap.size≤g2 by omega)))))
 clear hb1 hb2 hBX hX hg1 hg2 hmX
 go_upto_region 2 with fail
 obtain ⟨g3,hg3⟩:=ex9 (X0.heap.size)
 obtain ⟨X2,hX2⟩:=ex9 (X0.alloc (.cells (cMad (.slice none 0 0) (.slice none 0 0) (.slice none 0 0) (.slice none 0 0) st (.slice none 0 0)) 32))
 rw [←hX2,←hg3]
 have hBa:Below X0.heap.size X0 X2:=by rw [hX2];exact (Below.refl _ _).alloc lr9 _
 have hS2:CtE X0 X2 g3 (.slice none 0 0) (.slice none 0 0) (.slice none 0 0) (.slice none 0 0) (.slice none 0 0) ⟨[], [], [], [],st, []⟩:=⟨hBa,by rw [hX2,hg3];exact Blk.new _ _ _,by omega,Own.nil,Own.nil,Own.nil,Own.nil,Pcs.nil⟩
 have HS2:=hide hS2
 clear hS2 hX2 hg3 hBa c4 hgl
 have c1:X2.cell? ⟨g1,0,none⟩=some (.slice Ap np cp):=((HS2.o.bel).cell (p:=⟨g1,0,none⟩) H0.o.1.lt).trans (H0.o.1.cell 0)
 have c3:X2.cell? ⟨g3,0,none⟩=some (.slice none 0 0):=HS2.o.b.cell 0
 have hg1l:g1 < X2.heap.size:=Nat.lt_of_lt_of_le H0.o.1.lt HS2.o.bel.size
 have hg3l:=HS2.o.b.lt
 have hXl:=HS2.o.bel.size
 go_upto_region 3 with (at_builtin;refine zI rfl _ _ _ rfl Tryz.underlying28 bC rfl (by omega) zO yQ rfl HS2.o.p Ap cp X0.heap.size P (by rw [←HN.o.1];rfl) (H0.o.2.2.2.1.p.below HS2.o.bel) (by rw [←HN.o.1];simp only [List.length_nil];unfold maxLen;omega) (by rw [←HN.o.1];simp only [List.length_nil];omega) hXl ?_;intro v6 w6 hown6 hg6 hB6 hat6;rw [List.length_nil,Nat.zero_add,List.nil_append] at hown6;obtain ⟨B0,b0,rfl⟩:∃A c,v6= .slice A np c:=(by have h:=hown6.form;rw [←HN.o.1] at h;exact h);have hS6:=HS2.o.ap_p0 hg6 hown6;have h61:=HS2.o.b.grown hg6 (zF HS2.o.b HS2.o.p (show (43:TypeId)≠32 by decide));have f6:=h61.frozen 0;have hl6:=h61.lt;have c7:=h61.cell 0;have H6:=hide hS6;clear hown6 hg6 hB6 hat6 hS6 h61)
 obtain ⟨X3,hX3⟩:=ex9 (w6.setCell ⟨g3,0,none⟩ (.slice B0 np b0))
 try rw [←hX3]
 obtain ⟨B,hBw⟩:=ex9 (w6.heap.size)
 have HS3:=hide (show CtO X0 X3 B g3 (.slice B0 np b0) (.slice none 0 0) (.slice none 0 0) (.slice none 0 0) (.slice none 0 0) ⟨P, [], [], [],st, []⟩ from by
  rw [hX3]
  rw [hBw]
  exact H6.o)
 clear H6 f6 hl6 c7 c1 c3 hg1l hg3l hXl hX3 hBw
 have c1:X3.cell? ⟨g1,1,none⟩=some (.slice At nt ct):=((HS3.o.e.bel).cell (p:=⟨g1,1,none⟩) H0.o.1.lt).trans (H0.o.1.cell 1)
 have c3:X3.cell? ⟨g3,1,none⟩=some (.slice none 0 0):=HS3.o.e.b.cell 1
 have hg1l:g1 < X3.heap.size:=Nat.lt_of_lt_of_le H0.o.1.lt HS3.o.e.bel.size
 have hg3l:=HS3.o.e.b.lt
 have hXl:=HS3.o.e.bel.size
 go_upto_region 4 with (at_builtin;refine zI rfl _ _ _ rfl Tryz.underlying22 fE rfl (by omega) zS vX rfl HS3.o.e.t At ct X0.heap.size T (by rw [←HN.o.2.1];rfl) (H0.o.2.2.2.1.t.below HS3.o.e.bel) (by rw [←HN.o.2.1];simp only [List.length_nil];unfold maxLen;omega) (by rw [←HN.o.2.1];simp only [List.length_nil];omega) hXl ?_;intro v6 w6 hown6 hg6 hB6 hat6;rw [List.length_nil,Nat.zero_add,List.nil_append] at hown6;obtain ⟨B1,b1,rfl⟩:∃A c,v6= .slice A nt c:=(by have h:=hown6.form;rw [←HN.o.2.1] at h;exact h);have hS6:=HS3.o.ap_t hg6 hown6;have h61:=HS3.o.e.b.grown hg6 (zF HS3.o.e.b HS3.o.e.t (show (35:TypeId)≠32 by decide));have f6:=h61.frozen 1;have hl6:=h61.lt;have c7:=h61.cell 1;have H6:=hide hS6;clear hown6 hg6 hB6 hat6 hS6 h61)
 obtain ⟨X4,hX4⟩:=ex9 (w6.setCell ⟨g3,1,none⟩ (.slice B1 nt b1))
 try rw [←hX4]
 have HS4:=hide (show CtO X0 X4 B g3 (.slice B0 np b0) (.slice B1 nt b1) (.slice none 0 0) (.slice none 0 0) (.slice none 0 0) ⟨P,T, [], [],st, []⟩ from by
  rw [hX4]
  skip
  exact H6.o)
 clear H6 f6 hl6 c7 c1 c3 hg1l hg3l hXl hX4
 have c1:X4.cell? ⟨g1,2,none⟩=some (.slice Ac nc cc):=((HS4.o.e.bel).cell (p:=⟨g1,2,none⟩) H0.o.1.lt).trans (H0.o.1.cell 2)
 have c3:X4.cell? ⟨g3,2,none⟩=some (.slice none 0 0):=HS4.o.e.b.cell 2
 have hg1l:g1 < X4.heap.size:=Nat.lt_of_lt_of_le H0.o.1.lt HS4.o.e.bel.size
 have hg3l:=HS4.o.e.b.lt
 have hXl:=HS4.o.e.bel.size
 go_upto_region 5 with (at_builtin;refine zI rfl _ _ _ rfl Tryz.underlying29 jB rfl (by omega) zU yO rfl HS4.o.e.cr Ac cc X0.heap.size C (by rw [←HN.o.2.2.1];rfl) (H0.o.2.2.2.1.cr.below HS4.o.e.bel) (by rw [←HN.o.2.2.1];simp only [List.length_nil];unfold maxLen;omega) (by rw [←HN.o.2.2.1];simp only [List.length_nil];omega) hXl ?_;intro v6 w6 hown6 hg6 hB6 hat6;rw [List.length_nil,Nat.zero_add,List.nil_append] at hown6;obtain ⟨B2,b2,rfl⟩:∃A c,v6= .slice A nc c:=(by have h:=hown6.form;rw [←HN.o.2.2.1] at h;exact h);have hS6:=HS4.o.ap_cr hg6 hown6;have h61:=HS4.o.e.b.grown hg6 (zF HS4.o.e.b HS4.o.e.cr (show (56:TypeId)≠32 by decide));have f6:=h61.frozen 2;have hl6:=h61.lt;have c7:=h61.cell 2;have H6:=hide hS6;clear hown6 hg6 hB6 hat6 hS6 h61)
 obtain ⟨X5,hX5⟩:=ex9 (w6.setCell ⟨g3,2,none⟩ (.slice B2 nc b2))
 try rw [←hX5]
 have HS5:=hide (show CtO X0 X5 B g3 (.slice B0 np b0) (.slice B1 nt b1) (.slice B2 nc b2) (.slice none 0 0) (.slice none 0 0) ⟨P,T,C, [],st, []⟩ from by
  rw [hX5]
  skip
  exact H6.o)
 clear H6 f6 hl6 c7 c1 c3 hg1l hg3l hXl hX5
 have c1:X5.cell? ⟨g1,3,none⟩=some (.slice Ao no oc):=((HS5.o.e.bel).cell (p:=⟨g1,3,none⟩) H0.o.1.lt).trans (H0.o.1.cell 3)
 have c3:X5.cell? ⟨g3,3,none⟩=some (.slice none 0 0):=HS5.o.e.b.cell 3
 have hg1l:g1 < X5.heap.size:=Nat.lt_of_lt_of_le H0.o.1.lt HS5.o.e.bel.size
 have hg3l:=HS5.o.e.b.lt
 have hXl:=HS5.o.e.bel.size
 go_upto_region 6 with (at_builtin;refine zI rfl _ _ _ rfl Tryz.underlying23 zD1 rfl (by omega) xP uF rfl HS5.o.e.o Ao oc X0.heap.size O (by rw [←HN.o.2.2.2.1];rfl) (H0.o.2.2.2.1.o.below HS5.o.e.bel) (by rw [←HN.o.2.2.2.1];simp only [List.length_nil];unfold maxLen;omega) (by rw [←HN.o.2.2.2.1];simp only [List.length_nil];omega) hXl ?_;intro v6 w6 hown6 hg6 hB6 hat6;rw [List.length_nil,Nat.zero_add,List.nil_append] at hown6;obtain ⟨B3,b3,rfl⟩:∃A c,v6= .slice A no c:=(by have h:=hown6.form;rw [←HN.o.2.2.2.1] at h;exact h);have hS6:=HS5.o.ap_o hg6 hown6;have h61:=HS5.o.e.b.grown hg6 (zF HS5.o.e.b HS5.o.e.o (show (3:TypeId)≠32 by decide));have f6:=h61.frozen 3;have hl6:=h61.lt;have c7:=h61.cell 3;have H6:=hide hS6;clear hown6 hg6 hB6 hat6 hS6 h61)
 obtain ⟨X6,hX6⟩:=ex9 (w6.setCell ⟨g3,3,none⟩ (.slice B3 no b3))
 try rw [←hX6]
 have HS6:=hide (show CtO X0 X6 B g3 (.slice B0 np b0) (.slice B1 nt b1) (.slice B2 nc b2) (.slice B3 no b3) (.slice none 0 0) ⟨P,T,C,O,st, []⟩ from by
  rw [hX6]
  skip
  exact H6.o)
 clear H6 f6 hl6 c7 c1 c3 hg1l hg3l hXl hX6
 go_upto_region 7 with fail
 go_loopw [4] (fun iv wr=>∃(k:Nat) (vd:Value),k≤nd∧iv= .int .i64 k∧CtO X0 wr B g3 (.slice B0 np b0) (.slice B1 nt b1) (.slice B2 nc b2) (.slice B3 no b3) vd ⟨P,T,C,O,st,D.take k⟩) (fun iv _=>nd - (intOf iv).toNat)
 case atStart=>exact ⟨0,_,by omega,rfl,HS6.o⟩
 case round=>
  obtain ⟨k,vd,hk,rfl,hS⟩:=hrel
  obtain ⟨V,rfl⟩:=ex9 (wr)
  have c1:V.cell? ⟨g1,5,none⟩=some (.slice Ad nd dc):=(hS.e.bel.cell (p:=⟨g1,5,none⟩) H0.o.1.lt).trans (H0.o.1.cell 5)
  have hg1l:g1 < V.heap.size:=Nat.lt_of_lt_of_le H0.o.1.lt hS.e.bel.size
  by_cases hlt:k < nd
  ·have k1:(k:Int) < (nd:Int):=by omega
   obtain ⟨d,hd⟩:∃d,D[k]? =some d:=⟨_,List.getElem?_eq_getElem (by rw [←HN.o.2.2.2.2];exact hlt)⟩
   have hdl:=HM.o.2 d (List.mem_of_getElem? hd)
   have hkl:(D.take k).length=k:=by rw [List.length_take,←HN.o.2.2.2.2];omega
   have htk:D.take (k+1)=D.take k++ [d]:=by rw [List.take_add_one,hd];rfl
   obtain ⟨bd,od,Ax,kx,hA,hbd,hcd,hsd⟩:=H0.o.2.2.2.1.det hd
   subst hA
   have hsdV:=hsd.below hS.e.bel
   obtain ⟨ss,hos,hps⟩:=hS.d
   dsimp only at hos hps
   rw [hkl] at hos
   obtain ⟨Av,kv,rfl⟩:=hos.form
   obtain ⟨dl,hdn⟩:=ex9 (d.length)
   rw [←hdn] at hdl hcd
   have hBV:B≤V.heap.size:=hS.lb.2
   have HS:=hide (ai9 hS (ai9 hos (ai9 hps (ai9 hsdV (ai9 hkl (ai9 htk hdn))))))
   have HC:=hide (ai9 hcd hbd)
   clear hS hos hps hsdV hkl htk hdn hsd hcd hbd hd
   go_upto_region 9 with fail
   clear c1 hg1l
   have HSB:=hide (show Blk V.drew g3 32 (cMad (.slice B0 np b0) (.slice B1 nt b1) (.slice B2 nc b2) (.slice B3 no b3) st (.slice Av k kv))∧Below X0.heap.size X0 V.drew from ⟨HS.o.1.e.b,HS.o.1.e.bel.drew⟩)
   refine zB (fun W=>Blk W g3 32 (cMad (.slice B0 np b0) (.slice B1 nt b1) (.slice B2 nc b2) (.slice B3 no b3) st (.slice Av k kv))∧Below X0.heap.size X0 W) [0,1,3,4,5,6,7] [0,1,3,4,5,6,7,2,8,9,10,11,12] zL (by kernel_rfl) ?_
   refine zA (v:=(.pointer (some ⟨g3,5,none⟩))) rfl rfl (fun _ _ _ h=>h) HSB.o ⟨rfl,fun _ _=>by simp [go_sem]⟩ ?_
   refine zA (v:=(.slice Av k kv)) rfl rfl (fun _ _ _ h=>h) HSB.o ⟨rfl,fun _ h'=>by have a0:=h'.1.cell 5;simp only [List.getElem?_toArray,List.getElem?_cons_zero,List.getElem?_cons_succ] at a0;simp [go_sem,a0]⟩ ?_
   refine zA (v:=(.pointer (some ⟨g1,5,none⟩))) rfl rfl (fun _ _ _ h=>h) HSB.o ⟨rfl,fun _ _=>by simp [go_sem]⟩ ?_
   refine zA (v:=(.slice (some ⟨bd,od,none⟩) nd dc)) rfl rfl (fun _ _ _ h=>h) HSB.o ⟨rfl,fun _ h'=>by have a0:=(h'.2.cell (p:=⟨g1,5,none⟩) H0.o.1.lt).trans (H0.o.1.cell 5);simp only [List.getElem?_toArray,List.getElem?_cons_zero,List.getElem?_cons_succ] at a0;simp [go_sem,a0]⟩ ?_
   refine zA (v:=(.int .i64 k)) rfl rfl (fun _ _ _ h=>h) HSB.o ⟨rfl,fun _ _=>by simp [go_sem]⟩ ?_
   refine zA (v:=(.pointer (some ⟨bd,od+k,none⟩))) rfl rfl (fun _ _ _ h=>h) HSB.o ⟨rfl,fun _ _=>by simp [go_sem,k1]⟩ ?_
   simp only [List.getElem_toArray,List.getElem_cons_succ,List.getElem_cons_zero,Act.put,List.setIfInBounds_toArray,List.set_cons_succ,List.set_cons_zero]
   refine zA (v:=(.slice Ax dl kx)) rfl rfl (fun _ _ _ h=>h) HSB.o ⟨rfl,fun _ h'=>by have a0:=(h'.2.cell (p:=⟨bd,od+k,none⟩) HC.o.2).trans HC.o.1;simp [go_sem,a0]⟩ ?_
   simp only [List.getElem_toArray,List.getElem_cons_succ,List.getElem_cons_zero,Act.put,List.setIfInBounds_toArray,List.set_cons_succ,List.set_cons_zero]
   refine zD rfl rfl ?_
   go_wp2_with fail
   refine ⟨fun _=>⟨HSB.o.1.alloc _,HSB.o.2.alloc (Nat.le_trans HS.o.1.lb.1 hBV) _⟩,?_⟩
   refine zD rfl rfl ?_
   have hE:Own encP 3 43 (V.drew.alloc (.cells #[] 43)) B (.slice (some ⟨V.heap.size,0,none⟩) 0 0) 0 ([]:List Pt):=bI rfl hBV
   have hal:Below V.heap.size V (V.drew.alloc (.cells #[] 43)):=(Below.refl _ V).drew.alloc lr9 _
   have HE:=hide (ai9 hE hal)
   clear hE hal
   have hXV:X0.heap.size≤V.heap.size:=Nat.le_trans HS.o.1.lb.1 hBV
   refine zI rfl _ _ _ rfl Tryz.underlying28 bC rfl (by omega) zO yQ rfl HE.o.1 Ax kx X0.heap.size d (by rw [←HS.o.2.2.2.2.2.2];rfl) (HS.o.2.2.2.1.below (HE.o.2.mono hXV)) (by rw [←HS.o.2.2.2.2.2.2];unfold maxLen;omega) (by rw [←HS.o.2.2.2.2.2.2];omega) (Nat.le_trans hBV HE.o.2.size) ?_
   intro v5 w5 hown5 hg5 hB5 hat5
   rw [Nat.zero_add,List.nil_append] at hown5
   have hbl:∀r,(Value.slice (some ⟨V.heap.size,0,none⟩) 0 0).ownBlock=some r→V.heap.size≤r:=fun r hr=>by cases hr;exact Nat.le_refl _
   have hV5:Below V.heap.size V w5:=HE.o.2.trans (qP hg5 hbl HE.o.2.size)
   rw [←HS.o.2.2.2.2.2.2] at hown5
   obtain ⟨Ay,ky,rfl⟩:=hown5.form
   have H5:=hide (ai9 hown5 hV5)
   clear hown5 hg5 hB5 hat5 hbl hV5
   go_wp2_with fail
   refine ⟨fun _=>⟨HS.o.1.e.b.below H5.o.2 HS.o.1.e.b.lt,HS.o.1.e.bel.trans (H5.o.2.mono hXV)⟩,?_⟩
   refine zD rfl rfl ?_
   go_wp2_with fail
   obtain ⟨Y,hY⟩:=ex9 (w5.alloc (.cells #[.slice Ay dl ky] 28))
   rw [←hY]
   have hBY:Below w5.heap.size w5 Y:=by rw [hY];exact (Below.refl _ _).alloc lr9 _
   have hKY:Blk Y w5.heap.size 28 #[.slice Ay dl ky]:=by rw [hY];exact Blk.new _ _ _
   have hVY:Below V.heap.size V Y:=H5.o.2.trans (hBY.mono H5.o.2.size)
   have hpsY:∀(i:Nat) (p:List Pt),(D.take k)[i]? =some p→∃A c,ss[i]? =some (A,p.length,c)∧Own encP 3 43 Y B (.slice A p.length c) p.length p:=fun i p hi=>by
    obtain ⟨A,c,h1,h2⟩:=HS.o.2.2.1 i p hi
    exact ⟨A,c,h1,h2.below hVY lr9⟩
   have HY:=hide (ai9 (HS.o.1.below hVY) (ai9 (HS.o.2.1.below hVY lr9) (ai9 hpsY (ai9 (H5.o.1.below hBY lr9) (ai9 hKY (ai9 hVY.size hY))))))
   clear hBY hKY hVY hY hpsY
   refine ⟨fun _=>⟨HY.o.1.e.b,HY.o.1.e.bel⟩,?_⟩
   refine zJ _ [_,_,_] (by kernel_rfl) rfl ?_
   clear HSB
   refine zC rfl _ _ _ rfl Tryz.underlying30 zMB rfl (by omega) fU zBP rfl HY.o.2.1 w5.heap.size 1 (Ay,dl,ky) rfl HY.o.2.2.2.2.1 (by unfold maxLen;omega) (by omega) (Nat.le_trans hBV HY.o.2.2.2.2.2.1) ?_
   intro g6 cap6 w6 hown6 hg6 hB6 hat6 hgb6 hlt6
   have hS6:=HY.o.1.ap_d (x:=d) (A:=Ay) (k:=ky) (by show Own _ _ _ _ _ _ (D.take k).length _;rw [HS.o.2.2.2.2.1];exact HY.o.2.1) HY.o.2.2.1 (by rw [←HS.o.2.2.2.2.2.2];exact HY.o.2.2.2.1) hg6 (by show Own _ _ _ _ _ _ ((D.take k).length+1) _;rw [HS.o.2.2.2.2.1,←HS.o.2.2.2.2.2.2];exact hown6)
   have h61:=HY.o.1.e.b.grown hg6 (zF HY.o.1.e.b HY.o.2.1 (show (28:TypeId)≠32 by decide))
   have f6:=h61.frozen 5
   have hl6:=h61.lt
   have c7:=h61.cell 5
   dsimp only at hS6
   rw [←HS.o.2.2.2.2.2.1] at hS6
   have H6:=hide hS6
   clear hown6 hg6 hB6 hat6 hgb6 hlt6 hS6 h61
   go_wp2
   go_roundw
   case rel=>repeat (first | exact ⟨k+1,_,by omega,by go_num,H6.o⟩ | (refine ⟨?_,rfl⟩;exact ⟨k+1,_,by omega,by go_num,H6.o⟩) | apply Exists.intro)
   case measure=>(simp [intOf];try omega)
  ·obtain rfl:k=nd:=by omega
   have k1:¬(k:Int) < (k:Int):=by omega
   have htk:D.take k=D:=List.take_of_length_le (by rw [←HN.o.2.2.2.2];exact Nat.le_refl _)
   rw [htk] at hS
   obtain ⟨Av,kv,rfl⟩:∃A c,vd= .slice A k c:=by have h:=hS.d.form;dsimp only at h;rw [←HN.o.2.2.2.2] at h;exact h
   obtain ⟨z0,z1,z2,z3,z4,z5⟩:=hS.e.b.six9
   have hg3l:=hS.e.b.lt
   have hV2:=H0.o.2.1.below hS.e.bel H0.o.2.1.lt
   obtain ⟨e0,e1,e2,e3,e4,e5⟩:=hV2.six9
   have hg2l:=hV2.lt
   have f0:=hV2.frozen 0
   have f1:=hV2.frozen 1
   have f2:=hV2.frozen 2
   have f3:=hV2.frozen 3
   have f4:=hV2.frozen 4
   have f5:=hV2.frozen 5
   have HV:=hide (ai9 hS hV2)
   clear hS htk hV2
   go_wp2
   have hE:=(((((HV.o.2.set_ 0 (.slice B0 np b0)).set_ 1 (.slice B1 nt b1)).set_ 2 (.slice B2 nc b2)).set_ 3 (.slice B3 no b3)).set_ 4 (.int .i64 st)).set_ 5 (.slice Av k kv)
   refine yX (v:= .agg (cMad (.slice B0 np b0) (.slice B1 nt b1) (.slice B2 nc b2) (.slice B3 no b3) st (.slice Av k kv))) (fun W=>Blk W g2 32 (cMad (.slice B0 np b0) (.slice B1 nt b1) (.slice B2 nc b2) (.slice B3 no b3) st (.slice Av k kv))) hE (fun W hW=> ?_) rfl ?_
   ·obtain ⟨a0,a1,a2,a3,a4,a5⟩:=hW.six9
    simp [results,Tryz.results21,go_sem,a0,a1,a2,a3,a4,a5]
    try trivial
   ·exact HV.o.1.res H0.o.2.2.1 H0.o.2.2.2.2 H0.o.2.1.lt (yD g2 [(.slice B0 np b0),(.slice B1 nt b1),(.slice B2 nc b2),(.slice B3 no b3), .int .i64 st,(.slice Av k kv)] V 0)
end Go.Proofs.YtmemofonebphfaaGreat
namespace Go.Proofs.YtmemofonebphfaaGreat
open Go.RowKit Go.Sort
def stW (W:World) (g:Nat):Nat:=match W.cell? ⟨g,4,none⟩ with
 | some (.int _ v)=>v.toNat
 | _=>0
theorem zL8 {W:World} {g:Nat} {v:Int} (h:W.cell? ⟨g,4,none⟩=some (.int .i64 v)):stW W g=v.toNat:=by
 unfold stW
 rw [h]
theorem zNE:(Tryz.prog.info? 28).map (fun i=>(i.zero,i.size,i.bytes))=some (some (.slice none 0 0),1,24):=by kernel_rfl
structure EdgM (W:World) (B:Nat) (A:Option Addr) (E:List E2) (g5:Nat):Prop where
 s:Sl yH 2 W B A E
 ne:∀p,A=some p→p.block≠g5
theorem EdgM.below {W W':World} {B B':Nat} {A:Option Addr} {E:List E2} {g5:Nat} (h:EdgM W B A E g5) (hB:Below B' W W') (hb:B≤B'):EdgM W' B A E g5:=
 ⟨h.s.below (hB.mono hb),h.ne⟩
theorem EdgM.set {W:World} {B:Nat} {A:Option Addr} {E:List E2} {g5:Nat} (h:EdgM W B A E g5) (hB:B≤W.heap.size) (i:Nat) (v:Value):EdgM (W.setCell ⟨g5,i,none⟩ v) B A E g5:=by
 refine ⟨?_,h.ne⟩
 rcases h.s with ⟨h1,h2⟩ | ⟨b,o,hA,hb,hc⟩
 ·exact .inl ⟨h1,h2⟩
 ·have hs:=h.s
  subst hA
  exact hs.grown (zG W g5 i v) hB (fun e=>h.ne _ rfl (Option.some.inj e))
theorem EdgM.new {W:World} {B:Nat} {A:Option Addr} {E:List E2} {g5:Nat} {vp vt vc vo vd:Value} {A0 A1 A2 A3 A4:Option Addr} {n0 c0 n1 c1 n2 c2 n3 c3 n4 c4:Nat} {st:Int} {t:TypeId} (h:Sl yH 2 W B A E) (hb:Blk W g5 t (cMad vp vt vc vo st vd))
  (e0:vp= .slice A0 n0 c0) (e1:vt= .slice A1 n1 c1) (e2:vc= .slice A2 n2 c2) (e3:vo= .slice A3 n3 c3) (e4:vd= .slice A4 n4 c4) (hn:1≤E.length):EdgM W B A E g5:=by
 refine ⟨h,fun p hp he=> ?_⟩
 obtain ⟨x,hx⟩:∃x,E[0]? =some x:=⟨_,List.getElem?_eq_getElem hn⟩
 obtain ⟨b,o,hA,hb',c0,c1⟩:=h.e2 hx
 rw [hA] at hp
 cases hp
 dsimp only at he
 subst he
 rw [hb.cell] at c0 c1
 subst e0 e1 e2 e3 e4
 have hc:o=0∨o=1∨o=2∨o=3∨o=4∨o=5∨6≤o:=by omega
 rcases hc with rfl | rfl | rfl | rfl | rfl | rfl | h6
 ·simp at c0
 ·simp at c0
 ·simp at c0
 ·simp at c0
 ·simp at c1
 ·simp at c0
 ·rw [Array.getElem?_eq_none (by simp;omega)] at c0
  simp at c0
theorem qX {W:World} {g5 base:Nat} {cs:Array Value} {e t:TypeId} (h:Blk W g5 t cs) (hte:e≠t):∀r,(some g5:Option Nat)=some r→r < base∨∀cs,W.heap[r]? ≠some (.cells cs e (0,0)):=fun r er=>by
 cases er
 refine .inr fun cs' hc=> ?_
 have hb:W.heap[g5]? =some (.cells _ _ (0,0)):=h
 rw [hb] at hc
 cases hc
 exact hte rfl
theorem MadS.apD2 {w W W':World} {g1 g2 g5:Nat} {shp zc:Array Value} {vp vt vc vo vd:Value} {st:Int} {np nt nc no:Nat} {P T:List Pt} {C:List E2} {O:List Int} {D:List (List Pt)} {ss:List Hdr} {v6:Value} {A:Option Addr} {c n m:Nat} {x:List Pt} (h:MadS w W g1 g2 g5 shp zc vp vt vc vo vd st np nt nc no P T C O D) (hn:D.length=n) (hm:x.length=m) (hos:Own encS 1 28 W w.heap.size vd n ss) (hps:∀(i:Nat) (p:List Pt),D[i]? =some p→∃A c,ss[i]? =some (A,p.length,c)∧Own encP 3 43 W w.heap.size (.slice A p.length c) p.length p)
  (hx:Own encP 3 43 W w.heap.size (.slice A m c) m x) (hg:W.grownBy W' vd.ownBlock) (ho:Own encS 1 28 W' w.heap.size v6 (n+1) (ss++ [(A,m,c)])):MadS w (W'.setCell ⟨g5,5,none⟩ v6) g1 g2 g5 shp zc vp vt vc vo v6 st np nt nc no P T C O (D++ [x]):=by
 subst hn hm
 exact h.apD hos hps hx hg ho
def set6 (W:World) (g:Nat) (a b c d e f:Value):World:=(((((W.setCell ⟨g,0,none⟩ a).setCell ⟨g,1,none⟩ b).setCell ⟨g,2,none⟩ c).setCell ⟨g,3,none⟩ d).setCell ⟨g,4,none⟩ e).setCell ⟨g,5,none⟩ f
theorem zG2 (W:World) (g:Nat) (a b c d e f:Value):W.grownBy (set6 W g a b c d e f) (some g):=
 (((((zG W g 0 a).trans (zG _ g 1 b)).trans (zG _ g 2 c)).trans (zG _ g 3 d)).trans (zG _ g 4 e)).trans (zG _ g 5 f)
theorem MadS.res {w W:World} {g1 g2 g5:Nat} {shp:Array Value} {Ap At Ac Ao Ad:Option Addr} {cp ct cc oc nd dc:Nat} {k:Int} {np nt nc no:Nat} {P T:List Pt} {C:List E2} {O:List Int} {D:List (List Pt)} (h:MadS w W g1 g2 g5 shp (cCtl none 0 0 none 0 0 none 0 0 none 0 0 0 none 0 0) (.slice Ap np cp) (.slice At nt ct) (.slice Ac nc cc) (.slice Ao no oc) (.slice Ad nd dc) k np nt nc no P T C O D) (a b c' d e f:Value) (c:Ctl) (hP:c.points=P) (hT:c.tris=T) (hC:c.creases=C) (hO:c.corners=O) (hs:c.steps=k) (hD:c.details=D):
  MadR w (set6 W g2 a b c' d e f) c (.returned (vCtl Ap np cp At nt ct Ac nc cc Ao no oc k Ad nd dc)):=by
 have hg:=zG2 W g2 a b c' d e f
 have e1:=h.p.1
 have e2:=h.t.1
 have e3:=h.c.1
 have e4:=h.o.1
 have e5:nd=D.length:=by
  obtain ⟨A,c,hf⟩:=h.d.form
  injection hf
 subst hP hT hC hO hs hD e1 e2 e3 e4 e5
 exact ⟨Ap,At,Ac,Ao,Ad,cp,ct,cc,oc,dc,rfl,h.t.step hg (qX h.bx.b2 (by decide)),h.p.step hg (qX h.bx.b2 (by decide)),h.c.step hg (qX h.bx.b2 (by decide)),h.o.step hg (qX h.bx.b2 (by decide)),h.d.turn hg (fun t e=>qX h.bx.b2 (by rcases e with rfl | rfl <;>decide)),h.bx.bel.trans (yK hg h.bx.le.2.2.2 h.bx.bel.size)⟩
set_option maxRecDepth 100000 in set_option maxHeartbeats 64000000 in
theorem zKO (Ap Ac Ao Ad:Option Addr) (cp cc oc dc:Nat) (s:ShpC) (w:World) (hm:ShpA w w.heap.size Ap Ac Ao Ad s) (hb:fits s.bits) (hl:s.points.length≤9223372036854775807∧s.creases.length≤9223372036854775807∧s.corners.length≤9223372036854775807∧s.details.length≤9223372036854775807):
  Calls Tryz.prog 15 #[vShp s.kind s.bits s.steps Ap s.points.length cp Ac s.creases.length cc Ao s.corners.length oc Ad s.details.length dc] w fun e w'=>MadR w w' (xC s) e:=by
 have hR:=xQ s.kind s.bits
 have kb:=fun (W:World)=>zLQ s.kind s.bits hb W
 obtain ⟨T,hT⟩:=ex9 (qN s.kind s.bits)
 obtain ⟨NN,hNN⟩:=ex9 (kW s.kind s.bits)
 rw [←hT,←hNN] at hR
 simp only [←hT,←hNN] at kb
 obtain ⟨nt,hnt⟩:=ex9 (T.length)
 have hntl:nt≤324:=by rw [hnt];exact hR.few
 have hnnl:NN≤972:=hR.pts
 obtain ⟨k0,hk0⟩:∃k:Nat,k=(s.steps % 5).toNat:=⟨_,rfl⟩
 have hk4:k0≤4:=by omega
 have ks:=fun W=>yA s.steps 5 (by omega) (by omega) W
 have hks:s.steps % 5=(k0:Int):=by omega
 rw [hks] at ks
 obtain ⟨ST,hST⟩:=ex9 (stM s)
 have hlow:lowS nt k0=ST:=by rw [hST,hnt,hT,hk0];rfl
 obtain ⟨np,hnp⟩:=ex9 (s.points.length)
 obtain ⟨nc,hnc⟩:=ex9 (s.creases.length)
 obtain ⟨no,hno⟩:=ex9 (s.corners.length)
 obtain ⟨nd,hnd⟩:=ex9 (s.details.length)
 obtain ⟨K,hK⟩:=ex9 (s.kind)
 obtain ⟨B,hB⟩:=ex9 (s.bits)
 obtain ⟨S0,hS0⟩:=ex9 (s.steps)
 rw [←hnp,←hnc,←hno,←hnd] at hl
 rw [←hK,←hB] at kb
 rw [←hS0] at ks
 rw [←hnp,←hnc,←hno,←hnd,←hK,←hB,←hS0]
 have HK:=hide (ai9 kb (ai9 ks (ai9 hm (ai9 hR (ai9 hlow (ai9 hnt (ai9 hT (ai9 hNN hST))))))))
 have HN:=hide (ai9 hnp (ai9 hnc (ai9 hno hnd)))
 obtain ⟨hl1,hl2,hl3,hl4⟩:=hl
 clear kb ks hm hR hlow hnt hT hNN hST hnp hnc hno hnd hK hB hS0 hk0 hks hb
 go_enter Tryz.func15,Tryz.ntmps15
 go_upto_region 1 with fail
 obtain ⟨g1,hg1⟩:=ex9 (w.heap.size)
 obtain ⟨g2,hg2⟩:=ex9 (w.heap.size+1)
 obtain ⟨X0,hX⟩:=ex9 ((w.alloc (.cells (cShp K B S0 Ap np cp Ac nc cc Ao no oc Ad nd dc) 25)).alloc (.cells (cCtl none 0 0 none 0 0 none 0 0 none 0 0 0 none 0 0) 32))
 rw [←hX,←hg2,←hg1]
 have hb1:Blk X0 g1 25 (cShp K B S0 Ap np cp Ac nc cc Ao no oc Ad nd dc):=by rw [hX,hg1];exact (Blk.new _ _ _).alloc _
 have hb2:Blk X0 g2 32 (cCtl none 0 0 none 0 0 none 0 0 none 0 0 0 none 0 0):=by rw [hX,hg2];exact Blk.new' _ _ _ _ (by simp)
 have hBX:Below w.heap.size w X0:=by rw [hX];exact ((Below.refl _ w).alloc lr9 _).alloc (by simp) _
 have c0:X0.cell? ⟨g1,0,none⟩=some (.int .i64 K):=hb1.cell 0
 have c1:X0.cell? ⟨g1,1,none⟩=some (.int .i64 B):=hb1.cell 1
 have hgl:=hb1.lt
 have H0:=hide (ai9 hb1 (ai9 hb2 (ai9 hBX (show w.heap.size≤g2∧g1≠g2∧w.heap.size≤g1 by omega))))
 clear hb1 hb2 hBX hX hg1 hg2
 go_upto_region 2 with (go_at_call 38;refine (HK.o.1 X0).mono ?_;rintro e X1 ⟨At,ct,rfl,hot,hB1⟩;have H1:=hide (ai9 hot (ai9 hB1 (ai9 (H0.o.1.below hB1 H0.o.1.lt) (H0.o.2.1.below hB1 H0.o.2.1.lt))));clear hot hB1)
 clear c0 c1 hgl
 have hzz:=HK.o.2.2.2.2.2.1
 rw [←hzz]
 have c2:X1.cell? ⟨g1,2,none⟩=some (.int .i64 S0):=H1.o.2.2.1.cell 2
 have hgl:=H1.o.2.2.1.lt
 clear hzz
 go_upto_region 3 with (go_at_call 17;refine (HK.o.2.1 X1).mono ?_;rintro e Y1 ⟨rfl,hw⟩;obtain rfl:X1=Y1:=hw.symm)
 clear c2 hgl
 obtain ⟨g5,hg5⟩:=ex9 (X1.heap.size)
 obtain ⟨X2,hX2⟩:=ex9 (X1.alloc (.cells (cMad (.slice none 0 0) (.slice At nt ct) (.slice none 0 0) (.slice none 0 0) k0 (.slice none 0 0)) 32))
 rw [←hX2,←hg5]
 have hS2:MadS w X2 g1 g2 g5 (cShp K B S0 Ap np cp Ac nc cc Ao no oc Ad nd dc) (cCtl none 0 0 none 0 0 none 0 0 none 0 0 0 none 0 0) (.slice none 0 0) (.slice At nt ct) (.slice none 0 0) (.slice none 0 0) (.slice none 0 0) k0 0 nt 0 0 [] T [] [] []:=by
  have hBa:Below X1.heap.size X1 X2:=by rw [hX2];exact (Below.refl _ _).alloc lr9 _
  have hz1:=H1.o.2.1.size
  have hz0:=H0.o.2.2.1.size
  have hl2:=H1.o.2.2.2.lt
  have hl1:=H1.o.2.2.1.lt
  have hBw:=H0.o.2.2.1.trans (H1.o.2.1.mono hz0)
  have ht:=H1.o.1
  rw [←HK.o.2.2.2.2.2.1] at ht
  exact ⟨⟨hBw.trans (hBa.mono hBw.size),H1.o.2.2.1.below hBa hl1,H1.o.2.2.2.below hBa hl2,by rw [hX2,hg5];exact Blk.new _ _ _,by have:=H0.o.2.2.2;omega⟩,(ht.base_le hz0).below hBa lr9,Own.nil,Own.nil,Own.nil,Pcs.nil⟩
 have HS2:=hide hS2
 clear hS2 hX2 hg5
 go_loopw [] (fun wr=>∃k:Nat,k≤4∧MadS w wr g1 g2 g5 (cShp K B S0 Ap np cp Ac nc cc Ao no oc Ad nd dc) (cCtl none 0 0 none 0 0 none 0 0 none 0 0 0 none 0 0) (.slice none 0 0) (.slice At nt ct) (.slice none 0 0) (.slice none 0 0) (.slice none 0 0) k 0 nt 0 0 [] T [] [] []∧lowS nt k=ST) (fun wr=>stW wr g5)
 case atStart=>exact ⟨k0,hk4,HS2.o,HK.o.2.2.2.2.1⟩
 case round=>
  obtain ⟨k,hk,hS,hlo⟩:=hrel
  obtain ⟨V,rfl⟩:=ex9 (wr)
  have c4:V.cell? ⟨g5,4,none⟩=some (.int .i64 k):=hS.bx.b5.cell 4
  have f4:=hS.bx.b5.frozen 4
  have hg5l:=hS.bx.b5.lt
  obtain ⟨s2,hs2⟩:=ex9 (2*k)
  have t1:2*(k:Int)=(s2:Int):=by omega
  obtain ⟨q,hq⟩:=ex9 (nt*2^(2*k))
  have t2:(nt:Int)*2^s2=(q:Int):=by
   rw [hq,hs2,Int.natCast_mul,Int.natCast_pow]
   rfl
  have qb:q≤82944:=by
   have key:∀s:Nat,s≤4→2^(2*s)≤256:=by decide
   rw [hq]
   exact Nat.mul_le_mul hntl (key k hk)
  by_cases hgo:0 < k∧800 < q
  ·obtain ⟨hkp,hqm⟩:=hgo
   have k1:(0:Int) < (k:Int):=by omega
   have l1:(800:Int) < (q:Int):=by omega
   have hlo2:lowS nt (k - 1)=ST:=by
    have hkk:k=(k - 1)+1:=by omega
    rw [hkk] at hlo
    unfold lowS at hlo
    rw [if_pos (by rw [←hkk,←hq];exact hqm)] at hlo
    exact hlo
   have HV:=hide (ai9 hS hlo2)
   clear hS hlo hlo2 hq hs2
   go_wp2
   go_roundw
   case rel=>exact ⟨k - 1,by omega,by rw [show ((k - 1:Nat):Int)=(k:Int) - 1 by omega];exact HV.o.1.low _,HV.o.2⟩
   case measure=>
    have h1:=(HV.o.1.low ((k:Int) - 1)).bx.b5.cell 4
    have h2:=HV.o.1.bx.b5.cell 4
    rw [zL8 h1,zL8 h2]
    omega
  ·have hST:k=ST:=by
    rw [←hlo]
    match k,hgo,hq with
    | 0,_,_=>rfl
    | k+1,hgo,hq=>
     unfold lowS
     rw [if_neg (by rw [←hq];omega)]
   subst hST
   have HV:=hide hS
   clear hS hlo hq hs2
   go_upto_region 3 with fail
   go_cut [43] (fun v wx=>v= .bool false∧wx=V)
   case first=>
    by_cases hk00:k=0
    ·have k1:¬(0:Int) < (k:Int):=by omega
     go_wp2_with fail
     go_meet
     case rel=>exact ⟨rfl,rfl⟩
    ·have k1:(0:Int) < (k:Int):=by omega
     have l1:¬(800:Int) < (q:Int):=by omega
     go_wp2_with fail
     go_meet
     case rel=>exact ⟨rfl,rfl⟩
   case rest=>
    obtain ⟨rfl,hwc⟩:=hcut
    obtain rfl:V=wc:=hwc.symm
    clear hgo t1 t2 qb
    have kpw:=fun W=>uG k hk W
    obtain ⟨pw,mx,hpw,hmx,t3,t4,pb⟩:∃pw mx:Int,(16:Int)^k=pw∧topM s=mx∧(2097151:Int).tdiv pw=mx∧(2097151:Int) / pw=mx∧((1≤pw∧pw≤65536)∧0≤mx∧mx≤2097151):=by
     have ht:topM s=2097151 / 16^k:=by unfold topM;rw [HK.o.2.2.2.2.2.2.2.2]
     rw [ht]
     have hc:k=0∨k=1∨k=2∨k=3∨k=4:=by omega
     rcases hc with rfl | rfl | rfl | rfl | rfl <;>exact ⟨_,_,rfl,rfl,by decide,by decide,by decide⟩
    simp only [hpw] at kpw
    have HQ:=hide (ai9 kpw hmx)
    have pw0:¬pw=0:=by omega
    clear kpw hmx hpw f4
    go_upto_region 7 with (go_at_call 39;refine (HQ.o.1 _).mono ?_;rintro e Y1 ⟨rfl,hw⟩;obtain rfl:V=Y1:=hw.symm)
    clear c4 hg5l
    go_loopw [7] (fun iv wr=>∃(i:Nat) (vp:Value),i≤NN∧iv= .int .i64 i∧MadS w wr g1 g2 g5 (cShp K B S0 Ap np cp Ac nc cc Ao no oc Ad nd dc) (cCtl none 0 0 none 0 0 none 0 0 none 0 0 0 none 0 0) vp (.slice At nt ct) (.slice none 0 0) (.slice none 0 0) (.slice none 0 0) k i nt 0 0 ((List.range i).map (ptM s)) T [] [] []) (fun iv _=>NN - (intOf iv).toNat)
    case atStart=>exact ⟨0,_,by omega,rfl,HV.o⟩
    case round=>
     obtain ⟨i,vp,hi,rfl,hS⟩:=hrel
     obtain ⟨V,rfl⟩:=ex9 (wr)
     obtain ⟨Ax,cx,rfl⟩:=hS.p.form
     by_cases hlt:i < NN
     ·have i1:(i:Int) < (NN:Int):=by omega
      obtain ⟨n1,hn1⟩:∃n:Nat,n=i*5:=⟨_,rfl⟩
      obtain ⟨n2,hn2⟩:∃n:Nat,n=i*i:=⟨_,rfl⟩
      obtain ⟨n3,hn3⟩:∃n:Nat,n=7*i:=⟨_,rfl⟩
      have m1:(i:Int)*5=(n1:Int):=by rw [hn1];exact (Int.natCast_mul _ _).symm
      have m2:(i:Int)*(i:Int)=(n2:Int):=by rw [hn2];exact (Int.natCast_mul _ _).symm
      have m3:7*(i:Int)=(n3:Int):=by rw [hn3];exact (Int.natCast_mul _ _).symm
      have bn1:n1≤4860:=by omega
      have bn2:n2≤944784:=by rw [hn2];exact Nat.mul_le_mul (show i≤972 by omega) (show i≤972 by omega)
      have bn3:n3≤6804:=by omega
      obtain ⟨r,hr⟩:=ex9 (rawM s.points i)
      have hpt:ptM s i=(r.1 % (mx+1),r.2.1 % (mx+1),r.2.2 % (mx+1)):=by rw [hr,←HQ.o.2];rfl
      have hrg:(List.range (i+1)).map (ptM s)=(List.range i).map (ptM s)++ [(r.1 % (mx+1),r.2.1 % (mx+1),r.2.2 % (mx+1))]:=by rw [List.range_succ,List.map_append,List.map_singleton,hpt]
      have hraw:r=if np=0 then ((n1:Int),(n2:Int),(n3:Int)) else (wrap64 ((s.points.getD (i % np) (0,0,0)).1+3*i),wrap64 ((s.points.getD (i % np) (0,0,0)).2.1+n2),wrap64 ((s.points.getD (i % np) (0,0,0)).2.2 - i)):=by
       rw [hr,HN.o.1,←m1,←m2,←m3]
       rfl
      obtain ⟨r1,r2,r3⟩:=r
      have HV2:=hide (ai9 hS (ai9 hrg hraw))
      clear hS hrg hraw hr hpt hn1 hn2 hn3
      go_upto_region 10 with fail
      obtain ⟨g8,hg8⟩:=ex9 (V.heap.size)
      obtain ⟨Y,hY⟩:=ex9 (V.alloc (.cells #[.int .i64 n1, .int .i64 n2, .int .i64 n3] 35))
      have hBY:Below V.heap.size V Y:=by rw [hY];exact (Below.refl _ V).alloc lr9 _
      have hKY:Blk Y g8 35 #[.int .i64 n1, .int .i64 n2, .int .i64 n3]:=by rw [hY,hg8];exact Blk.new _ _ _
      rw [←hY,←hg8]
      have hSY:=HV2.o.1.below hBY
      have hge:g8 ≥ V.heap.size:=by omega
      have HY:=hide (ai9 hSY (ai9 hKY (ai9 hBY hge)))
      have c3:Y.cell? ⟨g1,3,none⟩=some (.slice Ap np cp):=hSY.bx.b1.cell 3
      have hg1l:=hSY.bx.b1.lt
      clear hSY hKY hBY hY hg8 hge
      by_cases hnp0:np=0
      ·have hraw:=HV2.o.2.2
       rw [if_pos hnp0] at hraw
       have p0:¬(0:Int) < (np:Int):=by omega
       have HRW:=hide hraw
       clear hraw hnp0
       go_upto_region 13 with fail
       clear c3 hg1l
       obtain ⟨Z,hZ⟩:=ex9 (Y)
       rw [←hZ]
       have HZ:=hide (show MadS w Z g1 g2 g5 (cShp K B S0 Ap np cp Ac nc cc Ao no oc Ad nd dc) (cCtl none 0 0 none 0 0 none 0 0 none 0 0 0 none 0 0) (.slice Ax i cx) (.slice At nt ct) (.slice none 0 0) (.slice none 0 0) (.slice none 0 0) k i nt 0 0 ((List.range i).map (ptM s)) T [] [] []∧Blk Z g8 35 #[.int .i64 r1, .int .i64 r2, .int .i64 r3]∧some g8≠(Value.slice Ax i cx).ownBlock from by
        have hraw:=HRW.o
        simp only [Prod.mk.injEq] at hraw
        obtain ⟨e1,e2,e3⟩:=hraw
        rw [hZ,e1,e2,e3]
        exact ⟨HY.o.1,HY.o.2.1,fun e=>by have:=(HV2.o.1.p.blk g8 e.symm).2;have:=HY.o.2.2.2;omega⟩)
       clear HY hZ HRW p0
       obtain ⟨mx1,hmx1⟩:=ex9 (mx+1)
       have tm1:mx+1=mx1:=hmx1.symm
       have bm1:0 < mx1∧mx1≤2097152:=by omega
       have km1:=fun W=>yA r1 mx1 bm1.1 (by omega) W
       have km2:=fun W=>yA r2 mx1 bm1.1 (by omega) W
       have km3:=fun W=>yA r3 mx1 bm1.1 (by omega) W
       have hrg:=HV2.o.2.1
       rw [tm1] at hrg
       obtain ⟨o1,ho1⟩:=ex9 (r1 % mx1)
       obtain ⟨o2,ho2⟩:=ex9 (r2 % mx1)
       obtain ⟨o3,ho3⟩:=ex9 (r3 % mx1)
       simp only [←ho1,←ho2,←ho3] at km1 km2 km3 hrg
       have HM:=hide (ai9 km1 (ai9 km2 (ai9 km3 hrg)))
       clear km1 km2 km3 hrg ho1 ho2 ho3 hmx1
       have w1:IntKind.i64.wrap mx1=mx1:=IntWalk.i64_in _ (by omega)
       have HSB:=hide (show Blk Z.drew g5 32 (cMad (.slice Ax i cx) (.slice At nt ct) (.slice none 0 0) (.slice none 0 0) k (.slice none 0 0))∧Blk Z.drew g8 35 #[.int .i64 r1, .int .i64 r2, .int .i64 r3] from ⟨HZ.o.1.bx.b5,HZ.o.2.1⟩)
       refine zB (fun W=>Blk W g5 32 (cMad (.slice Ax i cx) (.slice At nt ct) (.slice none 0 0) (.slice none 0 0) k (.slice none 0 0))∧Blk W g8 35 #[.int .i64 r1, .int .i64 r2, .int .i64 r3]) [0,1,2,3,4,5,7,8,9,10,12,13,14,15,17] [0,1,2,3,4,5,7,8,9,10,12,13,14,15,6,11,16,17,18,19,20,21] zL (by kernel_rfl) ?_
       refine zA (v:=(.pointer (some ⟨g5,0,none⟩))) rfl rfl (fun _ _ _ h=>h) HSB.o ⟨rfl,fun _ _=>by simp [go_sem]⟩ ?_
       refine zA (v:=(.slice Ax i cx)) rfl rfl (fun _ _ _ h=>h) HSB.o ⟨rfl,fun _ h'=>by have a0:=h'.1.cell 0;simp only [List.getElem?_toArray,List.getElem?_cons_zero] at a0;simp [go_sem,a0]⟩ ?_
       refine zA (v:=(.pointer (some ⟨g8,0,none⟩))) rfl rfl (fun _ _ _ h=>h) HSB.o ⟨rfl,fun _ _=>by simp [go_sem]⟩ ?_
       refine zA (v:=(.int .i64 r1)) rfl rfl (fun _ _ _ h=>h) HSB.o ⟨rfl,fun _ h'=>by have a0:=h'.2.cell 0;simp only [List.getElem?_toArray,List.getElem?_cons_zero] at a0;simp [go_sem,a0]⟩ ?_
       refine zA (v:=(.int .i64 mx)) rfl rfl (fun _ _ _ h=>h) HSB.o ⟨rfl,fun _ _=>by simp [go_sem]⟩ ?_
       refine zA (v:=(.int .i64 mx1)) rfl rfl (fun _ _ _ h=>h) HSB.o ⟨rfl,fun _ _=>by simp [go_sem,tm1,w1]⟩ ?_
       simp only [List.getElem_toArray,List.getElem_cons_succ,List.getElem_cons_zero,Act.put,List.setIfInBounds_toArray,List.set_cons_succ,List.set_cons_zero]
       refine zA (v:=(.pointer (some ⟨g8,1,none⟩))) rfl rfl (fun _ _ _ h=>h) HSB.o ⟨rfl,fun _ _=>by simp [go_sem]⟩ ?_
       refine zA (v:=(.int .i64 r2)) rfl rfl (fun _ _ _ h=>h) HSB.o ⟨rfl,fun _ h'=>by have a1:=h'.2.cell 1;simp only [List.getElem?_toArray,List.getElem?_cons_zero,List.getElem?_cons_succ] at a1;simp [go_sem,a1]⟩ ?_
       refine zA (v:=(.int .i64 mx)) rfl rfl (fun _ _ _ h=>h) HSB.o ⟨rfl,fun _ _=>by simp [go_sem]⟩ ?_
       refine zA (v:=(.int .i64 mx1)) rfl rfl (fun _ _ _ h=>h) HSB.o ⟨rfl,fun _ _=>by simp [go_sem,tm1,w1]⟩ ?_
       refine zA (v:=(.pointer (some ⟨g8,2,none⟩))) rfl rfl (fun _ _ _ h=>h) HSB.o ⟨rfl,fun _ _=>by simp [go_sem]⟩ ?_
       refine zA (v:=(.int .i64 r3)) rfl rfl (fun _ _ _ h=>h) HSB.o ⟨rfl,fun _ h'=>by have a2:=h'.2.cell 2;simp only [List.getElem?_toArray,List.getElem?_cons_zero,List.getElem?_cons_succ] at a2;simp [go_sem,a2]⟩ ?_
       simp only [List.getElem_toArray,List.getElem_cons_succ,List.getElem_cons_zero,Act.put,List.setIfInBounds_toArray,List.set_cons_succ,List.set_cons_zero]
       refine zA (v:=(.int .i64 mx)) rfl rfl (fun _ _ _ h=>h) HSB.o ⟨rfl,fun _ _=>by simp [go_sem]⟩ ?_
       refine zA (v:=(.int .i64 mx1)) rfl rfl (fun _ _ _ h=>h) HSB.o ⟨rfl,fun _ _=>by simp [go_sem,tm1,w1]⟩ ?_
       simp only [List.getElem_toArray,List.getElem_cons_succ,List.getElem_cons_zero,Act.put,List.setIfInBounds_toArray,List.set_cons_succ,List.set_cons_zero]
       refine zD rfl rfl ?_
       go_wp2_with fail
       refine (HM.o.1 Z.drew).mono ?_
       rintro e W1 ⟨rfl,rfl⟩
       go_wp2_with fail
       refine ⟨fun _=>HSB.o,?_⟩
       refine zD rfl rfl ?_
       go_wp2_with fail
       refine (HM.o.2.1 Z.drew).mono ?_
       rintro e W1 ⟨rfl,rfl⟩
       go_wp2_with fail
       refine ⟨fun _=>HSB.o,?_⟩
       refine zD rfl rfl ?_
       go_wp2_with fail
       refine (HM.o.2.2.1 Z.drew).mono ?_
       rintro e W1 ⟨rfl,rfl⟩
       go_wp2_with fail
       refine ⟨fun _=>HSB.o,?_⟩
       refine zA (v:=(.agg #[.int .i64 o1, .int .i64 o2, .int .i64 o3])) rfl rfl (fun _ _ _ h=>h) HSB.o ⟨rfl,fun _ _=>by simp [go_sem]⟩ ?_
       have hal:Below Z.heap.size Z (Z.drew.alloc (.cells #[.int .i64 o1, .int .i64 o2, .int .i64 o3] 43)):=(Below.refl _ Z).drew.alloc lr9 _
       have hS3:=HZ.o.1.below hal
       have hK3:=HZ.o.2.1.below hal HZ.o.2.1.lt
       have H3:=hide (ai9 hS3 hK3)
       clear hal hS3 hK3 w1
       refine zD rfl rfl ?_
       go_wp2_with fail
       refine ⟨fun _=>⟨H3.o.1.bx.b5,H3.o.2⟩,?_⟩
       refine zJ _ [_,_,_] (by kernel_rfl) rfl ?_
       have hbl:=H3.o.1.bx.bel.size
       refine zC rfl _ _ _ rfl Tryz.underlying28 bC rfl (by omega) zO yQ rfl H3.o.1.p Z.heap.size 1 ((o1,o2,o3):Pt) rfl (Blk.new _ _ _) (by unfold maxLen;omega) (by omega) hbl ?_
       intro g6 cap6 w6 hown6 hg6 hB6 hat6 hgb6 hlt6
       have hS6:=H3.o.1.apP hg6 hown6
       have h61:=H3.o.1.bx.b5.grown hg6 (zF H3.o.1.bx.b5 H3.o.1.p (show (43:TypeId)≠32 by decide))
       have c6:w6.cell? ⟨g5,0,none⟩=some (.slice Ax i cx):=h61.cell 0
       have f6:=h61.frozen 0
       have hl6:=h61.lt
       rw [←HM.o.2.2.2] at hS6
       have H6:=hide hS6
       clear hown6 hg6 hB6 hat6 hgb6 hlt6 hS6 h61 hbl HSB
       go_wp2
       go_roundw
       case rel=>repeat (first | exact ⟨i+1,_,by omega,by go_num,H6.o⟩ | (refine ⟨?_,rfl⟩;exact ⟨i+1,_,by omega,by go_num,H6.o⟩) | apply Exists.intro)
       case measure=>(simp [intOf];try omega)
      ·have hraw:=HV2.o.2.2
       rw [if_neg hnp0] at hraw
       have p0:(0:Int) < (np:Int):=by omega
       obtain ⟨m,hm⟩:∃m:Nat,m=i % np:=⟨_,rfl⟩
       have hmn:m < np:=by rw [hm];exact Nat.mod_lt _ (by omega)
       have tm:(i:Int).tmod (np:Int)=(m:Int):=by rw [Int.tmod_eq_emod_of_nonneg (by omega),hm];exact (Int.natCast_emod _ _).symm
       have tm':(i:Int) % (np:Int)=(m:Int):=by rw [hm];exact (Int.natCast_emod _ _).symm
       have m1':(m:Int) < (np:Int):=by omega
       have hpne:s.points≠ []:=fun h=>hnp0 (by rw [HN.o.1,h];rfl)
       obtain ⟨qq,hqq⟩:∃x,s.points[m]? =some x:=⟨_,List.getElem?_eq_getElem (by rw [←HN.o.1];exact hmn)⟩
       have hgd:s.points.getD m (0,0,0)=qq:=by rw [List.getD_eq_getElem?_getD,hqq];rfl
       rw [←hm,hgd] at hraw
       have hBw:=HY.o.1.bx.bel
       obtain ⟨bp,op,hA,hbp,d0,d1,d2⟩:=((HK.o.2.2.1.p hpne).below hBw).n3 hqq
       subst hA
       have hbpY:bp < Y.heap.size:=Nat.lt_of_lt_of_le hbp hBw.size
       obtain ⟨q1,q2,q3⟩:=qq
       simp only at d0 d1 d2 hraw
       have HR:=hide (ai9 hraw (ai9 c3 (ai9 hg1l (ai9 d0 (ai9 d1 (ai9 d2 hbpY))))))
       have np0:¬(np:Int)=0:=by omega
       clear hraw hqq hgd hbp hBw hm hpne d0 d1 d2 hbpY
       go_upto_region 11 with fail
       have HSB:=hide (show Below Y.heap.size Y Y.drew from (Below.refl _ Y).drew)
       refine zB (fun W=>Below Y.heap.size Y W) [0,1,2,3,4,5,6,7,8] [0,1,2,3,4,5,6,7,8,9,10] zL (by kernel_rfl) ?_
       refine zA (v:=(.pointer (some ⟨g1,3,none⟩))) rfl rfl (fun _ _ _ h=>h) HSB.o ⟨rfl,fun _ _=>by simp [go_sem]⟩ ?_
       refine zA (v:=(.slice (some ⟨bp,op,none⟩) np cp)) rfl rfl (fun _ _ _ h=>h) HSB.o ⟨rfl,fun _ h'=>by have a0:=(h'.cell (p:=⟨g1,3,none⟩) HR.o.2.2.1).trans HR.o.2.1;simp [go_sem,a0]⟩ ?_
       refine zA (v:=(.int .i64 i)) rfl rfl (fun _ _ _ h=>h) HSB.o ⟨rfl,fun _ _=>by simp [go_sem]⟩ ?_
       refine zA (v:=(.pointer (some ⟨g1,3,none⟩))) rfl rfl (fun _ _ _ h=>h) HSB.o ⟨rfl,fun _ _=>by simp [go_sem]⟩ ?_
       refine zA (v:=(.slice (some ⟨bp,op,none⟩) np cp)) rfl rfl (fun _ _ _ h=>h) HSB.o ⟨rfl,fun _ h'=>by have a0:=(h'.cell (p:=⟨g1,3,none⟩) HR.o.2.2.1).trans HR.o.2.1;simp [go_sem,a0]⟩ ?_
       refine zA (v:=(.int .i64 np)) rfl rfl (fun _ _ _ h=>h) HSB.o ⟨rfl,fun _ _=>by simp [go_sem,Builtin.lenOf]⟩ ?_
       simp only [List.getElem_toArray,List.getElem_cons_succ,List.getElem_cons_zero,Act.put,List.setIfInBounds_toArray,List.set_cons_succ,List.set_cons_zero]
       refine zA (v:=(.int .i64 m)) rfl rfl (fun _ _ _ h=>h) HSB.o ⟨rfl,fun _ _=>by simp [go_sem,hnp0,tm]⟩ ?_
       refine zA (v:=(.pointer (some ⟨bp,op+m*3,none⟩))) rfl rfl (fun _ _ _ h=>h) HSB.o ⟨rfl,fun _ _=>by simp [go_sem,m1']⟩ ?_
       refine zA (v:=(.agg #[.int .i64 q1, .int .i64 q2, .int .i64 q3])) rfl rfl (fun _ _ _ h=>h) HSB.o ⟨rfl,fun _ h'=>by have a0:=(h'.cell (p:=⟨bp,op+m*3,none⟩) HR.o.2.2.2.2.2.2).trans HR.o.2.2.2.1;have a1:=(h'.cell (p:=⟨bp,op+m*3+1,none⟩) HR.o.2.2.2.2.2.2).trans HR.o.2.2.2.2.1;have a2:=(h'.cell (p:=⟨bp,op+m*3+2,none⟩) HR.o.2.2.2.2.2.2).trans HR.o.2.2.2.2.2.1;simp [go_sem,a0,a1,a2]⟩ ?_
       simp only [List.getElem_toArray,List.getElem_cons_succ,List.getElem_cons_zero,Act.put,List.setIfInBounds_toArray,List.set_cons_succ,List.set_cons_zero]
       refine zD rfl rfl ?_
       go_wp2_with fail
       refine ⟨fun _=>HSB.o.alloc lr9 _,?_⟩
       refine zJ _ [_] (by kernel_rfl) rfl ?_
       go_upto_region 12 with fail
       clear c3 hg1l
       obtain ⟨U,hU⟩:=ex9 ((Y.alloc (.cells #[.int .i64 q1, .int .i64 q2, .int .i64 q3] 35)).drew)
       obtain ⟨g9,hg9⟩:=ex9 (Y.heap.size)
       have hBU:Below Y.heap.size Y U:=by rw [hU];exact ((Below.refl _ Y).alloc lr9 _).drew
       have hK9:Blk U g9 35 #[.int .i64 q1, .int .i64 q2, .int .i64 q3]:=by rw [hU,hg9];exact Blk.new Y _ _
       have hK8:=HY.o.2.1.below hBU HY.o.2.1.lt
       have hS8:=HY.o.1.below hBU
       have hne98:g9≠g8:=by have:=HY.o.2.1.lt;omega
       rw [←hU,←hg9]
       obtain ⟨y0,y1,y2⟩:=hK9.three
       have hg9l:=hK9.lt
       obtain ⟨x0,x1,x2⟩:=hK8.three
       have hg8l:=hK8.lt
       have f0:=hK8.frozen 0
       have f1:=hK8.frozen 1
       have f2:=hK8.frozen 2
       have HW:=hide (ai9 hS8 (ai9 hK8 (ai9 hK9 (ai9 hne98 hBU))))
       clear hS8 hK8 hK9 hU hg9 hBU hne98
       go_upto_region 13 with fail
       obtain ⟨Z,hZ⟩:=ex9 (((U.setCell ⟨g8,0,none⟩ (.int .i64 (wrap64 (q1+3*(i:Int))))).setCell ⟨g8,1,none⟩ (.int .i64 (wrap64 (q2+(n2:Int))))).setCell ⟨g8,2,none⟩ (.int .i64 (wrap64 (q3 - (i:Int)))))
       rw [←hZ]
       have HZ:=hide (show MadS w Z g1 g2 g5 (cShp K B S0 (some ⟨bp,op,none⟩) np cp Ac nc cc Ao no oc Ad nd dc) (cCtl none 0 0 none 0 0 none 0 0 none 0 0 0 none 0 0) (.slice Ax i cx) (.slice At nt ct) (.slice none 0 0) (.slice none 0 0) (.slice none 0 0) k i nt 0 0 ((List.range i).map (ptM s)) T [] [] []∧Blk Z g8 35 #[.int .i64 r1, .int .i64 r2, .int .i64 r3]∧some g8≠(Value.slice Ax i cx).ownBlock from by
        have hraw:=HR.o.1
        simp only [Prod.mk.injEq] at hraw
        obtain ⟨e1,e2,e3⟩:=hraw
        have hge:=HY.o.2.2.2
        have hB:=HY.o.2.2.1.trans (HW.o.2.2.2.2.mono HY.o.2.2.1.size)
        rw [e1,e2,e3,hZ]
        exact ⟨HV2.o.1.below (((hB.setCell (p:=⟨g8,0,none⟩) hge _).setCell (p:=⟨g8,1,none⟩) hge _).setCell (p:=⟨g8,2,none⟩) hge _),HW.o.2.1.set3 _ _ _,fun e=>by have:=(HV2.o.1.p.blk g8 e.symm).2;omega⟩)
       clear HY HW HR hZ y0 y1 y2 x0 x1 x2 hg9l hg8l f0 f1 f2 p0
       obtain ⟨mx1,hmx1⟩:=ex9 (mx+1)
       have tm1:mx+1=mx1:=hmx1.symm
       have bm1:0 < mx1∧mx1≤2097152:=by omega
       have km1:=fun W=>yA r1 mx1 bm1.1 (by omega) W
       have km2:=fun W=>yA r2 mx1 bm1.1 (by omega) W
       have km3:=fun W=>yA r3 mx1 bm1.1 (by omega) W
       have hrg:=HV2.o.2.1
       rw [tm1] at hrg
       obtain ⟨o1,ho1⟩:=ex9 (r1 % mx1)
       obtain ⟨o2,ho2⟩:=ex9 (r2 % mx1)
       obtain ⟨o3,ho3⟩:=ex9 (r3 % mx1)
       simp only [←ho1,←ho2,←ho3] at km1 km2 km3 hrg
       have HM:=hide (ai9 km1 (ai9 km2 (ai9 km3 hrg)))
       clear km1 km2 km3 hrg ho1 ho2 ho3 hmx1
       have w1:IntKind.i64.wrap mx1=mx1:=IntWalk.i64_in _ (by omega)
       have HSB:=hide (show Blk Z.drew g5 32 (cMad (.slice Ax i cx) (.slice At nt ct) (.slice none 0 0) (.slice none 0 0) k (.slice none 0 0))∧Blk Z.drew g8 35 #[.int .i64 r1, .int .i64 r2, .int .i64 r3] from ⟨HZ.o.1.bx.b5,HZ.o.2.1⟩)
       refine zB (fun W=>Blk W g5 32 (cMad (.slice Ax i cx) (.slice At nt ct) (.slice none 0 0) (.slice none 0 0) k (.slice none 0 0))∧Blk W g8 35 #[.int .i64 r1, .int .i64 r2, .int .i64 r3]) [0,1,2,3,4,5,7,8,9,10,12,13,14,15,17] [0,1,2,3,4,5,7,8,9,10,12,13,14,15,6,11,16,17,18,19,20,21] zL (by kernel_rfl) ?_
       refine zA (v:=(.pointer (some ⟨g5,0,none⟩))) rfl rfl (fun _ _ _ h=>h) HSB.o ⟨rfl,fun _ _=>by simp [go_sem]⟩ ?_
       refine zA (v:=(.slice Ax i cx)) rfl rfl (fun _ _ _ h=>h) HSB.o ⟨rfl,fun _ h'=>by have a0:=h'.1.cell 0;simp only [List.getElem?_toArray,List.getElem?_cons_zero] at a0;simp [go_sem,a0]⟩ ?_
       refine zA (v:=(.pointer (some ⟨g8,0,none⟩))) rfl rfl (fun _ _ _ h=>h) HSB.o ⟨rfl,fun _ _=>by simp [go_sem]⟩ ?_
       refine zA (v:=(.int .i64 r1)) rfl rfl (fun _ _ _ h=>h) HSB.o ⟨rfl,fun _ h'=>by have a0:=h'.2.cell 0;simp only [List.getElem?_toArray,List.getElem?_cons_zero] at a0;simp [go_sem,a0]⟩ ?_
       refine zA (v:=(.int .i64 mx)) rfl rfl (fun _ _ _ h=>h) HSB.o ⟨rfl,fun _ _=>by simp [go_sem]⟩ ?_
       refine zA (v:=(.int .i64 mx1)) rfl rfl (fun _ _ _ h=>h) HSB.o ⟨rfl,fun _ _=>by simp [go_sem,tm1,w1]⟩ ?_
       simp only [List.getElem_toArray,List.getElem_cons_succ,List.getElem_cons_zero,Act.put,List.setIfInBounds_toArray,List.set_cons_succ,List.set_cons_zero]
       refine zA (v:=(.pointer (some ⟨g8,1,none⟩))) rfl rfl (fun _ _ _ h=>h) HSB.o ⟨rfl,fun _ _=>by simp [go_sem]⟩ ?_
       refine zA (v:=(.int .i64 r2)) rfl rfl (fun _ _ _ h=>h) HSB.o ⟨rfl,fun _ h'=>by have a1:=h'.2.cell 1;simp only [List.getElem?_toArray,List.getElem?_cons_zero,List.getElem?_cons_succ] at a1;simp [go_sem,a1]⟩ ?_
       refine zA (v:=(.int .i64 mx)) rfl rfl (fun _ _ _ h=>h) HSB.o ⟨rfl,fun _ _=>by simp [go_sem]⟩ ?_
       refine zA (v:=(.int .i64 mx1)) rfl rfl (fun _ _ _ h=>h) HSB.o ⟨rfl,fun _ _=>by simp [go_sem,tm1,w1]⟩ ?_
       refine zA (v:=(.pointer (some ⟨g8,2,none⟩))) rfl rfl (fun _ _ _ h=>h) HSB.o ⟨rfl,fun _ _=>by simp [go_sem]⟩ ?_
       refine zA (v:=(.int .i64 r3)) rfl rfl (fun _ _ _ h=>h) HSB.o ⟨rfl,fun _ h'=>by have a2:=h'.2.cell 2;simp only [List.getElem?_toArray,List.getElem?_cons_zero,List.getElem?_cons_succ] at a2;simp [go_sem,a2]⟩ ?_
       simp only [List.getElem_toArray,List.getElem_cons_succ,List.getElem_cons_zero,Act.put,List.setIfInBounds_toArray,List.set_cons_succ,List.set_cons_zero]
       refine zA (v:=(.int .i64 mx)) rfl rfl (fun _ _ _ h=>h) HSB.o ⟨rfl,fun _ _=>by simp [go_sem]⟩ ?_
       refine zA (v:=(.int .i64 mx1)) rfl rfl (fun _ _ _ h=>h) HSB.o ⟨rfl,fun _ _=>by simp [go_sem,tm1,w1]⟩ ?_
       simp only [List.getElem_toArray,List.getElem_cons_succ,List.getElem_cons_zero,Act.put,List.setIfInBounds_toArray,List.set_cons_succ,List.set_cons_zero]
       refine zD rfl rfl ?_
       go_wp2_with fail
       refine (HM.o.1 Z.drew).mono ?_
       rintro e W1 ⟨rfl,rfl⟩
       go_wp2_with fail
       refine ⟨fun _=>HSB.o,?_⟩
       refine zD rfl rfl ?_
       go_wp2_with fail
       refine (HM.o.2.1 Z.drew).mono ?_
       rintro e W1 ⟨rfl,rfl⟩
       go_wp2_with fail
       refine ⟨fun _=>HSB.o,?_⟩
       refine zD rfl rfl ?_
       go_wp2_with fail
       refine (HM.o.2.2.1 Z.drew).mono ?_
       rintro e W1 ⟨rfl,rfl⟩
       go_wp2_with fail
       refine ⟨fun _=>HSB.o,?_⟩
       refine zA (v:=(.agg #[.int .i64 o1, .int .i64 o2, .int .i64 o3])) rfl rfl (fun _ _ _ h=>h) HSB.o ⟨rfl,fun _ _=>by simp [go_sem]⟩ ?_
       have hal:Below Z.heap.size Z (Z.drew.alloc (.cells #[.int .i64 o1, .int .i64 o2, .int .i64 o3] 43)):=(Below.refl _ Z).drew.alloc lr9 _
       have hS3:=HZ.o.1.below hal
       have hK3:=HZ.o.2.1.below hal HZ.o.2.1.lt
       have H3:=hide (ai9 hS3 hK3)
       clear hal hS3 hK3 w1
       refine zD rfl rfl ?_
       go_wp2_with fail
       refine ⟨fun _=>⟨H3.o.1.bx.b5,H3.o.2⟩,?_⟩
       refine zJ _ [_,_,_] (by kernel_rfl) rfl ?_
       have hbl:=H3.o.1.bx.bel.size
       refine zC rfl _ _ _ rfl Tryz.underlying28 bC rfl (by omega) zO yQ rfl H3.o.1.p Z.heap.size 1 ((o1,o2,o3):Pt) rfl (Blk.new _ _ _) (by unfold maxLen;omega) (by omega) hbl ?_
       intro g6 cap6 w6 hown6 hg6 hB6 hat6 hgb6 hlt6
       have hS6:=H3.o.1.apP hg6 hown6
       have h61:=H3.o.1.bx.b5.grown hg6 (zF H3.o.1.bx.b5 H3.o.1.p (show (43:TypeId)≠32 by decide))
       have c6:w6.cell? ⟨g5,0,none⟩=some (.slice Ax i cx):=h61.cell 0
       have f6:=h61.frozen 0
       have hl6:=h61.lt
       rw [←HM.o.2.2.2] at hS6
       have H6:=hide hS6
       clear hown6 hg6 hB6 hat6 hgb6 hlt6 hS6 h61 hbl HSB
       go_wp2
       go_roundw
       case rel=>repeat (first | exact ⟨i+1,_,by omega,by go_num,H6.o⟩ | (refine ⟨?_,rfl⟩;exact ⟨i+1,_,by omega,by go_num,H6.o⟩) | apply Exists.intro)
       case measure=>(simp [intOf];try omega)
     ·skip
      obtain rfl:i=NN:=by omega
      have i1:¬(i:Int) < (i:Int):=by omega
      obtain ⟨PP,hPP⟩:=ex9 ((List.range i).map (ptM s))
      rw [←hPP] at hS
      obtain ⟨vp,hvp⟩:=ex9 (Value.slice Ax i cx)
      rw [←hvp] at hS
      have hBR:=HK.o.2.2.2.1
      have ke:=uQ At ct T V (hS.t.sl zS lr9) (by have:=hBR.few;omega)
      have heb:=qW T
      have hzz:=HK.o.2.2.2.2.2.1
      obtain ⟨E,hE⟩:=ex9 (zH T)
      obtain ⟨nE,hnE⟩:=ex9 (E.length)
      rw [←hzz,←hE,←hnE] at ke
      rw [←hzz,←hE,←hnE] at heb
      have hE1:1≤nE:=by rw [hnE,hE];exact hBR.edg
      have hEb:nE≤972:=by omega
      have HV3:=hide (ai9 hS (ai9 ke (ai9 hvp (ai9 hPP (ai9 hE hnE)))))
      clear hS ke hvp hPP hE hnE hzz heb hBR t3 t4
      go_upto_region 16 with (go_at_call 26;refine HV3.o.2.1.mono ?_;rintro e X ⟨Ae,ce,rfl,hse,hBX⟩;have H3:=hide (ai9 hse hBX);clear hse hBX)
      have hSX:=HV3.o.1.below H3.o.2
      have hEX:EdgM X X.heap.size Ae E g5:=EdgM.new H3.o.1 hSX.bx.b5 HV3.o.2.2.1 rfl rfl rfl rfl (by rw [←HV3.o.2.2.2.2.2];exact hE1)
      have hXw:=hSX.bx.bel.size
      have hXg:g5 < X.heap.size:=hSX.bx.b5.lt
      have HX:=hide (ai9 hSX hEX)
      clear hSX hEX
      go_loopw [11] (fun iv wr=>∃(j:Nat) (vc:Value),j≤nc∧j≤12∧iv= .int .i64 j∧MadS w wr g1 g2 g5 (cShp K B S0 Ap np cp Ac nc cc Ao no oc Ad nd dc) (cCtl none 0 0 none 0 0 none 0 0 none 0 0 0 none 0 0) vp (.slice At nt ct) vc (.slice none 0 0) (.slice none 0 0) k i nt j 0 PP T ((s.creases.take j).map (creM E)) [] []∧Own yH 2 56 wr X.heap.size vc j ((s.creases.take j).map (creM E))∧EdgM wr X.heap.size Ae E g5∧X.heap.size≤wr.heap.size) (fun iv _=>12 - (intOf iv).toNat)
      case atStart=>exact ⟨0,_,by omega,by omega,rfl,HX.o.1,Own.nil,HX.o.2,Nat.le_refl _⟩
      case round=>
       obtain ⟨j,vc,hj,hj12,rfl,hS,hO,hEd,hzX⟩:=hrel
       obtain ⟨V,rfl⟩:=ex9 (wr)
       obtain ⟨Av,cv,rfl⟩:=hO.form
       have c4:V.cell? ⟨g1,4,none⟩=some (.slice Ac nc cc):=hS.bx.b1.cell 4
       have hg1l:=hS.bx.b1.lt
       by_cases hlt:j < nc∧j < 12
       ·obtain ⟨hl5,hl6⟩:=hlt
        have j1:(j:Int) < (nc:Int):=by omega
        have j2:(j:Int) < 12:=by omega
        have hcne:s.creases≠ []:=fun h=>by have:=HN.o.2.1;rw [h] at this;simp at this;omega
        obtain ⟨x,hx⟩:∃x,s.creases[j]? =some x:=⟨_,List.getElem?_eq_getElem (by rw [←HN.o.2.1];exact hl5)⟩
        obtain ⟨bc,oo,hA,hbc,d0⟩:=((HK.o.2.2.1.c hcne).below hS.bx.bel).z9 hx
        have hbcV:bc < V.heap.size:=Nat.lt_of_lt_of_le hbc hS.bx.bel.size
        subst hA
        obtain ⟨me,hme⟩:∃n:Nat,n=(x % (nE:Int)).toNat:=⟨_,rfl⟩
        have hm1:=Int.emod_nonneg x (show (nE:Int)≠0 by omega)
        have hm2:=Int.emod_lt_of_pos x (show (0:Int) < nE by omega)
        have hm3:x % (nE:Int)=(me:Int):=by omega
        have hm4:(me:Int) < (nE:Int):=by omega
        have km:=fun W=>yA x nE (by omega) (by omega) W
        simp only [hm3] at km
        obtain ⟨y,hy⟩:∃y,E[me]? =some y:=⟨_,List.getElem?_eq_getElem (by rw [←HV3.o.2.2.2.2.2];omega)⟩
        have hcr:creM E x=if x.tmod 2=0 then (y.2,y.1) else y:=by
         unfold creM
         rw [←HV3.o.2.2.2.2.2,←hme,List.getD_eq_getElem?_getD,hy]
         rfl
        have htk:(s.creases.take (j+1)).map (creM E)=(s.creases.take j).map (creM E)++ [if x.tmod 2=0 then (y.2,y.1) else y]:=by
         rw [List.take_add_one,hx,List.map_append,Option.toList_some,List.map_singleton,hcr]
        obtain ⟨be,oe,hA,hbe,e0,e1⟩:=hEd.s.e2 hy
        subst hA
        have hbeV:be < V.heap.size:=Nat.lt_of_lt_of_le hbe hzX
        obtain ⟨y1,y2⟩:=y
        simp only at e0 e1 htk
        have HE:=hide (ai9 hS (ai9 hO (ai9 hEd (ai9 htk km))))
        clear hS hO hEd htk km hm1 hm2 hm3 hme hy hcr hx hbc hbe hcne hl5 hl6
        go_upto_region 19 with (go_at_call 17;refine (HE.o.2.2.2.2 V).mono ?_;rintro e Y1 ⟨rfl,hw⟩;obtain rfl:V=Y1:=hw.symm)
        obtain ⟨U,hU⟩:=ex9 (V.alloc (.cells #[.int .i64 y1, .int .i64 y2] 56))
        obtain ⟨g12,hg12⟩:=ex9 (V.heap.size)
        rw [←hU,←hg12]
        have hBU:Below V.heap.size V U:=by rw [hU];exact (Below.refl _ V).alloc lr9 _
        have hKU:Blk U g12 56 #[.int .i64 y1, .int .i64 y2]:=by rw [hU,hg12];exact Blk.new V _ _
        have hge:g12 ≥ V.heap.size:=by omega
        have c4':U.cell? ⟨g1,4,none⟩=some (.slice (some ⟨bc,oo,none⟩) nc cc):=(hBU.cell hg1l).trans c4
        have d0':U.cell? ⟨bc,oo+j,none⟩=some (.int .i64 x):=(hBU.cell hbcV).trans d0
        have hg1U:g1 < U.heap.size:=Nat.lt_of_lt_of_le hg1l hBU.size
        have hbcU:bc < U.heap.size:=Nat.lt_of_lt_of_le hbcV hBU.size
        have k0:=hKU.cell 0
        have k1:=hKU.cell 1
        have kf0:=hKU.frozen 0
        have kf1:=hKU.frozen 1
        have hkl:=hKU.lt
        have HU:=hide (ai9 hKU (ai9 hBU hge))
        clear hKU hBU hge hU hg12 c4 d0 e0 e1 hg1l hbcV hbeV hm4
        obtain ⟨z,hz⟩:∃z,x.tmod 2=z:=⟨_,rfl⟩
        have hzb: -1≤z∧z≤1:=by
         have h1:=Int.tmod_lt_of_pos x (show (0:Int) < 2 by decide)
         have h2:=Int.lt_tmod_of_pos x (show (0:Int) < 2 by decide)
         omega
        have htk:=HE.o.2.2.2.1
        rw [hz] at htk
        by_cases hz0:z=0
        ·rw [if_pos hz0] at htk
         have HT:=hide htk
         clear htk
         go_upto_region 21 with fail
         obtain ⟨Z,hZ⟩:=ex9 ((U.setCell ⟨g12,0,none⟩ (.int .i64 y2)).setCell ⟨g12,1,none⟩ (.int .i64 y1))
         rw [←hZ]
         have hBZ:Below V.heap.size V Z:=by rw [hZ];exact (HU.o.2.1.setCell (p:=⟨g12,0,none⟩) HU.o.2.2 _).setCell (p:=⟨g12,1,none⟩) HU.o.2.2 _
         have hKZ:Blk Z g12 56 #[.int .i64 y2, .int .i64 y1]:=by rw [hZ];exact (HU.o.1.set_ 0 _).set_ 1 _
         clear hZ k0 k1 kf0 kf1 hkl c4' d0' hg1U hbcU
         have hSZ:=HE.o.1.below hBZ
         have hOZ:=HE.o.2.1.below hBZ lr9
         have hEZ:=HE.o.2.2.1.below hBZ hzX
         have hzZ:X.heap.size≤Z.heap.size:=Nat.le_trans hzX hBZ.size
         have k0:=hKZ.cell 0
         have k1:=hKZ.cell 1
         have hkl:=hKZ.lt
         have q2:Z.cell? ⟨g5,2,none⟩=some (.slice Av j cv):=hSZ.bx.b5.cell 2
         have hg5l:=hSZ.bx.b5.lt
         have HZ:=hide (ai9 hSZ (ai9 hOZ (ai9 hEZ hKZ)))
         clear hSZ hOZ hEZ hKZ hBZ
         go_wp2_with (at_builtin;refine zC rfl _ _ _ rfl Tryz.underlying29 jB rfl (by omega) zU yO rfl (HZ.o.2.1.alloc _) Z.heap.size 1 ((y2,y1):E2) rfl (Blk.new _ _ _) (by unfold maxLen;omega) (by omega) (by simp;omega) ?_;intro g6 cap6 w6 hown6 hg6 hB6 hat6 hgb6 hlt6;have hall:=(Below.refl Z.heap.size Z).alloc lr9 (.cells #[.int .i64 y2, .int .i64 y1] 56);have hS6:=(HZ.o.1.below hall).apC hg6 (hown6.base_le hXw);have h61:=(HZ.o.1.bx.b5.below hall HZ.o.1.bx.b5.lt).grown hg6 (zF (HZ.o.1.bx.b5.below hall HZ.o.1.bx.b5.lt) (HZ.o.2.1.alloc _) (show (56:TypeId)≠32 by decide));have hO6:=hown6.step (zG w6 g5 2 (.slice (some ⟨g6,0,none⟩) (j+1) cap6)) (qX h61 (by decide));have hE6:=((HZ.o.2.2.1.below hall hzZ).below hB6 lr9).set (Nat.le_trans hzZ (Nat.le_trans hall.size hg6.size)) 2 (.slice (some ⟨g6,0,none⟩) (j+1) cap6);have hz6:X.heap.size≤(w6.setCell ⟨g5,2,none⟩ (.slice (some ⟨g6,0,none⟩) (j+1) cap6)).heap.size:=Nat.le_trans (Nat.le_trans hzZ (Nat.le_trans hall.size hg6.size)) (by simp);have f6:=h61.frozen 2;have hl6:=h61.lt;have c6:=h61.cell 2;rw [←HT.o] at hS6 hO6;have H6:=hide (ai9 hS6 (ai9 hO6 (ai9 hE6 hz6)));clear hown6 hg6 hB6 hat6 hgb6 hlt6 hS6 h61 hO6 hE6 hz6 hall)
         go_roundw
         case rel=>repeat (first | exact ⟨j+1,_,by omega,by omega,by go_num,H6.o.1,H6.o.2.1,H6.o.2.2.1,H6.o.2.2.2⟩ | (refine ⟨?_,rfl⟩;exact ⟨j+1,_,by omega,by omega,by go_num,H6.o.1,H6.o.2.1,H6.o.2.2.1,H6.o.2.2.2⟩) | apply Exists.intro)
         case measure=>(simp [intOf];try omega)
        ·rw [if_neg hz0] at htk
         have HT:=hide htk
         clear htk
         go_upto_region 21 with fail
         obtain ⟨Z,hZ⟩:=ex9 (U)
         rw [←hZ]
         have hBZ:Below V.heap.size V Z:=by rw [hZ];exact HU.o.2.1
         have hKZ:Blk Z g12 56 #[.int .i64 y1, .int .i64 y2]:=by rw [hZ];exact HU.o.1
         clear hZ k0 k1 kf0 kf1 hkl c4' d0' hg1U hbcU
         have hSZ:=HE.o.1.below hBZ
         have hOZ:=HE.o.2.1.below hBZ lr9
         have hEZ:=HE.o.2.2.1.below hBZ hzX
         have hzZ:X.heap.size≤Z.heap.size:=Nat.le_trans hzX hBZ.size
         have k0:=hKZ.cell 0
         have k1:=hKZ.cell 1
         have hkl:=hKZ.lt
         have q2:Z.cell? ⟨g5,2,none⟩=some (.slice Av j cv):=hSZ.bx.b5.cell 2
         have hg5l:=hSZ.bx.b5.lt
         have HZ:=hide (ai9 hSZ (ai9 hOZ (ai9 hEZ hKZ)))
         clear hSZ hOZ hEZ hKZ hBZ
         go_wp2_with (at_builtin;refine zC rfl _ _ _ rfl Tryz.underlying29 jB rfl (by omega) zU yO rfl (HZ.o.2.1.alloc _) Z.heap.size 1 ((y1,y2):E2) rfl (Blk.new _ _ _) (by unfold maxLen;omega) (by omega) (by simp;omega) ?_;intro g6 cap6 w6 hown6 hg6 hB6 hat6 hgb6 hlt6;have hall:=(Below.refl Z.heap.size Z).alloc lr9 (.cells #[.int .i64 y1, .int .i64 y2] 56);have hS6:=(HZ.o.1.below hall).apC hg6 (hown6.base_le hXw);have h61:=(HZ.o.1.bx.b5.below hall HZ.o.1.bx.b5.lt).grown hg6 (zF (HZ.o.1.bx.b5.below hall HZ.o.1.bx.b5.lt) (HZ.o.2.1.alloc _) (show (56:TypeId)≠32 by decide));have hO6:=hown6.step (zG w6 g5 2 (.slice (some ⟨g6,0,none⟩) (j+1) cap6)) (qX h61 (by decide));have hE6:=((HZ.o.2.2.1.below hall hzZ).below hB6 lr9).set (Nat.le_trans hzZ (Nat.le_trans hall.size hg6.size)) 2 (.slice (some ⟨g6,0,none⟩) (j+1) cap6);have hz6:X.heap.size≤(w6.setCell ⟨g5,2,none⟩ (.slice (some ⟨g6,0,none⟩) (j+1) cap6)).heap.size:=Nat.le_trans (Nat.le_trans hzZ (Nat.le_trans hall.size hg6.size)) (by simp);have f6:=h61.frozen 2;have hl6:=h61.lt;have c6:=h61.cell 2;rw [←HT.o] at hS6 hO6;have H6:=hide (ai9 hS6 (ai9 hO6 (ai9 hE6 hz6)));clear hown6 hg6 hB6 hat6 hgb6 hlt6 hS6 h61 hO6 hE6 hz6 hall)
         go_roundw
         case rel=>repeat (first | exact ⟨j+1,_,by omega,by omega,by go_num,H6.o.1,H6.o.2.1,H6.o.2.2.1,H6.o.2.2.2⟩ | (refine ⟨?_,rfl⟩;exact ⟨j+1,_,by omega,by omega,by go_num,H6.o.1,H6.o.2.1,H6.o.2.2.1,H6.o.2.2.2⟩) | apply Exists.intro)
         case measure=>(simp [intOf];try omega)
       ·skip
        have htk:(s.creases.take j).map (creM E)=(s.creases.take 12).map (creM E):=by
         congr 1
         by_cases h12:j=12
         ·rw [h12]
         ·rw [List.take_of_length_le (by rw [←HN.o.2.1];omega),List.take_of_length_le (by rw [←HN.o.2.1];omega)]
        rw [htk] at hS
        obtain ⟨CC,hCC⟩:=ex9 ((s.creases.take 12).map (creM E))
        rw [←hCC] at hS
        obtain ⟨vc,hvc⟩:=ex9 (Value.slice Av j cv)
        rw [←hvc] at hS
        have HV4:=hide (ai9 hS (ai9 hvc hCC))
        clear hS hO hEd hvc hCC htk
        go_upto_region 16 with fail
        go_cut [125] (fun v wx=>v= .bool false∧wx=V)
        case first=>
         by_cases hcj:j < nc
         ·have j1:(j:Int) < (nc:Int):=by omega
          have j2:¬(j:Int) < 12:=by omega
          go_wp2_with fail
          go_meet
          case rel=>exact ⟨by first | rfl | (refine congrArg Value.bool (decide_eq_false ?_);omega),rfl⟩
         ·have j1:¬(j:Int) < (nc:Int):=by omega
          go_wp2_with fail
          go_meet
          case rel=>exact ⟨by first | rfl | (refine congrArg Value.bool (decide_eq_false ?_);omega),rfl⟩
        case rest=>
         obtain ⟨rfl,hwc⟩:=hcut
         obtain rfl:V=wc:=hwc.symm
         clear hlt c4 hg1l
         go_upto_region 23 with fail
         have hNN1:1≤i:=HK.o.2.2.2.1.some
         go_loopw [13] (fun iv wr=>∃(q:Nat) (vo:Value),q≤no∧q≤4∧iv= .int .i64 q∧MadS w wr g1 g2 g5 (cShp K B S0 Ap np cp Ac nc cc Ao no oc Ad nd dc) (cCtl none 0 0 none 0 0 none 0 0 none 0 0 0 none 0 0) vp (.slice At nt ct) vc vo (.slice none 0 0) k i nt j q PP T CC ((s.corners.take q).map (fun x=>x % (i:Int))) []) (fun iv _=>4 - (intOf iv).toNat)
         case atStart=>exact ⟨0,_,by omega,by omega,rfl,HV4.o.1⟩
         case round=>
          obtain ⟨q,vo,hq,hq4,rfl,hS⟩:=hrel
          obtain ⟨V,rfl⟩:=ex9 (wr)
          obtain ⟨Aw,cw,rfl⟩:=hS.o.form
          have c5:V.cell? ⟨g1,5,none⟩=some (.slice Ao no oc):=hS.bx.b1.cell 5
          have hg1l:=hS.bx.b1.lt
          by_cases hlt:q < no∧q < 4
          ·obtain ⟨hl5,hl6⟩:=hlt
           have j1:(q:Int) < (no:Int):=by omega
           have j2:(q:Int) < 4:=by omega
           have hone:s.corners≠ []:=fun h=>by have:=HN.o.2.2.1;rw [h] at this;simp at this;omega
           obtain ⟨x,hx⟩:∃x,s.corners[q]? =some x:=⟨_,List.getElem?_eq_getElem (by rw [←HN.o.2.2.1];exact hl5)⟩
           obtain ⟨bo,oo,hA,hbo,d0⟩:=((HK.o.2.2.1.o hone).below hS.bx.bel).z9 hx
           have hboV:bo < V.heap.size:=Nat.lt_of_lt_of_le hbo hS.bx.bel.size
           subst hA
           have km:=fun W=>yA x i (by omega) (by omega) W
           obtain ⟨o1,ho1⟩:=ex9 (x % (i:Int))
           have htk:(s.corners.take (q+1)).map (fun x=>x % (i:Int))=(s.corners.take q).map (fun x=>x % (i:Int))++ [o1]:=by
            rw [List.take_add_one,hx,List.map_append,Option.toList_some,List.map_singleton,ho1]
           simp only [←ho1] at km
           have q3:V.cell? ⟨g5,3,none⟩=some (.slice Aw q cw):=hS.bx.b5.cell 3
           have hg5l:=hS.bx.b5.lt
           have HE:=hide (ai9 hS (ai9 htk km))
           have HM:=hide (ai9 q3 (ai9 hg5l (ai9 c5 (ai9 hg1l (ai9 d0 hboV)))))
           clear hS htk km ho1 hx hbo hone hl5 hl6 d0 hboV q3 hg5l
           go_upto_region 25 with fail
           clear c5 hg1l
           have HSB:=hide (show Below V.heap.size V V.drew from (Below.refl _ V).drew)
           refine zB (fun W=>Below V.heap.size V W) [0,1,2,3,4,5,6,7] [0,1,2,3,4,5,6,7,8,9,10,11,12] zL (by kernel_rfl) ?_
           refine zA (v:=(.pointer (some ⟨g5,3,none⟩))) rfl rfl (fun _ _ _ h=>h) HSB.o ⟨rfl,fun _ _=>by simp [go_sem]⟩ ?_
           refine zA (v:=(.slice Aw q cw)) rfl rfl (fun _ _ _ h=>h) HSB.o ⟨rfl,fun _ h'=>by have a0:=(h'.cell (p:=⟨g5,3,none⟩) HM.o.2.1).trans HM.o.1;simp [go_sem,a0]⟩ ?_
           refine zA (v:=(.pointer (some ⟨g1,5,none⟩))) rfl rfl (fun _ _ _ h=>h) HSB.o ⟨rfl,fun _ _=>by simp [go_sem]⟩ ?_
           refine zA (v:=(.slice (some ⟨bo,oo,none⟩) no oc)) rfl rfl (fun _ _ _ h=>h) HSB.o ⟨rfl,fun _ h'=>by have a0:=(h'.cell (p:=⟨g1,5,none⟩) HM.o.2.2.2.1).trans HM.o.2.2.1;simp [go_sem,a0]⟩ ?_
           refine zA (v:=(.int .i64 q)) rfl rfl (fun _ _ _ h=>h) HSB.o ⟨rfl,fun _ _=>by simp [go_sem]⟩ ?_
           refine zA (v:=(.pointer (some ⟨bo,oo+q,none⟩))) rfl rfl (fun _ _ _ h=>h) HSB.o ⟨rfl,fun _ _=>by simp [go_sem,j1]⟩ ?_
           simp only [List.getElem_toArray,List.getElem_cons_succ,List.getElem_cons_zero,Act.put,List.setIfInBounds_toArray,List.set_cons_succ,List.set_cons_zero]
           refine zA (v:=(.int .i64 x)) rfl rfl (fun _ _ _ h=>h) HSB.o ⟨rfl,fun _ h'=>by have a0:=(h'.cell (p:=⟨bo,oo+q,none⟩) HM.o.2.2.2.2.2).trans HM.o.2.2.2.2.1;simp [go_sem,a0]⟩ ?_
           refine zA (v:=(.int .i64 i)) rfl rfl (fun _ _ _ h=>h) HSB.o ⟨rfl,fun _ _=>by simp [go_sem]⟩ ?_
           simp only [List.getElem_toArray,List.getElem_cons_succ,List.getElem_cons_zero,Act.put,List.setIfInBounds_toArray,List.set_cons_succ,List.set_cons_zero]
           refine zD rfl rfl ?_
           go_wp2_with fail
           refine (HE.o.2.2 V.drew).mono ?_
           rintro e W1 ⟨rfl,hW⟩
           obtain rfl:V.drew=W1:=hW.symm
           go_wp2_with fail
           refine ⟨fun _=>HSB.o,?_⟩
           have hal:Below V.heap.size V (V.drew.alloc (.cells #[.int .i64 o1] 3)):=(Below.refl _ V).drew.alloc lr9 _
           have hS3:=HE.o.1.below hal
           have H3:=hide (ai9 hS3 hal)
           clear hal hS3
           refine zD rfl rfl ?_
           go_wp2_with fail
           refine ⟨fun _=>H3.o.2,?_⟩
           refine zJ _ [_,_,_] (by kernel_rfl) rfl ?_
           have hbl:=H3.o.1.bx.bel.size
           refine zC rfl _ _ _ rfl Tryz.underlying23 zD1 rfl (by omega) xP uF rfl H3.o.1.o V.heap.size 1 (o1:Int) rfl (Blk.new _ _ _) (by unfold maxLen;omega) (by omega) hbl ?_
           intro g6 cap6 w6 hown6 hg6 hB6 hat6 hgb6 hlt6
           have hS6:=H3.o.1.apO hg6 hown6
           have h61:=H3.o.1.bx.b5.grown hg6 (zF H3.o.1.bx.b5 H3.o.1.o (show (3:TypeId)≠32 by decide))
           have c6:w6.cell? ⟨g5,3,none⟩=some (.slice Aw q cw):=h61.cell 3
           have f6:=h61.frozen 3
           have hl6:=h61.lt
           rw [←HE.o.2.1] at hS6
           have H6:=hide hS6
           clear hown6 hg6 hB6 hat6 hgb6 hlt6 hS6 h61 hbl HSB
           go_wp2
           go_roundw
           case rel=>repeat (first | exact ⟨q+1,_,by omega,by omega,by go_num,H6.o⟩ | (refine ⟨?_,rfl⟩;exact ⟨q+1,_,by omega,by omega,by go_num,H6.o⟩) | apply Exists.intro)
           case measure=>(simp [intOf];try omega)
          ·skip
           have htk:(s.corners.take q).map (fun x=>x % (i:Int))=(s.corners.take 4).map (fun x=>x % (i:Int)):=by
            congr 1
            by_cases h12:q=4
            ·rw [h12]
            ·rw [List.take_of_length_le (by rw [←HN.o.2.2.1];omega),List.take_of_length_le (by rw [←HN.o.2.2.1];omega)]
           rw [htk] at hS
           obtain ⟨OO,hOO⟩:=ex9 ((s.corners.take 4).map (fun x=>x % (i:Int)))
           rw [←hOO] at hS
           obtain ⟨vo,hvo⟩:=ex9 (Value.slice Aw q cw)
           rw [←hvo] at hS
           have HV5:=hide (ai9 hS (ai9 hvo hOO))
           clear hS hvo hOO htk
           go_upto_region 23 with fail
           go_cut [165] (fun v wx=>v= .bool false∧wx=V)
           case first=>
            by_cases hcj:q < no
            ·have j1:(q:Int) < (no:Int):=by omega
             have j2:¬(q:Int) < 4:=by omega
             go_wp2_with fail
             go_meet
             case rel=>exact ⟨by first | rfl | (refine congrArg Value.bool (decide_eq_false ?_);omega),rfl⟩
            ·have j1:¬(q:Int) < (no:Int):=by omega
             go_wp2_with fail
             go_meet
             case rel=>exact ⟨by first | rfl | (refine congrArg Value.bool (decide_eq_false ?_);omega),rfl⟩
           case rest=>
            obtain ⟨rfl,hwc⟩:=hcut
            obtain rfl:V=wc:=hwc.symm
            clear hlt c5 hg1l
            obtain ⟨m0,hm0⟩:∃m:Nat,m=3*nt / 2:=⟨_,rfl⟩
            obtain ⟨n3,hn3⟩:∃m:Nat,m=3*nt:=⟨_,rfl⟩
            have u1:3*(nt:Int)=(n3:Int):=by omega
            have u2:(n3:Int) / 2=(m0:Int):=by omega
            have u3:(n3:Int).tdiv 2=(m0:Int):=by rw [Int.tdiv_eq_ediv_of_nonneg (by omega)];omega
            have m0b:m0≤486:=by omega
            have hnb:n3≤972:=by omega
            have Hm0:=hide hm0
            clear hm0 hn3
            go_upto_region 28 with fail
            clear u1 u2 u3 hnb
            go_loopw [14,15] (fun mv rv wr=>∃(r m:Nat) (vd:Value),r≤k∧rv= .int .i64 r∧mv= .int .i64 m∧m=4^r*m0∧MadS w wr g1 g2 g5 (cShp K B S0 Ap np cp Ac nc cc Ao no oc Ad nd dc) (cCtl none 0 0 none 0 0 none 0 0 none 0 0 0 none 0 0) vp (.slice At nt ct) vc vo vd k i nt j q PP T CC OO (if nd=0 then [] else (List.range r).map (detM s))) (fun _ rv _=>k - (intOf rv).toNat)
            case atStart=>exact ⟨0,m0,_,by omega,rfl,rfl,by simp,by simpa using HV5.o.1⟩
            case round=>
             obtain ⟨r,m,vd,hr,rfl,rfl,hm,hS⟩:=hrel
             obtain ⟨V0,rfl⟩:=ex9 (wr)
             have mB:m≤124416:=by
              have key:∀r:Nat,r≤4→4^r≤256:=by decide
              rw [hm]
              exact Nat.mul_le_mul (key r (by omega)) m0b
             have c4:V0.cell? ⟨g5,4,none⟩=some (.int .i64 k):=hS.bx.b5.cell 4
             have hg5l:=hS.bx.b5.lt
             have c6:V0.cell? ⟨g1,6,none⟩=some (.slice Ad nd dc):=hS.bx.b1.cell 6
             have hg1l:=hS.bx.b1.lt
             by_cases hlt:r < k∧0 < nd
             ·obtain ⟨hrk,hnd⟩:=hlt
              have j1:(r:Int) < (k:Int):=by omega
              have j2:(0:Int) < (nd:Int):=by omega
              have hdne:s.details≠ []:=fun h=>by have:=HN.o.2.2.2;rw [h] at this;simp at this;omega
              rw [if_neg (show¬nd=0 by omega)] at hS
              obtain ⟨M,hM⟩:=ex9 (min m (40*(r+1)))
              obtain ⟨F,hF⟩:∃F:Nat→Pt,F=fun p=>((s.details.getD ((p+r) % s.details.length) (0,0,0)).1.tmod 20,(s.details.getD ((p+r) % s.details.length) (0,0,0)).2.1.tmod 20,(s.details.getD ((p+r) % s.details.length) (0,0,0)).2.2.tmod 20):=⟨_,rfl⟩
              have hdet:detM s r=(List.range M).map F:=by
               have e1:=HK.o.2.2.2.2.2.2.1
               have e2:=HK.o.2.2.2.2.2.1
               unfold detM
               rw [←e1,←e2,←Hm0.o,←hm,←hM,hF]
              have hM1:M≤m:=by omega
              have hM2:M≤40*(r+1):=by omega
              have hM3:M=m∨M=40*(r+1):=by omega
              have hVw:=hS.bx.bel.size
              have HS5:=hide (ai9 hS (ai9 hdet (ai9 hm hF)))
              clear hS hdet hm hF hM
              go_upto_region 32 with fail
              clear c4 c6 hg1l hg5l
              go_loopw [16,17] (fun dv pv wz=>∃(p:Nat),p≤M∧pv= .int .i64 p∧Own encP 3 43 wz V0.heap.size dv p ((List.range p).map F)∧Below V0.heap.size V0 wz) (fun _ pv _=>M - (intOf pv).toNat)
              case atStart=>exact ⟨0,by omega,rfl,Own.nil,Below.refl _ _⟩
              case round=>
               obtain ⟨p,hp,rfl,hO,hB⟩:=hrel
               obtain ⟨V,rfl⟩:=ex9 (wr)
               obtain ⟨Ax,cx,rfl⟩:=hO.form
               by_cases hlt:p < M
               ·have j3:(p:Int) < (m:Int):=by omega
                have j4:(p:Int) < 40*((r:Int)+1):=by omega
                obtain ⟨md,hmd⟩:∃n:Nat,n=(p+r) % nd:=⟨_,rfl⟩
                have hmn:md < nd:=by rw [hmd];exact Nat.mod_lt _ (by omega)
                have tm:((p:Int)+(r:Int)).tmod (nd:Int)=(md:Int):=by
                 rw [Int.tmod_eq_emod_of_nonneg (by omega),hmd]
                 exact (Int.natCast_emod _ _).symm
                have tm':((p:Int)+(r:Int)) % (nd:Int)=(md:Int):=by
                 rw [hmd]
                 exact (Int.natCast_emod _ _).symm
                have m1':(md:Int) < (nd:Int):=by omega
                have np0:¬nd=0:=by omega
                obtain ⟨qq,hqq⟩:∃x,s.details[md]? =some x:=⟨_,List.getElem?_eq_getElem (by rw [←HN.o.2.2.2];exact hmn)⟩
                have hgd:s.details.getD md (0,0,0)=qq:=by rw [List.getD_eq_getElem?_getD,hqq];rfl
                have hBw:Below w.heap.size w V:=HS5.o.1.bx.bel.trans (hB.mono hVw)
                obtain ⟨bp,op,hA,hbp,d0,d1,d2⟩:=((HK.o.2.2.1.d hdne).below hBw).n3 hqq
                subst hA
                have hbpV:bp < V.heap.size:=Nat.lt_of_lt_of_le hbp hBw.size
                have hSV:=HS5.o.1.below hB
                have c6:V.cell? ⟨g1,6,none⟩=some (.slice (some ⟨bp,op,none⟩) nd dc):=hSV.bx.b1.cell 6
                have hg1l:=hSV.bx.b1.lt
                obtain ⟨q1,q2,q3⟩:=qq
                simp only at d0 d1 d2
                obtain ⟨o1,ho1⟩:∃o,q1.tmod 20=o:=⟨_,rfl⟩
                obtain ⟨o2,ho2⟩:∃o,q2.tmod 20=o:=⟨_,rfl⟩
                obtain ⟨o3,ho3⟩:∃o,q3.tmod 20=o:=⟨_,rfl⟩
                have b1: -2097151≤o1∧o1≤2097151:=ho1▸zA7 q1
                have b2: -2097151≤o2∧o2≤2097151:=ho2▸zA7 q2
                have b3: -2097151≤o3∧o3≤2097151:=ho3▸zA7 q3
                have hFp:(List.range (p+1)).map F=(List.range p).map F++ [(o1,o2,o3)]:=by
                 rw [List.range_succ,List.map_append,List.map_singleton,HS5.o.2.2.2]
                 simp only [←HN.o.2.2.2]
                 rw [←hmd,hgd]
                 dsimp only
                 rw [ho1,ho2,ho3]
                have HE:=hide (ai9 hO (ai9 hB hFp))
                have HR:=hide (ai9 c6 (ai9 hg1l (ai9 d0 (ai9 d1 (ai9 d2 hbpV)))))
                clear hO hB hFp hgd hqq hmd hbp hBw hSV c6 hg1l d0 d1 d2 hbpV
                go_upto_region 34 with fail
                have HSB:=hide (show Below V.heap.size V V.drew from (Below.refl _ V).drew)
                refine zB (fun W=>Below V.heap.size V W) [0,1,2,3,4,5,6,7,8,9,10] [0,1,2,3,4,5,6,7,8,9,10,11,12] zL (by kernel_rfl) ?_
                refine zA (v:=(.pointer (some ⟨g1,6,none⟩))) rfl rfl (fun _ _ _ h=>h) HSB.o ⟨rfl,fun _ _=>by simp [go_sem]⟩ ?_
                refine zA (v:=(.slice (some ⟨bp,op,none⟩) nd dc)) rfl rfl (fun _ _ _ h=>h) HSB.o ⟨rfl,fun _ h'=>by have a0:=(h'.cell (p:=⟨g1,6,none⟩) HR.o.2.1).trans HR.o.1;simp [go_sem,a0]⟩ ?_
                refine zA (v:=(.int .i64 p)) rfl rfl (fun _ _ _ h=>h) HSB.o ⟨rfl,fun _ _=>by simp [go_sem]⟩ ?_
                refine zA (v:=(.int .i64 r)) rfl rfl (fun _ _ _ h=>h) HSB.o ⟨rfl,fun _ _=>by simp [go_sem]⟩ ?_
                refine zA (v:=(.int .i64 ((p:Int)+(r:Int)))) rfl rfl (fun _ _ _ h=>h) HSB.o ⟨rfl,fun _ _=>by have w1:IntKind.i64.wrap ((p:Int)+(r:Int))=(p:Int)+(r:Int):=IntWalk.i64_in _ (by omega);simp [go_sem,w1]⟩ ?_
                refine zA (v:=(.pointer (some ⟨g1,6,none⟩))) rfl rfl (fun _ _ _ h=>h) HSB.o ⟨rfl,fun _ _=>by simp [go_sem]⟩ ?_
                simp only [List.getElem_toArray,List.getElem_cons_succ,List.getElem_cons_zero,Act.put,List.setIfInBounds_toArray,List.set_cons_succ,List.set_cons_zero]
                refine zA (v:=(.slice (some ⟨bp,op,none⟩) nd dc)) rfl rfl (fun _ _ _ h=>h) HSB.o ⟨rfl,fun _ h'=>by have a0:=(h'.cell (p:=⟨g1,6,none⟩) HR.o.2.1).trans HR.o.1;simp [go_sem,a0]⟩ ?_
                refine zA (v:=(.int .i64 nd)) rfl rfl (fun _ _ _ h=>h) HSB.o ⟨rfl,fun _ _=>by simp [go_sem,Builtin.lenOf]⟩ ?_
                refine zA (v:=(.int .i64 md)) rfl rfl (fun _ _ _ h=>h) HSB.o ⟨rfl,fun _ _=>by simp [go_sem,np0,tm]⟩ ?_
                refine zA (v:=(.pointer (some ⟨bp,op+md*3,none⟩))) rfl rfl (fun _ _ _ h=>h) HSB.o ⟨rfl,fun _ _=>by simp [go_sem,m1']⟩ ?_
                refine zA (v:=(.agg #[.int .i64 q1, .int .i64 q2, .int .i64 q3])) rfl rfl (fun _ _ _ h=>h) HSB.o ⟨rfl,fun _ h'=>by have a0:=(h'.cell (p:=⟨bp,op+md*3,none⟩) HR.o.2.2.2.2.2).trans HR.o.2.2.1;have a1:=(h'.cell (p:=⟨bp,op+md*3+1,none⟩) HR.o.2.2.2.2.2).trans HR.o.2.2.2.1;have a2:=(h'.cell (p:=⟨bp,op+md*3+2,none⟩) HR.o.2.2.2.2.2).trans HR.o.2.2.2.2.1;simp [go_sem,a0,a1,a2]⟩ ?_
                simp only [List.getElem_toArray,List.getElem_cons_succ,List.getElem_cons_zero,Act.put,List.setIfInBounds_toArray,List.set_cons_succ,List.set_cons_zero]
                refine zD rfl rfl ?_
                go_wp2_with fail
                refine ⟨fun _=>HSB.o.alloc lr9 _,?_⟩
                refine zJ _ [_] (by kernel_rfl) rfl ?_
                go_upto_region 35 with fail
                obtain ⟨U,hU⟩:=ex9 ((V.alloc (.cells #[.int .i64 q1, .int .i64 q2, .int .i64 q3] 35)).drew)
                obtain ⟨g18,hg18⟩:=ex9 (V.heap.size)
                have hBU:Below V.heap.size V U:=by rw [hU];exact ((Below.refl _ V).alloc lr9 _).drew
                have hK9:Blk U g18 35 #[.int .i64 q1, .int .i64 q2, .int .i64 q3]:=by rw [hU,hg18];exact Blk.new V _ _
                rw [←hU,←hg18]
                obtain ⟨y0,y1,y2⟩:=hK9.three
                have hg9l:=hK9.lt
                have hOU:=HE.o.1.below hBU lr9
                have hBV0:=HE.o.2.1.trans (hBU.mono HE.o.2.1.size)
                have hzU:=hBV0.size
                have HU:=hide (ai9 hOU hBV0)
                clear hK9 hU hg18 hOU hBV0 hBU tm tm' HSB
                have w1:IntKind.i64.wrap o1=o1:=IntWalk.i64_in _ (by omega)
                have w2:IntKind.i64.wrap o2=o2:=IntWalk.i64_in _ (by omega)
                have w3:IntKind.i64.wrap o3=o3:=IntWalk.i64_in _ (by omega)
                go_wp2_with (at_builtin;refine zC rfl _ _ _ rfl Tryz.underlying28 bC rfl (by omega) zO yQ rfl (HU.o.1.alloc _) U.heap.size 1 ((o1,o2,o3):Pt) rfl (Blk.new _ _ _) (by unfold maxLen;omega) (by omega) (by simp;omega) ?_;intro g6 cap6 w6 hown6 hg6 hB6 hat6 hgb6 hlt6;have hB7:=(HU.o.2.alloc hzU (.cells #[.int .i64 o1, .int .i64 o2, .int .i64 o3] 43)).trans hB6;have H6:=hide (ai9 hown6 hB7);clear hown6 hg6 hB6 hat6 hgb6 hlt6 hB7)
                go_roundw
                case rel=>repeat (first | exact ⟨p+1,by omega,by go_num,by rw [HE.o.2.2];exact H6.o.1,H6.o.2⟩ | (refine ⟨?_,rfl⟩;exact ⟨p+1,by omega,by go_num,by rw [HE.o.2.2];exact H6.o.1,H6.o.2⟩) | apply Exists.intro)
                case measure=>(simp [intOf];try omega)
               ·obtain rfl:p=M:=by omega
                have hSV:=HS5.o.1.below hB
                rw [←HS5.o.2.1] at hO
                have hlen:(detM s r).length=p:=hO.1.symm
                have hdl:((List.range r).map (detM s)).length=r:=by rw [List.length_map,List.length_range]
                have hzV:=hB.size
                have HE:=hide (ai9 hSV (ai9 hO (ai9 hlen hdl)))
                clear hSV hO hlen hdl
                go_upto_region 32 with fail
                go_cut [205] (fun v wx=>v= .bool false∧wx=V)
                case first=>
                 by_cases hcj:p < m
                 ·have j3:(p:Int) < (m:Int):=by omega
                  have j4:¬(p:Int) < 40*((r:Int)+1):=by omega
                  go_wp2_with fail
                  go_meet
                  case rel=>exact ⟨by first | rfl | (refine congrArg Value.bool (decide_eq_false ?_);omega),rfl⟩
                 ·have j3:¬(p:Int) < (m:Int):=by omega
                  go_wp2_with fail
                  go_meet
                  case rel=>exact ⟨by first | rfl | (refine congrArg Value.bool (decide_eq_false ?_);omega),rfl⟩
                case rest=>
                 obtain ⟨rfl,hwc⟩:=hcut
                 obtain rfl:V=wc:=hwc.symm
                 obtain ⟨W0,hW0⟩:=ex9 (V.alloc (.cells #[.slice Ax p cx] 28))
                 have hBW:Below V.heap.size V W0:=by rw [hW0];exact (Below.refl _ V).alloc lr9 _
                 have hSW:=HE.o.1.below hBW
                 have hOW:=HE.o.2.1.below hBW lr9
                 have hKW:Blk W0 V.heap.size 28 #[.slice Ax p cx]:=by rw [hW0];exact Blk.new _ _ _
                 obtain ⟨ss,hos,hps⟩:=hSW.d
                 rw [HE.o.2.2.2] at hos
                 obtain ⟨As,cs,rfl⟩:=hos.form
                 have q5:V.cell? ⟨g5,5,none⟩=some (.slice As r cs):=HE.o.1.bx.b5.cell 5
                 have hg5l:=HE.o.1.bx.b5.lt
                 have hwW:w.heap.size≤W0.heap.size:=hSW.bx.bel.size
                 have HW:=hide (ai9 hSW (ai9 hOW (ai9 hos (ai9 hps (ai9 hKW hW0)))))
                 clear hBW hSW hOW hKW hos hps hW0 hlt
                 go_upto_region 37 with (at_builtin;rw [←HW.o.2.2.2.2.2];refine zC rfl _ _ _ rfl Tryz.underlying30 zNE rfl (by omega) fU zBP rfl HW.o.2.2.1 V.heap.size 1 (Ax,p,cx) rfl HW.o.2.2.2.2.1 (by unfold maxLen;omega) (by omega) hwW ?_;intro g6 cap6 w6 hown6 hg6 hB6 hat6 hgb6 hlt6;have hS6:=HW.o.1.apD2 HE.o.2.2.2 HE.o.2.2.1 HW.o.2.2.1 HW.o.2.2.2.1 (HW.o.2.1.base_le hVw) hg6 hown6;have h61:=HW.o.1.bx.b5.grown hg6 (zF HW.o.1.bx.b5 HW.o.2.2.1 (show (28:TypeId)≠32 by decide));have f6:=h61.frozen 5;have hl6:=h61.lt;have c7:=h61.cell 5;have H6:=hide hS6;clear hown6 hg6 hB6 hat6 hgb6 hlt6 hS6 h61)
                 go_wp2
                 go_roundw
                 case rel=>repeat (first | exact ⟨r+1,m*4,_,by omega,by go_num,by go_num,by rw [HS5.o.2.2.1,Nat.pow_succ,Nat.mul_assoc,Nat.mul_assoc,Nat.mul_comm m0 4],by rw [if_neg (show¬nd=0 by omega),List.range_succ,List.map_append,List.map_singleton];exact H6.o⟩ | (refine ⟨?_,rfl⟩;exact ⟨r+1,m*4,_,by omega,by go_num,by go_num,by rw [HS5.o.2.2.1,Nat.pow_succ,Nat.mul_assoc,Nat.mul_assoc,Nat.mul_comm m0 4],by rw [if_neg (show¬nd=0 by omega),List.range_succ,List.map_append,List.map_singleton];exact H6.o⟩) | apply Exists.intro)
                 case measure=>(simp [intOf];try omega)
             ·have hD:(if nd=0 then [] else (List.range r).map (detM s))=(xC s).details:=by
               show _=if s.details.length=0 then [] else (List.range (stM s)).map (detM s)
               rw [←HN.o.2.2.2,←HK.o.2.2.2.2.2.2.2.2]
               split
               ·rfl
               ·rw [show r=k by omega]
              rw [hD] at hS
              obtain ⟨As,cs,rfl⟩:=hS.d.form
              obtain ⟨ndd,hndd⟩:=ex9 ((xC s).details.length)
              rw [←hndd] at hS
              have HD:=hide (ai9 hS (ai9 hD hndd))
              clear hS hD hm hndd
              go_upto_region 28 with fail
              go_cut [193] (fun v wx=>v= .bool false∧wx=V0)
              case first=>
               by_cases hcj:r < k
               ·have j1:(r:Int) < (k:Int):=by omega
                have j2:¬(0:Int) < (nd:Int):=by omega
                go_wp2_with fail
                go_meet
                case rel=>exact ⟨by first | rfl | (refine congrArg Value.bool (decide_eq_false ?_);omega),rfl⟩
               ·have j1:¬(r:Int) < (k:Int):=by omega
                go_wp2_with fail
                go_meet
                case rel=>exact ⟨by first | rfl | (refine congrArg Value.bool (decide_eq_false ?_);omega),rfl⟩
              case rest=>
               obtain ⟨rfl,hwc⟩:=hcut
               obtain rfl:V0=wc:=hwc.symm
               clear c4 c6 hg1l hg5l
               have hS:=HD.o.1
               obtain ⟨Ac',cc',hvc⟩:=hS.c.form
               obtain ⟨Ao',oc',hvo⟩:=hS.o.form
               rw [HV3.o.2.2.1,hvc,hvo] at hS
               obtain ⟨a0,a1,a2,a3,a4,a5⟩:=hS.bx.b5.six9
               have hg5l:=hS.bx.b5.lt
               obtain ⟨e0,e1,e2,e3,e4,e5⟩:=hS.bx.b2.six9
               have f0:=hS.bx.b2.frozen 0
               have f1:=hS.bx.b2.frozen 1
               have f2:=hS.bx.b2.frozen 2
               have f3:=hS.bx.b2.frozen 3
               have f4:=hS.bx.b2.frozen 4
               have f5:=hS.bx.b2.frozen 5
               have hg2l:=hS.bx.b2.lt
               have HS7:=hide hS
               clear hS hvc hvo
               go_wp2
               have hE:=(((((HS7.o.bx.b2.set_ 0 (.slice Ax i cx)).set_ 1 (.slice At nt ct)).set_ 2 (.slice Ac' j cc')).set_ 3 (.slice Ao' q oc')).set_ 4 (.int .i64 k)).set_ 5 (.slice As ndd cs)
               refine yX (v:=vCtl Ax i cx At nt ct Ac' j cc' Ao' q oc' k As ndd cs) (fun W=>Blk W g2 32 (cCtl Ax i cx At nt ct Ac' j cc' Ao' q oc' k As ndd cs)) hE (fun W hW=> ?_) rfl ?_
               ·obtain ⟨a0,a1,a2,a3,a4,a5⟩:=hW.six9
                simp [results,Tryz.results15,go_sem,a0,a1,a2,a3,a4,a5]
                try trivial
               ·refine HS7.o.res _ _ _ _ _ _ (xC s) ?_ ?_ ?_ ?_ ?_ rfl
                ·rw [HV3.o.2.2.2.1]
                 show (List.range (kW s.kind s.bits)).map (ptM s)=_
                 rw [HK.o.2.2.2.2.2.2.2.1]
                ·exact HK.o.2.2.2.2.2.2.1.symm
                ·rw [HV4.o.2.2,HV3.o.2.2.2.2.1,HK.o.2.2.2.2.2.2.1]
                 rfl
                ·rw [HV5.o.2.2,HK.o.2.2.2.2.2.2.2.1]
                 rfl
                ·show ((stM s:Nat):Int)=_
                 rw [HK.o.2.2.2.2.2.2.2.2]
end Go.Proofs.YtmemofonebphfaaGreat
namespace Go.Proofs.YtmemofonebphfaaGreat
open Go.RowKit Go.Sort
def putN (x:Pt) (j v:Int):Pt:=if j=0 then (v,x.2.1,x.2.2) else if j=1 then (x.1,v,x.2.2) else (x.1,x.2.1,v)
def yY (c:Ctl) (q:Pt):Ctl:=
 if q.1 % 13=0 then {c with steps:=q.2.2 % 8 - 2}
 else if q.1 % 13=1 then {c with tris:=c.tris.set (q.2.1 % (c.tris.length:Int)).toNat (putN (c.tris.getD (q.2.1 % (c.tris.length:Int)).toNat (0,0,0)) (q.2.2 % 3) ((c.points.length:Int) - q.2.2 % 3))}
 else if q.1 % 13=2 then {c with tris:=c.tris.take (q.2.1 % (c.tris.length:Int)).toNat++c.tris.drop ((q.2.1 % (c.tris.length:Int)).toNat+1)}
 else if q.1 % 13=3 then {c with tris:=c.tris.set (q.2.1 % (c.tris.length:Int)).toNat ((c.tris.getD (q.2.1 % (c.tris.length:Int)).toNat (0,0,0)).2.1,(c.tris.getD (q.2.1 % (c.tris.length:Int)).toNat (0,0,0)).1,(c.tris.getD (q.2.1 % (c.tris.length:Int)).toNat (0,0,0)).2.2)}
 else if q.1 % 13=4 then {c with creases:=c.creases++ [(q.2.2 % ((c.points.length:Int)+1),q.2.1 % (c.points.length:Int))]}
 else if q.1 % 13=5 then {c with corners:=c.corners++ [q.2.2 % ((c.points.length:Int)+2) - 1]}
 else if q.1 % 13=6 then {c with points:=c.points.set (q.2.2 % (c.points.length:Int)).toNat ((c.points.getD (q.2.2 % (c.points.length:Int)).toNat (0,0,0)).1,2097151 / 16^(c.steps % 5).toNat+q.2.1 % 2,(c.points.getD (q.2.2 % (c.points.length:Int)).toNat (0,0,0)).2.2)}
 else if q.1 % 13=7 then {c with points:=c.points.set (q.2.2 % (c.points.length:Int)).toNat (-(q.2.1 % 2),(c.points.getD (q.2.2 % (c.points.length:Int)).toNat (0,0,0)).2)}
 else if q.1 % 13=8 then {c with details:=c.details++ [[(2097151+q.2.2 % 2,0,0)]]}
 else if q.1 % 13=9 then {c with details:= [List.replicate (3*c.tris.length / 2+(q.2.2 % 2).toNat) (0,0,0)]}
 else if q.1 % 13=10 then {c with points:=c.points++ [(1,2,3)]}
 else if q.1 % 13=11 then {c with points:=c.points.set (q.2.2 % (c.points.length:Int)).toNat (c.points.getD (q.2.1 % (c.points.length:Int)).toNat (0,0,0))}
 else {c with tris:=c.tris++ [c.tris.getD (q.2.1 % (c.tris.length:Int)).toNat (0,0,0)]}
theorem xY {n:Nat} (h:0 < n) (x:Int):(x % (n:Int)).toNat < n:=by
 have:=Int.emod_nonneg x (show (n:Int)≠0 by omega)
 have:=Int.emod_lt_of_pos x (show (0:Int) < n by omega)
 omega
theorem zK1 {l:List Pt} {k:Nat} (h:k < l.length):l[k]? =some (l.getD k (0,0,0)):=by
 rw [List.getD_eq_getElem?_getD,List.getElem?_eq_getElem h]
 rfl
structure SmlC (n:Nat) (c:Ctl):Prop where
 p:c.points.length≤1000+n
 t:c.tris.length≤1000+n
 cr:c.creases.length≤1000+n
 o:c.corners.length≤1000+n
 d:c.details.length≤1000+n
 dd:∀d∈c.details,d.length≤2000+2*n
 st: -2≤c.steps∧c.steps≤5
theorem SmlC.bound {n:Nat} {c:Ctl} (h:SmlC n c) (hn:n≤1000):CtlB c:=
 ⟨by have:=h.p;omega,by have:=h.t;omega,by have:=h.cr;omega,by have:=h.o;omega,by have:=h.d;omega,fun d hd=>by have:=h.dd d hd;omega⟩
theorem SmlC.fits {n:Nat} {c:Ctl} (h:SmlC n c):Go.Proofs.YtmemofonebphfaaGreat.fits c.steps:=by
 have:=h.st
 unfold Go.Proofs.YtmemofonebphfaaGreat.fits
 omega
theorem zLF (s:ShpC):SmlC 0 (xC s) where
 p:=by
  show (List.map _ _).length≤_
  rw [List.length_map,List.length_range]
  have:=(xQ s.kind s.bits).pts
  omega
 t:=by
  have:=(xQ s.kind s.bits).few
  show (qN s.kind s.bits).length≤_
  omega
 cr:=by
  show (List.map _ _).length≤_
  rw [List.length_map,List.length_take]
  omega
 o:=by
  show (List.map _ _).length≤_
  rw [List.length_map,List.length_take]
  omega
 d:=by
  have:=zAS s
  show (if s.details.length=0 then [] else (List.range (stM s)).map (detM s)).length≤_
  split
  ·simp
  ·rw [List.length_map,List.length_range];omega
 dd d hd:=by
  have h:=zAS s
  have hd:d∈(if s.details.length=0 then [] else (List.range (stM s)).map (detM s)):=hd
  split at hd
  ·cases hd
  ·obtain ⟨k,hk,rfl⟩:=List.mem_map.1 hd
   have hk:=List.mem_range.1 hk
   show (List.map _ _).length≤_
   rw [List.length_map,List.length_range]
   omega
 st:=by
  have:=zAS s
  show -2≤((stM s:Nat):Int)∧((stM s:Nat):Int)≤5
  omega
theorem zDX {n:Nat} {c:Ctl} (h:SmlC n c) (q:Pt):SmlC (n+1) (yY c q):=by
 obtain ⟨h1,h2,h3,h4,h5,h6,h7⟩:=h
 have up:SmlC (n+1) c:=⟨by omega,by omega,by omega,by omega,by omega,fun d hd=>by have:=h6 d hd;omega,h7⟩
 unfold yY
 by_cases h0':q.1 % 13=0
 ·rw [if_pos h0']
  exact ⟨up.p,up.t,up.cr,up.o,up.d,up.dd,by show -2≤q.2.2 % 8 - 2∧q.2.2 % 8 - 2≤5;omega⟩
 rw [if_neg h0']
 by_cases h1':q.1 % 13=1
 ·rw [if_pos h1']
  exact ⟨up.p,by show (List.set _ _ _).length≤_;rw [List.length_set];exact up.t,up.cr,up.o,up.d,up.dd,up.st⟩
 rw [if_neg h1']
 by_cases h2':q.1 % 13=2
 ·rw [if_pos h2']
  exact ⟨up.p,by show (_++_:List Pt).length≤_;rw [List.length_append,List.length_take,List.length_drop];omega,up.cr,up.o,up.d,up.dd,up.st⟩
 rw [if_neg h2']
 by_cases h3':q.1 % 13=3
 ·rw [if_pos h3']
  exact ⟨up.p,by show (List.set _ _ _).length≤_;rw [List.length_set];exact up.t,up.cr,up.o,up.d,up.dd,up.st⟩
 rw [if_neg h3']
 by_cases h4':q.1 % 13=4
 ·rw [if_pos h4']
  exact ⟨up.p,up.t,by show (_++_:List E2).length≤_;rw [List.length_append,List.length_singleton];omega,up.o,up.d,up.dd,up.st⟩
 rw [if_neg h4']
 by_cases h5':q.1 % 13=5
 ·rw [if_pos h5']
  exact ⟨up.p,up.t,up.cr,by show (_++_:List Int).length≤_;rw [List.length_append,List.length_singleton];omega,up.d,up.dd,up.st⟩
 rw [if_neg h5']
 by_cases h6':q.1 % 13=6
 ·rw [if_pos h6']
  exact ⟨by show (List.set _ _ _).length≤_;rw [List.length_set];exact up.p,up.t,up.cr,up.o,up.d,up.dd,up.st⟩
 rw [if_neg h6']
 by_cases h7':q.1 % 13=7
 ·rw [if_pos h7']
  exact ⟨by show (List.set _ _ _).length≤_;rw [List.length_set];exact up.p,up.t,up.cr,up.o,up.d,up.dd,up.st⟩
 rw [if_neg h7']
 by_cases h8':q.1 % 13=8
 ·rw [if_pos h8']
  refine ⟨up.p,up.t,up.cr,up.o,by show (_++_:List (List Pt)).length≤_;rw [List.length_append,List.length_singleton];omega,fun d hd=> ?_,up.st⟩
  rcases List.mem_append.1 hd with hd | hd
  ·exact up.dd d hd
  ·rw [List.mem_singleton.1 hd];show 1≤_;omega
 rw [if_neg h8']
 by_cases h9':q.1 % 13=9
 ·rw [if_pos h9']
  refine ⟨up.p,up.t,up.cr,up.o,by show 1≤_;omega,fun d hd=> ?_,up.st⟩
  rw [List.mem_singleton.1 hd,List.length_replicate]
  omega
 rw [if_neg h9']
 by_cases h10':q.1 % 13=10
 ·rw [if_pos h10']
  exact ⟨by show (_++_:List Pt).length≤_;rw [List.length_append,List.length_singleton];omega,up.t,up.cr,up.o,up.d,up.dd,up.st⟩
 rw [if_neg h10']
 by_cases h11':q.1 % 13=11
 ·rw [if_pos h11']
  exact ⟨by show (List.set _ _ _).length≤_;rw [List.length_set];exact up.p,up.t,up.cr,up.o,up.d,up.dd,up.st⟩
 rw [if_neg h11']
 exact ⟨up.p,by show (_++_:List Pt).length≤_;rw [List.length_append,List.length_singleton];omega,up.cr,up.o,up.d,up.dd,up.st⟩
theorem bH {c:Ctl} (q:Pt) (ht:0 < c.tris.length):Near 1 c.tris (yY c q).tris:=by
 have hk:=zK1 (xY ht q.2.1)
 unfold yY
 by_cases h0':q.1 % 13=0
 ·rw [if_pos h0']
  exact Near.refl _ _
 rw [if_neg h0']
 by_cases h1':q.1 % 13=1
 ·rw [if_pos h1']
  exact Near.set hk
 rw [if_neg h1']
 by_cases h2':q.1 % 13=2
 ·rw [if_pos h2']
  exact Near.erase hk
 rw [if_neg h2']
 by_cases h3':q.1 % 13=3
 ·rw [if_pos h3']
  exact Near.set hk
 rw [if_neg h3']
 by_cases h4':q.1 % 13=4
 ·rw [if_pos h4']
  exact Near.refl _ _
 rw [if_neg h4']
 by_cases h5':q.1 % 13=5
 ·rw [if_pos h5']
  exact Near.refl _ _
 rw [if_neg h5']
 by_cases h6':q.1 % 13=6
 ·rw [if_pos h6']
  exact Near.refl _ _
 rw [if_neg h6']
 by_cases h7':q.1 % 13=7
 ·rw [if_pos h7']
  exact Near.refl _ _
 rw [if_neg h7']
 by_cases h8':q.1 % 13=8
 ·rw [if_pos h8']
  exact Near.refl _ _
 rw [if_neg h8']
 by_cases h9':q.1 % 13=9
 ·rw [if_pos h9']
  exact Near.refl _ _
 rw [if_neg h9']
 by_cases h10':q.1 % 13=10
 ·rw [if_pos h10']
  exact Near.refl _ _
 rw [if_neg h10']
 by_cases h11':q.1 % 13=11
 ·rw [if_pos h11']
  exact Near.refl _ _
 rw [if_neg h11']
 exact Near.more (List.mem_of_getElem? hk)
theorem zBM {c:Ctl} (h:errC c=0):GdT c.tris:=GdT.of (uY h).chk
theorem zIZ (s:ShpC):GdT (xC s).tris:=zBM (zGP s)
theorem dJ (s:ShpC):0 < (xC s).tris.length∧0 < (xC s).points.length:=by
 refine ⟨?_,?_⟩
 ·have h:=(xQ s.kind s.bits).edg
  cases e:(xC s).tris with
  | nil=>
   have e:qN s.kind s.bits= []:=e
   rw [e] at h
   have h0:(zH ([]:List Pt)).length=0:=by unfold zH;rw [yE];rfl
   omega
  | cons a b=>simp
 ·show 0 < (List.map _ _).length
  rw [List.length_map,List.length_range]
  exact (xQ s.kind s.bits).some
theorem zGJ (s:ShpC) (q:Pt) (h:errC (yY (xC s) q)=0):xE (yY (xC s) q).tris:=
 zDB ((bH q (dJ s).1).le (by decide)) (zIZ s) (zBM h) (zCZ s)
theorem zEO (s:ShpC) (q r:Pt) (hp:0 < (yY (xC s) q).tris.length) (h:errC (yY (yY (xC s) q) r)=0):xE (yY (yY (xC s) q) r).tris:=
 zDB ((bH q (dJ s).1).step (bH r hp)) (zIZ s) (zBM h) (zCZ s)
end Go.Proofs.YtmemofonebphfaaGreat
namespace Go.Proofs.YtmemofonebphfaaGreat
open Go.RowKit Go.Sort
theorem zCX {α:Type} {enc:α→List Value} (hk:∀x,(enc x).length=3) {j:Nat} (hj:j < 3) {v:Value}:∀(xs:List α) (k:Nat) (x y:α),xs[k]? =some x→enc y=(enc x).set j v→(xs.set k y).flatMap enc=(xs.flatMap enc).set (k*3+j) v
 | [],k,x,y,h,_=>by simp at h
 | a::xs,0,x,y,h,e=>by
  simp only [List.getElem?_cons_zero,Option.some.injEq] at h
  subst h
  rw [List.set_cons_zero,List.flatMap_cons,List.flatMap_cons,e,Nat.zero_mul,Nat.zero_add,List.set_append_left _ _ (by rw [hk];exact hj)]
 | a::xs,k+1,x,y,h,e=>by
  simp only [List.getElem?_cons_succ] at h
  have ih:=zCX hk hj xs k x y h e
  rw [List.set_cons_succ,List.flatMap_cons,List.flatMap_cons,ih,List.set_append_right _ _ (by rw [hk,Nat.add_mul];omega),hk]
  congr 2
  rw [Nat.add_mul]
  omega
theorem zEV {α:Type} {enc:α→List Value} {e:TypeId} {w:World} {base n cap g k j:Nat} {xs:List α} {x y:α} {v:Value} (hk:∀x,(enc x).length=3) (h:Own enc 3 e w base (.slice (some ⟨g,0,none⟩) n cap) n xs) (hx:xs[k]? =some x) (hj:j < 3) (hy:enc y=(enc x).set j v):
  Own enc 3 e (w.setCell ⟨g,k*3+j,none⟩ v) base (.slice (some ⟨g,0,none⟩) n cap) n (xs.set k y):=by
 have hkl:=(List.getElem?_eq_some_iff.1 hx).1
 have hn:=h.1
 refine zL5 (vs:= [v]) (o:=k*3+j) hk h (List.length_set) ?_ ?_
 ·have:(k+1)*3≤n*3:=Nat.mul_le_mul_right 3 (by omega)
  rw [Nat.add_mul] at this
  show k*3+j+1≤n*3
  omega
 ·exact zCX hk hj xs k x y hx hy
theorem Own.take {α:Type} {enc:α→List Value} {k:Nat} {e:TypeId} {w:World} {base n c m:Nat} {A:Option Addr} {xs:List α} (hk:∀x,(enc x).length=k) (h:Own enc k e w base (.slice A n c) n xs) (hm:m≤n) (hA:A≠none):Own enc k e w base (.slice A m c) m (xs.take m):=by
 have hn:=h.1
 obtain ⟨h0,h1⟩:=h.2
 have hml:(xs.take m).length=m:=by rw [List.length_take];omega
 refine ⟨hml.symm,by rw [xG hk,hml],?_⟩
 rcases h1 with ⟨h1,_⟩ | ⟨g,cap,cur,h1,hb,hheap,hnc,hcm,hsz,htake⟩
 ·cases h1
  exact absurd rfl hA
 ·cases h1
  refine .inr ⟨g,c,cur,rfl,hb,hheap,by omega,hcm,hsz,?_⟩
  have e1:xs.flatMap enc=(xs.take m).flatMap enc++(xs.drop m).flatMap enc:=by rw [←List.flatMap_append,List.take_append_drop]
  have e2:((xs.take m).flatMap enc).length=m*k:=by rw [xG hk,hml]
  have hf:(xs.take m).flatMap enc=(xs.flatMap enc).take (m*k):=by
   rw [e1,←e2]
   exact List.take_left.symm
  rw [hf,←htake,List.take_take]
  congr 1
  have:=Nat.mul_le_mul_right k hm
  omega
theorem jY {α:Type} {enc:α→List Value} {k:Nat} {e:TypeId} {w:World} {base n c:Nat} {A:Option Addr} {xs:List α} (h:Own enc k e w base (.slice A n c) n xs) (hn:0 < n):∃g cur,A=some ⟨g,0,none⟩∧base≤g∧Blk w g e cur∧n≤c:=by
 obtain ⟨h0,h1⟩:=h.2
 rcases h1 with ⟨h1,h2⟩ | ⟨g,cap,cur,h1,hb,hheap,hnc,hcm,hsz,htake⟩
 ·cases h1
  omega
 ·cases h1
  exact ⟨g,cur,rfl,hb,hheap,hnc⟩
theorem zN5:(Tryz.prog.info? 43).map (fun i=>(i.zero,i.size,i.bytes))=some (some (.agg #[.int .i64 0, .int .i64 0, .int .i64 0]),3,24):=by kernel_rfl
theorem zLL (n:Nat):∀u∈(List.replicate n ((0,0,0):Pt)).flatMap encP,u=Value.int .i64 0:=fun u hu=>by
 obtain ⟨x,hx,hu⟩:=List.mem_flatMap.1 hu
 obtain rfl:=(List.mem_replicate.1 hx).2
 simp only [encP,List.mem_cons,List.not_mem_nil,or_false,or_self] at hu
 exact hu
theorem zPH (n:Nat) (hn:n≤100000000) (W:World):(Instr.makeSlice 28 (.int .i64 (n:Int)) (.int .i64 (n:Int))).run Tryz.prog W= .ok (.slice (some ⟨W.heap.size,0,none⟩) n n) (W.alloc (.cells ((List.replicate n ((0,0,0):Pt)).flatMap encP).toArray 43)):=by
 obtain ⟨i,hi,hz,hs,hb⟩:=info_parts zN5
 have h:=run_make (P:=Tryz.prog) W 28 43 i (.agg #[.int .i64 0, .int .i64 0, .int .i64 0]) Tryz.underlying28 hi hz .i64 .i64 n n (by omega) (by omega) (by rw [hb];omega) (by omega)
 rw [h,hs]
 have e:madeCells (Value.agg #[.int .i64 0, .int .i64 0, .int .i64 0]).cells ((n:Int).toNat*3)=((List.replicate n ((0,0,0):Pt)).flatMap encP).toArray:=by
  refine Array.ext (by simp [size_madeCells,xG zO]) fun k h1 h2=> ?_
  have hr:=zLL n (((List.replicate n ((0,0,0):Pt)).flatMap encP).toArray[k]) (by simp)
  rw [hr]
  have hk:k % 3=0∨k % 3=1∨k % 3=2:=by omega
  rcases hk with hk | hk | hk <;>simp [madeCells,Value.cells,hk]
 rw [e,Int.toNat_natCast]
theorem zMO {w:World} {base n c:Nat} {A:Option Addr} {v:Value} {x:List Pt} (hx:Own encP 3 43 w base (.slice A n c) n x) (hh:Own encS 1 28 w base v 1 [(A,n,c)]):Pcs encP 3 43 28 w base v [x]:=by
 refine ⟨[(A,n,c)],hh,fun i p hi=> ?_⟩
 have hn:=hx.1
 subst hn
 match i,hi with
 | 0,hi=>
  simp only [List.getElem?_cons_zero,Option.some.injEq] at hi
  subst hi
  exact ⟨A,c,rfl,hx⟩
 | i+1,hi=>simp at hi
end Go.Proofs.YtmemofonebphfaaGreat
