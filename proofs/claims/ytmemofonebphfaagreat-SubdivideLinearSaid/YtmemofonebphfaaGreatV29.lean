import Derived.Test.YtmemofonebphfaaGreatV4
import Derived.Test.YtmemofonebphfaaGreatV27
import Derived.Test.YtmemofonebphfaaGreatV28
namespace Go.Proofs.YtmemofonebphfaaGreat
open Go.RowKit Go.Sort
theorem or_bits {a b:Nat} (ha:a < 9223372036854775808) (hb:b < 9223372036854775808):bits .or .i64 (a:Int) (b:Int)=((a ||| b:Nat):Int):=by
 have hor:a ||| b < 9223372036854775808:=Nat.or_lt_two_pow (n:=63) ha hb
 have h:(BitVec.ofInt IntKind.i64.bits a ||| BitVec.ofInt IntKind.i64.bits b).toNat=a ||| b:=by
  rw [BitVec.toNat_or]
  show (BitVec.ofInt 64 a).toNat ||| (BitVec.ofInt 64 b).toNat=_
  rw [BitVec.toNat_ofInt,BitVec.toNat_ofInt]
  have ea:((a:Int) % ((2^64:Nat):Int)).toNat=a:=by omega
  have eb:((b:Int) % ((2^64:Nat):Int)).toNat=b:=by omega
  rw [ea,eb]
 show IntKind.i64.wrap ((BitVec.ofInt IntKind.i64.bits a ||| BitVec.ofInt IntKind.i64.bits b).toNat:Nat)=_
 rw [h]
 exact IntWalk.i64_in _ (by omega)
theorem vox_fits (bits:Int):∀t∈voxB bits,fitsT t:=fun t ht=>by
 obtain ⟨n,f,hn,hf,_,_,hs⟩:=mem_vox ht
 obtain ⟨i,j,l,hi,hj,hl,rfl⟩:=mem_side hs
 have key:∀m,m < 8→fitsP (cor8 (voxC (0,0,0) 1 n) 1 m):=fun m hm=>by
  have:=vox_range (o:=(0,0,0)) (s:=1) (B:=3) (by decide) (by decide) (by decide) (by decide) hn hm
  unfold fitsP fits
  omega
 exact ⟨key i hi,key j hj,key l hl⟩
theorem hct_below {w W:World} {B b o:Nat} {t:Tri} (hB:Below B w W) (hb:b < B) (h:CellsT w b o t):CellsT W b o t:=by
 obtain ⟨h0,h1,h2,h3,h4,h5,h6,h7,h8⟩:=h
 exact ⟨(hB.cell hb).trans h0,(hB.cell hb).trans h1,(hB.cell hb).trans h2,(hB.cell hb).trans h3,(hB.cell hb).trans h4,(hB.cell hb).trans h5,(hB.cell hb).trans h6,(hB.cell hb).trans h7,(hB.cell hb).trans h8⟩
def lstK (p:List Pt) (q:Pt):Nat→Nat
 | 0=>0
 | k+1=>if p[k]? =some q then k else lstK p q k
theorem lstK_at {p:List Pt} {q:Pt}:∀{k:Nat},(∃i,i < k∧p[i]? =some q)→p[lstK p q k]? =some q
 | 0,⟨i,hi,_⟩=>absurd hi (by omega)
 | k+1,⟨i,hi,h⟩=>by
  unfold lstK
  split
  ·assumption
  ·rename_i hn
   refine lstK_at ⟨i,?_,h⟩
   have:i≠k:=fun e=>hn (by rw [←e];exact h)
   omega
theorem lstK_pos {p:List Pt} (hn:p.Nodup) {q:Pt} (hq:q∈p):(posC p q:Int)=(lstK p q p.length:Int):=by
 have h1:=posC_at hq
 obtain ⟨i,hi⟩:=List.mem_iff_getElem?.1 hq
 have h2:=lstK_at (k:=p.length) ⟨i,(List.getElem?_eq_some_iff.1 hi).1,hi⟩
 obtain ⟨l1,g1⟩:=List.getElem?_eq_some_iff.1 h1
 obtain ⟨l2,g2⟩:=List.getElem?_eq_some_iff.1 h2
 have:=(List.getElem_inj hn).1 (g1.trans g2.symm)
 omega
theorem srt_nodup9 {l:List Pt} (h:Srt ltP l):l.Nodup:=h.imp fun h e=>by rw [e,sto_P.irrefl] at h;cases h
def boxJ (p:List Pt) (n:Nat) (t:Tri) (j:Nat):Array Value:=
 #[.int .i64 (if 0 < j then (lstK p (corner t 0) n:Int) else 0), .int .i64 (if 1 < j then (lstK p (corner t 1) n:Int) else 0), .int .i64 (if 2 < j then (lstK p (corner t 2) n:Int) else 0)]
theorem boxJ_zero (p:List Pt) (n:Nat) (t:Tri) {j:Nat} (hj:j < 3):(boxJ p n t j).setIfInBounds j (.int .i64 (lstK p (corner t j) 0))=boxJ p n t j:=by
 have hc:j=0∨j=1∨j=2:=by omega
 rcases hc with rfl | rfl | rfl <;>simp [boxJ,lstK]
theorem boxJ_next (p:List Pt) (n:Nat) (t:Tri) {j:Nat} (hj:j < 3):(boxJ p n t j).setIfInBounds j (.int .i64 (lstK p (corner t j) n))=boxJ p n t (j+1):=by
 have hc:j=0∨j=1∨j=2:=by omega
 rcases hc with rfl | rfl | rfl <;>simp [boxJ]
def BasR (w w':World) (t:List Pt) (n:Nat) (e:Ending):Prop:=
 ∃A c,e= .returned (.tuple #[.slice A t.length c, .int .i64 n])∧Own encN3 3 35 w' w.heap.size (.slice A t.length c) t.length t∧Below w.heap.size w w'
set_option maxRecDepth 100000 in
set_option maxHeartbeats 16000000 in
theorem base0_any (k b:Int) (hk:k % 4=0) (w:World):Calls Tryz.prog 38 #[.int .i64 k, .int .i64 b] w fun e w'=>BasR w w' tetB 4 e:=by
 have km:=fun W=>mod1_any k 4 (by omega) (by omega) W
 rw [hk] at km
 have HK:=hide km
 clear km hk
 go_enter Tryz.func38,Tryz.ntmps38
 go_wp2_with (go_at_call 17;refine (HK.out _).mono ?_;rintro e w1 ⟨rfl,rfl⟩)
 go_ret2
 exact ⟨_,_,rfl,own_lits encN3_len 35 _ tetB (Nat.le_refl _) (by simp [tetB]),(Below.refl _ _).alloc (Nat.le_refl _) _⟩
set_option maxRecDepth 100000 in
set_option maxHeartbeats 64000000 in
theorem base_any (k b:Int) (hb:fits b) (w:World):Calls Tryz.prog 38 #[.int .i64 k, .int .i64 b] w fun e w'=>BasR w w' (baseT k b) (baseN k b) e:=by
 have km:=fun W=>mod1_any k 4 (by omega) (by omega) W
 have hm1:=Int.emod_nonneg k (show (4:Int)≠0 by omega)
 have hm2:=Int.emod_lt_of_pos k (show (0:Int) < 4 by omega)
 by_cases h0:k % 4=0
 ·have e1:baseT k b=tetB:=if_pos h0
  have e2:baseN k b=4:=if_pos h0
  rw [e1,e2]
  exact base0_any k b h0 w
 by_cases h1:k % 4=1
 ·have e1:baseT k b=octB:=by unfold baseT;rw [if_neg h0,if_pos h1]
  have e2:baseN k b=6:=by unfold baseN;rw [if_neg h0,if_pos h1]
  rw [e1,e2]
  rw [h1] at km
  have HK:=hide km
  clear km h0 h1 hm1 hm2 e1 e2
  go_enter Tryz.func38,Tryz.ntmps38
  go_wp2_with (go_at_call 17;refine (HK.out _).mono ?_;rintro e w1 ⟨rfl,rfl⟩)
  go_ret2
  exact ⟨_,_,rfl,own_lits encN3_len 35 _ octB (Nat.le_refl _) (by simp [octB]),(Below.refl _ _).alloc (Nat.le_refl _) _⟩
 by_cases h2:k % 4=2
 ·have e1:baseT k b=torB:=by unfold baseT;rw [if_neg h0,if_neg h1,if_pos h2]
  have e2:baseN k b=9:=by unfold baseN;rw [if_neg h0,if_neg h1,if_pos h2]
  rw [e1,e2]
  rw [h2] at km
  have HK:=hide km
  clear km h0 h1 h2 hm1 hm2 e1 e2 hb
  go_enter Tryz.func38,Tryz.ntmps38
  go_upto_region 9 with (go_at_call 17;refine (HK.out _).mono ?_;rintro e w1 ⟨rfl,hw⟩;obtain rfl:w=w1:=hw.symm)
  go_loopw [6,7] (fun ov yv wr=>∃y:Nat,y≤3∧yv= .int .i64 y∧Own encN3 3 35 wr w.heap.size ov (6*y) ((List.range y).flatMap fun y=>(List.range 3).flatMap (torR y))∧Below w.heap.size w wr) (fun _ yv _=>3 - (intOf yv).toNat)
  case atStart=>exact ⟨0,by omega,rfl,Own.nil,Below.refl _ _⟩
  case round=>
   obtain ⟨y,hy,rfl,hO,hB⟩:=hrel
   obtain ⟨V,rfl⟩:∃x,x=wr:=⟨_,rfl⟩
   by_cases hlt:y < 3
   ·have y1:(y:Int) < 3:=by omega
    obtain ⟨yn,hyn⟩:∃n:Nat,n=(y+1) % 3:=⟨_,rfl⟩
    have hyl:yn < 3:=by omega
    have ty:((y:Int)+1) % 3=(yn:Int):=by omega
    have ty':((y:Int)+1).tmod 3=(yn:Int):=by rw [Int.tmod_eq_emod_of_nonneg (by omega)];exact ty
    have hrg:((List.range (y+1)).flatMap fun y=>(List.range 3).flatMap (torR y))=((List.range y).flatMap fun y=>(List.range 3).flatMap (torR y))++(List.range 3).flatMap (torR y):=by rw [List.range_succ (n:=y),List.flatMap_append,List.flatMap_singleton]
    have HV:=hide (And.intro hO (And.intro hB (And.intro hrg hyn)))
    clear hO hB hrg hyn
    go_upto_region 12 with fail
    go_loopw [6,8] (fun ov xv wz=>∃x:Nat,x≤3∧xv= .int .i64 x∧Own encN3 3 35 wz w.heap.size ov (6*y+2*x) (((List.range y).flatMap fun y=>(List.range 3).flatMap (torR y))++(List.range x).flatMap (torR y))∧Below w.heap.size w wz) (fun _ xv _=>3 - (intOf xv).toNat)
    case atStart=>exact ⟨0,by omega,rfl,by simpa using HV.out.1,HV.out.2.1⟩
    case round=>
     obtain ⟨x,hx,rfl,hO,hB⟩:=hrel
     obtain ⟨U,rfl⟩:∃x,x=wr:=⟨_,rfl⟩
     obtain ⟨A7,c7,rfl⟩:=hO.form
     by_cases hlx:x < 3
     ·have x1:(x:Int) < 3:=by omega
      obtain ⟨xn,hxn⟩:∃n:Nat,n=(x+1) % 3:=⟨_,rfl⟩
      have hxl:xn < 3:=by omega
      have tx:((x:Int)+1) % 3=(xn:Int):=by omega
      have tx':((x:Int)+1).tmod 3=(xn:Int):=by rw [Int.tmod_eq_emod_of_nonneg (by omega)];exact tx
      obtain ⟨a,ha⟩:∃n:Nat,n=3*y+x:=⟨_,rfl⟩
      obtain ⟨b1,hb1⟩:∃n:Nat,n=3*y+xn:=⟨_,rfl⟩
      obtain ⟨c1,hc1⟩:∃n:Nat,n=3*yn+xn:=⟨_,rfl⟩
      obtain ⟨d1,hd1⟩:∃n:Nat,n=3*yn+x:=⟨_,rfl⟩
      have sa:3*(y:Int)+(x:Int)=(a:Int):=by omega
      have sb:3*(y:Int)+(xn:Int)=(b1:Int):=by omega
      have sc:3*(yn:Int)+(xn:Int)=(c1:Int):=by omega
      have sd:3*(yn:Int)+(x:Int)=(d1:Int):=by omega
      have ba:a < 9:=by omega
      have bb:b1 < 9:=by omega
      have bc:c1 < 9:=by omega
      have bd:d1 < 9:=by omega
      obtain ⟨ys,hys⟩:∃ys:List Pt,ys= [((a:Int),(b1:Int),(c1:Int)),((a:Int),(c1:Int),(d1:Int))]:=⟨_,rfl⟩
      have htr:torR y x=ys:=by rw [hys,ha,hb1,hc1,hd1,hxn,HV.out.2.2.2];rfl
      have hrx:(List.range (x+1)).flatMap (torR y)=(List.range x).flatMap (torR y)++ys:=by rw [List.range_succ,List.flatMap_append,List.flatMap_singleton,htr]
      have hyl2:ys.length=2:=by rw [hys];rfl
      have hya:(ys.flatMap encN3).toArray=#[.int .i64 a, .int .i64 b1, .int .i64 c1, .int .i64 a, .int .i64 c1, .int .i64 d1]:=by rw [hys];rfl
      have hol:=own_lits encN3_len 35 U ys (Nat.le_refl _) (by rw [hyl2];omega)
      rw [hya] at hol
      have hbU:=hB.size
      have HU:=hide (And.intro (hol.sl encN3_len (Nat.le_refl _)) (And.intro hyl2 (And.intro hrx (And.intro hO hB))))
      clear hol hya hyl2 hys htr hrx hO hB hxn ha hb1 hc1 hd1
      go_wp2_with (at_builtin;refine wpList_appendS rfl _ _ _ rfl Tryz.underlying22 infoN3 rfl (by omega) encN3_len encN3_one rfl (HU.out.2.2.2.1.alloc _) (some ⟨U.heap.size,0,none⟩) 2 _ ys (by rw [HU.out.2.1];rfl) HU.out.1 (by rw [HU.out.2.1];unfold maxLen;omega) (by rw [HU.out.2.1];omega) (by simp;omega) ?_;intro v5 w5 ho5 hg5 hB5 hat5;rw [HU.out.2.1,List.append_assoc,←HU.out.2.2.1,show 6*y+2*x+2=6*y+2*(x+1) by omega] at ho5;have H5:=hide (And.intro ho5 ((HU.out.2.2.2.2.alloc (by omega) _).trans hB5));clear ho5 hg5 hB5 hat5)
      go_roundw
      case rel=>exact ⟨x+1,by omega,by go_num,H5.out.1,H5.out.2⟩
      case measure=>(simp [intOf];try omega)
     ·obtain rfl:x=3:=by omega
      have x1:¬((3:Nat):Int) < 3:=by omega
      rw [show ((3:Nat):Int)=3 from rfl]
      have HU:=hide (And.intro hO hB)
      clear hO hB hlx x1
      go_wp2
      go_roundw
      case rel=>exact ⟨y+1,by omega,by go_num,by rw [HV.out.2.2.1,show 6*(y+1)=6*y+2*3 by omega];exact HU.out.1,HU.out.2⟩
      case measure=>(simp [intOf];try omega)
   ·obtain rfl:y=3:=by omega
    rw [show ((3:Nat):Int)=3 from rfl]
    obtain ⟨A7,c7,rfl⟩:=hO.form
    have HU:=hide (And.intro hO hB)
    clear hO hB hlt
    go_wp2
    go_ret2
    exact ⟨_,_,rfl,HU.out.1,HU.out.2⟩
 have h3:k % 4=3:=by omega
 obtain ⟨i,hi⟩:∃i:Nat,b % 27=(i:Int):=⟨(b % 27).toNat,by have:=Int.emod_nonneg b (show (27:Int)≠0 by omega);omega⟩
 have hi27:i < 27:=by have:=Int.emod_lt_of_pos b (show (0:Int) < 27 by omega);omega
 obtain ⟨q,hq⟩:∃q,q=b.tdiv 27:=⟨_,rfl⟩
 obtain ⟨j,hj⟩:∃j:Nat,q % 27=(j:Int):=⟨(q % 27).toNat,by have:=Int.emod_nonneg q (show (27:Int)≠0 by omega);omega⟩
 have hj27:j < 27:=by have:=Int.emod_lt_of_pos q (show (0:Int) < 27 by omega);omega
 have hbits:bitsB b=2^i ||| 2^j:=by unfold bitsB;rw [hi,←hq,hj,Int.toNat_natCast,Int.toNat_natCast]
 have hbl:=bitsB_lt b
 have kv:=fun (W:World)=>voxels_any (bitsB b) hbl 1 (0,0,0) W (by unfold voxR;decide)
 have hvf:∀t∈voxB b,fitsT t:=vox_fits b
 have hvl:(voxB b).length≤324:=voxP_le _ _ _
 have hv0:voxP (bitsB b).testBit (0,0,0) 1=voxB b:=rfl
 rw [hv0] at kv
 have km2:=fun W=>mod1_any b 27 (by omega) (by omega) W
 have km3:=fun W=>mod1_any q 27 (by omega) (by omega) W
 rw [hi] at km2
 rw [hj] at km3
 rw [h3] at km
 have hqf: -9223372036854775808≤q∧q≤9223372036854775807:=by
  unfold fits at hb
  have e:q=if 0≤b then b / 27 else -((-b) / 27):=by
   rw [hq]
   split
   ·rw [Int.tdiv_eq_ediv_of_nonneg (by assumption)]
   ·rename_i h
    have e0:b= -(-b):=by omega
    rw [e0,Int.neg_tdiv,Int.tdiv_eq_ediv_of_nonneg (by omega)]
    simp
  split at e <;>omega
 have t0:IntKind.i64.wrap q=q:=IntWalk.i64_in _ (by omega)
 obtain ⟨p1,hp1⟩:∃p:Nat,p=2^i:=⟨_,rfl⟩
 obtain ⟨p2,hp2⟩:∃p:Nat,p=2^j:=⟨_,rfl⟩
 have t1:(2:Int)^i=(p1:Int):=by rw [hp1];exact (Int.natCast_pow 2 i).symm
 have t2:(2:Int)^j=(p2:Int):=by rw [hp2];exact (Int.natCast_pow 2 j).symm
 have b1:p1 < 134217728:=by rw [hp1];exact Nat.pow_lt_pow_right (n:=27) (by omega) hi27
 have b2:p2 < 134217728:=by rw [hp2];exact Nat.pow_lt_pow_right (n:=27) (by omega) hj27
 rw [←hp1,←hp2] at hbits
 have t3:=or_bits (show p1 < 9223372036854775808 by omega) (show p2 < 9223372036854775808 by omega)
 rw [←hbits] at t3
 obtain ⟨bt,hbt⟩:∃n,n=bitsB b:=⟨_,rfl⟩
 rw [←hbt] at kv t3 hbl
 obtain ⟨L,hL⟩:∃L,L=voxB b:=⟨_,rfl⟩
 have e1:baseT k b=if checkP L false=0 then numV L else tetB:=by unfold baseT;rw [if_neg h0,if_neg h1,if_neg h2,hL]
 have e2:baseN k b=if checkP L false=0 then (cornersP L).length else 4:=by unfold baseN;rw [if_neg h0,if_neg h1,if_neg h2,hL]
 obtain ⟨TT,hTT⟩:∃t,t=baseT k b:=⟨_,rfl⟩
 obtain ⟨NN,hNN⟩:∃t,t=baseN k b:=⟨_,rfl⟩
 rw [←hTT,←hNN]
 rw [←hTT] at e1
 rw [←hNN] at e2
 have HE:=hide (And.intro e1 e2)
 rw [←hL] at kv hvf hvl
 obtain ⟨LN,hLN⟩:∃n,n=L.length:=⟨_,rfl⟩
 rw [←hLN] at kv hvl
 have HK:=hide (And.intro km (And.intro km2 (And.intro km3 (And.intro kv (And.intro hvf hLN)))))
 have w1:IntKind.i64.wrap (p1:Int)=p1:=IntWalk.i64_in _ (by omega)
 have w2:IntKind.i64.wrap (p2:Int)=p2:=IntWalk.i64_in _ (by omega)
 clear km km2 km3 kv hvf hv0 hbits hbt hL e1 e2 hTT hNN hp1 hp2 h0 h1 h2 h3 hi hj hb hm1 hm2 hLN
 have HQ:=hide (And.intro hq hqf)
 clear hq
 go_enter Tryz.func38,Tryz.ntmps38
 go_upto_region 20 with (go_at_call 17;refine (HK.out.1 _).mono ?_;rintro e w1 ⟨rfl,hw⟩;obtain rfl:w=w1:=hw.symm)
 have HSB:=hide (show True from trivial)
 refine wp_region_mix (fun _=>True) [0,3,4,8,2,6,7] [0,3,4,8,1,2,5,6,7,9,10] mixed_ok (by kernel_rfl) ?_
 refine wpMix_q (v:=(.int .i64 b)) rfl rfl (fun _ _ _ h=>h) HSB.out ⟨rfl,fun _ _=>by simp [go_sem]⟩ ?_
 refine wpMix_q (v:=(.int .i64 b)) rfl rfl (fun _ _ _ h=>h) HSB.out ⟨rfl,fun _ _=>by simp [go_sem]⟩ ?_
 refine wpMix_q (v:=(.int .i64 q)) rfl rfl (fun _ _ _ h=>h) HSB.out ⟨rfl,fun _ _=>by simp [go_sem,←HQ.out.1,t0]⟩ ?_
 refine wpMix_q (v:=(.agg #[.int .i64 0, .int .i64 0, .int .i64 0])) rfl rfl (fun _ _ _ h=>h) HSB.out ⟨rfl,fun _ _=>by simp [go_sem]⟩ ?_
 simp only [List.getElem_toArray,List.getElem_cons_succ,List.getElem_cons_zero,Act.put,List.setIfInBounds_toArray,List.set_cons_succ,List.set_cons_zero]
 refine wpMix_n rfl rfl ?_
 go_wp2_with fail
 refine (HK.out.2.1 w.drew).mono ?_
 rintro e W1 ⟨rfl,rfl⟩
 go_wp2_with fail
 refine ⟨fun _=>trivial,?_⟩
 refine wpMix_q (v:=(.int .i64 p1)) rfl rfl (fun _ _ _ h=>h) HSB.out ⟨rfl,fun _ _=>by simp [go_sem,t1,w1]⟩ ?_
 refine wpMix_n rfl rfl ?_
 go_wp2_with fail
 refine (HK.out.2.2.1 w.drew).mono ?_
 rintro e W2 ⟨rfl,rfl⟩
 go_wp2_with fail
 refine ⟨fun _=>trivial,?_⟩
 refine wpMix_q (v:=(.int .i64 p2)) rfl rfl (fun _ _ _ h=>h) HSB.out ⟨rfl,fun _ _=>by simp [go_sem,t2,w2]⟩ ?_
 refine wpMix_q (v:=(.int .i64 bt)) rfl rfl (fun _ _ _ h=>h) HSB.out ⟨rfl,fun _ _=>by simp [go_sem,t3]⟩ ?_
 refine wpMix_tail _ [_,_] (by kernel_rfl) rfl ?_
 clear t0 t1 t2 t3 w1 w2 HSB
 go_wp2_with fail
 refine (HK.out.2.2.2.1 w.drew).mono ?_
 rintro e X ⟨v,rfl,ho,hB⟩
 obtain ⟨Al,cl,rfl⟩:=ho.form
 have kc:=Check_any Al cl L X (ho.sl encT_len (Nat.le_refl _)) (by rw [←HK.out.2.2.2.2.2];omega) HK.out.2.2.2.2.1
 rw [←HK.out.2.2.2.2.2] at kc
 obtain ⟨ck,hck⟩:∃c,c=checkP L false:=⟨_,rfl⟩
 rw [←hck] at kc
 have HX:=hide (And.intro (ho.sl encT_len (Nat.le_refl _)) (And.intro (undrew9 hB) (And.intro kc hck)))
 clear ho hB kc hck
 by_cases hc0:ck=0
 ·subst hc0
  have kcs:=fun (W:World) (hW:Below X.heap.size X W)=>corners_any Al cl L W ((HX.out.1.below hW).more hW.size) (by rw [←HK.out.2.2.2.2.2];omega) HK.out.2.2.2.2.1
  rw [←HK.out.2.2.2.2.2] at kcs
  obtain ⟨PL,hPL⟩:∃p,p=cornersP L:=⟨_,rfl⟩
  rw [←hPL] at kcs
  obtain ⟨PN,hPN⟩:∃n,n=PL.length:=⟨_,rfl⟩
  rw [←hPN] at kcs
  have hpn:PN≤3*LN:=by rw [hPN,hPL,HK.out.2.2.2.2.2];exact cornersP_le L
  have hnd:PL.Nodup:=by rw [hPL];exact srt_nodup9 (corners_both L).1
  have hmm:∀t∈L,∀m,m < 3→corner t m∈PL:=fun t ht m hm=>by
   have h:=tri_cors ht
   rw [←hPL] at h
   unfold corner
   split
   ·exact h.1
   ·split
    ·exact h.2.1
    ·exact h.2.2
  have hnum:numV L=L.map fun t=>((lstK PL t.1 PN:Int),(lstK PL t.2.1 PN:Int),(lstK PL t.2.2 PN:Int)):=by
   unfold numV
   rw [←hPL]
   refine List.map_congr_left fun t ht=> ?_
   have h:=tri_cors ht
   rw [←hPL] at h
   rw [hPN,lstK_pos hnd h.1,lstK_pos hnd h.2.1,lstK_pos hnd h.2.2]
  have HP:=hide (And.intro kcs (And.intro hPL (And.intro hPN (And.intro hmm hnum))))
  clear kcs hPL hPN hmm hnum hnd
  go_upto_region 23 with (go_at_call 70;refine HX.out.2.2.1.mono ?_;rintro e W3 ⟨rfl,hB3⟩;have H3:=hide hB3;clear hB3)
  go_upto_region 24 with (go_at_call 71;refine (HP.out.1 W3 H3.out).mono ?_;rintro e W4 ⟨A4,c4,rfl,hs4,_,hB4,_⟩;have H4:=hide (And.intro hs4 (H3.out.trans (hB4.mono H3.out.size)));clear hs4 hB4)
  go_upto_region 26 with fail
  go_loopw [15,16] (fun ov iv wr=>∃i:Nat,i≤LN∧iv= .int .i64 i∧Own encN3 3 35 wr W4.heap.size ov i ((L.take i).map fun t=>((lstK PL t.1 PN:Int),(lstK PL t.2.1 PN:Int),(lstK PL t.2.2 PN:Int)))∧Below W4.heap.size W4 wr) (fun _ iv _=>LN - (intOf iv).toNat)
  case atStart=>exact ⟨0,by omega,rfl,by rw [List.take_zero];exact Own.nil,Below.refl _ W4⟩
  case round=>
   obtain ⟨i,hi,rfl,hO,hB⟩:=hrel
   obtain ⟨V,rfl⟩:∃x,x=wr:=⟨_,rfl⟩
   obtain ⟨Ax,cx,rfl⟩:=hO.form
   by_cases hlt:i < LN
   ·have i1:(i:Int) < (LN:Int):=by omega
    obtain ⟨t,ht⟩:∃t,L[i]? =some t:=⟨_,List.getElem?_eq_getElem (by rw [←HK.out.2.2.2.2.2];exact hlt)⟩
    have htk:((L.take (i+1)).map fun t=>((lstK PL t.1 PN:Int),(lstK PL t.2.1 PN:Int),(lstK PL t.2.2 PN:Int)))=((L.take i).map fun t=>((lstK PL t.1 PN:Int),(lstK PL t.2.1 PN:Int),(lstK PL t.2.2 PN:Int)))++ [((lstK PL t.1 PN:Int),(lstK PL t.2.1 PN:Int),(lstK PL t.2.2 PN:Int))]:=by rw [take_at ht,List.map_append];rfl
    obtain ⟨bl,ol,hA,hbl2,hct⟩:=((HX.out.1.below H4.out.2).more H4.out.2.size).tri ht
    subst hA
    have HV:=hide (And.intro hO (And.intro hB (And.intro htk (And.intro hct (And.intro hbl2 ht)))))
    clear hO hB htk hct hbl2 ht
    go_upto_region 29 with fail
    obtain ⟨gt,hgt⟩:∃n,n=V.heap.size:=⟨_,rfl⟩
    obtain ⟨Y,hY⟩:∃W,W=V.alloc (.cells #[.int .i64 0, .int .i64 0, .int .i64 0] 35):=⟨_,rfl⟩
    have hBY:Below V.heap.size V Y:=by rw [hY];exact (Below.refl _ V).alloc (Nat.le_refl _) _
    have hKY:Blk Y gt 35 (boxJ PL PN t 0):=by rw [hY,hgt];exact Blk.new _ _ _
    rw [←hY,←hgt]
    have hbs:=HV.out.2.1.size
    have HY:=hide (And.intro hKY (And.intro (HV.out.1.below hBY (Nat.le_refl _)) (And.intro (HV.out.2.1.trans (hBY.mono hbs)) (And.intro (show W4.heap.size≤gt by omega) (show∀r,(Value.slice Ax i cx).ownBlock=some r→r≠gt from fun r hr=>by have:=(HV.out.1.blk r hr).2;omega)))))
    clear hBY hKY hY hgt hbs
    go_upto_region 30 with fail
    go_loopw [18] (fun jv wz=>∃j:Nat,j≤3∧jv= .int .i64 j∧Blk wz gt 35 (boxJ PL PN t j)∧Y.grownBy wz (some gt)) (fun jv _=>3 - (intOf jv).toNat)
    case atStart=>exact ⟨0,by omega,rfl,HY.out.1,⟨rfl,rfl,rfl,Nat.le_refl _,fun _ _ _=>rfl⟩⟩
    case round=>
     obtain ⟨j,hj,rfl,hK,hG⟩:=hrel
     obtain ⟨U,rfl⟩:∃x,x=wr:=⟨_,rfl⟩
     by_cases hj3:j < 3
     ·have j1:(j:Int) < 3:=by omega
      have HU:=hide (And.intro hK hG)
      clear hK hG
      go_upto_region 33 with fail
      go_loopw [19] (fun kv wq=>∃k:Nat,k≤PN∧kv= .int .i64 k∧Blk wq gt 35 ((boxJ PL PN t j).setIfInBounds j (.int .i64 (lstK PL (corner t j) k)))∧Y.grownBy wq (some gt)) (fun kv _=>PN - (intOf kv).toNat)
      case atStart=>exact ⟨0,by omega,rfl,by rw [boxJ_zero PL PN t hj3];exact HU.out.1,HU.out.2⟩
      case round=>
       obtain ⟨k,hk,rfl,hK,hG⟩:=hrel
       obtain ⟨Q,rfl⟩:∃x,x=wr:=⟨_,rfl⟩
       by_cases hkn:k < PN
       ·have k1:(k:Int) < (PN:Int):=by omega
        obtain ⟨pk,hpk⟩:∃p,PL[k]? =some p:=⟨_,List.getElem?_eq_getElem (by rw [←HP.out.2.2.1];exact hkn)⟩
        have hBY:Below W4.heap.size Y Q:=grown_bel hG HY.out.2.2.2.1 HY.out.2.2.1.size
        have hBQ:=HY.out.2.2.1.trans hBY
        obtain ⟨bp,op,hA4,hbp,c0,c1,c2⟩:=(H4.out.1.below hBQ).pt9 hpk
        subst hA4
        obtain ⟨d0,d1,d2⟩:=(hct_below hBQ HV.out.2.2.2.2.1 HV.out.2.2.2.1).corner8 hj3
        have hbpQ:bp < Q.heap.size:=Nat.lt_of_lt_of_le hbp hBQ.size
        have hblQ:bl < Q.heap.size:=Nat.lt_of_lt_of_le HV.out.2.2.2.2.1 hBQ.size
        obtain ⟨r,hr⟩:∃r,r=corner t j:=⟨_,rfl⟩
        rw [←hr] at d0 d1 d2 hK
        have hls:lstK PL r (k+1)=if PL[k]? =some r then k else lstK PL r k:=rfl
        have HQ2:=hide (And.intro c0 (And.intro c1 (And.intro c2 (And.intro d0 (And.intro d1 (And.intro d2 (And.intro hbpQ hblQ)))))))
        have HQ3:=hide (And.intro hK (And.intro hG (And.intro hr (And.intro hls hpk))))
        clear hBY hBQ hbp c0 c1 c2 d0 d1 d2 hbpQ hblQ hK hG hls hr hpk
        obtain ⟨s1,s2,s3⟩:=pk
        obtain ⟨r1,r2,r3⟩:=r
        go_upto_region 35 with fail
        have HSB:=hide (show Below Q.heap.size Q Q.drew from (Below.refl _ Q).drew)
        by_cases heq:((s1,s2,s3):Pt)=(r1,r2,r3)
        ·have hls:=HQ3.out.2.2.2.1
         rw [if_pos (by rw [HQ3.out.2.2.2.2,heq])] at hls
         have HLS:=hide hls
         have hs1:s1=r1:=congrArg (·.1) heq
         have hs2:s2=r2:=congrArg (·.2.1) heq
         have hs3:s3=r3:=congrArg (·.2.2) heq
         clear hls heq
         refine wp_region_mix (fun W=>Below Q.heap.size Q W) [0,1,2,3,4,5,6,7,8,9,10] [0,1,2,3,4,5,6,7,8,9,10] mixed_ok (by kernel_rfl) ?_
         refine wpMix_q (v:=(.slice (some ⟨bp,op,none⟩) PN c4)) rfl rfl (fun _ _ _ h=>h) HSB.out ⟨rfl,fun _ _=>by simp [go_sem]⟩ ?_
         refine wpMix_q (v:=(.int .i64 k)) rfl rfl (fun _ _ _ h=>h) HSB.out ⟨rfl,fun _ _=>by simp [go_sem]⟩ ?_
         refine wpMix_q (v:=(.pointer (some ⟨bp,op+k*3,none⟩))) rfl rfl (fun _ _ _ h=>h) HSB.out ⟨rfl,fun _ _=>by simp [go_sem,k1]⟩ ?_
         refine wpMix_q (v:=(.agg #[.int .i64 s1, .int .i64 s2, .int .i64 s3])) rfl rfl (fun _ _ _ h=>h) HSB.out ⟨rfl,fun _ h'=>by have e0:=(h'.cell (p:=⟨bp,op+k*3,none⟩) HQ2.out.2.2.2.2.2.2.1).trans HQ2.out.1;have e1:=(h'.cell (p:=⟨bp,op+k*3+1,none⟩) HQ2.out.2.2.2.2.2.2.1).trans HQ2.out.2.1;have e2:=(h'.cell (p:=⟨bp,op+k*3+2,none⟩) HQ2.out.2.2.2.2.2.2.1).trans HQ2.out.2.2.1;simp [go_sem,e0,e1,e2]⟩ ?_
         refine wpMix_q (v:=(.slice (some ⟨bl,ol,none⟩) LN cl)) rfl rfl (fun _ _ _ h=>h) HSB.out ⟨rfl,fun _ _=>by simp [go_sem]⟩ ?_
         refine wpMix_q (v:=(.int .i64 i)) rfl rfl (fun _ _ _ h=>h) HSB.out ⟨rfl,fun _ _=>by simp [go_sem]⟩ ?_
         simp only [List.getElem_toArray,List.getElem_cons_succ,List.getElem_cons_zero,Act.put,List.setIfInBounds_toArray,List.set_cons_succ,List.set_cons_zero]
         refine wpMix_q (v:=(.int .i64 j)) rfl rfl (fun _ _ _ h=>h) HSB.out ⟨rfl,fun _ _=>by simp [go_sem]⟩ ?_
         refine wpMix_q (v:=(.pointer (some ⟨bl,ol+i*9,none⟩))) rfl rfl (fun _ _ _ h=>h) HSB.out ⟨rfl,fun _ _=>by simp [go_sem,i1]⟩ ?_
         refine wpMix_q (v:=(.pointer (some ⟨bl,ol+i*9+j*3,none⟩))) rfl rfl (fun _ _ _ h=>h) HSB.out ⟨rfl,fun _ _=>by simp [go_sem,j1]⟩ ?_
         refine wpMix_q (v:=(.agg #[.int .i64 r1, .int .i64 r2, .int .i64 r3])) rfl rfl (fun _ _ _ h=>h) HSB.out ⟨rfl,fun _ h'=>by have e0:=(h'.cell (p:=⟨bl,ol+i*9+j*3,none⟩) HQ2.out.2.2.2.2.2.2.2).trans HQ2.out.2.2.2.1;have e1:=(h'.cell (p:=⟨bl,ol+i*9+j*3+1,none⟩) HQ2.out.2.2.2.2.2.2.2).trans HQ2.out.2.2.2.2.1;have e2:=(h'.cell (p:=⟨bl,ol+i*9+j*3+2,none⟩) HQ2.out.2.2.2.2.2.2.2).trans HQ2.out.2.2.2.2.2.1;simp [go_sem,e0,e1,e2]⟩ ?_
         refine wpMix_q (v:=(.bool true)) rfl rfl (fun _ _ _ h=>h) HSB.out ⟨rfl,fun _ _=>by simp [go_sem,hs1,hs2,hs3]⟩ ?_
         simp only [List.getElem_toArray,List.getElem_cons_succ,List.getElem_cons_zero,Act.put,List.setIfInBounds_toArray,List.set_cons_succ,List.set_cons_zero]
         refine wpMix_nil ?_
         clear hs1 hs2 hs3
         have hKd:=HQ3.out.1
         obtain ⟨vj,hvj⟩:∃v,((boxJ PL PN t j).setIfInBounds j (.int .i64 (lstK PL (r1,r2,r3) k)))[j]? =some v:=⟨_,Array.getElem?_eq_getElem (by rw [Array.size_setIfInBounds];exact hj3)⟩
         have cj:Q.drew.cell? ⟨gt,j,none⟩=some vj:=(hKd.cell j).trans hvj
         have fj:Q.drew.frozen? ⟨gt,j,none⟩=false:=hKd.frozen j
         have gj:gt < Q.drew.heap.size:=hKd.lt
         have HK9:=hide (show Blk (Q.drew.setCell ⟨gt,j,none⟩ (.int .i64 k)) gt 35 (((boxJ PL PN t j).setIfInBounds j (.int .i64 (lstK PL (r1,r2,r3) k))).setIfInBounds j (.int .i64 k)) from (show Blk Q.drew gt 35 _ from hKd).set_ j _)
         have HG9:=hide (HQ3.out.2.1.trans ((grown_bel9 (Below.refl _ Q).drew (some gt)).trans (grown_set9 Q.drew gt j (.int .i64 k))))
         clear hKd hvj HSB
         go_wp2
         go_roundw
         case rel=>
          have hb:=HK9.out
          rw [Array.setIfInBounds_setIfInBounds] at hb
          exact ⟨k+1,by omega,by go_num,by rw [←HQ3.out.2.2.1,HLS.out];exact hb,HG9.out⟩
         case measure=>(simp [intOf];try omega)
        ·have hls:=HQ3.out.2.2.2.1
         rw [if_neg (by rw [HQ3.out.2.2.2.2];exact fun e=>heq (Option.some.inj e))] at hls
         have HLS:=hide hls
         have hne3:s1=r1→s2=r2→¬s3=r3:=fun a b c=>heq (by rw [a,b,c])
         clear hls heq
         refine wp_region_mix (fun W=>Below Q.heap.size Q W) [0,1,2,3,4,5,6,7,8,9,10] [0,1,2,3,4,5,6,7,8,9,10] mixed_ok (by kernel_rfl) ?_
         refine wpMix_q (v:=(.slice (some ⟨bp,op,none⟩) PN c4)) rfl rfl (fun _ _ _ h=>h) HSB.out ⟨rfl,fun _ _=>by simp [go_sem]⟩ ?_
         refine wpMix_q (v:=(.int .i64 k)) rfl rfl (fun _ _ _ h=>h) HSB.out ⟨rfl,fun _ _=>by simp [go_sem]⟩ ?_
         refine wpMix_q (v:=(.pointer (some ⟨bp,op+k*3,none⟩))) rfl rfl (fun _ _ _ h=>h) HSB.out ⟨rfl,fun _ _=>by simp [go_sem,k1]⟩ ?_
         refine wpMix_q (v:=(.agg #[.int .i64 s1, .int .i64 s2, .int .i64 s3])) rfl rfl (fun _ _ _ h=>h) HSB.out ⟨rfl,fun _ h'=>by have e0:=(h'.cell (p:=⟨bp,op+k*3,none⟩) HQ2.out.2.2.2.2.2.2.1).trans HQ2.out.1;have e1:=(h'.cell (p:=⟨bp,op+k*3+1,none⟩) HQ2.out.2.2.2.2.2.2.1).trans HQ2.out.2.1;have e2:=(h'.cell (p:=⟨bp,op+k*3+2,none⟩) HQ2.out.2.2.2.2.2.2.1).trans HQ2.out.2.2.1;simp [go_sem,e0,e1,e2]⟩ ?_
         refine wpMix_q (v:=(.slice (some ⟨bl,ol,none⟩) LN cl)) rfl rfl (fun _ _ _ h=>h) HSB.out ⟨rfl,fun _ _=>by simp [go_sem]⟩ ?_
         refine wpMix_q (v:=(.int .i64 i)) rfl rfl (fun _ _ _ h=>h) HSB.out ⟨rfl,fun _ _=>by simp [go_sem]⟩ ?_
         simp only [List.getElem_toArray,List.getElem_cons_succ,List.getElem_cons_zero,Act.put,List.setIfInBounds_toArray,List.set_cons_succ,List.set_cons_zero]
         refine wpMix_q (v:=(.int .i64 j)) rfl rfl (fun _ _ _ h=>h) HSB.out ⟨rfl,fun _ _=>by simp [go_sem]⟩ ?_
         refine wpMix_q (v:=(.pointer (some ⟨bl,ol+i*9,none⟩))) rfl rfl (fun _ _ _ h=>h) HSB.out ⟨rfl,fun _ _=>by simp [go_sem,i1]⟩ ?_
         refine wpMix_q (v:=(.pointer (some ⟨bl,ol+i*9+j*3,none⟩))) rfl rfl (fun _ _ _ h=>h) HSB.out ⟨rfl,fun _ _=>by simp [go_sem,j1]⟩ ?_
         refine wpMix_q (v:=(.agg #[.int .i64 r1, .int .i64 r2, .int .i64 r3])) rfl rfl (fun _ _ _ h=>h) HSB.out ⟨rfl,fun _ h'=>by have e0:=(h'.cell (p:=⟨bl,ol+i*9+j*3,none⟩) HQ2.out.2.2.2.2.2.2.2).trans HQ2.out.2.2.2.1;have e1:=(h'.cell (p:=⟨bl,ol+i*9+j*3+1,none⟩) HQ2.out.2.2.2.2.2.2.2).trans HQ2.out.2.2.2.2.1;have e2:=(h'.cell (p:=⟨bl,ol+i*9+j*3+2,none⟩) HQ2.out.2.2.2.2.2.2.2).trans HQ2.out.2.2.2.2.2.1;simp [go_sem,e0,e1,e2]⟩ ?_
         refine wpMix_q (v:=(.bool false)) rfl rfl (fun _ _ _ h=>h) HSB.out ⟨rfl,fun _ _=>by simp [go_sem];exact hne3⟩ ?_
         simp only [List.getElem_toArray,List.getElem_cons_succ,List.getElem_cons_zero,Act.put,List.setIfInBounds_toArray,List.set_cons_succ,List.set_cons_zero]
         refine wpMix_nil ?_
         clear hne3 HSB
         go_wp2
         go_roundw
         case rel=>exact ⟨k+1,by omega,by go_num,by rw [←HQ3.out.2.2.1,HLS.out];exact HQ3.out.1,HQ3.out.2.1.trans (grown_bel9 (Below.refl _ Q).drew (some gt))⟩
         case measure=>(simp [intOf];try omega)
       ·obtain rfl:k=PN:=by omega
        have k1:¬(k:Int) < (k:Int):=by omega
        rw [boxJ_next PL k t hj3] at hK
        have HQ2:=hide (And.intro hK hG)
        clear hK hG
        go_wp2
        go_roundw
        case rel=>exact ⟨j+1,by omega,by go_num,HQ2.out.1,HQ2.out.2⟩
        case measure=>(simp [intOf];try omega)
     ·obtain rfl:j=3:=by omega
      rw [show ((3:Nat):Int)=3 from rfl]
      have hK2:Blk U gt 35 #[.int .i64 (lstK PL t.1 PN), .int .i64 (lstK PL t.2.1 PN), .int .i64 (lstK PL t.2.2 PN)]:=hK
      obtain ⟨y0,y1,y2⟩:=hK2.three
      have hgtl:=hK2.lt
      have hBY:Below W4.heap.size Y U:=grown_bel hG HY.out.2.2.2.1 HY.out.2.2.1.size
      have hoU:=HY.out.2.1.kept hG (by
       cases ho:(Value.slice Ax i cx).ownBlock with
       | none=>exact .inl rfl
       | some r=>exact .inr (fun e=>HY.out.2.2.2.2 r ho (Option.some.inj e)))
      have hzU:=(HY.out.2.2.1.trans hBY).size
      have HU:=hide (And.intro hoU (HY.out.2.2.1.trans hBY))
      clear hK hG hK2 hBY hoU
      obtain ⟨n1,hn1⟩:∃n,n=lstK PL t.1 PN:=⟨_,rfl⟩
      obtain ⟨n2,hn2⟩:∃n,n=lstK PL t.2.1 PN:=⟨_,rfl⟩
      obtain ⟨n3,hn3⟩:∃n,n=lstK PL t.2.2 PN:=⟨_,rfl⟩
      rw [←hn1] at y0
      rw [←hn2] at y1
      rw [←hn3] at y2
      have HN3:=hide (And.intro hn1 (And.intro hn2 hn3))
      clear hn1 hn2 hn3 hj3
      go_wp2_with (at_builtin;refine wpList_append1 rfl _ _ _ rfl Tryz.underlying22 infoN3 rfl (by omega) encN3_len encN3_one rfl (HU.out.1.alloc _) U.heap.size 1 (((n1:Int),(n2:Int),(n3:Int)):Pt) rfl (Blk.new _ _ _) (by unfold maxLen;omega) (by omega) (by simp;omega) ?_;intro g6 cap6 w6 hown6 hg6 hB6 hat6 hgb6 hlt6;have H6:=hide (And.intro hown6 ((HU.out.2.alloc hzU _).trans hB6));clear hown6 hg6 hB6 hat6 hgb6 hlt6)
      go_roundw
      case rel=>exact ⟨i+1,by omega,by go_num,by rw [HV.out.2.2.1,←HN3.out.1,←HN3.out.2.1,←HN3.out.2.2];exact H6.out.1,H6.out.2⟩
      case measure=>(simp [intOf];try omega)
   ·obtain rfl:i=LN:=by omega
    have i1:¬(i:Int) < (i:Int):=by omega
    rw [List.take_of_length_le (by rw [←HK.out.2.2.2.2.2];exact Nat.le_refl _),←HP.out.2.2.2.2] at hO
    have hTT:=HE.out.1
    have hNN:=HE.out.2
    rw [if_pos HX.out.2.2.2.symm] at hTT hNN
    rw [←HP.out.2.1,←HP.out.2.2.1] at hNN
    rw [←hTT] at hO
    have hl:=hO.1
    subst hNN
    have HV:=hide (And.intro hO (And.intro hB hl))
    clear hO hB hTT hl
    go_wp2
    go_ret2
    have hO:=HV.out.1
    rw [HV.out.2.2] at hO
    exact ⟨_,_,by rw [←HV.out.2.2];rfl,hO.base_le (by have:=HX.out.2.1.size;have:=H4.out.2.size;omega),HX.out.2.1.trans ((H4.out.2.trans (HV.out.2.1.mono H4.out.2.size)).mono HX.out.2.1.size)⟩
 ·have hne:(ck !=0)=true:=by simpa using hc0
  go_wp2_with (first | (go_at_call 70;refine HX.out.2.2.1.mono ?_;rintro e W3 ⟨rfl,hB3⟩;have H3:=hide hB3;clear hB3) | (go_at_call 38;refine (base0_any 0 0 rfl _).mono ?_;rintro e W4 ⟨A4,c4,rfl,ho4,hB4⟩;have H4:=hide (And.intro ho4 (H3.out.trans (hB4.mono H3.out.size)));clear ho4 hB4))
  go_ret2
  have hTT:=HE.out.1
  have hNN:=HE.out.2
  rw [if_neg (by rw [←HX.out.2.2.2];exact hc0)] at hTT hNN
  subst hTT hNN
  exact ⟨_,_,rfl,H4.out.1.base_le (by have:=HX.out.2.1.size;have:=H3.out.size;omega),HX.out.2.1.trans (H4.out.2.mono HX.out.2.1.size)⟩
end Go.Proofs.YtmemofonebphfaaGreat
namespace Go.Proofs.YtmemofonebphfaaGreat
open Go.RowKit Go.Sort
abbrev cMad (vp vt vc vo:Value) (st:Int) (vd:Value):Array Value:=#[vp,vt,vc,vo, .int .i64 st,vd]
structure MadB (w W:World) (g1 g2 g5:Nat) (shp zc cs:Array Value):Prop where
 bel:Below w.heap.size w W
 b1:Blk W g1 25 shp
 b2:Blk W g2 32 zc
 b5:Blk W g5 32 cs
 le:w.heap.size≤g5∧g1≠g5∧g2≠g5∧w.heap.size≤g2
structure MadS (w W:World) (g1 g2 g5:Nat) (shp zc:Array Value) (vp vt vc vo vd:Value) (st:Int) (np nt nc no:Nat) (P T:List Pt) (C:List E2) (O:List Int) (D:List (List Pt)):Prop where
 bx:MadB w W g1 g2 g5 shp zc (cMad vp vt vc vo st vd)
 t:Own encN3 3 35 W w.heap.size vt nt T
 p:Own encP 3 43 W w.heap.size vp np P
 c:Own encE2 2 56 W w.heap.size vc nc C
 o:Own encZ9 1 3 W w.heap.size vo no O
 d:Pcs encP 3 43 28 W w.heap.size vd D
theorem Pcs.turn {α:Type} {enc:α→List Value} {k:Nat} {e te:TypeId} {w w':World} {base:Nat} {v:Value} {ps:List (List α)} {row:Option Nat} (h:Pcs enc k e te w base v ps) (hg:w.grownBy w' row) (hr:∀t,t=te∨t=e→∀r,row=some r→r < base∨∀cs,w.heap[r]? ≠some (.cells cs t (0,0))):Pcs enc k e te w' base v ps:=by
 obtain ⟨ss,ho,hp⟩:=h
 refine ⟨ss,ho.step hg (hr te (.inl rfl)),fun i p hi=> ?_⟩
 obtain ⟨A,c,h1,h2⟩:=hp i p hi
 exact ⟨A,c,h1,h2.step hg (hr e (.inr rfl))⟩
section
variable {w W W':World} {g1 g2 g5:Nat} {shp zc cs:Array Value} {vp vt vc vo vd:Value} {st:Int} {np nt nc no:Nat} {P T:List Pt} {C:List E2} {O:List Int} {D:List (List Pt)}
theorem MadB.below (h:MadB w W g1 g2 g5 shp zc cs) (hB:Below W.heap.size W W'):MadB w W' g1 g2 g5 shp zc cs:=⟨h.bel.trans (hB.mono h.bel.size),h.b1.below hB h.b1.lt,h.b2.below hB h.b2.lt,h.b5.below hB h.b5.lt,h.le⟩
theorem MadB.row {α:Type} {enc:α→List Value} {k:Nat} {e:TypeId} {v:Value} {n:Nat} {xs:List α} (h:MadB w W g1 g2 g5 shp zc cs) (ho:Own enc k e W w.heap.size v n xs) (h1:e≠25) (h5:e≠32) (hg:W.grownBy W' v.ownBlock):MadB w W' g1 g2 g5 shp zc cs:=
 ⟨h.bel.trans (grown_belO hg (fun r hr=>(ho.blk r hr).1) h.bel.size),h.b1.grown hg (blk_own_ne9 h.b1 ho h1),h.b2.grown hg (blk_own_ne9 h.b2 ho h5),h.b5.grown hg (blk_own_ne9 h.b5 ho h5),h.le⟩
theorem MadS.below (h:MadS w W g1 g2 g5 shp zc vp vt vc vo vd st np nt nc no P T C O D) (hB:Below W.heap.size W W'):MadS w W' g1 g2 g5 shp zc vp vt vc vo vd st np nt nc no P T C O D:=
 ⟨h.bx.below hB,h.t.below hB (Nat.le_refl _),h.p.below hB (Nat.le_refl _),h.c.below hB (Nat.le_refl _),h.o.below hB (Nat.le_refl _),h.d.below hB (Nat.le_refl _)⟩
theorem mad_set (h:MadB w W g1 g2 g5 shp zc cs) (ht:Own encN3 3 35 W w.heap.size vt nt T) (hp:Own encP 3 43 W w.heap.size vp np P) (hc:Own encE2 2 56 W w.heap.size vc nc C) (ho:Own encZ9 1 3 W w.heap.size vo no O) (hd:Pcs encP 3 43 28 W w.heap.size vd D)
  (i:Nat) (v:Value) (hv:cs.setIfInBounds i v=cMad vp vt vc vo st vd):MadS w (W.setCell ⟨g5,i,none⟩ v) g1 g2 g5 shp zc vp vt vc vo vd st np nt nc no P T C O D:=by
 have hg:=grown_set9 W g5 i v
 have hr:∀t,t≠32→∀r,(some g5:Option Nat)=some r→r < w.heap.size∨∀cs,W.heap[r]? ≠some (.cells cs t (0,0)):=fun t ht r e=>by
  cases e
  refine .inr fun cs hc=> ?_
  have hb:W.heap[g5]? =some (.cells _ _ (0,0)):=h.b5
  rw [hb] at hc
  cases hc
  exact ht rfl
 refine ⟨⟨h.bel.trans (grown_bel hg h.le.1 h.bel.size),h.b1.grown hg (fun e=>h.le.2.1 (Option.some.inj e)),h.b2.grown hg (fun e=>h.le.2.2.1 (Option.some.inj e)),?_,h.le⟩,ht.step hg (hr _ (by decide)),hp.step hg (hr _ (by decide)),hc.step hg (hr _ (by decide)),ho.step hg (hr _ (by decide)),hd.turn hg (fun t e=>hr t (by rcases e with rfl | rfl <;>decide))⟩
 rw [←hv]
 exact h.b5.set_ i v
theorem MadS.apP {v6:Value} {x:Pt} (h:MadS w W g1 g2 g5 shp zc vp vt vc vo (.slice none 0 0) st np nt nc no P T C O []) (hg:W.grownBy W' vp.ownBlock) (ho:Own encP 3 43 W' w.heap.size v6 (np+1) (P++ [x])):MadS w (W'.setCell ⟨g5,0,none⟩ v6) g1 g2 g5 shp zc v6 vt vc vo (.slice none 0 0) st (np+1) nt nc no (P++ [x]) T C O []:=
 mad_set (h.bx.row h.p (by decide) (by decide) hg) (h.t.step hg (own_rowT h.p (show (43:TypeId)≠35 by decide))) ho (h.c.step hg (own_rowT h.p (show (43:TypeId)≠56 by decide))) (h.o.step hg (own_rowT h.p (show (43:TypeId)≠3 by decide))) Pcs.nil 0 v6 rfl
theorem MadS.apC {v6:Value} {x:E2} (h:MadS w W g1 g2 g5 shp zc vp vt vc vo vd st np nt nc no P T C O D) (hg:W.grownBy W' vc.ownBlock) (ho:Own encE2 2 56 W' w.heap.size v6 (nc+1) (C++ [x])):MadS w (W'.setCell ⟨g5,2,none⟩ v6) g1 g2 g5 shp zc vp vt v6 vo vd st np nt (nc+1) no P T (C++ [x]) O D:=
 mad_set (h.bx.row h.c (by decide) (by decide) hg) (h.t.step hg (own_rowT h.c (show (56:TypeId)≠35 by decide))) (h.p.step hg (own_rowT h.c (show (56:TypeId)≠43 by decide))) ho (h.o.step hg (own_rowT h.c (show (56:TypeId)≠3 by decide))) (h.d.turn hg (fun t e=>own_rowT h.c (by rcases e with rfl | rfl <;>decide))) 2 v6 rfl
theorem MadS.apO {v6:Value} {x:Int} (h:MadS w W g1 g2 g5 shp zc vp vt vc vo vd st np nt nc no P T C O D) (hg:W.grownBy W' vo.ownBlock) (ho:Own encZ9 1 3 W' w.heap.size v6 (no+1) (O++ [x])):MadS w (W'.setCell ⟨g5,3,none⟩ v6) g1 g2 g5 shp zc vp vt vc v6 vd st np nt nc (no+1) P T C (O++ [x]) D:=
 mad_set (h.bx.row h.o (by decide) (by decide) hg) (h.t.step hg (own_rowT h.o (show (3:TypeId)≠35 by decide))) (h.p.step hg (own_rowT h.o (show (3:TypeId)≠43 by decide))) (h.c.step hg (own_rowT h.o (show (3:TypeId)≠56 by decide))) ho (h.d.turn hg (fun t e=>own_rowT h.o (by rcases e with rfl | rfl <;>decide))) 3 v6 rfl
theorem MadS.low (h:MadS w W g1 g2 g5 shp zc vp vt vc vo vd st np nt nc no P T C O D) (st':Int):MadS w (W.setCell ⟨g5,4,none⟩ (.int .i64 st')) g1 g2 g5 shp zc vp vt vc vo vd st' np nt nc no P T C O D:=
 mad_set h.bx h.t h.p h.c h.o h.d 4 _ rfl
theorem MadS.apD {ss:List Hdr} {v6:Value} {A:Option Addr} {c:Nat} {x:List Pt} (h:MadS w W g1 g2 g5 shp zc vp vt vc vo vd st np nt nc no P T C O D) (hos:Own encS 1 28 W w.heap.size vd D.length ss) (hps:∀(i:Nat) (p:List Pt),D[i]? =some p→∃A c,ss[i]? =some (A,p.length,c)∧Own encP 3 43 W w.heap.size (.slice A p.length c) p.length p)
  (hx:Own encP 3 43 W w.heap.size (.slice A x.length c) x.length x) (hg:W.grownBy W' vd.ownBlock) (ho:Own encS 1 28 W' w.heap.size v6 (D.length+1) (ss++ [(A,x.length,c)])):MadS w (W'.setCell ⟨g5,5,none⟩ v6) g1 g2 g5 shp zc vp vt vc vo v6 st np nt nc no P T C O (D++ [x]):=
 mad_set (h.bx.row hos (by decide) (by decide) hg) (h.t.step hg (own_rowT hos (show (28:TypeId)≠35 by decide))) (h.p.step hg (own_rowT hos (show (28:TypeId)≠43 by decide))) (h.c.step hg (own_rowT hos (show (28:TypeId)≠56 by decide))) (h.o.step hg (own_rowT hos (show (28:TypeId)≠3 by decide)))
  (Pcs.snoc (show (28:TypeId)≠43 by decide) hos hps hx hg ho) 5 v6 rfl
end
structure ShpA (w:World) (B:Nat) (Ap Ac Ao Ad:Option Addr) (s:ShpC):Prop where
 p:s.points≠ []→Sl encN3 3 w B Ap s.points
 c:s.creases≠ []→Sl encZ9 1 w B Ac s.creases
 o:s.corners≠ []→Sl encZ9 1 w B Ao s.corners
 d:s.details≠ []→Sl encN3 3 w B Ad s.details
theorem ShpA.below {w W:World} {B B':Nat} {Ap Ac Ao Ad:Option Addr} {s:ShpC} (h:ShpA w B Ap Ac Ao Ad s) (hB:Below B w W) (hb:B≤B'):ShpA W B' Ap Ac Ao Ad s:=
 ⟨fun hn=>((h.p hn).below hB).more hb,fun hn=>((h.c hn).below hB).more hb,fun hn=>((h.o hn).below hB).more hb,fun hn=>((h.d hn).below hB).more hb⟩
abbrev cShp (k b st:Int) (Ap:Option Addr) (np cp:Nat) (Ac:Option Addr) (nc cc:Nat) (Ao:Option Addr) (no oc:Nat) (Ad:Option Addr) (nd dc:Nat):Array Value:=
 #[.int .i64 k, .int .i64 b, .int .i64 st, .slice Ap np cp, .slice Ac nc cc, .slice Ao no oc, .slice Ad nd dc]
abbrev vShp (k b st:Int) (Ap:Option Addr) (np cp:Nat) (Ac:Option Addr) (nc cc:Nat) (Ao:Option Addr) (no oc:Nat) (Ad:Option Addr) (nd dc:Nat):Value:= .agg (cShp k b st Ap np cp Ac nc cc Ao no oc Ad nd dc)
end Go.Proofs.YtmemofonebphfaaGreat
namespace Go.Proofs.YtmemofonebphfaaGreat
open Go.RowKit Go.Sort
structure FinF (c:Ctl):Prop where
 st:0≤c.steps∧c.steps≤4
 lenT:(finT c).length=4^c.steps.toNat*c.tris.length
 few:(finT c).length≤65536
 le:c.points.length≤(finP c).length
 pts:(finP c).length≤c.points.length+393216
 pre:∀(i:Nat) (x:Pt),c.points[i]? =some x→(finP c)[i]? =some (wrap64 (16^c.steps.toNat*x.1),wrap64 (16^c.steps.toNat*x.2.1),wrap64 (16^c.steps.toNat*x.2.2))
 idx:∀x∈finT c,(0≤x.1∧x.1 < ((finP c).length:Int))∧(0≤x.2.1∧x.2.1 < ((finP c).length:Int))∧0≤x.2.2∧x.2.2 < ((finP c).length:Int)
 chk:checkP ((finT c).map numT) false=0
theorem level_pre (c:Ctl):∀k:Nat,∃r,(c.level k).p=c.begin.p++r
 | 0=>⟨[],by simp [Ctl.level]⟩
 | k+1=>by
  obtain ⟨r,hr⟩:=level_pre c k
  refine ⟨r++detE ((c.level k).rules c.corners) (c.details.getD k []) (16^(c.steps.toNat - 1 - k)),?_⟩
  rw [←List.append_assoc,←hr]
  rfl
theorem LvR.chk {L:Lev} (h:LvR L):checkP (L.t.map numT) false=0:=check_num.2 ⟨h.cls.dist,h.cls.nodup,h.cls.clos,h.calm⟩
theorem fin_facts {c:Ctl} (he:errC c=0) (hb:NoBack c.tris):FinF c:=by
 have hR:=right_of he
 have hst:=hR.st
 have hL:=Ctl.level_right hR hb c.steps.toNat
 obtain ⟨r,hr⟩:=level_pre c c.steps.toNat
 have hpl:(c.begin.p).length=c.points.length:=by show (c.points.map _).length=_;rw [List.length_map]
 have eT:finT c=(c.level c.steps.toNat).t:=by unfold finT;rw [if_pos he]
 have eP:finP c=(c.level c.steps.toNat).p:=by unfold finP;rw [if_pos he]
 have hlt:(finT c).length=4^c.steps.toNat*c.tris.length:=by rw [eT];exact Ctl.level_t c _
 have hpp:(finP c).length≤c.points.length+c.steps.toNat*98304:=by rw [eP];exact level_pts hR hb (Nat.le_refl _)
 refine ⟨hst,hlt,by rw [hlt];exact level_tri hR (Nat.le_refl _),?_,?_,fun i x hx=> ?_,?_,?_⟩
 ·rw [eP,hr,List.length_append]
  omega
 ·have:c.steps.toNat*98304≤4*98304:=Nat.mul_le_mul_right _ (by omega)
  omega
 ·have hlt:=(List.getElem?_eq_some_iff.1 hx).1
  rw [eP,hr,List.getElem?_append_left (by rw [hpl];exact hlt)]
  show (c.points.map _)[i]? =_
  rw [List.getElem?_map,hx]
  simp [plusP]
 ·rw [eT,eP]
  exact hL.cls.idx
 ·rw [eT]
  exact hL.chk
theorem made_small (s:ShpC):CtlB (madeC s):=by
 have hb:=base_right s.kind s.bits
 have hs:=made_st s
 have hdt:∀d∈(madeC s).details,∃k,k < 4∧d=detM s k:=fun d hd=>by
  have hd:d∈(if s.details.length=0 then [] else (List.range (stM s)).map (detM s)):=hd
  split at hd
  ·cases hd
  ·obtain ⟨k,hk,rfl⟩:=List.mem_map.1 hd
   exact ⟨k,by have:=List.mem_range.1 hk;omega,rfl⟩
 refine ⟨?_,?_,?_,?_,?_,fun d hd=> ?_⟩
 ·show (List.map _ _).length≤_
  rw [List.length_map,List.length_range]
  have:=hb.pts
  omega
 ·have:=hb.few
  show (baseT s.kind s.bits).length≤_
  omega
 ·show (List.map _ _).length≤_
  rw [List.length_map,List.length_take]
  omega
 ·show (List.map _ _).length≤_
  rw [List.length_map,List.length_take]
  omega
 ·show (if _ then _ else _:List (List Pt)).length≤_
  split
  ·exact Nat.zero_le _
  ·rw [List.length_map,List.length_range]
   omega
 ·obtain ⟨k,hk,rfl⟩:=hdt d hd
  unfold detM
  rw [List.length_map,List.length_range]
  omega
theorem made_fits (s:ShpC):fits (madeC s).steps:=by
 have:=made_st s
 show fits ((stM s:Nat):Int)
 unfold fits
 omega
end Go.Proofs.YtmemofonebphfaaGreat
namespace Go.Proofs.YtmemofonebphfaaGreat
open Go.RowKit Go.Sort
theorem fits_wrA (x:Int):fits (wrap64 x):=by unfold fits wrap64;omega
theorem fits_t16 (x:Int):fits ((wrap64 x).tdiv 16):=by
 rw [←tdiv16_wrap]
 exact fits_wrA _
theorem rule_fits (p t:List Pt) (cr:List E2) (co:List Int) (a b:Int):fitsP (ruleE p t cr co a b):=⟨fits_t16 _,fits_t16 _,fits_t16 _⟩
theorem plus_fits (p q:Pt) (n:Int):fitsP (plusP p q n):=⟨fits_wrA _,fits_wrA _,fits_wrA _⟩
theorem det_fits {a d:List Pt} {n:Int} (h:∀p∈a,fitsP p):∀p∈detE a d n,fitsP p:=fun p hp=>by
 obtain ⟨i,hi,e⟩:=List.mem_mapIdx.1 hp
 cases hd:d[i]? with
 | none=>simp only [hd] at e;rw [←e];exact h _ (List.getElem_mem _)
 | some x=>simp only [hd] at e;rw [←e];exact plus_fits _ _ _
theorem level_fits (c:Ctl):∀k:Nat,∀p∈(c.level k).p,fitsP p
 | 0=>fun p hp=>by
  obtain ⟨x,_,rfl⟩:=List.mem_map.1 (show p∈c.points.map _ from hp)
  exact plus_fits _ _ _
 | k+1=>fun p hp=>by
  rcases List.mem_append.1 (show p∈(c.level k).p++detE _ _ _ from hp) with hp | hp
  ·exact level_fits c k p hp
  ·refine det_fits (fun q hq=> ?_) p hp
   obtain ⟨e,_,rfl⟩:=List.mem_map.1 (show q∈(edgesE _).map _ from hq)
   exact rule_fits _ _ _ _ _ _
theorem fin_fits (c:Ctl):∀p∈finP c,fitsP p:=fun p hp=>by
 unfold finP at hp
 by_cases he:errC c=0
 ·rw [if_pos he] at hp
  exact level_fits c _ p hp
 ·rw [if_neg he] at hp
  cases hp
theorem fin_none {c:Ctl} (he:errC c≠0):finP c= []∧finT c= []:=⟨if_neg he,if_neg he⟩
theorem fin_lens {c:Ctl} (hb:CtlB c) (hnb:errC c=0→NoBack c.tris):(finP c).length≤500000∧(finT c).length≤65536:=by
 by_cases he:errC c=0
 ·have h:=fin_facts he (hnb he)
  have h1:=h.pts
  have h2:=h.few
  have h3:=hb.p
  exact ⟨by omega,h2⟩
 ·rw [(fin_none he).1,(fin_none he).2]
  exact ⟨by decide,by decide⟩
end Go.Proofs.YtmemofonebphfaaGreat
namespace Go.Proofs.YtmemofonebphfaaGreat
open Go.RowKit Go.Sort
def bnd9 (k:Nat):Int:=137438953472*3^k
theorem bnd_step {k:Nat}:bnd9 (k+1)=3*bnd9 k:=by unfold bnd9;rw [Int.pow_succ];omega
theorem bnd_low:∀k,137438953472≤bnd9 k
 | 0=>by decide
 | k+1=>by have:=bnd_low k;rw [bnd_step];omega
theorem bnd_top {k:Nat} (h:k≤4):bnd9 k≤281474976710656:=by
 have hk:k=0∨k=1∨k=2∨k=3∨k=4:=by omega
 rcases hk with rfl | rfl | rfl | rfl | rfl <;>decide
theorem pow16_le {n:Nat} (h:n≤4):(1:Int)≤16^n∧(16:Int)^n≤65536:=by
 have hk:n=0∨n=1∨n=2∨n=3∨n=4:=by omega
 rcases hk with rfl | rfl | rfl | rfl | rfl <;>decide
theorem mul_rng {n x m:Int} (h0:1≤n) (h1:n≤65536) (hm:0≤m) (hx: -m≤x∧x≤m): -(65536*m)≤n*x∧n*x≤65536*m:=by
 have a1:n*x≤n*m:=Int.mul_le_mul_of_nonneg_left hx.2 (by omega)
 have a2:n*(-m)≤n*x:=Int.mul_le_mul_of_nonneg_left hx.1 (by omega)
 have a3:n*m≤65536*m:=Int.mul_le_mul_of_nonneg_right h1 hm
 rw [Int.mul_neg] at a2
 omega
theorem plus_ex {p q:Pt} {n C:Int} (h0:1≤n) (h1:n≤65536) (hC:C≤4611686018427387904) (hp:(-C≤p.1∧p.1≤C)∧(-C≤p.2.1∧p.2.1≤C)∧ -C≤p.2.2∧p.2.2≤C) (hq:(-2097151≤q.1∧q.1≤2097151)∧(-2097151≤q.2.1∧q.2.1≤2097151)∧ -2097151≤q.2.2∧q.2.2≤2097151):
  plusP p q n=(p.1+n*q.1,p.2.1+n*q.2.1,p.2.2+n*q.2.2):=by
 have m1:=mul_rng h0 h1 (by omega) hq.1
 have m2:=mul_rng h0 h1 (by omega) hq.2.1
 have m3:=mul_rng h0 h1 (by omega) hq.2.2
 have key:∀x y:Int,-C≤x→x≤C→ -(65536*2097151)≤y→y≤65536*2097151→wrap64 (x+y)=x+y:=fun x y a b c d=>by unfold wrap64;omega
 unfold plusP
 rw [key _ _ hp.1.1 hp.1.2 m1.1 m1.2,key _ _ hp.2.1.1 hp.2.1.2 m2.1 m2.2,key _ _ hp.2.2.1 hp.2.2.2 m3.1 m3.2]
theorem zero_rng {m:Int} (h:0≤m):(-m≤((0,0,0):Pt).1∧((0,0,0):Pt).1≤m)∧(-m≤((0,0,0):Pt).2.1∧((0,0,0):Pt).2.1≤m)∧ -m≤((0,0,0):Pt).2.2∧((0,0,0):Pt).2.2≤m:=by
 dsimp only
 omega
def dtl (c:Ctl) (k i:Nat):Pt:=(c.details.getD k []).getD i (0,0,0)
theorem dtl_rng {c:Ctl} (h:RightC c) (k i:Nat):(-2097151≤(dtl c k i).1∧(dtl c k i).1≤2097151)∧(-2097151≤(dtl c k i).2.1∧(dtl c k i).2.1≤2097151)∧ -2097151≤(dtl c k i).2.2∧(dtl c k i).2.2≤2097151:=by
 unfold dtl
 rw [List.getD_eq_getElem?_getD,List.getD_eq_getElem?_getD]
 cases hk:c.details[k]? with
 | none=>exact zero_rng (by decide)
 | some d=>
  simp only [Option.getD_some]
  cases hi:d[i]? with
  | none=>exact zero_rng (by decide)
  | some x=>exact outR_no (h.drng d (List.mem_of_getElem? hk)) x (List.mem_of_getElem? hi)
def newE (c:Ctl) (k:Nat) (i:Nat) (e:E2):Pt:=plusP (ruleE (c.level k).p (c.level k).t (c.level k).cr c.corners e.1 e.2) (dtl c k i) (16^(c.steps.toNat - 1 - k))
theorem plus_zero {p:Pt} (hp:fitsP p) (n:Int):plusP p (0,0,0) n=p:=by
 have h1:∀x:Int,fits x→wrap64 (x+n*0)=x:=fun x hx=>by rw [Int.mul_zero,Int.add_zero];unfold fits at hx;unfold wrap64;omega
 unfold plusP
 rw [h1 _ hp.1,h1 _ hp.2.1,h1 _ hp.2.2]
theorem rule_fits9 (p t:List Pt) (cr:List E2) (co:List Int) (a b:Int):fitsP (ruleE p t cr co a b):=by
 have h:∀x:Int,fits ((wrap64 x).tdiv 16):=fun x=>by
  rw [←tdiv16_wrap]
  unfold fits wrap64
  omega
 exact ⟨h _,h _,h _⟩
theorem level_new (c:Ctl) (k:Nat):(c.level (k+1)).p=(c.level k).p++(edgesE (c.level k).t).mapIdx (newE c k):=by
 show (c.level k).p++detE ((c.level k).rules c.corners) (c.details.getD k []) _=_
 congr 1
 refine List.ext_getElem? fun i=> ?_
 unfold detE Lev.rules
 rw [List.getElem?_mapIdx,List.getElem?_mapIdx,List.getElem?_map]
 cases (edgesE (c.level k).t)[i]? with
 | none=>rfl
 | some e=>
  simp only [Option.map_some,Option.some.injEq]
  unfold newE dtl
  have e9:(c.details.getD k []).getD i (0,0,0)=((c.details.getD k [])[i]?).getD (0,0,0):=List.getD_eq_getElem?_getD
  rw [e9]
  cases hd:(c.details.getD k [])[i]? with
  | none=>exact (plus_zero (rule_fits9 _ _ _ _ _ _) _).symm
  | some x=>rfl
theorem DivL.weak {P:List Pt} {k m:Int} (h:DivL P (k*m)):DivL P m:=fun p hp=>by
 obtain ⟨h1,h2,h3⟩:=h p hp
 exact ⟨Int.dvd_trans (Int.dvd_mul_left k m) h1,Int.dvd_trans (Int.dvd_mul_left k m) h2,Int.dvd_trans (Int.dvd_mul_left k m) h3⟩
theorem level_zero {c:Ctl} (h:RightC c):c.begin.p=c.points.map fun p=>(16^c.steps.toNat*p.1,16^c.steps.toNat*p.2.1,16^c.steps.toNat*p.2.2):=by
 refine List.map_congr_left fun p hp=> ?_
 have hs:=pow16_le (show c.steps.toNat≤4 by have:=h.st;omega)
 have hr:=outR_no h.rng p hp
 have hd:(2097151:Int) / 16^c.steps.toNat≤2097151:=Int.ediv_le_self _ (by decide)
 rw [plus_ex hs.1 hs.2 (C:=0) (by decide) (zero_rng (by decide)) (by omega)]
 simp only [Int.zero_add]
theorem new_ex {c:Ctl} (h:RightC c) {k:Nat} (hk:k < c.steps.toNat) (hB:BndL (c.level k).p (bnd9 k)) (hD:DivL (c.level k).p (16^(c.steps.toNat - k))) (i:Nat) (e:E2):
  newE c k i e=((ruleE (c.level k).p (c.level k).t (c.level k).cr c.corners e.1 e.2).1+16^(c.steps.toNat - 1 - k)*(dtl c k i).1,(ruleE (c.level k).p (c.level k).t (c.level k).cr c.corners e.1 e.2).2.1+16^(c.steps.toNat - 1 - k)*(dtl c k i).2.1,(ruleE (c.level k).p (c.level k).t (c.level k).cr c.corners e.1 e.2).2.2+16^(c.steps.toNat - 1 - k)*(dtl c k i).2.2):=by
 have hst:=h.st
 have hs:=pow16_le (show c.steps.toNat - 1 - k≤4 by omega)
 have hb:=bnd_top (show k≤4 by omega)
 have hl:=bnd_low k
 have hpw:(16:Int)^(c.steps.toNat - k)=16*16^(c.steps.toNat - 1 - k):=by
  rw [show c.steps.toNat - k=(c.steps.toNat - 1 - k)+1 by omega,Int.pow_succ,Int.mul_comm]
 rw [hpw] at hD
 have hr:=(rule_ex (t:=(c.level k).t) (cr:=(c.level k).cr) (co:=c.corners) (a:=e.1) (b:=e.2) hB (by omega) hb hD).2.2
 exact plus_ex hs.1 hs.2 (C:=2*bnd9 k) (by omega) hr (dtl_rng h k i)
theorem level_ex {c:Ctl} (h:RightC c):∀k:Nat,k≤c.steps.toNat→BndL (c.level k).p (bnd9 k)∧DivL (c.level k).p (16^(c.steps.toNat - k))
 | 0,_=>by
  have hs:=pow16_le (show c.steps.toNat≤4 by have:=h.st;omega)
  have hd:(2097151:Int) / 16^c.steps.toNat≤2097151:=Int.ediv_le_self _ (by decide)
  have e:(c.level 0).p=c.points.map fun p=>(16^c.steps.toNat*p.1,16^c.steps.toNat*p.2.1,16^c.steps.toNat*p.2.2):=level_zero h
  rw [e]
  constructor
  ·intro q hq
   obtain ⟨p,hp,rfl⟩:=List.mem_map.1 hq
   have hr:=outR_no h.rng p hp
   have m1:=mul_rng hs.1 hs.2 (m:=2097151) (by decide) (x:=p.1) (by omega)
   have m2:=mul_rng hs.1 hs.2 (m:=2097151) (by decide) (x:=p.2.1) (by omega)
   have m3:=mul_rng hs.1 hs.2 (m:=2097151) (by decide) (x:=p.2.2) (by omega)
   have hb:=bnd_low 0
   dsimp only
   omega
  ·intro q hq
   obtain ⟨p,hp,rfl⟩:=List.mem_map.1 hq
   exact ⟨Int.dvd_mul_right _ _,Int.dvd_mul_right _ _,Int.dvd_mul_right _ _⟩
 | k+1,hk=>by
  obtain ⟨hB,hD⟩:=level_ex h k (by omega)
  have hst:=h.st
  have hs:=pow16_le (show c.steps.toNat - 1 - k≤4 by omega)
  have hb:=bnd_top (show k≤4 by omega)
  have hl:=bnd_low k
  have hpw:(16:Int)^(c.steps.toNat - k)=16*16^(c.steps.toNat - 1 - k):=by
   rw [show c.steps.toNat - k=(c.steps.toNat - 1 - k)+1 by omega,Int.pow_succ,Int.mul_comm]
  have hD2:=hD
  rw [hpw] at hD2
  rw [level_new,show c.steps.toNat - (k+1)=c.steps.toNat - 1 - k by omega,bnd_step]
  constructor
  ·intro p hp
   rcases List.mem_append.1 hp with hp | hp
   ·have:=hB p hp
    omega
   ·obtain ⟨i,hi,rfl⟩:=List.mem_mapIdx.1 hp
    rw [new_ex h (by omega) hB hD]
    have hr:=(rule_ex (t:=(c.level k).t) (cr:=(c.level k).cr) (co:=c.corners) (a:=((edgesE (c.level k).t)[i]).1) (b:=((edgesE (c.level k).t)[i]).2) hB (by omega) hb hD2).2.2
    have hd:=dtl_rng h k i
    have m1:=mul_rng hs.1 hs.2 (by decide) hd.1
    have m2:=mul_rng hs.1 hs.2 (by decide) hd.2.1
    have m3:=mul_rng hs.1 hs.2 (by decide) hd.2.2
    dsimp only
    omega
  ·intro p hp
   rcases List.mem_append.1 hp with hp | hp
   ·exact hD2.weak p hp
   ·obtain ⟨i,hi,rfl⟩:=List.mem_mapIdx.1 hp
    rw [new_ex h (by omega) hB hD]
    have hr:=(rule_ex (t:=(c.level k).t) (cr:=(c.level k).cr) (co:=c.corners) (a:=((edgesE (c.level k).t)[i]).1) (b:=((edgesE (c.level k).t)[i]).2) hB (by omega) hb hD2).2.1
    exact ⟨Int.dvd_add hr.1 (Int.dvd_mul_right _ _),Int.dvd_add hr.2.1 (Int.dvd_mul_right _ _),Int.dvd_add hr.2.2 (Int.dvd_mul_right _ _)⟩
theorem new_16 {c:Ctl} (h:RightC c) {k:Nat} (hk:k < c.steps.toNat) (i:Nat) (e:E2):
  16*(newE c k i e).1=(wsum (c.level k).p (wsE (c.level k).t (c.level k).cr c.corners e.1 e.2)).1+16*(16^(c.steps.toNat - 1 - k)*(dtl c k i).1)∧
  16*(newE c k i e).2.1=(wsum (c.level k).p (wsE (c.level k).t (c.level k).cr c.corners e.1 e.2)).2.1+16*(16^(c.steps.toNat - 1 - k)*(dtl c k i).2.1)∧
  16*(newE c k i e).2.2=(wsum (c.level k).p (wsE (c.level k).t (c.level k).cr c.corners e.1 e.2)).2.2+16*(16^(c.steps.toNat - 1 - k)*(dtl c k i).2.2):=by
 obtain ⟨hB,hD⟩:=level_ex h k (by omega)
 have hst:=h.st
 have hb:=bnd_top (show k≤4 by omega)
 have hl:=bnd_low k
 have hpw:(16:Int)^(c.steps.toNat - k)=16*16^(c.steps.toNat - 1 - k):=by
  rw [show c.steps.toNat - k=(c.steps.toNat - 1 - k)+1 by omega,Int.pow_succ,Int.mul_comm]
 rw [new_ex h hk hB hD]
 rw [hpw] at hD
 have hr:=(rule_ex (t:=(c.level k).t) (cr:=(c.level k).cr) (co:=c.corners) (a:=e.1) (b:=e.2) hB (by omega) hb hD).1
 dsimp only
 omega
def SumL (P Q R:List Pt):Prop:=P.length=R.length∧Q.length=R.length∧∀i:Nat,(R.getD i (0,0,0)).1=(P.getD i (0,0,0)).1+(Q.getD i (0,0,0)).1∧(R.getD i (0,0,0)).2.1=(P.getD i (0,0,0)).2.1+(Q.getD i (0,0,0)).2.1∧(R.getD i (0,0,0)).2.2=(P.getD i (0,0,0)).2.2+(Q.getD i (0,0,0)).2.2
theorem wsum_sum {P Q R:List Pt} (h:SumL P Q R):∀ws,(wsum R ws).1=(wsum P ws).1+(wsum Q ws).1∧(wsum R ws).2.1=(wsum P ws).2.1+(wsum Q ws).2.1∧(wsum R ws).2.2=(wsum P ws).2.2+(wsum Q ws).2.2
 | []=>by simp [wsum]
 | (k,i)::ws=>by
  obtain ⟨h1,h2,h3⟩:=wsum_sum h ws
  obtain ⟨g1,g2,g3⟩:=h.2.2 i.toNat
  simp only [wsum]
  rw [h1,h2,h3,g1,g2,g3,Int.mul_add,Int.mul_add,Int.mul_add]
  omega
theorem getD_app {P R:List Pt} (i:Nat):(P++R).getD i (0,0,0)=if i < P.length then P.getD i (0,0,0) else R.getD (i - P.length) (0,0,0):=by
 rw [List.getD_eq_getElem?_getD,List.getD_eq_getElem?_getD,List.getD_eq_getElem?_getD]
 split
 ·rename_i h
  rw [List.getElem?_append_left h]
 ·rename_i h
  rw [List.getElem?_append_right (by omega)]
theorem level_sum {a b c:Ctl} (ha:RightC a) (hb:RightC b) (hc:RightC c) (t1:a.tris=c.tris) (t2:b.tris=c.tris) (r1:a.creases=c.creases) (r2:b.creases=c.creases) (o1:a.corners=c.corners) (o2:b.corners=c.corners) (s1:a.steps=c.steps) (s2:b.steps=c.steps)
  (hp:SumL a.points b.points c.points) (hd:∀k i:Nat,k < c.steps.toNat→(dtl c k i).1=(dtl a k i).1+(dtl b k i).1∧(dtl c k i).2.1=(dtl a k i).2.1+(dtl b k i).2.1∧(dtl c k i).2.2=(dtl a k i).2.2+(dtl b k i).2.2):
  ∀k:Nat,k≤c.steps.toNat→SumL (a.level k).p (b.level k).p (c.level k).p∧((a.level k).t=(c.level k).t∧(b.level k).t=(c.level k).t)∧(a.level k).cr=(c.level k).cr∧(b.level k).cr=(c.level k).cr
 | 0,_=>by
  have e1:(a.level 0).p=a.points.map fun p=>(16^a.steps.toNat*p.1,16^a.steps.toNat*p.2.1,16^a.steps.toNat*p.2.2):=level_zero ha
  have e2:(b.level 0).p=b.points.map fun p=>(16^b.steps.toNat*p.1,16^b.steps.toNat*p.2.1,16^b.steps.toNat*p.2.2):=level_zero hb
  have e3:(c.level 0).p=c.points.map fun p=>(16^c.steps.toNat*p.1,16^c.steps.toNat*p.2.1,16^c.steps.toNat*p.2.2):=level_zero hc
  rw [s1] at e1
  rw [s2] at e2
  refine ⟨?_,⟨t1,t2⟩,congrArg setE r1,congrArg setE r2⟩
  rw [e1,e2,e3]
  refine ⟨by rw [List.length_map,List.length_map];exact hp.1,by rw [List.length_map,List.length_map];exact hp.2.1,fun i=> ?_⟩
  obtain ⟨g1,g2,g3⟩:=hp.2.2 i
  have key:∀P:List Pt,(P.map fun p=>((16:Int)^c.steps.toNat*p.1,(16:Int)^c.steps.toNat*p.2.1,(16:Int)^c.steps.toNat*p.2.2)).getD i (0,0,0)=(16^c.steps.toNat*(P.getD i (0,0,0)).1,16^c.steps.toNat*(P.getD i (0,0,0)).2.1,16^c.steps.toNat*(P.getD i (0,0,0)).2.2):=fun P=>by
   rw [List.getD_eq_getElem?_getD,List.getD_eq_getElem?_getD,List.getElem?_map]
   cases P[i]? with
   | none=>simp
   | some x=>rfl
  rw [key,key,key]
  dsimp only
  rw [g1,g2,g3,Int.mul_add,Int.mul_add,Int.mul_add]
  exact ⟨rfl,rfl,rfl⟩
 | k+1,hk=>by
  obtain ⟨hS,⟨ht1,ht2⟩,hr1,hr2⟩:=level_sum ha hb hc t1 t2 r1 r2 o1 o2 s1 s2 hp hd k (by omega)
  have hl1:=hS.1
  have hl2:=hS.2.1
  refine ⟨?_,⟨?_,?_⟩,?_,?_⟩
  ·rw [level_new,level_new,level_new,ht1,ht2]
   refine ⟨by rw [List.length_append,List.length_append,List.length_mapIdx,List.length_mapIdx,hl1],by rw [List.length_append,List.length_append,List.length_mapIdx,List.length_mapIdx,hl2],fun i=> ?_⟩
   rw [getD_app,getD_app,getD_app,hl1,hl2]
   split
   ·exact hS.2.2 i
   ·generalize i - (c.level k).p.length=j
    rw [List.getD_eq_getElem?_getD,List.getD_eq_getElem?_getD,List.getD_eq_getElem?_getD,List.getElem?_mapIdx,List.getElem?_mapIdx,List.getElem?_mapIdx]
    cases (edgesE (c.level k).t)[j]? with
    | none=>simp
    | some e=>
     simp only [Option.map_some,Option.getD_some]
     obtain ⟨a1,a2,a3⟩:=new_16 ha (k:=k) (by rw [s1];omega) j e
     obtain ⟨b1,b2,b3⟩:=new_16 hb (k:=k) (by rw [s2];omega) j e
     obtain ⟨c1,c2,c3⟩:=new_16 hc (k:=k) (by omega) j e
     rw [ht1,hr1,o1,s1] at a1 a2 a3
     rw [ht2,hr2,o2,s2] at b1 b2 b3
     obtain ⟨w1,w2,w3⟩:=wsum_sum hS (wsE (c.level k).t (c.level k).cr c.corners e.1 e.2)
     obtain ⟨d1,d2,d3⟩:=hd k j (by omega)
     rw [d1,Int.mul_add] at c1
     rw [d2,Int.mul_add] at c2
     rw [d3,Int.mul_add] at c3
     omega
  ·show stepT (midE _ _) _=stepT (midE _ _) _
   rw [ht1,hl1]
  ·show stepT (midE _ _) _=stepT (midE _ _) _
   rw [ht2,hl2]
  ·show setE (Lev.halved _)=setE (Lev.halved _)
   unfold Lev.halved
   rw [hr1,ht1,hl1]
  ·show setE (Lev.halved _)=setE (Lev.halved _)
   unfold Lev.halved
   rw [hr2,ht2,hl2]
end Go.Proofs.YtmemofonebphfaaGreat
namespace Go.Proofs.YtmemofonebphfaaGreat
open Go.RowKit Go.Sort
def bareC (c:Ctl):Ctl:={c with details:= []}
theorem bare_right {c:Ctl} (h:errC c=0):errC (bareC c)=0:=by
 obtain ⟨h1,h2,h3,h4,h5,h6⟩:=right_iff.1 h
 refine right_iff.2 ⟨?_,h2,h3,h4,?_,?_⟩
 ·unfold argC at h1⊢
  simp only [Bool.or_eq_false_iff,decide_eq_false_iff_not] at h1⊢
  refine ⟨h1.1,?_⟩
  show¬c.steps < ((0:Nat):Int)
  omega
 ·unfold manyC at h5⊢
  simp only [Bool.or_eq_false_iff] at h5⊢
  exact ⟨many_of (fun k d hd=>(by cases hd)),h5.2⟩
 ·unfold farC at h6⊢
  simp only [Bool.or_eq_false_iff] at h6⊢
  exact ⟨h6.1,rfl⟩
theorem points_right {c:Ctl} {P:List Pt} (h:errC c=0) (hl:P.length=c.points.length) (hr:∀p∈P,(0≤p.1∧p.1≤2097151 / 16^c.steps.toNat)∧(0≤p.2.1∧p.2.1≤2097151 / 16^c.steps.toNat)∧0≤p.2.2∧p.2.2≤2097151 / 16^c.steps.toNat):errC {c with points:=P}=0:=by
 obtain ⟨h1,h2,h3,h4,h5,h6⟩:=right_iff.1 h
 refine right_iff.2 ⟨h1,?_,h3,h4,h5,?_⟩
 ·unfold badIx at h2⊢
  rw [←hl] at h2
  exact h2
 ·unfold farC at h6⊢
  simp only [Bool.or_eq_false_iff] at h6⊢
  exact ⟨outR_of hr,h6.2⟩
end Go.Proofs.YtmemofonebphfaaGreat
namespace Go.Proofs.YtmemofonebphfaaGreat
open Go.RowKit Go.Sort
structure CtE (w W:World) (g:Nat) (vp vt vc vo vd:Value) (c:Ctl):Prop where
 bel:Below w.heap.size w W
 b:Blk W g 32 (cMad vp vt vc vo c.steps vd)
 le:w.heap.size≤g
 p:Own encP 3 43 W w.heap.size vp c.points.length c.points
 t:Own encN3 3 35 W w.heap.size vt c.tris.length c.tris
 cr:Own encE2 2 56 W w.heap.size vc c.creases.length c.creases
 o:Own encZ9 1 3 W w.heap.size vo c.corners.length c.corners
 d:Pcs encP 3 43 28 W w.heap.size vd c.details
structure CtO (w W:World) (B g:Nat) (vp vt vc vo vd:Value) (c:Ctl):Prop where
 e:CtE w W g vp vt vc vo vd c
 lb:w.heap.size≤B∧B≤W.heap.size
 lp:∀r,vp.ownBlock=some r→r < B
 d:Pcs encP 3 43 28 W B vd c.details
section
variable {w W W':World} {B g:Nat} {vp vt vc vo vd:Value} {c:Ctl} {P T:List Pt} {C:List E2} {O:List Int} {D:List (List Pt)} {st:Int} {cs:Array Value}
theorem ctl_row (hb:Blk W g 32 cs) {t:TypeId} (ht:t≠32) (b:Nat):∀r,(some g:Option Nat)=some r→r < b∨∀cs,W.heap[r]? ≠some (.cells cs t (0,0)):=fun r e=>by
 cases e
 refine .inr fun cs hc=> ?_
 have hb:W.heap[g]? =some (.cells _ _ (0,0)):=hb
 rw [hb] at hc
 cases hc
 exact ht rfl
theorem cte_set (hbel:Below w.heap.size w W) (hb:Blk W g 32 cs) (hle:w.heap.size≤g) (hp:Own encP 3 43 W w.heap.size vp P.length P) (ht:Own encN3 3 35 W w.heap.size vt T.length T) (hc:Own encE2 2 56 W w.heap.size vc C.length C) (ho:Own encZ9 1 3 W w.heap.size vo O.length O) (hd:Pcs encP 3 43 28 W w.heap.size vd D)
  (i:Nat) (v:Value) (hv:cs.setIfInBounds i v=cMad vp vt vc vo st vd):CtE w (W.setCell ⟨g,i,none⟩ v) g vp vt vc vo vd ⟨P,T,C,O,st,D⟩:=by
 have hg:=grown_set9 W g i v
 refine ⟨hbel.trans (grown_bel hg hle hbel.size),?_,hle,hp.step hg (ctl_row hb (by decide) _),ht.step hg (ctl_row hb (by decide) _),hc.step hg (ctl_row hb (by decide) _),ho.step hg (ctl_row hb (by decide) _),hd.turn hg (fun t e=>ctl_row hb (by rcases e with rfl | rfl <;>decide) _)⟩
 show Blk _ g _ (cMad vp vt vc vo st vd)
 rw [←hv]
 exact hb.set_ i v
theorem CtE.below (h:CtE w W g vp vt vc vo vd c) (hB:Below W.heap.size W W'):CtE w W' g vp vt vc vo vd c:=
 ⟨h.bel.trans (hB.mono h.bel.size),h.b.below hB h.b.lt,h.le,h.p.below hB (Nat.le_refl _),h.t.below hB (Nat.le_refl _),h.cr.below hB (Nat.le_refl _),h.o.below hB (Nat.le_refl _),h.d.below hB (Nat.le_refl _)⟩
theorem CtO.below (h:CtO w W B g vp vt vc vo vd c) (hB:Below W.heap.size W W'):CtO w W' B g vp vt vc vo vd c:=
 ⟨h.e.below hB,⟨h.lb.1,Nat.le_trans h.lb.2 hB.size⟩,h.lp,h.d.below hB (Nat.le_refl _)⟩
theorem CtE.row {α:Type} {enc:α→List Value} {k:Nat} {e:TypeId} {v:Value} {n b:Nat} {xs:List α} (h:CtE w W g vp vt vc vo vd c) (ho:Own enc k e W b v n xs) (hb:w.heap.size≤b) (h5:e≠32) (hg:W.grownBy W' v.ownBlock):Below w.heap.size w W'∧Blk W' g 32 (cMad vp vt vc vo c.steps vd):=
 ⟨h.bel.trans (grown_belO hg (fun r hr=>Nat.le_trans hb (ho.blk r hr).1) h.bel.size),h.b.grown hg (blk_own_ne9 h.b ho h5)⟩
theorem CtE.ap_t {v6:Value} {Q:List Pt} (h:CtE w W g vp vt vc vo vd c) (hg:W.grownBy W' vt.ownBlock) (ho:Own encN3 3 35 W' w.heap.size v6 Q.length Q):CtE w (W'.setCell ⟨g,1,none⟩ v6) g vp v6 vc vo vd {c with tris:=Q}:=by
 obtain ⟨b1,b2⟩:=h.row h.t (Nat.le_refl _) (by decide) hg
 exact cte_set b1 b2 h.le (h.p.step hg (own_rowT h.t (show (35:TypeId)≠43 by decide))) ho (h.cr.step hg (own_rowT h.t (show (35:TypeId)≠56 by decide))) (h.o.step hg (own_rowT h.t (show (35:TypeId)≠3 by decide))) (h.d.turn hg (fun t e=>own_rowT h.t (by rcases e with rfl | rfl <;>decide))) 1 v6 rfl
theorem CtO.ap_t {v6:Value} {Q:List Pt} (h:CtO w W B g vp vt vc vo vd c) (hg:W.grownBy W' vt.ownBlock) (ho:Own encN3 3 35 W' w.heap.size v6 Q.length Q):CtO w (W'.setCell ⟨g,1,none⟩ v6) B g vp v6 vc vo vd {c with tris:=Q}:=by
 obtain ⟨b1,b2⟩:=h.e.row h.e.t (Nat.le_refl _) (by decide) hg
 refine ⟨h.e.ap_t hg ho,⟨h.lb.1,Nat.le_trans h.lb.2 (Nat.le_trans hg.size (grown_set9 W' g 1 v6).size)⟩,h.lp,?_⟩
 exact (h.d.turn hg (fun t e=>by
  have key:=own_rowT h.e.t (show (35:TypeId)≠t by rcases e with rfl | rfl <;>decide)
  exact fun r hr=>(key r hr).imp (fun hlt=>Nat.lt_of_lt_of_le hlt h.lb.1) id)).turn (grown_set9 W' g 1 v6) (fun t e=>ctl_row b2 (by rcases e with rfl | rfl <;>decide) _)
theorem CtE.ap_cr {v6:Value} {Q:List E2} (h:CtE w W g vp vt vc vo vd c) (hg:W.grownBy W' vc.ownBlock) (ho:Own encE2 2 56 W' w.heap.size v6 Q.length Q):CtE w (W'.setCell ⟨g,2,none⟩ v6) g vp vt v6 vo vd {c with creases:=Q}:=by
 obtain ⟨b1,b2⟩:=h.row h.cr (Nat.le_refl _) (by decide) hg
 exact cte_set b1 b2 h.le (h.p.step hg (own_rowT h.cr (show (56:TypeId)≠43 by decide))) (h.t.step hg (own_rowT h.cr (show (56:TypeId)≠35 by decide))) ho (h.o.step hg (own_rowT h.cr (show (56:TypeId)≠3 by decide))) (h.d.turn hg (fun t e=>own_rowT h.cr (by rcases e with rfl | rfl <;>decide))) 2 v6 rfl
theorem CtO.ap_cr {v6:Value} {Q:List E2} (h:CtO w W B g vp vt vc vo vd c) (hg:W.grownBy W' vc.ownBlock) (ho:Own encE2 2 56 W' w.heap.size v6 Q.length Q):CtO w (W'.setCell ⟨g,2,none⟩ v6) B g vp vt v6 vo vd {c with creases:=Q}:=by
 obtain ⟨b1,b2⟩:=h.e.row h.e.cr (Nat.le_refl _) (by decide) hg
 refine ⟨h.e.ap_cr hg ho,⟨h.lb.1,Nat.le_trans h.lb.2 (Nat.le_trans hg.size (grown_set9 W' g 2 v6).size)⟩,h.lp,?_⟩
 exact (h.d.turn hg (fun t e=>by
  have key:=own_rowT h.e.cr (show (56:TypeId)≠t by rcases e with rfl | rfl <;>decide)
  exact fun r hr=>(key r hr).imp (fun hlt=>Nat.lt_of_lt_of_le hlt h.lb.1) id)).turn (grown_set9 W' g 2 v6) (fun t e=>ctl_row b2 (by rcases e with rfl | rfl <;>decide) _)
theorem CtE.ap_o {v6:Value} {Q:List Int} (h:CtE w W g vp vt vc vo vd c) (hg:W.grownBy W' vo.ownBlock) (ho:Own encZ9 1 3 W' w.heap.size v6 Q.length Q):CtE w (W'.setCell ⟨g,3,none⟩ v6) g vp vt vc v6 vd {c with corners:=Q}:=by
 obtain ⟨b1,b2⟩:=h.row h.o (Nat.le_refl _) (by decide) hg
 exact cte_set b1 b2 h.le (h.p.step hg (own_rowT h.o (show (3:TypeId)≠43 by decide))) (h.t.step hg (own_rowT h.o (show (3:TypeId)≠35 by decide))) (h.cr.step hg (own_rowT h.o (show (3:TypeId)≠56 by decide))) ho (h.d.turn hg (fun t e=>own_rowT h.o (by rcases e with rfl | rfl <;>decide))) 3 v6 rfl
theorem CtO.ap_o {v6:Value} {Q:List Int} (h:CtO w W B g vp vt vc vo vd c) (hg:W.grownBy W' vo.ownBlock) (ho:Own encZ9 1 3 W' w.heap.size v6 Q.length Q):CtO w (W'.setCell ⟨g,3,none⟩ v6) B g vp vt vc v6 vd {c with corners:=Q}:=by
 obtain ⟨b1,b2⟩:=h.e.row h.e.o (Nat.le_refl _) (by decide) hg
 refine ⟨h.e.ap_o hg ho,⟨h.lb.1,Nat.le_trans h.lb.2 (Nat.le_trans hg.size (grown_set9 W' g 3 v6).size)⟩,h.lp,?_⟩
 exact (h.d.turn hg (fun t e=>by
  have key:=own_rowT h.e.o (show (3:TypeId)≠t by rcases e with rfl | rfl <;>decide)
  exact fun r hr=>(key r hr).imp (fun hlt=>Nat.lt_of_lt_of_le hlt h.lb.1) id)).turn (grown_set9 W' g 3 v6) (fun t e=>ctl_row b2 (by rcases e with rfl | rfl <;>decide) _)
theorem CtE.ap_p0 {v6:Value} {Q:List Pt} (h:CtE w W g vp vt vc vo (.slice none 0 0) ⟨P,T,C,O,st, []⟩) (hg:W.grownBy W' vp.ownBlock) (ho:Own encP 3 43 W' w.heap.size v6 Q.length Q):CtO w (W'.setCell ⟨g,0,none⟩ v6) W'.heap.size g v6 vt vc vo (.slice none 0 0) ⟨Q,T,C,O,st, []⟩:=by
 obtain ⟨b1,b2⟩:=h.row h.p (Nat.le_refl _) (by decide) hg
 exact ⟨cte_set b1 b2 h.le ho (h.t.step hg (own_rowT h.p (show (43:TypeId)≠35 by decide))) (h.cr.step hg (own_rowT h.p (show (43:TypeId)≠56 by decide))) (h.o.step hg (own_rowT h.p (show (43:TypeId)≠3 by decide))) Pcs.nil 0 v6 rfl,⟨b1.size,(grown_set9 W' g 0 v6).size⟩,fun r hr=>(ho.blk r hr).2,Pcs.nil⟩
theorem CtO.ap_d {ss:List Hdr} {v6:Value} {A:Option Addr} {k:Nat} {x:List Pt} (h:CtO w W B g vp vt vc vo vd c) (hos:Own encS 1 28 W B vd c.details.length ss) (hps:∀(i:Nat) (p:List Pt),c.details[i]? =some p→∃A k,ss[i]? =some (A,p.length,k)∧Own encP 3 43 W B (.slice A p.length k) p.length p)
  (hx:Own encP 3 43 W B (.slice A x.length k) x.length x) (hg:W.grownBy W' vd.ownBlock) (ho:Own encS 1 28 W' B v6 (c.details.length+1) (ss++ [(A,x.length,k)])):CtO w (W'.setCell ⟨g,5,none⟩ v6) B g vp vt vc vo v6 {c with details:=c.details++ [x]}:=by
 obtain ⟨b1,b2⟩:=h.e.row hos h.lb.1 (by decide) hg
 have hp:=Pcs.snoc (show (28:TypeId)≠43 by decide) hos hps hx hg ho
 have key:∀t:TypeId,28≠t→∀r,vd.ownBlock=some r→r < w.heap.size∨∀cs,W.heap[r]? ≠some (.cells cs t (0,0)):=fun t ht=>own_rowT (hos.base_le h.lb.1) ht
 exact ⟨cte_set b1 b2 h.e.le (h.e.p.step hg (key _ (by decide))) (h.e.t.step hg (key _ (by decide))) (h.e.cr.step hg (key _ (by decide))) (h.e.o.step hg (key _ (by decide))) (hp.base_le h.lb.1) 5 v6 rfl,⟨h.lb.1,Nat.le_trans h.lb.2 (Nat.le_trans hg.size (grown_set9 W' g 5 v6).size)⟩,h.lp,hp.turn (grown_set9 W' g 5 v6) (fun t e=>ctl_row b2 (by rcases e with rfl | rfl <;>decide) _)⟩
end
def CpyR (w w':World) (c:Ctl) (e:Ending):Prop:=
 ∃(B:Nat) (Ap At Ac Ao Ad:Option Addr) (cp ct cc oc dc:Nat),e= .returned (vCtl Ap c.points.length cp At c.tris.length ct Ac c.creases.length cc Ao c.corners.length oc c.steps Ad c.details.length dc)∧
  Own encN3 3 35 w' w.heap.size (.slice At c.tris.length ct) c.tris.length c.tris∧Own encP 3 43 w' w.heap.size (.slice Ap c.points.length cp) c.points.length c.points∧Own encE2 2 56 w' w.heap.size (.slice Ac c.creases.length cc) c.creases.length c.creases∧
  Own encZ9 1 3 w' w.heap.size (.slice Ao c.corners.length oc) c.corners.length c.corners∧Pcs encP 3 43 28 w' B (.slice Ad c.details.length dc) c.details∧(w.heap.size≤B∧B≤w'.heap.size∧∀r,(Value.slice Ap c.points.length cp).ownBlock=some r→r < B)∧Below w.heap.size w w'
end Go.Proofs.YtmemofonebphfaaGreat
namespace Go.Proofs.YtmemofonebphfaaGreat
open Go.RowKit Go.Sort
theorem own_some {α:Type} {enc:α→List Value} {k:Nat} {e:TypeId} {w:World} {base n c:Nat} {A:Option Addr} {xs:List α} (h:Own enc k e w base (.slice A n c) n xs) (hn:0 < n):∃g cur,A=some ⟨g,0,none⟩∧base≤g∧Blk w g e cur∧n≤c:=by
 obtain ⟨h0,h1⟩:=h.2
 rcases h1 with ⟨h1,h2⟩ | ⟨g,cap,cur,h1,hb,hheap,hnc,hcm,hsz,htake⟩
 ·cases h1
  omega
 ·cases h1
  exact ⟨g,cur,rfl,hb,hheap,hnc⟩
end Go.Proofs.YtmemofonebphfaaGreat
namespace Go.Proofs.YtmemofonebphfaaGreat
open Go.RowKit Go.Sort
theorem Blk.seven9 {w:World} {g:Nat} {t:TypeId} {a b c d e f h:Value} (hb:Blk w g t #[a,b,c,d,e,f,h]):w.cell? ⟨g,0,none⟩=some a∧w.cell? ⟨g,1,none⟩=some b∧w.cell? ⟨g,2,none⟩=some c∧w.cell? ⟨g,3,none⟩=some d∧w.cell? ⟨g,4,none⟩=some e∧w.cell? ⟨g,5,none⟩=some f∧w.cell? ⟨g,6,none⟩=some h:=
 ⟨hb.cell 0,hb.cell 1,hb.cell 2,hb.cell 3,hb.cell 4,hb.cell 5,hb.cell 6⟩
end Go.Proofs.YtmemofonebphfaaGreat
