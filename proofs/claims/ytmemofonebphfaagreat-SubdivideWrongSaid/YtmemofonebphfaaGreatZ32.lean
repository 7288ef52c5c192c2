import Derived.Test.YtmemofonebphfaaGreatZ30
namespace Go.Proofs.YtmemofonebphfaaGreat
open Go.RowKit Go.Sort
set_option maxRecDepth 100000 in set_option maxHeartbeats 64000000 in
theorem zND (Ap At Ac Ao Ad:Option Addr) (cp ct cc oc dc:Nat) (c:Ctl) (q1 q2 q3:Int) (w:World) (hm:CtlM w w.heap.size Ap At Ac Ao Ad c) (hb:CtlB c) (hp0:0 < c.points.length) (ht0:0 < c.tris.length) (h13:q1 % 13=0∨q1 % 13=1∨q1 % 13=2∨q1 % 13=3∨q1 % 13=4∨q1 % 13=5∨q1 % 13=6):
  Calls Tryz.prog 16 #[vCtl Ap c.points.length cp At c.tris.length ct Ac c.creases.length cc Ao c.corners.length oc c.steps Ad c.details.length dc, .agg #[.int .i64 q1, .int .i64 q2, .int .i64 q3]] w fun e w'=>MadR w w' (yY c (q1,q2,q3)) e:=by
 obtain ⟨P,T,C,O,st,D⟩:=c
 have kc:=fun (W:World) (hW:Below w.heap.size w W)=>zCL Ap At Ac Ao Ad cp ct cc oc dc ⟨P,T,C,O,st,D⟩ W (hm.below hW hW.size) hb
 obtain ⟨hbp,hbt,hbc,hbo,hbd,_⟩:=hb
 dsimp only at hbp hbt hbc hbo hbd hp0 ht0 kc⊢
 obtain ⟨np,hnp⟩:=ex9 (P.length)
 obtain ⟨nt,hnt⟩:=ex9 (T.length)
 obtain ⟨nc,hnc⟩:=ex9 (C.length)
 obtain ⟨no,hno⟩:=ex9 (O.length)
 obtain ⟨nd,hnd⟩:=ex9 (D.length)
 rw [←hnp] at hbp hp0
 rw [←hnt] at hbt ht0
 rw [←hnc] at hbc
 rw [←hno] at hbo
 rw [←hnd] at hbd
 obtain ⟨k,hk⟩:∃k:Nat,k=(q2 % (nt:Int)).toNat:=⟨_,rfl⟩
 have hk1:q2 % (nt:Int)=(k:Int):=by have:=Int.emod_nonneg q2 (show (nt:Int)≠0 by omega);omega
 have hkl:k < nt:=by rw [hk];exact xY ht0 q2
 obtain ⟨x,hx⟩:∃x,T[k]? =some x:=⟨_,List.getElem?_eq_getElem (by rw [←hnt];exact hkl)⟩
 have hxd:T.getD k (0,0,0)=x:=by rw [List.getD_eq_getElem?_getD,hx];rfl
 obtain ⟨i1,hi1⟩:∃k:Nat,k=(q3 % (np:Int)).toNat:=⟨_,rfl⟩
 have hj1:q3 % (np:Int)=(i1:Int):=by have:=Int.emod_nonneg q3 (show (np:Int)≠0 by omega);omega
 have hil:i1 < np:=by rw [hi1];exact xY hp0 q3
 obtain ⟨y,hy⟩:∃y,P[i1]? =some y:=⟨_,List.getElem?_eq_getElem (by rw [←hnp];exact hil)⟩
 have hyd:P.getD i1 (0,0,0)=y:=by rw [List.getD_eq_getElem?_getD,hy];rfl
 obtain ⟨i2,hi2⟩:∃k:Nat,k=(q2 % (np:Int)).toNat:=⟨_,rfl⟩
 have hj2:q2 % (np:Int)=(i2:Int):=by have:=Int.emod_nonneg q2 (show (np:Int)≠0 by omega);omega
 have hil2:i2 < np:=by rw [hi2];exact xY hp0 q2
 obtain ⟨y2,hy2⟩:∃y,P[i2]? =some y:=⟨_,List.getElem?_eq_getElem (by rw [←hnp];exact hil2)⟩
 have hyd2:P.getD i2 (0,0,0)=y2:=by rw [List.getD_eq_getElem?_getD,hy2];rfl
 have hsp:∀m:Int,q1 % 13=m→True:=fun _ _=>trivial
 obtain ⟨R,hR⟩:=ex9 (yY ⟨P,T,C,O,st,D⟩ (q1,q2,q3))
 rw [←hR]
 unfold yY at hR
 dsimp only at hR
 rw [←hnt,←hnp,←hk,←hi1,←hi2,hxd,hyd,hyd2] at hR
 obtain ⟨m0,h0⟩:=ex9 (q1 % 13)
 rw [←h0] at hR h13
 rw [←hnp,←hnt,←hnc,←hno,←hnd]
 simp only [←hnp,←hnt,←hnc,←hno,←hnd] at kc
 have km1:=fun W=>yA q2 (nt:Int) (by omega) (by omega) W
 rw [hk1] at km1
 have km0:=fun W=>yA q1 13 (by decide) (by decide) W
 rw [←h0] at km0
 have HR:=hide hR
 have HN:=hide (ai9 hnp (ai9 hnt (ai9 hnc (ai9 hno hnd))))
 have HK:=hide (ai9 kc (ai9 km1 km0))
 have HX:=hide (ai9 (ai9 hx (ai9 hy hy2)) (ai9 hk1 (ai9 hj1 hj2)))
 clear kc km1 km0 hm hnp hnt hnc hno hnd hk hk1 hx hxd hi1 hj1 hy hyd hi2 hj2 hy2 hyd2 hsp h0 hR
 go_enter Tryz.func16,Tryz.ntmps16
 go_upto_region 1 with fail
 obtain ⟨g1,hg1⟩:=ex9 (w.heap.size)
 obtain ⟨g2,hg2⟩:=ex9 (w.heap.size+1)
 obtain ⟨g4,hg4⟩:=ex9 (w.heap.size+2)
 obtain ⟨X0,hX⟩:=ex9 (((w.alloc (.cells (cCtl Ap np cp At nt ct Ac nc cc Ao no oc st Ad nd dc) 32)).alloc (.cells #[.int .i64 q1, .int .i64 q2, .int .i64 q3] 35)).alloc (.cells (cCtl none 0 0 none 0 0 none 0 0 none 0 0 0 none 0 0) 32))
 rw [←hX,←hg4,←hg2,←hg1]
 have hb1:Blk X0 g1 32 (cCtl Ap np cp At nt ct Ac nc cc Ao no oc st Ad nd dc):=by rw [hX,hg1];exact ((Blk.new _ _ _).alloc _).alloc _
 have hb2:Blk X0 g2 35 #[.int .i64 q1, .int .i64 q2, .int .i64 q3]:=by rw [hX,hg2];exact (Blk.new' _ _ _ _ (by simp)).alloc _
 have hb4:Blk X0 g4 32 (cCtl none 0 0 none 0 0 none 0 0 none 0 0 0 none 0 0):=by rw [hX,hg4];exact Blk.new' _ _ _ _ (by simp)
 have hBX:Below w.heap.size w X0:=by rw [hX];exact (((Below.refl _ w).alloc lr9 _).alloc (by simp) _).alloc (by simp;omega) _
 obtain ⟨z0,z1,z2,z3,z4,z5⟩:=hb1.six9
 have hgl:=hb1.lt
 have H0:=hide (ai9 hb2 (ai9 hb4 (ai9 hBX (show w.heap.size≤g4 by omega))))
 clear hb1 hb2 hb4 hBX hX hg1 hg2 hg4
 go_upto_region 2 with (go_at_call 21;refine (HK.o.1 X0 H0.o.2.2.1).mono ?_;rintro e X1 ⟨B,A1,A2,A3,A4,A5,k1,k2,k3,k4,k5,rfl,ht1,hp1,hc1,ho1,hd1,hlb,hB1⟩;have H1:=hide (ai9 (ai9 ht1 (ai9 hp1 (ai9 hc1 (ai9 ho1 hd1)))) (ai9 hlb hB1));clear ht1 hp1 hc1 ho1 hd1 hlb hB1)
 clear z0 z1 z2 z3 z4 z5 hgl
 try dsimp only
 try simp only [←HN.o.1,←HN.o.2.1,←HN.o.2.2.1,←HN.o.2.2.2.1,←HN.o.2.2.2.2]
 obtain ⟨g5,hg5⟩:=ex9 (X1.heap.size)
 obtain ⟨X2,hX2⟩:=ex9 (X1.alloc (.cells (cMad (.slice A1 np k1) (.slice A2 nt k2) (.slice A3 nc k3) (.slice A4 no k4) st (.slice A5 nd k5)) 32))
 rw [←hX2,←hg5]
 have hBa:Below X1.heap.size X1 X2:=by rw [hX2];exact (Below.refl _ _).alloc lr9 _
 have hS2:CtO X0 X2 B g5 (.slice A1 np k1) (.slice A2 nt k2) (.slice A3 nc k3) (.slice A4 no k4) (.slice A5 nd k5) ⟨P,T,C,O,st,D⟩:=by
  have hz:=H1.o.2.2.size
  have hzb:=hBa.size
  have hb5:Blk X2 g5 32 (cMad (.slice A1 np k1) (.slice A2 nt k2) (.slice A3 nc k3) (.slice A4 no k4) st (.slice A5 nd k5)):=by rw [hX2,hg5];exact Blk.new _ _ _
  rw [HN.o.1,HN.o.2.1,HN.o.2.2.1,HN.o.2.2.2.1,HN.o.2.2.2.2] at hb5⊢
  have hl:=H1.o.2.1
  exact ⟨⟨H1.o.2.2.trans (hBa.mono hz),hb5,by omega,H1.o.1.2.1.below hBa lr9,H1.o.1.1.below hBa lr9,H1.o.1.2.2.1.below hBa lr9,H1.o.1.2.2.2.1.below hBa lr9,(H1.o.1.2.2.2.2.base_le hl.1).below hBa lr9⟩,⟨hl.1,Nat.le_trans hl.2.1 hzb⟩,hl.2.2,H1.o.1.2.2.2.2.below hBa lr9⟩
 obtain ⟨z0,z1,z2,z3,z4,z5⟩:=hS2.e.b.six9
 have hg5l:=hS2.e.b.lt
 have hq2:=H0.o.1.below hS2.e.bel H0.o.1.lt
 obtain ⟨y0,y1,y9⟩:=hq2.three
 have hg2l:=hq2.lt
 have hXX:=hS2.e.bel.size
 have HS:=hide hS2
 clear hS2 hX2 hg5 hBa hq2
 go_upto_region 3 with (go_at_call 17;refine (HK.o.2.1 X2).mono ?_;rintro e Y ⟨rfl,hw⟩;obtain rfl:X2=Y:=hw.symm)
 go_upto_region 5 with (go_at_call 17;refine (HK.o.2.2 X2).mono ?_;rintro e Y ⟨rfl,hw⟩;obtain rfl:X2=Y:=hw.symm)
 rcases h13 with rfl | rfl | rfl | rfl | rfl | rfl | rfl
 ·skip
  have hR2:=HR.o
  have hj1:=HX.o.2.2.1
  have hj2:=HX.o.2.2.2
  rw [if_pos rfl] at hR2
  obtain ⟨u,hu⟩:=ex9 (q3 % 8)
  have ub:0≤u∧u < 8:=by omega
  have km:=fun W=>yA q3 8 (by decide) (by decide) W
  simp only [←hu] at km
  rw [←hu] at hR2
  have HQ:=hide (show R=⟨P,T,C,O,(u - 2),D⟩ from hR2)
  have HM:=hide km
  clear hR2 hj1 hj2 km hu
  have f4:=HS.o.e.b.frozen 4
  go_upto_region 31 with (go_at_call 17;refine (HM.o X2).mono ?_;rintro e Y ⟨rfl,hw⟩;obtain rfl:X2=Y:=hw.symm)
  obtain ⟨V,hV⟩:=ex9 (X2.setCell ⟨g5,4,none⟩ (.int .i64 (u - 2)))
  rw [←hV]
  have HF:=hide (show CtE X0 V g5 (.slice A1 np k1) (.slice A2 nt k2) (.slice A3 nc k3) (.slice A4 no k4) (.slice A5 nd k5) ⟨P,T,C,O,u - 2,D⟩ from by rw [hV];exact HS.o.e.low9 (u - 2))
  clear hV f4
  clear z0 z1 z2 z3 z4 z5 hg5l y0 y1 y9 hg2l
  obtain ⟨z0,z1,z2,z3,z4,z5⟩:=HF.o.b.six9
  have hg5l:=HF.o.b.lt
  have hV2:=H0.o.2.1.below HF.o.bel H0.o.2.1.lt
  obtain ⟨e0,e1,e2,e3,e4,e5⟩:=hV2.six9
  have hg2l:=hV2.lt
  have f0:=hV2.frozen 0
  have f1:=hV2.frozen 1
  have f2:=hV2.frozen 2
  have f3:=hV2.frozen 3
  have f4:=hV2.frozen 4
  have f5:=hV2.frozen 5
  have HV:=hide hV2
  clear hV2
  go_wp2
  have hE:=(((((HV.o.set_ 0 (.slice A1 np k1)).set_ 1 (.slice A2 nt k2)).set_ 2 (.slice A3 nc k3)).set_ 3 (.slice A4 no k4)).set_ 4 (.int .i64 (u - 2))).set_ 5 (.slice A5 nd k5)
  refine yX (v:= .agg (cMad (.slice A1 np k1) (.slice A2 nt k2) (.slice A3 nc k3) (.slice A4 no k4) (u - 2) (.slice A5 nd k5))) (fun W=>Blk W g4 32 (cMad (.slice A1 np k1) (.slice A2 nt k2) (.slice A3 nc k3) (.slice A4 no k4) (u - 2) (.slice A5 nd k5))) hE (fun W hW=> ?_) rfl ?_
  ·obtain ⟨a0,a1,a2,a3,a4,a5⟩:=hW.six9
   simp [results,Tryz.results16,go_sem,a0,a1,a2,a3,a4,a5]
   try trivial
  ·rw [HQ.o]
   exact HF.o.res H0.o.2.2.1 H0.o.2.2.2 H0.o.2.1.lt (yD g4 [(.slice A1 np k1),(.slice A2 nt k2),(.slice A3 nc k3),(.slice A4 no k4), .int .i64 (u - 2),(.slice A5 nd k5)] V 0)
 ·skip
  have hR2:=HR.o
  have hj1:=HX.o.2.2.1
  have hj2:=HX.o.2.2.2
  rw [if_neg (show¬(1:Int)=0 by decide),if_pos rfl] at hR2
  obtain ⟨j,hj⟩:∃j:Nat,j=(q3 % 3).toNat:=⟨_,rfl⟩
  have hj3:q3 % 3=(j:Int):=by omega
  have jl:j < 3:=by omega
  have km:=fun W=>yA q3 3 (by decide) (by decide) W
  rw [hj3] at km
  obtain ⟨v,hv⟩:=ex9 ((np:Int) - (j:Int))
  have w1:IntKind.i64.wrap ((np:Int) - (j:Int))=v:=by rw [hv];exact IntWalk.i64_in _ (by omega)
  rw [hj3] at hR2
  rw [←hv] at hR2
  have HQ:=hide (show R=⟨P,(T.set k (putN x (j:Int) v)),C,O,st,D⟩ from hR2)
  have HM:=hide km
  clear hR2 hj1 hj2 km hj hj3 hv
  go_upto_region 8 with fail
  have hT0:Own yF 3 35 X2 X0.heap.size (.slice A2 nt k2) nt T:=by have h:=HS.o.e.t;simp only [←HN.o.2.1] at h;exact h
  obtain ⟨gt,cur,hA,hge,hbT,hcap⟩:=jY hT0 ht0
  subst hA
  have i1:(k:Int) < (nt:Int):=by omega
  have i2:(j:Int) < 3:=by omega
  have hOw:Own yF 3 35 X2.drew X0.heap.size (.slice (some ⟨gt,0,none⟩) nt k2) nt (T):=by have h:=HS.o.e.t;simp only [←HN.o.2.1] at h;exact h.below ((Below.refl _ X2).drew) lr9
  obtain ⟨u,hu⟩:∃u,(yF x)[j]? =some u:=⟨_,List.getElem?_eq_getElem (by rw [zS];exact jl)⟩
  have hcell:X2.cell? ⟨gt,k*3+j,none⟩=some u:=by
   have hsl:Sl yF 3 X2 X2.heap.size (some ⟨gt,0,none⟩) T:=hT0.sl zS lr9
   obtain ⟨b,o,hA,hb,hc⟩:=hsl.at HX.o.1.1
   cases hA
   have:=hc j u hu
   rw [Nat.zero_add] at this
   exact this
  have frT:=hbT.frozen (k*3+j)
  have hgtl:=hbT.lt
  have HO:=hide (ai9 hOw hu)
  clear hOw hu
  have HSB:=hide (show Below X2.heap.size X2 X2.drew from (Below.refl _ X2).drew)
  refine zB (fun W=>Below X2.heap.size X2 W) [0,1,2,3,5,6,7,8,10,11,12] [0,1,2,3,5,6,7,8,11,4,9,10,12,13] zL (by kernel_rfl) ?_
  refine zA (v:=(.pointer (some ⟨g5,1,none⟩))) rfl rfl (fun _ _ _ h=>h) HSB.o ⟨rfl,fun _ _=>by simp [go_sem]⟩ ?_
  refine zA (v:=(.slice (some ⟨gt,0,none⟩) nt k2)) rfl rfl (fun _ _ _ h=>h) HSB.o ⟨rfl,fun _ h'=>by have a0:=(h'.cell (p:=⟨g5,1,none⟩) hg5l).trans z1;simp [go_sem,a0]⟩ ?_
  refine zA (v:=(.int .i64 k)) rfl rfl (fun _ _ _ h=>h) HSB.o ⟨rfl,fun _ _=>by simp [go_sem]⟩ ?_
  refine zA (v:=(.int .i64 q3)) rfl rfl (fun _ _ _ h=>h) HSB.o ⟨rfl,fun _ _=>by simp [go_sem]⟩ ?_
  refine zA (v:=(.pointer (some ⟨g5,0,none⟩))) rfl rfl (fun _ _ _ h=>h) HSB.o ⟨rfl,fun _ _=>by simp [go_sem]⟩ ?_
  refine zA (v:=(.slice A1 np k1)) rfl rfl (fun _ _ _ h=>h) HSB.o ⟨rfl,fun _ h'=>by have a0:=(h'.cell (p:=⟨g5,0,none⟩) hg5l).trans z0;simp [go_sem,a0]⟩ ?_
  simp only [List.getElem_toArray,List.getElem_cons_succ,List.getElem_cons_zero,Act.put,List.setIfInBounds_toArray,List.set_cons_succ,List.set_cons_zero]
  refine zA (v:=(.int .i64 np)) rfl rfl (fun _ _ _ h=>h) HSB.o ⟨rfl,fun _ _=>by simp [go_sem,Builtin.lenOf]⟩ ?_
  refine zA (v:=(.int .i64 q3)) rfl rfl (fun _ _ _ h=>h) HSB.o ⟨rfl,fun _ _=>by simp [go_sem]⟩ ?_
  refine zA (v:=(.pointer (some ⟨gt,k*3,none⟩))) rfl rfl (fun _ _ _ h=>h) HSB.o ⟨rfl,fun _ _=>by simp [go_sem,i1]⟩ ?_
  simp only [List.getElem_toArray,List.getElem_cons_succ,List.getElem_cons_zero,Act.put,List.setIfInBounds_toArray,List.set_cons_succ,List.set_cons_zero]
  refine zD rfl rfl ?_
  go_wp2_with fail
  refine (HM.o X2.drew).mono ?_
  rintro e W1 ⟨rfl,rfl⟩
  go_wp2_with fail
  refine ⟨fun _=>HSB.o,?_⟩
  refine zD rfl rfl ?_
  go_wp2_with fail
  refine (HM.o X2.drew).mono ?_
  rintro e W1 ⟨rfl,rfl⟩
  go_wp2_with fail
  refine ⟨fun _=>HSB.o,?_⟩
  refine zA (v:=(.int .i64 v)) rfl rfl (fun _ _ _ h=>h) HSB.o ⟨rfl,fun _ _=>by simp [go_sem,w1]⟩ ?_
  refine zA (v:=(.pointer (some ⟨gt,k*3+j,none⟩))) rfl rfl (fun _ _ _ h=>h) HSB.o ⟨rfl,fun _ _=>by simp [go_sem,i2]⟩ ?_
  simp only [List.getElem_toArray,List.getElem_cons_succ,List.getElem_cons_zero,Act.put,List.setIfInBounds_toArray,List.set_cons_succ,List.set_cons_zero]
  refine zJ _ [_] (by kernel_rfl) rfl ?_
  clear HSB
  go_upto_region 31 with fail
  obtain ⟨V,hV⟩:=ex9 ((X2.setCell ⟨gt,k*3+j,none⟩ (.int .i64 v)).drew)
  rw [←hV]
  have HF:=hide (show CtE X0 V g5 (.slice A1 np k1) (.slice (some ⟨gt,0,none⟩) nt k2) (.slice A3 nc k3) (.slice A4 no k4) (.slice A5 nd k5) ⟨P,T.set k (putN x (j:Int) v),C,O,st,D⟩ from by
   have hy:yF (putN x (j:Int) v)=(yF x).set j (.int .i64 v):=by
    have hj:j=0∨j=1∨j=2:=by omega
    rcases hj with rfl | rfl | rfl <;>rfl
   have h1:=zEV zS HO.o.1 HX.o.1.1 jl hy
   have h2:=(HS.o.e.below ((Below.refl _ X2).drew)).in_t (Q:=T.set k (putN x (j:Int) v)) (zG X2.drew gt (k*3+j) (.int .i64 v)) (by rw [List.length_set,←HN.o.2.1];exact h1)
   rw [hV]
   exact h2)
  clear hV w1 i1 i2 frT hgtl hcell
  clear z0 z1 z2 z3 z4 z5 hg5l y0 y1 y9 hg2l
  obtain ⟨z0,z1,z2,z3,z4,z5⟩:=HF.o.b.six9
  have hg5l:=HF.o.b.lt
  have hV2:=H0.o.2.1.below HF.o.bel H0.o.2.1.lt
  obtain ⟨e0,e1,e2,e3,e4,e5⟩:=hV2.six9
  have hg2l:=hV2.lt
  have f0:=hV2.frozen 0
  have f1:=hV2.frozen 1
  have f2:=hV2.frozen 2
  have f3:=hV2.frozen 3
  have f4:=hV2.frozen 4
  have f5:=hV2.frozen 5
  have HV:=hide hV2
  clear hV2
  go_wp2
  have hE:=(((((HV.o.set_ 0 (.slice A1 np k1)).set_ 1 (.slice (some ⟨gt,0,none⟩) nt k2)).set_ 2 (.slice A3 nc k3)).set_ 3 (.slice A4 no k4)).set_ 4 (.int .i64 st)).set_ 5 (.slice A5 nd k5)
  refine yX (v:= .agg (cMad (.slice A1 np k1) (.slice (some ⟨gt,0,none⟩) nt k2) (.slice A3 nc k3) (.slice A4 no k4) st (.slice A5 nd k5))) (fun W=>Blk W g4 32 (cMad (.slice A1 np k1) (.slice (some ⟨gt,0,none⟩) nt k2) (.slice A3 nc k3) (.slice A4 no k4) st (.slice A5 nd k5))) hE (fun W hW=> ?_) rfl ?_
  ·obtain ⟨a0,a1,a2,a3,a4,a5⟩:=hW.six9
   simp [results,Tryz.results16,go_sem,a0,a1,a2,a3,a4,a5]
   try trivial
  ·rw [HQ.o]
   exact HF.o.res H0.o.2.2.1 H0.o.2.2.2 H0.o.2.1.lt (yD g4 [(.slice A1 np k1),(.slice (some ⟨gt,0,none⟩) nt k2),(.slice A3 nc k3),(.slice A4 no k4), .int .i64 st,(.slice A5 nd k5)] V 0)
 ·skip
  have hR2:=HR.o
  have hj1:=HX.o.2.2.1
  have hj2:=HX.o.2.2.2
  rw [if_neg (show¬(2:Int)=0 by decide),if_neg (show¬(2:Int)=1 by decide),if_pos rfl] at hR2
  have HQ:=hide (show R=⟨P,(T.take k++T.drop (k+1)),C,O,st,D⟩ from hR2)
  have HM:=hide True.intro
  clear hR2 hj1 hj2
  go_upto_region 10 with fail
  have hT0:Own yF 3 35 X2 X0.heap.size (.slice A2 nt k2) nt T:=by have h:=HS.o.e.t;simp only [←HN.o.2.1] at h;exact h
  obtain ⟨gt,cur,hA,hge,hbT,hcap⟩:=jY hT0 ht0
  subst hA
  obtain ⟨kk,hkk⟩:∃n:Nat,n=k+1:=⟨_,rfl⟩
  have w1:IntKind.i64.wrap ((k:Int)+1)=(kk:Int):=by rw [hkk];rw [IntWalk.i64_in _ (by omega)];omega
  have r1:∀V:World,(Instr.slice 22 (.slice (some ⟨gt,0,none⟩) nt k2) none (some (.int .i64 k)) none).run Tryz.prog V= .ok (.slice (some ⟨gt,0,none⟩) k k2) V:=fun V=>wE Tryz.underlying22 Tryz.sizeOf35 (by omega) hcap V
  have r2:∀V:World,(Instr.slice 22 (.slice (some ⟨gt,0,none⟩) nt k2) (some (.int .i64 kk)) none none).run Tryz.prog V= .ok (.slice (cutA (some ⟨gt,0,none⟩) k2 kk 3) (nt - kk) (k2 - kk)) V:=fun V=>kN Tryz.underlying22 Tryz.sizeOf35 (by omega) V
  have hOw:Own yF 3 35 X2.drew X0.heap.size (.slice (some ⟨gt,0,none⟩) nt k2) nt T:=by have h:=HS.o.e.t;simp only [←HN.o.2.1] at h;exact h.below ((Below.refl _ X2).drew) lr9
  have hSl:Sl yF 3 X2.drew X2.heap.size (cutA (some ⟨gt,0,none⟩) k2 kk 3) (T.drop kk):=(hOw.sl zS lr9).cut (by rw [←HN.o.2.1];omega) (by rw [←HN.o.2.1];exact hcap)
  have hdl:(T.drop kk).length=nt - kk:=by rw [List.length_drop,←HN.o.2.1]
  have HO:=hide (ai9 (hOw.take zS (m:=k) (by omega) (by simp)) (ai9 hSl (ai9 hdl hkk)))
  clear hOw hSl hdl hkk
  have HSB:=hide (show Below X2.heap.size X2 X2.drew from (Below.refl _ X2).drew)
  refine zB (fun W=>Below X2.heap.size X2 W) [0,1,2,3,4,5,6,7,8] [0,1,2,3,4,5,6,7,8,9,10,11] zL (by kernel_rfl) ?_
  refine zA (v:=(.pointer (some ⟨g5,1,none⟩))) rfl rfl (fun _ _ _ h=>h) HSB.o ⟨rfl,fun _ _=>by simp [go_sem]⟩ ?_
  refine zA (v:=(.slice (some ⟨gt,0,none⟩) nt k2)) rfl rfl (fun _ _ _ h=>h) HSB.o ⟨rfl,fun _ h'=>by have a0:=(h'.cell (p:=⟨g5,1,none⟩) hg5l).trans z1;simp [go_sem,a0]⟩ ?_
  refine zA (v:=(.int .i64 k)) rfl rfl (fun _ _ _ h=>h) HSB.o ⟨rfl,fun _ _=>by simp [go_sem]⟩ ?_
  refine zA (v:=(.slice (some ⟨gt,0,none⟩) k k2)) rfl rfl (fun _ _ _ h=>h) HSB.o ⟨rfl,fun _ _=>by simp [go_sem,r1]⟩ ?_
  refine zA (v:=(.pointer (some ⟨g5,1,none⟩))) rfl rfl (fun _ _ _ h=>h) HSB.o ⟨rfl,fun _ _=>by simp [go_sem]⟩ ?_
  refine zA (v:=(.slice (some ⟨gt,0,none⟩) nt k2)) rfl rfl (fun _ _ _ h=>h) HSB.o ⟨rfl,fun _ h'=>by have a0:=(h'.cell (p:=⟨g5,1,none⟩) hg5l).trans z1;simp [go_sem,a0]⟩ ?_
  simp only [List.getElem_toArray,List.getElem_cons_succ,List.getElem_cons_zero,Act.put,List.setIfInBounds_toArray,List.set_cons_succ,List.set_cons_zero]
  refine zA (v:=(.int .i64 k)) rfl rfl (fun _ _ _ h=>h) HSB.o ⟨rfl,fun _ _=>by simp [go_sem]⟩ ?_
  refine zA (v:=(.int .i64 kk)) rfl rfl (fun _ _ _ h=>h) HSB.o ⟨rfl,fun _ _=>by simp [go_sem,w1]⟩ ?_
  refine zA (v:=(.slice (cutA (some ⟨gt,0,none⟩) k2 kk 3) (nt - kk) (k2 - kk))) rfl rfl (fun _ _ _ h=>h) HSB.o ⟨rfl,fun _ _=>by simp [go_sem,r2]⟩ ?_
  simp only [List.getElem_toArray,List.getElem_cons_succ,List.getElem_cons_zero,Act.put,List.setIfInBounds_toArray,List.set_cons_succ,List.set_cons_zero]
  refine zJ _ [_,_,_] (by kernel_rfl) rfl ?_
  clear HSB r1 r2 w1
  refine zI rfl _ _ _ rfl Tryz.underlying22 fE rfl (by omega) zS vX rfl HO.o.1 (cutA (some ⟨gt,0,none⟩) k2 kk 3) (k2 - kk) X2.heap.size (T.drop kk) (by rw [HO.o.2.2.1];rfl) HO.o.2.1 (by rw [HO.o.2.2.1];unfold maxLen;omega) (by rw [HO.o.2.2.1];omega) (show X0.heap.size≤X2.heap.size from hXX) ?_
  intro v6 w6 hown6 hg6 hB6 hat6
  obtain ⟨n6,hn6⟩:∃n:Nat,n=k+(nt - kk):=⟨_,rfl⟩
  obtain ⟨A6,c6,rfl⟩:∃A c,v6= .slice A n6 c:=(by have h:=hown6.form;rw [HO.o.2.2.1,←hn6] at h;exact h)
  have hS6:=(HS.o.e.below ((Below.refl _ X2).drew)).ap_t (Q:=T.take k++T.drop kk) hg6 (by rw [List.length_append,List.length_take,←HN.o.2.1,show min k nt=k by omega];exact hown6)
  have h61:=(HS.o.e.b.below ((Below.refl _ X2).drew) HS.o.e.b.lt).grown hg6 (zF (HS.o.e.b.below ((Below.refl _ X2).drew) HS.o.e.b.lt) HO.o.1 (show (35:TypeId)≠32 by decide))
  have f6:=h61.frozen 1
  have hl6:=h61.lt
  have c7:=h61.cell 1
  rw [HO.o.2.2.2] at hS6
  have H6:=hide hS6
  clear hown6 hg6 hB6 hat6 hS6 h61
  go_upto_region 31 with fail
  obtain ⟨V,hV⟩:=ex9 (w6.setCell ⟨g5,1,none⟩ (.slice A6 n6 c6))
  try rw [←hn6]
  rw [←hV]
  have HF:=hide (show CtE X0 V g5 (.slice A1 np k1) (.slice A6 n6 c6) (.slice A3 nc k3) (.slice A4 no k4) (.slice A5 nd k5) ⟨P,(T.take k++T.drop (k+1)),C,O,st,D⟩ from by rw [hV];exact H6.o)
  clear hV H6 f6 hl6 c7 hn6
  clear z0 z1 z2 z3 z4 z5 hg5l y0 y1 y9 hg2l
  obtain ⟨z0,z1,z2,z3,z4,z5⟩:=HF.o.b.six9
  have hg5l:=HF.o.b.lt
  have hV2:=H0.o.2.1.below HF.o.bel H0.o.2.1.lt
  obtain ⟨e0,e1,e2,e3,e4,e5⟩:=hV2.six9
  have hg2l:=hV2.lt
  have f0:=hV2.frozen 0
  have f1:=hV2.frozen 1
  have f2:=hV2.frozen 2
  have f3:=hV2.frozen 3
  have f4:=hV2.frozen 4
  have f5:=hV2.frozen 5
  have HV:=hide hV2
  clear hV2
  go_wp2
  have hE:=(((((HV.o.set_ 0 (.slice A1 np k1)).set_ 1 (.slice A6 n6 c6)).set_ 2 (.slice A3 nc k3)).set_ 3 (.slice A4 no k4)).set_ 4 (.int .i64 st)).set_ 5 (.slice A5 nd k5)
  refine yX (v:= .agg (cMad (.slice A1 np k1) (.slice A6 n6 c6) (.slice A3 nc k3) (.slice A4 no k4) st (.slice A5 nd k5))) (fun W=>Blk W g4 32 (cMad (.slice A1 np k1) (.slice A6 n6 c6) (.slice A3 nc k3) (.slice A4 no k4) st (.slice A5 nd k5))) hE (fun W hW=> ?_) rfl ?_
  ·obtain ⟨a0,a1,a2,a3,a4,a5⟩:=hW.six9
   simp [results,Tryz.results16,go_sem,a0,a1,a2,a3,a4,a5]
   try trivial
  ·rw [HQ.o]
   exact HF.o.res H0.o.2.2.1 H0.o.2.2.2 H0.o.2.1.lt (yD g4 [(.slice A1 np k1),(.slice A6 n6 c6),(.slice A3 nc k3),(.slice A4 no k4), .int .i64 st,(.slice A5 nd k5)] V 0)
 ·skip
  have hR2:=HR.o
  have hj1:=HX.o.2.2.1
  have hj2:=HX.o.2.2.2
  rw [if_neg (show¬(3:Int)=0 by decide),if_neg (show¬(3:Int)=1 by decide),if_neg (show¬(3:Int)=2 by decide),if_pos rfl] at hR2
  obtain ⟨x1,x2,x3⟩:=x
  have HQ:=hide (show R=⟨P,(T.set k (x2,x1,x3)),C,O,st,D⟩ from hR2)
  have HM:=hide True.intro
  clear hR2 hj1 hj2
  go_upto_region 12 with fail
  have hT0:Own yF 3 35 X2 X0.heap.size (.slice A2 nt k2) nt T:=by have h:=HS.o.e.t;simp only [←HN.o.2.1] at h;exact h
  obtain ⟨gt,cur,hA,hge,hbT,hcap⟩:=jY hT0 ht0
  subst hA
  have i1:(k:Int) < (nt:Int):=by omega
  have hXd:=HX.o.1.1
  have hOw:Own yF 3 35 X2.drew X0.heap.size (.slice (some ⟨gt,0,none⟩) nt k2) nt T:=by have h:=HS.o.e.t;simp only [←HN.o.2.1] at h;exact h.below ((Below.refl _ X2).drew) lr9
  obtain ⟨b,o,hA,hb,d0,d1,d2⟩:=(show Sl yF 3 X2 X2.heap.size (some ⟨gt,0,none⟩) T from hT0.sl zS lr9).n3 hXd
  cases hA
  rw [Nat.zero_add] at d0 d1 d2
  dsimp only at d0 d1 d2
  have fr0:=hbT.frozen (k*3)
  have fr1:=hbT.frozen (k*3+1)
  have fr2:=hbT.frozen (k*3+2)
  have hgtl:=hbT.lt
  have HO:=hide (ai9 hOw hXd)
  clear hOw hXd hb
  have HSB:=hide (show Below X2.heap.size X2 X2.drew from (Below.refl _ X2).drew)
  refine zB (fun W=>Below X2.heap.size X2 W) [0,1,2,3,4,5,6,7,8,9,10,11,12,13,14,15,16,17,18,19,20,21,22] [0,1,2,3,4,5,6,7,8,9,10,11,12,13,14,15,16,17,18,19,20,21,22,23] zL (by kernel_rfl) ?_
  refine zA (v:=(.pointer (some ⟨g5,1,none⟩))) rfl rfl (fun _ _ _ h=>h) HSB.o ⟨rfl,fun _ _=>by simp [go_sem]⟩ ?_
  refine zA (v:=(.slice (some ⟨gt,0,none⟩) nt k2)) rfl rfl (fun _ _ _ h=>h) HSB.o ⟨rfl,fun _ h'=>by have a0:=(h'.cell (p:=⟨g5,1,none⟩) hg5l).trans z1;simp [go_sem,a0]⟩ ?_
  refine zA (v:=(.int .i64 k)) rfl rfl (fun _ _ _ h=>h) HSB.o ⟨rfl,fun _ _=>by simp [go_sem]⟩ ?_
  refine zA (v:=(.pointer (some ⟨g5,1,none⟩))) rfl rfl (fun _ _ _ h=>h) HSB.o ⟨rfl,fun _ _=>by simp [go_sem]⟩ ?_
  refine zA (v:=(.slice (some ⟨gt,0,none⟩) nt k2)) rfl rfl (fun _ _ _ h=>h) HSB.o ⟨rfl,fun _ h'=>by have a0:=(h'.cell (p:=⟨g5,1,none⟩) hg5l).trans z1;simp [go_sem,a0]⟩ ?_
  refine zA (v:=(.int .i64 k)) rfl rfl (fun _ _ _ h=>h) HSB.o ⟨rfl,fun _ _=>by simp [go_sem]⟩ ?_
  simp only [List.getElem_toArray,List.getElem_cons_succ,List.getElem_cons_zero,Act.put,List.setIfInBounds_toArray,List.set_cons_succ,List.set_cons_zero]
  refine zA (v:=(.pointer (some ⟨gt,k*3,none⟩))) rfl rfl (fun _ _ _ h=>h) HSB.o ⟨rfl,fun _ _=>by simp [go_sem,i1]⟩ ?_
  refine zA (v:=(.pointer (some ⟨gt,k*3+1,none⟩))) rfl rfl (fun _ _ _ h=>h) HSB.o ⟨rfl,fun _ _=>by simp [go_sem]⟩ ?_
  refine zA (v:=(.int .i64 x2)) rfl rfl (fun _ _ _ h=>h) HSB.o ⟨rfl,fun _ h'=>by have a0:=(h'.cell (p:=⟨gt,k*3+1,none⟩) hgtl).trans d1;simp [go_sem,a0]⟩ ?_
  refine zA (v:=(.pointer (some ⟨g5,1,none⟩))) rfl rfl (fun _ _ _ h=>h) HSB.o ⟨rfl,fun _ _=>by simp [go_sem]⟩ ?_
  refine zA (v:=(.slice (some ⟨gt,0,none⟩) nt k2)) rfl rfl (fun _ _ _ h=>h) HSB.o ⟨rfl,fun _ h'=>by have a0:=(h'.cell (p:=⟨g5,1,none⟩) hg5l).trans z1;simp [go_sem,a0]⟩ ?_
  refine zA (v:=(.int .i64 k)) rfl rfl (fun _ _ _ h=>h) HSB.o ⟨rfl,fun _ _=>by simp [go_sem]⟩ ?_
  simp only [List.getElem_toArray,List.getElem_cons_succ,List.getElem_cons_zero,Act.put,List.setIfInBounds_toArray,List.set_cons_succ,List.set_cons_zero]
  refine zA (v:=(.pointer (some ⟨gt,k*3,none⟩))) rfl rfl (fun _ _ _ h=>h) HSB.o ⟨rfl,fun _ _=>by simp [go_sem,i1]⟩ ?_
  refine zA (v:=(.pointer (some ⟨gt,k*3,none⟩))) rfl rfl (fun _ _ _ h=>h) HSB.o ⟨rfl,fun _ _=>by simp [go_sem]⟩ ?_
  refine zA (v:=(.int .i64 x1)) rfl rfl (fun _ _ _ h=>h) HSB.o ⟨rfl,fun _ h'=>by have a0:=(h'.cell (p:=⟨gt,k*3,none⟩) hgtl).trans d0;simp [go_sem,a0]⟩ ?_
  refine zA (v:=(.pointer (some ⟨g5,1,none⟩))) rfl rfl (fun _ _ _ h=>h) HSB.o ⟨rfl,fun _ _=>by simp [go_sem]⟩ ?_
  refine zA (v:=(.slice (some ⟨gt,0,none⟩) nt k2)) rfl rfl (fun _ _ _ h=>h) HSB.o ⟨rfl,fun _ h'=>by have a0:=(h'.cell (p:=⟨g5,1,none⟩) hg5l).trans z1;simp [go_sem,a0]⟩ ?_
  refine zA (v:=(.int .i64 k)) rfl rfl (fun _ _ _ h=>h) HSB.o ⟨rfl,fun _ _=>by simp [go_sem]⟩ ?_
  simp only [List.getElem_toArray,List.getElem_cons_succ,List.getElem_cons_zero,Act.put,List.setIfInBounds_toArray,List.set_cons_succ,List.set_cons_zero]
  refine zA (v:=(.pointer (some ⟨gt,k*3,none⟩))) rfl rfl (fun _ _ _ h=>h) HSB.o ⟨rfl,fun _ _=>by simp [go_sem,i1]⟩ ?_
  refine zA (v:=(.pointer (some ⟨gt,k*3+2,none⟩))) rfl rfl (fun _ _ _ h=>h) HSB.o ⟨rfl,fun _ _=>by simp [go_sem]⟩ ?_
  refine zA (v:=(.int .i64 x3)) rfl rfl (fun _ _ _ h=>h) HSB.o ⟨rfl,fun _ h'=>by have a0:=(h'.cell (p:=⟨gt,k*3+2,none⟩) hgtl).trans d2;simp [go_sem,a0]⟩ ?_
  refine zA (v:=(.agg #[.int .i64 x2, .int .i64 x1, .int .i64 x3])) rfl rfl (fun _ _ _ h=>h) HSB.o ⟨rfl,fun _ _=>by simp [go_sem]⟩ ?_
  refine zA (v:=(.pointer (some ⟨gt,k*3,none⟩))) rfl rfl (fun _ _ _ h=>h) HSB.o ⟨rfl,fun _ _=>by simp [go_sem,i1]⟩ ?_
  simp only [List.getElem_toArray,List.getElem_cons_succ,List.getElem_cons_zero,Act.put,List.setIfInBounds_toArray,List.set_cons_succ,List.set_cons_zero]
  refine zJ _ [_] (by kernel_rfl) rfl ?_
  clear HSB
  go_upto_region 31 with fail
  obtain ⟨V,hV⟩:=ex9 ((((X2.setCell ⟨gt,k*3,none⟩ (.int .i64 x2)).setCell ⟨gt,k*3+1,none⟩ (.int .i64 x1)).setCell ⟨gt,k*3+2,none⟩ (.int .i64 x3)).drew)
  rw [←hV]
  have HF:=hide (show CtE X0 V g5 (.slice A1 np k1) (.slice (some ⟨gt,0,none⟩) nt k2) (.slice A3 nc k3) (.slice A4 no k4) (.slice A5 nd k5) ⟨P,T.set k (x2,x1,x3),C,O,st,D⟩ from by
   have h1:=HO.o.1.setW zS (i:=k) (by rw [←HN.o.2.1];exact hkl) ((x2,x1,x3):Pt)
   have h2:=(HS.o.e.below ((Below.refl _ X2).drew)).in_t (Q:=T.set k (x2,x1,x3)) (yD gt (yF (x2,x1,x3)) X2.drew (k*3)) (by rw [List.length_set,←HN.o.2.1];exact h1)
   rw [hV]
   exact h2)
  clear hV i1 fr0 fr1 fr2 hgtl d0 d1 d2
  clear z0 z1 z2 z3 z4 z5 hg5l y0 y1 y9 hg2l
  obtain ⟨z0,z1,z2,z3,z4,z5⟩:=HF.o.b.six9
  have hg5l:=HF.o.b.lt
  have hV2:=H0.o.2.1.below HF.o.bel H0.o.2.1.lt
  obtain ⟨e0,e1,e2,e3,e4,e5⟩:=hV2.six9
  have hg2l:=hV2.lt
  have f0:=hV2.frozen 0
  have f1:=hV2.frozen 1
  have f2:=hV2.frozen 2
  have f3:=hV2.frozen 3
  have f4:=hV2.frozen 4
  have f5:=hV2.frozen 5
  have HV:=hide hV2
  clear hV2
  go_wp2
  have hE:=(((((HV.o.set_ 0 (.slice A1 np k1)).set_ 1 (.slice (some ⟨gt,0,none⟩) nt k2)).set_ 2 (.slice A3 nc k3)).set_ 3 (.slice A4 no k4)).set_ 4 (.int .i64 st)).set_ 5 (.slice A5 nd k5)
  refine yX (v:= .agg (cMad (.slice A1 np k1) (.slice (some ⟨gt,0,none⟩) nt k2) (.slice A3 nc k3) (.slice A4 no k4) st (.slice A5 nd k5))) (fun W=>Blk W g4 32 (cMad (.slice A1 np k1) (.slice (some ⟨gt,0,none⟩) nt k2) (.slice A3 nc k3) (.slice A4 no k4) st (.slice A5 nd k5))) hE (fun W hW=> ?_) rfl ?_
  ·obtain ⟨a0,a1,a2,a3,a4,a5⟩:=hW.six9
   simp [results,Tryz.results16,go_sem,a0,a1,a2,a3,a4,a5]
   try trivial
  ·rw [HQ.o]
   exact HF.o.res H0.o.2.2.1 H0.o.2.2.2 H0.o.2.1.lt (yD g4 [(.slice A1 np k1),(.slice (some ⟨gt,0,none⟩) nt k2),(.slice A3 nc k3),(.slice A4 no k4), .int .i64 st,(.slice A5 nd k5)] V 0)
 ·skip
  have hR2:=HR.o
  have hj1:=HX.o.2.2.1
  have hj2:=HX.o.2.2.2
  rw [if_neg (show¬(4:Int)=0 by decide),if_neg (show¬(4:Int)=1 by decide),if_neg (show¬(4:Int)=2 by decide),if_neg (show¬(4:Int)=3 by decide),if_pos rfl] at hR2
  obtain ⟨n1,hn1⟩:=ex9 ((np:Int)+1)
  have bn:0 < n1∧n1≤1000000:=by omega
  have w1:IntKind.i64.wrap n1=n1:=IntWalk.i64_in _ (by omega)
  have t1:(np:Int)+1=n1:=hn1.symm
  have km:=fun W=>yA q3 n1 bn.1 (by omega) W
  obtain ⟨e1,he1⟩:=ex9 (q3 % n1)
  have eb:0≤e1∧e1 < n1:=by rw [he1];exact ⟨Int.emod_nonneg _ (by omega),Int.emod_lt_of_pos _ bn.1⟩
  simp only [←he1] at km
  have km2:=fun W=>yA q2 (np:Int) (by omega) (by omega) W
  rw [hj2] at km2
  rw [t1] at hR2
  rw [←he1] at hR2
  rw [hj2] at hR2
  have HQ:=hide (show R=⟨P,T,(C++ [(e1,(i2:Int))]),O,st,D⟩ from hR2)
  have HM:=hide (ai9 km km2)
  clear hR2 hj1 hj2 km km2 he1 hn1
  go_upto_region 14 with fail
  have hOw:Own yH 2 56 X2.drew X0.heap.size (.slice A3 nc k3) nc C:=by have h:=HS.o.e.cr;simp only [←HN.o.2.2.1] at h;exact h.below ((Below.refl _ X2).drew) lr9
  have HO:=hide hOw
  clear hOw
  have HSB:=hide (show Below X2.heap.size X2 X2.drew from (Below.refl _ X2).drew)
  refine zB (fun W=>Below X2.heap.size X2 W) [0,1,2,3,4,5,6,8,9,10,11,12,14] [0,1,2,3,4,5,6,8,9,10,11,12,7,13,14,15,16,17,18] zL (by kernel_rfl) ?_
  refine zA (v:=(.pointer (some ⟨g5,2,none⟩))) rfl rfl (fun _ _ _ h=>h) HSB.o ⟨rfl,fun _ _=>by simp [go_sem]⟩ ?_
  refine zA (v:=(.slice A3 nc k3)) rfl rfl (fun _ _ _ h=>h) HSB.o ⟨rfl,fun _ h'=>by have a0:=(h'.cell (p:=⟨g5,2,none⟩) hg5l).trans z2;simp [go_sem,a0]⟩ ?_
  refine zA (v:=(.int .i64 q3)) rfl rfl (fun _ _ _ h=>h) HSB.o ⟨rfl,fun _ _=>by simp [go_sem]⟩ ?_
  refine zA (v:=(.pointer (some ⟨g5,0,none⟩))) rfl rfl (fun _ _ _ h=>h) HSB.o ⟨rfl,fun _ _=>by simp [go_sem]⟩ ?_
  refine zA (v:=(.slice A1 np k1)) rfl rfl (fun _ _ _ h=>h) HSB.o ⟨rfl,fun _ h'=>by have a0:=(h'.cell (p:=⟨g5,0,none⟩) hg5l).trans z0;simp [go_sem,a0]⟩ ?_
  refine zA (v:=(.int .i64 np)) rfl rfl (fun _ _ _ h=>h) HSB.o ⟨rfl,fun _ _=>by simp [go_sem,Builtin.lenOf]⟩ ?_
  simp only [List.getElem_toArray,List.getElem_cons_succ,List.getElem_cons_zero,Act.put,List.setIfInBounds_toArray,List.set_cons_succ,List.set_cons_zero]
  refine zA (v:=(.int .i64 n1)) rfl rfl (fun _ _ _ h=>h) HSB.o ⟨rfl,fun _ _=>by simp [go_sem,t1,w1]⟩ ?_
  refine zA (v:=(.pointer (some ⟨g2,1,none⟩))) rfl rfl (fun _ _ _ h=>h) HSB.o ⟨rfl,fun _ _=>by simp [go_sem]⟩ ?_
  refine zA (v:=(.int .i64 q2)) rfl rfl (fun _ _ _ h=>h) HSB.o ⟨rfl,fun _ h'=>by have a0:=(h'.cell (p:=⟨g2,1,none⟩) hg2l).trans y1;simp [go_sem,a0]⟩ ?_
  refine zA (v:=(.pointer (some ⟨g5,0,none⟩))) rfl rfl (fun _ _ _ h=>h) HSB.o ⟨rfl,fun _ _=>by simp [go_sem]⟩ ?_
  refine zA (v:=(.slice A1 np k1)) rfl rfl (fun _ _ _ h=>h) HSB.o ⟨rfl,fun _ h'=>by have a0:=(h'.cell (p:=⟨g5,0,none⟩) hg5l).trans z0;simp [go_sem,a0]⟩ ?_
  refine zA (v:=(.int .i64 np)) rfl rfl (fun _ _ _ h=>h) HSB.o ⟨rfl,fun _ _=>by simp [go_sem,Builtin.lenOf]⟩ ?_
  simp only [List.getElem_toArray,List.getElem_cons_succ,List.getElem_cons_zero,Act.put,List.setIfInBounds_toArray,List.set_cons_succ,List.set_cons_zero]
  refine zD rfl rfl ?_
  go_wp2_with fail
  refine (HM.o.1 X2.drew).mono ?_
  rintro e W1 ⟨rfl,rfl⟩
  go_wp2_with fail
  refine ⟨fun _=>HSB.o,?_⟩
  refine zD rfl rfl ?_
  go_wp2_with fail
  refine (HM.o.2 X2.drew).mono ?_
  rintro e W1 ⟨rfl,rfl⟩
  go_wp2_with fail
  refine ⟨fun _=>HSB.o,?_⟩
  refine zA (v:=(.agg #[.int .i64 e1, .int .i64 i2])) rfl rfl (fun _ _ _ h=>h) HSB.o ⟨rfl,fun _ _=>by simp [go_sem]⟩ ?_
  simp only [List.getElem_toArray,List.getElem_cons_succ,List.getElem_cons_zero,Act.put,List.setIfInBounds_toArray,List.set_cons_succ,List.set_cons_zero]
  refine zD rfl rfl ?_
  go_wp2_with fail
  refine ⟨fun _=>HSB.o.alloc lr9 _,?_⟩
  refine zJ _ [_,_,_] (by kernel_rfl) rfl ?_
  have hal:Below X2.heap.size X2 (X2.drew.alloc (.cells #[.int .i64 e1, .int .i64 i2] 56)):=(Below.refl _ X2).drew.alloc lr9 _
  have hal2:Below X2.heap.size X2.drew (X2.drew.alloc (.cells #[.int .i64 e1, .int .i64 i2] 56)):=(Below.refl _ X2.drew).alloc lr9 _
  refine zC rfl _ _ _ rfl Tryz.underlying29 jB rfl (by omega) zU yO rfl (HO.o.below hal2 lr9) X2.heap.size 1 ((e1,(i2:Int)):E2) rfl (Blk.new _ _ _) (by unfold maxLen;omega) (by omega) (Nat.le_trans hXX hal.size) ?_
  intro g6 cap6 w6 hown6 hg6 hB6 hat6 hgb6 hlt6
  have hS6:=(HS.o.e.below hal).ap_cr (Q:=C++ [((e1,(i2:Int)):E2)]) hg6 (by rw [List.length_append,List.length_singleton,←HN.o.2.2.1];exact hown6)
  have h61:=(HS.o.e.b.below hal HS.o.e.b.lt).grown hg6 (zF (HS.o.e.b.below hal HS.o.e.b.lt) (HO.o.below hal2 lr9) (show (56:TypeId)≠32 by decide))
  have f6:=h61.frozen 2
  have hl6:=h61.lt
  have c7:=h61.cell 2
  have H6:=hide hS6
  clear hown6 hg6 hB6 hat6 hgb6 hlt6 hS6 h61 hal hal2 HSB
  go_upto_region 31 with fail
  obtain ⟨V,hV⟩:=ex9 (w6.setCell ⟨g5,2,none⟩ (.slice (some ⟨g6,0,none⟩) (nc+1) cap6))
  rw [←hV]
  have HF:=hide (show CtE X0 V g5 (.slice A1 np k1) (.slice A2 nt k2) (.slice (some ⟨g6,0,none⟩) (nc+1) cap6) (.slice A4 no k4) (.slice A5 nd k5) ⟨P,T,C++ [(e1,(i2:Int))],O,st,D⟩ from by rw [hV];exact H6.o)
  clear hV H6 f6 hl6 c7 w1 t1
  clear z0 z1 z2 z3 z4 z5 hg5l y0 y1 y9 hg2l
  obtain ⟨z0,z1,z2,z3,z4,z5⟩:=HF.o.b.six9
  have hg5l:=HF.o.b.lt
  have hV2:=H0.o.2.1.below HF.o.bel H0.o.2.1.lt
  obtain ⟨e0,e1,e2,e3,e4,e5⟩:=hV2.six9
  have hg2l:=hV2.lt
  have f0:=hV2.frozen 0
  have f1:=hV2.frozen 1
  have f2:=hV2.frozen 2
  have f3:=hV2.frozen 3
  have f4:=hV2.frozen 4
  have f5:=hV2.frozen 5
  have HV:=hide hV2
  clear hV2
  go_wp2
  have hE:=(((((HV.o.set_ 0 (.slice A1 np k1)).set_ 1 (.slice A2 nt k2)).set_ 2 (.slice (some ⟨g6,0,none⟩) (nc+1) cap6)).set_ 3 (.slice A4 no k4)).set_ 4 (.int .i64 st)).set_ 5 (.slice A5 nd k5)
  refine yX (v:= .agg (cMad (.slice A1 np k1) (.slice A2 nt k2) (.slice (some ⟨g6,0,none⟩) (nc+1) cap6) (.slice A4 no k4) st (.slice A5 nd k5))) (fun W=>Blk W g4 32 (cMad (.slice A1 np k1) (.slice A2 nt k2) (.slice (some ⟨g6,0,none⟩) (nc+1) cap6) (.slice A4 no k4) st (.slice A5 nd k5))) hE (fun W hW=> ?_) rfl ?_
  ·obtain ⟨a0,a1,a2,a3,a4,a5⟩:=hW.six9
   simp [results,Tryz.results16,go_sem,a0,a1,a2,a3,a4,a5]
   try trivial
  ·rw [HQ.o]
   exact HF.o.res H0.o.2.2.1 H0.o.2.2.2 H0.o.2.1.lt (yD g4 [(.slice A1 np k1),(.slice A2 nt k2),(.slice (some ⟨g6,0,none⟩) (nc+1) cap6),(.slice A4 no k4), .int .i64 st,(.slice A5 nd k5)] V 0)
 ·skip
  have hR2:=HR.o
  have hj1:=HX.o.2.2.1
  have hj2:=HX.o.2.2.2
  rw [if_neg (show¬(5:Int)=0 by decide),if_neg (show¬(5:Int)=1 by decide),if_neg (show¬(5:Int)=2 by decide),if_neg (show¬(5:Int)=3 by decide),if_neg (show¬(5:Int)=4 by decide),if_pos rfl] at hR2
  obtain ⟨n1,hn1⟩:=ex9 ((np:Int)+2)
  have bn:0 < n1∧n1≤1000000:=by omega
  have w1:IntKind.i64.wrap n1=n1:=IntWalk.i64_in _ (by omega)
  have t1:(np:Int)+2=n1:=hn1.symm
  have km:=fun W=>yA q3 n1 bn.1 (by omega) W
  obtain ⟨e1,he1⟩:=ex9 (q3 % n1)
  have eb:0≤e1∧e1 < n1:=by rw [he1];exact ⟨Int.emod_nonneg _ (by omega),Int.emod_lt_of_pos _ bn.1⟩
  simp only [←he1] at km
  obtain ⟨v,hv⟩:=ex9 (e1 - 1)
  have w2:IntKind.i64.wrap (e1 - 1)=v:=by rw [hv];exact IntWalk.i64_in _ (by omega)
  rw [t1] at hR2
  rw [←he1] at hR2
  rw [←hv] at hR2
  have HQ:=hide (show R=⟨P,T,C,(O++ [v]),st,D⟩ from hR2)
  have HM:=hide (ai9 km True.intro)
  clear hR2 hj1 hj2 km he1 hn1 hv
  go_upto_region 16 with fail
  have hOw:Own xH 1 3 X2.drew X0.heap.size (.slice A4 no k4) no O:=by have h:=HS.o.e.o;simp only [←HN.o.2.2.2.1] at h;exact h.below ((Below.refl _ X2).drew) lr9
  have HO:=hide hOw
  clear hOw
  have HSB:=hide (show Below X2.heap.size X2 X2.drew from (Below.refl _ X2).drew)
  refine zB (fun W=>Below X2.heap.size X2 W) [0,1,2,3,4,5,6,8] [0,1,2,3,4,5,6,7,8,9,10,11,12] zL (by kernel_rfl) ?_
  refine zA (v:=(.pointer (some ⟨g5,3,none⟩))) rfl rfl (fun _ _ _ h=>h) HSB.o ⟨rfl,fun _ _=>by simp [go_sem]⟩ ?_
  refine zA (v:=(.slice A4 no k4)) rfl rfl (fun _ _ _ h=>h) HSB.o ⟨rfl,fun _ h'=>by have a0:=(h'.cell (p:=⟨g5,3,none⟩) hg5l).trans z3;simp [go_sem,a0]⟩ ?_
  refine zA (v:=(.int .i64 q3)) rfl rfl (fun _ _ _ h=>h) HSB.o ⟨rfl,fun _ _=>by simp [go_sem]⟩ ?_
  refine zA (v:=(.pointer (some ⟨g5,0,none⟩))) rfl rfl (fun _ _ _ h=>h) HSB.o ⟨rfl,fun _ _=>by simp [go_sem]⟩ ?_
  refine zA (v:=(.slice A1 np k1)) rfl rfl (fun _ _ _ h=>h) HSB.o ⟨rfl,fun _ h'=>by have a0:=(h'.cell (p:=⟨g5,0,none⟩) hg5l).trans z0;simp [go_sem,a0]⟩ ?_
  refine zA (v:=(.int .i64 np)) rfl rfl (fun _ _ _ h=>h) HSB.o ⟨rfl,fun _ _=>by simp [go_sem,Builtin.lenOf]⟩ ?_
  simp only [List.getElem_toArray,List.getElem_cons_succ,List.getElem_cons_zero,Act.put,List.setIfInBounds_toArray,List.set_cons_succ,List.set_cons_zero]
  refine zA (v:=(.int .i64 n1)) rfl rfl (fun _ _ _ h=>h) HSB.o ⟨rfl,fun _ _=>by simp [go_sem,t1,w1]⟩ ?_
  simp only [List.getElem_toArray,List.getElem_cons_succ,List.getElem_cons_zero,Act.put,List.setIfInBounds_toArray,List.set_cons_succ,List.set_cons_zero]
  refine zD rfl rfl ?_
  go_wp2_with fail
  refine (HM.o.1 X2.drew).mono ?_
  rintro e W1 ⟨rfl,rfl⟩
  go_wp2_with fail
  refine ⟨fun _=>HSB.o,?_⟩
  refine zA (v:=(.int .i64 v)) rfl rfl (fun _ _ _ h=>h) HSB.o ⟨rfl,fun _ _=>by simp [go_sem,w2]⟩ ?_
  simp only [List.getElem_toArray,List.getElem_cons_succ,List.getElem_cons_zero,Act.put,List.setIfInBounds_toArray,List.set_cons_succ,List.set_cons_zero]
  refine zD rfl rfl ?_
  go_wp2_with fail
  refine ⟨fun _=>HSB.o.alloc lr9 _,?_⟩
  refine zJ _ [_,_,_] (by kernel_rfl) rfl ?_
  have hal:Below X2.heap.size X2 (X2.drew.alloc (.cells #[.int .i64 v] 3)):=(Below.refl _ X2).drew.alloc lr9 _
  have hal2:Below X2.heap.size X2.drew (X2.drew.alloc (.cells #[.int .i64 v] 3)):=(Below.refl _ X2.drew).alloc lr9 _
  refine zC rfl _ _ _ rfl Tryz.underlying23 zD1 rfl (by omega) xP uF rfl (HO.o.below hal2 lr9) X2.heap.size 1 (v:Int) rfl (Blk.new _ _ _) (by unfold maxLen;omega) (by omega) (Nat.le_trans hXX hal.size) ?_
  intro g6 cap6 w6 hown6 hg6 hB6 hat6 hgb6 hlt6
  have hS6:=(HS.o.e.below hal).ap_o (Q:=O++ [(v:Int)]) hg6 (by rw [List.length_append,List.length_singleton,←HN.o.2.2.2.1];exact hown6)
  have h61:=(HS.o.e.b.below hal HS.o.e.b.lt).grown hg6 (zF (HS.o.e.b.below hal HS.o.e.b.lt) (HO.o.below hal2 lr9) (show (3:TypeId)≠32 by decide))
  have f6:=h61.frozen 3
  have hl6:=h61.lt
  have c7:=h61.cell 3
  have H6:=hide hS6
  clear hown6 hg6 hB6 hat6 hgb6 hlt6 hS6 h61 hal hal2 HSB
  go_upto_region 31 with fail
  obtain ⟨V,hV⟩:=ex9 (w6.setCell ⟨g5,3,none⟩ (.slice (some ⟨g6,0,none⟩) (no+1) cap6))
  rw [←hV]
  have HF:=hide (show CtE X0 V g5 (.slice A1 np k1) (.slice A2 nt k2) (.slice A3 nc k3) (.slice (some ⟨g6,0,none⟩) (no+1) cap6) (.slice A5 nd k5) ⟨P,T,C,O++ [v],st,D⟩ from by rw [hV];exact H6.o)
  clear hV H6 f6 hl6 c7 w1 w2 t1
  clear z0 z1 z2 z3 z4 z5 hg5l y0 y1 y9 hg2l
  obtain ⟨z0,z1,z2,z3,z4,z5⟩:=HF.o.b.six9
  have hg5l:=HF.o.b.lt
  have hV2:=H0.o.2.1.below HF.o.bel H0.o.2.1.lt
  obtain ⟨e0,e1,e2,e3,e4,e5⟩:=hV2.six9
  have hg2l:=hV2.lt
  have f0:=hV2.frozen 0
  have f1:=hV2.frozen 1
  have f2:=hV2.frozen 2
  have f3:=hV2.frozen 3
  have f4:=hV2.frozen 4
  have f5:=hV2.frozen 5
  have HV:=hide hV2
  clear hV2
  go_wp2
  have hE:=(((((HV.o.set_ 0 (.slice A1 np k1)).set_ 1 (.slice A2 nt k2)).set_ 2 (.slice A3 nc k3)).set_ 3 (.slice (some ⟨g6,0,none⟩) (no+1) cap6)).set_ 4 (.int .i64 st)).set_ 5 (.slice A5 nd k5)
  refine yX (v:= .agg (cMad (.slice A1 np k1) (.slice A2 nt k2) (.slice A3 nc k3) (.slice (some ⟨g6,0,none⟩) (no+1) cap6) st (.slice A5 nd k5))) (fun W=>Blk W g4 32 (cMad (.slice A1 np k1) (.slice A2 nt k2) (.slice A3 nc k3) (.slice (some ⟨g6,0,none⟩) (no+1) cap6) st (.slice A5 nd k5))) hE (fun W hW=> ?_) rfl ?_
  ·obtain ⟨a0,a1,a2,a3,a4,a5⟩:=hW.six9
   simp [results,Tryz.results16,go_sem,a0,a1,a2,a3,a4,a5]
   try trivial
  ·rw [HQ.o]
   exact HF.o.res H0.o.2.2.1 H0.o.2.2.2 H0.o.2.1.lt (yD g4 [(.slice A1 np k1),(.slice A2 nt k2),(.slice A3 nc k3),(.slice (some ⟨g6,0,none⟩) (no+1) cap6), .int .i64 st,(.slice A5 nd k5)] V 0)
 ·skip
  have hR2:=HR.o
  have hj1:=HX.o.2.2.1
  have hj2:=HX.o.2.2.2
  rw [if_neg (show¬(6:Int)=0 by decide),if_neg (show¬(6:Int)=1 by decide),if_neg (show¬(6:Int)=2 by decide),if_neg (show¬(6:Int)=3 by decide),if_neg (show¬(6:Int)=4 by decide),if_neg (show¬(6:Int)=5 by decide),if_pos rfl] at hR2
  obtain ⟨sn,hsn⟩:∃n:Nat,n=(st % 5).toNat:=⟨_,rfl⟩
  have hs5:st % 5=(sn:Int):=by omega
  have hs4:sn≤4:=by omega
  have ks:=fun W=>yA st 5 (by decide) (by decide) W
  rw [hs5] at ks
  have kw:=fun W=>uG sn hs4 W
  obtain ⟨pw,hpw⟩:∃p:Int,p=16^sn:=⟨_,rfl⟩
  simp only [←hpw] at kw
  have pwb:1≤pw∧pw≤65536:=by
   have hc:sn=0∨sn=1∨sn=2∨sn=3∨sn=4:=by omega
   rw [hpw]
   rcases hc with rfl | rfl | rfl | rfl | rfl <;>decide
  have km:=fun W=>yA q3 (np:Int) (by omega) (by omega) W
  rw [hj1] at km
  have k2m:=fun W=>yA q2 2 (by decide) (by decide) W
  obtain ⟨b2,hb2⟩:=ex9 (q2 % 2)
  have b2b:0≤b2∧b2 < 2:=by omega
  simp only [←hb2] at k2m
  obtain ⟨mx,hmx⟩:∃m:Int,m=2097151 / pw:=⟨_,rfl⟩
  have mxb:0≤mx∧mx≤2097151:=by rw [hmx];exact ⟨Int.ediv_nonneg (by decide) (by omega),Int.ediv_le_self _ (by decide)⟩
  have dv:(2097151:Int).tdiv pw=mx:=by rw [hmx];exact Int.tdiv_eq_ediv_of_nonneg (by decide)
  have pn0:¬pw=0:=by omega
  obtain ⟨v,hv⟩:=ex9 (mx+b2)
  have w2:IntKind.i64.wrap (mx+b2)=v:=by rw [hv];exact IntWalk.i64_in _ (by omega)
  have w1:IntKind.i64.wrap mx=mx:=IntWalk.i64_in _ (by omega)
  rw [←hsn] at hR2
  rw [←hpw] at hR2
  rw [←hb2] at hR2
  rw [←hmx] at hR2
  rw [←hv] at hR2
  have HQ:=hide (show R=⟨(P.set i1 (y.1,v,y.2.2)),T,C,O,st,D⟩ from hR2)
  have HM:=hide (ai9 km (ai9 ks (ai9 kw k2m)))
  clear hR2 hj1 hj2 km ks kw k2m hsn hs5 hpw hb2 hmx hv
  go_upto_region 18 with fail
  have hP0:Own encP 3 43 X2 X0.heap.size (.slice A1 np k1) np P:=by have h:=HS.o.e.p;simp only [←HN.o.1] at h;exact h
  obtain ⟨gp,cur,hA,hge,hbT,hcap⟩:=jY hP0 hp0
  subst hA
  have i1l:(i1:Int) < (np:Int):=by omega
  have i2l:(i2:Int) < (np:Int):=by omega
  have hOw:Own encP 3 43 X2.drew X0.heap.size (.slice (some ⟨gp,0,none⟩) np k1) np P:=by have h:=HS.o.e.p;simp only [←HN.o.1] at h;exact h.below ((Below.refl _ X2).drew) lr9
  have hSP:Sl encP 3 X2 X2.heap.size (some ⟨gp,0,none⟩) P:=hP0.sl zO lr9
  obtain ⟨b,o,hA,hb,d0,d1,d2⟩:=hSP.pt4 HX.o.1.2.1
  cases hA
  rw [Nat.zero_add] at d0 d1 d2
  obtain ⟨b,o,hA,hb,c0,c1,c2⟩:=hSP.pt4 HX.o.1.2.2
  cases hA
  rw [Nat.zero_add] at c0 c1 c2
  have hgpl:=hbT.lt
  have HO:=hide hOw
  clear hOw hSP hb
  have frT:=hbT.frozen (i1*3+1)
  have HSB:=hide (show Below X2.heap.size X2 X2.drew from (Below.refl _ X2).drew)
  refine zB (fun W=>Below X2.heap.size X2 W) [0,1,2,3,4,5,7,8,11,12,13,15,16,17] [0,1,2,3,4,5,7,8,12,13,6,9,10,11,14,15,16,17,18] zL (by kernel_rfl) ?_
  refine zA (v:=(.pointer (some ⟨g5,0,none⟩))) rfl rfl (fun _ _ _ h=>h) HSB.o ⟨rfl,fun _ _=>by simp [go_sem]⟩ ?_
  refine zA (v:=(.slice (some ⟨gp,0,none⟩) np k1)) rfl rfl (fun _ _ _ h=>h) HSB.o ⟨rfl,fun _ h'=>by have a0:=(h'.cell (p:=⟨g5,0,none⟩) hg5l).trans z0;simp [go_sem,a0]⟩ ?_
  refine zA (v:=(.int .i64 q3)) rfl rfl (fun _ _ _ h=>h) HSB.o ⟨rfl,fun _ _=>by simp [go_sem]⟩ ?_
  refine zA (v:=(.pointer (some ⟨g5,0,none⟩))) rfl rfl (fun _ _ _ h=>h) HSB.o ⟨rfl,fun _ _=>by simp [go_sem]⟩ ?_
  refine zA (v:=(.slice (some ⟨gp,0,none⟩) np k1)) rfl rfl (fun _ _ _ h=>h) HSB.o ⟨rfl,fun _ h'=>by have a0:=(h'.cell (p:=⟨g5,0,none⟩) hg5l).trans z0;simp [go_sem,a0]⟩ ?_
  refine zA (v:=(.int .i64 np)) rfl rfl (fun _ _ _ h=>h) HSB.o ⟨rfl,fun _ _=>by simp [go_sem,Builtin.lenOf]⟩ ?_
  simp only [List.getElem_toArray,List.getElem_cons_succ,List.getElem_cons_zero,Act.put,List.setIfInBounds_toArray,List.set_cons_succ,List.set_cons_zero]
  refine zA (v:=(.pointer (some ⟨g5,4,none⟩))) rfl rfl (fun _ _ _ h=>h) HSB.o ⟨rfl,fun _ _=>by simp [go_sem]⟩ ?_
  refine zA (v:=(.int .i64 st)) rfl rfl (fun _ _ _ h=>h) HSB.o ⟨rfl,fun _ h'=>by have a0:=(h'.cell (p:=⟨g5,4,none⟩) hg5l).trans z4;simp [go_sem,a0]⟩ ?_
  refine zA (v:=(.pointer (some ⟨g2,1,none⟩))) rfl rfl (fun _ _ _ h=>h) HSB.o ⟨rfl,fun _ _=>by simp [go_sem]⟩ ?_
  refine zA (v:=(.int .i64 q2)) rfl rfl (fun _ _ _ h=>h) HSB.o ⟨rfl,fun _ h'=>by have a0:=(h'.cell (p:=⟨g2,1,none⟩) hg2l).trans y1;simp [go_sem,a0]⟩ ?_
  simp only [List.getElem_toArray,List.getElem_cons_succ,List.getElem_cons_zero,Act.put,List.setIfInBounds_toArray,List.set_cons_succ,List.set_cons_zero]
  refine zD rfl rfl ?_
  go_wp2_with fail
  refine (HM.o.1 X2.drew).mono ?_
  rintro e W1 ⟨rfl,rfl⟩
  go_wp2_with fail
  refine ⟨fun _=>HSB.o,?_⟩
  refine zD rfl rfl ?_
  go_wp2_with fail
  refine (HM.o.2.1 X2.drew).mono ?_
  rintro e W1 ⟨rfl,rfl⟩
  go_wp2_with fail
  refine ⟨fun _=>HSB.o,?_⟩
  refine zD rfl rfl ?_
  go_wp2_with fail
  refine (HM.o.2.2.1 X2.drew).mono ?_
  rintro e W1 ⟨rfl,rfl⟩
  go_wp2_with fail
  refine ⟨fun _=>HSB.o,?_⟩
  refine zA (v:=(.int .i64 mx)) rfl rfl (fun _ _ _ h=>h) HSB.o ⟨rfl,fun _ _=>by simp [go_sem,pn0,dv,w1]⟩ ?_
  simp only [List.getElem_toArray,List.getElem_cons_succ,List.getElem_cons_zero,Act.put,List.setIfInBounds_toArray,List.set_cons_succ,List.set_cons_zero]
  refine zD rfl rfl ?_
  go_wp2_with fail
  refine (HM.o.2.2.2 X2.drew).mono ?_
  rintro e W1 ⟨rfl,rfl⟩
  go_wp2_with fail
  refine ⟨fun _=>HSB.o,?_⟩
  refine zA (v:=(.int .i64 v)) rfl rfl (fun _ _ _ h=>h) HSB.o ⟨rfl,fun _ _=>by simp [go_sem,w2]⟩ ?_
  refine zA (v:=(.pointer (some ⟨gp,i1*3,none⟩))) rfl rfl (fun _ _ _ h=>h) HSB.o ⟨rfl,fun _ _=>by simp [go_sem,i1l]⟩ ?_
  refine zA (v:=(.pointer (some ⟨gp,i1*3+1,none⟩))) rfl rfl (fun _ _ _ h=>h) HSB.o ⟨rfl,fun _ _=>by simp [go_sem]⟩ ?_
  simp only [List.getElem_toArray,List.getElem_cons_succ,List.getElem_cons_zero,Act.put,List.setIfInBounds_toArray,List.set_cons_succ,List.set_cons_zero]
  refine zJ _ [_] (by kernel_rfl) rfl ?_
  clear HSB
  go_upto_region 31 with fail
  obtain ⟨V,hV⟩:=ex9 ((X2.setCell ⟨gp,i1*3+1,none⟩ (.int .i64 v)).drew)
  rw [←hV]
  have HF:=hide (show CtE X0 V g5 (.slice (some ⟨gp,0,none⟩) np k1) (.slice A2 nt k2) (.slice A3 nc k3) (.slice A4 no k4) (.slice A5 nd k5) ⟨P.set i1 (y.1,v,y.2.2),T,C,O,st,D⟩ from by
   have h1:=zEV zO HO.o HX.o.1.2.1 (j:=1) (by decide) (y:=(y.1,v,y.2.2)) (v:=(.int .i64 v)) rfl
   have h2:=(HS.o.below ((Below.refl _ X2).drew)).in_p (Q:=P.set i1 (y.1,v,y.2.2)) (zG X2.drew gp (i1*3+1) (.int .i64 v)) (by rw [List.length_set,←HN.o.1];exact h1)
   rw [hV]
   exact h2)
  clear hV frT hgpl d0 d1 d2 c0 c1 c2 i1l i2l w2
  clear z0 z1 z2 z3 z4 z5 hg5l y0 y1 y9 hg2l
  obtain ⟨z0,z1,z2,z3,z4,z5⟩:=HF.o.b.six9
  have hg5l:=HF.o.b.lt
  have hV2:=H0.o.2.1.below HF.o.bel H0.o.2.1.lt
  obtain ⟨e0,e1,e2,e3,e4,e5⟩:=hV2.six9
  have hg2l:=hV2.lt
  have f0:=hV2.frozen 0
  have f1:=hV2.frozen 1
  have f2:=hV2.frozen 2
  have f3:=hV2.frozen 3
  have f4:=hV2.frozen 4
  have f5:=hV2.frozen 5
  have HV:=hide hV2
  clear hV2
  go_wp2
  have hE:=(((((HV.o.set_ 0 (.slice (some ⟨gp,0,none⟩) np k1)).set_ 1 (.slice A2 nt k2)).set_ 2 (.slice A3 nc k3)).set_ 3 (.slice A4 no k4)).set_ 4 (.int .i64 st)).set_ 5 (.slice A5 nd k5)
  refine yX (v:= .agg (cMad (.slice (some ⟨gp,0,none⟩) np k1) (.slice A2 nt k2) (.slice A3 nc k3) (.slice A4 no k4) st (.slice A5 nd k5))) (fun W=>Blk W g4 32 (cMad (.slice (some ⟨gp,0,none⟩) np k1) (.slice A2 nt k2) (.slice A3 nc k3) (.slice A4 no k4) st (.slice A5 nd k5))) hE (fun W hW=> ?_) rfl ?_
  ·obtain ⟨a0,a1,a2,a3,a4,a5⟩:=hW.six9
   simp [results,Tryz.results16,go_sem,a0,a1,a2,a3,a4,a5]
   try trivial
  ·rw [HQ.o]
   exact HF.o.res H0.o.2.2.1 H0.o.2.2.2 H0.o.2.1.lt (yD g4 [(.slice (some ⟨gp,0,none⟩) np k1),(.slice A2 nt k2),(.slice A3 nc k3),(.slice A4 no k4), .int .i64 st,(.slice A5 nd k5)] V 0)
end Go.Proofs.YtmemofonebphfaaGreat
