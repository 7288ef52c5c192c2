import Derived.Test.YtmemofonebphfaaGreatZ34
namespace Go.Proofs.YtmemofonebphfaaGreat
open Go.RowKit Go.Sort
theorem zL6 {W W':World} {B g:Nat} {Ap At Ac Ao Ad:Option Addr} {cp ct cc oc dc:Nat} {c:Ctl} (ht:Own yF 3 35 W B (.slice At c.tris.length ct) c.tris.length c.tris) (hp:Own encP 3 43 W B (.slice Ap c.points.length cp) c.points.length c.points) (hcr:Own yH 2 56 W B (.slice Ac c.creases.length cc) c.creases.length c.creases) (ho:Own xH 1 3 W B (.slice Ao c.corners.length oc) c.corners.length c.corners) (hd:Pcs encP 3 43 28 W B (.slice Ad c.details.length dc) c.details) (hg:W.grownBy W' (some g)) (hlt:g < B):CtlM W' W'.heap.size Ap At Ac Ao Ad c:=
 have hr:∀r,(some g:Option Nat)=some r→r < B:=fun r e=>by cases e;exact hlt
 ⟨(hp.step hg (fun r e=> .inl (hr r e))).sl zO lr9,(ht.step hg (fun r e=> .inl (hr r e))).sl zS lr9,(hcr.step hg (fun r e=> .inl (hr r e))).sl zU lr9,(ho.step hg (fun r e=> .inl (hr r e))).sl xP lr9,(hd.turn hg (fun _ _ r e=> .inl (hr r e))).sl lr9⟩
theorem zIM {W:World} {B:Nat} {Ap At Ac Ao Ad:Option Addr} {cp ct cc oc dc:Nat} {c:Ctl} (ht:Own yF 3 35 W B (.slice At c.tris.length ct) c.tris.length c.tris) (hp:Own encP 3 43 W B (.slice Ap c.points.length cp) c.points.length c.points) (hcr:Own yH 2 56 W B (.slice Ac c.creases.length cc) c.creases.length c.creases) (ho:Own xH 1 3 W B (.slice Ao c.corners.length oc) c.corners.length c.corners) (hd:Pcs encP 3 43 28 W B (.slice Ad c.details.length dc) c.details):CtlM W W.heap.size Ap At Ac Ao Ad c:=
 ⟨hp.sl zO lr9,ht.sl zS lr9,hcr.sl zU lr9,ho.sl xP lr9,hd.sl lr9⟩
theorem dX {W W':World} {B g:Nat} {Ap At Ac Ao Ad:Option Addr} {cp ct cc oc dc:Nat} {c:Ctl} {cs:Array Value} (h:(Own yF 3 35 W B (.slice At c.tris.length ct) c.tris.length c.tris)∧(Own encP 3 43 W B (.slice Ap c.points.length cp) c.points.length c.points)∧(Own yH 2 56 W B (.slice Ac c.creases.length cc) c.creases.length c.creases)∧(Own xH 1 3 W B (.slice Ao c.corners.length oc) c.corners.length c.corners)∧(Pcs encP 3 43 28 W B (.slice Ad c.details.length dc) c.details)) (hb:Blk W g 32 cs) (hg:W.grownBy W' (some g)):CtlM W' W'.heap.size Ap At Ac Ao Ad c:=
 ⟨(h.2.1.step hg (vO hb (by decide) _)).sl zO lr9,(h.1.step hg (vO hb (by decide) _)).sl zS lr9,(h.2.2.1.step hg (vO hb (by decide) _)).sl zU lr9,(h.2.2.2.1.step hg (vO hb (by decide) _)).sl xP lr9,(h.2.2.2.2.turn hg (fun t e=>vO hb (by rcases e with rfl | rfl <;>decide) _)).sl lr9⟩
set_option maxRecDepth 100000 in set_option maxHeartbeats 64000000 in
theorem zJ0 (hmade:zK3) (Ap Ac Ao Ad:Option Addr) (cp cc oc dc:Nat) (s:ShpC) (q r:Pt) (w:World) (hm:ShpA w w.heap.size Ap Ac Ao Ad s) (hb:fits s.bits) (hl:s.points.length≤9223372036854775807∧s.creases.length≤9223372036854775807∧s.corners.length≤9223372036854775807∧s.details.length≤9223372036854775807) (_hq:yJ q) (_hr:yJ r):
  Calls Tryz.prog 4 #[vShp s.kind s.bits s.steps Ap s.points.length cp Ac s.creases.length cc Ao s.corners.length oc Ad s.details.length dc,vP q,vP r] w fun e w'=>e= .returned (.bool true)∧Below w.heap.size w w':=by
 have kmade:=fun (W:World) (hW:Below w.heap.size w W)=>hmade Ap Ac Ao Ad cp cc oc dc s W (hm.below hW hW.size) hb hl
 have ks1:=fun (Ap At Ac Ao Ad:Option Addr) (cp ct cc oc dc:Nat) (W:World) (h:CtlM W W.heap.size Ap At Ac Ao Ad (xC s))=>zA2 Ap At Ac Ao Ad cp ct cc oc dc (xC s) q W h (zGS s) (dJ s).2 (dJ s).1
 have hs1:=zDX (zLF s) q
 have hs2:=zDX hs1 r
 have ka1:=fun (Ap At Ac Ao Ad:Option Addr) (cp ct cc oc dc:Nat) (W:World) (h:CtlM W W.heap.size Ap At Ac Ao Ad (yY (xC s) q))=>zA4 Ap At Ac Ao Ad cp ct cc oc dc (yY (xC s) q) W h (hs1.bound (by decide)) hs1.fits (zGJ s q)
 have ks2:=fun (Ap At Ac Ao Ad:Option Addr) (cp ct cc oc dc:Nat) (hp0:0 < (yY (xC s) q).points.length) (ht0:0 < (yY (xC s) q).tris.length) (W:World) (h:CtlM W W.heap.size Ap At Ac Ao Ad (yY (xC s) q))=>zA2 Ap At Ac Ao Ad cp ct cc oc dc (yY (xC s) q) r W h (hs1.bound (by decide)) hp0 ht0
 have ka2:=fun (ht0:0 < (yY (xC s) q).tris.length) (Ap At Ac Ao Ad:Option Addr) (cp ct cc oc dc:Nat) (W:World) (h:CtlM W W.heap.size Ap At Ac Ao Ad (yY (yY (xC s) q) r))=>zA4 Ap At Ac Ao Ad cp ct cc oc dc (yY (yY (xC s) q) r) W h (hs2.bound (by decide)) hs2.fits (zEO s q r ht0)
 obtain ⟨c2,hc2⟩:=ex9 (yY (yY (xC s) q) r)
 simp only [←hc2] at hs2 ks2 ka2
 obtain ⟨c1,hc1⟩:=ex9 (yY (xC s) q)
 simp only [←hc1] at hs1 ks1 ka1 ks2 ka2
 obtain ⟨c0,hc0⟩:=ex9 (xC s)
 simp only [←hc0] at kmade ks1
 obtain ⟨q1,q2,q3⟩:=q
 obtain ⟨r1,r2,r3⟩:=r
 dsimp only at ks1 ks2
 have b1:=hs1.t
 have b2:=hs2.t
 have b3:=hs1.st
 have b4:=hs2.st
 clear hs1 hs2 hc0 hc1 hc2
 obtain ⟨np0,hnp0⟩:=ex9 (c0.points.length)
 obtain ⟨nt0,hnt0⟩:=ex9 (c0.tris.length)
 obtain ⟨nc0,hnc0⟩:=ex9 (c0.creases.length)
 obtain ⟨no0,hno0⟩:=ex9 (c0.corners.length)
 obtain ⟨nd0,hnd0⟩:=ex9 (c0.details.length)
 obtain ⟨st0,hst0⟩:=ex9 (c0.steps)
 simp only [←hnp0,←hnt0,←hnc0,←hno0,←hnd0,←hst0] at ks1
 have HN0:=hide (ai9 hnp0 (ai9 hnt0 (ai9 hnc0 (ai9 hno0 (ai9 hnd0 hst0)))))
 clear hnp0 hnt0 hnc0 hno0 hnd0 hst0
 obtain ⟨np1,hnp1⟩:=ex9 (c1.points.length)
 obtain ⟨nt1,hnt1⟩:=ex9 (c1.tris.length)
 obtain ⟨nc1,hnc1⟩:=ex9 (c1.creases.length)
 obtain ⟨no1,hno1⟩:=ex9 (c1.corners.length)
 obtain ⟨nd1,hnd1⟩:=ex9 (c1.details.length)
 obtain ⟨st1,hst1⟩:=ex9 (c1.steps)
 simp only [←hnp1,←hnt1,←hnc1,←hno1,←hnd1,←hst1] at ka1 ks2 ka2 b1 b3
 have HN1:=hide (ai9 hnp1 (ai9 hnt1 (ai9 hnc1 (ai9 hno1 (ai9 hnd1 hst1)))))
 clear hnp1 hnt1 hnc1 hno1 hnd1 hst1
 obtain ⟨np2,hnp2⟩:=ex9 (c2.points.length)
 obtain ⟨nt2,hnt2⟩:=ex9 (c2.tris.length)
 obtain ⟨nc2,hnc2⟩:=ex9 (c2.creases.length)
 obtain ⟨no2,hno2⟩:=ex9 (c2.corners.length)
 obtain ⟨nd2,hnd2⟩:=ex9 (c2.details.length)
 obtain ⟨st2,hst2⟩:=ex9 (c2.steps)
 simp only [←hnp2,←hnt2,←hnc2,←hno2,←hnd2,←hst2] at ka2 b2 b4
 have HN2:=hide (ai9 hnp2 (ai9 hnt2 (ai9 hnc2 (ai9 hno2 (ai9 hnd2 hst2)))))
 clear hnp2 hnt2 hnc2 hno2 hnd2 hst2
 have HK:=hide (ai9 kmade (ai9 ks1 (ai9 ka1 (ai9 ks2 ka2))))
 clear kmade ks1 ka1 ks2 ka2 hm hb hl
 go_enter Tryz.func4,Tryz.ntmps4
 go_upto_region 1 with fail
 obtain ⟨g1,hg1⟩:=ex9 (w.heap.size)
 obtain ⟨g2,hg2⟩:=ex9 (w.heap.size+1)
 obtain ⟨g3,hg3⟩:=ex9 (w.heap.size+2)
 obtain ⟨X0,hX⟩:=ex9 (((w.alloc (.cells (cShp s.kind s.bits s.steps Ap s.points.length cp Ac s.creases.length cc Ao s.corners.length oc Ad s.details.length dc) 25)).alloc (.cells #[.int .i64 q1, .int .i64 q2, .int .i64 q3] 35)).alloc (.cells #[.int .i64 r1, .int .i64 r2, .int .i64 r3] 35))
 rw [←hX,←hg3,←hg2,←hg1]
 have hb1:Blk X0 g1 25 (cShp s.kind s.bits s.steps Ap s.points.length cp Ac s.creases.length cc Ao s.corners.length oc Ad s.details.length dc):=by rw [hX,hg1];exact ((Blk.new _ _ _).alloc _).alloc _
 have hb2:Blk X0 g2 35 #[.int .i64 q1, .int .i64 q2, .int .i64 q3]:=by rw [hX,hg2];exact (Blk.new' _ _ _ _ (by simp)).alloc _
 have hb3:Blk X0 g3 35 #[.int .i64 r1, .int .i64 r2, .int .i64 r3]:=by rw [hX,hg3];exact Blk.new' _ _ _ _ (by simp)
 have hBX:Below w.heap.size w X0:=by rw [hX];exact (((Below.refl _ w).alloc lr9 _).alloc (by simp) _).alloc (by simp;omega) _
 have H0:=hide (ai9 hb1 (ai9 hb2 (ai9 hb3 hBX)))
 clear hb1 hb2 hb3 hBX hX hg1 hg2 hg3
 go_upto_region 2 with (go_at_call 13;refine (zEI X0).mono ?_;rintro e X1 ⟨rfl,hB1⟩;have H1:=hide (ai9 (H0.o.1.below hB1 H0.o.1.lt) (ai9 (H0.o.2.1.below hB1 H0.o.2.1.lt) (ai9 (H0.o.2.2.1.below hB1 H0.o.2.2.1.lt) (H0.o.2.2.2.trans (hB1.mono H0.o.2.2.2.size)))));clear hB1)
 obtain ⟨z0,z1,z2,z3,z4,z5,z6⟩:=H1.o.1.seven9
 obtain ⟨y0,y1,y2⟩:=H1.o.2.1.three
 have hgl:=H1.o.1.lt
 have hg2l:=H1.o.2.1.lt
 go_cut [8] (fun v wx=>∃(g8:Nat) (Ap1 At1 Ac1 Ao1 Ad1:Option Addr) (cp1 ct1 cc1 oc1 dc1:Nat),v= .pointer (some ⟨g8,0,none⟩)∧CtlM wx wx.heap.size Ap1 At1 Ac1 Ao1 Ad1 c1∧Blk wx g8 32 (cCtl Ap1 np1 cp1 At1 nt1 ct1 Ac1 nc1 cc1 Ao1 no1 oc1 st1 Ad1 nd1 dc1)∧Below X1.heap.size X1 wx)
 case first=>
  have HSB:=hide (show Below X1.heap.size X1 X1.drew from (Below.refl _ X1).drew)
  refine jS (fun W=>Below X1.heap.size X1 W) [0,2] (.q 0 (.q 2 (.two 1 (.two 3 (.one 4 (.one 5 .nil)) 4 (.one 3 (.one 5 .nil))) 4 (.one 1 (.one 3 (.one 5 .nil)))))) zL (by kernel_rfl) ?_
  refine yI (v:=(.agg (cShp s.kind s.bits s.steps Ap s.points.length cp Ac s.creases.length cc Ao s.corners.length oc Ad s.details.length dc))) rfl (fun _ _ _ h=>h) HSB.o ⟨rfl,fun _ h'=>by have a0:=(h'.cell (p:=⟨g1,0,none⟩) hgl).trans z0;have a1:=(h'.cell (p:=⟨g1,1,none⟩) hgl).trans z1;have a2:=(h'.cell (p:=⟨g1,2,none⟩) hgl).trans z2;have a3:=(h'.cell (p:=⟨g1,3,none⟩) hgl).trans z3;have a4:=(h'.cell (p:=⟨g1,4,none⟩) hgl).trans z4;have a5:=(h'.cell (p:=⟨g1,5,none⟩) hgl).trans z5;have a6:=(h'.cell (p:=⟨g1,6,none⟩) hgl).trans z6;simp [go_sem,a0,a1,a2,a3,a4,a5,a6]⟩ ?_
  refine yI (v:=(.agg #[.int .i64 q1, .int .i64 q2, .int .i64 q3])) rfl (fun _ _ _ h=>h) HSB.o ⟨rfl,fun _ h'=>by have a0:=(h'.cell (p:=⟨g2,0,none⟩) hg2l).trans y0;have a1:=(h'.cell (p:=⟨g2,1,none⟩) hg2l).trans y1;have a2:=(h'.cell (p:=⟨g2,2,none⟩) hg2l).trans y2;simp [go_sem,a0,a1,a2]⟩ ?_
  simp only [List.getElem_toArray,List.getElem_cons_succ,List.getElem_cons_zero,Act.put,List.setIfInBounds_toArray,List.set_cons_succ,List.set_cons_zero]
  clear z0 z1 z2 z3 z4 z5 z6 y0 y1 y2 hgl hg2l
  have hBd:=HSB.o
  have HB1:=hide hBd
  clear hBd
  refine qF rfl rfl ?_ ?_
  ·skip
   go_wp2_with fail
   refine (HK.o.1 X1.drew (H1.o.2.2.2.trans (HB1.o.mono H1.o.2.2.2.size))).mono ?_
   rintro e X2 ⟨Ap0,At0,Ac0,Ao0,Ad0,cp0,ct0,cc0,oc0,dc0,rfl,ht,hp,hcr,hco,hd,hB⟩
   have H2:=hide (ai9 (zIM ht hp hcr hco hd) (HB1.o.trans (hB.mono HB1.o.size)))
   try simp only [←HN0.o.1,←HN0.o.2.1,←HN0.o.2.2.1,←HN0.o.2.2.2.1,←HN0.o.2.2.2.2.1,←HN0.o.2.2.2.2.2]
   clear ht hp hcr hco hd hB
   go_wp2_with fail
   refine ⟨fun _=>H2.o.2,?_⟩
   refine qF rfl rfl ?_ ?_
   ·skip
    go_wp2_with fail
    refine (HK.o.2.1 _ _ _ _ _ _ _ _ _ _ X2 H2.o.1).mono ?_
    rintro e X3 ⟨Ap1,At1,Ac1,Ao1,Ad1,cp1,ct1,cc1,oc1,dc1,rfl,ht,hp,hcr,hco,hd,hB⟩
    have H3:=hide (ai9 (ai9 ht (ai9 hp (ai9 hcr (ai9 hco hd)))) (H2.o.2.trans (hB.mono H2.o.2.size)))
    try simp only [←HN1.o.1,←HN1.o.2.1,←HN1.o.2.2.1,←HN1.o.2.2.2.1,←HN1.o.2.2.2.2.1,←HN1.o.2.2.2.2.2]
    clear ht hp hcr hco hd hB
    go_wp2_with fail
    refine ⟨fun _=>H3.o.2,?_⟩
    refine zY rfl ?_
    go_wp2_with fail
    obtain ⟨g8,hg8⟩:=ex9 (X3.heap.size)
    obtain ⟨Z,hZ⟩:=ex9 (X3.alloc (.cells (cCtl none 0 0 none 0 0 none 0 0 none 0 0 0 none 0 0) 32))
    rw [←hZ,←hg8]
    have hBz:Below X3.heap.size X3 Z:=by rw [hZ];exact (Below.refl _ _).alloc lr9 _
    have hbz:Blk Z g8 32 (cCtl none 0 0 none 0 0 none 0 0 none 0 0 0 none 0 0):=by rw [hZ,hg8];exact Blk.new X3 _ _
    have hSz:Below X1.heap.size X1 Z:=H3.o.2.trans (hBz.mono H3.o.2.size)
    have HZ:=hide (ai9 hbz (ai9 hSz hBz))
    have hgz:X1.heap.size≤g8:=by rw [hg8];exact H3.o.2.size
    have HG:=hide hg8
    clear hBz hbz hSz hZ hg8
    refine ⟨fun _=>HZ.o.2.1,?_⟩
    refine zY rfl ?_
    have f0:=HZ.o.1.frozen 0
    have f1:=HZ.o.1.frozen 1
    have f2:=HZ.o.1.frozen 2
    have f3:=HZ.o.1.frozen 3
    have f4:=HZ.o.1.frozen 4
    have f5:=HZ.o.1.frozen 5
    have hlz:=HZ.o.1.lt
    obtain ⟨k0,k1,k2,k3,k4,k5⟩:=HZ.o.1.six9
    go_wp2_with fail
    refine ⟨fun h=>absurd (h.symm.trans (show _=false by kernel_rfl)) (by simp),?_⟩
    refine xI ?_
    go_wp2_with fail
    go_meet
    case rel=>
     have hgw:=yD g8 [(.slice Ap1 np1 cp1),(.slice At1 nt1 ct1),(.slice Ac1 nc1 cc1),(.slice Ao1 no1 oc1),(.int .i64 st1),(.slice Ad1 nd1 dc1)] Z 0
     exact ⟨g8,Ap1,At1,Ac1,Ao1,Ad1,cp1,ct1,cc1,oc1,dc1,rfl,dX (ai9 (H3.o.1.1.below HZ.o.2.2 lr9) (ai9 (H3.o.1.2.1.below HZ.o.2.2 lr9) (ai9 (H3.o.1.2.2.1.below HZ.o.2.2 lr9) (ai9 (H3.o.1.2.2.2.1.below HZ.o.2.2 lr9) (H3.o.1.2.2.2.2.below HZ.o.2.2 lr9))))) HZ.o.1 hgw,((((((HZ.o.1.set_ 0 (.slice Ap1 np1 cp1)).set_ 1 (.slice At1 nt1 ct1)).set_ 2 (.slice Ac1 nc1 cc1)).set_ 3 (.slice Ao1 no1 oc1)).set_ 4 (.int .i64 st1)).set_ 5 (.slice Ad1 nd1 dc1)),HZ.o.2.1.trans (yK hgw hgz HZ.o.2.1.size)⟩
   ·skip
    go_wp2_with fail
    obtain ⟨g8,hg8⟩:=ex9 (X2.heap.size)
    obtain ⟨Z,hZ⟩:=ex9 (X2.alloc (.cells (cCtl none 0 0 none 0 0 none 0 0 none 0 0 0 none 0 0) 32))
    rw [←hZ,←hg8]
    have hBz:Below X2.heap.size X2 Z:=by rw [hZ];exact (Below.refl _ _).alloc lr9 _
    have hbz:Blk Z g8 32 (cCtl none 0 0 none 0 0 none 0 0 none 0 0 0 none 0 0):=by rw [hZ,hg8];exact Blk.new X2 _ _
    have hSz:Below X1.heap.size X1 Z:=H2.o.2.trans (hBz.mono H2.o.2.size)
    have HZ:=hide (ai9 hbz (ai9 hSz hBz))
    have hgz:X1.heap.size≤g8:=by rw [hg8];exact H2.o.2.size
    have HG:=hide hg8
    clear hBz hbz hSz hZ hg8
    refine ⟨fun _=>HZ.o.2.1,?_⟩
    refine zY rfl ?_
    go_wp2_with fail
    refine (HK.o.2.1 _ _ _ _ _ _ _ _ _ _ Z (H2.o.1.below HZ.o.2.2 HZ.o.2.2.size)).mono ?_
    rintro e X3 ⟨Ap1,At1,Ac1,Ao1,Ad1,cp1,ct1,cc1,oc1,dc1,rfl,ht,hp,hcr,hco,hd,hB⟩
    have H3:=hide (ai9 (ai9 ht (ai9 hp (ai9 hcr (ai9 hco hd)))) (HZ.o.2.1.trans (hB.mono HZ.o.2.1.size)))
    try simp only [←HN1.o.1,←HN1.o.2.1,←HN1.o.2.2.1,←HN1.o.2.2.2.1,←HN1.o.2.2.2.2.1,←HN1.o.2.2.2.2.2]
    have hbX:=HZ.o.1.below hB HZ.o.1.lt
    have HBX:=hide hbX
    clear hbX
    clear ht hp hcr hco hd hB
    go_wp2_with fail
    refine ⟨fun _=>H3.o.2,?_⟩
    refine zY rfl ?_
    have f0:=HBX.o.frozen 0
    have f1:=HBX.o.frozen 1
    have f2:=HBX.o.frozen 2
    have f3:=HBX.o.frozen 3
    have f4:=HBX.o.frozen 4
    have f5:=HBX.o.frozen 5
    have hlz:=HBX.o.lt
    obtain ⟨k0,k1,k2,k3,k4,k5⟩:=HBX.o.six9
    go_wp2_with fail
    refine ⟨fun h=>absurd (h.symm.trans (show _=false by kernel_rfl)) (by simp),?_⟩
    refine xI ?_
    go_wp2_with fail
    go_meet
    case rel=>
     have hgw:=yD g8 [(.slice Ap1 np1 cp1),(.slice At1 nt1 ct1),(.slice Ac1 nc1 cc1),(.slice Ao1 no1 oc1),(.int .i64 st1),(.slice Ad1 nd1 dc1)] X3 0
     exact ⟨g8,Ap1,At1,Ac1,Ao1,Ad1,cp1,ct1,cc1,oc1,dc1,rfl,dX H3.o.1 HBX.o hgw,((((((HBX.o.set_ 0 (.slice Ap1 np1 cp1)).set_ 1 (.slice At1 nt1 ct1)).set_ 2 (.slice Ac1 nc1 cc1)).set_ 3 (.slice Ao1 no1 oc1)).set_ 4 (.int .i64 st1)).set_ 5 (.slice Ad1 nd1 dc1)),H3.o.2.trans (yK hgw hgz H3.o.2.size)⟩
  ·skip
   go_wp2_with fail
   obtain ⟨g8,hg8⟩:=ex9 (X1.heap.size)
   obtain ⟨Z,hZ⟩:=ex9 ((X1.alloc (.cells (cCtl none 0 0 none 0 0 none 0 0 none 0 0 0 none 0 0) 32)).drew)
   rw [←hZ,←hg8]
   have hBz:Below X1.heap.size X1 Z:=by rw [hZ];exact ((Below.refl _ _).alloc lr9 _).drew
   have hbz:Blk Z g8 32 (cCtl none 0 0 none 0 0 none 0 0 none 0 0 0 none 0 0):=by rw [hZ,hg8];exact Blk.new X1 _ _
   have hSz:Below X1.heap.size X1 Z:=(Below.refl X1.heap.size X1).trans (hBz.mono (Below.refl X1.heap.size X1).size)
   have HZ:=hide (ai9 hbz (ai9 hSz hBz))
   have hgz:X1.heap.size≤g8:=by rw [hg8];exact (Below.refl X1.heap.size X1).size
   have HG:=hide hg8
   clear hBz hbz hSz hZ hg8
   refine ⟨fun _=>by first | exact HZ.o.2.1 | (rw [HG.o];exact HZ.o.2.1),?_⟩
   refine zY rfl ?_
   go_wp2_with fail
   refine (HK.o.1 Z (H1.o.2.2.2.trans (HZ.o.2.1.mono H1.o.2.2.2.size))).mono ?_
   rintro e X2 ⟨Ap0,At0,Ac0,Ao0,Ad0,cp0,ct0,cc0,oc0,dc0,rfl,ht,hp,hcr,hco,hd,hB⟩
   have H2:=hide (ai9 (zIM ht hp hcr hco hd) (HZ.o.2.1.trans (hB.mono HZ.o.2.1.size)))
   try simp only [←HN0.o.1,←HN0.o.2.1,←HN0.o.2.2.1,←HN0.o.2.2.2.1,←HN0.o.2.2.2.2.1,←HN0.o.2.2.2.2.2]
   have hbX:=HZ.o.1.below hB HZ.o.1.lt
   have HBX:=hide hbX
   clear hbX
   clear ht hp hcr hco hd hB
   go_wp2_with fail
   refine ⟨fun _=>by first | exact H2.o.2 | (rw [HG.o];exact H2.o.2),?_⟩
   refine zY rfl ?_
   go_wp2_with fail
   refine (HK.o.2.1 _ _ _ _ _ _ _ _ _ _ X2 H2.o.1).mono ?_
   rintro e X3 ⟨Ap1,At1,Ac1,Ao1,Ad1,cp1,ct1,cc1,oc1,dc1,rfl,ht,hp,hcr,hco,hd,hB⟩
   have H3:=hide (ai9 (ai9 ht (ai9 hp (ai9 hcr (ai9 hco hd)))) (H2.o.2.trans (hB.mono H2.o.2.size)))
   try simp only [←HN1.o.1,←HN1.o.2.1,←HN1.o.2.2.1,←HN1.o.2.2.2.1,←HN1.o.2.2.2.2.1,←HN1.o.2.2.2.2.2]
   have hbY:=HBX.o.below hB HBX.o.lt
   have HBY:=hide hbY
   clear hbY
   clear ht hp hcr hco hd hB
   go_wp2_with fail
   refine ⟨fun _=>by first | exact H3.o.2 | (rw [HG.o];exact H3.o.2),?_⟩
   refine zY rfl ?_
   have f0:=HBY.o.frozen 0
   have f1:=HBY.o.frozen 1
   have f2:=HBY.o.frozen 2
   have f3:=HBY.o.frozen 3
   have f4:=HBY.o.frozen 4
   have f5:=HBY.o.frozen 5
   have hlz:=HBY.o.lt
   obtain ⟨k0,k1,k2,k3,k4,k5⟩:=HBY.o.six9
   go_wp2_with fail
   refine ⟨fun h=>absurd (h.symm.trans (show _=false by kernel_rfl)) (by simp),?_⟩
   refine xI ?_
   go_wp2_with fail
   go_meet
   case rel=>
    have hgw:=yD g8 [(.slice Ap1 np1 cp1),(.slice At1 nt1 ct1),(.slice Ac1 nc1 cc1),(.slice Ao1 no1 oc1),(.int .i64 st1),(.slice Ad1 nd1 dc1)] X3 0
    exact ⟨g8,Ap1,At1,Ac1,Ao1,Ad1,cp1,ct1,cc1,oc1,dc1,rfl,dX H3.o.1 HBY.o hgw,((((((HBY.o.set_ 0 (.slice Ap1 np1 cp1)).set_ 1 (.slice At1 nt1 ct1)).set_ 2 (.slice Ac1 nc1 cc1)).set_ 3 (.slice Ao1 no1 oc1)).set_ 4 (.int .i64 st1)).set_ 5 (.slice Ad1 nd1 dc1)),H3.o.2.trans (yK hgw hgz H3.o.2.size)⟩
 case rest=>
  obtain ⟨g8,Ap1,At1,Ac1,Ao1,Ad1,cp1,ct1,cc1,oc1,dc1,rfl,hcm,hb8,hBc⟩:=hcut
  obtain ⟨X4,rfl⟩:=ex9 (wc)
  have H3:=hide (ai9 hcm (ai9 hb8 hBc))
  clear hcm hb8 hBc
  try clear z0 z1 z2 z3 z4 z5 z6 y0 y1 y2 hgl hg2l
  go_upto_region 3 with fail
  have H4:=hide (ai9 H3.o.1 (ai9 H3.o.2.1 (ai9 (H1.o.2.2.2.trans (H3.o.2.2.mono H1.o.2.2.2.size)) (H1.o.2.2.1.below H3.o.2.2 H1.o.2.2.1.lt))))
  obtain ⟨z0,z1,z2,z3,z4,z5⟩:=H4.o.2.1.six9
  have hgl:=H4.o.2.1.lt
  obtain ⟨m5,hm5⟩:∃n:Nat,n=(st1 % 5).toNat:=⟨_,rfl⟩
  have hm6:st1 % 5=(m5:Int):=by omega
  have hm4:m5≤4:=by omega
  have km:=fun W=>yA st1 5 (by decide) (by decide) W
  rw [hm6] at km
  obtain ⟨s2,hs2⟩:∃n:Nat,n=2*m5:=⟨_,rfl⟩
  have t1:2*(m5:Int)=(s2:Int):=by omega
  have w1:IntKind.i64.wrap (s2:Int)=(s2:Int):=IntWalk.i64_in _ (by omega)
  obtain ⟨sz,hsz⟩:∃n:Nat,n=nt1*2^(2*m5):=⟨_,rfl⟩
  have t2:(nt1:Int)*2^s2=(sz:Int):=by
   rw [hsz,hs2,Int.natCast_mul,Int.natCast_pow]
   rfl
  have szb:sz≤512512:=by
   have key:∀s:Nat,s≤4→2^(2*s)≤256:=by decide
   rw [hsz]
   exact Nat.mul_le_mul (show nt1≤2002 by omega) (key m5 hm4)
  have w2:IntKind.i64.wrap (sz:Int)=(sz:Int):=IntWalk.i64_in _ (by omega)
  have s2b:s2≤8:=by omega
  obtain ⟨bg,hbg⟩:=ex9 (decide ((3000:Int) < (sz:Int)))
  have HM:=hide (ai9 km (ai9 hsz (ai9 hs2 hm6)))
  clear km hm5 hm6 hs2 hsz
  have HSB:=hide (show Below X4.heap.size X4 X4.drew from (Below.refl _ X4).drew)
  refine zB (fun W=>Below X4.heap.size X4 W) [0,1,2,3,4,6,7,8] [0,1,2,3,4,5,6,7,8] zL (by kernel_rfl) ?_
  refine zA (v:=(.pointer (some ⟨g8,1,none⟩))) rfl rfl (fun _ _ _ h=>h) HSB.o ⟨rfl,fun _ _=>by simp [go_sem]⟩ ?_
  refine zA (v:=(.slice At1 nt1 ct1)) rfl rfl (fun _ _ _ h=>h) HSB.o ⟨rfl,fun _ h'=>by have a0:=(h'.cell (p:=⟨g8,1,none⟩) hgl).trans z1;simp [go_sem,a0]⟩ ?_
  refine zA (v:=(.int .i64 nt1)) rfl rfl (fun _ _ _ h=>h) HSB.o ⟨rfl,fun _ _=>by simp [go_sem,Builtin.lenOf]⟩ ?_
  refine zA (v:=(.pointer (some ⟨g8,4,none⟩))) rfl rfl (fun _ _ _ h=>h) HSB.o ⟨rfl,fun _ _=>by simp [go_sem]⟩ ?_
  refine zA (v:=(.int .i64 st1)) rfl rfl (fun _ _ _ h=>h) HSB.o ⟨rfl,fun _ h'=>by have a0:=(h'.cell (p:=⟨g8,4,none⟩) hgl).trans z4;simp [go_sem,a0]⟩ ?_
  simp only [List.getElem_toArray,List.getElem_cons_succ,List.getElem_cons_zero,Act.put,List.setIfInBounds_toArray,List.set_cons_succ,List.set_cons_zero]
  refine zD rfl rfl ?_
  go_wp2_with fail
  refine (HM.o.1 X4.drew).mono ?_
  rintro e W1 ⟨rfl,rfl⟩
  go_wp2_with fail
  refine ⟨fun _=>HSB.o,?_⟩
  refine zA (v:=(.int .i64 s2)) rfl rfl (fun _ _ _ h=>h) HSB.o ⟨rfl,fun _ _=>by simp [go_sem,t1,w1]⟩ ?_
  refine zA (v:=(.int .i64 sz)) rfl rfl (fun _ _ _ h=>h) HSB.o ⟨rfl,fun _ _=>by simp [go_sem,t2,w2]⟩ ?_
  refine zA (v:=(.bool bg)) rfl rfl (fun _ _ _ h=>h) HSB.o ⟨rfl,fun _ _=>by simp [go_sem,hbg]⟩ ?_
  simp only [List.getElem_toArray,List.getElem_cons_succ,List.getElem_cons_zero,Act.put,List.setIfInBounds_toArray,List.set_cons_succ,List.set_cons_zero]
  refine xB ?_
  clear HSB z0 z1 z2 z3 z4 z5 hgl w1 w2 t1 t2
  obtain ⟨X5,hX5⟩:=ex9 (X4.drew)
  rw [←hX5]
  have hBd:Below X4.heap.size X4 X5:=by rw [hX5];exact (Below.refl _ _).drew
  have H5:=hide (ai9 (H4.o.1.below hBd hBd.size) (ai9 (H4.o.2.1.below hBd H4.o.2.1.lt) (ai9 (H4.o.2.2.1.trans (hBd.mono H4.o.2.2.1.size)) (H4.o.2.2.2.below hBd H4.o.2.2.2.lt))))
  clear hBd hX5 hbg HM szb hm4 s2b
  cases bg with
  | true=>
   go_wp2
   go_ret
   exact ⟨rfl,H5.o.2.2.1⟩
  | false=>
   obtain ⟨z0,z1,z2,z3,z4,z5⟩:=H5.o.2.1.six9
   have hgl:=H5.o.2.1.lt
   go_upto_region 6 with (go_at_call 14;refine (HK.o.2.2.1 _ _ _ _ _ _ _ _ _ _ X5 H5.o.1).mono ?_;rintro e X6 ⟨rfl,hB⟩;have H6:=hide (ai9 (H5.o.1.below hB hB.size) (ai9 (H5.o.2.1.below hB H5.o.2.1.lt) (ai9 (H5.o.2.2.1.trans (hB.mono H5.o.2.2.1.size)) (H5.o.2.2.2.below hB H5.o.2.2.2.lt))));clear hB)
   clear z0 z1 z2 z3 z4 z5 hgl
   obtain ⟨z0,z1,z2,z3,z4,z5⟩:=H6.o.2.1.six9
   have hgl:=H6.o.2.1.lt
   go_upto_region 7 with fail
   clear z0 z1 z2 z3 z4 z5 hgl
   obtain ⟨g10,hg10⟩:=ex9 (X6.heap.size)
   obtain ⟨X7,hX7⟩:=ex9 (X6.alloc (.cells (cCtl Ap1 np1 cp1 At1 nt1 ct1 Ac1 nc1 cc1 Ao1 no1 oc1 st1 Ad1 nd1 dc1) 32))
   rw [←hX7,←hg10]
   have hBa:Below X6.heap.size X6 X7:=by rw [hX7];exact (Below.refl _ _).alloc lr9 _
   have hb10:Blk X7 g10 32 (cCtl Ap1 np1 cp1 At1 nt1 ct1 Ac1 nc1 cc1 Ao1 no1 oc1 st1 Ad1 nd1 dc1):=by rw [hX7,hg10];exact Blk.new _ _ _
   have H7:=hide (ai9 (H6.o.1.below hBa hBa.size) (ai9 hb10 (H6.o.2.2.1.trans (hBa.mono H6.o.2.2.1.size))))
   have H8:=hide (ai9 (H6.o.2.1.below hBa H6.o.2.1.lt) (ai9 (H6.o.2.2.2.below hBa H6.o.2.2.2.lt) (ai9 hBa (ai9 hg10 H6.o.2.2.1))))
   clear hBa hb10 hX7 hg10
   obtain ⟨z0,z1,z2,z3,z4,z5⟩:=H8.o.1.six9
   have hgl:=H8.o.1.lt
   by_cases hp1:0 < nt1
   ·have i1:(0:Int) < (nt1:Int):=by omega
    by_cases hp2:0 < np1
    ·have i2:(0:Int) < (np1:Int):=by omega
     obtain ⟨y0,y1,y2⟩:=H8.o.2.1.three
     have hg3l:=H8.o.2.1.lt
     go_upto_region 9 with (go_at_call 16;refine (HK.o.2.2.2.1 _ _ _ _ _ _ _ _ _ _ hp2 hp1 X7 H7.o.1).mono ?_;rintro e X8 ⟨Ap2,At2,Ac2,Ao2,Ad2,cp2,ct2,cc2,oc2,dc2,rfl,ht,hp,hcr,hco,hd,hB3⟩;have hgb:=H7.o.2.1.below hB3 H7.o.2.1.lt;have f0:=hgb.frozen 0;have f1:=hgb.frozen 1;have f2:=hgb.frozen 2;have f3:=hgb.frozen 3;have f4:=hgb.frozen 4;have f5:=hgb.frozen 5;have hgl8:=hgb.lt;obtain ⟨x0,x1,x2,x3,x4,x5⟩:=hgb.six9;have H9:=hide (ai9 (ai9 ht (ai9 hp (ai9 hcr (ai9 hco hd)))) (ai9 hgb hB3));clear ht hp hcr hco hd hB3 hgb)
     try simp only [←HN2.o.1,←HN2.o.2.1,←HN2.o.2.2.1,←HN2.o.2.2.2.1,←HN2.o.2.2.2.2.1,←HN2.o.2.2.2.2.2]
     obtain ⟨X9,hX9⟩:=ex9 ((((((X8.setCell ⟨g10,0,none⟩ (.slice Ap2 np2 cp2)).setCell ⟨g10,1,none⟩ (.slice At2 nt2 ct2)).setCell ⟨g10,2,none⟩ (.slice Ac2 nc2 cc2)).setCell ⟨g10,3,none⟩ (.slice Ao2 no2 oc2)).setCell ⟨g10,4,none⟩ (.int .i64 st2)).setCell ⟨g10,5,none⟩ (.slice Ad2 nd2 dc2))
     rw [←hX9]
     have hgw:X8.grownBy X9 (some g10):=by rw [hX9];exact yD g10 [(.slice Ap2 np2 cp2),(.slice At2 nt2 ct2),(.slice Ac2 nc2 cc2),(.slice Ao2 no2 oc2),(.int .i64 st2),(.slice Ad2 nd2 dc2)] X8 0
     have hb9:Blk X9 g10 32 (cCtl Ap2 np2 cp2 At2 nt2 ct2 Ac2 nc2 cc2 Ao2 no2 oc2 st2 Ad2 nd2 dc2):=by rw [hX9];exact ((((((H9.o.2.1.set_ 0 (.slice Ap2 np2 cp2)).set_ 1 (.slice At2 nt2 ct2)).set_ 2 (.slice Ac2 nc2 cc2)).set_ 3 (.slice Ao2 no2 oc2)).set_ 4 (.int .i64 st2)).set_ 5 (.slice Ad2 nd2 dc2))
     have h67:Below X6.heap.size X6 X8:=H8.o.2.2.1.trans (H9.o.2.2.mono H8.o.2.2.1.size)
     have h69:Below X6.heap.size X6 X9:=h67.trans (yK hgw (Nat.le_of_eq H8.o.2.2.2.1.symm) h67.size)
     have H10:=hide (ai9 (zL6 H9.o.1.1 H9.o.1.2.1 H9.o.1.2.2.1 H9.o.1.2.2.2.1 H9.o.1.2.2.2.2 hgw H7.o.2.1.lt) (ai9 hb9 (H8.o.2.2.2.2.trans (h69.mono H8.o.2.2.2.2.size))))
     clear hgw hb9 h67 h69 hX9 f0 f1 f2 f3 f4 f5 x0 x1 x2 x3 x4 x5 hgl8 y0 y1 y2 hg3l z0 z1 z2 z3 z4 z5 hgl
     obtain ⟨z0,z1,z2,z3,z4,z5⟩:=H10.o.2.1.six9
     have hgl:=H10.o.2.1.lt
     obtain ⟨m5,hm5⟩:∃n:Nat,n=(st2 % 5).toNat:=⟨_,rfl⟩
     have hm6:st2 % 5=(m5:Int):=by omega
     have hm4:m5≤4:=by omega
     have km:=fun W=>yA st2 5 (by decide) (by decide) W
     rw [hm6] at km
     obtain ⟨s2,hs2⟩:∃n:Nat,n=2*m5:=⟨_,rfl⟩
     have t1:2*(m5:Int)=(s2:Int):=by omega
     have w1:IntKind.i64.wrap (s2:Int)=(s2:Int):=IntWalk.i64_in _ (by omega)
     obtain ⟨sz,hsz⟩:∃n:Nat,n=nt2*2^(2*m5):=⟨_,rfl⟩
     have t2:(nt2:Int)*2^s2=(sz:Int):=by
      rw [hsz,hs2,Int.natCast_mul,Int.natCast_pow]
      rfl
     have szb:sz≤512512:=by
      have key:∀s:Nat,s≤4→2^(2*s)≤256:=by decide
      rw [hsz]
      exact Nat.mul_le_mul (show nt2≤2002 by omega) (key m5 hm4)
     have w2:IntKind.i64.wrap (sz:Int)=(sz:Int):=IntWalk.i64_in _ (by omega)
     have s2b:s2≤8:=by omega
     obtain ⟨bg,hbg⟩:=ex9 (decide ((3000:Int) < (sz:Int)))
     have HM:=hide (ai9 km (ai9 hsz (ai9 hs2 hm6)))
     clear km hm5 hm6 hs2 hsz
     have HSB:=hide (show Below X9.heap.size X9 X9.drew from (Below.refl _ X9).drew)
     refine zB (fun W=>Below X9.heap.size X9 W) [0,1,2,3,4,6,7,8] [0,1,2,3,4,5,6,7,8] zL (by kernel_rfl) ?_
     refine zA (v:=(.pointer (some ⟨g10,1,none⟩))) rfl rfl (fun _ _ _ h=>h) HSB.o ⟨rfl,fun _ _=>by simp [go_sem]⟩ ?_
     refine zA (v:=(.slice At2 nt2 ct2)) rfl rfl (fun _ _ _ h=>h) HSB.o ⟨rfl,fun _ h'=>by have a0:=(h'.cell (p:=⟨g10,1,none⟩) hgl).trans z1;simp [go_sem,a0]⟩ ?_
     refine zA (v:=(.int .i64 nt2)) rfl rfl (fun _ _ _ h=>h) HSB.o ⟨rfl,fun _ _=>by simp [go_sem,Builtin.lenOf]⟩ ?_
     refine zA (v:=(.pointer (some ⟨g10,4,none⟩))) rfl rfl (fun _ _ _ h=>h) HSB.o ⟨rfl,fun _ _=>by simp [go_sem]⟩ ?_
     refine zA (v:=(.int .i64 st2)) rfl rfl (fun _ _ _ h=>h) HSB.o ⟨rfl,fun _ h'=>by have a0:=(h'.cell (p:=⟨g10,4,none⟩) hgl).trans z4;simp [go_sem,a0]⟩ ?_
     simp only [List.getElem_toArray,List.getElem_cons_succ,List.getElem_cons_zero,Act.put,List.setIfInBounds_toArray,List.set_cons_succ,List.set_cons_zero]
     refine zD rfl rfl ?_
     go_wp2_with fail
     refine (HM.o.1 X9.drew).mono ?_
     rintro e W1 ⟨rfl,rfl⟩
     go_wp2_with fail
     refine ⟨fun _=>HSB.o,?_⟩
     refine zA (v:=(.int .i64 s2)) rfl rfl (fun _ _ _ h=>h) HSB.o ⟨rfl,fun _ _=>by simp [go_sem,t1,w1]⟩ ?_
     refine zA (v:=(.int .i64 sz)) rfl rfl (fun _ _ _ h=>h) HSB.o ⟨rfl,fun _ _=>by simp [go_sem,t2,w2]⟩ ?_
     refine zA (v:=(.bool bg)) rfl rfl (fun _ _ _ h=>h) HSB.o ⟨rfl,fun _ _=>by simp [go_sem,hbg]⟩ ?_
     simp only [List.getElem_toArray,List.getElem_cons_succ,List.getElem_cons_zero,Act.put,List.setIfInBounds_toArray,List.set_cons_succ,List.set_cons_zero]
     refine xB ?_
     clear HSB z0 z1 z2 z3 z4 z5 hgl w1 w2 t1 t2
     obtain ⟨Y0,hY0⟩:=ex9 (X9.drew)
     have hBY:Below X9.heap.size X9 Y0:=by rw [hY0];exact (Below.refl _ _).drew
     have HY:=hide (ai9 (H10.o.1.below hBY hBY.size) (ai9 (H10.o.2.1.below hBY H10.o.2.1.lt) (H10.o.2.2.trans (hBY.mono H10.o.2.2.size))))
     rw [←hY0]
     clear hBY hY0 hbg
     cases bg with
     | true=>
      go_wp2
      go_ret
      exact ⟨rfl,HY.o.2.2⟩
     | false=>
      obtain ⟨z0,z1,z2,z3,z4,z5⟩:=HY.o.2.1.six9
      have hgl:=HY.o.2.1.lt
      go_upto_region 12 with (go_at_call 14;refine (HK.o.2.2.2.2 hp1 _ _ _ _ _ _ _ _ _ _ Y0 HY.o.1).mono ?_;rintro e Y1 ⟨rfl,hB⟩;have HY1:=hide (HY.o.2.2.trans (hB.mono HY.o.2.2.size));clear hB)
      go_wp2
      go_ret
      exact ⟨rfl,HY1.o⟩
    ·have i2:¬(0:Int) < (np1:Int):=by omega
     go_upto_region 9 with fail
     clear z0 z1 z2 z3 z4 z5 hgl
     obtain ⟨z0,z1,z2,z3,z4,z5⟩:=H7.o.2.1.six9
     have hgl:=H7.o.2.1.lt
     obtain ⟨m5,hm5⟩:∃n:Nat,n=(st1 % 5).toNat:=⟨_,rfl⟩
     have hm6:st1 % 5=(m5:Int):=by omega
     have hm4:m5≤4:=by omega
     have km:=fun W=>yA st1 5 (by decide) (by decide) W
     rw [hm6] at km
     obtain ⟨s2,hs2⟩:∃n:Nat,n=2*m5:=⟨_,rfl⟩
     have t1:2*(m5:Int)=(s2:Int):=by omega
     have w1:IntKind.i64.wrap (s2:Int)=(s2:Int):=IntWalk.i64_in _ (by omega)
     obtain ⟨sz,hsz⟩:∃n:Nat,n=nt1*2^(2*m5):=⟨_,rfl⟩
     have t2:(nt1:Int)*2^s2=(sz:Int):=by
      rw [hsz,hs2,Int.natCast_mul,Int.natCast_pow]
      rfl
     have szb:sz≤512512:=by
      have key:∀s:Nat,s≤4→2^(2*s)≤256:=by decide
      rw [hsz]
      exact Nat.mul_le_mul (show nt1≤2002 by omega) (key m5 hm4)
     have w2:IntKind.i64.wrap (sz:Int)=(sz:Int):=IntWalk.i64_in _ (by omega)
     have s2b:s2≤8:=by omega
     obtain ⟨bg,hbg⟩:=ex9 (decide ((3000:Int) < (sz:Int)))
     have HM:=hide (ai9 km (ai9 hsz (ai9 hs2 hm6)))
     clear km hm5 hm6 hs2 hsz
     have HSB:=hide (show Below X7.heap.size X7 X7.drew from (Below.refl _ X7).drew)
     refine zB (fun W=>Below X7.heap.size X7 W) [0,1,2,3,4,6,7,8] [0,1,2,3,4,5,6,7,8] zL (by kernel_rfl) ?_
     refine zA (v:=(.pointer (some ⟨g10,1,none⟩))) rfl rfl (fun _ _ _ h=>h) HSB.o ⟨rfl,fun _ _=>by simp [go_sem]⟩ ?_
     refine zA (v:=(.slice At1 nt1 ct1)) rfl rfl (fun _ _ _ h=>h) HSB.o ⟨rfl,fun _ h'=>by have a0:=(h'.cell (p:=⟨g10,1,none⟩) hgl).trans z1;simp [go_sem,a0]⟩ ?_
     refine zA (v:=(.int .i64 nt1)) rfl rfl (fun _ _ _ h=>h) HSB.o ⟨rfl,fun _ _=>by simp [go_sem,Builtin.lenOf]⟩ ?_
     refine zA (v:=(.pointer (some ⟨g10,4,none⟩))) rfl rfl (fun _ _ _ h=>h) HSB.o ⟨rfl,fun _ _=>by simp [go_sem]⟩ ?_
     refine zA (v:=(.int .i64 st1)) rfl rfl (fun _ _ _ h=>h) HSB.o ⟨rfl,fun _ h'=>by have a0:=(h'.cell (p:=⟨g10,4,none⟩) hgl).trans z4;simp [go_sem,a0]⟩ ?_
     simp only [List.getElem_toArray,List.getElem_cons_succ,List.getElem_cons_zero,Act.put,List.setIfInBounds_toArray,List.set_cons_succ,List.set_cons_zero]
     refine zD rfl rfl ?_
     go_wp2_with fail
     refine (HM.o.1 X7.drew).mono ?_
     rintro e W1 ⟨rfl,rfl⟩
     go_wp2_with fail
     refine ⟨fun _=>HSB.o,?_⟩
     refine zA (v:=(.int .i64 s2)) rfl rfl (fun _ _ _ h=>h) HSB.o ⟨rfl,fun _ _=>by simp [go_sem,t1,w1]⟩ ?_
     refine zA (v:=(.int .i64 sz)) rfl rfl (fun _ _ _ h=>h) HSB.o ⟨rfl,fun _ _=>by simp [go_sem,t2,w2]⟩ ?_
     refine zA (v:=(.bool bg)) rfl rfl (fun _ _ _ h=>h) HSB.o ⟨rfl,fun _ _=>by simp [go_sem,hbg]⟩ ?_
     simp only [List.getElem_toArray,List.getElem_cons_succ,List.getElem_cons_zero,Act.put,List.setIfInBounds_toArray,List.set_cons_succ,List.set_cons_zero]
     refine xB ?_
     clear HSB z0 z1 z2 z3 z4 z5 hgl w1 w2 t1 t2
     obtain ⟨Y0,hY0⟩:=ex9 (X7.drew)
     have hBY:Below X7.heap.size X7 Y0:=by rw [hY0];exact (Below.refl _ _).drew
     have HY:=hide (ai9 (H7.o.1.below hBY hBY.size) (ai9 (H7.o.2.1.below hBY H7.o.2.1.lt) (H7.o.2.2.trans (hBY.mono H7.o.2.2.size))))
     rw [←hY0]
     clear hBY hY0 hbg
     cases bg with
     | true=>
      go_wp2
      go_ret
      exact ⟨rfl,HY.o.2.2⟩
     | false=>
      obtain ⟨z0,z1,z2,z3,z4,z5⟩:=HY.o.2.1.six9
      have hgl:=HY.o.2.1.lt
      go_upto_region 12 with (go_at_call 14;refine (HK.o.2.2.1 _ _ _ _ _ _ _ _ _ _ Y0 HY.o.1).mono ?_;rintro e Y1 ⟨rfl,hB⟩;have HY1:=hide (HY.o.2.2.trans (hB.mono HY.o.2.2.size));clear hB)
      go_wp2
      go_ret
      exact ⟨rfl,HY1.o⟩
   ·have i1:¬(0:Int) < (nt1:Int):=by omega
    go_upto_region 9 with fail
    clear z0 z1 z2 z3 z4 z5 hgl
    obtain ⟨z0,z1,z2,z3,z4,z5⟩:=H7.o.2.1.six9
    have hgl:=H7.o.2.1.lt
    obtain ⟨m5,hm5⟩:∃n:Nat,n=(st1 % 5).toNat:=⟨_,rfl⟩
    have hm6:st1 % 5=(m5:Int):=by omega
    have hm4:m5≤4:=by omega
    have km:=fun W=>yA st1 5 (by decide) (by decide) W
    rw [hm6] at km
    obtain ⟨s2,hs2⟩:∃n:Nat,n=2*m5:=⟨_,rfl⟩
    have t1:2*(m5:Int)=(s2:Int):=by omega
    have w1:IntKind.i64.wrap (s2:Int)=(s2:Int):=IntWalk.i64_in _ (by omega)
    obtain ⟨sz,hsz⟩:∃n:Nat,n=nt1*2^(2*m5):=⟨_,rfl⟩
    have t2:(nt1:Int)*2^s2=(sz:Int):=by
     rw [hsz,hs2,Int.natCast_mul,Int.natCast_pow]
     rfl
    have szb:sz≤512512:=by
     have key:∀s:Nat,s≤4→2^(2*s)≤256:=by decide
     rw [hsz]
     exact Nat.mul_le_mul (show nt1≤2002 by omega) (key m5 hm4)
    have w2:IntKind.i64.wrap (sz:Int)=(sz:Int):=IntWalk.i64_in _ (by omega)
    have s2b:s2≤8:=by omega
    obtain ⟨bg,hbg⟩:=ex9 (decide ((3000:Int) < (sz:Int)))
    have HM:=hide (ai9 km (ai9 hsz (ai9 hs2 hm6)))
    clear km hm5 hm6 hs2 hsz
    have HSB:=hide (show Below X7.heap.size X7 X7.drew from (Below.refl _ X7).drew)
    refine zB (fun W=>Below X7.heap.size X7 W) [0,1,2,3,4,6,7,8] [0,1,2,3,4,5,6,7,8] zL (by kernel_rfl) ?_
    refine zA (v:=(.pointer (some ⟨g10,1,none⟩))) rfl rfl (fun _ _ _ h=>h) HSB.o ⟨rfl,fun _ _=>by simp [go_sem]⟩ ?_
    refine zA (v:=(.slice At1 nt1 ct1)) rfl rfl (fun _ _ _ h=>h) HSB.o ⟨rfl,fun _ h'=>by have a0:=(h'.cell (p:=⟨g10,1,none⟩) hgl).trans z1;simp [go_sem,a0]⟩ ?_
    refine zA (v:=(.int .i64 nt1)) rfl rfl (fun _ _ _ h=>h) HSB.o ⟨rfl,fun _ _=>by simp [go_sem,Builtin.lenOf]⟩ ?_
    refine zA (v:=(.pointer (some ⟨g10,4,none⟩))) rfl rfl (fun _ _ _ h=>h) HSB.o ⟨rfl,fun _ _=>by simp [go_sem]⟩ ?_
    refine zA (v:=(.int .i64 st1)) rfl rfl (fun _ _ _ h=>h) HSB.o ⟨rfl,fun _ h'=>by have a0:=(h'.cell (p:=⟨g10,4,none⟩) hgl).trans z4;simp [go_sem,a0]⟩ ?_
    simp only [List.getElem_toArray,List.getElem_cons_succ,List.getElem_cons_zero,Act.put,List.setIfInBounds_toArray,List.set_cons_succ,List.set_cons_zero]
    refine zD rfl rfl ?_
    go_wp2_with fail
    refine (HM.o.1 X7.drew).mono ?_
    rintro e W1 ⟨rfl,rfl⟩
    go_wp2_with fail
    refine ⟨fun _=>HSB.o,?_⟩
    refine zA (v:=(.int .i64 s2)) rfl rfl (fun _ _ _ h=>h) HSB.o ⟨rfl,fun _ _=>by simp [go_sem,t1,w1]⟩ ?_
    refine zA (v:=(.int .i64 sz)) rfl rfl (fun _ _ _ h=>h) HSB.o ⟨rfl,fun _ _=>by simp [go_sem,t2,w2]⟩ ?_
    refine zA (v:=(.bool bg)) rfl rfl (fun _ _ _ h=>h) HSB.o ⟨rfl,fun _ _=>by simp [go_sem,hbg]⟩ ?_
    simp only [List.getElem_toArray,List.getElem_cons_succ,List.getElem_cons_zero,Act.put,List.setIfInBounds_toArray,List.set_cons_succ,List.set_cons_zero]
    refine xB ?_
    clear HSB z0 z1 z2 z3 z4 z5 hgl w1 w2 t1 t2
    obtain ⟨Y0,hY0⟩:=ex9 (X7.drew)
    have hBY:Below X7.heap.size X7 Y0:=by rw [hY0];exact (Below.refl _ _).drew
    have HY:=hide (ai9 (H7.o.1.below hBY hBY.size) (ai9 (H7.o.2.1.below hBY H7.o.2.1.lt) (H7.o.2.2.trans (hBY.mono H7.o.2.2.size))))
    rw [←hY0]
    clear hBY hY0 hbg
    cases bg with
    | true=>
     go_wp2
     go_ret
     exact ⟨rfl,HY.o.2.2⟩
    | false=>
     obtain ⟨z0,z1,z2,z3,z4,z5⟩:=HY.o.2.1.six9
     have hgl:=HY.o.2.1.lt
     go_upto_region 12 with (go_at_call 14;refine (HK.o.2.2.1 _ _ _ _ _ _ _ _ _ _ Y0 HY.o.1).mono ?_;rintro e Y1 ⟨rfl,hB⟩;have HY1:=hide (HY.o.2.2.trans (hB.mono HY.o.2.2.size));clear hB)
     go_wp2
     go_ret
     exact ⟨rfl,HY1.o⟩
end Go.Proofs.YtmemofonebphfaaGreat
