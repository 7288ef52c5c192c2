import Derived.Test.YtmemofonebphfaaGreatV33
namespace Go.Proofs.YtmemofonebphfaaGreat
open Go.RowKit Go.Sort
def hafL (P:List Pt) (i:Nat):List Pt:=(P.take i).map halfP++P.drop i
theorem hafL_len (P:List Pt) (i:Nat):(hafL P i).length=P.length:=by unfold hafL;rw [List.length_append,List.length_map,List.length_take,List.length_drop];omega
theorem hafL_get {P:List Pt} {i:Nat} (h:i < P.length):(hafL P i)[i]? =P[i]? :=by
 unfold hafL
 rw [List.getElem?_append_right (by rw [List.length_map,List.length_take];omega),List.length_map,List.length_take,List.getElem?_drop]
 congr 1
 omega
theorem hafL_set {P:List Pt} {i:Nat} {x:Pt} (hx:P[i]? =some x):(hafL P i).set i (halfP x)=hafL P (i+1):=by
 have hi:=(List.getElem?_eq_some_iff.1 hx).1
 have hd:P.drop i=x::P.drop (i+1):=by
  rw [List.drop_eq_getElem_cons hi]
  congr 1
  rw [List.getElem?_eq_getElem hi] at hx
  exact Option.some.inj hx
 have hl:((P.take i).map halfP).length=i:=by rw [List.length_map,List.length_take];omega
 unfold hafL
 rw [hd,List.set_append_right _ _ (by omega),hl,Nat.sub_self,List.set_cons_zero,List.take_add_one,hx,List.map_append,List.append_assoc]
 rfl
theorem hafL_zero (P:List Pt):hafL P 0=P:=by unfold hafL;simp
theorem hafL_end (P:List Pt):hafL P P.length=P.map halfP:=by unfold hafL;simp
theorem wpMix_y {P:Program} {ops:Array Oper} {Q:Exit→Act→World→Prop} {md:Region.Mode} {S:World→Prop} {qs r:List Nat} {i:Nat} {a:Act} {w:World} {o:Oper} {v:Value} (hq:qs.contains i=false) (ho:ops[i]? =some o) (hS:S w) (hy:Region.wanted o (yielded ops a.tmps)=true∧∀w,S w→(execOp a.eval o).run P w= .ok (.value v) w) (h:wpMix P md ops Q S qs r (a.put o.dst v) w):wpMix P md ops Q S qs (i::r) a w:=by
 unfold wpMix
 rw [if_neg (by rw [hq];decide)]
 exact YieldsIf.wpOp ho (.inl hy) hS ⟨fun _=>hS,h⟩
theorem neq_pts (r1 r2 r3:Int) (hf:fitsP (r1,r2,r3)) (W:World):(binOp .neq 43 (.agg #[.int .i64 r1, .int .i64 r2, .int .i64 r3]) (.agg #[.int .i64 r1, .int .i64 r2, .int .i64 r3])).run Tryz.prog W= .ok (.bool false) W:=by
 have h:=eqP (r1,r2,r3) (r1,r2,r3) hf hf W
 rw [decide_eq_true rfl] at h
 rw [run_neq_struct]
 have h:(Op.equalIn 10000 43 (.agg #[.int .i64 r1, .int .i64 r2, .int .i64 r3]) (.agg #[.int .i64 r1, .int .i64 r2, .int .i64 r3])).run Tryz.prog W= .ok true W:=h
 rw [h]
 rfl
def MadeSaidL:Prop:=∀(Ap Ac Ao Ad:Option Addr) (cp cc oc dc:Nat) (s:ShpC) (w:World),ShpA w w.heap.size Ap Ac Ao Ad s→fits s.bits→s.points.length≤9223372036854775807∧s.creases.length≤9223372036854775807∧s.corners.length≤9223372036854775807∧s.details.length≤9223372036854775807→
  Calls Tryz.prog 15 #[vShp s.kind s.bits s.steps Ap s.points.length cp Ac s.creases.length cc Ao s.corners.length oc Ad s.details.length dc] w fun e w'=>CpyR w w' (madeC s) e
set_option maxRecDepth 100000 in
set_option maxHeartbeats 64000000 in
theorem linear9_of (hmade:MadeSaidL) (Ap Ac Ao Ad:Option Addr) (cp cc oc dc:Nat) (s:ShpC) (Ap2 Ac2 Ao2 Ad2:Option Addr) (cp2 cc2 oc2 dc2:Nat) (s2:ShpC) (w:World) (hm:ShpA w w.heap.size Ap Ac Ao Ad s) (hm2:ShpA w w.heap.size Ap2 Ac2 Ao2 Ad2 s2) (hb:fits s.bits) (hl:s.points.length≤9223372036854775807∧s.creases.length≤9223372036854775807∧s.corners.length≤9223372036854775807∧s.details.length≤9223372036854775807) (hl2:s2.points.length≤9223372036854775807∧s2.creases.length≤9223372036854775807∧s2.corners.length≤9223372036854775807∧s2.details.length≤9223372036854775807):
  Calls Tryz.prog 6 #[vShp s.kind s.bits s.steps Ap s.points.length cp Ac s.creases.length cc Ao s.corners.length oc Ad s.details.length dc,vShp s2.kind s2.bits s2.steps Ap2 s2.points.length cp2 Ac2 s2.creases.length cc2 Ao2 s2.corners.length oc2 Ad2 s2.details.length dc2] w fun e w'=>e= .returned (.bool true)∧Below w.heap.size w w':=by
 have km1:=fun (W:World) (hW:Below w.heap.size w W)=>hmade Ap Ac Ao Ad cp cc oc dc s W (hm.below hW hW.size) hb hl
 have km2:=fun (W:World) (hW:Below w.heap.size w W)=>hmade Ap2 Ac2 Ao2 Ad2 cp2 cc2 oc2 dc2 (shpB s s2) W (show ShpA W W.heap.size Ap2 Ac2 Ao2 Ad2 (shpB s s2) from ⟨(hm2.below hW hW.size).p,(hm2.below hW hW.size).c,(hm2.below hW hW.size).o,(hm2.below hW hW.size).d⟩) hb hl2
 have hsa:=made_small s
 have hsb:=made_small (shpB s s2)
 have hpa:∀p∈(madeC s).points,fitsP p:=fun p hp=>by
  have h:=(outR_no (right_of (made_right s)).rng) p hp
  have hd:(2097151:Int) / 16^(madeC s).steps.toNat≤2097151:=Int.ediv_le_self _ (by decide)
  refine ⟨?_,?_,?_⟩ <;>unfold fits <;>omega
 have hpb:∀p∈(madeC (shpB s s2)).points,fitsP p:=fun p hp=>by
  have h:=(outR_no (right_of (made_right (shpB s s2))).rng) p hp
  have hd:(2097151:Int) / 16^(madeC (shpB s s2)).steps.toNat≤2097151:=Int.ediv_le_self _ (by decide)
  refine ⟨?_,?_,?_⟩ <;>unfold fits <;>omega
 have hnab:(madeC (shpB s s2)).points.length=(madeC s).points.length:=by rw [made_np,made_np];rfl
 have htab:(madeC (shpB s s2)).tris.length=(madeC s).tris.length:=rfl
 have hsab:(madeC (shpB s s2)).steps=(madeC s).steps:=rfl
 obtain ⟨sb,hsb0⟩:∃x,x=shpB s s2:=⟨_,rfl⟩
 dsimp only [shpB] at km2
 rw [show ({s2 with kind:=s.kind,bits:=s.bits,steps:=s.steps}:ShpC)=sb from hsb0.symm] at km2
 rw [←hsb0] at hsb hpb hnab htab hsab
 obtain ⟨a0,ha0⟩:∃c,c=madeC s:=⟨_,rfl⟩
 obtain ⟨b0,hb0⟩:∃c,c=madeC sb:=⟨_,rfl⟩
 simp only [←ha0] at km1 hsa hpa hnab htab hsab
 simp only [←hb0] at km2 hsb hpb hnab htab hsab
 obtain ⟨np,hnp⟩:∃n,n=a0.points.length:=⟨_,rfl⟩
 obtain ⟨nt,hnt⟩:∃n,n=a0.tris.length:=⟨_,rfl⟩
 obtain ⟨nc,hnc⟩:∃n,n=a0.creases.length:=⟨_,rfl⟩
 obtain ⟨no,hno⟩:∃n,n=a0.corners.length:=⟨_,rfl⟩
 obtain ⟨nd,hnd⟩:∃n,n=a0.details.length:=⟨_,rfl⟩
 obtain ⟨st,hst⟩:∃n,n=a0.steps:=⟨_,rfl⟩
 obtain ⟨nc2,hnc2⟩:∃n,n=b0.creases.length:=⟨_,rfl⟩
 obtain ⟨no2,hno2⟩:∃n,n=b0.corners.length:=⟨_,rfl⟩
 obtain ⟨nd2,hnd2⟩:∃n,n=b0.details.length:=⟨_,rfl⟩
 rw [←hnp] at hnab
 rw [←hnt] at htab
 rw [←hst] at hsab
 have hnpl:np≤100000:=by rw [hnp];exact hsa.p
 have lwr:=lin_law s s2
 have rA:=linA_right s
 have rB:=linB_right s s2
 have rC:=linC_right s s2
 have bA:=linA_small s
 have bB:=linB_small s s2
 have bC:=linC_small s s2
 have kA:NoBack (linA s).tris:=lin_back s
 have kB:NoBack (linB s s2).tris:=made_back (shpB s s2)
 have kC:NoBack (linC s s2).tris:=lin_back s
 have fA:=lin_fits s s2
 have haP:=lin_addP s s2
 have haD:=lin_addD s s2
 have hlen:=lin_len s s2
 have hnd3:=lin_nd s s2
 have hplC:=(lin_pl s s2).1
 obtain ⟨cA,hcA⟩:∃c,c=linA s:=⟨_,rfl⟩
 obtain ⟨cB,hcB⟩:∃c,c=linB s s2:=⟨_,rfl⟩
 obtain ⟨cC,hcC⟩:∃c,c=linC s s2:=⟨_,rfl⟩
 have eA:({a0 with points:=hafL a0.points np}:Ctl)=cA:=by rw [hcA,hnp,hafL_end,ha0];rfl
 have eB:({b0 with creases:=a0.creases,corners:=a0.corners,points:=hafL b0.points np}:Ctl)=cB:=by rw [hcB,←hnab,hafL_end,hb0,ha0,hsb0];rfl
 have eC:({cA with points:=List.zipWith addZ cA.points cB.points,details:=sumD cA.details cB.details}:Ctl)=cC:=by rw [hcC,hcA,hcB];rfl
 have lA:cA.points.length=np∧cA.tris.length=nt∧cA.creases.length=nc∧cA.corners.length=no∧cA.details.length=nd∧cA.steps=st:=by
  rw [←eA]
  exact ⟨by show (hafL _ _).length=_;rw [hafL_len,hnp],hnt.symm,hnc.symm,hno.symm,hnd.symm,hst.symm⟩
 have lB:cB.points.length=np∧cB.tris.length=nt∧cB.creases.length=nc∧cB.corners.length=no∧cB.details.length=nd2∧cB.steps=st:=by
  rw [←eB]
  exact ⟨by show (hafL _ _).length=_;rw [hafL_len,hnab],htab,hnc.symm,hno.symm,hnd2.symm,hsab⟩
 rw [←hcA,←hcC] at hplC
 have lC:cC.points.length=np∧cC.tris.length=nt∧cC.creases.length=nc∧cC.corners.length=no∧cC.steps=st:=by
  refine ⟨by rw [←hplC];exact lA.1,?_⟩
  rw [←eC]
  exact ⟨lA.2.1,lA.2.2.1,lA.2.2.2.1,lA.2.2.2.2.2⟩
 rw [←hcA] at rA bA kA
 rw [←hcB] at rB bB kB
 rw [←hcC] at rC bC kC
 simp only [←hcA,←hcB,←hcC] at lwr fA haP haD hlen hnd3
 have hdd:=bA.dd
 obtain ⟨nC,hnC⟩:∃n,n=cC.details.length:=⟨_,rfl⟩
 obtain ⟨nF,hnF⟩:∃n,n=(finP cC).length:=⟨_,rfl⟩
 have hnFl:nF≤500000:=by rw [hnF];exact (fin_lens bC (fun _=>kC)).1
 obtain ⟨FA,hFA⟩:∃x,x=finP cA:=⟨_,rfl⟩
 obtain ⟨FB,hFB⟩:∃x,x=finP cB:=⟨_,rfl⟩
 obtain ⟨FC,hFC⟩:∃x,x=finP cC:=⟨_,rfl⟩
 rw [←hFA,←hFB,←hFC] at lwr
 rw [←hFC] at hnF
 rw [←hnF] at lwr
 have kcopy:=fun (Ap At Ac Ao Ad:Option Addr) (cp ct cc oc dc:Nat) (W:World) (h:CtlM W W.heap.size Ap At Ac Ao Ad cA)=>copy9D Ap At Ac Ao Ad cp ct cc oc dc cA W h bA
 have kfA:=fun (Ap At Ac Ao Ad:Option Addr) (cp ct cc oc dc:Nat) (W:World) (h:CtlM W W.heap.size Ap At Ac Ao Ad cA)=>fine_any Ap At Ac Ao Ad cp ct cc oc dc cA W h bA fA.1 (fun _=>kA)
 have kfB:=fun (Ap At Ac Ao Ad:Option Addr) (cp ct cc oc dc:Nat) (W:World) (h:CtlM W W.heap.size Ap At Ac Ao Ad cB)=>fine_any Ap At Ac Ao Ad cp ct cc oc dc cB W h bB fA.2.1 (fun _=>kB)
 have kfC:=fun (Ap At Ac Ao Ad:Option Addr) (cp ct cc oc dc:Nat) (W:World) (h:CtlM W W.heap.size Ap At Ac Ao Ad cC)=>fine_any Ap At Ac Ao Ad cp ct cc oc dc cC W h bC fA.2.2 (fun _=>kC)
 simp only [lA.1,lA.2.1,lA.2.2.1,lA.2.2.2.1,lA.2.2.2.2.1,lA.2.2.2.2.2,rA,←hFA,lwr.1] at kcopy kfA
 simp only [lB.1,lB.2.1,lB.2.2.1,lB.2.2.2.1,lB.2.2.2.2.1,lB.2.2.2.2.2,rB,←hFB,lwr.2.1] at kfB
 simp only [lC.1,lC.2.1,lC.2.2.1,lC.2.2.2.1,lC.2.2.2.2,rC,←hFC,←hnF,←hnC] at kfC
 rw [lA.2.2.2.2.1,lB.2.2.2.2.1] at hnd3
 have HE:=hide (And.intro eA (And.intro eB (And.intro eC (And.intro lA (And.intro lB (And.intro hlen (And.intro haP (And.intro haD hdd))))))))
 have HF:=hide (And.intro kcopy (And.intro kfA (And.intro kfB (And.intro kfC (And.intro lwr hnF)))))
 have HQ:=hide (And.intro hnd3 (And.intro hnC hnFl))
 clear lwr rA rB rC bA bB bC kA kB kC fA haP haD hlen hnd3 hplC eA eB eC lA lB lC hdd hnF hnFl kcopy kfA kfB kfC hcA hcB hcC hFA hFB hFC hnC
 have HK:=hide (And.intro km1 km2)
 have HN:=hide (And.intro hnp (And.intro hnt (And.intro hnc (And.intro hno (And.intro hnd hst)))))
 have HN2:=hide (And.intro hnab (And.intro htab (And.intro hnc2 (And.intro hno2 (And.intro hnd2 hsab)))))
 have HL:=hide (And.intro hpa (And.intro hpb (And.intro hsa (And.intro hsb (And.intro ha0 (And.intro hb0 hsb0))))))
 clear km1 km2 hpa hpb hsa hsb ha0 hb0 hsb0 hnp hnt hnc hno hnd hst hnab htab hnc2 hno2 hnd2 hsab hm hm2 hb hl hl2
 go_enter Tryz.func6,Tryz.ntmps6
 go_upto_region 1 with fail
 obtain ⟨g1,hg1⟩:∃g,g=w.heap.size:=⟨_,rfl⟩
 obtain ⟨g2,hg2⟩:∃g,g=w.heap.size+1:=⟨_,rfl⟩
 obtain ⟨X0,hX⟩:∃W,W=(w.alloc (.cells (cShp s.kind s.bits s.steps Ap s.points.length cp Ac s.creases.length cc Ao s.corners.length oc Ad s.details.length dc) 25)).alloc (.cells (cShp s2.kind s2.bits s2.steps Ap2 s2.points.length cp2 Ac2 s2.creases.length cc2 Ao2 s2.corners.length oc2 Ad2 s2.details.length dc2) 25):=⟨_,rfl⟩
 rw [←hX,←hg2,←hg1]
 have hb1:Blk X0 g1 25 (cShp s.kind s.bits s.steps Ap s.points.length cp Ac s.creases.length cc Ao s.corners.length oc Ad s.details.length dc):=by rw [hX,hg1];exact (Blk.new _ _ _).alloc _
 have hb2:Blk X0 g2 25 (cShp s2.kind s2.bits s2.steps Ap2 s2.points.length cp2 Ac2 s2.creases.length cc2 Ao2 s2.corners.length oc2 Ad2 s2.details.length dc2):=by rw [hX,hg2];exact Blk.new' _ _ _ _ (by simp)
 have hBX:Below w.heap.size w X0:=by rw [hX];exact ((Below.refl _ w).alloc (Nat.le_refl _) _).alloc (by simp) _
 have H0:=hide (And.intro hb1 (And.intro hb2 (And.intro hBX (show w.heap.size≤g2∧g1≠g2 by omega))))
 clear hb1 hb2 hBX hX hg1 hg2
 go_upto_region 2 with (go_at_call 13;refine (sanity9_any X0).mono ?_;rintro e X1 ⟨rfl,hB1⟩;have H1:=hide (And.intro (H0.out.1.below hB1 H0.out.1.lt) (And.intro (H0.out.2.1.below hB1 H0.out.2.1.lt) (H0.out.2.2.1.trans (hB1.mono H0.out.2.2.1.size))));clear hB1)
 obtain ⟨z0,z1,z2,z3,z4,z5,z6⟩:=H1.out.1.seven9
 have hgl:=H1.out.1.lt
 go_upto_region 3 with (go_at_call 15;refine (HK.out.1 X1 H1.out.2.2).mono ?_;rintro e X2 ⟨BA,A1,A2,A3,A4,A5,k1,k2,k3,k4,k5,rfl,ht,hp,hcr,hco,hd,hlb,hB⟩;have H2:=hide (And.intro ht (And.intro hp (And.intro hcr (And.intro hco (And.intro hd (And.intro hlb hB))))));clear ht hp hcr hco hd hlb hB)
 clear z0 z1 z2 z3 z4 z5 z6 hgl
 try simp only [←HN.out.1,←HN.out.2.1,←HN.out.2.2.1,←HN.out.2.2.2.1,←HN.out.2.2.2.2.1,←HN.out.2.2.2.2.2]
 obtain ⟨ga,hga⟩:∃g,g=X2.heap.size:=⟨_,rfl⟩
 obtain ⟨X3,hX3⟩:∃W,W=X2.alloc (.cells (cMad (.slice A1 np k1) (.slice A2 nt k2) (.slice A3 nc k3) (.slice A4 no k4) st (.slice A5 nd k5)) 32):=⟨_,rfl⟩
 rw [←hX3,←hga]
 have hBa:Below X2.heap.size X2 X3:=by rw [hX3];exact (Below.refl _ _).alloc (Nat.le_refl _) _
 have hzX:X3.heap.size=ga+1:=by rw [hX3,hga];simp
 have hba:Blk X3 ga 32 (cMad (.slice A1 np k1) (.slice A2 nt k2) (.slice A3 nc k3) (.slice A4 no k4) st (.slice A5 nd k5)):=by rw [hX3,hga];exact Blk.new _ _ _
 have hMa:∃ss,MshL X3 X1.heap.size BA X3.heap.size ga (.slice A1 np k1) (.slice A2 nt k2) (.slice A3 nc k3) (.slice A4 no k4) (.slice A5 nd k5) ss a0:=by
  rw [HN.out.1,HN.out.2.1,HN.out.2.2.1,HN.out.2.2.2.1,HN.out.2.2.2.2.1]
  refine msh_made H2.out.1 H2.out.2.1 H2.out.2.2.1 H2.out.2.2.2.1 H2.out.2.2.2.2.1 H2.out.2.2.2.2.2.1 hBa hga hzX ?_
  rw [HN.out.1,HN.out.2.1,HN.out.2.2.1,HN.out.2.2.2.1,HN.out.2.2.2.2.1,HN.out.2.2.2.2.2] at hba
  exact hba
 obtain ⟨sA,hMa⟩:=hMa
 have hB13:=H2.out.2.2.2.2.2.2.trans (hBa.mono H2.out.2.2.2.2.2.2.size)
 have h11:=H1.out.1.below hB13 H1.out.1.lt
 have h12:=H1.out.2.1.below hB13 H1.out.2.1.lt
 have hw3:=H1.out.2.2.trans (hB13.mono H1.out.2.2.size)
 have hX13:=H1.out.2.2.size
 have e0:X3.cell? ⟨g1,0,none⟩=some (.int .i64 s.kind):=h11.cell 0
 have e1:X3.cell? ⟨g1,1,none⟩=some (.int .i64 s.bits):=h11.cell 1
 have e2:X3.cell? ⟨g1,2,none⟩=some (.int .i64 s.steps):=h11.cell 2
 have y0:X3.cell? ⟨g2,0,none⟩=some (.int .i64 s2.kind):=h12.cell 0
 have y1:X3.cell? ⟨g2,1,none⟩=some (.int .i64 s2.bits):=h12.cell 1
 have y2:X3.cell? ⟨g2,2,none⟩=some (.int .i64 s2.steps):=h12.cell 2
 have f0:=h12.frozen 0
 have f1:=h12.frozen 1
 have f2:=h12.frozen 2
 have l1:=h11.lt
 have l2:=h12.lt
 have hg12:=H0.out.2.2.2.2
 have H3:=hide (And.intro hMa (And.intro h12 (And.intro hw3 (And.intro hX13 (And.intro H1.out.2.1.lt hzX)))))
 clear hMa h11 h12 hw3 hX13 hB13 hba hzX hBa hX3 hga
 go_upto_region 6 with fail
 clear e0 e1 e2 y0 y1 y2 f0 f1 f2 l1 l2 hg12
 obtain ⟨X4,hX4⟩:∃W,W=((X3.setCell ⟨g2,0,none⟩ (.int .i64 s.kind)).setCell ⟨g2,1,none⟩ (.int .i64 s.bits)).setCell ⟨g2,2,none⟩ (.int .i64 s.steps):=⟨_,rfl⟩
 rw [←hX4]
 have hg4:X3.grownBy X4 (some g2):=by rw [hX4];exact setW_grown g2 [.int .i64 s.kind, .int .i64 s.bits, .int .i64 s.steps] X3 0
 have h24:Blk X4 g2 25 (cShp s.kind s.bits s.steps Ap2 s2.points.length cp2 Ac2 s2.creases.length cc2 Ao2 s2.corners.length oc2 Ad2 s2.details.length dc2):=by rw [hX4];exact ((H3.out.2.1.set_ 0 (.int .i64 s.kind)).set_ 1 (.int .i64 s.bits)).set_ 2 (.int .i64 s.steps)
 have hMa:=H3.out.1.box H3.out.2.1 hg4 (by have h1:=H3.out.1.gr.1;have h2:=H3.out.2.2.2.2.1;omega) (by decide) (by decide) (by decide) (by decide) (by decide)
 have hw4:=H3.out.2.2.1.trans (grown_bel hg4 H0.out.2.2.2.1 H3.out.2.2.1.size)
 have hz34:=hg4.size
 obtain ⟨z0,z1,z2,z3,z4,z5,z6⟩:=h24.seven9
 have hgl:=h24.lt
 have H4:=hide (And.intro hMa (And.intro hw4 hz34))
 clear hMa hw4 hz34 h24 hg4 hX4
 go_upto_region 7 with (go_at_call 15;refine (HK.out.2 X4 H4.out.2.1).mono ?_;rintro e X5 ⟨BB,B1,B2,B3,B4,B5,b1,b2,b3,b4,b5,rfl,ht,hp,hcr,hco,hd,hlb,hB⟩;have H5:=hide (And.intro ht (And.intro hp (And.intro hcr (And.intro hco (And.intro hd (And.intro hlb hB))))));clear ht hp hcr hco hd hlb hB)
 clear z0 z1 z2 z3 z4 z5 z6 hgl
 try simp only [HN2.out.1,HN2.out.2.1,←HN2.out.2.2.1,←HN2.out.2.2.2.1,←HN2.out.2.2.2.2.1,HN2.out.2.2.2.2.2]
 obtain ⟨gb,hgb⟩:∃g,g=X5.heap.size:=⟨_,rfl⟩
 obtain ⟨X6,hX6⟩:∃W,W=X5.alloc (.cells (cMad (.slice B1 np b1) (.slice B2 nt b2) (.slice B3 nc2 b3) (.slice B4 no2 b4) st (.slice B5 nd2 b5)) 32):=⟨_,rfl⟩
 rw [←hX6,←hgb]
 have hBa:Below X5.heap.size X5 X6:=by rw [hX6];exact (Below.refl _ _).alloc (Nat.le_refl _) _
 have hzX:X6.heap.size=gb+1:=by rw [hX6,hgb];simp
 have hbb:Blk X6 gb 32 (cMad (.slice B1 np b1) (.slice B2 nt b2) (.slice B3 nc2 b3) (.slice B4 no2 b4) st (.slice B5 nd2 b5)):=by rw [hX6,hgb];exact Blk.new _ _ _
 have hMb:∃ss,MshL X6 X4.heap.size BB X6.heap.size gb (.slice B1 np b1) (.slice B2 nt b2) (.slice B3 nc2 b3) (.slice B4 no2 b4) (.slice B5 nd2 b5) ss b0:=by
  rw [←HN2.out.1,←HN2.out.2.1,HN2.out.2.2.1,HN2.out.2.2.2.1,HN2.out.2.2.2.2.1]
  refine msh_made H5.out.1 H5.out.2.1 H5.out.2.2.1 H5.out.2.2.2.1 H5.out.2.2.2.2.1 H5.out.2.2.2.2.2.1 hBa hgb hzX ?_
  rw [←HN2.out.1,←HN2.out.2.1,HN2.out.2.2.1,HN2.out.2.2.2.1,HN2.out.2.2.2.2.1,←HN2.out.2.2.2.2.2] at hbb
  exact hbb
 obtain ⟨sB,hMb⟩:=hMb
 have hB46:=H5.out.2.2.2.2.2.2.trans (hBa.mono H5.out.2.2.2.2.2.2.size)
 have hMa:=H4.out.1.below hB46
 have hw6:=H4.out.2.1.trans (hB46.mono H4.out.2.1.size)
 have z2:X6.cell? ⟨ga,2,none⟩=some (.slice A3 nc k3):=hMa.b.cell 2
 have z3:X6.cell? ⟨ga,3,none⟩=some (.slice A4 no k4):=hMa.b.cell 3
 have y2:X6.cell? ⟨gb,2,none⟩=some (.slice B3 nc2 b3):=hMb.b.cell 2
 have y3:X6.cell? ⟨gb,3,none⟩=some (.slice B4 no2 b4):=hMb.b.cell 3
 have f2:=hMb.b.frozen 2
 have f3:=hMb.b.frozen 3
 have l1:=hMa.b.lt
 have l2:=hMb.b.lt
 have hne:ga≠gb:=by have h1:=hMa.gr.2;have h2:=hMb.gr.1;have h3:=H4.out.2.2;omega
 have H6:=hide (And.intro hMa (And.intro hMb (And.intro hw6 (And.intro (show X3.heap.size≤X4.heap.size from H4.out.2.2) hne))))
 clear hMa hMb hw6 hB46 hbb hzX hBa hX6 hgb
 go_upto_region 9 with fail
 clear z2 z3 y2 y3 f2 f3 l1 l2 hne
 obtain ⟨X7,hX7⟩:∃W,W=(X6.setCell ⟨gb,2,none⟩ (.slice A3 nc k3)).setCell ⟨gb,3,none⟩ (.slice A4 no k4):=⟨_,rfl⟩
 rw [←hX7]
 have hg7:X6.grownBy X7 (some gb):=by rw [hX7];exact setW_grown gb [.slice A3 nc k3, .slice A4 no k4] X6 2
 have hMb:MshL X7 X4.heap.size BB X6.heap.size gb (.slice B1 np b1) (.slice B2 nt b2) (.slice A3 nc k3) (.slice A4 no k4) (.slice B5 nd2 b5) sB {b0 with creases:=a0.creases,corners:=a0.corners,points:=hafL b0.points 0}:=by
  rw [hX7,hafL_zero]
  have hc:=H6.out.1.cr
  have ho:=H6.out.1.o
  rw [show a0.creases.length=nc from HN.out.2.2.1.symm] at hc
  rw [show a0.corners.length=no from HN.out.2.2.2.1.symm] at ho
  have h1:=H6.out.2.1.putC (v:= .slice A3 nc k3) (C:=a0.creases) (by rw [show a0.creases.length=nc from HN.out.2.2.1.symm];exact hc)
  exact h1.putO (v:= .slice A4 no k4) (C:=a0.corners) (by rw [show a0.corners.length=no from HN.out.2.2.2.1.symm];exact ho.step (grown_set9 X6 gb 2 (.slice A3 nc k3)) (ctl_row H6.out.2.1.b (by decide) _))
 have hMa:MshL X7 X1.heap.size BA X3.heap.size ga (.slice A1 np k1) (.slice A2 nt k2) (.slice A3 nc k3) (.slice A4 no k4) (.slice A5 nd k5) sA {a0 with points:=hafL a0.points 0}:=by
  rw [hafL_zero]
  exact H6.out.1.box H6.out.2.1.b hg7 H6.out.2.2.2.2 (by decide) (by decide) (by decide) (by decide) (by decide)
 have hw7:=H6.out.2.2.1.trans (grown_bel hg7 (by have h1:=H6.out.2.1.gr.1;have h2:=H4.out.2.1.size;omega) H6.out.2.2.1.size)
 have H7:=hide (And.intro hMa (And.intro hMb hw7))
 have HZ:=hide (show w.heap.size≤X1.heap.size∧X3.heap.size≤X4.heap.size∧w.heap.size≤X4.heap.size from ⟨H3.out.2.2.2.1,H6.out.2.2.2.1,H4.out.2.1.size⟩)
 clear hMa hMb hw7 hg7 hX7
 go_upto_region 10 with fail
 go_loopw [8] (fun iv wr=>∃i:Nat,i≤np∧iv= .int .i64 i∧MshL wr X1.heap.size BA X3.heap.size ga (.slice A1 np k1) (.slice A2 nt k2) (.slice A3 nc k3) (.slice A4 no k4) (.slice A5 nd k5) sA {a0 with points:=hafL a0.points i}∧MshL wr X4.heap.size BB X6.heap.size gb (.slice B1 np b1) (.slice B2 nt b2) (.slice A3 nc k3) (.slice A4 no k4) (.slice B5 nd2 b5) sB {b0 with creases:=a0.creases,corners:=a0.corners,points:=hafL b0.points i}∧Below w.heap.size w wr) (fun iv _=>np - (intOf iv).toNat)
 case atStart=>exact ⟨0,by omega,rfl,H7.out⟩
 case round=>
  obtain ⟨i,hi,rfl,hA,hB,hw⟩:=hrel
  obtain ⟨V,rfl⟩:∃x,x=wr:=⟨_,rfl⟩
  have z0:V.cell? ⟨ga,0,none⟩=some (.slice A1 np k1):=hA.b.cell 0
  have lga:=hA.b.lt
  by_cases hlt:i < np
  ·have i1:(i:Int) < (np:Int):=by omega
   as_aux_lemma=>
    obtain ⟨U,rfl⟩:∃x,x=V:=⟨_,rfl⟩
    obtain ⟨x,hx⟩:∃x,a0.points[i]? =some x:=⟨_,List.getElem?_eq_getElem (by rw [HN.out.1.symm];exact hlt)⟩
    have hfx:=HL.out.1 x (List.mem_of_getElem? hx)
    have hset:=hafL_set hx
    have hP0:Own encP 3 43 U X1.heap.size (.slice A1 np k1) np (hafL a0.points i):=by
     have h:=hA.p
     rw [show (hafL a0.points i).length=np by rw [hafL_len];exact HN.out.1.symm] at h
     exact h
    obtain ⟨gp,cur,hA9,hge,hbT,hcap⟩:=own_some hP0 (by omega)
    subst hA9
    obtain ⟨b',o',hA9,hb',y0,y1,y2⟩:=(show Sl encP 3 U U.heap.size (some ⟨gp,0,none⟩) (hafL a0.points i) from hP0.sl encP_len (Nat.le_refl _)).pt9 (show (hafL a0.points i)[i]? =some x by rw [hafL_get (by rw [HN.out.1.symm];exact hlt)];exact hx)
    cases hA9
    rw [Nat.zero_add] at y0 y1 y2
    have kh:=half9_any x hfx
    obtain ⟨q,hq⟩:∃q,q=halfP x:=⟨_,rfl⟩
    rw [←hq] at hset
    simp only [←hq] at kh
    obtain ⟨q1,q2,q3⟩:=q
    obtain ⟨x1,x2,x3⟩:=x
    try simp only at y0 y1 y2
    have zz:U.cell? ⟨ga,0,none⟩=some (.slice (some ⟨gp,0,none⟩) np k1):=hA.b.cell 0
    have HC:=hide (And.intro zz (And.intro hA.b.lt (And.intro y0 (And.intro y1 (And.intro y2 hbT.lt)))))
    have HP:=hide (And.intro hP0 (And.intro hset (And.intro kh hbT)))
    clear hP0 hset kh hbT zz y0 y1 y2 hx hfx hq hge hcap hb'
    have HAB:=hide (And.intro hA (And.intro hB hw))
    clear hA hB hw
    go_upto_region 12 with fail
    clear z0 lga
    have HSB:=hide (show Below U.heap.size U U.drew from (Below.refl _ U).drew)
    refine wp_region_mix (fun W=>Below U.heap.size U W) [0,1,2,3,4,5,6,7,9] [0,1,2,3,4,5,6,7,8,9,10] mixed_ok (by kernel_rfl) ?_
    refine wpMix_q (v:=(.pointer (some ⟨ga,0,none⟩))) rfl rfl (fun _ _ _ h=>h) HSB.out ⟨rfl,fun _ _=>by simp [go_sem]⟩ ?_
    refine wpMix_q (v:=(.slice (some ⟨gp,0,none⟩) np k1)) rfl rfl (fun _ _ _ h=>h) HSB.out ⟨rfl,fun _ h'=>by have a0:=(h'.cell (p:=⟨ga,0,none⟩) HC.out.2.1).trans HC.out.1;simp [go_sem,a0]⟩ ?_
    refine wpMix_q (v:=(.int .i64 i)) rfl rfl (fun _ _ _ h=>h) HSB.out ⟨rfl,fun _ _=>by simp [go_sem]⟩ ?_
    refine wpMix_q (v:=(.pointer (some ⟨ga,0,none⟩))) rfl rfl (fun _ _ _ h=>h) HSB.out ⟨rfl,fun _ _=>by simp [go_sem]⟩ ?_
    refine wpMix_q (v:=(.slice (some ⟨gp,0,none⟩) np k1)) rfl rfl (fun _ _ _ h=>h) HSB.out ⟨rfl,fun _ h'=>by have a0:=(h'.cell (p:=⟨ga,0,none⟩) HC.out.2.1).trans HC.out.1;simp [go_sem,a0]⟩ ?_
    refine wpMix_q (v:=(.int .i64 i)) rfl rfl (fun _ _ _ h=>h) HSB.out ⟨rfl,fun _ _=>by simp [go_sem]⟩ ?_
    simp only [List.getElem_toArray,List.getElem_cons_succ,List.getElem_cons_zero,Act.put,List.setIfInBounds_toArray,List.set_cons_succ,List.set_cons_zero]
    refine wpMix_q (v:=(.pointer (some ⟨gp,i*3,none⟩))) rfl rfl (fun _ _ _ h=>h) HSB.out ⟨rfl,fun _ _=>by simp [go_sem,i1]⟩ ?_
    refine wpMix_q (v:=(.agg #[.int .i64 x1, .int .i64 x2, .int .i64 x3])) rfl rfl (fun _ _ _ h=>h) HSB.out ⟨rfl,fun _ h'=>by have a0:=(h'.cell (p:=⟨gp,i*3,none⟩) HC.out.2.2.2.2.2).trans HC.out.2.2.1;have a1:=(h'.cell (p:=⟨gp,i*3+1,none⟩) HC.out.2.2.2.2.2).trans HC.out.2.2.2.1;have a2:=(h'.cell (p:=⟨gp,i*3+2,none⟩) HC.out.2.2.2.2.2).trans HC.out.2.2.2.2.1;simp [go_sem,a0,a1,a2]⟩ ?_
    simp only [List.getElem_toArray,List.getElem_cons_succ,List.getElem_cons_zero,Act.put,List.setIfInBounds_toArray,List.set_cons_succ,List.set_cons_zero]
    refine wpMix_n rfl rfl ?_
    go_wp2_with fail
    refine (HP.out.2.2.1 U.drew).mono ?_
    rintro e U2 ⟨rfl,hB2⟩
    have hBU:Below U.heap.size U U2:=HSB.out.trans (hB2.mono HSB.out.size)
    have hbT2:=HP.out.2.2.2.below hBU HP.out.2.2.2.lt
    have fr0:=hbT2.frozen (i*3)
    have fr1:=hbT2.frozen (i*3+1)
    have fr2:=hbT2.frozen (i*3+2)
    have y0:=(hBU.cell (p:=⟨gp,i*3,none⟩) HC.out.2.2.2.2.2).trans HC.out.2.2.1
    have y1:=(hBU.cell (p:=⟨gp,i*3+1,none⟩) HC.out.2.2.2.2.2).trans HC.out.2.2.2.1
    have y2:=(hBU.cell (p:=⟨gp,i*3+2,none⟩) HC.out.2.2.2.2.2).trans HC.out.2.2.2.2.1
    have hgpl:=hbT2.lt
    have HU2:=hide (And.intro hBU hbT2)
    clear hBU hbT2 hB2
    go_wp2_with fail
    refine ⟨fun _=>HU2.out.1,?_⟩
    refine wpMix_q (v:=(.pointer (some ⟨gp,i*3,none⟩))) rfl rfl (fun _ _ _ h=>h) HU2.out.1 ⟨rfl,fun _ _=>by simp [go_sem,i1]⟩ ?_
    simp only [List.getElem_toArray,List.getElem_cons_succ,List.getElem_cons_zero,Act.put,List.setIfInBounds_toArray,List.set_cons_succ,List.set_cons_zero]
    refine wpMix_tail _ [_] (by kernel_rfl) rfl ?_
    clear HSB
    have hgr:=setW_grown gp (encP ((q1,q2,q3):Pt)) U2 (i*3)
    have h1:=(HP.out.1.below HU2.out.1 (Nat.le_refl _)).setW encP_len (i:=i) (by rw [hafL_len,HN.out.1.symm];exact hlt) ((q1,q2,q3):Pt)
    rw [HP.out.2.1] at h1
    have hn1:(hafL a0.points (i+1)).length=np:=by rw [hafL_len];exact HN.out.1.symm
    have hA3:=(HAB.out.1.below HU2.out.1).setP hgr (Q:=hafL a0.points (i+1)) (by rw [hn1];exact h1)
    have hB3:=(HAB.out.2.1.below HU2.out.1).far HU2.out.2 hgr (.inl (by have h2:=HAB.out.1.pr gp rfl;have h3:=HAB.out.1.lm;have h4:=HZ.out.2.1;omega))
    have hw3:=(HAB.out.2.2.trans (HU2.out.1.mono HAB.out.2.2.size)).trans (grown_bel hgr (by have h2:=(HAB.out.1.p.blk gp rfl).1;have h3:=HZ.out.1;omega) (by have h2:=HAB.out.2.2.size;have h3:=HU2.out.1.size;omega))
    have H9:=hide (And.intro hA3 (And.intro hB3 hw3))
    clear hgr h1 hn1 hA3 hB3 hw3 HC HP
    go_upto_region 13 with fail
    clear fr0 fr1 fr2 y0 y1 y2 hgpl HU2 HAB
    obtain ⟨U3,hU3⟩:∃W,W=setW U2 gp (i*3) (encP ((q1,q2,q3):Pt)):=⟨_,rfl⟩
    rw [show ((U2.setCell ⟨gp,i*3,none⟩ (.int .i64 q1)).setCell ⟨gp,i*3+1,none⟩ (.int .i64 q2)).setCell ⟨gp,i*3+2,none⟩ (.int .i64 q3)=U3 from hU3.symm]
    rw [←hU3] at H9
    clear hU3
    obtain ⟨v,hv⟩:∃v,b0.points[i]? =some v:=⟨_,List.getElem?_eq_getElem (by rw [HN2.out.1];exact hlt)⟩
    have hfx:=HL.out.2.1 v (List.mem_of_getElem? hv)
    have hset:=hafL_set hv
    have hP0:Own encP 3 43 U3 X4.heap.size (.slice B1 np b1) np (hafL b0.points i):=by
     have h:=H9.out.2.1.p
     rw [show (hafL b0.points i).length=np by rw [hafL_len];exact HN2.out.1] at h
     exact h
    obtain ⟨gq,cur,hA9,hge,hbT,hcap⟩:=own_some hP0 (by omega)
    subst hA9
    obtain ⟨b',o',hA9,hb',y0,y1,y2⟩:=(show Sl encP 3 U3 U3.heap.size (some ⟨gq,0,none⟩) (hafL b0.points i) from hP0.sl encP_len (Nat.le_refl _)).pt9 (show (hafL b0.points i)[i]? =some v by rw [hafL_get (by rw [HN2.out.1];exact hlt)];exact hv)
    cases hA9
    rw [Nat.zero_add] at y0 y1 y2
    have kh:=half9_any v hfx
    obtain ⟨r,hq⟩:∃r,r=halfP v:=⟨_,rfl⟩
    rw [←hq] at hset
    simp only [←hq] at kh
    obtain ⟨r1,r2,r3⟩:=r
    obtain ⟨v1,v2,v3⟩:=v
    try simp only at y0 y1 y2
    have zz:U3.cell? ⟨gb,0,none⟩=some (.slice (some ⟨gq,0,none⟩) np b1):=H9.out.2.1.b.cell 0
    have HC2:=hide (And.intro zz (And.intro H9.out.2.1.b.lt (And.intro y0 (And.intro y1 (And.intro y2 hbT.lt)))))
    have HP2:=hide (And.intro hP0 (And.intro hset (And.intro kh hbT)))
    clear hP0 hset kh hbT zz y0 y1 y2 hv hfx hq hge hcap hb'
    have HSB:=hide (show Below U3.heap.size U3 U3.drew from (Below.refl _ U3).drew)
    refine wp_region_mix (fun W=>Below U3.heap.size U3 W) [0,1,2,3,4,5,6,7,9] [0,1,2,3,4,5,6,7,8,9,10] mixed_ok (by kernel_rfl) ?_
    refine wpMix_q (v:=(.pointer (some ⟨gb,0,none⟩))) rfl rfl (fun _ _ _ h=>h) HSB.out ⟨rfl,fun _ _=>by simp [go_sem]⟩ ?_
    refine wpMix_q (v:=(.slice (some ⟨gq,0,none⟩) np b1)) rfl rfl (fun _ _ _ h=>h) HSB.out ⟨rfl,fun _ h'=>by have a0:=(h'.cell (p:=⟨gb,0,none⟩) HC2.out.2.1).trans HC2.out.1;simp [go_sem,a0]⟩ ?_
    refine wpMix_q (v:=(.int .i64 i)) rfl rfl (fun _ _ _ h=>h) HSB.out ⟨rfl,fun _ _=>by simp [go_sem]⟩ ?_
    refine wpMix_q (v:=(.pointer (some ⟨gb,0,none⟩))) rfl rfl (fun _ _ _ h=>h) HSB.out ⟨rfl,fun _ _=>by simp [go_sem]⟩ ?_
    refine wpMix_q (v:=(.slice (some ⟨gq,0,none⟩) np b1)) rfl rfl (fun _ _ _ h=>h) HSB.out ⟨rfl,fun _ h'=>by have a0:=(h'.cell (p:=⟨gb,0,none⟩) HC2.out.2.1).trans HC2.out.1;simp [go_sem,a0]⟩ ?_
    refine wpMix_q (v:=(.int .i64 i)) rfl rfl (fun _ _ _ h=>h) HSB.out ⟨rfl,fun _ _=>by simp [go_sem]⟩ ?_
    simp only [List.getElem_toArray,List.getElem_cons_succ,List.getElem_cons_zero,Act.put,List.setIfInBounds_toArray,List.set_cons_succ,List.set_cons_zero]
    refine wpMix_q (v:=(.pointer (some ⟨gq,i*3,none⟩))) rfl rfl (fun _ _ _ h=>h) HSB.out ⟨rfl,fun _ _=>by simp [go_sem,i1]⟩ ?_
    refine wpMix_q (v:=(.agg #[.int .i64 v1, .int .i64 v2, .int .i64 v3])) rfl rfl (fun _ _ _ h=>h) HSB.out ⟨rfl,fun _ h'=>by have a0:=(h'.cell (p:=⟨gq,i*3,none⟩) HC2.out.2.2.2.2.2).trans HC2.out.2.2.1;have a1:=(h'.cell (p:=⟨gq,i*3+1,none⟩) HC2.out.2.2.2.2.2).trans HC2.out.2.2.2.1;have a2:=(h'.cell (p:=⟨gq,i*3+2,none⟩) HC2.out.2.2.2.2.2).trans HC2.out.2.2.2.2.1;simp [go_sem,a0,a1,a2]⟩ ?_
    simp only [List.getElem_toArray,List.getElem_cons_succ,List.getElem_cons_zero,Act.put,List.setIfInBounds_toArray,List.set_cons_succ,List.set_cons_zero]
    refine wpMix_n rfl rfl ?_
    go_wp2_with fail
    refine (HP2.out.2.2.1 U3.drew).mono ?_
    rintro e V2 ⟨rfl,hB2⟩
    have hBV:Below U3.heap.size U3 V2:=HSB.out.trans (hB2.mono HSB.out.size)
    have hbT2:=HP2.out.2.2.2.below hBV HP2.out.2.2.2.lt
    have fr0:=hbT2.frozen (i*3)
    have fr1:=hbT2.frozen (i*3+1)
    have fr2:=hbT2.frozen (i*3+2)
    have y0:=(hBV.cell (p:=⟨gq,i*3,none⟩) HC2.out.2.2.2.2.2).trans HC2.out.2.2.1
    have y1:=(hBV.cell (p:=⟨gq,i*3+1,none⟩) HC2.out.2.2.2.2.2).trans HC2.out.2.2.2.1
    have y2:=(hBV.cell (p:=⟨gq,i*3+2,none⟩) HC2.out.2.2.2.2.2).trans HC2.out.2.2.2.2.1
    have hgql:=hbT2.lt
    have HV2:=hide (And.intro hBV hbT2)
    clear hBV hbT2 hB2
    go_wp2_with fail
    refine ⟨fun _=>HV2.out.1,?_⟩
    refine wpMix_q (v:=(.pointer (some ⟨gq,i*3,none⟩))) rfl rfl (fun _ _ _ h=>h) HV2.out.1 ⟨rfl,fun _ _=>by simp [go_sem,i1]⟩ ?_
    simp only [List.getElem_toArray,List.getElem_cons_succ,List.getElem_cons_zero,Act.put,List.setIfInBounds_toArray,List.set_cons_succ,List.set_cons_zero]
    refine wpMix_tail _ [_] (by kernel_rfl) rfl ?_
    clear HSB
    have hgr:=setW_grown gq (encP ((r1,r2,r3):Pt)) V2 (i*3)
    have h1:=(HP2.out.1.below HV2.out.1 (Nat.le_refl _)).setW encP_len (i:=i) (by rw [hafL_len,HN2.out.1];exact hlt) ((r1,r2,r3):Pt)
    rw [HP2.out.2.1] at h1
    have hn1:(hafL b0.points (i+1)).length=np:=by rw [hafL_len];exact HN2.out.1
    have hB4:=(H9.out.2.1.below HV2.out.1).setP hgr (Q:=hafL b0.points (i+1)) (by rw [hn1];exact h1)
    have hA4:=(H9.out.1.below HV2.out.1).far HV2.out.2 hgr (.inr (by have h2:=(H9.out.2.1.p.blk gq rfl).1;have h4:=HZ.out.2.1;omega))
    have hw4:=(H9.out.2.2.trans (HV2.out.1.mono H9.out.2.2.size)).trans (grown_bel hgr (by have h2:=(H9.out.2.1.p.blk gq rfl).1;have h3:=HZ.out.2.2;omega) (by have h2:=H9.out.2.2.size;have h3:=HV2.out.1.size;omega))
    have H10:=hide (And.intro hA4 (And.intro hB4 hw4))
    clear hgr h1 hn1 hA4 hB4 hw4 HC2 HP2 H9
    have tw:wrap64 ((i:Int)+1)=((i+1:Nat):Int):=by unfold wrap64;omega
    go_upto_region 11 with fail
    clear fr0 fr1 fr2 y0 y1 y2 hgql HV2
    obtain ⟨V4,hV4⟩:∃W,W=setW V2 gq (i*3) (encP ((r1,r2,r3):Pt)):=⟨_,rfl⟩
    rw [←hV4] at H10
    rw [show ((V2.setCell ⟨gq,i*3,none⟩ (.int .i64 r1)).setCell ⟨gq,i*3+1,none⟩ (.int .i64 r2)).setCell ⟨gq,i*3+2,none⟩ (.int .i64 r3)=V4 from hV4.symm]
    clear hV4
    go_wp2
    go_roundw
    case rel=>exact ⟨i+1,by omega,by go_num,H10.out⟩
    case measure=>(simp [intOf];try omega)
  ·obtain rfl:np=i:=by omega
   have i1:¬(np:Int) < (np:Int):=by omega
   rw [HE.out.1] at hA
   rw [HE.out.2.1] at hB
   have hbA:Blk V ga 32 (cMad (.slice A1 np k1) (.slice A2 nt k2) (.slice A3 nc k3) (.slice A4 no k4) st (.slice A5 nd k5)):=by
    have h:=hA.b
    rw [HE.out.2.2.2.1.2.2.2.2.2] at h
    exact h
   obtain ⟨_,z1,z2,z3,z4,z5⟩:=hbA.six9
   have H8:=hide (And.intro hA (And.intro hB hw))
   clear hA hB hw hbA hi hlt
   go_upto_region 15 with (go_at_call 21;refine (HF.out.1 _ _ _ _ _ _ _ _ _ _ V H8.out.1.ctlM).mono ?_;rintro e V2 ⟨BC,C1,C2,C3,C4,C5,q1,q2,q3,q4,q5,rfl,ht,hp,hcr,hco,hd,hlb,hB⟩;have H9:=hide (And.intro ht (And.intro hp (And.intro hcr (And.intro hco (And.intro hd (And.intro hlb hB))))));clear ht hp hcr hco hd hlb hB)
   clear z0 z1 z2 z3 z4 z5 lga i1
   try simp only [HE.out.2.2.2.1.1,HE.out.2.2.2.1.2.1,HE.out.2.2.2.1.2.2.1,HE.out.2.2.2.1.2.2.2.1,HE.out.2.2.2.1.2.2.2.2.1,HE.out.2.2.2.1.2.2.2.2.2]
   obtain ⟨gc,hgc⟩:∃g,g=V2.heap.size:=⟨_,rfl⟩
   obtain ⟨X9,hX9⟩:∃W,W=V2.alloc (.cells (cMad (.slice C1 np q1) (.slice C2 nt q2) (.slice C3 nc q3) (.slice C4 no q4) st (.slice C5 nd q5)) 32):=⟨_,rfl⟩
   rw [←hX9,←hgc]
   have hBa:Below V2.heap.size V2 X9:=by rw [hX9];exact (Below.refl _ _).alloc (Nat.le_refl _) _
   have hzX:X9.heap.size=gc+1:=by rw [hX9,hgc];simp
   have hbc:Blk X9 gc 32 (cMad (.slice C1 np q1) (.slice C2 nt q2) (.slice C3 nc q3) (.slice C4 no q4) st (.slice C5 nd q5)):=by rw [hX9,hgc];exact Blk.new _ _ _
   have hMc:∃ss,MshL X9 V.heap.size BC X9.heap.size gc (.slice C1 np q1) (.slice C2 nt q2) (.slice C3 nc q3) (.slice C4 no q4) (.slice C5 nd q5) ss {cA with points:=zpL cA.points cB.points 0}∧ss.Pairwise Apart2:=by
    rw [zpL_zero]
    have h:=msh_copied H9.out.1 H9.out.2.1 H9.out.2.2.1 H9.out.2.2.2.1 H9.out.2.2.2.2.1 H9.out.2.2.2.2.2.1 hBa hgc hzX (by simp only [HE.out.2.2.2.1.1,HE.out.2.2.2.1.2.1,HE.out.2.2.2.1.2.2.1,HE.out.2.2.2.1.2.2.2.1,HE.out.2.2.2.1.2.2.2.2.1,HE.out.2.2.2.1.2.2.2.2.2];exact hbc)
    simp only [HE.out.2.2.2.1.1,HE.out.2.2.2.1.2.1,HE.out.2.2.2.1.2.2.1,HE.out.2.2.2.1.2.2.2.1,HE.out.2.2.2.1.2.2.2.2.1] at h
    exact h
   obtain ⟨sC,hMc,hpw⟩:=hMc
   have hB9:=H9.out.2.2.2.2.2.2.trans (hBa.mono H9.out.2.2.2.2.2.2.size)
   have HPW:=hide hpw
   have HZ2:=hide (show X3.heap.size≤V.heap.size∧X6.heap.size≤V.heap.size∧w.heap.size≤V.heap.size from ⟨H8.out.1.lm.2.2,H8.out.2.1.lm.2.2,H8.out.2.2.size⟩)
   have H10:=hide (And.intro (H8.out.1.below hB9) (And.intro (H8.out.2.1.below hB9) (And.intro hMc (H8.out.2.2.trans (hB9.mono H8.out.2.2.size)))))
   clear hBa hzX hbc hMc hpw hB9 hX9 hgc H9 H8
   go_upto_region 16 with fail
   go_loopw [10] (fun iv wr=>∃i:Nat,i≤np∧iv= .int .i64 i∧MshL wr X1.heap.size BA X3.heap.size ga (.slice A1 np k1) (.slice A2 nt k2) (.slice A3 nc k3) (.slice A4 no k4) (.slice A5 nd k5) sA cA∧MshL wr X4.heap.size BB X6.heap.size gb (.slice B1 np b1) (.slice B2 nt b2) (.slice A3 nc k3) (.slice A4 no k4) (.slice B5 nd2 b5) sB cB∧MshL wr V.heap.size BC X9.heap.size gc (.slice C1 np q1) (.slice C2 nt q2) (.slice C3 nc q3) (.slice C4 no q4) (.slice C5 nd q5) sC {cA with points:=zpL cA.points cB.points i}∧Below w.heap.size w wr) (fun iv _=>np - (intOf iv).toNat)
   case atStart=>exact ⟨0,by omega,rfl,H10.out⟩
   case round=>
    obtain ⟨i,hi,rfl,hA,hB,hC,hw⟩:=hrel
    obtain ⟨U,rfl⟩:∃x,x=wr:=⟨_,rfl⟩
    have z0:U.cell? ⟨gc,0,none⟩=some (.slice C1 np q1):=hC.b.cell 0
    have lgc:=hC.b.lt
    clear H10
    by_cases hlt:i < np
    ·have i1:(i:Int) < (np:Int):=by omega
     as_aux_lemma=>
      obtain ⟨x,hx⟩:∃x,cA.points[i]? =some x:=⟨_,List.getElem?_eq_getElem (by rw [HE.out.2.2.2.1.1];exact hlt)⟩
      obtain ⟨y,hy⟩:∃x,cB.points[i]? =some x:=⟨_,List.getElem?_eq_getElem (by rw [HE.out.2.2.2.2.1.1];exact hlt)⟩
      have hxy:=HE.out.2.2.2.2.2.2.1 x (List.mem_of_getElem? hx) y (List.mem_of_getElem? hy)
      have hset:=zpL_set hx hy
      have hAB:cA.points.length=cB.points.length:=by rw [HE.out.2.2.2.1.1,HE.out.2.2.2.2.1.1]
      have hzl:∀i,(zpL cA.points cB.points i).length=np:=fun i=>by rw [zpL_len hAB];exact HE.out.2.2.2.1.1
      have hP0:Own encP 3 43 U V.heap.size (.slice C1 np q1) np (zpL cA.points cB.points i):=hC.p9.1
      have hcz:(zpL cA.points cB.points i)[i]? =some x:=by rw [zpL_get hAB (by rw [HE.out.2.2.2.1.1];exact hlt)];exact hx
      obtain ⟨gp,_,e9,hge,hbT,w0,w1,w2⟩:=own_pt9 hP0 hcz
      subst e9
      have HCW:=hide (And.intro w0 (And.intro w1 (And.intro w2 hbT.lt)))
      clear w0 w1 w2
      obtain ⟨pa,_,e9,_,hpa9,x0,x1,x2⟩:=own_pt9 hA.p9.1 hx
      subst e9
      obtain ⟨pb,_,e9,_,hpb9,y0,y1,y2⟩:=own_pt9 hB.p9.1 hy
      subst e9
      have kh:=plus9_any x y
      obtain ⟨q,hq⟩:∃q,q=addP x y:=⟨_,rfl⟩
      rw [←hxy,←hq] at hset
      simp only [←hq] at kh
      obtain ⟨r1,r2,r3⟩:=q
      obtain ⟨v1,v2,v3⟩:=x
      obtain ⟨u1,u2,u3⟩:=y
      try simp only at x0 x1 x2 y0 y1 y2
      have zz:U.cell? ⟨gc,0,none⟩=some (.slice (some ⟨gp,0,none⟩) np q1):=hC.b.cell 0
      have za:U.cell? ⟨ga,0,none⟩=some (.slice (some ⟨pa,0,none⟩) np k1):=hA.b.cell 0
      have zb:U.cell? ⟨gb,0,none⟩=some (.slice (some ⟨pb,0,none⟩) np b1):=hB.b.cell 0
      have HC1:=hide (And.intro zz (And.intro za (And.intro zb (And.intro hC.b.lt (And.intro hA.b.lt (And.intro hB.b.lt (And.intro x0 (And.intro x1 (And.intro x2 (And.intro y0 (And.intro y1 (And.intro y2 (And.intro hpa9.lt hpb9.lt)))))))))))))
      have HP:=hide (And.intro hP0 (And.intro hset (And.intro kh (And.intro hbT hzl))))
      have HAB:=hide (And.intro hA (And.intro hB (And.intro hC (And.intro hw hge))))
      clear hP0 hset kh hbT zz za zb x0 x1 x2 y0 y1 y2 hpa9 hpb9 hx hy hxy hAB hzl hq hcz hA hB hC hw hge
      go_upto_region 18 with fail
      clear z0 lgc
      have HSB:=hide (show Below U.heap.size U U.drew from (Below.refl _ U).drew)
      refine wp_region_mix (fun W=>Below U.heap.size U W) [0,1,2,3,4,5,6,7,8,9,10,11,12,14] [0,1,2,3,4,5,6,7,8,9,10,11,12,13,14,15] mixed_ok (by kernel_rfl) ?_
      refine wpMix_q (v:=(.pointer (some ⟨gc,0,none⟩))) rfl rfl (fun _ _ _ h=>h) HSB.out ⟨rfl,fun _ _=>by simp [go_sem]⟩ ?_
      refine wpMix_q (v:=(.slice (some ⟨gp,0,none⟩) np q1)) rfl rfl (fun _ _ _ h=>h) HSB.out ⟨rfl,fun _ h'=>by have a0:=(h'.cell (p:=⟨gc,0,none⟩) HC1.out.2.2.2.1).trans HC1.out.1;simp [go_sem,a0]⟩ ?_
      refine wpMix_q (v:=(.int .i64 i)) rfl rfl (fun _ _ _ h=>h) HSB.out ⟨rfl,fun _ _=>by simp [go_sem]⟩ ?_
      refine wpMix_q (v:=(.pointer (some ⟨ga,0,none⟩))) rfl rfl (fun _ _ _ h=>h) HSB.out ⟨rfl,fun _ _=>by simp [go_sem]⟩ ?_
      refine wpMix_q (v:=(.slice (some ⟨pa,0,none⟩) np k1)) rfl rfl (fun _ _ _ h=>h) HSB.out ⟨rfl,fun _ h'=>by have a0:=(h'.cell (p:=⟨ga,0,none⟩) HC1.out.2.2.2.2.1).trans HC1.out.2.1;simp [go_sem,a0]⟩ ?_
      refine wpMix_q (v:=(.int .i64 i)) rfl rfl (fun _ _ _ h=>h) HSB.out ⟨rfl,fun _ _=>by simp [go_sem]⟩ ?_
      simp only [List.getElem_toArray,List.getElem_cons_succ,List.getElem_cons_zero,Act.put,List.setIfInBounds_toArray,List.set_cons_succ,List.set_cons_zero]
      refine wpMix_q (v:=(.pointer (some ⟨pa,i*3,none⟩))) rfl rfl (fun _ _ _ h=>h) HSB.out ⟨rfl,fun _ _=>by simp [go_sem,i1]⟩ ?_
      refine wpMix_q (v:=(.agg #[.int .i64 v1, .int .i64 v2, .int .i64 v3])) rfl rfl (fun _ _ _ h=>h) HSB.out ⟨rfl,fun _ h'=>by have a0:=(h'.cell (p:=⟨pa,i*3,none⟩) HC1.out.2.2.2.2.2.2.2.2.2.2.2.2.1).trans HC1.out.2.2.2.2.2.2.1;have a1:=(h'.cell (p:=⟨pa,i*3+1,none⟩) HC1.out.2.2.2.2.2.2.2.2.2.2.2.2.1).trans HC1.out.2.2.2.2.2.2.2.1;have a2:=(h'.cell (p:=⟨pa,i*3+2,none⟩) HC1.out.2.2.2.2.2.2.2.2.2.2.2.2.1).trans HC1.out.2.2.2.2.2.2.2.2.1;simp [go_sem,a0,a1,a2]⟩ ?_
      refine wpMix_q (v:=(.pointer (some ⟨gb,0,none⟩))) rfl rfl (fun _ _ _ h=>h) HSB.out ⟨rfl,fun _ _=>by simp [go_sem]⟩ ?_
      refine wpMix_q (v:=(.slice (some ⟨pb,0,none⟩) np b1)) rfl rfl (fun _ _ _ h=>h) HSB.out ⟨rfl,fun _ h'=>by have a0:=(h'.cell (p:=⟨gb,0,none⟩) HC1.out.2.2.2.2.2.1).trans HC1.out.2.2.1;simp [go_sem,a0]⟩ ?_
      refine wpMix_q (v:=(.int .i64 i)) rfl rfl (fun _ _ _ h=>h) HSB.out ⟨rfl,fun _ _=>by simp [go_sem]⟩ ?_
      refine wpMix_q (v:=(.pointer (some ⟨pb,i*3,none⟩))) rfl rfl (fun _ _ _ h=>h) HSB.out ⟨rfl,fun _ _=>by simp [go_sem,i1]⟩ ?_
      simp only [List.getElem_toArray,List.getElem_cons_succ,List.getElem_cons_zero,Act.put,List.setIfInBounds_toArray,List.set_cons_succ,List.set_cons_zero]
      refine wpMix_q (v:=(.agg #[.int .i64 u1, .int .i64 u2, .int .i64 u3])) rfl rfl (fun _ _ _ h=>h) HSB.out ⟨rfl,fun _ h'=>by have a0:=(h'.cell (p:=⟨pb,i*3,none⟩) HC1.out.2.2.2.2.2.2.2.2.2.2.2.2.2).trans HC1.out.2.2.2.2.2.2.2.2.2.1;have a1:=(h'.cell (p:=⟨pb,i*3+1,none⟩) HC1.out.2.2.2.2.2.2.2.2.2.2.2.2.2).trans HC1.out.2.2.2.2.2.2.2.2.2.2.1;have a2:=(h'.cell (p:=⟨pb,i*3+2,none⟩) HC1.out.2.2.2.2.2.2.2.2.2.2.2.2.2).trans HC1.out.2.2.2.2.2.2.2.2.2.2.2.1;simp [go_sem,a0,a1,a2]⟩ ?_
      simp only [List.getElem_toArray,List.getElem_cons_succ,List.getElem_cons_zero,Act.put,List.setIfInBounds_toArray,List.set_cons_succ,List.set_cons_zero]
      refine wpMix_n rfl rfl ?_
      go_wp2_with fail
      refine (HP.out.2.2.1 U.drew).mono ?_
      rintro e U2 ⟨rfl,hB2⟩
      have hBU:Below U.heap.size U U2:=HSB.out.trans (hB2.mono HSB.out.size)
      have hbT2:=HP.out.2.2.2.1.below hBU HP.out.2.2.2.1.lt
      have y0:=(hBU.cell (p:=⟨gp,i*3,none⟩) HCW.out.2.2.2).trans HCW.out.1
      have y1:=(hBU.cell (p:=⟨gp,i*3+1,none⟩) HCW.out.2.2.2).trans HCW.out.2.1
      have y2:=(hBU.cell (p:=⟨gp,i*3+2,none⟩) HCW.out.2.2.2).trans HCW.out.2.2.1
      have fr0:=hbT2.frozen (i*3)
      have fr1:=hbT2.frozen (i*3+1)
      have fr2:=hbT2.frozen (i*3+2)
      have hgpl:=hbT2.lt
      have HU2:=hide (And.intro hBU hbT2)
      clear hBU hbT2 hB2
      go_wp2_with fail
      refine ⟨fun _=>HU2.out.1,?_⟩
      refine wpMix_q (v:=(.pointer (some ⟨gp,i*3,none⟩))) rfl rfl (fun _ _ _ h=>h) HU2.out.1 ⟨rfl,fun _ _=>by simp [go_sem,i1]⟩ ?_
      simp only [List.getElem_toArray,List.getElem_cons_succ,List.getElem_cons_zero,Act.put,List.setIfInBounds_toArray,List.set_cons_succ,List.set_cons_zero]
      refine wpMix_tail _ [_] (by kernel_rfl) rfl ?_
      clear HSB
      have hgr:=setW_grown gp (encP ((r1,r2,r3):Pt)) U2 (i*3)
      have h1:=(HP.out.1.below HU2.out.1 (Nat.le_refl _)).setW encP_len (i:=i) (by rw [HP.out.2.2.2.2];exact hlt) ((r1,r2,r3):Pt)
      rw [HP.out.2.1] at h1
      have hC4:=(HAB.out.2.2.1.below HU2.out.1).setP hgr (Q:=zpL cA.points cB.points (i+1)) (by rw [HP.out.2.2.2.2];exact h1)
      have hA4:=(HAB.out.1.below HU2.out.1).far HU2.out.2 hgr (.inr (Nat.le_trans HZ2.out.1 HAB.out.2.2.2.2))
      have hB4:=(HAB.out.2.1.below HU2.out.1).far HU2.out.2 hgr (.inr (Nat.le_trans HZ2.out.2.1 HAB.out.2.2.2.2))
      have hw4:=(HAB.out.2.2.2.1.trans (HU2.out.1.mono HAB.out.2.2.2.1.size)).trans (grown_bel hgr (Nat.le_trans HZ2.out.2.2 HAB.out.2.2.2.2) (Nat.le_trans HAB.out.2.2.2.1.size HU2.out.1.size))
      have H11:=hide (And.intro hA4 (And.intro hB4 (And.intro hC4 hw4)))
      clear hgr h1 hA4 hB4 hC4 hw4 HC1 HP HCW
      have tw:wrap64 ((i:Int)+1)=((i+1:Nat):Int):=by unfold wrap64;omega
      go_upto_region 17 with fail
      clear fr0 fr1 fr2 y0 y1 y2 hgpl HU2 HAB
      obtain ⟨U3,hU3⟩:∃W,W=setW U2 gp (i*3) (encP ((r1,r2,r3):Pt)):=⟨_,rfl⟩
      rw [←hU3] at H11
      rw [show ((U2.setCell ⟨gp,i*3,none⟩ (.int .i64 r1)).setCell ⟨gp,i*3+1,none⟩ (.int .i64 r2)).setCell ⟨gp,i*3+2,none⟩ (.int .i64 r3)=U3 from hU3.symm]
      clear hU3
      go_wp2
      go_roundw
      case rel=>exact ⟨i+1,by omega,by go_num,H11.out⟩
      case measure=>(simp [intOf];try omega)
    ·obtain rfl:np=i:=by omega
     have i1:¬(np:Int) < (np:Int):=by omega
     rw [show zpL cA.points cB.points np=List.zipWith addZ cA.points cB.points from by rw [←HE.out.2.2.2.1.1];exact zpL_end (by rw [HE.out.2.2.2.1.1,HE.out.2.2.2.2.1.1])] at hC
     have hst0:((nd=0∧∃Ad cd,MshO U V.heap.size BC gc (.slice C1 np q1) (.slice C2 nt q2) (.slice C3 nc q3) (.slice C4 no q4) (.slice Ad 0 cd) (sB.take 0) {cA with points:=List.zipWith addZ cA.points cB.points})∨(nd2≤nd∧MshL U V.heap.size BC X9.heap.size gc (.slice C1 np q1) (.slice C2 nt q2) (.slice C3 nc q3) (.slice C4 no q4) (.slice C5 nd q5) sC {cA with points:=List.zipWith addZ cA.points cB.points,details:=sumD cA.details (cB.details.take 0)})):=by
      rcases Nat.lt_or_ge nd nd2 with h | h
      ·have h0:nd=0:=by rcases HQ.out.1 with h1 | h1 <;>omega
       refine .inl ⟨h0,C5,q5,?_⟩
       have h2:=hC.outl
       have h3:sC= []:=List.eq_nil_of_length_eq_zero (by have:=hC.h9.1.1;omega)
       rw [h3,h0] at h2
       exact h2
      ·refine .inr ⟨h,?_⟩
       rw [List.take_zero,sumD_nil_r]
       exact hC
     have H12:=hide (And.intro hA (And.intro hB (And.intro hst0 hw)))
     clear hA hB hC hw hst0 hi hlt
     go_upto_region 20 with fail
     clear z0 lgc i1
     go_loopw [11] (fun iv wr=>∃k:Nat,k≤nd2∧iv= .int .i64 k∧MshL wr X1.heap.size BA X3.heap.size ga (.slice A1 np k1) (.slice A2 nt k2) (.slice A3 nc k3) (.slice A4 no k4) (.slice A5 nd k5) sA cA∧MshL wr X4.heap.size BB X6.heap.size gb (.slice B1 np b1) (.slice B2 nt b2) (.slice A3 nc k3) (.slice A4 no k4) (.slice B5 nd2 b5) sB cB∧((nd=0∧∃Ad cd,MshO wr V.heap.size BC gc (.slice C1 np q1) (.slice C2 nt q2) (.slice C3 nc q3) (.slice C4 no q4) (.slice Ad k cd) (sB.take k) {cA with points:=List.zipWith addZ cA.points cB.points})∨(nd2≤nd∧MshL wr V.heap.size BC X9.heap.size gc (.slice C1 np q1) (.slice C2 nt q2) (.slice C3 nc q3) (.slice C4 no q4) (.slice C5 nd q5) sC {cA with points:=List.zipWith addZ cA.points cB.points,details:=sumD cA.details (cB.details.take k)}))∧Below w.heap.size w wr) (fun iv _=>nd2 - (intOf iv).toNat)
     case atStart=>exact ⟨0,by omega,rfl,H12.out⟩
     case round=>
      obtain ⟨k,hk,rfl,hA,hB,hC,hw⟩:=hrel
      obtain ⟨U4,rfl⟩:∃x,x=wr:=⟨_,rfl⟩
      clear H12
      have y5:U4.cell? ⟨gb,5,none⟩=some (.slice B5 nd2 b5):=hB.b.cell 5
      have lgb:=hB.b.lt
      by_cases hlt:k < nd2
      ·have kq:(k:Int) < (nd2:Int):=by omega
       obtain ⟨y,hy⟩:∃x,cB.details[k]? =some x:=⟨_,List.getElem?_eq_getElem (by rw [HE.out.2.2.2.2.1.2.2.2.2.1];exact hlt)⟩
       rcases hC with ⟨h0,Ad,cd,hC⟩ | ⟨hnn,hC⟩
       ·as_aux_lemma=>
         obtain ⟨Bk,kb,hbk,hoB,_⟩:=hB.d k y hy
         obtain ⟨dl,hdl⟩:∃n,n=y.length:=⟨_,rfl⟩
         rw [←hdl] at hbk hoB
         obtain ⟨hb,curb,e9,hhb,hblB,hcB⟩:=own_hd9 hB.h9.1 hbk
         subst e9
         have hln:(sB.take k).length=k:=by rw [List.length_take];have:=hB.h9.1.1;omega
         have hnd1:nd2≤100000:=by rw [HN2.out.2.2.2.2.1];exact HL.out.2.2.2.1.d
         have hOC:Own encS 1 28 U4 BC (.slice Ad k cd) k (sB.take k):=by
          have h:=hC.h
          rw [hln] at h
          exact h
         have htk:sB.take (k+1)=sB.take k++ [(Bk,dl,kb)]:=by rw [List.take_add_one,hbk];rfl
         have z5:U4.cell? ⟨gc,5,none⟩=some (.slice Ad k cd):=hC.b.cell 5
         have lgc:=hC.b.lt
         have hHB:=hblB.lt
         have kk1:¬(k:Int) < (k:Int):=by omega
         have kk2:(k:Int)≤(k:Int):=by omega
         have HC:=hide (And.intro z5 (And.intro y5 (And.intro lgc (And.intro lgb (And.intro hcB hHB)))))
         have HAB:=hide (And.intro hA (And.intro hB (And.intro hC (And.intro hw (And.intro hOC (And.intro hln (And.intro htk h0)))))))
         clear hA hB hC hw hOC hln htk h0 hbk hoB hblB hcB hhb hdl hy hHB
         go_upto_region 23 with fail
         clear z5 y5 lgc lgb kk1 kk2
         have HSB:=hide (show Below U4.heap.size U4 U4.drew from (Below.refl _ U4).drew)
         refine wp_region_mix (fun W=>Below U4.heap.size U4 W) [0,1,2,3,4,5,6] [0,1,2,3,4,5,6,7,8,9,10] mixed_ok (by kernel_rfl) ?_
         refine wpMix_q (v:=(.pointer (some ⟨gc,5,none⟩))) rfl rfl (fun _ _ _ h=>h) HSB.out ⟨rfl,fun _ _=>by simp [go_sem]⟩ ?_
         refine wpMix_q (v:=(.slice Ad k cd)) rfl rfl (fun _ _ _ h=>h) HSB.out ⟨rfl,fun _ h'=>by have a0:=(h'.cell (p:=⟨gc,5,none⟩) HC.out.2.2.1).trans HC.out.1;simp [go_sem,a0]⟩ ?_
         refine wpMix_q (v:=(.pointer (some ⟨gb,5,none⟩))) rfl rfl (fun _ _ _ h=>h) HSB.out ⟨rfl,fun _ _=>by simp [go_sem]⟩ ?_
         refine wpMix_q (v:=(.slice (some ⟨hb,0,none⟩) nd2 b5)) rfl rfl (fun _ _ _ h=>h) HSB.out ⟨rfl,fun _ h'=>by have a0:=(h'.cell (p:=⟨gb,5,none⟩) HC.out.2.2.2.1).trans HC.out.2.1;simp [go_sem,a0]⟩ ?_
         refine wpMix_q (v:=(.int .i64 k)) rfl rfl (fun _ _ _ h=>h) HSB.out ⟨rfl,fun _ _=>by simp [go_sem]⟩ ?_
         refine wpMix_q (v:=(.pointer (some ⟨hb,k,none⟩))) rfl rfl (fun _ _ _ h=>h) HSB.out ⟨rfl,fun _ _=>by simp [go_sem,kq]⟩ ?_
         simp only [List.getElem_toArray,List.getElem_cons_succ,List.getElem_cons_zero,Act.put,List.setIfInBounds_toArray,List.set_cons_succ,List.set_cons_zero]
         refine wpMix_q (v:=(.slice Bk dl kb)) rfl rfl (fun _ _ _ h=>h) HSB.out ⟨rfl,fun _ h'=>by have a0:=(h'.cell (p:=⟨hb,k,none⟩) HC.out.2.2.2.2.2).trans HC.out.2.2.2.2.1;simp [go_sem,a0]⟩ ?_
         simp only [List.getElem_toArray,List.getElem_cons_succ,List.getElem_cons_zero,Act.put,List.setIfInBounds_toArray,List.set_cons_succ,List.set_cons_zero]
         refine wpMix_n rfl rfl ?_
         go_wp2_with fail
         obtain ⟨Y,hY⟩:∃W,W=(U4.alloc (.cells #[.slice Bk dl kb] 28)).drew:=⟨_,rfl⟩
         rw [←hY]
         have hBY:Below U4.heap.size U4 Y:=by rw [hY];exact ((Below.refl _ U4).alloc (Nat.le_refl _) _).drew
         have hKY:Blk Y U4.heap.size 28 #[.slice Bk dl kb]:=by rw [hY];exact (Blk.new U4 _ _).drew
         have hUY:=hBY.size
         have HY:=hide (And.intro hBY (And.intro hKY (And.intro (HAB.out.1.below hBY) (And.intro (HAB.out.2.1.below hBY) (And.intro (HAB.out.2.2.1.below hBY) (And.intro (HAB.out.2.2.2.1.trans (hBY.mono HAB.out.2.2.2.1.size)) (HAB.out.2.2.2.2.1.below hBY (Nat.le_refl _))))))))
         clear hBY hKY hY
         refine ⟨fun _=>HY.out.1,?_⟩
         refine wpMix_tail _ [_,_,_] (by kernel_rfl) rfl ?_
         clear HSB
         refine wpList_append1 rfl _ _ _ rfl Tryz.underlying30 infoLPd rfl (by omega) encS_len encS_one rfl HY.out.2.2.2.2.2.2 U4.heap.size 1 (Bk,dl,kb) rfl HY.out.2.1 (by unfold maxLen;omega) (by omega) HY.out.2.2.2.2.1.lm.2 ?_
         intro g6 cap6 w6 hown6 hg6 hB6 hat6 hgb6 hlt6
         rw [←HAB.out.2.2.2.2.2.2.1] at hown6
         obtain ⟨hb6,hC6⟩:=HY.out.2.2.2.2.1.app (hd:=(Bk,dl,kb)) hg6 (by rw [HAB.out.2.2.2.2.2.1,←HAB.out.2.2.2.2.2.2.1];exact hown6)
         rw [←HAB.out.2.2.2.2.2.2.1] at hC6
         have hgs:=grown_set9 w6 gc 5 (.slice (some ⟨g6,0,none⟩) (k+1) cap6)
         have hmC:V.heap.size≤BC:=HY.out.2.2.2.2.1.lm.1
         have hA6:=(HY.out.2.2.1.farS HY.out.2.2.2.2.2.2 (Nat.le_trans HZ2.out.1 hmC) hg6).box hb6 hgs (by have h1:=HY.out.2.2.1.gr.2;have h2:=HZ2.out.1;have h3:=HY.out.2.2.2.2.1.gl;omega) (by decide) (by decide) (by decide) (by decide) (by decide)
         have hB6':=(HY.out.2.2.2.1.farS HY.out.2.2.2.2.2.2 (Nat.le_trans HZ2.out.2.1 hmC) hg6).box hb6 hgs (by have h1:=HY.out.2.2.2.1.gr.2;have h2:=HZ2.out.2.1;have h3:=HY.out.2.2.2.2.1.gl;omega) (by decide) (by decide) (by decide) (by decide) (by decide)
         have hw6:=(HY.out.2.2.2.2.2.1.trans (grown_belO hg6 (fun r e=>by have h1:=(HY.out.2.2.2.2.2.2.blk r e).1;have h2:=HZ2.out.2.2;omega) HY.out.2.2.2.2.2.1.size)).trans (grown_bel hgs (by have h2:=HZ2.out.2.2;have h3:=HY.out.2.2.2.2.1.gl;omega) (by have h1:=HY.out.2.2.2.2.2.1.size;have h2:=hg6.size;omega))
         have f6:=hb6.frozen 5
         have hl6:=hb6.lt
         have c7:w6.cell? ⟨gc,5,none⟩=some (.slice Ad k cd):=hb6.cell 5
         have H14:=hide (And.intro hA6 (And.intro hB6' (And.intro hC6 hw6)))
         have HH0:=hide HAB.out.2.2.2.2.2.2.2
         have tw:wrap64 ((k:Int)+1)=((k+1:Nat):Int):=by unfold wrap64;omega
         clear hown6 hg6 hB6 hat6 hgb6 hlt6 hA6 hB6' hC6 hw6 hgs hb6 hUY HC HY hmC HAB
         go_upto_region 21 with fail
         clear f6 hl6 c7
         obtain ⟨U7,hU7⟩:∃W,W=w6.setCell ⟨gc,5,none⟩ (.slice (some ⟨g6,0,none⟩) (k+1) cap6):=⟨_,rfl⟩
         rw [←hU7] at H14
         rw [←hU7]
         clear hU7
         go_wp2
         go_roundw
         case rel=>repeat (first | exact ⟨k+1,by omega,by go_num,H14.out.1,H14.out.2.1, .inl ⟨HH0.out,_,_,H14.out.2.2.1⟩,H14.out.2.2.2⟩ | (refine ⟨?_,rfl⟩;exact ⟨k+1,by omega,by go_num,H14.out.1,H14.out.2.1, .inl ⟨HH0.out,_,_,H14.out.2.2.1⟩,H14.out.2.2.2⟩) | apply Exists.intro)
         case measure=>(simp [intOf];try omega)
       ·as_aux_lemma=>
         obtain ⟨x,hx⟩:∃x,cA.details[k]? =some x:=⟨_,List.getElem?_eq_getElem (by rw [HE.out.2.2.2.1.2.2.2.2.1];omega)⟩
         have hxy:=HE.out.2.2.2.2.2.1 k x y hx hy
         have hxl:=HE.out.2.2.2.2.2.2.2.2 x (List.mem_of_getElem? hx)
         have hadd:=HE.out.2.2.2.2.2.2.2.1 x (List.mem_of_getElem? hx) y (List.mem_of_getElem? hy)
         have hget:(sumD cA.details (cB.details.take k))[k]? =some x:=by rw [sumD_take_get (by rw [HE.out.2.2.2.1.2.2.2.2.1];omega)];exact hx
         have hend:=sumD_take_set hx hy
         obtain ⟨D0,hD0⟩:∃D,D=sumD cA.details (cB.details.take k):=⟨_,rfl⟩
         rw [←hD0] at hget hend hC
         obtain ⟨n,hn⟩:∃n,n=x.length:=⟨_,rfl⟩
         have hyn:y.length=n:=by omega
         obtain ⟨Bk,kb,hbk,_,_⟩:=hB.d k y hy
         rw [hyn] at hbk
         obtain ⟨hb,curb,e9,_,hblB,hcB⟩:=own_hd9 hB.h9.1 hbk
         subst e9
         obtain ⟨Ck,kc,hck,_,_⟩:=hC.d k x hget
         rw [←hn] at hck
         obtain ⟨hc,curc,e9,_,hblC,hcC⟩:=own_hd9 hC.h9.1 hck
         subst e9
         have z5:U4.cell? ⟨gc,5,none⟩=some (.slice (some ⟨hc,0,none⟩) nd q5):=hC.b.cell 5
         have lgc:=hC.b.lt
         have kn1:¬(nd:Int)≤(k:Int):=by omega
         have kn2:(k:Int) < (nd:Int):=by omega
         have hC0:MshL U4 V.heap.size BC X9.heap.size gc (.slice C1 np q1) (.slice C2 nt q2) (.slice C3 nc q3) (.slice C4 no q4) (.slice (some ⟨hc,0,none⟩) nd q5) sC {cA with points:=List.zipWith addZ cA.points cB.points,details:=D0.set k (zpL x y 0)}:=by
          rw [zpL_zero,set_same9 hget]
          exact hC
         have hD1:(D0.set k (zpL x y n))=sumD cA.details (cB.details.take (k+1)):=by rw [hn,zpL_end hxy];exact hend
         have hD2:∀z,(D0.set k z)[k]? =some z:=fun z=>List.getElem?_set_self (List.getElem?_eq_some_iff.1 hget).1
         have HN1:=hide (show n≤1000000 by omega)
         have hnd1:nd2≤100000:=by rw [HN2.out.2.2.2.2.1];exact HL.out.2.2.2.1.d
         have HDY:=hide hy
         have HD:=hide (And.intro hbk (And.intro hck (And.intro hD1 (And.intro hD2 (And.intro hadd (And.intro hn (And.intro hyn (And.intro hxy hnn))))))))
         have H15:=hide (And.intro hA (And.intro hB (And.intro hC0 hw)))
         clear hA hB hC hw hC0 hD1 hD2 hadd hn hyn hxy hnn hbk hck hxl hget hend hD0 hblB hcB hblC hcC hx hy
         go_upto_region 24 with fail
         clear z5 y5 lgc lgb kn1
         go_upto_region 25 with fail
         go_loopw [12] (fun iv wr=>∃i:Nat,i≤n∧iv= .int .i64 i∧MshL wr X1.heap.size BA X3.heap.size ga (.slice A1 np k1) (.slice A2 nt k2) (.slice A3 nc k3) (.slice A4 no k4) (.slice A5 nd k5) sA cA∧MshL wr X4.heap.size BB X6.heap.size gb (.slice B1 np b1) (.slice B2 nt b2) (.slice A3 nc k3) (.slice A4 no k4) (.slice (some ⟨hb,0,none⟩) nd2 b5) sB cB∧MshL wr V.heap.size BC X9.heap.size gc (.slice C1 np q1) (.slice C2 nt q2) (.slice C3 nc q3) (.slice C4 no q4) (.slice (some ⟨hc,0,none⟩) nd q5) sC {cA with points:=List.zipWith addZ cA.points cB.points,details:=D0.set k (zpL x y i)}∧Below w.heap.size w wr) (fun iv _=>n - (intOf iv).toNat)
         case atStart=>exact ⟨0,by omega,rfl,H15.out⟩
         case round=>
          obtain ⟨i,hi,rfl,hA,hB,hC,hw⟩:=hrel
          obtain ⟨V5,rfl⟩:∃x,x=wr:=⟨_,rfl⟩
          clear H15
          obtain ⟨_,curb,e9,_,hblB,hcB⟩:=own_hd9 hB.h9.1 HD.out.1
          cases e9
          obtain ⟨_,curc,e9,_,hblC,hcC⟩:=own_hd9 hC.h9.1 HD.out.2.1
          cases e9
          have y5:V5.cell? ⟨gb,5,none⟩=some (.slice (some ⟨hb,0,none⟩) nd2 b5):=hB.b.cell 5
          have z5:V5.cell? ⟨gc,5,none⟩=some (.slice (some ⟨hc,0,none⟩) nd q5):=hC.b.cell 5
          have lgb:=hB.b.lt
          have lgc:=hC.b.lt
          have lhb:=hblB.lt
          have lhc:=hblC.lt
          clear hblB hblC
          by_cases hlt2:i < n
          ·have i1:(i:Int) < (n:Int):=by omega
           have HNU:=hide (show i+1≤n∧n - (intOf (.int .i64 ((i+1:Nat):Int))).toNat < n - (intOf (.int .i64 (i:Int))).toNat from ⟨by omega,by show n - (i+1) < n - i;omega⟩)
           have tw:wrap64 ((i:Int)+1)=((i+1:Nat):Int):=by have:=HN1.out;unfold wrap64;omega
           have HTW:=hide tw
           clear tw
           obtain ⟨xi,hxi⟩:∃a,x[i]? =some a:=⟨_,List.getElem?_eq_getElem (by have:=HD.out.2.2.2.2.2.1;omega)⟩
           obtain ⟨yi,hyi⟩:∃a,y[i]? =some a:=⟨_,List.getElem?_eq_getElem (by have:=HD.out.2.2.2.2.2.2.1;omega)⟩
           have hset:=zpL_set hxi hyi
           have hxyi:=HD.out.2.2.2.2.1 xi (List.mem_of_getElem? hxi) yi (List.mem_of_getElem? hyi)
           have hzn:∀i,(zpL x y i).length=n:=fun i=>by rw [zpL_len HD.out.2.2.2.2.2.2.2.1];exact HD.out.2.2.2.2.2.1.symm
           have hP0:Own encP 3 43 V5 BC (.slice Ck n kc) n (zpL x y i):=by
            obtain ⟨A,kk,e1,e2,_⟩:=hC.d k (zpL x y i) (HD.out.2.2.2.1 _)
            rw [HD.out.2.1,hzn] at e1
            cases e1
            rw [hzn] at e2
            exact e2
           have hQ0:Own encP 3 43 V5 BB (.slice Bk n kb) n y:=by
            obtain ⟨A,kk,e1,e2,_⟩:=hB.d k y HDY.out
            rw [HD.out.1,HD.out.2.2.2.2.2.2.1] at e1
            cases e1
            rw [HD.out.2.2.2.2.2.2.1] at e2
            exact e2
           obtain ⟨gp,_,e9,hge,hbT,w0,w1,w2⟩:=own_pt9 hP0 (show (zpL x y i)[i]? =some xi by rw [zpL_get HD.out.2.2.2.2.2.2.2.1 (by have:=HD.out.2.2.2.2.2.1;omega)];exact hxi)
           subst e9
           have HCW:=hide (And.intro w0 (And.intro w1 (And.intro w2 hbT.lt)))
           clear w0 w1 w2
           obtain ⟨pb,_,e9,_,hpb9,y0,y1,y2⟩:=own_pt9 hQ0 hyi
           subst e9
           have kh:=plus9_any xi yi
           obtain ⟨q,hq⟩:∃q,q=addP xi yi:=⟨_,rfl⟩
           rw [←hxyi,←hq] at hset
           simp only [←hq] at kh
           obtain ⟨r1,r2,r3⟩:=q
           obtain ⟨v1,v2,v3⟩:=xi
           obtain ⟨u1,u2,u3⟩:=yi
           try simp only at y0 y1 y2 HCW
           have HC1:=hide (And.intro z5 (And.intro y5 (And.intro hcC (And.intro hcB (And.intro lgc (And.intro lgb (And.intro lhc (And.intro lhb (And.intro y0 (And.intro y1 (And.intro y2 hpb9.lt)))))))))))
           have HP:=hide (And.intro hP0 (And.intro hset (And.intro kh (And.intro hbT hzn))))
           have HAB:=hide (And.intro hA (And.intro hB (And.intro hC (And.intro hw (And.intro hge hC.lm.1)))))
           clear hP0 hQ0 hset kh hbT y0 y1 y2 hpb9 hxi hyi hxyi hzn hq hA hB hC hw hge
           go_upto_region 27 with fail
           clear y5 z5 lgb lgc lhb lhc hcB hcC
           as_aux_lemma=>
            have HSB:=hide (show Below V5.heap.size V5 V5.drew from (Below.refl _ V5).drew)
            refine wp_region_mix (fun W=>Below V5.heap.size V5 W) [0,1,2,3,4,5,6,7,8,9,10,11,12,13,14,15,16,17,18,19,20,21,23] [0,1,2,3,4,5,6,7,8,9,10,11,12,13,14,15,16,17,18,19,20,21,22,23,24] mixed_ok (by kernel_rfl) ?_
            refine wpMix_q (v:=(.pointer (some ⟨gc,5,none⟩))) rfl rfl (fun _ _ _ h=>h) HSB.out ⟨rfl,fun _ _=>by simp [go_sem]⟩ ?_
            refine wpMix_q (v:=(.slice (some ⟨hc,0,none⟩) nd q5)) rfl rfl (fun _ _ _ h=>h) HSB.out ⟨rfl,fun _ h'=>by have a0:=(h'.cell (p:=⟨gc,5,none⟩) HC1.out.2.2.2.2.1).trans HC1.out.1;simp [go_sem,a0]⟩ ?_
            refine wpMix_q (v:=(.int .i64 k)) rfl rfl (fun _ _ _ h=>h) HSB.out ⟨rfl,fun _ _=>by simp [go_sem]⟩ ?_
            refine wpMix_q (v:=(.pointer (some ⟨hc,k,none⟩))) rfl rfl (fun _ _ _ h=>h) HSB.out ⟨rfl,fun _ _=>by simp [go_sem,kn2]⟩ ?_
            refine wpMix_q (v:=(.slice (some ⟨gp,0,none⟩) n kc)) rfl rfl (fun _ _ _ h=>h) HSB.out ⟨rfl,fun _ h'=>by have a0:=(h'.cell (p:=⟨hc,k,none⟩) HC1.out.2.2.2.2.2.2.1).trans HC1.out.2.2.1;simp [go_sem,a0]⟩ ?_
            refine wpMix_q (v:=(.int .i64 i)) rfl rfl (fun _ _ _ h=>h) HSB.out ⟨rfl,fun _ _=>by simp [go_sem]⟩ ?_
            simp only [List.getElem_toArray,List.getElem_cons_succ,List.getElem_cons_zero,Act.put,List.setIfInBounds_toArray,List.set_cons_succ,List.set_cons_zero]
            as_aux_lemma=>
             refine wpMix_q (v:=(.pointer (some ⟨gc,5,none⟩))) rfl rfl (fun _ _ _ h=>h) HSB.out ⟨rfl,fun _ _=>by simp [go_sem]⟩ ?_
             refine wpMix_q (v:=(.slice (some ⟨hc,0,none⟩) nd q5)) rfl rfl (fun _ _ _ h=>h) HSB.out ⟨rfl,fun _ h'=>by have a0:=(h'.cell (p:=⟨gc,5,none⟩) HC1.out.2.2.2.2.1).trans HC1.out.1;simp [go_sem,a0]⟩ ?_
             refine wpMix_q (v:=(.int .i64 k)) rfl rfl (fun _ _ _ h=>h) HSB.out ⟨rfl,fun _ _=>by simp [go_sem]⟩ ?_
             refine wpMix_q (v:=(.pointer (some ⟨hc,k,none⟩))) rfl rfl (fun _ _ _ h=>h) HSB.out ⟨rfl,fun _ _=>by simp [go_sem,kn2]⟩ ?_
             refine wpMix_q (v:=(.slice (some ⟨gp,0,none⟩) n kc)) rfl rfl (fun _ _ _ h=>h) HSB.out ⟨rfl,fun _ h'=>by have a0:=(h'.cell (p:=⟨hc,k,none⟩) HC1.out.2.2.2.2.2.2.1).trans HC1.out.2.2.1;simp [go_sem,a0]⟩ ?_
             refine wpMix_q (v:=(.int .i64 i)) rfl rfl (fun _ _ _ h=>h) HSB.out ⟨rfl,fun _ _=>by simp [go_sem]⟩ ?_
             simp only [List.getElem_toArray,List.getElem_cons_succ,List.getElem_cons_zero,Act.put,List.setIfInBounds_toArray,List.set_cons_succ,List.set_cons_zero]
             as_aux_lemma=>
              refine wpMix_q (v:=(.pointer (some ⟨gp,i*3,none⟩))) rfl rfl (fun _ _ _ h=>h) HSB.out ⟨rfl,fun _ _=>by simp [go_sem,i1]⟩ ?_
              refine wpMix_q (v:=(.agg #[.int .i64 v1, .int .i64 v2, .int .i64 v3])) rfl rfl (fun _ _ _ h=>h) HSB.out ⟨rfl,fun _ h'=>by have a0:=(h'.cell (p:=⟨gp,i*3,none⟩) HCW.out.2.2.2).trans HCW.out.1;have a1:=(h'.cell (p:=⟨gp,i*3+1,none⟩) HCW.out.2.2.2).trans HCW.out.2.1;have a2:=(h'.cell (p:=⟨gp,i*3+2,none⟩) HCW.out.2.2.2).trans HCW.out.2.2.1;simp [go_sem,a0,a1,a2]⟩ ?_
              refine wpMix_q (v:=(.pointer (some ⟨gb,5,none⟩))) rfl rfl (fun _ _ _ h=>h) HSB.out ⟨rfl,fun _ _=>by simp [go_sem]⟩ ?_
              refine wpMix_q (v:=(.slice (some ⟨hb,0,none⟩) nd2 b5)) rfl rfl (fun _ _ _ h=>h) HSB.out ⟨rfl,fun _ h'=>by have a0:=(h'.cell (p:=⟨gb,5,none⟩) HC1.out.2.2.2.2.2.1).trans HC1.out.2.1;simp [go_sem,a0]⟩ ?_
              refine wpMix_q (v:=(.int .i64 k)) rfl rfl (fun _ _ _ h=>h) HSB.out ⟨rfl,fun _ _=>by simp [go_sem]⟩ ?_
              refine wpMix_q (v:=(.pointer (some ⟨hb,k,none⟩))) rfl rfl (fun _ _ _ h=>h) HSB.out ⟨rfl,fun _ _=>by simp [go_sem,kq]⟩ ?_
              simp only [List.getElem_toArray,List.getElem_cons_succ,List.getElem_cons_zero,Act.put,List.setIfInBounds_toArray,List.set_cons_succ,List.set_cons_zero]
              as_aux_lemma=>
               refine wpMix_q (v:=(.slice (some ⟨pb,0,none⟩) n kb)) rfl rfl (fun _ _ _ h=>h) HSB.out ⟨rfl,fun _ h'=>by have a0:=(h'.cell (p:=⟨hb,k,none⟩) HC1.out.2.2.2.2.2.2.2.1).trans HC1.out.2.2.2.1;simp [go_sem,a0]⟩ ?_
               refine wpMix_q (v:=(.int .i64 i)) rfl rfl (fun _ _ _ h=>h) HSB.out ⟨rfl,fun _ _=>by simp [go_sem]⟩ ?_
               refine wpMix_q (v:=(.pointer (some ⟨pb,i*3,none⟩))) rfl rfl (fun _ _ _ h=>h) HSB.out ⟨rfl,fun _ _=>by simp [go_sem,i1]⟩ ?_
               refine wpMix_q (v:=(.agg #[.int .i64 u1, .int .i64 u2, .int .i64 u3])) rfl rfl (fun _ _ _ h=>h) HSB.out ⟨rfl,fun _ h'=>by have a0:=(h'.cell (p:=⟨pb,i*3,none⟩) HC1.out.2.2.2.2.2.2.2.2.2.2.2).trans HC1.out.2.2.2.2.2.2.2.2.1;have a1:=(h'.cell (p:=⟨pb,i*3+1,none⟩) HC1.out.2.2.2.2.2.2.2.2.2.2.2).trans HC1.out.2.2.2.2.2.2.2.2.2.1;have a2:=(h'.cell (p:=⟨pb,i*3+2,none⟩) HC1.out.2.2.2.2.2.2.2.2.2.2.2).trans HC1.out.2.2.2.2.2.2.2.2.2.2.1;simp [go_sem,a0,a1,a2]⟩ ?_
               simp only [List.getElem_toArray,List.getElem_cons_succ,List.getElem_cons_zero,Act.put,List.setIfInBounds_toArray,List.set_cons_succ,List.set_cons_zero]
               as_aux_lemma=>
                refine wpMix_n rfl rfl ?_
                go_wp2_with fail
                refine (HP.out.2.2.1 V5.drew).mono ?_
                rintro e U2 ⟨rfl,hB2⟩
                have hBU:Below V5.heap.size V5 U2:=HSB.out.trans (hB2.mono HSB.out.size)
                have hbT2:=HP.out.2.2.2.1.below hBU HP.out.2.2.2.1.lt
                have y0:=(hBU.cell (p:=⟨gp,i*3,none⟩) HCW.out.2.2.2).trans HCW.out.1
                have y1:=(hBU.cell (p:=⟨gp,i*3+1,none⟩) HCW.out.2.2.2).trans HCW.out.2.1
                have y2:=(hBU.cell (p:=⟨gp,i*3+2,none⟩) HCW.out.2.2.2).trans HCW.out.2.2.1
                have fr0:=hbT2.frozen (i*3)
                have fr1:=hbT2.frozen (i*3+1)
                have fr2:=hbT2.frozen (i*3+2)
                have hgpl:=hbT2.lt
                have HU2:=hide (And.intro hBU hbT2)
                clear hBU hbT2 hB2
                go_wp2_with fail
                refine ⟨fun _=>HU2.out.1,?_⟩
                refine wpMix_q (v:=(.pointer (some ⟨gp,i*3,none⟩))) rfl rfl (fun _ _ _ h=>h) HU2.out.1 ⟨rfl,fun _ _=>by simp [go_sem,i1]⟩ ?_
                simp only [List.getElem_toArray,List.getElem_cons_succ,List.getElem_cons_zero,Act.put,List.setIfInBounds_toArray,List.set_cons_succ,List.set_cons_zero]
                as_aux_lemma=>
                 refine wpMix_tail _ [_] (by kernel_rfl) rfl ?_
                 clear HSB
                 have hgr:=setW_grown gp (encP ((r1,r2,r3):Pt)) U2 (i*3)
                 have h1:=(HP.out.1.below HU2.out.1 (Nat.le_refl _)).setW encP_len (i:=i) (by rw [HP.out.2.2.2.2];exact hlt2) ((r1,r2,r3):Pt)
                 rw [HP.out.2.1] at h1
                 have hC4:=(HAB.out.2.2.1.below HU2.out.1).setD HPW.out (HD.out.2.2.2.1 _) HD.out.2.1 hgr h1
                 rw [show (({cA with points:=List.zipWith addZ cA.points cB.points,details:=D0.set k (zpL x y i)}:Ctl).details.set k (zpL x y (i+1)))=D0.set k (zpL x y (i+1)) from List.set_set ..] at hC4
                 have hA4:=(HAB.out.1.below HU2.out.1).far HU2.out.2 hgr (.inr (Nat.le_trans HZ2.out.1 (Nat.le_trans HAB.out.2.2.2.2.2 HAB.out.2.2.2.2.1)))
                 have hB4:=(HAB.out.2.1.below HU2.out.1).far HU2.out.2 hgr (.inr (Nat.le_trans HZ2.out.2.1 (Nat.le_trans HAB.out.2.2.2.2.2 HAB.out.2.2.2.2.1)))
                 have hw4:=(HAB.out.2.2.2.1.trans (HU2.out.1.mono HAB.out.2.2.2.1.size)).trans (grown_bel hgr (Nat.le_trans HZ2.out.2.2 (Nat.le_trans HAB.out.2.2.2.2.2 HAB.out.2.2.2.2.1)) (Nat.le_trans HAB.out.2.2.2.1.size HU2.out.1.size))
                 have H17:=hide (And.intro hA4 (And.intro hB4 (And.intro hC4 hw4)))
                 clear hgr h1 hA4 hB4 hC4 hw4 HC1 HP HCW
                 have tw:=HTW.out
                 go_upto_region 26 with fail
                 clear fr0 fr1 fr2 y0 y1 y2 hgpl HU2 HAB
                 obtain ⟨U7,hU7⟩:∃W,W=setW U2 gp (i*3) (encP ((r1,r2,r3):Pt)):=⟨_,rfl⟩
                 rw [←hU7] at H17
                 rw [show ((U2.setCell ⟨gp,i*3,none⟩ (.int .i64 r1)).setCell ⟨gp,i*3+1,none⟩ (.int .i64 r2)).setCell ⟨gp,i*3+2,none⟩ (.int .i64 r3)=U7 from hU7.symm]
                 clear hU7
                 go_wp2
                 go_roundw
                 case rel=>exact ⟨i+1,HNU.out.1,by go_num,H17.out⟩
                 case measure=>
                  show n - (intOf (.int .i64 (wrap64 ((i:Int)+1)))).toNat < n - (intOf (.int .i64 (i:Int))).toNat
                  rw [HTW.out]
                  exact HNU.out.2
          ·obtain rfl:n=i:=by omega
           have i1:¬(n:Int) < (n:Int):=by omega
           have hC':=hC
           rw [HD.out.2.2.1] at hC'
           have H16:=hide (And.intro hA (And.intro hB (And.intro hC' (And.intro hw HD.out.2.2.2.2.2.2.2.2))))
           have tw:wrap64 ((k:Int)+1)=((k+1:Nat):Int):=by unfold wrap64;omega
           clear hA hB hC hC' hw hi hlt2
           go_upto_region 21 with fail
           clear y5 z5 lgb lgc lhb lhc hcB hcC
           go_wp2
           go_roundw
           case rel=>repeat (first | exact ⟨k+1,by omega,by go_num,H16.out.1,H16.out.2.1, .inr ⟨H16.out.2.2.2.2,H16.out.2.2.1⟩,H16.out.2.2.2.1⟩ | (refine ⟨?_,rfl⟩;exact ⟨k+1,by omega,by go_num,H16.out.1,H16.out.2.1, .inr ⟨H16.out.2.2.2.2,H16.out.2.2.1⟩,H16.out.2.2.2.1⟩) | apply Exists.intro)
           case measure=>(simp [intOf];try omega)
      ·obtain rfl:nd2=k:=by omega
       have kq:¬(nd2:Int) < (nd2:Int):=by omega
       as_aux_lemma=>
        have hbA:Blk U4 ga 32 (cMad (.slice A1 np k1) (.slice A2 nt k2) (.slice A3 nc k3) (.slice A4 no k4) st (.slice A5 nd k5)):=by
         have h:=hA.b
         rw [HE.out.2.2.2.1.2.2.2.2.2] at h
         exact h
        have hbB:Blk U4 gb 32 (cMad (.slice B1 np b1) (.slice B2 nt b2) (.slice A3 nc k3) (.slice A4 no k4) st (.slice B5 nd2 b5)):=by
         have h:=hB.b
         rw [HE.out.2.2.2.2.1.2.2.2.2.2] at h
         exact h
        obtain ⟨Ad,cd,hbC,hct⟩:∃Ad cd,Blk U4 gc 32 (cMad (.slice C1 np q1) (.slice C2 nt q2) (.slice C3 nc q3) (.slice C4 no q4) st (.slice Ad nC cd))∧CtlM U4 U4.heap.size C1 C2 C3 C4 Ad cC:=by
         have hdB:cB.details.length=nd2:=HE.out.2.2.2.2.1.2.2.2.2.1
         have htB:cB.details.take nd2=cB.details:=List.take_of_length_le (by omega)
         have hsB:sB.take nd2=sB:=List.take_of_length_le (by have:=hB.h9.1.1;omega)
         rcases hC with ⟨h0,Ad,cd,hC⟩ | ⟨hnn,hC⟩
         ·rw [hsB] at hC
          have hn0:cA.details= []:=List.eq_nil_of_length_eq_zero (by rw [HE.out.2.2.2.1.2.2.2.2.1];exact h0)
          have hcd:cC.details=cB.details:=by rw [←HE.out.2.2.1];show sumD cA.details cB.details=_;rw [hn0];rfl
          have hE:({cA with points:=List.zipWith addZ cA.points cB.points,details:=cB.details}:Ctl)=cC:=by rw [←HE.out.2.2.1,hn0];rfl
          refine ⟨Ad,cd,?_,?_⟩
          ·have h:=hC.b
           rw [show nC=nd2 by rw [HQ.out.2.1,hcd];exact hdB]
           rw [show ({cA with points:=List.zipWith addZ cA.points cB.points}:Ctl).steps=st from HE.out.2.2.2.1.2.2.2.2.2] at h
           exact h
          ·rw [←hE]
           refine hC.ctlM (D:=cB.details) (by rw [hdB];exact hB.h9.1.1.symm) fun i d hd=> ?_
           obtain ⟨A,k,e1,e2,_⟩:=hB.d i d hd
           exact ⟨A,k,e1,e2.sl encP_len (Nat.le_refl _)⟩
         ·rw [htB] at hC
          have hE:({cA with points:=List.zipWith addZ cA.points cB.points,details:=sumD cA.details cB.details}:Ctl)=cC:=HE.out.2.2.1
          rw [hE] at hC
          refine ⟨C5,q5,?_,hC.ctlM⟩
          have h:=hC.b
          have hcs:cC.steps=st:=by rw [←hE];exact HE.out.2.2.2.1.2.2.2.2.2
          rw [hcs] at h
          rw [HQ.out.2.1,←hC.h9.2]
          exact h
        have H13:=hide (And.intro hbB (And.intro hbC (And.intro hB.ctlM (And.intro hct hw))))
        obtain ⟨z0,z1,z2,z3,z4,z5⟩:=hbA.six9
        have lga:=hbA.lt
        have HA9:=hide hA.ctlM
        clear hbA hbB hbC hct hA hB hC hw hk hlt
        go_upto_region 29 with (go_at_call 18;refine (HF.out.2.1 _ _ _ _ _ _ _ _ _ _ U4 HA9.out).mono ?_;rintro e Y1 ⟨F1,f1,F2,f2,rfl,hP,_,hB1⟩;have J1:=hide (And.intro hP (And.intro (H13.out.1.below hB1 H13.out.1.lt) (And.intro (H13.out.2.1.below hB1 H13.out.2.1.lt) (And.intro (H13.out.2.2.1.below hB1 hB1.size) (And.intro (H13.out.2.2.2.1.below hB1 hB1.size) (H13.out.2.2.2.2.trans (hB1.mono H13.out.2.2.2.2.size)))))));clear hP hB1)
        clear z0 z1 z2 z3 z4 z5 y5 lga lgb HA9 H13
        obtain ⟨z0,z1,z2,z3,z4,z5⟩:=J1.out.2.1.six9
        have lgb:=J1.out.2.1.lt
        go_upto_region 30 with (go_at_call 18;refine (HF.out.2.2.1 _ _ _ _ _ _ _ _ _ _ Y1 J1.out.2.2.2.1).mono ?_;rintro e Y2 ⟨F3,f3,F4,f4,rfl,hP,_,hB1⟩;have J2:=hide (And.intro (J1.out.1.below hB1 (Nat.le_refl _)) (And.intro hP (And.intro (J1.out.2.2.1.below hB1 J1.out.2.2.1.lt) (And.intro (J1.out.2.2.2.2.1.below hB1 hB1.size) (J1.out.2.2.2.2.2.trans (hB1.mono J1.out.2.2.2.2.2.size))))));clear hP hB1)
        clear z0 z1 z2 z3 z4 z5 lgb J1
        obtain ⟨z0,z1,z2,z3,z4,z5⟩:=J2.out.2.2.1.six9
        have lgc:=J2.out.2.2.1.lt
        go_upto_region 31 with (go_at_call 18;refine (HF.out.2.2.2.1 _ _ _ _ _ _ _ _ _ _ Y2 J2.out.2.2.2.1).mono ?_;rintro e Y3 ⟨F5,f5,F6,f6,rfl,hP,_,hB1⟩;have J3:=hide (And.intro (J2.out.1.below hB1 (Nat.le_refl _)) (And.intro (J2.out.2.1.below hB1 (Nat.le_refl _)) (And.intro hP (J2.out.2.2.2.2.trans (hB1.mono J2.out.2.2.2.2.size)))));clear hP hB1)
        clear z0 z1 z2 z3 z4 z5 lgc J2
        go_upto_region 34 with fail
        go_loopw [22] (fun iv wr=>∃i:Nat,i≤nF∧iv= .int .i64 i∧Below Y3.heap.size Y3 wr) (fun iv _=>nF - (intOf iv).toNat)
        case atStart=>exact ⟨0,by omega,rfl,Below.refl _ _⟩
        case round=>
         obtain ⟨i,hi,rfl,hBU⟩:=hrel
         obtain ⟨U5,rfl⟩:∃x,x=wr:=⟨_,rfl⟩
         by_cases hlt:i < nF
         ·have i1:(i:Int) < (nF:Int):=by omega
          have HNU:=hide (show i+1≤nF∧nF - (intOf (.int .i64 ((i+1:Nat):Int))).toNat < nF - (intOf (.int .i64 (i:Int))).toNat from ⟨by omega,by show nF - (i+1) < nF - i;omega⟩)
          have tw:wrap64 ((i:Int)+1)=((i+1:Nat):Int):=by have:=HQ.out.2.2;unfold wrap64;omega
          have HTW:=hide tw
          clear tw
          obtain ⟨x,hx⟩:∃x,FA[i]? =some x:=⟨_,List.getElem?_eq_getElem (by rw [HF.out.2.2.2.2.1.1];exact hlt)⟩
          obtain ⟨y,hy⟩:∃x,FB[i]? =some x:=⟨_,List.getElem?_eq_getElem (by rw [HF.out.2.2.2.2.1.2.1];exact hlt)⟩
          have hz:FC[i]? =some (addP x y):=HF.out.2.2.2.2.1.2.2 i x y hx hy
          obtain ⟨pa,_,e9,_,hpa9,x0,x1,x2⟩:=own_pt9 J3.out.1 hx
          subst e9
          obtain ⟨pb,_,e9,_,hpb9,y0,y1,y2⟩:=own_pt9 J3.out.2.1 hy
          subst e9
          obtain ⟨pc,_,e9,_,hpc9,w0,w1,w2⟩:=own_pt9 J3.out.2.2.1 hz
          subst e9
          have kh:=plus9_any x y
          have hfz:fitsP (addP x y):=by unfold addP fitsP;exact ⟨fits_wrA _,fits_wrA _,fits_wrA _⟩
          obtain ⟨q,hq⟩:∃q,q=addP x y:=⟨_,rfl⟩
          rw [←hq] at w0 w1 w2 hfz
          simp only [←hq] at kh
          obtain ⟨r1,r2,r3⟩:=q
          obtain ⟨v1,v2,v3⟩:=x
          obtain ⟨u1,u2,u3⟩:=y
          try simp only at x0 x1 x2 y0 y1 y2 w0 w1 w2
          have HA:=hide (And.intro x0 (And.intro x1 (And.intro x2 hpa9.lt)))
          have HB:=hide (And.intro y0 (And.intro y1 (And.intro y2 hpb9.lt)))
          have HC:=hide (And.intro w0 (And.intro w1 (And.intro w2 hpc9.lt)))
          have HKH:=hide kh
          have HQP:=hide (neq_pts r1 r2 r3 hfz)
          have HU:=hide hBU
          clear x0 x1 x2 y0 y1 y2 w0 w1 w2 hpa9 hpb9 hpc9 kh hx hy hz hq hfz hBU
          go_upto_region 36 with fail
          as_aux_lemma=>
           have HSB:=hide (show Below Y3.heap.size Y3 U5.drew from HU.out.drew)
           refine wp_region_mix (fun W=>Below Y3.heap.size Y3 W) [0,1,2,3,4,5,6,7,9,10,11,12] [0,1,2,3,4,5,6,7,9,10,11,12,8,13] mixed_ok (by kernel_rfl) ?_
           refine wpMix_q (v:=(.slice (some ⟨pa,0,none⟩) nF f1)) rfl rfl (fun _ _ _ h=>h) HSB.out ⟨rfl,fun _ _=>by simp [go_sem]⟩ ?_
           refine wpMix_q (v:=(.int .i64 i)) rfl rfl (fun _ _ _ h=>h) HSB.out ⟨rfl,fun _ _=>by simp [go_sem]⟩ ?_
           refine wpMix_q (v:=(.pointer (some ⟨pa,i*3,none⟩))) rfl rfl (fun _ _ _ h=>h) HSB.out ⟨rfl,fun _ _=>by simp [go_sem,i1]⟩ ?_
           refine wpMix_q (v:=(.agg #[.int .i64 v1, .int .i64 v2, .int .i64 v3])) rfl rfl (fun _ _ _ h=>h) HSB.out ⟨rfl,fun _ h'=>by have a0:=(h'.cell (p:=⟨pa,i*3,none⟩) HA.out.2.2.2).trans HA.out.1;have a1:=(h'.cell (p:=⟨pa,i*3+1,none⟩) HA.out.2.2.2).trans HA.out.2.1;have a2:=(h'.cell (p:=⟨pa,i*3+2,none⟩) HA.out.2.2.2).trans HA.out.2.2.1;simp [go_sem,a0,a1,a2]⟩ ?_
           refine wpMix_q (v:=(.slice (some ⟨pb,0,none⟩) nF f3)) rfl rfl (fun _ _ _ h=>h) HSB.out ⟨rfl,fun _ _=>by simp [go_sem]⟩ ?_
           refine wpMix_q (v:=(.int .i64 i)) rfl rfl (fun _ _ _ h=>h) HSB.out ⟨rfl,fun _ _=>by simp [go_sem]⟩ ?_
           simp only [List.getElem_toArray,List.getElem_cons_succ,List.getElem_cons_zero,Act.put,List.setIfInBounds_toArray,List.set_cons_succ,List.set_cons_zero]
           as_aux_lemma=>
            refine wpMix_q (v:=(.pointer (some ⟨pb,i*3,none⟩))) rfl rfl (fun _ _ _ h=>h) HSB.out ⟨rfl,fun _ _=>by simp [go_sem,i1]⟩ ?_
            refine wpMix_q (v:=(.agg #[.int .i64 u1, .int .i64 u2, .int .i64 u3])) rfl rfl (fun _ _ _ h=>h) HSB.out ⟨rfl,fun _ h'=>by have a0:=(h'.cell (p:=⟨pb,i*3,none⟩) HB.out.2.2.2).trans HB.out.1;have a1:=(h'.cell (p:=⟨pb,i*3+1,none⟩) HB.out.2.2.2).trans HB.out.2.1;have a2:=(h'.cell (p:=⟨pb,i*3+2,none⟩) HB.out.2.2.2).trans HB.out.2.2.1;simp [go_sem,a0,a1,a2]⟩ ?_
            refine wpMix_q (v:=(.slice (some ⟨pc,0,none⟩) nF f5)) rfl rfl (fun _ _ _ h=>h) HSB.out ⟨rfl,fun _ _=>by simp [go_sem]⟩ ?_
            refine wpMix_q (v:=(.int .i64 i)) rfl rfl (fun _ _ _ h=>h) HSB.out ⟨rfl,fun _ _=>by simp [go_sem]⟩ ?_
            refine wpMix_q (v:=(.pointer (some ⟨pc,i*3,none⟩))) rfl rfl (fun _ _ _ h=>h) HSB.out ⟨rfl,fun _ _=>by simp [go_sem,i1]⟩ ?_
            refine wpMix_q (v:=(.agg #[.int .i64 r1, .int .i64 r2, .int .i64 r3])) rfl rfl (fun _ _ _ h=>h) HSB.out ⟨rfl,fun _ h'=>by have a0:=(h'.cell (p:=⟨pc,i*3,none⟩) HC.out.2.2.2).trans HC.out.1;have a1:=(h'.cell (p:=⟨pc,i*3+1,none⟩) HC.out.2.2.2).trans HC.out.2.1;have a2:=(h'.cell (p:=⟨pc,i*3+2,none⟩) HC.out.2.2.2).trans HC.out.2.2.1;simp [go_sem,a0,a1,a2]⟩ ?_
            simp only [List.getElem_toArray,List.getElem_cons_succ,List.getElem_cons_zero,Act.put,List.setIfInBounds_toArray,List.set_cons_succ,List.set_cons_zero]
            as_aux_lemma=>
             refine wpMix_n rfl rfl ?_
             go_wp2_with fail
             refine (HKH.out U5.drew).mono ?_
             rintro e U6 ⟨rfl,hB2⟩
             have hB6:Below Y3.heap.size Y3 U6:=HSB.out.trans (hB2.mono HSB.out.size)
             clear HSB
             have HSB:=hide hB6
             clear hB6 hB2
             go_wp2_with fail
             refine ⟨fun _=>HSB.out,?_⟩
             refine wpMix_y (v:= .bool false) rfl rfl HSB.out ⟨rfl,fun _ _=>by simp [go_sem,HQP.out]⟩ ?_
             simp only [List.getElem_toArray,List.getElem_cons_succ,List.getElem_cons_zero,Act.put,List.setIfInBounds_toArray,List.set_cons_succ,List.set_cons_zero]
             as_aux_lemma=>
              refine wpMix_nil ?_
              have tw:=HTW.out
              clear hlt hi
              go_wp2
              go_roundw
              case rel=>exact ⟨i+1,HNU.out.1,by go_num,HSB.out⟩
              case measure=>
               show nF - (intOf (.int .i64 (wrap64 ((i:Int)+1)))).toNat < nF - (intOf (.int .i64 (i:Int))).toNat
               rw [HTW.out]
               exact HNU.out.2
         ·obtain rfl:nF=i:=by omega
          have i1:¬(nF:Int) < (nF:Int):=by omega
          have HU:=hide hBU
          clear hBU
          go_wp2
          go_ret
          exact ⟨rfl,J3.out.2.2.2.trans (HU.out.mono J3.out.2.2.2.size)⟩
end Go.Proofs.YtmemofonebphfaaGreat
