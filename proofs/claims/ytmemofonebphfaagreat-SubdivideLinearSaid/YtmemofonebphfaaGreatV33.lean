import Derived.Test.YtmemofonebphfaaGreatV31
import Derived.Test.YtmemofonebphfaaGreatV32
namespace Go.Proofs.YtmemofonebphfaaGreat
open Go.RowKit Go.Sort
theorem infoLPd:(Tryz.prog.info? 28).map (fun i=>(i.zero,i.size,i.bytes))=some (some (.slice none 0 0),1,24):=by kernel_rfl
theorem PcsD.snoc9 {α:Type} {enc:α→List Value} {k:Nat} {e te:TypeId} {w w':World} {base:Nat} {v v':Value} {ss:List Hdr} {ps:List (List α)} {p:List α} {A:Option Addr} {c:Nat} (hte:te≠e) (ho:Own encS 1 te w base v ps.length ss) (hel:Elems enc k e w base ss ps) (hpw:ss.Pairwise Apart2)
  (hx:Own enc k e w base (.slice A p.length c) p.length p) (hnew:∀g,(Value.slice A p.length c).ownBlock=some g→Away g ss) (hg:w.grownBy w' v.ownBlock) (ho':Own encS 1 te w' base v' (ps.length+1) (ss++ [(A,p.length,c)])):PcsD enc k e te w' base v' (ps++ [p]):=by
 have hne:=own_rowS ho hte
 refine ⟨ss++ [(A,p.length,c)],by simpa using ho',(hel.step hg hne).append ⟨⟨rfl,hx.step hg hne⟩,trivial⟩,?_⟩
 refine List.pairwise_append.2 ⟨hpw,List.pairwise_singleton _ _,fun s hs t ht g hsg htg=> ?_⟩
 obtain rfl:=List.mem_singleton.1 ht
 exact hnew g htg s hs hsg
def CpyD (w w':World) (c:Ctl) (e:Ending):Prop:=
 ∃(B:Nat) (Ap At Ac Ao Ad:Option Addr) (cp ct cc oc dc:Nat),e= .returned (vCtl Ap c.points.length cp At c.tris.length ct Ac c.creases.length cc Ao c.corners.length oc c.steps Ad c.details.length dc)∧
  Own encN3 3 35 w' w.heap.size (.slice At c.tris.length ct) c.tris.length c.tris∧Own encP 3 43 w' w.heap.size (.slice Ap c.points.length cp) c.points.length c.points∧Own encE2 2 56 w' w.heap.size (.slice Ac c.creases.length cc) c.creases.length c.creases∧
  Own encZ9 1 3 w' w.heap.size (.slice Ao c.corners.length oc) c.corners.length c.corners∧PcsD encP 3 43 28 w' B (.slice Ad c.details.length dc) c.details∧(w.heap.size≤B∧B≤w'.heap.size∧∀r,(Value.slice Ap c.points.length cp).ownBlock=some r→r < B)∧Below w.heap.size w w'
theorem CtO.resD {w0 w W W':World} {B g g2:Nat} {vp vt vc vo vd:Value} {c:Ctl} (h:CtO w W B g vp vt vc vo vd c) (hd:PcsD encP 3 43 28 W B vd c.details) (hw:Below w0.heap.size w0 w) (hg2:w0.heap.size≤g2) (hlt:g2 < w.heap.size) (hg:W.grownBy W' (some g2)):CpyD w0 W' c (.returned (.agg (cMad vp vt vc vo c.steps vd))):=by
 obtain ⟨Ap,cp,e1⟩:=h.e.p.form
 obtain ⟨At,ct,e2⟩:=h.e.t.form
 obtain ⟨Ac,cc,e3⟩:=h.e.cr.form
 obtain ⟨Ao,oc,e4⟩:=h.e.o.form
 obtain ⟨Ad,dc,e5⟩:=h.d.form
 subst e1 e2 e3 e4 e5
 have hr:∀r,(some g2:Option Nat)=some r→r < w.heap.size:=fun r e=>by cases e;exact hlt
 exact ⟨B,Ap,At,Ac,Ao,Ad,cp,ct,cc,oc,dc,rfl,(h.e.t.step hg (fun r e=> .inl (hr r e))).base_le hw.size,(h.e.p.step hg (fun r e=> .inl (hr r e))).base_le hw.size,(h.e.cr.step hg (fun r e=> .inl (hr r e))).base_le hw.size,(h.e.o.step hg (fun r e=> .inl (hr r e))).base_le hw.size,hd.step hg (fun _ _ r e=> .inl (Nat.lt_of_lt_of_le (hr r e) h.lb.1)),⟨Nat.le_trans hw.size h.lb.1,Nat.le_trans h.lb.2 hg.size,h.lp⟩,(hw.trans (h.e.bel.mono hw.size)).trans (grown_bel hg hg2 (Nat.le_trans hw.size h.e.bel.size))⟩
set_option maxRecDepth 100000 in
set_option maxHeartbeats 64000000 in
theorem copy9D (Ap At Ac Ao Ad:Option Addr) (cp ct cc oc dc:Nat) (c:Ctl) (w:World) (hm:CtlM w w.heap.size Ap At Ac Ao Ad c) (hb:CtlB c):
  Calls Tryz.prog 21 #[vCtl Ap c.points.length cp At c.tris.length ct Ac c.creases.length cc Ao c.corners.length oc c.steps Ad c.details.length dc] w fun e w'=>CpyD w w' c e:=by
 obtain ⟨P,T,C,O,st,D⟩:=c
 obtain ⟨hbp,hbt,hbc,hbo,hbd,hbdd⟩:=hb
 dsimp only at hbp hbt hbc hbo hbd hbdd⊢
 obtain ⟨np,hnp⟩:∃n,n=P.length:=⟨_,rfl⟩
 obtain ⟨nt,hnt⟩:∃n,n=T.length:=⟨_,rfl⟩
 obtain ⟨nc,hnc⟩:∃n,n=C.length:=⟨_,rfl⟩
 obtain ⟨no,hno⟩:∃n,n=O.length:=⟨_,rfl⟩
 obtain ⟨nd,hnd⟩:∃n,n=D.length:=⟨_,rfl⟩
 rw [←hnp] at hbp
 rw [←hnt] at hbt
 rw [←hnc] at hbc
 rw [←hno] at hbo
 rw [←hnd] at hbd
 rw [←hnp,←hnt,←hnc,←hno,←hnd]
 have HN:=hide (And.intro hnp (And.intro hnt (And.intro hnc (And.intro hno hnd))))
 have HM:=hide (And.intro hm hbdd)
 clear hm hbdd hnp hnt hnc hno hnd
 go_enter Tryz.func21,Tryz.ntmps21
 go_upto_region 1 with fail
 obtain ⟨g1,hg1⟩:∃g,g=w.heap.size:=⟨_,rfl⟩
 obtain ⟨g2,hg2⟩:∃g,g=w.heap.size+1:=⟨_,rfl⟩
 obtain ⟨X0,hX⟩:∃W,W=(w.alloc (.cells (cCtl Ap np cp At nt ct Ac nc cc Ao no oc st Ad nd dc) 32)).alloc (.cells (cCtl none 0 0 none 0 0 none 0 0 none 0 0 0 none 0 0) 32):=⟨_,rfl⟩
 rw [←hX,←hg2,←hg1]
 have hb1:Blk X0 g1 32 (cCtl Ap np cp At nt ct Ac nc cc Ao no oc st Ad nd dc):=by rw [hX,hg1];exact (Blk.new _ _ _).alloc _
 have hb2:Blk X0 g2 32 (cCtl none 0 0 none 0 0 none 0 0 none 0 0 0 none 0 0):=by rw [hX,hg2];exact Blk.new' _ _ _ _ (by simp)
 have hBX:Below w.heap.size w X0:=by rw [hX];exact ((Below.refl _ w).alloc (Nat.le_refl _) _).alloc (by simp) _
 have hmX:CtlM X0 X0.heap.size Ap At Ac Ao Ad ⟨P,T,C,O,st,D⟩:=HM.out.1.below hBX hBX.size
 have c4:X0.cell? ⟨g1,4,none⟩=some (.int .i64 st):=hb1.cell 4
 have hgl:=hb1.lt
 have H0:=hide (And.intro hb1 (And.intro hb2 (And.intro hBX (And.intro hmX (show w.heap.size≤g2 by omega)))))
 clear hb1 hb2 hBX hX hg1 hg2 hmX
 go_upto_region 2 with fail
 obtain ⟨g3,hg3⟩:∃g,g=X0.heap.size:=⟨_,rfl⟩
 obtain ⟨X2,hX2⟩:∃W,W=X0.alloc (.cells (cMad (.slice none 0 0) (.slice none 0 0) (.slice none 0 0) (.slice none 0 0) st (.slice none 0 0)) 32):=⟨_,rfl⟩
 rw [←hX2,←hg3]
 have hBa:Below X0.heap.size X0 X2:=by rw [hX2];exact (Below.refl _ _).alloc (Nat.le_refl _) _
 have hS2:CtE X0 X2 g3 (.slice none 0 0) (.slice none 0 0) (.slice none 0 0) (.slice none 0 0) (.slice none 0 0) ⟨[], [], [], [],st, []⟩:=⟨hBa,by rw [hX2,hg3];exact Blk.new _ _ _,by omega,Own.nil,Own.nil,Own.nil,Own.nil,Pcs.nil⟩
 have HS2:=hide hS2
 clear hS2 hX2 hg3 hBa c4 hgl
 have c1:X2.cell? ⟨g1,0,none⟩=some (.slice Ap np cp):=((HS2.out.bel).cell (p:=⟨g1,0,none⟩) H0.out.1.lt).trans (H0.out.1.cell 0)
 have c3:X2.cell? ⟨g3,0,none⟩=some (.slice none 0 0):=HS2.out.b.cell 0
 have hg1l:g1 < X2.heap.size:=Nat.lt_of_lt_of_le H0.out.1.lt HS2.out.bel.size
 have hg3l:=HS2.out.b.lt
 have hXl:=HS2.out.bel.size
 go_upto_region 3 with (at_builtin;refine wpList_appendS rfl _ _ _ rfl Tryz.underlying28 infoP rfl (by omega) encP_len encP_one rfl HS2.out.p Ap cp X0.heap.size P (by rw [←HN.out.1];rfl) (H0.out.2.2.2.1.p.below HS2.out.bel) (by rw [←HN.out.1];simp only [List.length_nil];unfold maxLen;omega) (by rw [←HN.out.1];simp only [List.length_nil];omega) hXl ?_;intro v6 w6 hown6 hg6 hB6 hat6;rw [List.length_nil,Nat.zero_add,List.nil_append] at hown6;obtain ⟨B0,b0,rfl⟩:∃A c,v6= .slice A np c:=(by have h:=hown6.form;rw [←HN.out.1] at h;exact h);have hS6:=HS2.out.ap_p0 hg6 hown6;have h61:=HS2.out.b.grown hg6 (blk_own_ne9 HS2.out.b HS2.out.p (show (43:TypeId)≠32 by decide));have f6:=h61.frozen 0;have hl6:=h61.lt;have c7:=h61.cell 0;have H6:=hide hS6;clear hown6 hg6 hB6 hat6 hS6 h61)
 obtain ⟨X3,hX3⟩:∃W,W=w6.setCell ⟨g3,0,none⟩ (.slice B0 np b0):=⟨_,rfl⟩
 try rw [←hX3]
 obtain ⟨B,hBw⟩:∃B,B=w6.heap.size:=⟨_,rfl⟩
 have HS3:=hide (show CtO X0 X3 B g3 (.slice B0 np b0) (.slice none 0 0) (.slice none 0 0) (.slice none 0 0) (.slice none 0 0) ⟨P, [], [], [],st, []⟩ from by
  rw [hX3]
  rw [hBw]
  exact H6.out)
 clear H6 f6 hl6 c7 c1 c3 hg1l hg3l hXl hX3 hBw
 have c1:X3.cell? ⟨g1,1,none⟩=some (.slice At nt ct):=((HS3.out.e.bel).cell (p:=⟨g1,1,none⟩) H0.out.1.lt).trans (H0.out.1.cell 1)
 have c3:X3.cell? ⟨g3,1,none⟩=some (.slice none 0 0):=HS3.out.e.b.cell 1
 have hg1l:g1 < X3.heap.size:=Nat.lt_of_lt_of_le H0.out.1.lt HS3.out.e.bel.size
 have hg3l:=HS3.out.e.b.lt
 have hXl:=HS3.out.e.bel.size
 go_upto_region 4 with (at_builtin;refine wpList_appendS rfl _ _ _ rfl Tryz.underlying22 infoN3 rfl (by omega) encN3_len encN3_one rfl HS3.out.e.t At ct X0.heap.size T (by rw [←HN.out.2.1];rfl) (H0.out.2.2.2.1.t.below HS3.out.e.bel) (by rw [←HN.out.2.1];simp only [List.length_nil];unfold maxLen;omega) (by rw [←HN.out.2.1];simp only [List.length_nil];omega) hXl ?_;intro v6 w6 hown6 hg6 hB6 hat6;rw [List.length_nil,Nat.zero_add,List.nil_append] at hown6;obtain ⟨B1,b1,rfl⟩:∃A c,v6= .slice A nt c:=(by have h:=hown6.form;rw [←HN.out.2.1] at h;exact h);have hS6:=HS3.out.ap_t hg6 hown6;have h61:=HS3.out.e.b.grown hg6 (blk_own_ne9 HS3.out.e.b HS3.out.e.t (show (35:TypeId)≠32 by decide));have f6:=h61.frozen 1;have hl6:=h61.lt;have c7:=h61.cell 1;have H6:=hide hS6;clear hown6 hg6 hB6 hat6 hS6 h61)
 obtain ⟨X4,hX4⟩:∃W,W=w6.setCell ⟨g3,1,none⟩ (.slice B1 nt b1):=⟨_,rfl⟩
 try rw [←hX4]
 have HS4:=hide (show CtO X0 X4 B g3 (.slice B0 np b0) (.slice B1 nt b1) (.slice none 0 0) (.slice none 0 0) (.slice none 0 0) ⟨P,T, [], [],st, []⟩ from by
  rw [hX4]
  skip
  exact H6.out)
 clear H6 f6 hl6 c7 c1 c3 hg1l hg3l hXl hX4
 have c1:X4.cell? ⟨g1,2,none⟩=some (.slice Ac nc cc):=((HS4.out.e.bel).cell (p:=⟨g1,2,none⟩) H0.out.1.lt).trans (H0.out.1.cell 2)
 have c3:X4.cell? ⟨g3,2,none⟩=some (.slice none 0 0):=HS4.out.e.b.cell 2
 have hg1l:g1 < X4.heap.size:=Nat.lt_of_lt_of_le H0.out.1.lt HS4.out.e.bel.size
 have hg3l:=HS4.out.e.b.lt
 have hXl:=HS4.out.e.bel.size
 go_upto_region 5 with (at_builtin;refine wpList_appendS rfl _ _ _ rfl Tryz.underlying29 infoE2 rfl (by omega) encE2_len encE2_one rfl HS4.out.e.cr Ac cc X0.heap.size C (by rw [←HN.out.2.2.1];rfl) (H0.out.2.2.2.1.cr.below HS4.out.e.bel) (by rw [←HN.out.2.2.1];simp only [List.length_nil];unfold maxLen;omega) (by rw [←HN.out.2.2.1];simp only [List.length_nil];omega) hXl ?_;intro v6 w6 hown6 hg6 hB6 hat6;rw [List.length_nil,Nat.zero_add,List.nil_append] at hown6;obtain ⟨B2,b2,rfl⟩:∃A c,v6= .slice A nc c:=(by have h:=hown6.form;rw [←HN.out.2.2.1] at h;exact h);have hS6:=HS4.out.ap_cr hg6 hown6;have h61:=HS4.out.e.b.grown hg6 (blk_own_ne9 HS4.out.e.b HS4.out.e.cr (show (56:TypeId)≠32 by decide));have f6:=h61.frozen 2;have hl6:=h61.lt;have c7:=h61.cell 2;have H6:=hide hS6;clear hown6 hg6 hB6 hat6 hS6 h61)
 obtain ⟨X5,hX5⟩:∃W,W=w6.setCell ⟨g3,2,none⟩ (.slice B2 nc b2):=⟨_,rfl⟩
 try rw [←hX5]
 have HS5:=hide (show CtO X0 X5 B g3 (.slice B0 np b0) (.slice B1 nt b1) (.slice B2 nc b2) (.slice none 0 0) (.slice none 0 0) ⟨P,T,C, [],st, []⟩ from by
  rw [hX5]
  skip
  exact H6.out)
 clear H6 f6 hl6 c7 c1 c3 hg1l hg3l hXl hX5
 have c1:X5.cell? ⟨g1,3,none⟩=some (.slice Ao no oc):=((HS5.out.e.bel).cell (p:=⟨g1,3,none⟩) H0.out.1.lt).trans (H0.out.1.cell 3)
 have c3:X5.cell? ⟨g3,3,none⟩=some (.slice none 0 0):=HS5.out.e.b.cell 3
 have hg1l:g1 < X5.heap.size:=Nat.lt_of_lt_of_le H0.out.1.lt HS5.out.e.bel.size
 have hg3l:=HS5.out.e.b.lt
 have hXl:=HS5.out.e.bel.size
 go_upto_region 6 with (at_builtin;refine wpList_appendS rfl _ _ _ rfl Tryz.underlying23 infoI9 rfl (by omega) encZ9_len encZ9_one rfl HS5.out.e.o Ao oc X0.heap.size O (by rw [←HN.out.2.2.2.1];rfl) (H0.out.2.2.2.1.o.below HS5.out.e.bel) (by rw [←HN.out.2.2.2.1];simp only [List.length_nil];unfold maxLen;omega) (by rw [←HN.out.2.2.2.1];simp only [List.length_nil];omega) hXl ?_;intro v6 w6 hown6 hg6 hB6 hat6;rw [List.length_nil,Nat.zero_add,List.nil_append] at hown6;obtain ⟨B3,b3,rfl⟩:∃A c,v6= .slice A no c:=(by have h:=hown6.form;rw [←HN.out.2.2.2.1] at h;exact h);have hS6:=HS5.out.ap_o hg6 hown6;have h61:=HS5.out.e.b.grown hg6 (blk_own_ne9 HS5.out.e.b HS5.out.e.o (show (3:TypeId)≠32 by decide));have f6:=h61.frozen 3;have hl6:=h61.lt;have c7:=h61.cell 3;have H6:=hide hS6;clear hown6 hg6 hB6 hat6 hS6 h61)
 obtain ⟨X6,hX6⟩:∃W,W=w6.setCell ⟨g3,3,none⟩ (.slice B3 no b3):=⟨_,rfl⟩
 try rw [←hX6]
 have HS6:=hide (show CtO X0 X6 B g3 (.slice B0 np b0) (.slice B1 nt b1) (.slice B2 nc b2) (.slice B3 no b3) (.slice none 0 0) ⟨P,T,C,O,st, []⟩ from by
  rw [hX6]
  skip
  exact H6.out)
 clear H6 f6 hl6 c7 c1 c3 hg1l hg3l hXl hX6
 go_upto_region 7 with fail
 go_loopw [4] (fun iv wr=>∃(k:Nat) (vd:Value),k≤nd∧iv= .int .i64 k∧CtO X0 wr B g3 (.slice B0 np b0) (.slice B1 nt b1) (.slice B2 nc b2) (.slice B3 no b3) vd ⟨P,T,C,O,st,D.take k⟩∧PcsD encP 3 43 28 wr B vd (D.take k)) (fun iv _=>nd - (intOf iv).toNat)
 case atStart=>exact ⟨0,_,by omega,rfl,HS6.out,by rw [List.take_zero];exact PcsD.nil⟩
 case round=>
  obtain ⟨k,vd,hk,rfl,hS,hPD⟩:=hrel
  obtain ⟨V,rfl⟩:∃x,x=wr:=⟨_,rfl⟩
  have c1:V.cell? ⟨g1,5,none⟩=some (.slice Ad nd dc):=(hS.e.bel.cell (p:=⟨g1,5,none⟩) H0.out.1.lt).trans (H0.out.1.cell 5)
  have hg1l:g1 < V.heap.size:=Nat.lt_of_lt_of_le H0.out.1.lt hS.e.bel.size
  by_cases hlt:k < nd
  ·have k1:(k:Int) < (nd:Int):=by omega
   obtain ⟨d,hd⟩:∃d,D[k]? =some d:=⟨_,List.getElem?_eq_getElem (by rw [←HN.out.2.2.2.2];exact hlt)⟩
   have hdl:=HM.out.2 d (List.mem_of_getElem? hd)
   have hkl:(D.take k).length=k:=by rw [List.length_take,←HN.out.2.2.2.2];omega
   have htk:D.take (k+1)=D.take k++ [d]:=by rw [List.take_add_one,hd];rfl
   obtain ⟨bd,od,Ax,kx,hA,hbd,hcd,hsd⟩:=H0.out.2.2.2.1.det hd
   subst hA
   have hsdV:=hsd.below hS.e.bel
   obtain ⟨ss,hos,hel,hpw⟩:=hPD
   have hps:∀(i:Nat) (p:List Pt),(D.take k)[i]? =some p→∃A k,ss[i]? =some (A,p.length,k)∧Own encP 3 43 V B (.slice A p.length k) p.length p:=fun i p hi=>hel.at hi
   have HPD:=hide (And.intro hel hpw)
   clear hel hpw
   rw [hkl] at hos
   obtain ⟨Av,kv,rfl⟩:=hos.form
   obtain ⟨dl,hdn⟩:∃n,n=d.length:=⟨_,rfl⟩
   rw [←hdn] at hdl hcd
   have hBV:B≤V.heap.size:=hS.lb.2
   have HS:=hide (And.intro hS (And.intro hos (And.intro hps (And.intro hsdV (And.intro hkl (And.intro htk hdn))))))
   have HC:=hide (And.intro hcd hbd)
   clear hS hos hps hsdV hkl htk hdn hsd hcd hbd hd
   go_upto_region 9 with fail
   clear c1 hg1l
   have HSB:=hide (show Blk V.drew g3 32 (cMad (.slice B0 np b0) (.slice B1 nt b1) (.slice B2 nc b2) (.slice B3 no b3) st (.slice Av k kv))∧Below X0.heap.size X0 V.drew from ⟨HS.out.1.e.b,HS.out.1.e.bel.drew⟩)
   refine wp_region_mix (fun W=>Blk W g3 32 (cMad (.slice B0 np b0) (.slice B1 nt b1) (.slice B2 nc b2) (.slice B3 no b3) st (.slice Av k kv))∧Below X0.heap.size X0 W) [0,1,3,4,5,6,7] [0,1,3,4,5,6,7,2,8,9,10,11,12] mixed_ok (by kernel_rfl) ?_
   refine wpMix_q (v:=(.pointer (some ⟨g3,5,none⟩))) rfl rfl (fun _ _ _ h=>h) HSB.out ⟨rfl,fun _ _=>by simp [go_sem]⟩ ?_
   refine wpMix_q (v:=(.slice Av k kv)) rfl rfl (fun _ _ _ h=>h) HSB.out ⟨rfl,fun _ h'=>by have a0:=h'.1.cell 5;simp only [List.getElem?_toArray,List.getElem?_cons_zero,List.getElem?_cons_succ] at a0;simp [go_sem,a0]⟩ ?_
   refine wpMix_q (v:=(.pointer (some ⟨g1,5,none⟩))) rfl rfl (fun _ _ _ h=>h) HSB.out ⟨rfl,fun _ _=>by simp [go_sem]⟩ ?_
   refine wpMix_q (v:=(.slice (some ⟨bd,od,none⟩) nd dc)) rfl rfl (fun _ _ _ h=>h) HSB.out ⟨rfl,fun _ h'=>by have a0:=(h'.2.cell (p:=⟨g1,5,none⟩) H0.out.1.lt).trans (H0.out.1.cell 5);simp only [List.getElem?_toArray,List.getElem?_cons_zero,List.getElem?_cons_succ] at a0;simp [go_sem,a0]⟩ ?_
   refine wpMix_q (v:=(.int .i64 k)) rfl rfl (fun _ _ _ h=>h) HSB.out ⟨rfl,fun _ _=>by simp [go_sem]⟩ ?_
   refine wpMix_q (v:=(.pointer (some ⟨bd,od+k,none⟩))) rfl rfl (fun _ _ _ h=>h) HSB.out ⟨rfl,fun _ _=>by simp [go_sem,k1]⟩ ?_
   simp only [List.getElem_toArray,List.getElem_cons_succ,List.getElem_cons_zero,Act.put,List.setIfInBounds_toArray,List.set_cons_succ,List.set_cons_zero]
   refine wpMix_q (v:=(.slice Ax dl kx)) rfl rfl (fun _ _ _ h=>h) HSB.out ⟨rfl,fun _ h'=>by have a0:=(h'.2.cell (p:=⟨bd,od+k,none⟩) HC.out.2).trans HC.out.1;simp [go_sem,a0]⟩ ?_
   simp only [List.getElem_toArray,List.getElem_cons_succ,List.getElem_cons_zero,Act.put,List.setIfInBounds_toArray,List.set_cons_succ,List.set_cons_zero]
   refine wpMix_n rfl rfl ?_
   go_wp2_with fail
   refine ⟨fun _=>⟨HSB.out.1.alloc _,HSB.out.2.alloc (Nat.le_trans HS.out.1.lb.1 hBV) _⟩,?_⟩
   refine wpMix_n rfl rfl ?_
   have hE:Own encP 3 43 (V.drew.alloc (.cells #[] 43)) B (.slice (some ⟨V.heap.size,0,none⟩) 0 0) 0 ([]:List Pt):=own_empty9 rfl hBV
   have hal:Below V.heap.size V (V.drew.alloc (.cells #[] 43)):=(Below.refl _ V).drew.alloc (Nat.le_refl _) _
   have HE:=hide (And.intro hE hal)
   clear hE hal
   have hXV:X0.heap.size≤V.heap.size:=Nat.le_trans HS.out.1.lb.1 hBV
   refine wpList_appendS rfl _ _ _ rfl Tryz.underlying28 infoP rfl (by omega) encP_len encP_one rfl HE.out.1 Ax kx X0.heap.size d (by rw [←HS.out.2.2.2.2.2.2];rfl) (HS.out.2.2.2.1.below (HE.out.2.mono hXV)) (by rw [←HS.out.2.2.2.2.2.2];unfold maxLen;omega) (by rw [←HS.out.2.2.2.2.2.2];omega) (Nat.le_trans hBV HE.out.2.size) ?_
   intro v5 w5 hown5 hg5 hB5 hat5
   rw [Nat.zero_add,List.nil_append] at hown5
   have hbl:∀r,(Value.slice (some ⟨V.heap.size,0,none⟩) 0 0).ownBlock=some r→V.heap.size≤r:=fun r hr=>by cases hr;exact Nat.le_refl _
   have hV5:Below V.heap.size V w5:=HE.out.2.trans (grown_belO hg5 hbl HE.out.2.size)
   rw [←HS.out.2.2.2.2.2.2] at hown5
   obtain ⟨Ay,ky,rfl⟩:=hown5.form
   have hnew:∀r,(Value.slice Ay dl ky).ownBlock=some r→V.heap.size≤r:=fun r hr=>by
    rcases hat5 with h | h
    ·rw [h] at hr;exact hbl r hr
    ·rw [h] at hr;cases hr;exact HE.out.2.size
   have HNW:=hide hnew
   clear hnew
   have H5:=hide (And.intro hown5 hV5)
   clear hown5 hg5 hB5 hat5 hbl hV5
   go_wp2_with fail
   refine ⟨fun _=>⟨HS.out.1.e.b.below H5.out.2 HS.out.1.e.b.lt,HS.out.1.e.bel.trans (H5.out.2.mono hXV)⟩,?_⟩
   refine wpMix_n rfl rfl ?_
   go_wp2_with fail
   obtain ⟨Y,hY⟩:∃W,W=w5.alloc (.cells #[.slice Ay dl ky] 28):=⟨_,rfl⟩
   rw [←hY]
   have hBY:Below w5.heap.size w5 Y:=by rw [hY];exact (Below.refl _ _).alloc (Nat.le_refl _) _
   have hKY:Blk Y w5.heap.size 28 #[.slice Ay dl ky]:=by rw [hY];exact Blk.new _ _ _
   have hVY:Below V.heap.size V Y:=H5.out.2.trans (hBY.mono H5.out.2.size)
   have hpsY:∀(i:Nat) (p:List Pt),(D.take k)[i]? =some p→∃A c,ss[i]? =some (A,p.length,c)∧Own encP 3 43 Y B (.slice A p.length c) p.length p:=fun i p hi=>by
    obtain ⟨A,c,h1,h2⟩:=HS.out.2.2.1 i p hi
    exact ⟨A,c,h1,h2.below hVY (Nat.le_refl _)⟩
   have HBVY:=hide hVY
   have HY:=hide (And.intro (HS.out.1.below hVY) (And.intro (HS.out.2.1.below hVY (Nat.le_refl _)) (And.intro hpsY (And.intro (H5.out.1.below hBY (Nat.le_refl _)) (And.intro hKY (And.intro hVY.size hY))))))
   clear hBY hKY hVY hY hpsY
   refine ⟨fun _=>⟨HY.out.1.e.b,HY.out.1.e.bel⟩,?_⟩
   refine wpMix_tail _ [_,_,_] (by kernel_rfl) rfl ?_
   clear HSB
   refine wpList_append1 rfl _ _ _ rfl Tryz.underlying30 infoLPd rfl (by omega) encS_len encS_one rfl HY.out.2.1 w5.heap.size 1 (Ay,dl,ky) rfl HY.out.2.2.2.2.1 (by unfold maxLen;omega) (by omega) (Nat.le_trans hBV HY.out.2.2.2.2.2.1) ?_
   intro g6 cap6 w6 hown6 hg6 hB6 hat6 hgb6 hlt6
   have hS6:=HY.out.1.ap_d (x:=d) (A:=Ay) (k:=ky) (by show Own _ _ _ _ _ _ (D.take k).length _;rw [HS.out.2.2.2.2.1];exact HY.out.2.1) HY.out.2.2.1 (by rw [←HS.out.2.2.2.2.2.2];exact HY.out.2.2.2.1) hg6 (by show Own _ _ _ _ _ _ ((D.take k).length+1) _;rw [HS.out.2.2.2.2.1,←HS.out.2.2.2.2.2.2];exact hown6)
   have h61:=HY.out.1.e.b.grown hg6 (blk_own_ne9 HY.out.1.e.b HY.out.2.1 (show (28:TypeId)≠32 by decide))
   have f6:=h61.frozen 5
   have hl6:=h61.lt
   have c7:=h61.cell 5
   dsimp only at hS6
   rw [←HS.out.2.2.2.2.2.1] at hS6
   have hPD6:PcsD encP 3 43 28 w6 B (.slice (some ⟨g6,0,none⟩) (k+1) cap6) (D.take (k+1)):=by
    rw [HS.out.2.2.2.2.2.1]
    exact PcsD.snoc9 (by decide) (by rw [HS.out.2.2.2.2.1];exact HY.out.2.1) (HPD.out.1.imp (fun s _ p h=>h.below HBVY.out (Nat.le_refl _))) HPD.out.2 (by rw [←HS.out.2.2.2.2.2.2];exact HY.out.2.2.2.1) (fun g hg=>HPD.out.1.away (HNW.out g (by rw [HS.out.2.2.2.2.2.2];exact hg))) hg6 (by rw [HS.out.2.2.2.2.1,←HS.out.2.2.2.2.2.2];exact hown6)
   have hPD7:=hPD6.step (grown_set9 w6 g3 5 (.slice (some ⟨g6,0,none⟩) (k+1) cap6)) (fun t e=>ctl_row h61 (by rcases e with rfl | rfl <;>decide) _)
   have H6:=hide (And.intro hS6 hPD7)
   clear hown6 hg6 hB6 hat6 hgb6 hlt6 hS6 h61 hPD6 hPD7
   go_wp2
   go_roundw
   case rel=>repeat (first | exact ⟨k+1,_,by omega,by go_num,H6.out⟩ | (refine ⟨?_,rfl⟩;exact ⟨k+1,_,by omega,by go_num,H6.out⟩) | apply Exists.intro)
   case measure=>(simp [intOf];try omega)
  ·obtain rfl:k=nd:=by omega
   have k1:¬(k:Int) < (k:Int):=by omega
   have htk:D.take k=D:=List.take_of_length_le (by rw [←HN.out.2.2.2.2];exact Nat.le_refl _)
   rw [htk] at hS hPD
   have HPD:=hide hPD
   clear hPD
   obtain ⟨Av,kv,rfl⟩:∃A c,vd= .slice A k c:=by have h:=hS.d.form;dsimp only at h;rw [←HN.out.2.2.2.2] at h;exact h
   obtain ⟨z0,z1,z2,z3,z4,z5⟩:=hS.e.b.six9
   have hg3l:=hS.e.b.lt
   have hV2:=H0.out.2.1.below hS.e.bel H0.out.2.1.lt
   obtain ⟨e0,e1,e2,e3,e4,e5⟩:=hV2.six9
   have hg2l:=hV2.lt
   have f0:=hV2.frozen 0
   have f1:=hV2.frozen 1
   have f2:=hV2.frozen 2
   have f3:=hV2.frozen 3
   have f4:=hV2.frozen 4
   have f5:=hV2.frozen 5
   have HV:=hide (And.intro hS hV2)
   clear hS htk hV2
   go_wp2
   have hE:=(((((HV.out.2.set_ 0 (.slice B0 np b0)).set_ 1 (.slice B1 nt b1)).set_ 2 (.slice B2 nc b2)).set_ 3 (.slice B3 no b3)).set_ 4 (.int .i64 st)).set_ 5 (.slice Av k kv)
   refine ret_at (v:= .agg (cMad (.slice B0 np b0) (.slice B1 nt b1) (.slice B2 nc b2) (.slice B3 no b3) st (.slice Av k kv))) (fun W=>Blk W g2 32 (cMad (.slice B0 np b0) (.slice B1 nt b1) (.slice B2 nc b2) (.slice B3 no b3) st (.slice Av k kv))) hE (fun W hW=> ?_) rfl ?_
   ·obtain ⟨a0,a1,a2,a3,a4,a5⟩:=hW.six9
    simp [results,Tryz.results21,go_sem,a0,a1,a2,a3,a4,a5]
    try trivial
   ·exact HV.out.1.resD HPD.out H0.out.2.2.1 H0.out.2.2.2.2 H0.out.2.1.lt (setW_grown g2 [(.slice B0 np b0),(.slice B1 nt b1),(.slice B2 nc b2),(.slice B3 no b3), .int .i64 st,(.slice Av k kv)] V 0)
end Go.Proofs.YtmemofonebphfaaGreat
namespace Go.Proofs.YtmemofonebphfaaGreat
open Go.RowKit Go.Sort
set_option maxRecDepth 100000 in
theorem half9_any (p:Pt) (hp:fitsP p) (w:World):Calls Tryz.prog 20 #[vP p] w fun e w'=>e= .returned (vP (halfP p))∧Below w.heap.size w w':=by
 obtain ⟨p1,p2,p3⟩:=p
 have t1:wrap64 (p1.tdiv 2)=p1.tdiv 2:=by have h:fits (p1.tdiv 2):=tdiv_fits hp.1 (by decide);unfold fits at h;unfold wrap64;omega
 have t2:wrap64 (p2.tdiv 2)=p2.tdiv 2:=by have h:fits (p2.tdiv 2):=tdiv_fits hp.2.1 (by decide);unfold fits at h;unfold wrap64;omega
 have t3:wrap64 (p3.tdiv 2)=p3.tdiv 2:=by have h:fits (p3.tdiv 2):=tdiv_fits hp.2.2 (by decide);unfold fits at h;unfold wrap64;omega
 clear hp
 go_enter Tryz.func20,Tryz.ntmps20
 go_upto_region 1 with fail
 obtain ⟨g0,hg0⟩:∃g,g=w.heap.size:=⟨_,rfl⟩
 obtain ⟨g1,hg1⟩:∃g,g=w.heap.size+1:=⟨_,rfl⟩
 obtain ⟨X,hX⟩:∃X,X=((w.alloc (.cells #[.int .i64 p1, .int .i64 p2, .int .i64 p3] 43)).alloc (.cells #[.int .i64 0, .int .i64 0, .int .i64 0] 43)):=⟨_,rfl⟩
 have hb0:Blk X g0 43 #[.int .i64 p1, .int .i64 p2, .int .i64 p3]:=by rw [hX,hg0];exact ((Blk.new _ _ _).alloc _)
 have hb1:Blk X g1 43 #[.int .i64 0, .int .i64 0, .int .i64 0]:=by rw [hX,hg1];exact (Blk.new' _ _ _ _ (by simp))
 have hB:Below w.heap.size w X:=by rw [hX];exact (((Below.refl _ w).alloc (Nat.le_refl _) _).alloc (by simp;try omega) _)
 have hgw:w.heap.size≤g1:=by omega
 rw [←hX,←hg1,←hg0]
 have c00:X.cell? ⟨g0,0,none⟩=some (.int .i64 p1):=hb0.cell 0
 have c01:X.cell? ⟨g0,1,none⟩=some (.int .i64 p2):=hb0.cell 1
 have c02:X.cell? ⟨g0,2,none⟩=some (.int .i64 p3):=hb0.cell 2
 have c10:X.cell? ⟨g1,0,none⟩=some (.int .i64 0):=hb1.cell 0
 have c11:X.cell? ⟨g1,1,none⟩=some (.int .i64 0):=hb1.cell 1
 have c12:X.cell? ⟨g1,2,none⟩=some (.int .i64 0):=hb1.cell 2
 have l0:=hb0.lt
 have l1:=hb1.lt
 have f0:=hb1.frozen 0
 have f1:=hb1.frozen 1
 have f2:=hb1.frozen 2
 have HX:=hide (And.intro hb1 (And.intro hB hgw))
 clear hX hB hgw hg0 hg1 hb0 hb1
 go_wp2
 refine ret_at (v:=vP (halfP (p1,p2,p3))) (fun W=>Blk W g1 43 #[.int .i64 (p1.tdiv 2), .int .i64 (p2.tdiv 2), .int .i64 (p3.tdiv 2)]) ?_ (fun W hW=> ?_) rfl ⟨rfl,?_⟩
 ·exact HX.out.1.set3 _ _ _
 ·obtain ⟨a0,a1,a2⟩:=hW.three
  simp [results,Tryz.results20,go_sem,a0,a1,a2]
  trivial
 ·exact ((HX.out.2.1.setCell (p:=⟨g1,0,none⟩) HX.out.2.2 _).setCell (p:=⟨g1,1,none⟩) HX.out.2.2 _).setCell (p:=⟨g1,2,none⟩) HX.out.2.2 _
end Go.Proofs.YtmemofonebphfaaGreat
namespace Go.Proofs.YtmemofonebphfaaGreat
open Go.RowKit Go.Sort
structure MshL (W:World) (lo mid hi g:Nat) (vp vt vc vo vd:Value) (ss:List Hdr) (c:Ctl):Prop where
 b:Blk W g 32 (cMad vp vt vc vo c.steps vd)
 gr:lo≤g∧g < hi
 p:Own encP 3 43 W lo vp c.points.length c.points
 pr:∀r,vp.ownBlock=some r→r < mid
 t:Own encN3 3 35 W 0 vt c.tris.length c.tris
 cr:Own encE2 2 56 W 0 vc c.creases.length c.creases
 o:Own encZ9 1 3 W 0 vo c.corners.length c.corners
 h:Own encS 1 28 W mid vd c.details.length ss
 d:∀(i:Nat) (p:List Pt),c.details[i]? =some p→∃A k,ss[i]? =some (A,p.length,k)∧Own encP 3 43 W mid (.slice A p.length k) p.length p∧∀r,(Value.slice A p.length k).ownBlock=some r→r < hi
 lm:lo≤mid∧mid≤hi∧hi≤W.heap.size
 hr:∀r,vd.ownBlock=some r→r < hi
section
variable {W W':World} {lo mid hi g r:Nat} {vp vt vc vo vd v:Value} {ss:List Hdr} {c:Ctl} {cs:Array Value} {t:TypeId} {row:Option Nat}
theorem MshL.below (m:MshL W lo mid hi g vp vt vc vo vd ss c) (hB:Below W.heap.size W W'):MshL W' lo mid hi g vp vt vc vo vd ss c:=
 ⟨m.b.below hB m.b.lt,m.gr,m.p.below hB (Nat.le_refl _),m.pr,m.t.below hB (Nat.le_refl _),m.cr.below hB (Nat.le_refl _),m.o.below hB (Nat.le_refl _),m.h.below hB (Nat.le_refl _),fun i p hi=>by
  obtain ⟨A,k,h1,h2,h3⟩:=m.d i p hi
  exact ⟨A,k,h1,h2.below hB (Nat.le_refl _),h3⟩,⟨m.lm.1,m.lm.2.1,Nat.le_trans m.lm.2.2 hB.size⟩,m.hr⟩
theorem MshL.far (m:MshL W lo mid hi g vp vt vc vo vd ss c) (hb:Blk W r 43 cs) (hg:W.grownBy W' (some r)) (hr:r < lo∨hi≤r):MshL W' lo mid hi g vp vt vc vo vd ss c:=by
 have hlm:=m.lm
 refine ⟨m.b.grown hg (fun e=>blk_ne9 m.b hb (by decide) (Option.some.inj e)),m.gr,m.p.kept hg ?_,m.pr,m.t.step hg (blk_rowT hb (by decide) _),m.cr.step hg (blk_rowT hb (by decide) _),m.o.step hg (blk_rowT hb (by decide) _),m.h.step hg (blk_rowT hb (by decide) _),fun i p hi2=> ?_,⟨hlm.1,hlm.2.1,Nat.le_trans hlm.2.2 hg.size⟩,m.hr⟩
 ·cases hv:vp.ownBlock with
  | none=>exact .inl rfl
  | some q=>
   refine .inr fun e=> ?_
   have e:=Option.some.inj e
   have h1:=(m.p.blk q hv).1
   have h2:=m.pr q hv
   omega
 ·obtain ⟨A,k,h1,h2,h3⟩:=m.d i p hi2
  refine ⟨A,k,h1,h2.kept hg ?_,h3⟩
  cases hv:(Value.slice A p.length k).ownBlock with
  | none=>exact .inl rfl
  | some q=>
   refine .inr fun e=> ?_
   have e:=Option.some.inj e
   have h4:=(h2.blk q hv).1
   have h5:=h3 q hv
   omega
theorem MshL.setP (m:MshL W lo mid hi g vp vt vc vo vd ss c) (hg:W.grownBy W' vp.ownBlock) {Q:List Pt} (hp:Own encP 3 43 W' lo vp Q.length Q):MshL W' lo mid hi g vp vt vc vo vd ss {c with points:=Q}:=by
 have hlm:=m.lm
 have hrow:∀{u:TypeId} (b:Nat),(43:TypeId)≠u→∀r,vp.ownBlock=some r→r < b∨∀cs,W.heap[r]? ≠some (.cells cs u (0,0)):=fun b hu r e=>by
  rcases own_rowT m.p hu r e with h | h
  ·have:=(m.p.blk r e).1
   omega
  ·exact .inr h
 refine ⟨m.b.grown hg (blk_own_ne9 m.b m.p (by decide)),m.gr,hp,m.pr,m.t.step hg (hrow _ (by decide)),m.cr.step hg (hrow _ (by decide)),m.o.step hg (hrow _ (by decide)),m.h.step hg (hrow _ (by decide)),fun i p hi2=> ?_,⟨hlm.1,hlm.2.1,Nat.le_trans hlm.2.2 hg.size⟩,m.hr⟩
 obtain ⟨A,k,h1,h2,h3⟩:=m.d i p hi2
 refine ⟨A,k,h1,h2.kept hg ?_,h3⟩
 cases hv:(Value.slice A p.length k).ownBlock with
 | none=>exact .inl rfl
 | some q=>
  refine .inr fun e=> ?_
  have h4:=(h2.blk q hv).1
  have h5:=m.pr q e.symm
  omega
theorem MshL.box (m:MshL W lo mid hi g vp vt vc vo vd ss c) (hb:Blk W r t cs) (hg:W.grownBy W' (some r)) (hr:g≠r) (h2:43≠t) (h3:35≠t) (h4:56≠t) (h5:3≠t) (h6:28≠t):MshL W' lo mid hi g vp vt vc vo vd ss c:=
 ⟨m.b.grown hg (fun e=>hr (Option.some.inj e)),m.gr,m.p.step hg (blk_rowT hb h2 _),m.pr,m.t.step hg (blk_rowT hb h3 _),m.cr.step hg (blk_rowT hb h4 _),m.o.step hg (blk_rowT hb h5 _),m.h.step hg (blk_rowT hb h6 _),fun i p hi=>by
  obtain ⟨A,k,h7,h8,h9⟩:=m.d i p hi
  exact ⟨A,k,h7,h8.step hg (blk_rowT hb h2 _),h9⟩,⟨m.lm.1,m.lm.2.1,Nat.le_trans m.lm.2.2 hg.size⟩,m.hr⟩
theorem MshL.putC (m:MshL W lo mid hi g vp vt vc vo vd ss c) {C:List E2} (hc:Own encE2 2 56 W 0 v C.length C):MshL (W.setCell ⟨g,2,none⟩ v) lo mid hi g vp vt v vo vd ss {c with creases:=C}:=by
 have hg:=grown_set9 W g 2 v
 have hb:=m.b
 exact ⟨hb.set_ 2 v,m.gr,m.p.step hg (ctl_row hb (by decide) _),m.pr,m.t.step hg (ctl_row hb (by decide) _),hc.step hg (ctl_row hb (by decide) _),m.o.step hg (ctl_row hb (by decide) _),m.h.step hg (ctl_row hb (by decide) _),fun i p hi=>by
  obtain ⟨A,k,h7,h8,h9⟩:=m.d i p hi
  exact ⟨A,k,h7,h8.step hg (ctl_row hb (by decide) _),h9⟩,⟨m.lm.1,m.lm.2.1,Nat.le_trans m.lm.2.2 hg.size⟩,m.hr⟩
theorem MshL.putO (m:MshL W lo mid hi g vp vt vc vo vd ss c) {C:List Int} (hc:Own encZ9 1 3 W 0 v C.length C):MshL (W.setCell ⟨g,3,none⟩ v) lo mid hi g vp vt vc v vd ss {c with corners:=C}:=by
 have hg:=grown_set9 W g 3 v
 have hb:=m.b
 exact ⟨hb.set_ 3 v,m.gr,m.p.step hg (ctl_row hb (by decide) _),m.pr,m.t.step hg (ctl_row hb (by decide) _),m.cr.step hg (ctl_row hb (by decide) _),hc.step hg (ctl_row hb (by decide) _),m.h.step hg (ctl_row hb (by decide) _),fun i p hi=>by
  obtain ⟨A,k,h7,h8,h9⟩:=m.d i p hi
  exact ⟨A,k,h7,h8.step hg (ctl_row hb (by decide) _),h9⟩,⟨m.lm.1,m.lm.2.1,Nat.le_trans m.lm.2.2 hg.size⟩,m.hr⟩
theorem MshL.ctlM {Ap At Ac Ao Ad:Option Addr} {n1 n2 n3 n4 n5 c1 c2 c3 c4 c5:Nat} (m:MshL W lo mid hi g (.slice Ap n1 c1) (.slice At n2 c2) (.slice Ac n3 c3) (.slice Ao n4 c4) (.slice Ad n5 c5) ss c):CtlM W W.heap.size Ap At Ac Ao Ad c:=by
 have h1:=m.p
 have h2:=m.t
 have h3:=m.cr
 have h4:=m.o
 have h5:=m.h
 have e1:n1=c.points.length:=by obtain ⟨A,k,e⟩:=h1.form;injection e
 have e2:n2=c.tris.length:=by obtain ⟨A,k,e⟩:=h2.form;injection e
 have e3:n3=c.creases.length:=by obtain ⟨A,k,e⟩:=h3.form;injection e
 have e4:n4=c.corners.length:=by obtain ⟨A,k,e⟩:=h4.form;injection e
 have e5:n5=c.details.length:=by obtain ⟨A,k,e⟩:=h5.form;injection e
 subst e1 e2 e3 e4 e5
 exact ⟨h1.sl encP_len (Nat.le_refl _),h2.sl encN3_len (Nat.le_refl _),h3.sl encE2_len (Nat.le_refl _),h4.sl encZ9_len (Nat.le_refl _),⟨ss,h5.sl encS_len (Nat.le_refl _),h5.1.symm,fun i d hd=>by
  obtain ⟨A,k,h7,h8,_⟩:=m.d i d hd
  exact ⟨A,k,h7,h8.sl encP_len (Nat.le_refl _)⟩⟩⟩
end
theorem msh_made_ss {w0 w1 W:World} {c:Ctl} {B g:Nat} {Ap At Ac Ao Ad:Option Addr} {cp ct cc oc dc:Nat} {ss:List Hdr} (ht:Own encN3 3 35 w1 w0.heap.size (.slice At c.tris.length ct) c.tris.length c.tris) (hp:Own encP 3 43 w1 w0.heap.size (.slice Ap c.points.length cp) c.points.length c.points) (hc:Own encE2 2 56 w1 w0.heap.size (.slice Ac c.creases.length cc) c.creases.length c.creases)
  (ho:Own encZ9 1 3 w1 w0.heap.size (.slice Ao c.corners.length oc) c.corners.length c.corners) (h1:Own encS 1 28 w1 B (.slice Ad c.details.length dc) c.details.length ss) (h2:∀(i:Nat) (p:List Pt),c.details[i]? =some p→∃A k,ss[i]? =some (A,p.length,k)∧Own encP 3 43 w1 B (.slice A p.length k) p.length p)
  (hl:w0.heap.size≤B∧B≤w1.heap.size∧∀r,(Value.slice Ap c.points.length cp).ownBlock=some r→r < B) (hW:Below w1.heap.size w1 W) (hg:g=w1.heap.size) (hgW:W.heap.size=g+1)
  (hb:Blk W g 32 (cMad (.slice Ap c.points.length cp) (.slice At c.tris.length ct) (.slice Ac c.creases.length cc) (.slice Ao c.corners.length oc) c.steps (.slice Ad c.details.length dc))):
  MshL W w0.heap.size B W.heap.size g (.slice Ap c.points.length cp) (.slice At c.tris.length ct) (.slice Ac c.creases.length cc) (.slice Ao c.corners.length oc) (.slice Ad c.details.length dc) ss c:=by
 refine ⟨hb,⟨by omega,by omega⟩,hp.below hW (Nat.le_refl _),hl.2.2,(ht.below hW (Nat.le_refl _)).base_le (Nat.zero_le _),(hc.below hW (Nat.le_refl _)).base_le (Nat.zero_le _),(ho.below hW (Nat.le_refl _)).base_le (Nat.zero_le _),h1.below hW (Nat.le_refl _),fun i p hi=> ?_,⟨hl.1,by omega,Nat.le_refl _⟩,fun r hr=>Nat.lt_of_lt_of_le (h1.blk r hr).2 hW.size⟩
 obtain ⟨A,k,h3,h4⟩:=h2 i p hi
 exact ⟨A,k,h3,h4.below hW (Nat.le_refl _),fun r hr=>Nat.lt_of_lt_of_le (h4.blk r hr).2 hW.size⟩
theorem msh_made {w0 w1 W:World} {c:Ctl} {B g:Nat} {Ap At Ac Ao Ad:Option Addr} {cp ct cc oc dc:Nat} (ht:Own encN3 3 35 w1 w0.heap.size (.slice At c.tris.length ct) c.tris.length c.tris) (hp:Own encP 3 43 w1 w0.heap.size (.slice Ap c.points.length cp) c.points.length c.points) (hc:Own encE2 2 56 w1 w0.heap.size (.slice Ac c.creases.length cc) c.creases.length c.creases)
  (ho:Own encZ9 1 3 w1 w0.heap.size (.slice Ao c.corners.length oc) c.corners.length c.corners) (hd:Pcs encP 3 43 28 w1 B (.slice Ad c.details.length dc) c.details) (hl:w0.heap.size≤B∧B≤w1.heap.size∧∀r,(Value.slice Ap c.points.length cp).ownBlock=some r→r < B) (hW:Below w1.heap.size w1 W) (hg:g=w1.heap.size) (hgW:W.heap.size=g+1)
  (hb:Blk W g 32 (cMad (.slice Ap c.points.length cp) (.slice At c.tris.length ct) (.slice Ac c.creases.length cc) (.slice Ao c.corners.length oc) c.steps (.slice Ad c.details.length dc))):
  ∃ss,MshL W w0.heap.size B W.heap.size g (.slice Ap c.points.length cp) (.slice At c.tris.length ct) (.slice Ac c.creases.length cc) (.slice Ao c.corners.length oc) (.slice Ad c.details.length dc) ss c:=by
 obtain ⟨ss,h1,h2⟩:=hd
 exact ⟨ss,msh_made_ss ht hp hc ho h1 h2 hl hW hg hgW hb⟩
theorem msh_copied {w0 w1 W:World} {c:Ctl} {B g:Nat} {Ap At Ac Ao Ad:Option Addr} {cp ct cc oc dc:Nat} (ht:Own encN3 3 35 w1 w0.heap.size (.slice At c.tris.length ct) c.tris.length c.tris) (hp:Own encP 3 43 w1 w0.heap.size (.slice Ap c.points.length cp) c.points.length c.points) (hc:Own encE2 2 56 w1 w0.heap.size (.slice Ac c.creases.length cc) c.creases.length c.creases)
  (ho:Own encZ9 1 3 w1 w0.heap.size (.slice Ao c.corners.length oc) c.corners.length c.corners) (hd:PcsD encP 3 43 28 w1 B (.slice Ad c.details.length dc) c.details) (hl:w0.heap.size≤B∧B≤w1.heap.size∧∀r,(Value.slice Ap c.points.length cp).ownBlock=some r→r < B) (hW:Below w1.heap.size w1 W) (hg:g=w1.heap.size) (hgW:W.heap.size=g+1)
  (hb:Blk W g 32 (cMad (.slice Ap c.points.length cp) (.slice At c.tris.length ct) (.slice Ac c.creases.length cc) (.slice Ao c.corners.length oc) c.steps (.slice Ad c.details.length dc))):
  ∃ss,MshL W w0.heap.size B W.heap.size g (.slice Ap c.points.length cp) (.slice At c.tris.length ct) (.slice Ac c.creases.length cc) (.slice Ao c.corners.length oc) (.slice Ad c.details.length dc) ss c∧ss.Pairwise Apart2:=by
 obtain ⟨ss,h1,h2,h3⟩:=hd
 exact ⟨ss,msh_made_ss ht hp hc ho h1 (fun i p hi=>h2.at hi) hl hW hg hgW hb,h3⟩
theorem apart_at {ss:List Hdr} (h:ss.Pairwise Apart2) {i j:Nat} {s t:Hdr} (hi:ss[i]? =some s) (hj:ss[j]? =some t) (hij:i≠j) {r:Nat} (hs:(hv s).ownBlock=some r):(hv t).ownBlock≠some r:=by
 obtain ⟨li,ei⟩:=List.getElem?_eq_some_iff.1 hi
 obtain ⟨lj,ej⟩:=List.getElem?_eq_some_iff.1 hj
 rcases Nat.lt_or_gt_of_ne hij with hlt | hlt
 ·have:=List.pairwise_iff_getElem.1 h i j li lj hlt
  rw [ei,ej] at this
  exact this r hs
 ·have:=List.pairwise_iff_getElem.1 h j i lj li hlt
  rw [ei,ej] at this
  exact fun e=>this r e hs
section
variable {W W':World} {lo mid hi g r:Nat} {vp vt vc vo vd v:Value} {ss:List Hdr} {c:Ctl}
theorem MshL.setD (m:MshL W lo mid hi g vp vt vc vo vd ss c) (hpw:ss.Pairwise Apart2) {k n cap:Nat} {A:Option Addr} {p q:List Pt} (hkd:c.details[k]? =some p) (hk:ss[k]? =some (A,n,cap)) (hg:W.grownBy W' (Value.slice A n cap).ownBlock) (ho:Own encP 3 43 W' mid (.slice A n cap) n q):MshL W' lo mid hi g vp vt vc vo vd ss {c with details:=c.details.set k q}:=by
 have hlm:=m.lm
 obtain ⟨A0,k0,e1,m1,m2⟩:=m.d k p hkd
 rw [hk] at e1
 cases e1
 have hrow:∀{u:TypeId} (b:Nat),(43:TypeId)≠u→∀r,(Value.slice A p.length cap).ownBlock=some r→r < b∨∀cs,W.heap[r]? ≠some (.cells cs u (0,0)):=fun b hu r e=>by
  rcases own_rowT m1 hu r e with h | h
  ·have:=(m1.blk r e).1
   omega
  ·exact .inr h
 have hq:q.length=p.length:=ho.1.symm
 refine ⟨m.b.grown hg (blk_own_ne9 m.b m1 (by decide)),m.gr,m.p.kept hg ?_,m.pr,m.t.step hg (hrow _ (by decide)),m.cr.step hg (hrow _ (by decide)),m.o.step hg (hrow _ (by decide)),?_,fun i x hx=> ?_,⟨hlm.1,hlm.2.1,Nat.le_trans hlm.2.2 hg.size⟩,m.hr⟩
 ·cases hv:vp.ownBlock with
  | none=>exact .inl rfl
  | some z=>
   refine .inr fun e=> ?_
   have h1:=m.pr z hv
   have h2:=(m1.blk z e.symm).1
   omega
 ·have h:=m.h.step hg (hrow _ (by decide))
  rw [show ({c with details:=c.details.set k q}:Ctl).details.length=c.details.length from List.length_set]
  exact h
 ·have hx:(c.details.set k q)[i]? =some x:=hx
  by_cases hik:k=i
  ·subst hik
   rw [List.getElem?_set_self (List.getElem?_eq_some_iff.1 hkd).1] at hx
   cases hx
   exact ⟨A,cap,by rw [hk,hq],by rw [hq];exact ho,by rw [hq];exact m2⟩
  ·rw [List.getElem?_set_ne hik] at hx
   obtain ⟨A1,k1,f1,f2,f3⟩:=m.d i x hx
   refine ⟨A1,k1,f1,f2.kept hg ?_,f3⟩
   cases hv0:(Value.slice A1 x.length k1).ownBlock with
   | none=>exact .inl rfl
   | some z=>exact .inr fun e=>apart_at hpw hk f1 hik e.symm hv0
theorem MshL.farS (m:MshL W lo mid hi g vp vt vc vo vd ss c) {n b:Nat} {xs:List Hdr} (ho:Own encS 1 28 W b v n xs) (hb:hi≤b) (hg:W.grownBy W' v.ownBlock):MshL W' lo mid hi g vp vt vc vo vd ss c:=by
 have hlm:=m.lm
 have hrow:∀{u:TypeId} (b:Nat),(28:TypeId)≠u→∀r,v.ownBlock=some r→r < b∨∀cs,W.heap[r]? ≠some (.cells cs u (0,0)):=fun b2 hu r e=>by
  rcases own_rowT ho hu r e with h | h
  ·have:=(ho.blk r e).1
   omega
  ·exact .inr h
 refine ⟨m.b.grown hg (blk_own_ne9 m.b ho (by decide)),m.gr,m.p.step hg (hrow _ (by decide)),m.pr,m.t.step hg (hrow _ (by decide)),m.cr.step hg (hrow _ (by decide)),m.o.step hg (hrow _ (by decide)),m.h.kept hg ?_,fun i p hi2=> ?_,⟨hlm.1,hlm.2.1,Nat.le_trans hlm.2.2 hg.size⟩,m.hr⟩
 ·cases hv:vd.ownBlock with
  | none=>exact .inl rfl
  | some q=>
   refine .inr fun e=> ?_
   have h4:=(ho.blk q e.symm).1
   have h5:=m.hr q hv
   omega
 ·obtain ⟨A,k,h1,h2,h3⟩:=m.d i p hi2
  exact ⟨A,k,h1,h2.step hg (hrow _ (by decide)),h3⟩
end
structure MshO (W:World) (lo mid g:Nat) (vp vt vc vo vd:Value) (ss:List Hdr) (c:Ctl):Prop where
 b:Blk W g 32 (cMad vp vt vc vo c.steps vd)
 gl:lo≤g
 p:Own encP 3 43 W lo vp c.points.length c.points
 t:Own encN3 3 35 W 0 vt c.tris.length c.tris
 cr:Own encE2 2 56 W 0 vc c.creases.length c.creases
 o:Own encZ9 1 3 W 0 vo c.corners.length c.corners
 h:Own encS 1 28 W mid vd ss.length ss
 lm:lo≤mid∧mid≤W.heap.size
section
variable {W W':World} {lo mid hi g r:Nat} {vp vt vc vo vd v:Value} {ss:List Hdr} {c:Ctl}
theorem MshL.outl (m:MshL W lo mid hi g vp vt vc vo vd ss c):MshO W lo mid g vp vt vc vo vd ss c:=
 ⟨m.b,m.gr.1,m.p,m.t,m.cr,m.o,by have h:=m.h;have h1:=h.1;rw [←h1];exact h,⟨m.lm.1,Nat.le_trans m.lm.2.1 m.lm.2.2⟩⟩
theorem MshO.below (m:MshO W lo mid g vp vt vc vo vd ss c) (hB:Below W.heap.size W W'):MshO W' lo mid g vp vt vc vo vd ss c:=
 ⟨m.b.below hB m.b.lt,m.gl,m.p.below hB (Nat.le_refl _),m.t.below hB (Nat.le_refl _),m.cr.below hB (Nat.le_refl _),m.o.below hB (Nat.le_refl _),m.h.below hB (Nat.le_refl _),⟨m.lm.1,Nat.le_trans m.lm.2 hB.size⟩⟩
theorem MshO.app (m:MshO W lo mid g vp vt vc vo vd ss c) {hd:Hdr} (hg:W.grownBy W' vd.ownBlock) (ho:Own encS 1 28 W' mid v (ss.length+1) (ss++ [hd])):Blk W' g 32 (cMad vp vt vc vo c.steps vd)∧MshO (W'.setCell ⟨g,5,none⟩ v) lo mid g vp vt vc vo v (ss++ [hd]) c:=by
 have hrow:∀{u:TypeId} (b:Nat),(28:TypeId)≠u→∀r,vd.ownBlock=some r→r < b∨∀cs,W.heap[r]? ≠some (.cells cs u (0,0)):=fun b2 hu r e=>by
  rcases own_rowT m.h hu r e with h | h
  ·have:=(m.h.blk r e).1
   obtain ⟨cs,hc⟩:=m.h.cells r e
   refine .inr fun cs' hc'=> ?_
   rw [hc] at hc'
   cases hc'
   exact hu rfl
  ·exact .inr h
 have b1:Blk W' g 32 (cMad vp vt vc vo c.steps vd):=m.b.grown hg (blk_own_ne9 m.b m.h (by decide))
 have hg2:=grown_set9 W' g 5 v
 refine ⟨b1,b1.set_ 5 v,m.gl,(m.p.step hg (hrow _ (by decide))).step hg2 (ctl_row b1 (by decide) _),(m.t.step hg (hrow _ (by decide))).step hg2 (ctl_row b1 (by decide) _),(m.cr.step hg (hrow _ (by decide))).step hg2 (ctl_row b1 (by decide) _),(m.o.step hg (hrow _ (by decide))).step hg2 (ctl_row b1 (by decide) _),?_,⟨m.lm.1,Nat.le_trans m.lm.2 (Nat.le_trans hg.size hg2.size)⟩⟩
 rw [List.length_append]
 exact ho.step hg2 (ctl_row b1 (by decide) _)
theorem MshO.ctlM {Ap At Ac Ao Ad:Option Addr} {n1 n2 n3 n4 n5 c1 c2 c3 c4 c5:Nat} (m:MshO W lo mid g (.slice Ap n1 c1) (.slice At n2 c2) (.slice Ac n3 c3) (.slice Ao n4 c4) (.slice Ad n5 c5) ss c) {D:List (List Pt)} (hD:ss.length=D.length) (hd:∀(i:Nat) (d:List Pt),D[i]? =some d→∃A k,ss[i]? =some (A,d.length,k)∧Sl encP 3 W W.heap.size A d):CtlM W W.heap.size Ap At Ac Ao Ad {c with details:=D}:=by
 have h1:=m.p
 have h2:=m.t
 have h3:=m.cr
 have h4:=m.o
 have h5:=m.h
 have e1:n1=c.points.length:=by obtain ⟨A,k,e⟩:=h1.form;injection e
 have e2:n2=c.tris.length:=by obtain ⟨A,k,e⟩:=h2.form;injection e
 have e3:n3=c.creases.length:=by obtain ⟨A,k,e⟩:=h3.form;injection e
 have e4:n4=c.corners.length:=by obtain ⟨A,k,e⟩:=h4.form;injection e
 have e5:n5=ss.length:=by obtain ⟨A,k,e⟩:=h5.form;injection e
 subst e1 e2 e3 e4 e5
 exact ⟨h1.sl encP_len (Nat.le_refl _),h2.sl encN3_len (Nat.le_refl _),h3.sl encE2_len (Nat.le_refl _),h4.sl encZ9_len (Nat.le_refl _),⟨ss,h5.sl encS_len (Nat.le_refl _),hD,hd⟩⟩
end
theorem own_pt9 {w:World} {b n cap i:Nat} {A:Option Addr} {ps:List Pt} {p:Pt} (h:Own encP 3 43 w b (.slice A n cap) n ps) (hi:ps[i]? =some p):
  ∃g cur,A=some ⟨g,0,none⟩∧b≤g∧Blk w g 43 cur∧w.cell? ⟨g,i*3,none⟩=some (.int .i64 p.1)∧w.cell? ⟨g,i*3+1,none⟩=some (.int .i64 p.2.1)∧w.cell? ⟨g,i*3+2,none⟩=some (.int .i64 p.2.2):=by
 have hlt:=(List.getElem?_eq_some_iff.1 hi).1
 have hn:0 < n:=by have:=h.1;omega
 obtain ⟨g,cur,e,hb,hk,_⟩:=own_some h hn
 subst e
 obtain ⟨b2,o2,e2,_,y0,y1,y2⟩:=(h.sl encP_len (Nat.le_refl _)).pt9 hi
 cases e2
 rw [Nat.zero_add] at y0 y1 y2
 exact ⟨g,cur,rfl,hb,hk,y0,y1,y2⟩
theorem own_hd9 {w:World} {b n cap k m c:Nat} {A Ak:Option Addr} {ss:List Hdr} (h:Own encS 1 28 w b (.slice A n cap) n ss) (hi:ss[k]? =some (Ak,m,c)):
  ∃g cur,A=some ⟨g,0,none⟩∧b≤g∧Blk w g 28 cur∧w.cell? ⟨g,k,none⟩=some (.slice Ak m c):=by
 have hlt:=(List.getElem?_eq_some_iff.1 hi).1
 have hn:0 < n:=by have:=h.1;omega
 obtain ⟨g,cur,e,hb,hk,_⟩:=own_some h hn
 subst e
 obtain ⟨b2,o2,e2,_,hc⟩:=(h.sl encS_len (Nat.le_refl _)).at hi
 cases e2
 have:=hc 0 _ rfl
 rw [Nat.zero_add,Nat.mul_one] at this
 exact ⟨g,cur,rfl,hb,hk,this⟩
theorem MshL.p9 {W:World} {lo mid hi g n cap:Nat} {A:Option Addr} {vt vc vo vd:Value} {ss:List Hdr} {c:Ctl} (m:MshL W lo mid hi g (.slice A n cap) vt vc vo vd ss c):Own encP 3 43 W lo (.slice A n cap) n c.points∧n=c.points.length:=by
 have h:=m.p
 have e:n=c.points.length:=by obtain ⟨A,k,e⟩:=h.form;injection e
 exact ⟨by rw [←e] at h;exact h,e⟩
theorem MshL.h9 {W:World} {lo mid hi g n cap:Nat} {A:Option Addr} {vp vt vc vo:Value} {ss:List Hdr} {c:Ctl} (m:MshL W lo mid hi g vp vt vc vo (.slice A n cap) ss c):Own encS 1 28 W mid (.slice A n cap) n ss∧n=c.details.length:=by
 have h:=m.h
 have e:n=c.details.length:=by obtain ⟨A,k,e⟩:=h.form;injection e
 exact ⟨by rw [←e] at h;exact h,e⟩
end Go.Proofs.YtmemofonebphfaaGreat
