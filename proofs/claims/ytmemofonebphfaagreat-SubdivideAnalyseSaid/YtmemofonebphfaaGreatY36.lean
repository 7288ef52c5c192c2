import Derived.Test.YtmemofonebphfaaGreatY34
import Derived.Test.YtmemofonebphfaaGreatY35
namespace Go.Proofs.YtmemofonebphfaaGreat
open Go.RowKit Go.Sort
theorem ana_made_fits (s:ShpC):fits (madeC s).steps:=by
 have h:=made_st s
 show fits ((stM s:Nat):Int)
 unfold fits
 omega
def PlnO (W:World) (b:Nat) (Z0 B2 B3 B4:Option Addr) (np nt nc no b2 b3 b4:Nat) (c:Ctl):Prop:=
 Own encP 3 43 W b (.slice Z0 np np) np (anaZ c).points∧Own encN3 3 35 W b (.slice B2 nt b2) nt (anaZ c).tris∧Own encE2 2 56 W b (.slice B3 nc b3) nc (anaZ c).creases∧Own encZ9 1 3 W b (.slice B4 no b4) no (anaZ c).corners
theorem PlnO.step {W W':World} {b:Nat} {Z0 B2 B3 B4:Option Addr} {np nt nc no b2 b3 b4:Nat} {c:Ctl} {row:Option Nat} (h:PlnO W b Z0 B2 B3 B4 np nt nc no b2 b3 b4 c) (hg:W.grownBy W' row) (hr:∀r,row=some r→r < b):PlnO W' b Z0 B2 B3 B4 np nt nc no b2 b3 b4 c:=
 ⟨h.1.step hg (fun r e=> .inl (hr r e)),h.2.1.step hg (fun r e=> .inl (hr r e)),h.2.2.1.step hg (fun r e=> .inl (hr r e)),h.2.2.2.step hg (fun r e=> .inl (hr r e))⟩
theorem PlnO.ctlM {W:World} {b:Nat} {Z0 B2 B3 B4:Option Addr} {np nt nc no b2 b3 b4:Nat} {c:Ctl} (h:PlnO W b Z0 B2 B3 B4 np nt nc no b2 b3 b4 c):CtlM W W.heap.size Z0 B2 B3 B4 none (anaZ c):=
 ⟨h.1.sl encP_len (Nat.le_refl _),h.2.1.sl encN3_len (Nat.le_refl _),h.2.2.1.sl encE2_len (Nat.le_refl _),h.2.2.2.sl encZ9_len (Nat.le_refl _),⟨[],Sl.nil,rfl,fun i d hd=>by cases hd⟩⟩
set_option maxRecDepth 100000 in
set_option maxHeartbeats 64000000 in
theorem analyse9_of (hmade:MadeSaid) (Ap Ac Ao Ad:Option Addr) (cp cc oc dc:Nat) (s:ShpC) (Al:Option Addr) (cl:Nat) (l:List Q4) (w:World) (hm:ShpA w w.heap.size Ap Ac Ao Ad s) (hsl:l≠ []→Sl encN4 4 w w.heap.size Al l) (hb:fits s.bits) (hl:s.points.length≤9223372036854775807∧s.creases.length≤9223372036854775807∧s.corners.length≤9223372036854775807∧s.details.length≤9223372036854775807) (hll:l.length≤9223372036854775807) (hfl:∀t∈l,fits4 t):
  Calls Tryz.prog 10 #[vShp s.kind s.bits s.steps Ap s.points.length cp Ac s.creases.length cc Ao s.corners.length oc Ad s.details.length dc, .slice Al l.length cl] w fun e w'=>e= .returned (.bool true)∧Below w.heap.size w w':=by
 have kmade:=fun (W:World) (hW:Below w.heap.size w W)=>hmade Ap Ac Ao Ad cp cc oc dc s W (hm.below hW hW.size) hb hl
 have hrc:=made_right s
 have hbk:=made_back s
 have hsm:=made_small s
 have hfs:=ana_made_fits s
 have hi0:=ana_i0 s
 obtain ⟨c,hc0⟩:∃c,c=madeC s:=⟨_,rfl⟩
 simp only [←hc0] at kmade hrc hbk hsm hi0 hfs
 have hlz:(anaZ c).points.length=c.points.length:=by simp [anaZ]
 have hbZ:CtlB (anaZ c):=⟨by rw [hlz];exact hsm.p,hsm.t,hsm.cr,hsm.o,by simp [anaZ],by simp [anaZ]⟩
 have kcopy:=fun (Ap At Ac Ao Ad:Option Addr) (cp ct cc oc dc:Nat) (W:World) (h:CtlM W W.heap.size Ap At Ac Ao Ad c)=>copy9_any Ap At Ac Ao Ad cp ct cc oc dc c W h hsm
 have kf1:=fun (Ap At Ac Ao Ad:Option Addr) (cp ct cc oc dc:Nat) (W:World) (h:CtlM W W.heap.size Ap At Ac Ao Ad c)=>fine_any Ap At Ac Ao Ad cp ct cc oc dc c W h hsm hfs (fun _=>hbk)
 simp only [hrc] at kf1
 have hfw:=(fin_lens hsm (fun _=>hbk)).1
 have hzf:c.steps.toNat=0→(finP c).length=c.points.length:=fin_zero hrc
 have hst9:=(right_of hrc).st
 have hpf:c.points.length≤(finP c).length:=by
  obtain ⟨r,hr⟩:=fin_pre hrc (Nat.zero_le _)
  have hz:(c.level 0).p.length=c.points.length:=by show (List.map _ _).length=_;rw [List.length_map]
  rw [hr,List.length_append,hz]
  omega
 obtain ⟨FP,hFP⟩:∃x,x=finP c:=⟨_,rfl⟩
 obtain ⟨FT,hFT⟩:∃x,x=finT c:=⟨_,rfl⟩
 simp only [←hFP,←hFT] at kf1 hfw hpf hi0
 obtain ⟨np,hnp⟩:∃n,n=c.points.length:=⟨_,rfl⟩
 obtain ⟨nt,hnt⟩:∃n,n=c.tris.length:=⟨_,rfl⟩
 obtain ⟨nc,hnc⟩:∃n,n=c.creases.length:=⟨_,rfl⟩
 obtain ⟨no,hno⟩:∃n,n=c.corners.length:=⟨_,rfl⟩
 obtain ⟨nd,hnd⟩:∃n,n=c.details.length:=⟨_,rfl⟩
 obtain ⟨st,hst⟩:∃n,n=c.steps:=⟨_,rfl⟩
 obtain ⟨nF,hnF⟩:∃n,n=FP.length:=⟨_,rfl⟩
 obtain ⟨nT,hnT⟩:∃n,n=FT.length:=⟨_,rfl⟩
 obtain ⟨nl,hnl⟩:∃n,n=l.length:=⟨_,rfl⟩
 simp only [←hnp,←hnt,←hnc,←hno,←hnd,←hst,←hnF,←hnT] at kcopy kf1 kmade
 rw [←hnF] at hfw hpf
 rw [←hnp] at hpf
 rw [←hnl] at hll
 rw [←hnl]
 have hnpl:np≤100000:=by rw [hnp];exact hsm.p
 have kan:=fun (P:List Pt) (hP:∀p∈P,fitsP p) (hPl:P.length=nF) (Ap At Ac Ao Af:Option Addr) (cp ct cc oc cf:Nat) (W:World) (h:CtlM W W.heap.size Ap At Ac Ao none (anaZ c)) (h2:Sl encP 3 W W.heap.size Af P)=>analyse_any Ap At Ac Ao none Af cp ct cc oc 0 cf (anaZ c) P W h hbZ hfs h2 (by omega) hP (fun _=>hbk)
 have kan:∀(P:List Pt) (hP:∀p∈P,fitsP p) (hPl:P.length=nF) (Ap At Ac Ao Af:Option Addr) (cp ct cc oc cf:Nat) (W:World) (h:CtlM W W.heap.size Ap At Ac Ao none (anaZ c)) (h2:Sl encP 3 W W.heap.size Af P),Calls Tryz.prog 31 #[vCtl Ap np cp At nt ct Ac nc cc Ao no oc st none 0 0, .slice Af nF cf] W fun e w'=>AnaA W w' (anaE (anaZ c) P) (anaR (anaZ c) P) e:=fun P hP hPl Ap At Ac Ao Af cp ct cc oc cf W h h2=>by
  have k:=kan P hP hPl Ap At Ac Ao Af cp ct cc oc cf W h h2
  rw [hlz,hPl] at k
  rw [hnp,hnt,hnc,hno,hst]
  exact k
 have hend:=fun (i:Nat) (P:List Pt) (hI:AnaI c i P) (hi:i≤10)=>ana_end hrc hbk hsm hI hi
 have hstp:=fun (i:Nat) (P:List Pt) (hI:AnaI c i P) (hi:i < 10)=>ana_step hrc hbk hI hi
 have halen:=fun (i:Nat) (P:List Pt) (hI:AnaI c i P) (hi:i≤10)=>ana_len hrc hbk hI hi
 have hfc:∀p∈c.points,fitsP p:=fun p hp=>by
  have h:=(outR_no (right_of hrc).rng) p hp
  have hx:=pow16_le (show c.steps.toNat≤4 by omega)
  have hd:(2097151:Int) / 16^c.steps.toNat≤2097151:=Int.ediv_le_self _ (by decide)
  refine ⟨?_,?_,?_⟩ <;>unfold fits <;>omega
 have HK:=hide (And.intro kmade (And.intro kcopy (And.intro kf1 kan)))
 have HL:=hide (And.intro hi0 (And.intro hend (And.intro hstp (And.intro halen (And.intro hfc (And.intro hlz (And.intro hsl hfl)))))))
 have HN:=hide (And.intro hnp (And.intro hnt (And.intro hnc (And.intro hno (And.intro hnd (And.intro hst (And.intro hnF (And.intro hnl hFP))))))))
 have HF:=hide (And.intro hfw (And.intro hpf (And.intro hst9 hll)))
 have hnF9:nF≤1000000:=by omega
 clear kmade kcopy kf1 kan hrc hbk hsm hfs hi0 hend hstp halen hfc hlz hbZ hsl hfl hnp hnt hnc hno hnd hst hnF hnT hnl hFP hFT hfw hpf hst9 hzf hll hm hb hl hc0
 go_enter Tryz.func10,Tryz.ntmps10
 go_upto_region 1 with fail
 obtain ⟨g1,hg1⟩:∃g,g=w.heap.size:=⟨_,rfl⟩
 obtain ⟨X0,hX⟩:∃W,W=w.alloc (.cells (cShp s.kind s.bits s.steps Ap s.points.length cp Ac s.creases.length cc Ao s.corners.length oc Ad s.details.length dc) 25):=⟨_,rfl⟩
 rw [←hX,←hg1]
 have hb1:Blk X0 g1 25 (cShp s.kind s.bits s.steps Ap s.points.length cp Ac s.creases.length cc Ao s.corners.length oc Ad s.details.length dc):=by rw [hX,hg1];exact Blk.new _ _ _
 have hBX:Below w.heap.size w X0:=by rw [hX];exact (Below.refl _ w).alloc (Nat.le_refl _) _
 have H0:=hide (And.intro hb1 hBX)
 clear hb1 hBX hX hg1
 go_upto_region 2 with (go_at_call 13;refine (sanity9_any X0).mono ?_;rintro e X1 ⟨rfl,hB1⟩;have H1:=hide (And.intro (H0.out.1.below hB1 H0.out.1.lt) (H0.out.2.trans (hB1.mono H0.out.2.size)));clear hB1)
 obtain ⟨z0,z1,z2,z3,z4,z5,z6⟩:=H1.out.1.seven9
 have hgl:=H1.out.1.lt
 go_upto_region 3 with (go_at_call 15;refine (HK.out.1 X1 H1.out.2).mono ?_;rintro e X3 ⟨A1,A2,A3,A4,A5,k1,k2,k3,k4,k5,rfl,ht,hp,hcr,hco,hd,hB⟩;have H3:=hide (And.intro ht (And.intro hp (And.intro hcr (And.intro hco (And.intro hd hB)))));clear ht hp hcr hco hd hB)
 clear z0 z1 z2 z3 z4 z5 z6 hgl
 try simp only [←HN.out.1,←HN.out.2.1,←HN.out.2.2.1,←HN.out.2.2.2.1,←HN.out.2.2.2.2.1,←HN.out.2.2.2.2.2.1]
 obtain ⟨g4,hg4⟩:∃g,g=X3.heap.size:=⟨_,rfl⟩
 obtain ⟨X4,hX4⟩:∃W,W=X3.alloc (.cells (cMad (.slice A1 np k1) (.slice A2 nt k2) (.slice A3 nc k3) (.slice A4 no k4) st (.slice A5 nd k5)) 32):=⟨_,rfl⟩
 rw [←hX4,←hg4]
 have hBa:Below X3.heap.size X3 X4:=by rw [hX4];exact (Below.refl _ _).alloc (Nat.le_refl _) _
 have hb4:Blk X4 g4 32 (cMad (.slice A1 np k1) (.slice A2 nt k2) (.slice A3 nc k3) (.slice A4 no k4) st (.slice A5 nd k5)):=by rw [hX4,hg4];exact Blk.new _ _ _
 have hS4:CtE X1 X4 g4 (.slice A1 np k1) (.slice A2 nt k2) (.slice A3 nc k3) (.slice A4 no k4) (.slice A5 nd k5) c:=by
  have hz:=H3.out.2.2.2.2.2.size
  have hb6:=hb4
  rw [HN.out.1,HN.out.2.1,HN.out.2.2.1,HN.out.2.2.2.1,HN.out.2.2.2.2.1,HN.out.2.2.2.2.2.1] at hb6
  rw [HN.out.1,HN.out.2.1,HN.out.2.2.1,HN.out.2.2.2.1,HN.out.2.2.2.2.1]
  exact ⟨H3.out.2.2.2.2.2.trans (hBa.mono hz),hb6,by omega,H3.out.2.1.below hBa (Nat.le_refl _),H3.out.1.below hBa (Nat.le_refl _),H3.out.2.2.1.below hBa (Nat.le_refl _),H3.out.2.2.2.1.below hBa (Nat.le_refl _),H3.out.2.2.2.2.1.below hBa (Nat.le_refl _)⟩
 obtain ⟨z0,z1,z2,z3,z4,z5⟩:=hb4.six9
 have hg4l:=hb4.lt
 have hw4:=H1.out.2.trans (hS4.bel.mono H1.out.2.size)
 have HS:=hide (And.intro hb4 (And.intro hS4.ctlM hw4))
 clear hb4 hS4 hX4 hg4 hBa hw4
 go_upto_region 4 with (go_at_call 18;refine (HK.out.2.2.1 _ _ _ _ _ _ _ _ _ _ X4 HS.out.2.1).mono ?_;rintro e Y1 ⟨F1,f1,F2,f2,rfl,hP,hT,hB⟩;have J1:=hide (And.intro hP (And.intro (HS.out.1.below hB HS.out.1.lt) (And.intro (HS.out.2.1.below hB hB.size) (And.intro (HS.out.2.2.trans (hB.mono HS.out.2.2.size)) hB))));clear hP hT hB)
 clear z0 z1 z2 z3 z4 z5 hg4l
 obtain ⟨z0,z1,z2,z3,z4,z5⟩:=J1.out.2.1.six9
 have hg4l:=J1.out.2.1.lt
 have hpf:=HF.out.2.1
 have i0:¬(nF:Int) < (np:Int):=by omega
 clear hpf
 go_upto_region 6 with fail
 clear i0
 go_upto_region 7 with (go_at_call 21;refine (HK.out.2.1 _ _ _ _ _ _ _ _ _ _ Y1 J1.out.2.2.1).mono ?_;rintro e Y2 ⟨BB,B1,B2,B3,B4,B5,b1,b2,b3,b4,b5,rfl,ht1,hp1,hc1,ho1,hd1,hlb,hB1⟩;have J2:=hide (And.intro (And.intro ht1 (And.intro hp1 (And.intro hc1 (And.intro ho1 hd1)))) (And.intro hlb hB1));clear ht1 hp1 hc1 ho1 hd1 hlb hB1)
 clear z0 z1 z2 z3 z4 z5 hg4l
 try simp only [←HN.out.1,←HN.out.2.1,←HN.out.2.2.1,←HN.out.2.2.2.1,←HN.out.2.2.2.2.1,←HN.out.2.2.2.2.2.1]
 obtain ⟨g8,hg8⟩:∃g,g=Y2.heap.size:=⟨_,rfl⟩
 obtain ⟨Y3,hY3⟩:∃W,W=Y2.alloc (.cells (cMad (.slice B1 np b1) (.slice B2 nt b2) (.slice B3 nc b3) (.slice B4 no b4) st (.slice B5 nd b5)) 32):=⟨_,rfl⟩
 rw [←hY3,←hg8]
 have hBa:Below Y2.heap.size Y2 Y3:=by rw [hY3];exact (Below.refl _ _).alloc (Nat.le_refl _) _
 have hb8:Blk Y3 g8 32 (cMad (.slice B1 np b1) (.slice B2 nt b2) (.slice B3 nc b3) (.slice B4 no b4) st (.slice B5 nd b5)):=by rw [hY3,hg8];exact Blk.new _ _ _
 have hS2:CtE Y1 Y3 g8 (.slice B1 np b1) (.slice B2 nt b2) (.slice B3 nc b3) (.slice B4 no b4) (.slice B5 nd b5) c:=by
  have hz:=J2.out.2.2.size
  have hb9:=hb8
  rw [HN.out.1,HN.out.2.1,HN.out.2.2.1,HN.out.2.2.2.1,HN.out.2.2.2.2.1,HN.out.2.2.2.2.2.1] at hb9
  rw [HN.out.1,HN.out.2.1,HN.out.2.2.1,HN.out.2.2.2.1,HN.out.2.2.2.2.1]
  have hl:=J2.out.2.1
  exact ⟨J2.out.2.2.trans (hBa.mono hz),hb9,by omega,J2.out.1.2.1.below hBa (Nat.le_refl _),J2.out.1.1.below hBa (Nat.le_refl _),J2.out.1.2.2.1.below hBa (Nat.le_refl _),J2.out.1.2.2.2.1.below hBa (Nat.le_refl _),(J2.out.1.2.2.2.2.base_le hl.1).below hBa (Nat.le_refl _)⟩
 have h43:=J1.out.2.1.below hS2.bel J1.out.2.1.lt
 have z0:Y3.cell? ⟨g4,0,none⟩=some (.slice A1 np k1):=h43.cell 0
 have hg4l:=h43.lt
 have c0:Y3.cell? ⟨g8,0,none⟩=some (.slice B1 np b1):=hb8.cell 0
 have f0:=hb8.frozen 0
 have hg8l:=hb8.lt
 have HS2:=hide (And.intro hS2 hb8)
 have hmk:=mk_p9 np (by omega)
 clear hS2 hb8 hY3 hg8 hBa h43
 go_upto_region 8 with fail
 clear hmk z0 hg4l c0 f0 hg8l
 obtain ⟨gz,hgz⟩:∃g,g=Y3.heap.size:=⟨_,rfl⟩
 obtain ⟨Y4,hY4⟩:∃W,W=(Y3.setCell ⟨g8,0,none⟩ (.slice (some ⟨Y3.heap.size,0,none⟩) np np)).alloc (.cells ((List.replicate np ((0,0,0):Pt)).flatMap encP).toArray 43):=⟨_,rfl⟩
 rw [←hY4]
 try rw [←hgz]
 have hal:Below Y3.heap.size Y3 (Y3.alloc (.cells ((List.replicate np ((0,0,0):Pt)).flatMap encP).toArray 43)):=(Below.refl _ _).alloc (Nat.le_refl _) _
 have hz9:Own encP 3 43 (Y3.alloc (.cells ((List.replicate np ((0,0,0):Pt)).flatMap encP).toArray 43)) Y1.heap.size (.slice (some ⟨Y3.heap.size,0,none⟩) np np) np (List.replicate np ((0,0,0):Pt)):=by
  have h:=own_lits encP_len 43 Y3 (List.replicate np ((0,0,0):Pt)) HS2.out.1.bel.size (by rw [List.length_replicate];omega)
  rw [List.length_replicate] at h
  exact h
 have hS3:=HS2.out.1.below hal
 have hS4:CtE Y1 Y4 g8 (.slice (some ⟨gz,0,none⟩) np np) (.slice B2 nt b2) (.slice B3 nc b3) (.slice B4 no b4) (.slice B5 nd b5) ⟨(anaZ c).points,c.tris,c.creases,c.corners,c.steps,c.details⟩:=by
  rw [hY4,hgz,←World.setCell_alloc_past _ _ _ _ HS2.out.1.b.lt]
  exact cte_set hS3.bel hS3.b hS3.le (by show Own _ _ _ _ _ _ (List.replicate c.points.length (0,0,0)).length _;rw [List.length_replicate];show Own _ _ _ _ _ _ _ (List.replicate c.points.length (0,0,0));rw [←HN.out.1];exact hz9) hS3.t hS3.cr hS3.o hS3.d 0 _ rfl
 have hb8:Blk Y4 g8 32 (cMad (.slice (some ⟨gz,0,none⟩) np np) (.slice B2 nt b2) (.slice B3 nc b3) (.slice B4 no b4) st (.slice B5 nd b5)):=by rw [HN.out.2.2.2.2.2.1];exact hS4.b
 have c5:=hb8.cell 5
 have f5:=hb8.frozen 5
 have hg8l:=hb8.lt
 have HS4:=hide (And.intro hS4 hb8)
 clear hS4 hb8 hS3 hz9 hal hY4
 go_upto_region 9 with fail
 obtain ⟨Y5,hY5⟩:∃W,W=Y4.setCell ⟨g8,5,none⟩ (.slice none 0 0):=⟨_,rfl⟩
 rw [←hY5]
 have hS5:CtE Y1 Y5 g8 (.slice (some ⟨gz,0,none⟩) np np) (.slice B2 nt b2) (.slice B3 nc b3) (.slice B4 no b4) (.slice none 0 0) (anaZ c):=by rw [hY5];exact HS4.out.1.in_d Pcs.nil
 obtain ⟨Z0,hZ0⟩:∃A:Option Addr,A=some ⟨gz,0,none⟩:=⟨_,rfl⟩
 rw [←hZ0] at hS5
 have hb8:Blk Y5 g8 32 (cMad (.slice Z0 np np) (.slice B2 nt b2) (.slice B3 nc b3) (.slice B4 no b4) st (.slice none 0 0)):=by rw [HN.out.2.2.2.2.2.1];exact hS5.b
 have hpl:PlnO Y5 Y1.heap.size Z0 B2 B3 B4 np nt nc no b2 b3 b4 c:=by
  have h1:=hS5.p
  rw [HL.out.2.2.2.2.2.1,←HN.out.1] at h1
  have h2:=hS5.t
  have h3:=hS5.cr
  have h4:=hS5.o
  have e2:nt=(anaZ c).tris.length:=HN.out.2.1
  have e3:nc=(anaZ c).creases.length:=HN.out.2.2.1
  have e4:no=(anaZ c).corners.length:=HN.out.2.2.2.1
  rw [←e2] at h2
  rw [←e3] at h3
  rw [←e4] at h4
  exact ⟨h1,h2,h3,h4⟩
 have h4w:=J1.out.2.2.2.1.trans (hS5.bel.mono J1.out.2.2.2.1.size)
 have h44:=J1.out.2.1.below hS5.bel J1.out.2.1.lt
 have hP5:=J1.out.1.below hS5.bel (Nat.le_refl _)
 have hs9:=J1.out.2.2.2.2.size
 have hs8:=hS5.bel.size
 have H5:=hide (And.intro hP5 (And.intro h44 (And.intro hb8 (And.intro hpl (And.intro h4w (And.intro HS.out.2.2.size (And.intro (fun r hr=>(J1.out.1.blk r hr)) (And.intro hs8 (And.intro hS5.bel trivial)))))))))
 clear c5 f5 hg8l hY5 hS5 hb8 hpl h4w h44 hP5 hs9 hs8 hZ0 hgz HS4 HS2
 go_upto_region 10 with fail
 go_loopw [11] (fun iv wr=>∃(i:Nat) (P:List Pt),i≤nl∧i≤10∧iv= .int .i64 i∧AnaI c i P∧Own encP 3 43 wr X4.heap.size (.slice F1 nF f1) nF P∧Y5.grownBy wr (Value.slice F1 nF f1).ownBlock) (fun iv _=>10 - (intOf iv).toNat)
 case atStart=>exact ⟨0,FP,by omega,by omega,rfl,HL.out.1,H5.out.1,World.grownBy.refl _ _⟩
 case round=>
  obtain ⟨i,P,hi,hi10,rfl,hI,hO,hg⟩:=hrel
  obtain ⟨V,rfl⟩:∃x,x=wr:=⟨_,rfl⟩
  have hbl:=H5.out.2.2.2.2.2.2.1
  have h4V:=H5.out.2.1.grown hg (blk_own_ne9 H5.out.2.1 H5.out.1 (by decide))
  have h8V:=H5.out.2.2.1.grown hg (blk_own_ne9 H5.out.2.2.1 H5.out.1 (by decide))
  have hlV:=H5.out.2.2.2.1.step hg (fun r e=>(hbl r e).2)
  have hXV:Below X4.heap.size Y5 V:=grown_belO hg (fun r e=>(hbl r e).1) (by have h1:=J1.out.2.2.2.2.size;have h2:=H5.out.2.2.2.2.2.2.2.1;omega)
  have hwV:=H5.out.2.2.2.2.1.trans (hXV.mono H5.out.2.2.2.2.2.1)
  have z0:V.cell? ⟨g4,0,none⟩=some (.slice A1 np k1):=h4V.cell 0
  have hg4l:=h4V.lt
  by_cases hlt:i < nl∧i < 10∧np < nF
  ·obtain ⟨k1',k2',k3'⟩:=hlt
   have i1:(i:Int) < (nl:Int):=by omega
   have i2:(i:Int) < 10:=by omega
   have i3:(nF:Int)>(np:Int):=by omega
   have i3':(np:Int) < (nF:Int):=by omega
   have hPl:P.length=nF:=hO.1.symm▸rfl
   obtain ⟨x,hx⟩:∃x,l[i]? =some x:=⟨_,List.getElem?_eq_getElem (by rw [←HN.out.2.2.2.2.2.2.2.1];exact k1')⟩
   have hne:l≠ []:=fun e=>by rw [e] at hx;simp at hx
   obtain ⟨bl,ol,hAl,hbl9,hcx⟩:=(HL.out.2.2.2.2.2.2.1 hne).at hx
   subst hAl
   obtain ⟨x1,x2,x3,x4⟩:=x
   have hw0:=hcx 0 _ rfl
   have hw1:=hcx 1 _ rfl
   have hw2:=hcx 2 _ rfl
   have hw3:=hcx 3 _ rfl
   have d0:=(hwV.cell (p:=⟨bl,ol+i*4+0,none⟩) hbl9).trans hw0
   have d1:=(hwV.cell (p:=⟨bl,ol+i*4+1,none⟩) hbl9).trans hw1
   have d2:=(hwV.cell (p:=⟨bl,ol+i*4+2,none⟩) hbl9).trans hw2
   have d3:=(hwV.cell (p:=⟨bl,ol+i*4+3,none⟩) hbl9).trans hw3
   rw [Nat.add_zero] at d0
   have hblV:bl < V.heap.size:=Nat.lt_of_lt_of_le hbl9 hwV.size
   obtain ⟨gp,cur,hA,hge,hbT,hcap⟩:=own_some hO (by omega)
   subst hA
   obtain ⟨m1,hm1⟩:∃n:Nat,n=nF - 1:=⟨_,rfl⟩
   obtain ⟨e1,he1⟩:∃n:Nat,n=nF - np:=⟨_,rfl⟩
   obtain ⟨e2,he2⟩:∃n:Nat,n=nF - np+1:=⟨_,rfl⟩
   obtain ⟨e3,he3⟩:∃n:Nat,n=(nF - np+1) / 2:=⟨_,rfl⟩
   have he3p:0 < e3:=by omega
   have km:=fun W=>mod1_any x1 (e3:Int) (by omega) (by omega) W
   obtain ⟨r,hr⟩:∃r:Nat,x1 % (e3:Int)=(r:Int):=⟨(x1 % (e3:Int)).toNat,by have:=Int.emod_nonneg x1 (show (e3:Int)≠0 by omega);omega⟩
   have hrl:r < e3:=by have:=Int.emod_lt_of_pos x1 (show (0:Int) < (e3:Int) by omega);omega
   simp only [hr] at km
   obtain ⟨kk,hkk⟩:∃n:Nat,n=nF - 1 - r:=⟨_,rfl⟩
   have t1:(nF:Int) - 1=(m1:Int):=by omega
   have t2:(nF:Int) - (np:Int)=(e1:Int):=by omega
   have t3:(e1:Int)+1=(e2:Int):=by omega
   have t4:(e2:Int).tdiv 2=(e3:Int):=by rw [Int.tdiv_eq_ediv_of_nonneg (by omega)];omega
   have t5:(m1:Int) - (r:Int)=(kk:Int):=by omega
   have hb1:m1≤1000000:=by omega
   have hb2:e2≤1000001:=by omega
   have hb3:kk≤1000000:=by omega
   have hb4:e1≤1000000:=by omega
   have hb5:e3≤1000001:=by omega
   have j1:(kk:Int) < (nF:Int):=by omega
   obtain ⟨v2,hv2⟩:∃v,v=x2.tmod 50:=⟨_,rfl⟩
   obtain ⟨v3,hv3⟩:∃v,v=x3.tmod 50:=⟨_,rfl⟩
   obtain ⟨v4,hv4⟩:∃v,v=x4.tmod 50:=⟨_,rfl⟩
   have hvb:∀x:Int,-49≤x.tmod 50∧x.tmod 50≤49:=fun x=>by
    have h1:=Int.tmod_lt_of_pos x (show (0:Int) < 50 by decide)
    have h2:=Int.lt_tmod_of_pos x (show (0:Int) < 50 by decide)
    omega
   have hvv:(-49≤v2∧v2≤49)∧(-49≤v3∧v3≤49)∧ -49≤v4∧v4≤49:=⟨by rw [hv2];exact hvb x2,by rw [hv3];exact hvb x3,by rw [hv4];exact hvb x4⟩
   obtain ⟨p,hp,hI2⟩:=HL.out.2.2.1 i P hI k2' (by rw [hPl,←HN.out.1];exact k3') (r:=r) (v:=(v2,v3,v4)) (by rw [hPl,←HN.out.1];omega) hvv
   rw [hPl,←hkk] at hp hI2
   have w2:IntKind.i64.wrap v2=v2:=IntWalk.i64_in _ (by omega)
   have w3:IntKind.i64.wrap v3=v3:=IntWalk.i64_in _ (by omega)
   have w4:IntKind.i64.wrap v4=v4:=IntWalk.i64_in _ (by omega)
   have kpl:=plus9_any p (v2,v3,v4)
   obtain ⟨b',o',hA,hb',y0,y1,y2⟩:=(show Sl encP 3 V V.heap.size (some ⟨gp,0,none⟩) P from hO.sl encP_len (Nat.le_refl _)).pt9 hp
   cases hA
   rw [Nat.zero_add] at y0 y1 y2
   have hgpl:=hbT.lt
   obtain ⟨q,hq⟩:∃q,q=addP p (v2,v3,v4):=⟨_,rfl⟩
   have hqe:(wrap64 (p.1+v2),wrap64 (p.2.1+v3),wrap64 (p.2.2+v4))=q:=hq.symm
   dsimp only at hI2
   rw [hqe] at hI2
   simp only [←hq] at kpl
   obtain ⟨q1,q2,q3⟩:=q
   obtain ⟨p1,p2,p3⟩:=p
   try simp only at y0 y1 y2
   have HT:=hide (And.intro t1 (And.intro t2 (And.intro t3 (And.intro t4 (And.intro t5 (And.intro hv2 (And.intro hv3 (And.intro hv4 (And.intro w2 (And.intro w3 w4))))))))))
   have HC:=hide (And.intro d0 (And.intro d1 (And.intro d2 (And.intro d3 (And.intro y0 (And.intro y1 (And.intro y2 (And.intro z0 (And.intro hblV (And.intro hgpl hg4l))))))))))
   have HV:=hide (And.intro hO (And.intro hg (And.intro hI2 (And.intro km (And.intro kpl (And.intro hp hbT))))))
   clear hI hO hg hbl h4V h8V hlV hXV hI2 km kpl hp hbT t1 t2 t3 t4 t5 hv2 hv3 hv4 w2 w3 w4 d0 d1 d2 d3 y0 y1 y2 hblV hgpl hw0 hw1 hw2 hw3 hcx hbl9 hx hne hm1 he1 he2 he3 hr hrl hkk hvb hvv hq hqe hge hcap hwV hb'
   go_upto_region 12 with fail
   clear z0 hg4l
   have HSB:=hide (show Below V.heap.size V V.drew from (Below.refl _ V).drew)
   refine wp_region_mix (fun W=>Below V.heap.size V W) [0,1,2,3,4,5,6,7,8,9,10,11,12,13,14,15,17] [0,1,2,3,4,5,6,7,8,9,10,11,12,13,14,15,16,17,18] mixed_ok (by kernel_rfl) ?_
   refine wpMix_q (v:=(.slice (some ⟨gp,0,none⟩) nF f1)) rfl rfl (fun _ _ _ h=>h) HSB.out ⟨rfl,fun _ _=>by simp [go_sem]⟩ ?_
   refine wpMix_q (v:=(.int .i64 nF)) rfl rfl (fun _ _ _ h=>h) HSB.out ⟨rfl,fun _ _=>by simp [go_sem]⟩ ?_
   refine wpMix_q (v:=(.int .i64 m1)) rfl rfl (fun _ _ _ h=>h) HSB.out ⟨rfl,fun _ _=>by have w1:IntKind.i64.wrap (m1:Int)=m1:=IntWalk.i64_in _ (by omega);simp [go_sem,HT.out.1,w1]⟩ ?_
   refine wpMix_q (v:=(.slice (some ⟨bl,ol,none⟩) nl cl)) rfl rfl (fun _ _ _ h=>h) HSB.out ⟨rfl,fun _ _=>by simp [go_sem]⟩ ?_
   refine wpMix_q (v:=(.int .i64 i)) rfl rfl (fun _ _ _ h=>h) HSB.out ⟨rfl,fun _ _=>by simp [go_sem]⟩ ?_
   refine wpMix_q (v:=(.pointer (some ⟨bl,ol+i*4,none⟩))) rfl rfl (fun _ _ _ h=>h) HSB.out ⟨rfl,fun _ _=>by simp [go_sem,i1]⟩ ?_
   simp only [List.getElem_toArray,List.getElem_cons_succ,List.getElem_cons_zero,Act.put,List.setIfInBounds_toArray,List.set_cons_succ,List.set_cons_zero]
   refine wpMix_q (v:=(.pointer (some ⟨bl,ol+i*4,none⟩))) rfl rfl (fun _ _ _ h=>h) HSB.out ⟨rfl,fun _ _=>by simp [go_sem]⟩ ?_
   refine wpMix_q (v:=(.int .i64 x1)) rfl rfl (fun _ _ _ h=>h) HSB.out ⟨rfl,fun _ h'=>by have a0:=(h'.cell (p:=⟨bl,ol+i*4,none⟩) HC.out.2.2.2.2.2.2.2.2.1).trans HC.out.1;simp [go_sem,a0]⟩ ?_
   refine wpMix_q (v:=(.slice (some ⟨gp,0,none⟩) nF f1)) rfl rfl (fun _ _ _ h=>h) HSB.out ⟨rfl,fun _ _=>by simp [go_sem]⟩ ?_
   refine wpMix_q (v:=(.int .i64 nF)) rfl rfl (fun _ _ _ h=>h) HSB.out ⟨rfl,fun _ _=>by simp [go_sem]⟩ ?_
   refine wpMix_q (v:=(.pointer (some ⟨g4,0,none⟩))) rfl rfl (fun _ _ _ h=>h) HSB.out ⟨rfl,fun _ _=>by simp [go_sem]⟩ ?_
   refine wpMix_q (v:=(.slice A1 np k1)) rfl rfl (fun _ _ _ h=>h) HSB.out ⟨rfl,fun _ h'=>by have a0:=(h'.cell (p:=⟨g4,0,none⟩) HC.out.2.2.2.2.2.2.2.2.2.2).trans HC.out.2.2.2.2.2.2.2.1;simp [go_sem,a0]⟩ ?_
   simp only [List.getElem_toArray,List.getElem_cons_succ,List.getElem_cons_zero,Act.put,List.setIfInBounds_toArray,List.set_cons_succ,List.set_cons_zero]
   refine wpMix_q (v:=(.int .i64 np)) rfl rfl (fun _ _ _ h=>h) HSB.out ⟨rfl,fun _ _=>by simp [go_sem]⟩ ?_
   refine wpMix_q (v:=(.int .i64 e1)) rfl rfl (fun _ _ _ h=>h) HSB.out ⟨rfl,fun _ _=>by have w1:IntKind.i64.wrap (e1:Int)=e1:=IntWalk.i64_in _ (by omega);simp [go_sem,HT.out.2.1,w1]⟩ ?_
   refine wpMix_q (v:=(.int .i64 e2)) rfl rfl (fun _ _ _ h=>h) HSB.out ⟨rfl,fun _ _=>by have w1:IntKind.i64.wrap (e2:Int)=e2:=IntWalk.i64_in _ (by omega);simp [go_sem,HT.out.2.2.1,w1]⟩ ?_
   refine wpMix_q (v:=(.int .i64 e3)) rfl rfl (fun _ _ _ h=>h) HSB.out ⟨rfl,fun _ _=>by have w1:IntKind.i64.wrap (e3:Int)=e3:=IntWalk.i64_in _ (by omega);simp [go_sem,HT.out.2.2.2.1,w1]⟩ ?_
   simp only [List.getElem_toArray,List.getElem_cons_succ,List.getElem_cons_zero,Act.put,List.setIfInBounds_toArray,List.set_cons_succ,List.set_cons_zero]
   refine wpMix_n rfl rfl ?_
   go_wp2_with fail
   refine (HV.out.2.2.2.1 V.drew).mono ?_
   rintro e W1 ⟨rfl,rfl⟩
   go_wp2_with fail
   refine ⟨fun _=>HSB.out,?_⟩
   refine wpMix_q (v:=(.int .i64 kk)) rfl rfl (fun _ _ _ h=>h) HSB.out ⟨rfl,fun _ _=>by have w1:IntKind.i64.wrap (kk:Int)=kk:=IntWalk.i64_in _ (by omega);simp [go_sem,HT.out.2.2.2.2.1,w1]⟩ ?_
   simp only [List.getElem_toArray,List.getElem_cons_succ,List.getElem_cons_zero,Act.put,List.setIfInBounds_toArray,List.set_cons_succ,List.set_cons_zero]
   refine wpMix_n rfl rfl ?_
   go_wp2_with fail
   refine ⟨fun h=>absurd (h.symm.trans (show _=false by kernel_rfl)) (by simp),?_⟩
   refine wpMix_nil ?_
   obtain ⟨V1,hV1⟩:∃W,W=V.drew:=⟨_,rfl⟩
   rw [←hV1]
   have hBV1:Below V.heap.size V V1:=by rw [hV1];exact HSB.out
   have HB1:=hide hBV1
   clear hBV1 hV1 HSB
   go_upto_region 13 with fail
   have HSB:=hide (show Below V.heap.size V V1.drew from HB1.out.drew)
   refine wp_region_mix (fun W=>Below V.heap.size V W) [0,1,2,3,4,5,6,7,8,9,10,11,12,13,14,15,16,17,18,19,20,21,22,23,24,26] [0,1,2,3,4,5,6,7,8,9,10,11,12,13,14,15,16,17,18,19,20,21,22,23,24,25,26,27] mixed_ok (by kernel_rfl) ?_
   refine wpMix_q (v:=(.slice (some ⟨gp,0,none⟩) nF f1)) rfl rfl (fun _ _ _ h=>h) HSB.out ⟨rfl,fun _ _=>by simp [go_sem]⟩ ?_
   refine wpMix_q (v:=(.int .i64 kk)) rfl rfl (fun _ _ _ h=>h) HSB.out ⟨rfl,fun _ _=>by simp [go_sem]⟩ ?_
   refine wpMix_q (v:=(.slice (some ⟨gp,0,none⟩) nF f1)) rfl rfl (fun _ _ _ h=>h) HSB.out ⟨rfl,fun _ _=>by simp [go_sem]⟩ ?_
   refine wpMix_q (v:=(.int .i64 kk)) rfl rfl (fun _ _ _ h=>h) HSB.out ⟨rfl,fun _ _=>by simp [go_sem]⟩ ?_
   refine wpMix_q (v:=(.pointer (some ⟨gp,kk*3,none⟩))) rfl rfl (fun _ _ _ h=>h) HSB.out ⟨rfl,fun _ _=>by simp [go_sem,j1]⟩ ?_
   refine wpMix_q (v:=(.agg #[.int .i64 p1, .int .i64 p2, .int .i64 p3])) rfl rfl (fun _ _ _ h=>h) HSB.out ⟨rfl,fun _ h'=>by have a0:=(h'.cell (p:=⟨gp,kk*3,none⟩) HC.out.2.2.2.2.2.2.2.2.2.1).trans HC.out.2.2.2.2.1;have a1:=(h'.cell (p:=⟨gp,kk*3+1,none⟩) HC.out.2.2.2.2.2.2.2.2.2.1).trans HC.out.2.2.2.2.2.1;have a2:=(h'.cell (p:=⟨gp,kk*3+2,none⟩) HC.out.2.2.2.2.2.2.2.2.2.1).trans HC.out.2.2.2.2.2.2.1;simp [go_sem,a0,a1,a2]⟩ ?_
   simp only [List.getElem_toArray,List.getElem_cons_succ,List.getElem_cons_zero,Act.put,List.setIfInBounds_toArray,List.set_cons_succ,List.set_cons_zero]
   refine wpMix_q (v:=(.slice (some ⟨bl,ol,none⟩) nl cl)) rfl rfl (fun _ _ _ h=>h) HSB.out ⟨rfl,fun _ _=>by simp [go_sem]⟩ ?_
   refine wpMix_q (v:=(.int .i64 i)) rfl rfl (fun _ _ _ h=>h) HSB.out ⟨rfl,fun _ _=>by simp [go_sem]⟩ ?_
   refine wpMix_q (v:=(.pointer (some ⟨bl,ol+i*4,none⟩))) rfl rfl (fun _ _ _ h=>h) HSB.out ⟨rfl,fun _ _=>by simp [go_sem,i1]⟩ ?_
   refine wpMix_q (v:=(.pointer (some ⟨bl,ol+i*4+1,none⟩))) rfl rfl (fun _ _ _ h=>h) HSB.out ⟨rfl,fun _ _=>by simp [go_sem]⟩ ?_
   refine wpMix_q (v:=(.int .i64 x2)) rfl rfl (fun _ _ _ h=>h) HSB.out ⟨rfl,fun _ h'=>by have a0:=(h'.cell (p:=⟨bl,ol+i*4+1,none⟩) HC.out.2.2.2.2.2.2.2.2.1).trans HC.out.2.1;simp [go_sem,a0]⟩ ?_
   refine wpMix_q (v:=(.int .i64 v2)) rfl rfl (fun _ _ _ h=>h) HSB.out ⟨rfl,fun _ _=>by simp [go_sem,←HT.out.2.2.2.2.2.1]⟩ ?_
   simp only [List.getElem_toArray,List.getElem_cons_succ,List.getElem_cons_zero,Act.put,List.setIfInBounds_toArray,List.set_cons_succ,List.set_cons_zero]
   refine wpMix_q (v:=(.slice (some ⟨bl,ol,none⟩) nl cl)) rfl rfl (fun _ _ _ h=>h) HSB.out ⟨rfl,fun _ _=>by simp [go_sem]⟩ ?_
   refine wpMix_q (v:=(.int .i64 i)) rfl rfl (fun _ _ _ h=>h) HSB.out ⟨rfl,fun _ _=>by simp [go_sem]⟩ ?_
   refine wpMix_q (v:=(.pointer (some ⟨bl,ol+i*4,none⟩))) rfl rfl (fun _ _ _ h=>h) HSB.out ⟨rfl,fun _ _=>by simp [go_sem,i1]⟩ ?_
   refine wpMix_q (v:=(.pointer (some ⟨bl,ol+i*4+2,none⟩))) rfl rfl (fun _ _ _ h=>h) HSB.out ⟨rfl,fun _ _=>by simp [go_sem]⟩ ?_
   refine wpMix_q (v:=(.int .i64 x3)) rfl rfl (fun _ _ _ h=>h) HSB.out ⟨rfl,fun _ h'=>by have a0:=(h'.cell (p:=⟨bl,ol+i*4+2,none⟩) HC.out.2.2.2.2.2.2.2.2.1).trans HC.out.2.2.1;simp [go_sem,a0]⟩ ?_
   refine wpMix_q (v:=(.int .i64 v3)) rfl rfl (fun _ _ _ h=>h) HSB.out ⟨rfl,fun _ _=>by simp [go_sem,←HT.out.2.2.2.2.2.2.1]⟩ ?_
   simp only [List.getElem_toArray,List.getElem_cons_succ,List.getElem_cons_zero,Act.put,List.setIfInBounds_toArray,List.set_cons_succ,List.set_cons_zero]
   refine wpMix_q (v:=(.slice (some ⟨bl,ol,none⟩) nl cl)) rfl rfl (fun _ _ _ h=>h) HSB.out ⟨rfl,fun _ _=>by simp [go_sem]⟩ ?_
   refine wpMix_q (v:=(.int .i64 i)) rfl rfl (fun _ _ _ h=>h) HSB.out ⟨rfl,fun _ _=>by simp [go_sem]⟩ ?_
   refine wpMix_q (v:=(.pointer (some ⟨bl,ol+i*4,none⟩))) rfl rfl (fun _ _ _ h=>h) HSB.out ⟨rfl,fun _ _=>by simp [go_sem,i1]⟩ ?_
   refine wpMix_q (v:=(.pointer (some ⟨bl,ol+i*4+3,none⟩))) rfl rfl (fun _ _ _ h=>h) HSB.out ⟨rfl,fun _ _=>by simp [go_sem]⟩ ?_
   refine wpMix_q (v:=(.int .i64 x4)) rfl rfl (fun _ _ _ h=>h) HSB.out ⟨rfl,fun _ h'=>by have a0:=(h'.cell (p:=⟨bl,ol+i*4+3,none⟩) HC.out.2.2.2.2.2.2.2.2.1).trans HC.out.2.2.2.1;simp [go_sem,a0]⟩ ?_
   refine wpMix_q (v:=(.int .i64 v4)) rfl rfl (fun _ _ _ h=>h) HSB.out ⟨rfl,fun _ _=>by simp [go_sem,←HT.out.2.2.2.2.2.2.2.1]⟩ ?_
   simp only [List.getElem_toArray,List.getElem_cons_succ,List.getElem_cons_zero,Act.put,List.setIfInBounds_toArray,List.set_cons_succ,List.set_cons_zero]
   refine wpMix_q (v:=(.agg #[.int .i64 v2, .int .i64 v3, .int .i64 v4])) rfl rfl (fun _ _ _ h=>h) HSB.out ⟨rfl,fun _ _=>by simp [go_sem]⟩ ?_
   simp only [List.getElem_toArray,List.getElem_cons_succ,List.getElem_cons_zero,Act.put,List.setIfInBounds_toArray,List.set_cons_succ,List.set_cons_zero]
   refine wpMix_n rfl rfl ?_
   go_wp2_with fail
   refine (HV.out.2.2.2.2.1 V1.drew).mono ?_
   rintro e W2 ⟨rfl,hB2⟩
   have hBW:Below V.heap.size V W2:=HSB.out.trans (hB2.mono HSB.out.size)
   have hO2:=HV.out.1.below hBW (Nat.le_refl _)
   have hbT2:=HV.out.2.2.2.2.2.2.below hBW HV.out.2.2.2.2.2.2.lt
   have fr0:=hbT2.frozen (kk*3)
   have fr1:=hbT2.frozen (kk*3+1)
   have fr2:=hbT2.frozen (kk*3+2)
   have y0:=(hBW.cell (p:=⟨gp,kk*3,none⟩) HC.out.2.2.2.2.2.2.2.2.2.1).trans HC.out.2.2.2.2.1
   have y1:=(hBW.cell (p:=⟨gp,kk*3+1,none⟩) HC.out.2.2.2.2.2.2.2.2.2.1).trans HC.out.2.2.2.2.2.1
   have y2:=(hBW.cell (p:=⟨gp,kk*3+2,none⟩) HC.out.2.2.2.2.2.2.2.2.2.1).trans HC.out.2.2.2.2.2.2.1
   have hgpl:=hbT2.lt
   have HW:=hide (And.intro hBW hO2)
   clear hBW hO2 hbT2 hB2
   go_wp2_with fail
   refine ⟨fun _=>HW.out.1,?_⟩
   refine wpMix_q (v:=(.pointer (some ⟨gp,kk*3,none⟩))) rfl rfl (fun _ _ _ h=>h) HW.out.1 ⟨rfl,fun _ _=>by simp [go_sem,j1]⟩ ?_
   simp only [List.getElem_toArray,List.getElem_cons_succ,List.getElem_cons_zero,Act.put,List.setIfInBounds_toArray,List.set_cons_succ,List.set_cons_zero]
   refine wpMix_tail _ [_] (by kernel_rfl) rfl ?_
   clear HSB
   have hgr:=setW_grown gp (encP ((q1,q2,q3):Pt)) W2 (kk*3)
   have h1:=HW.out.2.setW encP_len (i:=kk) (by rw [hPl];omega) ((q1,q2,q3):Pt)
   have h2:=(HV.out.2.1.trans (grown_bel9 HW.out.1 (some gp))).trans hgr
   have HZ:=hide (And.intro h1 h2)
   clear h1 h2 hgr
   go_wp2
   go_roundw
   case rel=>exact ⟨i+1,_,by omega,by omega,by go_num,HV.out.2.2.1,HZ.out.1,HZ.out.2⟩
   case measure=>(simp [intOf];try omega)
  ·have hcpV:Sl encP 3 V V.heap.size A1 c.points:=((HS.out.2.1.p.below (show Below X4.heap.size X4 V from (J1.out.2.2.2.2.trans (H5.out.2.2.2.2.2.2.2.2.1.mono J1.out.2.2.2.2.size)).trans (hXV.mono (Nat.le_refl _)))).more (by have h1:=J1.out.2.2.2.2.size;have h2:=H5.out.2.2.2.2.2.2.2.1;have h3:=hXV.size;omega))
   have HV:=hide (And.intro hI (And.intro hO (And.intro h4V (And.intro h8V (And.intro hlV (And.intro hwV hcpV))))))
   clear hI hO hg hbl h4V h8V hlV hXV hwV hcpV
   go_upto_region 10 with fail
   go_cut [61] (fun v wx=>v= .bool false∧wx=V)
   case first=>
    by_cases hcj:¬(i < nl)
    ·skip
     have i1:¬(i:Int) < (nl:Int):=by omega
     go_wp2_with fail
     go_meet
     case rel=>exact ⟨by first | rfl | (refine congrArg Value.bool (decide_eq_false ?_);omega),rfl⟩
    ·skip
     have i1:(i:Int) < (nl:Int):=by omega
     by_cases hcj:¬(i < 10)
     ·skip
      have i2:¬(i:Int) < 10:=by omega
      go_wp2_with fail
      go_meet
      case rel=>exact ⟨by first | rfl | (refine congrArg Value.bool (decide_eq_false ?_);omega),rfl⟩
     ·skip
      have i2:(i:Int) < 10:=by omega
      have i3:¬(nF:Int)>(np:Int):=by omega
      have i3':¬(np:Int) < (nF:Int):=by omega
      go_wp2_with fail
      go_meet
      case rel=>exact ⟨by first | rfl | (refine congrArg Value.bool (decide_eq_false ?_);omega),rfl⟩
   case rest=>
    obtain ⟨rfl,hwc⟩:=hcut
    obtain rfl:V=wc:=hwc.symm
    clear z0 hg4l hlt
    obtain ⟨R,hE0,hR,hRr,hRf,hRb,hRB,hRs,hRp,hRd,hRst⟩:=HL.out.2.1 i P HV.out.1 hi10
    have hPl:P.length=nF:=HV.out.2.1.1.symm
    have hPf:∀p∈P,fitsP p:=by rw [←hRf];exact fin_fits R
    have kan:=HK.out.2.2.2 P hPf hPl Z0 B2 B3 B4 F1 np b2 b3 b4 f1 V HV.out.2.2.2.2.1.ctlM (HV.out.2.1.sl encP_len (Nat.le_refl _))
    rw [hE0,hR] at kan
    have kf2:=fun (Ap At Ac Ao Ad:Option Addr) (cp ct cc oc dc:Nat) (W:World) (h:CtlM W W.heap.size Ap At Ac Ao Ad R)=>fine_any Ap At Ac Ao Ad cp ct cc oc dc R W h hRB hRs (fun _=>hRb)
    obtain ⟨RT,hRT⟩:∃x,x=finT R:=⟨_,rfl⟩
    simp only [hRr,hRf,←hRT] at kf2
    obtain ⟨rt,hrt⟩:∃n,n=R.tris.length:=⟨_,rfl⟩
    obtain ⟨rc,hrc⟩:∃n,n=R.creases.length:=⟨_,rfl⟩
    obtain ⟨ro,hro⟩:∃n,n=R.corners.length:=⟨_,rfl⟩
    obtain ⟨rd,hrd⟩:∃n,n=R.details.length:=⟨_,rfl⟩
    obtain ⟨nU,hnU⟩:∃n,n=RT.length:=⟨_,rfl⟩
    have hrp:R.points.length=np:=by rw [hRp,HN.out.1]
    have hrs:R.steps=st:=by rw [hRst,HN.out.2.2.2.2.2.1]
    have hrdi:(rd:Int)=st:=by rw [hrd,hRd,HN.out.2.2.2.2.2.1];have:=HF.out.2.2.1;omega
    simp only [hrp,hrs,hPl,←hrt,←hrc,←hro,←hrd,←hnU] at kf2
    obtain ⟨z0,z1,z2,z3,z4,z5⟩:=HV.out.2.2.2.1.six9
    have hg8l:=HV.out.2.2.2.1.lt
    have HA:=hide (And.intro kan (And.intro kf2 (And.intro hrt (And.intro hrc (And.intro hro (And.intro hrd (And.intro hrp (And.intro hrs (And.intro hrdi (And.intro hPf (And.intro hRp hPl)))))))))))
    clear kan kf2 hrt hrc hro hrd hrp hrs hrdi hPf hRp hPl hRT hnU hE0 hR hRr hRf hRb hRB hRs hRd hRst
    go_upto_region 15 with (go_at_call 31;refine HA.out.1.mono ?_;rintro e Z1 ⟨v,rfl,BQ,D1,D2,D3,D4,D5,q1,q2,q3,q4,q5,hve,ht,hp,hcr,hco,hd,hlb,hB⟩;have hve:=Ending.returned.inj hve;subst hve;have G1:=hide (And.intro ht (And.intro hp (And.intro hcr (And.intro hco (And.intro (hd.base_le hlb.1) hB)))));clear ht hp hcr hco hd hlb hB)
    clear z0 z1 z2 z3 z4 z5 hg8l
    try simp only [HA.out.2.2.2.2.2.2.1,HA.out.2.2.2.2.2.2.2.1,←HA.out.2.2.1,←HA.out.2.2.2.1,←HA.out.2.2.2.2.1,←HA.out.2.2.2.2.2.1]
    obtain ⟨g13,hg13⟩:∃g,g=Z1.heap.size:=⟨_,rfl⟩
    obtain ⟨Z2,hZ2⟩:∃W,W=Z1.alloc (.cells (cMad (.slice D1 np q1) (.slice D2 rt q2) (.slice D3 rc q3) (.slice D4 ro q4) st (.slice D5 rd q5)) 32):=⟨_,rfl⟩
    rw [←hZ2,←hg13]
    have hBa:Below Z1.heap.size Z1 Z2:=by rw [hZ2];exact (Below.refl _ _).alloc (Nat.le_refl _) _
    have hb13:Blk Z2 g13 32 (cMad (.slice D1 np q1) (.slice D2 rt q2) (.slice D3 rc q3) (.slice D4 ro q4) st (.slice D5 rd q5)):=by rw [hZ2,hg13];exact Blk.new _ _ _
    have hBV2:Below V.heap.size V Z2:=G1.out.2.2.2.2.2.trans (hBa.mono G1.out.2.2.2.2.2.size)
    have hE2:CtE V Z2 g13 (.slice D1 np q1) (.slice D2 rt q2) (.slice D3 rc q3) (.slice D4 ro q4) (.slice D5 rd q5) R:=by
     have hz:=G1.out.2.2.2.2.2.size
     have hb6:=hb13
     rw [←HA.out.2.2.2.2.2.2.1,HA.out.2.2.1,HA.out.2.2.2.1,HA.out.2.2.2.2.1,HA.out.2.2.2.2.2.1,←HA.out.2.2.2.2.2.2.2.1] at hb6
     rw [←HA.out.2.2.2.2.2.2.1,HA.out.2.2.1,HA.out.2.2.2.1,HA.out.2.2.2.2.1,HA.out.2.2.2.2.2.1]
     exact ⟨hBV2,hb6,by omega,G1.out.2.1.below hBa (Nat.le_refl _),G1.out.1.below hBa (Nat.le_refl _),G1.out.2.2.1.below hBa (Nat.le_refl _),G1.out.2.2.2.1.below hBa (Nat.le_refl _),G1.out.2.2.2.2.1.below hBa (Nat.le_refl _)⟩
    obtain ⟨z0,z1,z2,z3,z4,z5⟩:=hb13.six9
    have hg13l:=hb13.lt
    have G2:=hide (And.intro hE2 (And.intro hb13 hBV2))
    clear hE2 hb13 hBV2 hBa hZ2 hg13
    go_upto_region 16 with (go_at_call 18;refine (HA.out.2.1 _ _ _ _ _ _ _ _ _ _ Z2 G2.out.1.ctlM).mono ?_;rintro e Z3 ⟨U1,u1,U2,u2,rfl,hP,hT,hB⟩;have G3:=hide (And.intro (hP.sl encP_len (Nat.le_refl _)) (And.intro (G2.out.2.1.below hB G2.out.2.1.lt) (And.intro (G2.out.2.2.trans (hB.mono G2.out.2.2.size)) (G2.out.1.below hB))));clear hP hT hB)
    clear z0 z1 z2 z3 z4 z5 hg13l
    have hPV:Sl encP 3 Z3 Z3.heap.size F1 P:=((HV.out.2.1.sl encP_len (Nat.le_refl _)).below G3.out.2.2.1).more G3.out.2.2.1.size
    have kp:=pts4_any F1 U1 f1 u1 P P Z3 Z3.heap.size Z3.heap.size hPV G3.out.1 (by rw [HA.out.2.2.2.2.2.2.2.2.2.2.2];omega) (by rw [HA.out.2.2.2.2.2.2.2.2.2.2.2];omega) HA.out.2.2.2.2.2.2.2.2.2.1 HA.out.2.2.2.2.2.2.2.2.2.1
    simp only [HA.out.2.2.2.2.2.2.2.2.2.2.2,decide_true] at kp
    have h4Z:=HV.out.2.2.1.below G3.out.2.2.1 HV.out.2.2.1.lt
    have hwZ:=HV.out.2.2.2.2.2.1.trans (G3.out.2.2.1.mono HV.out.2.2.2.2.2.1.size)
    have hcp:CtlM Z3 Z3.heap.size D1 D2 D3 D4 D5 R:=G3.out.2.2.2.ctlM
    have HP:=hide (And.intro kp (And.intro h4Z (And.intro hwZ hcp)))
    clear kp hPV h4Z hwZ hcp
    go_upto_region 17 with (go_at_call 24;refine HP.out.1.mono ?_;rintro e Z4 ⟨rfl,k5,hX5⟩;have H6:=hide (show Below Z3.heap.size Z3 Z4 from by rw [hX5];exact below_drewN (Below.refl Z3.heap.size Z3) k5);clear hX5)
    have hd4:=G3.out.2.1.below H6.out G3.out.2.1.lt
    have h44:=HP.out.2.1.below H6.out HP.out.2.1.lt
    obtain rfl:st=(rd:Int):=HA.out.2.2.2.2.2.2.2.2.1.symm
    obtain ⟨z0,z1,z2,z3,z4,z5⟩:=hd4.six9
    obtain ⟨y0,y1,y2,y3,y4,y5⟩:=h44.six9
    clear z1 z2 z3 z4 y1 y2 y3 y5
    have hg13l:=hd4.lt
    have hg4l:=h44.lt
    have hwZ4:=HP.out.2.2.1.trans (H6.out.mono HP.out.2.2.1.size)
    have hc4:=HS.out.2.1
    have kq:=pts4_any D1 A1 q1 k1 c.points c.points Z4 Z4.heap.size Z4.heap.size (by have h:=(HP.out.2.2.2.p.below H6.out).more H6.out.size;rw [HA.out.2.2.2.2.2.2.2.2.2.2.1] at h;exact h) ((HV.out.2.2.2.2.2.2.below (G3.out.2.2.1.trans (H6.out.mono G3.out.2.2.1.size))).more (Nat.le_trans G3.out.2.2.1.size H6.out.size)) (by rw [←HN.out.1];omega) (by rw [←HN.out.1];omega) HL.out.2.2.2.2.1 HL.out.2.2.2.2.1
    simp only [←HN.out.1,decide_true] at kq
    have HQ:=hide (And.intro kq hwZ4)
    clear kq hwZ4 hd4 h44 hc4
    go_wp2_with (go_at_call 24;refine HQ.out.1.mono ?_;rintro e Z5 ⟨rfl,k6,hX6⟩;have H7:=hide (show Below w.heap.size w Z5 from by rw [hX6];exact below_drewN HQ.out.2 k6);clear hX6)
    go_ret
    exact ⟨rfl,H7.out⟩
end Go.Proofs.YtmemofonebphfaaGreat
