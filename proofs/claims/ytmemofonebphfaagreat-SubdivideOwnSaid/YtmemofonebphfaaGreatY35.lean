import Derived.Test.YtmemofonebphfaaGreatY32
namespace Go.Proofs.YtmemofonebphfaaGreat
open Go.RowKit Go.Sort Go.WideMaps Go.Maps Go.Shelf
theorem ent_ana2 (args:Array Value) (W:World):(callFunc 60 args).run Tryz.prog W= .ok (.enter 60 args) W:=
 enters_of Tryz.func60 (by kernel_rfl) rfl args W
def LvlX (W:World) (b0 b g mo:Nat) (L:Lev) (co:List Int):Prop:=
 ∃(Ap:Option Addr) (cp:Nat) (At:Option Addr) (ct mc:Nat) (a4:Option Nat) (Ae:Option Addr) (ne ce:Nat) (a6 a7:Option Nat),LvlM W b0 g Ap cp At ct mc mo a4 Ae ne ce a6 a7 L co∧Own encN3 3 35 W b (.slice At L.t.length ct) L.t.length L.t
set_option maxRecDepth 100000 in
theorem ana_act1 (x0 x1 x2 x3 x4 x5 x6 x7 x8 x9 x10 x11 x12 x13 x14 x15 x16 x17 x18 x19 x20 x21 x22 x23 x24 x25 x26 x27 x28 x29 x30 x31 x32 x33 x34 x35 x36 x37 x38 x39 x40 x41 x42 x43 x44 x45 x46 x47 x48 x49 x50 x51 x52 x53 x54 x55 x56 x57 x58 x59 x60 x61 x62 x63 x64 x65 x66 x67 x68 x69 x70 x71 x72 x73 x74 x75 x76 x77 x78 x79 x80 x81 x82 x83 x84 x85 x86 x87 x88 x89 x90 x91 x92 x93 x94 x95 x96 x97 x98 x99 x100 x101 x102 x103 x104 x105 x106 x107 x108 x109 x110 x111 x112 x113 x114:Value) (d:_) (vals:Nat→Value):actL [(0,18),(1,19),(2,20),(3,21),(4,22),(5,23),(6,24),(7,25),(8,26),(9,27),(10,28),(11,29),(12,30),(13,31),(14,32),(15,33),(16,6)] {tmps:=#[x0,x1,x2,x3,x4,x5,x6,x7,x8,x9,x10,x11,x12,x13,x14,x15,x16,x17,x18,x19,x20,x21,x22,x23,x24,x25,x26,x27,x28,x29,x30,x31,x32,x33,x34,x35,x36,x37,x38,x39,x40,x41,x42,x43,x44,x45,x46,x47,x48,x49,x50,x51,x52,x53,x54,x55,x56,x57,x58,x59,x60,x61,x62,x63,x64,x65,x66,x67,x68,x69,x70,x71,x72,x73,x74,x75,x76,x77,x78,x79,x80,x81,x82,x83,x84,x85,x86,x87,x88,x89,x90,x91,x92,x93,x94,x95,x96,x97,x98,x99,x100,x101,x102,x103,x104,x105,x106,x107,x108,x109,x110,x111,x112,x113,x114],defers:=d} vals={tmps:=#[x0,x1,x2,x3,x4,x5,vals 16,x7,x8,x9,x10,x11,x12,x13,x14,x15,x16,x17,vals 0,vals 1,vals 2,vals 3,vals 4,vals 5,vals 6,vals 7,vals 8,vals 9,vals 10,vals 11,vals 12,vals 13,vals 14,vals 15,x34,x35,x36,x37,x38,x39,x40,x41,x42,x43,x44,x45,x46,x47,x48,x49,x50,x51,x52,x53,x54,x55,x56,x57,x58,x59,x60,x61,x62,x63,x64,x65,x66,x67,x68,x69,x70,x71,x72,x73,x74,x75,x76,x77,x78,x79,x80,x81,x82,x83,x84,x85,x86,x87,x88,x89,x90,x91,x92,x93,x94,x95,x96,x97,x98,x99,x100,x101,x102,x103,x104,x105,x106,x107,x108,x109,x110,x111,x112,x113,x114],defers:=d}:=by kernel_rfl
set_option maxRecDepth 100000 in
set_option maxHeartbeats 64000000 in
theorem analyse_any (Ap At Ac Ao Ad Af:Option Addr) (cp ct cc oc dc cf:Nat) (c:Ctl) (fine:List Pt) (w:World) (hm:CtlM w w.heap.size Ap At Ac Ao Ad c) (hb:CtlB c) (hfs:fits c.steps) (hf:Sl encP 3 w w.heap.size Af fine) (hfl:fine.length≤100000000) (hff:∀p∈fine,fitsP p) (hnb:errC (anaZ c)=0→NoBack c.tris):
  Calls Tryz.prog 31 #[vCtl Ap c.points.length cp At c.tris.length ct Ac c.creases.length cc Ao c.corners.length oc c.steps Ad c.details.length dc, .slice Af fine.length cf] w fun e w'=>AnaA w w' (anaE c fine) (anaR c fine) e:=by
 obtain ⟨np,hnp⟩:∃n,n=c.points.length:=⟨_,rfl⟩
 obtain ⟨nt,hnt⟩:∃n,n=c.tris.length:=⟨_,rfl⟩
 obtain ⟨nc,hnc⟩:∃n,n=c.creases.length:=⟨_,rfl⟩
 obtain ⟨no,hno⟩:∃n,n=c.corners.length:=⟨_,rfl⟩
 obtain ⟨nd,hnd⟩:∃n,n=c.details.length:=⟨_,rfl⟩
 obtain ⟨st,hst⟩:∃n,n=c.steps:=⟨_,rfl⟩
 obtain ⟨fl,hfn⟩:∃n,n=fine.length:=⟨_,rfl⟩
 obtain ⟨E,hE⟩:∃n,n=anaE c fine:=⟨_,rfl⟩
 obtain ⟨R,hR⟩:∃n,n=anaR c fine:=⟨_,rfl⟩
 obtain ⟨er,her⟩:∃n,n=errC (anaZ c):=⟨_,rfl⟩
 have hlz:(anaZ c).points.length=np:=by rw [hnp];simp [anaZ]
 have hbZ:CtlB (anaZ c):=⟨by rw [hlz,hnp];exact hb.p,hb.t,hb.cr,hb.o,by simp [anaZ],by simp [anaZ]⟩
 have hnpl:np≤100000:=by rw [hnp];exact hb.p
 have hntl:nt≤100000:=by rw [hnt];exact hb.t
 have kw:∀(B0 B1 B2 B3:Option Addr) (b0 b1 b2 b3:Nat) (W:World),CtlM W W.heap.size B0 B1 B2 B3 none (anaZ c)→Calls Tryz.prog 40 #[vCtl B0 np b0 B1 nt b1 B2 nc b2 B3 no b3 st none 0 0] W fun e w'=>e= .returned (.int .i64 er)∧Below W.heap.size W w':=fun B0 B1 B2 B3 b0 b1 b2 b3 W hC=>by
  have h:=wrong_any B0 B1 B2 B3 none b0 b1 b2 b3 0 (anaZ c) W hC hbZ hfs
  rw [hlz,←her] at h
  rw [hnt,hnc,hno,hst]
  exact h
 have kc1:=fun (W:World) (hW:Below w.heap.size w W)=>cloneN3_any At ct c.tris w.heap.size W (hm.t.below hW) (by have:=hb.t;omega)
 have kc2:=fun (W:World) (hW:Below w.heap.size w W)=>cloneE2_any Ac cc c.creases w.heap.size W (hm.cr.below hW) (by have:=hb.cr;omega)
 have kc3:=fun (W:World) (hW:Below w.heap.size w W)=>cloneZ_any Ao oc c.corners w.heap.size W (hm.o.below hW) (by have:=hb.o;omega)
 rw [←hnp,←hnt,←hnc,←hno,←hnd,←hst,←hfn,←hE,←hR]
 simp only [←hnt,←hnc,←hno] at kc1 kc2 kc3
 have HK:=hide (And.intro kw (And.intro kc1 (And.intro kc2 kc3)))
 have HM:=hide (And.intro hm (And.intro hb (And.intro hfs (And.intro hf (And.intro hff (And.intro hnb hfl))))))
 have HN:=hide (And.intro hnp (And.intro hnt (And.intro hnc (And.intro hno (And.intro hnd (And.intro hst (And.intro hfn (And.intro hE (And.intro hR her)))))))))
 have hfl9:fl≤100000000:=by omega
 clear kw kc1 kc2 kc3 hm hb hfs hf hff hnb hfl hnp hnt hnc hno hnd hst hfn hE hR her hlz hbZ
 go_enter Tryz.func31,Tryz.ntmps31
 go_upto_region 1 with fail
 obtain ⟨g1,hg1⟩:∃g,g=w.heap.size:=⟨_,rfl⟩
 obtain ⟨g2,hg2⟩:∃g,g=w.heap.size+1:=⟨_,rfl⟩
 obtain ⟨g3,hg3⟩:∃g,g=w.heap.size+1+1:=⟨_,rfl⟩
 obtain ⟨X0,hX⟩:∃W,W=((w.alloc (.cells (cCtl Ap np cp At nt ct Ac nc cc Ao no oc st Ad nd dc) 32)).alloc (.cells #[.slice Af fl cf] 28)).alloc (.cells (cCtl none 0 0 none 0 0 none 0 0 none 0 0 0 none 0 0) 32):=⟨_,rfl⟩
 have hb1:Blk X0 g1 32 (cCtl Ap np cp At nt ct Ac nc cc Ao no oc st Ad nd dc):=by rw [hX,hg1];exact ((Blk.new _ _ _).alloc _).alloc _
 have hb2:Blk X0 g2 28 #[.slice Af fl cf]:=by rw [hX,hg2];exact (Blk.new' _ _ _ _ (by simp)).alloc _
 have hb3:Blk X0 g3 32 (cCtl none 0 0 none 0 0 none 0 0 none 0 0 0 none 0 0):=by rw [hX,hg3];exact Blk.new' _ _ _ _ (by simp)
 have hBX:Below w.heap.size w X0:=by rw [hX];exact (((Below.refl _ w).alloc (Nat.le_refl _) _).alloc (by simp) _).alloc (by simp;omega) _
 have hg3w:w.heap.size≤g3:=by omega
 have hg13:g1≠g3:=by omega
 have hsz:X0.heap.size=w.heap.size+3:=by rw [hX];simp
 rw [←hX,←hg3,←hg2,←hg1]
 have H0:=hide (And.intro hb1 (And.intro hb2 (And.intro hb3 (And.intro hBX (And.intro hg3w hg13)))))
 clear hb1 hb2 hb3 hBX hg3w hg13 hX hg1 hg2 hg3 hsz
 have hmk:=mk_p9 np (by omega)
 have HMK:=hide hmk
 clear hmk
 go_cut [6] (fun v wx=>anaFin X0 np nt nc no c v wx)
 case first=>
  refine wp_region_inv (rs:= [0,1,2,3,4,5,6,7,8,9,10,11,12,13,14,15,16,17]) (ms:= [0,1,3,7,0,16,48,0,128,496,0,1024,4080,0,8192,32767,0,131071]) (ds:= [(0,18),(1,19),(2,20),(3,21),(4,22),(5,23),(6,24),(7,25),(8,26),(9,27),(10,28),(11,29),(12,30),(13,31),(14,32),(15,33),(16,6)]) (LastI X0.drew 17 16 (anaPhi X0 g1 Ap At Ac Ao np cp nt ct nc cc no oc st c) (anaFin X0 np nt nc no c)) mixed_ok (by kernel_rfl) LastI.start ⟨?s0,?s1,?s2,?s3,?s4,?s5,?s6,?s7,?s8,?s9,?s10,?s11,?s12,?s13,?s14,?s15,?s16,?s17,trivial⟩ ?e
  case s0=>
   intro L vals V9 hLi hL hI
   obtain ⟨hB9,hP9⟩:=hI.pre (hI.early (i:=0) (by decide) hLi)
   have hB9:Below X0.heap.size X0 V9:=undrew9 hB9
   have HI:=hide (And.intro hI hB9)
   clear hI hB9 hP9 hL
   refine wpOp_of_list rfl ?_
   rw [ana_act1]
   go_wp2
   exact ⟨by trivial,HI.out.1.step anaPhi_keeps (i:=0) (by decide) hLi (v:= .pointer (some ⟨g1,0,none⟩)) rfl (RB9.refl V9) rfl⟩
  case s1=>
   intro L vals V9 hLi hL hI
   obtain ⟨hB9,hP9⟩:=hI.pre (hI.early (i:=1) (by decide) hLi)
   have hB9:Below X0.heap.size X0 V9:=undrew9 hB9
   have hv0:vals 0= .pointer (some ⟨g1,0,none⟩):=hP9 0 (by decide) (hL 0 rfl)
   have z9:V9.cell? ⟨g1,0,none⟩=some (.slice Ap np cp):=(hB9.cell (p:=⟨g1,0,none⟩) H0.out.1.lt).trans (H0.out.1.cell 0)
   have hl9:g1 < V9.heap.size:=Nat.lt_of_lt_of_le H0.out.1.lt hB9.size
   have HI:=hide (And.intro hI hB9)
   clear hI hB9 hP9 hL
   refine wpOp_of_list rfl ?_
   rw [ana_act1]
   simp only [hv0]
   go_wp2
   exact ⟨by trivial,HI.out.1.step anaPhi_keeps (i:=1) (by decide) hLi (v:= .slice Ap np cp) rfl (RB9.refl V9) rfl⟩
  case s2=>
   intro L vals V9 hLi hL hI
   obtain ⟨hB9,hP9⟩:=hI.pre (hI.early (i:=2) (by decide) hLi)
   have hB9:Below X0.heap.size X0 V9:=undrew9 hB9
   have hv1:vals 1= .slice Ap np cp:=hP9 1 (by decide) (hL 1 rfl)
   have HI:=hide (And.intro hI hB9)
   clear hI hB9 hP9 hL
   refine wpOp_of_list rfl ?_
   rw [ana_act1]
   simp only [hv1]
   go_wp2
   exact ⟨by trivial,HI.out.1.step anaPhi_keeps (i:=2) (by decide) hLi (v:= .int .i64 np) rfl (RB9.refl V9) rfl⟩
  case s3=>
   intro L vals V9 hLi hL hI
   obtain ⟨hB9,hP9⟩:=hI.pre (hI.early (i:=3) (by decide) hLi)
   have hB9:Below X0.heap.size X0 V9:=undrew9 hB9
   have hv2:vals 2= .int .i64 np:=hP9 2 (by decide) (hL 2 rfl)
   have HI:=hide (And.intro hI hB9)
   clear hI hB9 hP9 hL
   refine wpOp_of_list rfl ?_
   rw [ana_act1]
   simp only [hv2]
   have hmk:=HMK.out
   go_wp2
   have hal:Below V9.heap.size V9 (V9.alloc (.cells ((List.replicate np ((0,0,0):Pt)).flatMap encP).toArray 43)):=(Below.refl _ V9).alloc (Nat.le_refl _) _
   exact ⟨by trivial,HI.out.1.step anaPhi_keeps (i:=3) (by decide) hLi (v:= .slice (some ⟨V9.heap.size,0,none⟩) np np) rfl hal ⟨_,_,rfl,(by have h:=own_lits encP_len 43 V9 (List.replicate np ((0,0,0):Pt)) HI.out.2.size (by rw [List.length_replicate];omega);rw [List.length_replicate] at h;exact h)⟩⟩
  case s4=>
   intro L vals V9 hLi hL hI
   obtain ⟨hB9,hP9⟩:=hI.pre (hI.early (i:=4) (by decide) hLi)
   have hB9:Below X0.heap.size X0 V9:=undrew9 hB9
   have HI:=hide (And.intro hI hB9)
   clear hI hB9 hP9 hL
   refine wpOp_of_list rfl ?_
   rw [ana_act1]
   go_wp2
   exact ⟨by trivial,HI.out.1.step anaPhi_keeps (i:=4) (by decide) hLi (v:= .pointer (some ⟨g1,1,none⟩)) rfl (RB9.refl V9) rfl⟩
  case s5=>
   intro L vals V9 hLi hL hI
   obtain ⟨hB9,hP9⟩:=hI.pre (hI.early (i:=5) (by decide) hLi)
   have hB9:Below X0.heap.size X0 V9:=undrew9 hB9
   have hv4:vals 4= .pointer (some ⟨g1,1,none⟩):=hP9 4 (by decide) (hL 4 rfl)
   have z9:V9.cell? ⟨g1,1,none⟩=some (.slice At nt ct):=(hB9.cell (p:=⟨g1,1,none⟩) H0.out.1.lt).trans (H0.out.1.cell 1)
   have hl9:g1 < V9.heap.size:=Nat.lt_of_lt_of_le H0.out.1.lt hB9.size
   have HI:=hide (And.intro hI hB9)
   clear hI hB9 hP9 hL
   refine wpOp_of_list rfl ?_
   rw [ana_act1]
   simp only [hv4]
   go_wp2
   exact ⟨by trivial,HI.out.1.step anaPhi_keeps (i:=5) (by decide) hLi (v:= .slice At nt ct) rfl (RB9.refl V9) rfl⟩
  case s6=>
   intro L vals V9 hLi hL hI
   obtain ⟨hB9,hP9⟩:=hI.pre (hI.early (i:=6) (by decide) hLi)
   have hB9:Below X0.heap.size X0 V9:=undrew9 hB9
   have hv5:vals 5= .slice At nt ct:=hP9 5 (by decide) (hL 5 rfl)
   have HI:=hide (And.intro hI hB9)
   clear hI hB9 hP9 hL
   refine wpOp_of_list rfl ?_
   rw [ana_act1]
   simp only [hv5]
   go_wp2_with fail
   refine (HK.out.2.1 V9 (H0.out.2.2.2.1.trans (HI.out.2.mono H0.out.2.2.2.1.size))).mono ?_
   rintro e W1 ⟨v1,rfl,ho,hB⟩
   obtain ⟨B9,b9,rfl⟩:=ho.form
   go_wp2_with fail
   exact ⟨by trivial,HI.out.1.step anaPhi_keeps (i:=6) (by decide) hLi (v:= .slice B9 nt b9) rfl hB ⟨_,_,rfl,ho.base_le HI.out.2.size⟩⟩
  case s7=>
   intro L vals V9 hLi hL hI
   obtain ⟨hB9,hP9⟩:=hI.pre (hI.early (i:=7) (by decide) hLi)
   have hB9:Below X0.heap.size X0 V9:=undrew9 hB9
   have HI:=hide (And.intro hI hB9)
   clear hI hB9 hP9 hL
   refine wpOp_of_list rfl ?_
   rw [ana_act1]
   go_wp2
   exact ⟨by trivial,HI.out.1.step anaPhi_keeps (i:=7) (by decide) hLi (v:= .pointer (some ⟨g1,2,none⟩)) rfl (RB9.refl V9) rfl⟩
  case s8=>
   intro L vals V9 hLi hL hI
   obtain ⟨hB9,hP9⟩:=hI.pre (hI.early (i:=8) (by decide) hLi)
   have hB9:Below X0.heap.size X0 V9:=undrew9 hB9
   have hv7:vals 7= .pointer (some ⟨g1,2,none⟩):=hP9 7 (by decide) (hL 7 rfl)
   have z9:V9.cell? ⟨g1,2,none⟩=some (.slice Ac nc cc):=(hB9.cell (p:=⟨g1,2,none⟩) H0.out.1.lt).trans (H0.out.1.cell 2)
   have hl9:g1 < V9.heap.size:=Nat.lt_of_lt_of_le H0.out.1.lt hB9.size
   have HI:=hide (And.intro hI hB9)
   clear hI hB9 hP9 hL
   refine wpOp_of_list rfl ?_
   rw [ana_act1]
   simp only [hv7]
   go_wp2
   exact ⟨by trivial,HI.out.1.step anaPhi_keeps (i:=8) (by decide) hLi (v:= .slice Ac nc cc) rfl (RB9.refl V9) rfl⟩
  case s9=>
   intro L vals V9 hLi hL hI
   obtain ⟨hB9,hP9⟩:=hI.pre (hI.early (i:=9) (by decide) hLi)
   have hB9:Below X0.heap.size X0 V9:=undrew9 hB9
   have hv8:vals 8= .slice Ac nc cc:=hP9 8 (by decide) (hL 8 rfl)
   have HI:=hide (And.intro hI hB9)
   clear hI hB9 hP9 hL
   refine wpOp_of_list rfl ?_
   rw [ana_act1]
   simp only [hv8]
   go_wp2_with fail
   refine (HK.out.2.2.1 V9 (H0.out.2.2.2.1.trans (HI.out.2.mono H0.out.2.2.2.1.size))).mono ?_
   rintro e W1 ⟨v1,rfl,ho,hB⟩
   obtain ⟨B9,b9,rfl⟩:=ho.form
   go_wp2_with fail
   exact ⟨by trivial,HI.out.1.step anaPhi_keeps (i:=9) (by decide) hLi (v:= .slice B9 nc b9) rfl hB ⟨_,_,rfl,ho.base_le HI.out.2.size⟩⟩
  case s10=>
   intro L vals V9 hLi hL hI
   obtain ⟨hB9,hP9⟩:=hI.pre (hI.early (i:=10) (by decide) hLi)
   have hB9:Below X0.heap.size X0 V9:=undrew9 hB9
   have HI:=hide (And.intro hI hB9)
   clear hI hB9 hP9 hL
   refine wpOp_of_list rfl ?_
   rw [ana_act1]
   go_wp2
   exact ⟨by trivial,HI.out.1.step anaPhi_keeps (i:=10) (by decide) hLi (v:= .pointer (some ⟨g1,3,none⟩)) rfl (RB9.refl V9) rfl⟩
  case s11=>
   intro L vals V9 hLi hL hI
   obtain ⟨hB9,hP9⟩:=hI.pre (hI.early (i:=11) (by decide) hLi)
   have hB9:Below X0.heap.size X0 V9:=undrew9 hB9
   have hv10:vals 10= .pointer (some ⟨g1,3,none⟩):=hP9 10 (by decide) (hL 10 rfl)
   have z9:V9.cell? ⟨g1,3,none⟩=some (.slice Ao no oc):=(hB9.cell (p:=⟨g1,3,none⟩) H0.out.1.lt).trans (H0.out.1.cell 3)
   have hl9:g1 < V9.heap.size:=Nat.lt_of_lt_of_le H0.out.1.lt hB9.size
   have HI:=hide (And.intro hI hB9)
   clear hI hB9 hP9 hL
   refine wpOp_of_list rfl ?_
   rw [ana_act1]
   simp only [hv10]
   go_wp2
   exact ⟨by trivial,HI.out.1.step anaPhi_keeps (i:=11) (by decide) hLi (v:= .slice Ao no oc) rfl (RB9.refl V9) rfl⟩
  case s12=>
   intro L vals V9 hLi hL hI
   obtain ⟨hB9,hP9⟩:=hI.pre (hI.early (i:=12) (by decide) hLi)
   have hB9:Below X0.heap.size X0 V9:=undrew9 hB9
   have hv11:vals 11= .slice Ao no oc:=hP9 11 (by decide) (hL 11 rfl)
   have HI:=hide (And.intro hI hB9)
   clear hI hB9 hP9 hL
   refine wpOp_of_list rfl ?_
   rw [ana_act1]
   simp only [hv11]
   go_wp2_with fail
   refine (HK.out.2.2.2 V9 (H0.out.2.2.2.1.trans (HI.out.2.mono H0.out.2.2.2.1.size))).mono ?_
   rintro e W1 ⟨v1,rfl,ho,hB⟩
   obtain ⟨B9,b9,rfl⟩:=ho.form
   go_wp2_with fail
   exact ⟨by trivial,HI.out.1.step anaPhi_keeps (i:=12) (by decide) hLi (v:= .slice B9 no b9) rfl hB ⟨_,_,rfl,ho.base_le HI.out.2.size⟩⟩
  case s13=>
   intro L vals V9 hLi hL hI
   obtain ⟨hB9,hP9⟩:=hI.pre (hI.early (i:=13) (by decide) hLi)
   have hB9:Below X0.heap.size X0 V9:=undrew9 hB9
   have HI:=hide (And.intro hI hB9)
   clear hI hB9 hP9 hL
   refine wpOp_of_list rfl ?_
   rw [ana_act1]
   go_wp2
   exact ⟨by trivial,HI.out.1.step anaPhi_keeps (i:=13) (by decide) hLi (v:= .pointer (some ⟨g1,4,none⟩)) rfl (RB9.refl V9) rfl⟩
  case s14=>
   intro L vals V9 hLi hL hI
   obtain ⟨hB9,hP9⟩:=hI.pre (hI.early (i:=14) (by decide) hLi)
   have hB9:Below X0.heap.size X0 V9:=undrew9 hB9
   have hv13:vals 13= .pointer (some ⟨g1,4,none⟩):=hP9 13 (by decide) (hL 13 rfl)
   have z9:V9.cell? ⟨g1,4,none⟩=some (.int .i64 st):=(hB9.cell (p:=⟨g1,4,none⟩) H0.out.1.lt).trans (H0.out.1.cell 4)
   have hl9:g1 < V9.heap.size:=Nat.lt_of_lt_of_le H0.out.1.lt hB9.size
   have HI:=hide (And.intro hI hB9)
   clear hI hB9 hP9 hL
   refine wpOp_of_list rfl ?_
   rw [ana_act1]
   simp only [hv13]
   go_wp2
   exact ⟨by trivial,HI.out.1.step anaPhi_keeps (i:=14) (by decide) hLi (v:= .int .i64 st) rfl (RB9.refl V9) rfl⟩
  case s15=>
   intro L vals V9 hLi hL hI
   obtain ⟨hB9,hP9⟩:=hI.pre (hI.early (i:=15) (by decide) hLi)
   have hB9:Below X0.heap.size X0 V9:=undrew9 hB9
   obtain ⟨B0,b0,hv3,ho0⟩:=hP9 3 (by decide) (hL 3 rfl)
   obtain ⟨B1,b1,hv6,ho1⟩:=hP9 6 (by decide) (hL 6 rfl)
   obtain ⟨B2,b2,hv9,ho2⟩:=hP9 9 (by decide) (hL 9 rfl)
   obtain ⟨B3,b3,hv12,ho3⟩:=hP9 12 (by decide) (hL 12 rfl)
   have hv14:vals 14= .int .i64 st:=hP9 14 (by decide) (hL 14 rfl)
   have HO:=hide (And.intro ho0 (And.intro ho1 (And.intro ho2 ho3)))
   clear ho0 ho1 ho2 ho3
   have HI:=hide (And.intro hI hB9)
   clear hI hB9 hP9 hL
   refine wpOp_of_list rfl ?_
   rw [ana_act1]
   simp only [hv3,hv6,hv9,hv12,hv14]
   go_wp2
   exact ⟨by trivial,HI.out.1.step anaPhi_keeps (i:=15) (by decide) hLi (v:= .agg (cMad (.slice B0 np b0) (.slice B1 nt b1) (.slice B2 nc b2) (.slice B3 no b3) st (.slice none 0 0))) rfl (RB9.refl V9) ⟨_,_,_,_,_,_,_,_,rfl,HO.out.1,HO.out.2.1,HO.out.2.2.1,HO.out.2.2.2⟩⟩
  case s16=>
   intro L vals V9 hLi hL hI
   obtain ⟨hB9,hP9⟩:=hI.pre (hI.early (i:=16) (by decide) hLi)
   have hB9:Below X0.heap.size X0 V9:=undrew9 hB9
   have HI:=hide (And.intro hI hB9)
   clear hI hB9 hP9 hL
   refine wpOp_of_list rfl ?_
   rw [ana_act1]
   go_wp2
   exact ⟨by trivial,HI.out.1.step anaPhi_keeps (i:=16) (by decide) hLi (v:= .pointer (some ⟨V9.heap.size,0,none⟩)) rfl (show Below V9.heap.size V9 _ from (Below.refl _ V9).alloc (Nat.le_refl _) _) ⟨_,rfl,HI.out.2.size,Blk.new _ _ _⟩⟩
  case s17=>
   intro L vals V9 hLi hL hI
   cases hn:L 17 with
   | true=>(rw [hn] at hLi;cases hLi)
   | false=>
   obtain ⟨hB9,hP9⟩:=hI.pre hn
   have hB9:Below X0.heap.size X0 V9:=undrew9 hB9
   have hall:∀j,j < 17→L j=true:=fun j hj=>hL j ((by decide:∀j,j < 17→bitAt [0,1,3,7,0,16,48,0,128,496,0,1024,4080,0,8192,32767,0,131071] 17 j=true) j hj)
   obtain ⟨B0,b0,B1,b1,B2,b2,B3,b3,hv15,ho0,ho1,ho2,ho3⟩:=hP9 15 (by decide) (hall 15 (by decide))
   obtain ⟨g6,hv16,hg6,hb6⟩:=hP9 16 (by decide) (hall 16 (by decide))
   obtain ⟨k0,k1,k2,k3,k4,k5⟩:=hb6.six9
   have hl6:=hb6.lt
   have f0:=hb6.frozen 0
   have f1:=hb6.frozen 1
   have f2:=hb6.frozen 2
   have f3:=hb6.frozen 3
   have f4:=hb6.frozen 4
   have f5:=hb6.frozen 5
   have HQ:=hide (And.intro ho0 (And.intro ho1 (And.intro ho2 (And.intro ho3 (And.intro hb6 (And.intro hg6 (And.intro hB9 hall)))))))
   have HV16:=hide hv16
   clear ho0 ho1 ho2 ho3 hb6 hg6 hB9 hall hI hP9 hL
   refine wpOp_of_list rfl ?_
   rw [ana_act1]
   simp only [hv15,hv16]
   go_wp2
   refine ⟨by trivial,LastI.last HQ.out.2.2.2.2.2.2.2 (by decide) ⟨g6,B0,b0,B1,b1,B2,b2,B3,b3,HV16.out,?_⟩⟩
   exact anaFin_of HQ.out.2.2.2.2.2.2.1 HN.out.1 HN.out.2.1 HN.out.2.2.1 HN.out.2.2.2.1 HN.out.2.2.2.2.2.1 HQ.out.2.2.2.2.2.1 HQ.out.2.2.2.2.1 HQ.out.1 HQ.out.2.1 HQ.out.2.2.1 HQ.out.2.2.2.1
  case e=>
   intro LL vals V9 hL hI
   have hF:=hI.fin (hL 17 (by decide))
   rw [ana_act1]
   obtain ⟨g6,B0,b0,B1,b1,B2,b2,B3,b3,hv16,hE⟩:=hF
   simp only [hv16]
   have HE:=hide hE
   clear hI hL hE hv16
   go_wp2_with fail
   go_meet
   case rel=>exact ⟨g6,B0,b0,B1,b1,B2,b2,B3,b3,rfl,HE.out⟩
 case rest=>
  obtain ⟨g6,B0,b0,B1,b1,B2,b2,B3,b3,rfl,hE1⟩:=hcut
  obtain ⟨X1,rfl⟩:∃x,x=wc:=⟨_,rfl⟩
  clear HMK
  have hb6:Blk X1 g6 32 (cMad (.slice B0 np b0) (.slice B1 nt b1) (.slice B2 nc b2) (.slice B3 no b3) st (.slice none 0 0)):=by rw [HN.out.2.2.2.2.2.1];exact hE1.b
  obtain ⟨k0,k1,k2,k3,k4,k5⟩:=hb6.six9
  have hl6:=hb6.lt
  clear hb6
  have HE1:=hide hE1
  clear hE1
  go_upto_region 3 with (go_at_call 40;refine (HK.out.1 B0 B1 B2 B3 b0 b1 b2 b3 X1 HE1.out.ctlM).mono ?_;rintro e X2 ⟨rfl,hB⟩;have HE2:=hide (HE1.out.below hB);clear hB)
  clear k0 k1 k2 k3 k4 k5 hl6 HE1 HK
  have hX2:=HE2.out.bel
  have hBw:Below w.heap.size w X2:=H0.out.2.2.2.1.trans (hX2.mono H0.out.2.2.2.1.size)
  have hz1:=H0.out.1.below hX2 H0.out.1.lt
  have hz2:=H0.out.2.1.below hX2 H0.out.2.1.lt
  have hz3:=H0.out.2.2.1.below hX2 H0.out.2.2.1.lt
  have H2:=hide (And.intro hBw (And.intro hz1 (And.intro hz2 hz3)))
  clear hX2 hBw hz1 hz2 hz3
  by_cases herr:er=0
  ·skip
   subst herr
   have hst:=HN.out.2.2.2.2.2.1
   have her:errC (anaZ c)=0:=HN.out.2.2.2.2.2.2.2.2.2.symm
   have hRZ:=right_of her
   have hstb:0≤c.steps∧c.steps≤4:=hRZ.st
   obtain ⟨sn,hsn⟩:∃n:Nat,st=n:=⟨c.steps.toNat,by omega⟩
   subst hsn
   have hsn':c.steps.toNat=sn:=by omega
   have hs4:sn≤4:=by omega
   have hN:=HM.out.2.2.2.2.2.1 her
   have hbZ:CtlB (anaZ c):=⟨by simpa [anaZ] using HM.out.2.1.p,HM.out.2.1.t,HM.out.2.1.cr,HM.out.2.1.o,by simp [anaZ],by simp [anaZ]⟩
   have hmb:∀k,k≤sn→(anaMany c k).1≤1000000∧(anaMany c k).2≤900000:=fun k hk=>by
    have h1:=many_lev (like_zero c) her hN k
    have h2:=level_small hRZ hN hbZ (k:=k) (by show k≤c.steps.toNat;omega)
    have h3:=edgesE_le ((anaZ c).level k).t
    rw [h1]
    exact ⟨h2.p,by have:=h2.t;omega⟩
   obtain ⟨M1,hM1⟩:∃f,f=fun k=>(anaMany c k).1:=⟨_,rfl⟩
   obtain ⟨M2,hM2⟩:∃f,f=fun k=>(anaMany c k).2:=⟨_,rfl⟩
   have hm1:∀k,k≤sn→M1 k≤1000000∧M2 k≤900000:=fun k hk=>by rw [hM1,hM2];exact hmb k hk
   have hm2:∀k,M1 k+M2 k=M1 (k+1)∧4*M2 k=M2 (k+1):=fun k=>by rw [hM1,hM2];exact ⟨rfl,rfl⟩
   have hm0:M1 0=np∧M2 0=3*nt / 2:=by rw [hM1,hM2,HN.out.1,HN.out.2.1];exact ⟨rfl,rfl⟩
   have hme:(anaMany c c.steps.toNat).1=M1 sn:=by rw [hM1,hsn']
   have HMM:=hide (And.intro hm1 (And.intro hm2 (And.intro hm0 hme)))
   have HP:=hide (And.intro her (And.intro hN (And.intro hsn' hstb)))
   clear hst her hRZ hstb hsn' hN hbZ hmb hM1 hM2 hm1 hm2 hm0 hme
   go_upto_region 5 with fail
   have z0:X2.cell? ⟨g1,0,none⟩=some (.slice Ap np cp):=H2.out.2.1.cell 0
   have z1:X2.cell? ⟨g1,1,none⟩=some (.slice At nt ct):=H2.out.2.1.cell 1
   have HZ:=hide (And.intro z0 (And.intro z1 H2.out.2.1.lt))
   clear z0 z1
   obtain ⟨e0,he0⟩:∃n:Nat,n=3*nt / 2:=⟨_,rfl⟩
   obtain ⟨n3,hn3⟩:∃n:Nat,n=3*nt:=⟨_,rfl⟩
   have t1:(3:Int)*(nt:Int)=(n3:Int):=by omega
   have t2:(n3:Int).tdiv 2=(e0:Int):=by rw [Int.tdiv_eq_ediv_of_nonneg (by omega)];omega
   have hn3b:n3≤300000:=by omega
   have he0b:e0≤300000:=by omega
   have HT:=hide (And.intro t1 (And.intro t2 he0))
   clear t1 t2 he0 hn3
   have HSB:=hide (show Below X2.heap.size X2 X2.drew from (Below.refl _ X2).drew)
   refine wp_region_mix (fun W=>Below X2.heap.size X2 W) [0,1,2,3,4,5,6,7] [0,1,2,3,4,5,6,7,8,9] mixed_ok (by kernel_rfl) ?_
   refine wpMix_q (v:=(.pointer (some ⟨g1,0,none⟩))) rfl rfl (fun _ _ _ h=>h) HSB.out ⟨rfl,fun _ _=>by simp [go_sem]⟩ ?_
   refine wpMix_q (v:=(.slice Ap np cp)) rfl rfl (fun _ _ _ h=>h) HSB.out ⟨rfl,fun _ h'=>by have a0:=(h'.cell (p:=⟨g1,0,none⟩) HZ.out.2.2).trans HZ.out.1;simp [go_sem,a0]⟩ ?_
   refine wpMix_q (v:=(.int .i64 np)) rfl rfl (fun _ _ _ h=>h) HSB.out ⟨rfl,fun _ _=>by simp [go_sem]⟩ ?_
   refine wpMix_q (v:=(.pointer (some ⟨g1,1,none⟩))) rfl rfl (fun _ _ _ h=>h) HSB.out ⟨rfl,fun _ _=>by simp [go_sem]⟩ ?_
   refine wpMix_q (v:=(.slice At nt ct)) rfl rfl (fun _ _ _ h=>h) HSB.out ⟨rfl,fun _ h'=>by have a0:=(h'.cell (p:=⟨g1,1,none⟩) HZ.out.2.2).trans HZ.out.2.1;simp [go_sem,a0]⟩ ?_
   simp only [List.getElem_toArray,List.getElem_cons_succ,List.getElem_cons_zero,Act.put,List.setIfInBounds_toArray,List.set_cons_succ,List.set_cons_zero]
   refine wpMix_q (v:=(.int .i64 nt)) rfl rfl (fun _ _ _ h=>h) HSB.out ⟨rfl,fun _ _=>by simp [go_sem]⟩ ?_
   refine wpMix_q (v:=(.int .i64 n3)) rfl rfl (fun _ _ _ h=>h) HSB.out ⟨rfl,fun _ _=>by have w1:IntKind.i64.wrap (n3:Int)=n3:=IntWalk.i64_in _ (by omega);simp [go_sem,HT.out.1,w1]⟩ ?_
   refine wpMix_q (v:=(.int .i64 e0)) rfl rfl (fun _ _ _ h=>h) HSB.out ⟨rfl,fun _ _=>by have w1:IntKind.i64.wrap (e0:Int)=e0:=IntWalk.i64_in _ (by omega);simp [go_sem,HT.out.2.1,w1]⟩ ?_
   simp only [List.getElem_toArray,List.getElem_cons_succ,List.getElem_cons_zero,Act.put,List.setIfInBounds_toArray,List.set_cons_succ,List.set_cons_zero]
   refine wpMix_n rfl rfl ?_
   go_wp2_with fail
   refine ⟨fun _=>HSB.out,?_⟩
   refine wpMix_n rfl rfl ?_
   go_wp2_with fail
   refine ⟨fun h=>absurd (h.symm.trans (show _=false by kernel_rfl)) (by simp),?_⟩
   refine wpMix_nil ?_
   obtain ⟨X3,hX3⟩:∃W,W=X2.drew:=⟨_,rfl⟩
   rw [←hX3]
   have hB3:Below X2.heap.size X2 X3:=by rw [hX3];exact HSB.out
   have hE3:=HE2.out.below hB3
   have h3w:=H2.out.1.trans (hB3.mono H2.out.1.size)
   have h31:=H2.out.2.1.below hB3 H2.out.2.1.lt
   have h32:=H2.out.2.2.1.below hB3 H2.out.2.2.1.lt
   have h33:=H2.out.2.2.2.below hB3 H2.out.2.2.2.lt
   have z4:X3.cell? ⟨g1,4,none⟩=some (.int .i64 sn):=h31.cell 4
   have hg1l:=h31.lt
   have H3:=hide (And.intro h3w (And.intro h31 (And.intro h32 (And.intro h33 hE3))))
   clear hB3 hE3 h3w h31 h32 h33 hX3 HSB HZ H2 HE2
   rw [show e0=M2 0 by rw [HMM.out.2.2.1.2,HT.out.2.2],show np=M1 0 from HMM.out.2.2.1.1.symm]
   obtain ⟨m10,hm10⟩:∃n,n=M1 0:=⟨_,rfl⟩
   obtain ⟨m20,hm20⟩:∃n,n=M2 0:=⟨_,rfl⟩
   rw [←hm10,←hm20]
   have HM0:=hide (And.intro hm10 hm20)
   clear hm10 hm20
   go_upto_region 7 with fail
   go_loopw [8,9,50] (fun av bv kv wr=>∃k:Nat,k≤sn∧kv= .int .i64 k∧av= .int .i64 (M1 k)∧bv= .int .i64 (M2 k)∧wr=X3) (fun _ _ kv _=>sn - (intOf kv).toNat)
   case atStart=>exact ⟨0,by omega,rfl,by rw [HM0.out.1],by rw [HM0.out.2],rfl⟩
   case round=>
    obtain ⟨k,hk,rfl,rfl,rfl,hwr⟩:=hrel
    obtain rfl:X3=wr:=hwr.symm
    by_cases hlt:k < sn
    ·have k1:(k:Int) < (sn:Int):=by omega
     obtain ⟨hb1,hb2⟩:=HMM.out.1 k hk
     obtain ⟨hb3,hb4⟩:=HMM.out.1 (k+1) (by omega)
     obtain ⟨hs1,hs2⟩:=HMM.out.2.1 k
     obtain ⟨a,ha⟩:∃n,n=M1 k:=⟨_,rfl⟩
     obtain ⟨b,hb⟩:∃n,n=M2 k:=⟨_,rfl⟩
     obtain ⟨a',ha'⟩:∃n,n=M1 (k+1):=⟨_,rfl⟩
     obtain ⟨b',hb'⟩:∃n,n=M2 (k+1):=⟨_,rfl⟩
     rw [←ha] at hb1 hs1⊢
     rw [←hb] at hb2 hs1 hs2⊢
     rw [←ha'] at hb3 hs1
     rw [←hb'] at hb4 hs2
     have s1:(a:Int)+(b:Int)=(a':Int):=by omega
     have s2:(4:Int)*(b:Int)=(b':Int):=by omega
     have HA:=hide (And.intro ha' hb')
     clear ha hb ha' hb' hs1 hs2
     go_wp2
     go_roundw
     case rel=>exact ⟨k+1,by omega,by go_num,by rw [HA.out.1],by rw [HA.out.2],by first | rfl | trivial⟩
     case measure=>(simp [intOf];try omega)
    ·obtain rfl:sn=k:=by omega
     have k1:¬(sn:Int) < (sn:Int):=by omega
     have hb1:=(HMM.out.1 sn (Nat.le_refl _)).1
     obtain ⟨m,hm⟩:∃n,n=M1 sn:=⟨_,rfl⟩
     rw [←hm] at hb1⊢
     have HMS:=hide (show m=(anaMany c c.steps.toNat).1 by rw [hm,HMM.out.2.2.2])
     clear hm z4 hg1l HM0 HT
     have zf:X3.cell? ⟨g2,0,none⟩=some (.slice Af fl cf):=H3.out.2.2.1.cell 0
     have hg2l:=H3.out.2.2.1.lt
     by_cases hlen:fl=m
     ·subst hlen
      have i0:((fl:Int) !=(fl:Int))=false:=by simp
      go_upto_region 12 with fail
      clear zf hg2l i0 k1
      go_upto_region 14 with fail
      obtain ⟨gw,hgw⟩:∃g,g=X3.heap.size:=⟨_,rfl⟩
      obtain ⟨gf,hgf⟩:∃g,g=X3.heap.size+1:=⟨_,rfl⟩
      obtain ⟨Y0,hY0⟩:∃W,W=(X3.alloc (.cells #[.bool true] 4)).alloc (.cells #[.func (.func 58) #[] #[.pointer (some ⟨X3.heap.size,0,none⟩)]] 106):=⟨_,rfl⟩
      have hBY:Below X3.heap.size X3 Y0:=by rw [hY0];exact ((Below.refl _ X3).alloc (Nat.le_refl _) _).alloc (by simp) _
      have hbw:Blk Y0 gw 4 #[.bool true]:=by rw [hY0,hgw];exact (Blk.new _ _ _).alloc _
      have hbf:Blk Y0 gf 106 #[.func (.func 58) #[] #[.pointer (some ⟨gw,0,none⟩)]]:=by rw [hY0,hgf,hgw];exact Blk.new' _ _ _ _ (by simp)
      rw [←hY0,←hgf,←hgw]
      have hEY:=H3.out.2.2.2.2.below hBY
      have hYw:=H3.out.1.trans (hBY.mono H3.out.1.size)
      have hxw:X0.heap.size≤gw:=by rw [hgw];exact H3.out.2.2.2.2.bel.size
      have hxf:X0.heap.size≤gf:=by rw [hgf];have:=H3.out.2.2.2.2.bel.size;omega
      have hnpf:np≤fl:=by
       have h:=many_le c 0 c.steps.toNat
       rw [Nat.zero_add,←HMS.out] at h
       rw [HN.out.1]
       exact h
      have hapl:(anaPts c fine).length=c.points.length:=ana_pts_len HP.out.1 HP.out.2.1 (by rw [←HN.out.2.2.2.2.2.2.1];exact HMS.out)
      have HY:=hide (And.intro hEY (And.intro hbw (And.intro hbf (And.intro hYw (And.intro hxw (And.intro hxf (And.intro hnpf hapl)))))))
      obtain ⟨z60,z61,z62,z63,z64,z65⟩:=hEY.b.six9
      have hl6:=hEY.b.lt
      clear hEY hYw hxw hxf hnpf hapl hbw hbf hBY hY0 hgw hgf z64 z65 H3
      go_upto_region 15 with fail
      clear z60 z61 z62 z63 hl6
      go_loopw [67] (fun iv wr=>∃i:Nat,i≤np∧iv= .int .i64 i∧CtE X0 wr g6 (.slice B0 np b0) (.slice B1 nt b1) (.slice B2 nc b2) (.slice B3 no b3) (.slice none 0 0) (ptsC c fine i)∧Blk wr gw 4 #[.bool (wholeP c fine i)]∧Blk wr gf 106 #[.func (.func 58) #[] #[.pointer (some ⟨gw,0,none⟩)]]) (fun iv _=>np - (intOf iv).toNat)
      case atStart=>exact ⟨0,by omega,rfl,by rw [ptsC_zero];exact HY.out.1,by rw [wholeP_zero];exact HY.out.2.1,HY.out.2.2.1⟩
      case round=>
       obtain ⟨i,hi,rfl,hE,hw,hfn⟩:=hrel
       obtain ⟨V,rfl⟩:∃x,x=wr:=⟨_,rfl⟩
       have hBV:=H0.out.2.2.2.1.trans (hE.bel.mono H0.out.2.2.2.1.size)
       have h1V:=H0.out.1.below hE.bel H0.out.1.lt
       have h2V:=H0.out.2.1.below hE.bel H0.out.2.1.lt
       by_cases hlt:i < np
       ·have i1:(i:Int) < (np:Int):=by omega
        have hnpf:=HY.out.2.2.2.2.2.2.1
        have i2:(i:Int) < (fl:Int):=by omega
        obtain ⟨f,hx⟩:∃f,fine[i]? =some f:=⟨_,List.getElem?_eq_getElem (by rw [←HN.out.2.2.2.2.2.2.1];omega)⟩
        obtain ⟨bf,of,hAf,hbf,d0,d1,d2⟩:=HM.out.2.2.2.1.pt9 hx
        subst hAf
        have hPx:=pts_at (c:=c) (by rw [←HN.out.1];exact hlt) hx
        have hWx:=wholeP_succ (c:=c) hx
        rw [HP.out.2.2.1] at hPx hWx
        have kd:=fun (b:Bool) (W:World) (hW:Blk W gw 4 #[.bool b])=>divided_any f sn hs4 (HM.out.2.2.2.2.1 f (List.mem_of_getElem? hx)) b gw W hW
        obtain ⟨OV,hOV⟩:∃v,v=overP f (16^sn):=⟨_,rfl⟩
        obtain ⟨ok,hok⟩:∃v,v=overB f (16^sn):=⟨_,rfl⟩
        obtain ⟨b,hbb⟩:∃v,v=wholeP c fine i:=⟨_,rfl⟩
        simp only [←hOV,←hok] at kd
        rw [←hOV] at hPx
        rw [←hok,←hbb] at hWx
        rw [←hbb] at hw
        have hset:=ptsC_set HY.out.2.2.2.2.2.2.2 (by rw [←HN.out.1];exact hlt) hPx
        have hlen:=ptsC_len HY.out.2.2.2.2.2.2.2 (i:=i) (by rw [←HN.out.1];exact hi)
        obtain ⟨o1,o2,o3⟩:=OV
        obtain ⟨f1,f2,f3⟩:=f
        try simp only at d0 d1 d2
        have hP0:Own encP 3 43 V X0.heap.size (.slice B0 np b0) np (ptsC c fine i).points:=by
         have h:=hE.p
         rw [hlen,←HN.out.1] at h
         exact h
        obtain ⟨gp,cur,hA,hge,hbT,hcap⟩:=own_some hP0 (by omega)
        subst hA
        obtain ⟨y,hy⟩:∃y,(ptsC c fine i).points[i]? =some y:=⟨_,List.getElem?_eq_getElem (by rw [hlen,←HN.out.1];exact hlt)⟩
        have n6:some g6≠some gw:=fun e=>blk_ne9 hE.b hw (by decide) (Option.some.inj e)
        have nf:some gf≠some gw:=fun e=>blk_ne9 hfn hw (by decide) (Option.some.inj e)
        have n2:some g2≠some gw:=fun e=>blk_ne9 h2V hw (by decide) (Option.some.inj e)
        have n1:some g1≠some gw:=fun e=>blk_ne9 h1V hw (by decide) (Option.some.inj e)
        have np9:some gp≠some gw:=fun e=>blk_ne9 hbT hw (by decide) (Option.some.inj e)
        have hxw:=HY.out.2.2.2.2.1
        have hX0w:=H0.out.2.2.2.1.size
        have nb:some bf≠some gw:=fun e=>by have:=Option.some.inj e;omega
        have z0:V.cell? ⟨g6,0,none⟩=some (.slice (some ⟨gp,0,none⟩) np b0):=hE.b.cell 0
        have z1:V.cell? ⟨gf,0,none⟩=some (.func (.func 58) #[] #[.pointer (some ⟨gw,0,none⟩)]):=hfn.cell 0
        have z2:V.cell? ⟨g2,0,none⟩=some (.slice (some ⟨bf,of,none⟩) fl cf):=h2V.cell 0
        have z3:=(hBV.cell (p:=⟨bf,of+i*3,none⟩) hbf).trans d0
        have z4:=(hBV.cell (p:=⟨bf,of+i*3+1,none⟩) hbf).trans d1
        have z5:=(hBV.cell (p:=⟨bf,of+i*3+2,none⟩) hbf).trans d2
        have z6:V.cell? ⟨g1,4,none⟩=some (.int .i64 sn):=h1V.cell 4
        have HC:=hide (And.intro z0 (And.intro z1 (And.intro z2 (And.intro z3 (And.intro z4 (And.intro z5 z6))))))
        have HNE:=hide (And.intro n6 (And.intro nf (And.intro n2 (And.intro nb (And.intro n1 np9)))))
        have HV:=hide (And.intro hE (And.intro hw (And.intro hfn (And.intro kd (And.intro hset (And.intro hlen (And.intro hWx (And.intro hP0 (And.intro hy (And.intro hbT hxw))))))))))
        clear hE hw hfn kd hset hlen hWx hPx hP0 hy hbT z0 z1 z2 z3 z4 z5 z6 n6 nf n2 nb n1 np9 hx hbf d0 d1 d2 hOV hok hbb hBV h1V h2V hge hcap hxw hX0w hnpf
        go_upto_region 17 with fail
        have HSB:=hide (show V.grownBy V.drew (some gw) from grown_bel9 (Below.refl _ V).drew (some gw))
        refine wp_region_mix (fun W=>V.grownBy W (some gw)) [0,1,2,3,4,5,6,7,8,9,11] [0,1,2,3,4,5,6,7,8,9,10,11,12] mixed_ok (by kernel_rfl) ?_
        refine wpMix_q (v:=(.pointer (some ⟨g6,0,none⟩))) rfl rfl (fun _ _ _ h=>h) HSB.out ⟨rfl,fun _ _=>by simp [go_sem]⟩ ?_
        refine wpMix_q (v:=(.slice (some ⟨gp,0,none⟩) np b0)) rfl rfl (fun _ _ _ h=>h) HSB.out ⟨rfl,fun _ h'=>by have a0:=World.grownBy.cell h' HC.out.1 HNE.out.1;simp [go_sem,a0]⟩ ?_
        refine wpMix_q (v:=(.int .i64 i)) rfl rfl (fun _ _ _ h=>h) HSB.out ⟨rfl,fun _ _=>by simp [go_sem]⟩ ?_
        refine wpMix_q (v:=(.func (.func 58) #[] #[.pointer (some ⟨gw,0,none⟩)])) rfl rfl (fun _ _ _ h=>h) HSB.out ⟨rfl,fun _ h'=>by have a0:=World.grownBy.cell h' HC.out.2.1 HNE.out.2.1;simp [go_sem,a0]⟩ ?_
        refine wpMix_q (v:=(.slice (some ⟨bf,of,none⟩) fl cf)) rfl rfl (fun _ _ _ h=>h) HSB.out ⟨rfl,fun _ h'=>by have a0:=World.grownBy.cell h' HC.out.2.2.1 HNE.out.2.2.1;simp [go_sem,a0]⟩ ?_
        simp only [List.getElem_toArray,List.getElem_cons_succ,List.getElem_cons_zero,Act.put,List.setIfInBounds_toArray,List.set_cons_succ,List.set_cons_zero]
        refine wpMix_q (v:=(.int .i64 i)) rfl rfl (fun _ _ _ h=>h) HSB.out ⟨rfl,fun _ _=>by simp [go_sem]⟩ ?_
        refine wpMix_q (v:=(.pointer (some ⟨bf,of+i*3,none⟩))) rfl rfl (fun _ _ _ h=>h) HSB.out ⟨rfl,fun _ _=>by simp [go_sem,i2]⟩ ?_
        refine wpMix_q (v:=(.agg #[.int .i64 f1, .int .i64 f2, .int .i64 f3])) rfl rfl (fun _ _ _ h=>h) HSB.out ⟨rfl,fun _ h'=>by have a0:=World.grownBy.cell h' HC.out.2.2.2.1 HNE.out.2.2.2.1;have a1:=World.grownBy.cell h' HC.out.2.2.2.2.1 HNE.out.2.2.2.1;have a2:=World.grownBy.cell h' HC.out.2.2.2.2.2.1 HNE.out.2.2.2.1;simp [go_sem,a0,a1,a2]⟩ ?_
        refine wpMix_q (v:=(.pointer (some ⟨g1,4,none⟩))) rfl rfl (fun _ _ _ h=>h) HSB.out ⟨rfl,fun _ _=>by simp [go_sem]⟩ ?_
        refine wpMix_q (v:=(.int .i64 sn)) rfl rfl (fun _ _ _ h=>h) HSB.out ⟨rfl,fun _ h'=>by have a0:=World.grownBy.cell h' HC.out.2.2.2.2.2.2 HNE.out.2.2.2.2.1;simp [go_sem,a0]⟩ ?_
        simp only [List.getElem_toArray,List.getElem_cons_succ,List.getElem_cons_zero,Act.put,List.setIfInBounds_toArray,List.set_cons_succ,List.set_cons_zero]
        refine wpMix_n rfl rfl ?_
        go_wp2_with fail
        refine (HV.out.2.2.2.1 b V.drew HV.out.2.1).mono ?_
        rintro e W2 ⟨rfl,hw2,hg2⟩
        have hg2:V.grownBy W2 (some gw):=⟨hg2.os,hg2.tape,hg2.output,hg2.size,hg2.block⟩
        have hE2:=HV.out.1.off HV.out.2.1 hg2 HV.out.2.2.2.2.2.2.2.2.2.2 (by decide) (by decide) (by decide) (by decide) (by decide) (by decide)
        have hf2:=HV.out.2.2.1.grown hg2 HNE.out.2.1
        have hbT2:=HV.out.2.2.2.2.2.2.2.2.2.1.grown hg2 HNE.out.2.2.2.2.2
        have hP2:=HV.out.2.2.2.2.2.2.2.1.kept hg2 (.inr (fun e=>HNE.out.2.2.2.2.2 e))
        obtain ⟨b',o',hA,hb',y0,y1,y2⟩:=(show Sl encP 3 W2 W2.heap.size (some ⟨gp,0,none⟩) (ptsC c fine i).points from hP2.sl encP_len (Nat.le_refl _)).pt9 HV.out.2.2.2.2.2.2.2.2.1
        cases hA
        rw [Nat.zero_add] at y0 y1 y2
        have hgpl:=hbT2.lt
        have fr0:=hbT2.frozen (i*3)
        have fr1:=hbT2.frozen (i*3+1)
        have fr2:=hbT2.frozen (i*3+2)
        have H9:=hide (And.intro hE2 (And.intro hw2 (And.intro hf2 (And.intro hP2 (And.intro hg2 hbT2)))))
        clear hE2 hw2 hf2 hP2 hg2 hbT2 hb'
        go_wp2_with fail
        refine ⟨fun _=>H9.out.2.2.2.2.1,?_⟩
        refine wpMix_q (v:=(.pointer (some ⟨gp,i*3,none⟩))) rfl rfl (fun _ _ _ h=>h) H9.out.2.2.2.2.1 ⟨rfl,fun _ _=>by simp [go_sem,i1]⟩ ?_
        simp only [List.getElem_toArray,List.getElem_cons_succ,List.getElem_cons_zero,Act.put,List.setIfInBounds_toArray,List.set_cons_succ,List.set_cons_zero]
        refine wpMix_tail _ [_] (by kernel_rfl) rfl ?_
        clear HSB
        have hgr:=setW_grown gp (encP ((o1,o2,o3):Pt)) W2 (i*3)
        have h1:=H9.out.2.2.2.1.setW encP_len (i:=i) (by rw [HV.out.2.2.2.2.2.1,←HN.out.1];exact hlt) ((o1,o2,o3):Pt)
        have h2:CtE X0 (setW W2 gp (i*3) (encP ((o1,o2,o3):Pt))) g6 (.slice (some ⟨gp,0,none⟩) np b0) (.slice B1 nt b1) (.slice B2 nc b2) (.slice B3 no b3) (.slice none 0 0) (ptsC c fine (i+1)):=by
         have h3:=CtE.set_p (Q:=(ptsC c fine (i+1)).points) H9.out.1 hgr (by
          rw [←HV.out.2.2.2.2.1,List.length_set,HV.out.2.2.2.2.2.1,←HN.out.1]
          exact h1)
         exact h3
        have h4:=H9.out.2.1.grown hgr (fun e=>HNE.out.2.2.2.2.2 e.symm)
        rw [←HV.out.2.2.2.2.2.2.1] at h4
        have h5:=H9.out.2.2.1.grown hgr (fun e=>blk_ne9 H9.out.2.2.1 H9.out.2.2.2.2.2 (by decide) (Option.some.inj e))
        have HZ:=hide (And.intro h2 (And.intro h4 h5))
        clear h1 h2 h4 h5 hgr
        go_wp2
        go_roundw
        case rel=>exact ⟨i+1,by omega,by go_num,HZ.out⟩
        case measure=>(simp [intOf];try omega)
       ·obtain rfl:np=i:=by omega
        have i1:¬(np:Int) < (np:Int):=by omega
        have hC0:CtE X0 V g6 (.slice B0 np b0) (.slice B1 nt b1) (.slice B2 nc b2) (.slice B3 no b3) (.slice none 0 0) (outC c fine 0):=by
         have h:=ptsC_end HY.out.2.2.2.2.2.2.2
         rw [←HN.out.1] at h
         rw [←h]
         exact hE
        have hW0:Blk V gw 4 #[.bool (wholeK c fine 0 0)]:=by rw [wholeK_zero,←HN.out.1];exact hw
        have hRZ:=right_of HP.out.1
        have hf2:∀e∈c.creases,fits2 e:=fun e he=>by
         obtain ⟨hd,hl⟩:=mem_edgesE.1 (hRZ.cre e he)
         obtain ⟨x,hx,hx2⟩:=mem_dirE.1 hd
         have hi:=hRZ.idx x hx
         have hp:=HM.out.2.1.p
         have hz:(anaZ c).points.length=c.points.length:=by simp [anaZ]
         rw [hz] at hi
         have:0≤min e.1 e.2∧max e.1 e.2 < (c.points.length:Int):=by
          rcases mem_de3.1 hx2 with h | h | h <;>simp only [nrmE,Prod.mk.injEq] at h <;>omega
         constructor <;>unfold fits <;>omega
        have hfo:∀i∈c.corners,fits i:=fun i hi=>by
         have h1:=hRZ.cor i hi
         have h2:=HM.out.2.1.p
         have hz:(anaZ c).points.length=c.points.length:=by simp [anaZ]
         rw [hz] at h1
         unfold fits
         omega
        have hbO:∀k,k≤sn→CtlB (outC c fine k):=fun k hk=>by
         have hlb:=fun j (hj:j≤sn)=>ana_lvb (c:=c) (fine:=fine) HP.out.1 HP.out.2.1 (by rw [←HN.out.2.2.2.2.2.2.1];exact HMS.out) HM.out.2.1 (k:=j) (by rw [HP.out.2.2.1];exact hj)
         refine ⟨by show (anaPts c fine).length≤_;rw [HY.out.2.2.2.2.2.2.2];exact HM.out.2.1.p,HM.out.2.1.t,HM.out.2.1.cr,HM.out.2.1.o,by rw [outC_dl];omega,fun d hd=> ?_⟩
         obtain ⟨j,hj,rfl⟩:=List.mem_map.1 hd
         have hj:=List.mem_range.1 hj
         have h1:=hlb j (by omega)
         have h2:=edgesE_le (anaLev c fine j).t
         have h3:=h1.t
         rw [det_len9]
         omega
        have hpl0:(outC c fine 0).points.length=np:=by show (anaPts c fine).length=np;rw [HN.out.1];exact HY.out.2.2.2.2.2.2.2
        have kb:=pbegin_any B0 B1 B2 B3 none b0 b1 b2 b3 0 0 (outC c fine 0) V hC0.ctlM (hbO 0 (by omega)) HP.out.2.2.2 hf2 hfo
        rw [hpl0] at kb
        have kb:Calls Tryz.prog 41 #[vCtl B0 np b0 B1 nt b1 B2 nc b2 B3 no b3 sn none 0 0] V fun e w'=>BegR V w' B1 b1 (outC c fine 0) e:=by
         rw [HN.out.2.1,HN.out.2.2.1,HN.out.2.2.2.1,HN.out.2.2.2.2.2.1]
         exact kb
        have hlf:fine.length=(anaMany c c.steps.toNat).1:=by rw [←HN.out.2.2.2.2.2.2.1];exact HMS.out
        have HL:=hide (And.intro (fun k (hk:k≤sn)=>ana_lvr (c:=c) (fine:=fine) HP.out.1 HP.out.2.1 hlf (k:=k) (by rw [HP.out.2.2.1];exact hk)) (And.intro (fun k (hk:k≤sn)=>ana_lvb (c:=c) (fine:=fine) HP.out.1 HP.out.2.1 hlf HM.out.2.1 (k:=k) (by rw [HP.out.2.2.1];exact hk)) (And.intro (fun k (hk:k < sn)=>ana_in (c:=c) (fine:=fine) HP.out.1 HP.out.2.1 hlf (k:=k) (by rw [HP.out.2.2.1];exact hk)) (fun k (hk:k < sn)=>ana_mk (c:=c) (fine:=fine) HP.out.1 HP.out.2.1 hlf (k:=k) (by rw [HP.out.2.2.1];exact hk)))))
        have HK2:=hide (And.intro kb (And.intro hbO hpl0))
        have hb6:Blk V g6 32 (cMad (.slice B0 np b0) (.slice B1 nt b1) (.slice B2 nc b2) (.slice B3 no b3) sn (.slice none 0 0)):=by rw [HN.out.2.2.2.2.2.1];exact hC0.b
        obtain ⟨k0,k1,k2,k3,k4,k5⟩:=hb6.six9
        have hl6:=hb6.lt
        have HU:=hide (And.intro hC0 (And.intro hW0 hfn))
        have hzU:=hC0.bel.size
        clear hE hw hC0 hW0 hfn hRZ hf2 hfo hbO hpl0 kb hlf hb6 hBV h1V h2V
        go_upto_region 20 with (go_at_call 41;refine HK2.out.1.mono ?_;rintro e X4 ⟨g,Ag,cg,mc,mo,rfl,hgw9,hlv,hB4⟩;have HB4:=hide (And.intro hgw9 (And.intro hlv hB4));clear hgw9 hlv hB4)
        clear k0 k1 k2 k3 k4 k5 hl6
        have hC4:=HU.out.1.below HB4.out.2.2
        have hL0:LvlM X4 V.heap.size g Ag cg B1 b1 mc mo none none 0 0 none none (anaLev c fine 0) c.corners:=HB4.out.2.1
        have hT0:Own encN3 3 35 X4 X0.heap.size (.slice B1 (anaLev c fine 0).t.length b1) (anaLev c fine 0).t.length (anaLev c fine 0).t:=by
         have h:=hC4.t
         have e:nt=c.tris.length:=HN.out.2.1
         rw [e] at h
         exact h
        have hO4:CtO X0 X4 X4.heap.size g6 (.slice B0 np b0) (.slice B1 nt b1) (.slice B2 nc b2) (.slice B3 no b3) (.slice none 0 0) (outC c fine 0):=⟨hC4,⟨hC4.bel.size,Nat.le_refl _⟩,fun r hr=>(hC4.p.blk r hr).2,Pcs.nil⟩
        have h4w:=HU.out.2.1.below HB4.out.2.2 HU.out.2.1.lt
        have h4f:=HU.out.2.2.below HB4.out.2.2 HU.out.2.2.lt
        have hgX:X0.heap.size≤g:=Nat.le_trans hzU HB4.out.1
        have h41:=H0.out.1.below hC4.bel H0.out.1.lt
        have z4:X4.cell? ⟨g1,4,none⟩=some (.int .i64 sn):=h41.cell 4
        have hg1l:=h41.lt
        have hz49:=HB4.out.2.2.size
        have H4:=hide (And.intro hO4 (And.intro hL0 (And.intro hT0 (And.intro h4w (And.intro h4f (And.intro hgX (And.intro hzU hz49)))))))
        clear hC4 hL0 hT0 hO4 h4w h4f hgX h41 hzU hz49 HU HB4
        go_upto_region 21 with fail
        clear z4 hg1l
        go_loopw [87] (fun kv wr=>∃(k:Nat) (vd:Value),k≤sn∧kv= .int .i64 k∧CtO X0 wr X4.heap.size g6 (.slice B0 np b0) (.slice B1 nt b1) (.slice B2 nc b2) (.slice B3 no b3) vd (outC c fine k)∧LvlX wr V.heap.size X0.heap.size g mo (anaLev c fine k) c.corners∧Blk wr gw 4 #[.bool (wholeK c fine k 0)]∧Blk wr gf 106 #[.func (.func 58) #[] #[.pointer (some ⟨gw,0,none⟩)]]) (fun kv _=>sn - (intOf kv).toNat)
        case atStart=>exact ⟨0,_,by omega,rfl,H4.out.1,⟨_,_,_,_,_,_,_,_,_,_,_,H4.out.2.1,H4.out.2.2.1⟩,H4.out.2.2.2.1,H4.out.2.2.2.2.1⟩
        case round=>
         obtain ⟨k,vd,hk,rfl,hO,hLx,hw,hfn⟩:=hrel
         obtain ⟨U,rfl⟩:∃x,x=wr:=⟨_,rfl⟩
         by_cases hlt:k < sn
         ·have k1:(k:Int) < (sn:Int):=by omega
          obtain ⟨Al,cl,Bl,dl,ml,b4,El,nl,fl4,b6,b7,hl,hT⟩:=hLx
          obtain ⟨lp,hlp⟩:∃n,n=(anaLev c fine k).p.length:=⟨_,rfl⟩
          have hz0:U.cell? ⟨g,0,none⟩=some (.slice Al lp cl):=by rw [hlp];exact hl.bx.cell 0
          have hgl:=hl.bx.lt
          have hU1:=H0.out.1.below hO.e.bel H0.out.1.lt
          have hU2:=H0.out.2.1.below hO.e.bel H0.out.2.1.lt
          have hUw:=H0.out.2.2.2.1.trans (hO.e.bel.mono H0.out.2.2.2.1.size)
          have HUU:=hide (And.intro hO (And.intro hl (And.intro hT (And.intro hw (And.intro hfn (And.intro hU1 (And.intro hU2 (And.intro hUw hlp))))))))
          have HZ0:=hide (And.intro hz0 hgl)
          clear hO hl hT hw hfn hU1 hU2 hUw hlp hz0 hgl
          go_upto_region 24 with fail
          obtain ⟨gk,hgk⟩:∃n,n=U.heap.size:=⟨_,rfl⟩
          obtain ⟨gd,hgd⟩:∃n,n=U.heap.size+1:=⟨_,rfl⟩
          obtain ⟨Y1,hY1⟩:∃W,W=(U.alloc (.cells #[.int .i64 k] 3)).alloc (.cells #[.slice none 0 0] 28):=⟨_,rfl⟩
          have hB1:Below U.heap.size U Y1:=by rw [hY1];exact ((Below.refl _ U).alloc (Nat.le_refl _) _).alloc (by simp) _
          have hkY1:Blk Y1 gk 3 #[.int .i64 k]:=by rw [hY1,hgk];exact (Blk.new _ _ _).alloc _
          have hdY1:Blk Y1 gd 28 #[.slice none 0 0]:=by rw [hY1,hgd];exact Blk.new' _ _ _ _ (by simp)
          rw [←hY1,←hgd,←hgk]
          have y0:Y1.cell? ⟨g,0,none⟩=some (.slice Al lp cl):=(hB1.cell (p:=⟨g,0,none⟩) HZ0.out.2).trans HZ0.out.1
          have hgY:=Nat.lt_of_lt_of_le HZ0.out.2 hB1.size
          have hgdU:U.heap.size≤gd:=by omega
          have HY1:=hide (And.intro hB1 (And.intro hkY1 (And.intro hdY1 hgdU)))
          clear hB1 hkY1 hdY1 hgdU hY1 hgd hgk
          go_upto_region 25 with fail
          obtain ⟨gs,hgs⟩:∃n,n=Y1.heap.size:=⟨_,rfl⟩
          obtain ⟨Y,hYd⟩:∃W,W=Y1.alloc (.cells #[.int .i64 lp] 3):=⟨_,rfl⟩
          have hBy:Below Y1.heap.size Y1 Y:=by rw [hYd];exact (Below.refl _ Y1).alloc (Nat.le_refl _) _
          have hsY:Blk Y gs 3 #[.int .i64 lp]:=by rw [hYd,hgs];exact Blk.new _ _ _
          rw [←hYd,←hgs]
          clear y0 hgY hYd hgs
          have hBU:Below U.heap.size U Y:=HY1.out.1.trans (hBy.mono HY1.out.1.size)
          have hkY:=HY1.out.2.1.below hBy HY1.out.2.1.lt
          have hdY:=HY1.out.2.2.1.below hBy HY1.out.2.2.1.lt
          have hlY:=HUU.out.2.1.below hBU
          have hwY:=HUU.out.2.2.2.1.below hBU HUU.out.2.2.2.1.lt
          have hfY:=HUU.out.2.2.2.2.1.below hBU HUU.out.2.2.2.2.1.lt
          have h1Y:=HUU.out.2.2.2.2.2.1.below hBU HUU.out.2.2.2.2.2.1.lt
          have h2Y:=HUU.out.2.2.2.2.2.2.1.below hBU HUU.out.2.2.2.2.2.2.1.lt
          have hY9:=HUU.out.2.2.2.2.2.2.2.1.trans (hBU.mono HUU.out.2.2.2.2.2.2.2.1.size)
          have hgX:=H4.out.2.2.2.2.2.1
          have hxw:=HY.out.2.2.2.2.1
          have hX0w:=H0.out.2.2.2.1.size
          have hgdU:=HY1.out.2.2.2
          have hXU:=HUU.out.1.e.bel.size
          have hlX4:=HUU.out.1.lb.2
          have hzV:=H4.out.2.2.2.2.2.2.2
          have hgne:gd≠g:=by have:=HZ0.out.2;omega
          have hgwne:gw≠g:=fun e=>blk_ne9 hwY hlY.bx (by decide) e
          have hg2d:g2≠gd:=by have:=HUU.out.2.2.2.2.2.2.1.lt;omega
          have hnel:(edgesE (anaLev c fine k).t).length≤900000:=by have h1:=(HL.out.2.1 k hk).t;have h2:=edgesE_le (anaLev c fine k).t;omega
          obtain ⟨ne,hne⟩:∃n,n=(edgesE (anaLev c fine k).t).length:=⟨_,rfl⟩
          rw [←hne] at hnel
          have hin:=HL.out.2.2.1 k hlt
          rw [←hne,←HUU.out.2.2.2.2.2.2.2.2,←HN.out.2.2.2.2.2.2.1] at hin
          have hmad:=madeA (k:=k) (ne:=ne) hY9 hfY h2Y HN.out.2.2.2.2.2.2.1 HM.out.2.2.2.1 hsY h1Y hkY ⟨_,hlY.bx⟩ ⟨_,hdY⟩ ⟨_,hwY⟩ hg2d (by omega) (by omega) (by omega) HM.out.2.2.2.2.1 hlt hs4 HP.out.2.2.1 hfl9 HUU.out.2.2.2.2.2.2.2.2.symm hin hnel
          have kst:=pstep_any hlY (Nat.le_trans hzV (Nat.le_trans hlX4 hBU.size)) (HL.out.1 k hk) (HL.out.2.1 k hk) 60 #[.pointer (some ⟨gd,0,none⟩), .pointer (some ⟨gf,0,none⟩), .pointer (some ⟨g2,0,none⟩), .pointer (some ⟨gs,0,none⟩), .pointer (some ⟨g1,0,none⟩), .pointer (some ⟨gk,0,none⟩)] (fun i _=>fine.getD (lp+i) (0,0,0)) (InvA Y g gd gw c fine k)
           (fun w1 h1=>⟨stbA h1.size hlY.bx.lt hdY.lt hwY.lt hgne hgwne,⟨h1.os,h1.tape,h1.output,h1.size,fun x hx n1 _ _=>h1.block x hx (fun e=>n1 (Option.some.inj e)),h1.size,⟨none,0,hdY.grown h1 (fun e=>hgne (Option.some.inj e)),by rw [List.take_zero];exact Own.nil,fun r e=>by cases e⟩,hwY.grown h1 (fun e=>hgwne (Option.some.inj e)),fun r e=>by cases e⟩⟩) (by rw [←hne];exact hmad) ent_ana2
          have hmk:=HL.out.2.2.2 k hlt
          rw [←HUU.out.2.2.2.2.2.2.2.2] at hmk
          rw [hmk,←hne] at kst
          have hZZ:=hBU.size
          have HS:=hide (And.intro kst (And.intro hBU (And.intro hfY (And.intro hgne (And.intro hgwne (And.intro hgdU (And.intro hwY (And.intro hlY hne))))))))
          clear kst hmk hmad hin hne hnel hg2d hgne hgwne hgX hxw hX0w hgdU hXU hlX4 hzV hY9 h2Y h1Y hfY hwY hlY hdY hkY hBU hBy hsY HY1 HZ0
          go_upto_region 26 with (go_at_call 42;refine HS.out.1.mono ?_;rintro e W5 ⟨rfl,hR⟩;have H5:=hide hR;clear hR)
          obtain ⟨A5,c5,B5,d5,m5,a54,E5,n5,f5,a56,a57,BB,P5,hl5,hBB,hI5,hT5⟩:=H5.out
          obtain ⟨Ad5,cd5,hbd,hod,hPo⟩:=hI5.own
          have hch:Chg2 U W5 gw g none:=⟨hI5.os.trans HS.out.2.1.os,hI5.tape.trans HS.out.2.1.tape,hI5.output.trans HS.out.2.1.output,Nat.le_trans HS.out.2.1.size hI5.size,fun x hx n1 n2 _=>(hI5.block x (Nat.lt_of_lt_of_le hx HS.out.2.1.size) n2 (by have:=HS.out.2.2.2.2.2.1;omega) n1).trans (HS.out.2.1.block x hx)⟩
          have hO5:=HUU.out.1.chg hch HUU.out.2.2.2.1 HUU.out.2.1.bx HY.out.2.2.2.2.1 H4.out.2.2.2.2.2.1
          have hfU:=HUU.out.2.2.2.2.1
          have hf5:Blk W5 gf 106 #[.func (.func 58) #[] #[.pointer (some ⟨gw,0,none⟩)]]:=(hI5.block gf HS.out.2.2.1.lt (fun e=>blk_ne9 HS.out.2.2.1 HS.out.2.2.2.2.2.2.2.1.bx (by decide) e) (by have h1:=HS.out.2.2.2.2.2.1;have h2:=hfU.lt;omega) (fun e=>blk_ne9 HS.out.2.2.1 HS.out.2.2.2.2.2.2.1 (by decide) e)).trans HS.out.2.2.1
          have hdl:(anaDet c fine k).length=ne:=by rw [det_len9];exact HS.out.2.2.2.2.2.2.2.2.symm
          rw [List.take_of_length_le (by omega)] at hod
          have hX4B:X4.heap.size≤BB:=by have h1:=HUU.out.1.lb.2;have h2:=HS.out.2.1.size;omega
          have hX4W:X4.heap.size≤W5.heap.size:=by have h1:=HUU.out.1.lb.2;have h2:=HS.out.2.1.size;have h3:=hI5.size;omega
          have hx5:Own encP 3 43 W5 X4.heap.size (.slice Ad5 (anaDet c fine k).length cd5) (anaDet c fine k).length (anaDet c fine k):=by rw [hdl];exact hod.base_le hX4B
          obtain ⟨ss,hos,hps⟩:=hO5.d
          have hosK:=hos
          rw [outC_dl] at hosK
          obtain ⟨Av,kv,rfl⟩:=hosK.form
          have hal:Below W5.heap.size W5 (W5.alloc (.cells #[.slice Ad5 ne cd5] 28)):=(Below.refl _ W5).alloc (Nat.le_refl _) _
          have hXV:=H4.out.2.2.2.2.2.2.1
          have hwk:=wholeK_next (c:=c) (fine:=fine) (k:=k)
          rw [←HS.out.2.2.2.2.2.2.2.2] at hwk
          have hfl5:=hI5.flag
          rw [←hwk] at hfl5
          have hps6:∀(i:Nat) (p:List Pt),(outC c fine k).details[i]? =some p→∃A c,ss[i]? =some (A,p.length,c)∧Own encP 3 43 (W5.alloc (.cells #[.slice Ad5 ne cd5] 28)) X4.heap.size (.slice A p.length c) p.length p:=fun i p hi=>by
           obtain ⟨A,c,h1,h2⟩:=hps i p hi
           exact ⟨A,c,h1,h2.below hal (Nat.le_refl _)⟩
          have z5:W5.cell? ⟨g6,5,none⟩=some (.slice Av k kv):=hO5.e.b.cell 5
          have zd:W5.cell? ⟨gd,0,none⟩=some (.slice Ad5 ne cd5):=hbd.cell 0
          have hl6:=hO5.e.b.lt
          have hldd:=hbd.lt
          have HZ6:=hide (And.intro (hO5.below hal) (And.intro (hos.below hal (Nat.le_refl _)) (And.intro (hosK.below hal (Nat.le_refl _)) (And.intro hps6 (And.intro (hx5.below hal (Nat.le_refl _)) (And.intro (hl5.below hal) (And.intro ((hT5.base_le hXV).below hal (Nat.le_refl _)) (And.intro (hfl5.below hal hfl5.lt) (And.intro (hf5.below hal hf5.lt) hdl)))))))))
          clear hl5 hBB hI5 hT5 hbd hod hPo hch hO5 hfU hf5 hdl hX4B hx5 hos hps hosK hal hXV hwk hfl5 hps6 H5 HS
          go_wp2_with (at_builtin;refine wpList_append1 rfl _ _ _ rfl Tryz.underlying30 infoLP rfl (by omega) encS_len encS_one rfl HZ6.out.2.2.1 W5.heap.size 1 (Ad5,ne,cd5) rfl (Blk.new _ _ _) (by unfold maxLen;omega) (by omega) (by simp;omega) ?_;intro g7 cap7 w7 hown7 hg7 hB7 hat7 hgb7 hlt7;have hS7:=HZ6.out.1.ap_d (x:=anaDet c fine k) (A:=Ad5) (k:=cd5) HZ6.out.2.1 HZ6.out.2.2.2.1 HZ6.out.2.2.2.2.1 hg7 (by rw [outC_dl,HZ6.out.2.2.2.2.2.2.2.2.2];exact hown7);rw [←outC_next] at hS7;have h61:=HZ6.out.1.e.b.grown hg7 (blk_own_ne9 HZ6.out.1.e.b HZ6.out.2.2.1 (by decide));have hL7:=HZ6.out.2.2.2.2.2.1.off HZ6.out.2.2.2.2.2.2.1 hg7 (fun r e=>⟨28,_,(HZ6.out.2.2.1.cells r e).choose_spec,by decide,by decide,by decide⟩);have hL8:=hL7.1.off hL7.2 (setW_grown g6 [.slice (some ⟨g7,0,none⟩) (k+1) cap7] w7 5) (fun r e=>⟨32,_,(Option.some.inj e)▸h61,by decide,by decide,by decide⟩);have hw7:=(HZ6.out.2.2.2.2.2.2.2.1.grown hg7 (blk_own_ne9 HZ6.out.2.2.2.2.2.2.2.1 HZ6.out.2.2.1 (by decide))).far (p:=⟨g6,5,none⟩) (fun e=>blk_ne9 h61 (HZ6.out.2.2.2.2.2.2.2.1.grown hg7 (blk_own_ne9 HZ6.out.2.2.2.2.2.2.2.1 HZ6.out.2.2.1 (by decide))) (by decide) e.symm) (.slice (some ⟨g7,0,none⟩) (k+1) cap7);have hf7:=(HZ6.out.2.2.2.2.2.2.2.2.1.grown hg7 (blk_own_ne9 HZ6.out.2.2.2.2.2.2.2.2.1 HZ6.out.2.2.1 (by decide))).far (p:=⟨g6,5,none⟩) (fun e=>blk_ne9 h61 (HZ6.out.2.2.2.2.2.2.2.2.1.grown hg7 (blk_own_ne9 HZ6.out.2.2.2.2.2.2.2.2.1 HZ6.out.2.2.1 (by decide))) (by decide) e.symm) (.slice (some ⟨g7,0,none⟩) (k+1) cap7);have c7:w7.cell? ⟨g6,5,none⟩=some (.slice Av k kv):=h61.cell 5;have f7:=h61.frozen 5;have hl7:=h61.lt;have H7:=hide (And.intro hS7 (And.intro hL8 (And.intro hw7 hf7)));clear hown7 hg7 hB7 hat7 hgb7 hlt7 hS7 h61 hL7 hL8 hw7 hf7)
          go_roundw
          case rel=>exact ⟨k+1,_,by omega,by go_num,H7.out.1,⟨_,_,_,_,_,_,_,_,_,_,_,H7.out.2.1⟩,H7.out.2.2.1,H7.out.2.2.2⟩
          case measure=>(simp [intOf];try omega)
         ·obtain rfl:sn=k:=by omega
          have k1:¬(sn:Int) < (sn:Int):=by omega
          obtain ⟨Av,kv,rfl⟩:∃A c,vd= .slice A sn c:=by have h:=hO.d.form;rw [outC_dl] at h;exact h
          have hek:=wholeK_end c fine
          rw [HP.out.2.2.1] at hek
          rw [hek] at hw
          obtain ⟨b,hbw⟩:∃b,b=anaWhole c fine:=⟨_,rfl⟩
          rw [←hbw] at hw
          have c0:U.cell? ⟨gw,0,none⟩=some (.bool b):=hw.cell 0
          have hgwl:=hw.lt
          have hlf:fine.length=(anaMany c c.steps.toNat).1:=by rw [←HN.out.2.2.2.2.2.2.1];exact HMS.out
          have hUz:=H0.out.2.2.1.below hO.e.bel H0.out.2.2.1.lt
          have hUw:=H0.out.2.2.2.1.trans (hO.e.bel.mono H0.out.2.2.2.1.size)
          have HUU:=hide (And.intro hO (And.intro hUz (And.intro hUw hlf)))
          clear hO hLx hfn hek hlf hUz hUw hw
          cases b with
          | false=>
           have hpf:E=13∧anaE c fine≠0:=by
            have h2:=anaE_w HP.out.1 HUU.out.2.2.2 hbw.symm
            exact ⟨by rw [HN.out.2.2.2.2.2.2.2.1,h2],by rw [h2];decide⟩
           have HPF:=hide hpf
           clear hpf hbw
           have hz3:=HUU.out.2.1
           obtain ⟨q0,q1,q2,q3,q4,q5⟩:=hz3.six9
           have hq9:=hz3.lt
           have fq0:=hz3.frozen 0
           have fq1:=hz3.frozen 1
           have fq2:=hz3.frozen 2
           have fq3:=hz3.frozen 3
           have fq4:=hz3.frozen 4
           have fq5:=hz3.frozen 5
           have HZ3:=hide hz3
           clear hz3
           go_wp2
           refine ret_at (v:= .tuple #[vCtl none 0 0 none 0 0 none 0 0 none 0 0 0 none 0 0, .int .i64 13]) (fun W=>Blk W g3 32 (cCtl none 0 0 none 0 0 none 0 0 none 0 0 0 none 0 0)) ?_ (fun W hW=> ?_) rfl ⟨vCtl none 0 0 none 0 0 none 0 0 none 0 0 0 none 0 0,?_,?_⟩
           ·exact (((((HZ3.out.set_ 0 _).set_ 1 _).set_ 2 _).set_ 3 _).set_ 4 _).set_ 5 _
           ·obtain ⟨a0,a1,a2,a3,a4,a5⟩:=hW.six9
            simp [results,Tryz.results31,go_sem,a0,a1,a2,a3,a4,a5]
            try trivial
           ·rw [HPF.out.1]
           ·rw [HN.out.2.2.2.2.2.2.2.2.1,anaR_none HPF.out.2]
            exact cpyr_none ((HUU.out.2.2.1).trans (grown_bel (setW_grown g3 [.slice none 0 0, .slice none 0 0, .slice none 0 0, .slice none 0 0, .int .i64 0, .slice none 0 0] U 0) H0.out.2.2.2.2.1 (HUU.out.2.2.1).size))
          | true=>
           have hEo:=anaE_o HP.out.1 HUU.out.2.2.2 hbw.symm
           have hout:outC c fine sn=anaOut c fine:=by rw [←outC_end,HP.out.2.2.1]
           obtain ⟨er2,her2⟩:∃n,n=errC (anaOut c fine):=⟨_,rfl⟩
           rw [←her2] at hEo
           have kw2:=wrong_any B0 B1 B2 B3 Av b0 b1 b2 b3 kv (outC c fine sn) U HUU.out.1.e.ctlM (HK2.out.2.1 sn (Nat.le_refl _)) HM.out.2.2.1
           have hpls:(outC c fine sn).points.length=np:=HK2.out.2.2
           rw [hpls,outC_dl,hout,←her2] at kw2
           have kw2:Calls Tryz.prog 40 #[vCtl B0 np b0 B1 nt b1 B2 nc b2 B3 no b3 sn Av sn kv] U fun e w'=>e= .returned (.int .i64 er2)∧Below U.heap.size U w':=by
            rw [HN.out.2.1,HN.out.2.2.1,HN.out.2.2.2.1,HN.out.2.2.2.2.2.1]
            exact kw2
           have hb6:Blk U g6 32 (cMad (.slice B0 np b0) (.slice B1 nt b1) (.slice B2 nc b2) (.slice B3 no b3) sn (.slice Av sn kv)):=by rw [HN.out.2.2.2.2.2.1];exact HUU.out.1.e.b
           obtain ⟨k0,k1',k2,k3,k4,k5⟩:=hb6.six9
           have hl6:=hb6.lt
           have HKW:=hide (And.intro kw2 (And.intro hEo (And.intro hout (And.intro her2 hb6))))
           clear kw2 hEo hout her2 hb6 hpls hbw
           go_upto_region 31 with (go_at_call 40;refine HKW.out.1.mono ?_;rintro e U2 ⟨rfl,hB⟩;have HB2:=hide hB;clear hB)
           clear k0 k1' k2 k3 k4 k5 hl6 c0 hgwl
           have hO2:=HUU.out.1.below HB2.out
           have h3z:=HUU.out.2.1.below HB2.out HUU.out.2.1.lt
           have h2w:=HUU.out.2.2.1.trans (HB2.out.mono HUU.out.2.2.1.size)
           have h26:=HKW.out.2.2.2.2.below HB2.out HKW.out.2.2.2.2.lt
           have H2:=hide (And.intro hO2 (And.intro h3z (And.intro h2w h26)))
           clear hO2 h3z h2w h26
           by_cases he2:er2=0
           ·subst he2
            have hE0:E=0∧anaE c fine=0:=⟨by rw [HN.out.2.2.2.2.2.2.2.1];exact HKW.out.2.1,HKW.out.2.1⟩
            have HE0:=hide hE0
            obtain ⟨k0,k1',k2,k3,k4,k5⟩:=H2.out.2.2.2.six9
            have hl6:=H2.out.2.2.2.lt
            obtain ⟨q0,q1,q2,q3,q4,q5⟩:=H2.out.2.1.six9
            have hq9:=H2.out.2.1.lt
            have fq0:=H2.out.2.1.frozen 0
            have fq1:=H2.out.2.1.frozen 1
            have fq2:=H2.out.2.1.frozen 2
            have fq3:=H2.out.2.1.frozen 3
            have fq4:=H2.out.2.1.frozen 4
            have fq5:=H2.out.2.1.frozen 5
            clear hE0
            go_wp2
            refine ret_at (v:= .tuple #[.agg (cMad (.slice B0 np b0) (.slice B1 nt b1) (.slice B2 nc b2) (.slice B3 no b3) sn (.slice Av sn kv)), .int .i64 0]) (fun W=>Blk W g3 32 (cMad (.slice B0 np b0) (.slice B1 nt b1) (.slice B2 nc b2) (.slice B3 no b3) sn (.slice Av sn kv))) ?_ (fun W hW=> ?_) rfl ⟨.agg (cMad (.slice B0 np b0) (.slice B1 nt b1) (.slice B2 nc b2) (.slice B3 no b3) sn (.slice Av sn kv)),?_,?_⟩
            ·exact (((((H2.out.2.1.set_ 0 (.slice B0 np b0)).set_ 1 (.slice B1 nt b1)).set_ 2 (.slice B2 nc b2)).set_ 3 (.slice B3 no b3)).set_ 4 (.int .i64 sn)).set_ 5 (.slice Av sn kv)
            ·obtain ⟨a0,a1,a2,a3,a4,a5⟩:=hW.six9
             simp [results,Tryz.results31,go_sem,a0,a1,a2,a3,a4,a5]
             try trivial
            ·rw [HE0.out.1]
            ·rw [HN.out.2.2.2.2.2.2.2.2.1,anaR_out HE0.out.2,←HKW.out.2.2.1,HN.out.2.2.2.2.2.1]
             exact H2.out.1.res H0.out.2.2.2.1 H0.out.2.2.2.2.1 H0.out.2.2.1.lt (setW_grown g3 [_,_,_,_,_,_] U2 0)
           ·have hne:(er2 !=0)=true:=by simpa using he2
            have hpf:E=er2∧anaE c fine≠0:=⟨by rw [HN.out.2.2.2.2.2.2.2.1];exact HKW.out.2.1,by rw [HKW.out.2.1];exact he2⟩
            have HPF:=hide hpf
            clear hpf he2
            have hz3:=H2.out.2.1
            obtain ⟨q0,q1,q2,q3,q4,q5⟩:=hz3.six9
            have hq9:=hz3.lt
            have fq0:=hz3.frozen 0
            have fq1:=hz3.frozen 1
            have fq2:=hz3.frozen 2
            have fq3:=hz3.frozen 3
            have fq4:=hz3.frozen 4
            have fq5:=hz3.frozen 5
            have HZ3:=hide hz3
            clear hz3
            go_wp2
            refine ret_at (v:= .tuple #[vCtl none 0 0 none 0 0 none 0 0 none 0 0 0 none 0 0, .int .i64 er2]) (fun W=>Blk W g3 32 (cCtl none 0 0 none 0 0 none 0 0 none 0 0 0 none 0 0)) ?_ (fun W hW=> ?_) rfl ⟨vCtl none 0 0 none 0 0 none 0 0 none 0 0 0 none 0 0,?_,?_⟩
            ·exact (((((HZ3.out.set_ 0 _).set_ 1 _).set_ 2 _).set_ 3 _).set_ 4 _).set_ 5 _
            ·obtain ⟨a0,a1,a2,a3,a4,a5⟩:=hW.six9
             simp [results,Tryz.results31,go_sem,a0,a1,a2,a3,a4,a5]
             try trivial
            ·rw [HPF.out.1]
            ·rw [HN.out.2.2.2.2.2.2.2.2.1,anaR_none HPF.out.2]
             exact cpyr_none ((H2.out.2.2.1).trans (grown_bel (setW_grown g3 [.slice none 0 0, .slice none 0 0, .slice none 0 0, .slice none 0 0, .int .i64 0, .slice none 0 0] U2 0) H0.out.2.2.2.2.1 (H2.out.2.2.1).size))
     ·have i0:((fl:Int) !=(m:Int))=true:=by simp;omega
      have hpf:E=1∧anaE c fine≠0:=by
       have h2:=anaE_n (fine:=fine) HP.out.1 (by rw [←HN.out.2.2.2.2.2.2.1,←HMS.out];exact hlen)
       exact ⟨by rw [HN.out.2.2.2.2.2.2.2.1,h2],by rw [h2];decide⟩
      have HPF:=hide hpf
      clear hpf
      have hz3:=H3.out.2.2.2.1
      obtain ⟨q0,q1,q2,q3,q4,q5⟩:=hz3.six9
      have hq9:=hz3.lt
      have fq0:=hz3.frozen 0
      have fq1:=hz3.frozen 1
      have fq2:=hz3.frozen 2
      have fq3:=hz3.frozen 3
      have fq4:=hz3.frozen 4
      have fq5:=hz3.frozen 5
      have HZ3:=hide hz3
      clear hz3
      go_wp2
      refine ret_at (v:= .tuple #[vCtl none 0 0 none 0 0 none 0 0 none 0 0 0 none 0 0, .int .i64 1]) (fun W=>Blk W g3 32 (cCtl none 0 0 none 0 0 none 0 0 none 0 0 0 none 0 0)) ?_ (fun W hW=> ?_) rfl ⟨vCtl none 0 0 none 0 0 none 0 0 none 0 0 0 none 0 0,?_,?_⟩
      ·exact (((((HZ3.out.set_ 0 _).set_ 1 _).set_ 2 _).set_ 3 _).set_ 4 _).set_ 5 _
      ·obtain ⟨a0,a1,a2,a3,a4,a5⟩:=hW.six9
       simp [results,Tryz.results31,go_sem,a0,a1,a2,a3,a4,a5]
       try trivial
      ·rw [HPF.out.1]
      ·rw [HN.out.2.2.2.2.2.2.2.2.1,anaR_none HPF.out.2]
       exact cpyr_none ((H3.out.1).trans (grown_bel (setW_grown g3 [.slice none 0 0, .slice none 0 0, .slice none 0 0, .slice none 0 0, .int .i64 0, .slice none 0 0] X3 0) H0.out.2.2.2.2.1 (H3.out.1).size))
  ·have hne:(er !=0)=true:=by simpa using herr
   have hpf:E=er∧anaE c fine≠0:=by
    have h1:errC (anaZ c)≠0:=by rw [←HN.out.2.2.2.2.2.2.2.2.2];exact herr
    have h2:=anaE_z (fine:=fine) h1
    exact ⟨by rw [HN.out.2.2.2.2.2.2.2.1,h2,←HN.out.2.2.2.2.2.2.2.2.2],by rw [h2];exact h1⟩
   have HPF:=hide hpf
   clear hpf herr
   have hz3:=H2.out.2.2.2
   obtain ⟨q0,q1,q2,q3,q4,q5⟩:=hz3.six9
   have hq9:=hz3.lt
   have fq0:=hz3.frozen 0
   have fq1:=hz3.frozen 1
   have fq2:=hz3.frozen 2
   have fq3:=hz3.frozen 3
   have fq4:=hz3.frozen 4
   have fq5:=hz3.frozen 5
   have HZ3:=hide hz3
   clear hz3
   go_wp2
   refine ret_at (v:= .tuple #[vCtl none 0 0 none 0 0 none 0 0 none 0 0 0 none 0 0, .int .i64 er]) (fun W=>Blk W g3 32 (cCtl none 0 0 none 0 0 none 0 0 none 0 0 0 none 0 0)) ?_ (fun W hW=> ?_) rfl ⟨vCtl none 0 0 none 0 0 none 0 0 none 0 0 0 none 0 0,?_,?_⟩
   ·exact (((((HZ3.out.set_ 0 _).set_ 1 _).set_ 2 _).set_ 3 _).set_ 4 _).set_ 5 _
   ·obtain ⟨a0,a1,a2,a3,a4,a5⟩:=hW.six9
    simp [results,Tryz.results31,go_sem,a0,a1,a2,a3,a4,a5]
    try trivial
   ·rw [HPF.out.1]
   ·rw [HN.out.2.2.2.2.2.2.2.2.1,anaR_none HPF.out.2]
    exact cpyr_none ((H2.out.1).trans (grown_bel (setW_grown g3 [.slice none 0 0, .slice none 0 0, .slice none 0 0, .slice none 0 0, .int .i64 0, .slice none 0 0] X2 0) H0.out.2.2.2.2.1 (H2.out.1).size))
end Go.Proofs.YtmemofonebphfaaGreat
