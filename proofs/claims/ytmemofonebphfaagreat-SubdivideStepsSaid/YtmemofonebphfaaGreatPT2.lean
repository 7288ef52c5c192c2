import Derived.WalkKit
import Derived.WalkSpells
import Derived.WalkLawsBesides
import Derived.Laws.OwnMore
import Derived.Deep.AppendLies
import Derived.Deep.Draws
import Derived.Test.YtmemofonebphfaaGreatRows
import Derived.Handy
import Derived.Maps.Own
import Derived.Maps.Views
import Derived.DeepKeys4
import Derived.RangeFuncBox
import Derived.DeepKeys
import Derived.Laws.StructEq
import Derived.Sort.Grow
import Derived.Deep.QuietTactic
import Derived.BigQuiet
import Derived.LoopN
import Derived.Laws.EntriesVeiled
import Derived.Shelf.SlSortCmp.QuietGrown
import Derived.Deep.RegionHeld3
import Derived.Deep.DrawnRows
import Derived.Maps.AppendAt
import Derived.OwnWalk
import Derived.Shelf.GgSortFunc.RowK
import Derived.RangeFuncNested
import Derived.Sort.Statements
import Derived.Shelf.SlSortCmp.NoneTotal
import Derived.OrdersHeld
import Derived.OrdersIn
import Derived.RangeFuncCalls
import Derived.OwnWalkIn
import Derived.Deep.CutBlock
import Derived.Deep.DeepCutAuto
import Derived.StillTailTactics
import Derived.BigRegion
import Derived.Test.YtmemofonebphfaaGreatProg
import Derived.IntWalk
import Derived.Deep.WholeRow
import Derived.Great.BuildSlice
import Derived.Great.Walk
import Derived.Maps.OwnSet
import Derived.Maps.RangeWalk
import Derived.Deep.MidRow
import Derived.Shelf.RegionOpen
import Derived.Shelf.SlicesE.Clone
import Derived.WideKeyEntry
import Derived.Shelf.Abstract
import Derived.Test.YtmemofonebphfaaGreatP30
import Derived.Test.YtmemofonebphfaaGreatP35
import Derived.Test.YtmemofonebphfaaGreatP36
import Derived.Test.YtmemofonebphfaaGreatPT1
namespace Go.Proofs.YtmemofonebphfaaGreat
open Go.RowKit Go.Sort
theorem made_lev9 (s:ShpC):∀k:Nat,k≤stM s→((bareC (madeC s)).level k).p.length≤972+k*1200
 | 0,_=>by
  show (List.map _ (madeC s).points).length≤_
  rw [List.length_map]
  show (List.map _ _).length≤_
  rw [List.length_map,List.length_range]
  have:=(base_right s.kind s.bits).pts
  omega
 | k+1,h=>by
  have h1:=made_lev9 s k (by omega)
  have hr:=bare_right (made_right s)
  have h2:=level_edges (right_of hr) (show NoBack (bareC (madeC s)).tris from made_back s) k
  have h3:=made_few s
  have h4:4^k≤4^stM s:=Nat.pow_le_pow_right (by decide) (by omega)
  have h5:=Nat.mul_le_mul_right (baseT s.kind s.bits).length h4
  have h6:(bareC (madeC s)).tris.length=(baseT s.kind s.bits).length:=rfl
  rw [h6] at h2
  rw [Ctl.level_p]
  omega
set_option maxRecDepth 100000 in
set_option maxHeartbeats 64000000 in
theorem steps9_of (hmade:MadeSaid) (Ap Ac Ao Ad:Option Addr) (cp cc oc dc:Nat) (s:ShpC) (w:World) (hm:ShpA w w.heap.size Ap Ac Ao Ad s) (hb:fits s.bits) (hl:s.points.length≤9223372036854775807∧s.creases.length≤9223372036854775807∧s.corners.length≤9223372036854775807∧s.details.length≤9223372036854775807):
  Calls Tryz.prog 7 #[vShp s.kind s.bits s.steps Ap s.points.length cp Ac s.creases.length cc Ao s.corners.length oc Ad s.details.length dc] w fun e w'=>e= .returned (.bool true)∧Below w.heap.size w w':=by
 have kmade:=fun (W:World) (hW:Below w.heap.size w W)=>hmade Ap Ac Ao Ad cp cc oc dc s W (hm.below hW hW.size) hb hl
 have hrc:=bare_right (made_right s)
 have hbk:=made_back s
 have hsm:=made_small s
 have hlv:=made_lev9 s
 have hst4:=made_st s
 have hnc9:(madeC s).creases.length≤12:=by
  show (List.map _ _).length≤_
  rw [List.length_map,List.length_take]
  omega
 have hs0:(madeC s).steps=((stM s:Nat):Int):=rfl
 obtain ⟨k9,hk9⟩:∃k,k=stM s:=⟨_,rfl⟩
 rw [←hk9] at hst4 hs0
 simp only [←hk9] at hlv
 obtain ⟨c0,hc0⟩:∃c,c=madeC s:=⟨_,rfl⟩
 simp only [←hc0] at kmade hrc hbk hsm hlv hnc9 hs0
 obtain ⟨P,T,C,O,st,D⟩:=c0
 obtain rfl:st=(k9:Int):=hs0
 obtain ⟨st,hst⟩:∃x:Int,x=(k9:Int):=⟨_,rfl⟩
 rw [←hst] at kmade hrc hbk hsm hlv hnc9
 have hrc:errC (⟨P,T,C,O,st, []⟩:Ctl)=0:=hrc
 have hbk:NoBack T:=hbk
 have hbC:CtlB (⟨P,T,C,O,st, []⟩:Ctl):=⟨hsm.p,hsm.t,hsm.cr,hsm.o,(by show (0:Nat)≤100000;omega),by simp⟩
 have hlv:∀k,k≤k9→(((⟨P,T,C,O,st, []⟩:Ctl)).level k).p.length≤972+k*1200:=hlv
 have hfs:fits st:=by unfold fits;omega
 have kcopy:=fun (Ap At Ac Ao Ad:Option Addr) (cp ct cc oc dc:Nat) (W:World) (h:CtlM W W.heap.size Ap At Ac Ao Ad (⟨P,T,C,O,st, []⟩:Ctl))=>copy9_any Ap At Ac Ao Ad cp ct cc oc dc (⟨P,T,C,O,st, []⟩:Ctl) W h hbC
 have kf1:=fun (Ap At Ac Ao Ad:Option Addr) (cp ct cc oc dc:Nat) (W:World) (h:CtlM W W.heap.size Ap At Ac Ao Ad (⟨P,T,C,O,st, []⟩:Ctl))=>fine_any Ap At Ac Ao Ad cp ct cc oc dc (⟨P,T,C,O,st, []⟩:Ctl) W h hbC hfs (fun _=>hbk)
 have hsn:((⟨P,T,C,O,st, []⟩:Ctl)).steps.toNat=k9:=by show st.toNat=k9;omega
 have hfw:=fin_lens hbC (fun _=>hbk)
 have hff:=fin_fits (⟨P,T,C,O,st, []⟩:Ctl)
 have hft:=finT_fits hbC (fun _=>hbk)
 simp only [hrc] at kf1
 -- two steps or more
 have hbig:2≤st→errC (fstC (⟨P,T,C,O,st, []⟩:Ctl))=0∧(errC (secC (⟨P,T,C,O,st, []⟩:Ctl))=0∨errC (secC (⟨P,T,C,O,st, []⟩:Ctl))=3)∧(errC (secC (⟨P,T,C,O,st, []⟩:Ctl))=0→finP (secC (⟨P,T,C,O,st, []⟩:Ctl))=finP (⟨P,T,C,O,st, []⟩:Ctl)∧finT (secC (⟨P,T,C,O,st, []⟩:Ctl))=finT (⟨P,T,C,O,st, []⟩:Ctl))∧CtlB (secC (⟨P,T,C,O,st, []⟩:Ctl))∧NoBack (secC (⟨P,T,C,O,st, []⟩:Ctl)).tris:=fun h2=>by
  have hs1:1≤((⟨P,T,C,O,st, []⟩:Ctl)).steps:=by show 1≤st;omega
  have h1:=fst_right hrc rfl hs1
  obtain ⟨e1,e2⟩:=sec_fin hrc rfl hs1
  have hS:=(first_lev hrc rfl hs1 (((⟨P,T,C,O,st, []⟩:Ctl)).steps.toNat - 1) (by rw [hsn];omega)).1.1
  have hL:=Ctl.level_right (right_of hrc) hbk (((⟨P,T,C,O,st, []⟩:Ctl)).steps.toNat - 1)
  refine ⟨h1,sec_err hrc rfl hs1 hbk,fun hg=>sec_same hrc rfl hs1 hg,⟨?_,?_,?_,hbC.o,(by show (0:Nat)≤100000;omega),fun d hd=>(by cases hd)⟩,?_⟩
  ·show (finP (fstC (⟨P,T,C,O,st, []⟩:Ctl))).length≤100000
   rw [e1,←hS,hsn]
   have:=hlv (k9 - 1) (by omega)
   have hq:(k9 - 1)*1200≤4800:=by omega
   omega
  ·show (finT (fstC (⟨P,T,C,O,st, []⟩:Ctl))).length≤100000
   exact Nat.le_trans (fin_lens (c:=fstC (⟨P,T,C,O,st, []⟩:Ctl)) ⟨hbC.p,hbC.t,hbC.cr,hbC.o,hbC.d,hbC.dd⟩ (fun _=>hbk)).2 (by decide)
  ·show (splitC (⟨P,T,C,O,st, []⟩:Ctl) (((⟨P,T,C,O,st, []⟩:Ctl)).steps.toNat - 1)).length≤100000
   rw [split_len,hsn]
   have hp:2^(k9 - 1)≤2^4:=Nat.pow_le_pow_right (by decide) (by omega)
   have:=Nat.mul_le_mul hp hnc9
   exact Nat.le_trans this (by decide)
  ·show NoBack (finT (fstC (⟨P,T,C,O,st, []⟩:Ctl)))
   rw [e2]
   exact hL.cls.back
 have hbF:CtlB (⟨P,T,C,O,st - 1, []⟩:Ctl):=⟨hbC.p,hbC.t,hbC.cr,hbC.o,hbC.d,hbC.dd⟩
 have hfF:fits (st - 1):=by unfold fits;omega
 have hf1:fits 1:=by unfold fits;decide
 have kf2:=fun (h2:2≤st) (Ap At Ac Ao Ad:Option Addr) (cp ct cc oc dc:Nat) (W:World) (h:CtlM W W.heap.size Ap At Ac Ao Ad (⟨P,T,C,O,st - 1, []⟩:Ctl))=>fine_any Ap At Ac Ao Ad cp ct cc oc dc (⟨P,T,C,O,st - 1, []⟩:Ctl) W h hbF hfF (fun _=>hbk)
 have ksp:=fun (h2:2≤st) (Ap At Ac Ao Ad:Option Addr) (cp ct cc oc dc:Nat) (W:World) (h:CtlM W W.heap.size Ap At Ac Ao Ad (⟨P,T,C,O,st, []⟩:Ctl))=>split_any Ap At Ac Ao Ad cp ct cc oc dc (⟨P,T,C,O,st, []⟩:Ctl) W h hbC hrc hbk (by show 1≤st;omega) (Nat.le_trans hnc9 (by decide)) (fun k hk=>by have:=hlv k (by rw [hsn] at hk;exact hk);have hk2:k≤4:=by {rw [hsn] at hk;omega};omega)
 obtain ⟨Q,hQ⟩:∃x,x=finP (fstC (⟨P,T,C,O,st, []⟩:Ctl)):=⟨_,rfl⟩
 obtain ⟨U,hU⟩:∃x,x=finT (fstC (⟨P,T,C,O,st, []⟩:Ctl)):=⟨_,rfl⟩
 obtain ⟨SC,hSC⟩:∃x,x=splitC (⟨P,T,C,O,st, []⟩:Ctl) (((⟨P,T,C,O,st, []⟩:Ctl)).steps.toNat - 1):=⟨_,rfl⟩
 have hsec:secC (⟨P,T,C,O,st, []⟩:Ctl)=(⟨Q,U,SC,O,1, []⟩:Ctl):=by rw [hQ,hU,hSC];rfl
 have hfst:fstC (⟨P,T,C,O,st, []⟩:Ctl)=(⟨P,T,C,O,st - 1, []⟩:Ctl):=rfl
 rw [hsec,hfst] at hbig
 rw [hfst] at hQ hU
 have kf3:=fun (h2:2≤st) (Ap At Ac Ao Ad:Option Addr) (cp ct cc oc dc:Nat) (W:World) (h:CtlM W W.heap.size Ap At Ac Ao Ad (⟨Q,U,SC,O,1, []⟩:Ctl))=>fine_any Ap At Ac Ao Ad cp ct cc oc dc (⟨Q,U,SC,O,1, []⟩:Ctl) W h (hbig h2).2.2.2.1 hf1 (fun _=>(hbig h2).2.2.2.2)
 have hm1:2≤st→1≤((⟨P,T,C,O,st, []⟩:Ctl)).steps.toNat - 1:=fun h2=>by rw [hsn];omega
 obtain ⟨FP,hFP⟩:∃x,x=finP (⟨P,T,C,O,st, []⟩:Ctl):=⟨_,rfl⟩
 obtain ⟨FT,hFT⟩:∃x,x=finT (⟨P,T,C,O,st, []⟩:Ctl):=⟨_,rfl⟩
 obtain ⟨RP,hRP⟩:∃x,x=finP (⟨Q,U,SC,O,1, []⟩:Ctl):=⟨_,rfl⟩
 obtain ⟨RT,hRT⟩:∃x,x=finT (⟨Q,U,SC,O,1, []⟩:Ctl):=⟨_,rfl⟩
 obtain ⟨er,her⟩:∃x,x=errC (⟨Q,U,SC,O,1, []⟩:Ctl):=⟨_,rfl⟩
 simp only [←hFP,←hFT] at kf1 hfw hff hft hbig
 simp only [←hQ,←hU] at kf2
 simp only [←hRP,←hRT,←her] at kf3 hbig
 simp only [←hSC] at ksp
 dsimp only at kf1 kf2 kf3 ksp kcopy kmade
 obtain ⟨np,hnp⟩:∃n,n=P.length:=⟨_,rfl⟩
 obtain ⟨nt,hnt⟩:∃n,n=T.length:=⟨_,rfl⟩
 obtain ⟨nc,hnc⟩:∃n,n=C.length:=⟨_,rfl⟩
 obtain ⟨no,hno⟩:∃n,n=O.length:=⟨_,rfl⟩
 obtain ⟨nd,hnd⟩:∃n,n=D.length:=⟨_,rfl⟩
 obtain ⟨nP,hnP⟩:∃n,n=FP.length:=⟨_,rfl⟩
 obtain ⟨nT,hnT⟩:∃n,n=FT.length:=⟨_,rfl⟩
 obtain ⟨nQ,hnQ⟩:∃n,n=Q.length:=⟨_,rfl⟩
 obtain ⟨nU,hnU⟩:∃n,n=U.length:=⟨_,rfl⟩
 obtain ⟨nS,hnS⟩:∃n,n=SC.length:=⟨_,rfl⟩
 simp only [List.length_nil,←hnp,←hnt,←hnc,←hno,←hnP,←hnT,←hnQ,←hnU,←hnS] at kcopy kf1 kf2 kf3 ksp hfw
 have HK:=hide (And.intro kmade (And.intro kcopy (And.intro kf1 (And.intro kf2 (And.intro ksp kf3)))))
 have HL:=hide (And.intro hbig (And.intro hfw (And.intro hff (And.intro hft hm1))))
 have HN:=hide (And.intro hnp (And.intro hnt (And.intro hnc (And.intro hno hnd))))
 have HM:=hide (And.intro hnP (And.intro hnT (And.intro hnQ (And.intro hnU hnS))))
 have hstb:0≤st∧st≤4:=by omega
 clear hst hst4
 clear kmade kcopy kf1 kf2 ksp kf3 hbig hfw hff hft hm1 hnp hnt hnc hno hnd hnP hnT hnQ hnU hnS hFP hFT hRP hRT her hQ hU hSC hsec hfst hbF hfF hf1 hrc hbk hsm hlv hnc9 hbC hfs hsn hm hb hl hc0 hk9
 go_enter Tryz.func7,Tryz.ntmps7
 go_upto_region 1 with fail
 obtain ⟨g1,hg1⟩:∃g,g=w.heap.size:=⟨_,rfl⟩
 obtain ⟨X0,hX⟩:∃W,W=w.alloc (.cells (cShp s.kind s.bits s.steps Ap s.points.length cp Ac s.creases.length cc Ao s.corners.length oc Ad s.details.length dc) 25):=⟨_,rfl⟩
 rw [←hX,←hg1]
 have hb1:Blk X0 g1 25 (cShp s.kind s.bits s.steps Ap s.points.length cp Ac s.creases.length cc Ao s.corners.length oc Ad s.details.length dc):=by rw [hX,hg1];exact Blk.new _ _ _
 have hBX:Below w.heap.size w X0:=by rw [hX];exact (Below.refl _ w).alloc (Nat.le_refl _) _
 have H0:=hide (And.intro hb1 hBX)
 clear hb1 hBX hX hg1
 go_upto_region 2 with (go_at_call 13;refine (sanity9_any X0).mono ?_;rintro e X1 ⟨rfl,hB1⟩;have H1:=hide (And.intro (H0.out.1.below hB1 H0.out.1.lt) (H0.out.2.trans (hB1.mono H0.out.2.size)));clear hB1)
 obtain ⟨z0,z1,z2,z3,z4,z5,z6⟩:=H1.out.1.seven9
 have hgl:=H1.out.1.lt
 go_upto_region 3 with (go_at_call 15;refine (HK.out.1 X1 H1.out.2).mono ?_;rintro e X3 ⟨A1,A2,A3,A4,A5,k1,k2,k3,k4,k5,rfl,ht,hp,hcr,hco,hd,hB⟩;have H3:=hide (And.intro ht (And.intro hp (And.intro hcr (And.intro hco (And.intro hd hB)))));clear ht hp hcr hco hd hB)
 clear z0 z1 z2 z3 z4 z5 z6 hgl
 try dsimp only
 try simp only [←HN.out.1,←HN.out.2.1,←HN.out.2.2.1,←HN.out.2.2.2.1,←HN.out.2.2.2.2]
 obtain ⟨g4,hg4⟩:∃g,g=X3.heap.size:=⟨_,rfl⟩
 obtain ⟨X4,hX4⟩:∃W,W=X3.alloc (.cells (cMad (.slice A1 np k1) (.slice A2 nt k2) (.slice A3 nc k3) (.slice A4 no k4) st (.slice A5 nd k5)) 32):=⟨_,rfl⟩
 rw [←hX4,←hg4]
 have hBa:Below X3.heap.size X3 X4:=by rw [hX4];exact (Below.refl _ _).alloc (Nat.le_refl _) _
 have hS4:CtE X1 X4 g4 (.slice A1 np k1) (.slice A2 nt k2) (.slice A3 nc k3) (.slice A4 no k4) (.slice A5 nd k5) ⟨P,T,C,O,st,D⟩:=by
  have hz:=H3.out.2.2.2.2.2.size
  have hb6:Blk X4 g4 32 (cMad (.slice A1 np k1) (.slice A2 nt k2) (.slice A3 nc k3) (.slice A4 no k4) st (.slice A5 nd k5)):=by rw [hX4,hg4];exact Blk.new _ _ _
  rw [HN.out.1,HN.out.2.1,HN.out.2.2.1,HN.out.2.2.2.1,HN.out.2.2.2.2] at hb6⊢
  exact ⟨H3.out.2.2.2.2.2.trans (hBa.mono hz),hb6,by omega,H3.out.2.1.below hBa (Nat.le_refl _),H3.out.1.below hBa (Nat.le_refl _),H3.out.2.2.1.below hBa (Nat.le_refl _),H3.out.2.2.2.1.below hBa (Nat.le_refl _),H3.out.2.2.2.2.1.below hBa (Nat.le_refl _)⟩
 have c5:=hS4.b.cell 5
 have f5:=hS4.b.frozen 5
 have hg6l:=hS4.b.lt
 have HS4:=hide hS4
 clear hS4 hX4 hg4 hBa
 go_upto_region 4 with fail
 obtain ⟨V,hV⟩:∃W,W=X4.setCell ⟨g4,5,none⟩ (.slice none 0 0):=⟨_,rfl⟩
 rw [←hV]
 have hS:CtE X1 V g4 (.slice A1 np k1) (.slice A2 nt k2) (.slice A3 nc k3) (.slice A4 no k4) (.slice none 0 0) ⟨P,T,C,O,st, []⟩:=by rw [hV];exact HS4.out.in_d Pcs.nil
 have hctl:CtlM V V.heap.size A1 A2 A3 A4 none (⟨P,T,C,O,st, []⟩:Ctl):=by
  have h:=hS
  rw [HN.out.1,HN.out.2.1,HN.out.2.2.1,HN.out.2.2.2.1] at h
  exact CtE.ctl (c:=(⟨P,T,C,O,st, []⟩:Ctl)) (Ad:=none) (dc:=0) h
 obtain ⟨z0,z1,z2,z3,z4,z5⟩:=hS.b.six9
 have hg4l:=hS.b.lt
 have HS:=hide (And.intro hS.b (And.intro hctl (H1.out.2.trans (hS.bel.mono H1.out.2.size))))
 clear c5 f5 hg6l hV hS hctl
 by_cases h2:2≤st
 ·have n2:¬st < 2:=by omega
  obtain ⟨he1,he2,he3,_⟩:=HL.out.1 h2
  have kf2:=HK.out.2.2.2.1 h2
  rw [he1] at kf2
  have HF:=hide (And.intro kf2 (And.intro he2 he3))
  clear kf2 he1 he2 he3
  go_upto_region 7 with (go_at_call 18;refine (HK.out.2.2.1 _ _ _ _ _ _ _ _ _ _ V HS.out.2.1).mono ?_;rintro e Y1 ⟨F1,c1,F2,c2,rfl,hP,hT,hB⟩;have J1:=hide (And.intro (hP.sl encP_len (Nat.le_refl _)) (And.intro (hT.sl encN3_len (Nat.le_refl _)) (And.intro (HS.out.1.below hB HS.out.1.lt) (And.intro (HS.out.2.1.below hB hB.size) (HS.out.2.2.trans (hB.mono HS.out.2.2.size))))));clear hP hT hB)
  clear z0 z1 z2 z3 z4 z5 hg4l n2
  obtain ⟨z0,z1,z2,z3,z4,z5⟩:=J1.out.2.2.1.six9
  have hg4l:=J1.out.2.2.1.lt
  go_upto_region 8 with (go_at_call 21;refine (HK.out.2.1 _ _ _ _ _ _ _ _ _ _ Y1 J1.out.2.2.2.1).mono ?_;rintro e Y2 ⟨BB,B1,B2,B3,B4,B5,b1,b2,b3,b4,b5,rfl,ht1,hp1,hc1,ho1,hd1,hlb,hB1⟩;have J2:=hide (And.intro (And.intro ht1 (And.intro hp1 (And.intro hc1 (And.intro ho1 hd1)))) (And.intro hlb hB1));clear ht1 hp1 hc1 ho1 hd1 hlb hB1)
  clear z0 z1 z2 z3 z4 z5 hg4l
  try dsimp only
  try simp only [←HN.out.1,←HN.out.2.1,←HN.out.2.2.1,←HN.out.2.2.2.1]
  obtain ⟨g8,hg8⟩:∃g,g=Y2.heap.size:=⟨_,rfl⟩
  obtain ⟨Y3,hY3⟩:∃W,W=Y2.alloc (.cells (cMad (.slice B1 np b1) (.slice B2 nt b2) (.slice B3 nc b3) (.slice B4 no b4) st (.slice B5 0 b5)) 32):=⟨_,rfl⟩
  rw [←hY3,←hg8]
  have hBa:Below Y2.heap.size Y2 Y3:=by rw [hY3];exact (Below.refl _ _).alloc (Nat.le_refl _) _
  have hS2:CtE Y1 Y3 g8 (.slice B1 np b1) (.slice B2 nt b2) (.slice B3 nc b3) (.slice B4 no b4) (.slice B5 0 b5) (⟨P,T,C,O,st, []⟩:Ctl):=by
   have hz:=J2.out.2.2.size
   have hb9:Blk Y3 g8 32 (cMad (.slice B1 np b1) (.slice B2 nt b2) (.slice B3 nc b3) (.slice B4 no b4) st (.slice B5 0 b5)):=by rw [hY3,hg8];exact Blk.new _ _ _
   rw [HN.out.1,HN.out.2.1,HN.out.2.2.1,HN.out.2.2.2.1] at hb9⊢
   have hl:=J2.out.2.1
   exact ⟨J2.out.2.2.trans (hBa.mono hz),hb9,by omega,J2.out.1.2.1.below hBa (Nat.le_refl _),J2.out.1.1.below hBa (Nat.le_refl _),J2.out.1.2.2.1.below hBa (Nat.le_refl _),J2.out.1.2.2.2.1.below hBa (Nat.le_refl _),(J2.out.1.2.2.2.2.base_le hl.1).below hBa (Nat.le_refl _)⟩
  have c4:=hS2.b.cell 4
  have f4:=hS2.b.frozen 4
  have hg8l:=hS2.b.lt
  have z4:=(hS2.bel.cell (p:=⟨g4,4,none⟩) J1.out.2.2.1.lt).trans (J1.out.2.2.1.cell 4)
  have hg4l:g4 < Y3.heap.size:=Nat.lt_of_lt_of_le J1.out.2.2.1.lt hS2.bel.size
  have w1:IntKind.i64.wrap (st - 1)=st - 1:=IntWalk.i64_in _ (by omega)
  have HO:=hide hS2
  clear hS2 hY3 hg8 hBa
  go_upto_region 9 with fail
  obtain ⟨Y4,hY4⟩:∃W,W=Y3.setCell ⟨g8,4,none⟩ (.int .i64 (st - 1)):=⟨_,rfl⟩
  rw [←hY4]
  have hS5:CtE Y1 Y4 g8 (.slice B1 np b1) (.slice B2 nt b2) (.slice B3 nc b3) (.slice B4 no b4) (.slice B5 0 b5) (⟨P,T,C,O,st - 1, []⟩:Ctl):=by rw [hY4];exact HO.out.low9 (st - 1)
  have hctd:CtlM Y4 Y4.heap.size B1 B2 B3 B4 B5 (⟨P,T,C,O,st - 1, []⟩:Ctl):=by
   have h:=hS5
   rw [HN.out.1,HN.out.2.1,HN.out.2.2.1,HN.out.2.2.2.1] at h
   exact CtE.ctl (c:=(⟨P,T,C,O,st - 1, []⟩:Ctl)) (dc:=b5) h
  clear c4 f4 z4 hg4l w1
  obtain ⟨z0,z1,z2,z3,z4,z5⟩:=hS5.b.six9
  have hb4:=J1.out.2.2.1.below hS5.bel J1.out.2.2.1.lt
  have HD:=hide (And.intro hctd (And.intro hS5.bel hb4))
  have hg8l:=hS5.b.lt
  clear hS5 hctd hb4 hY4
  go_upto_region 10 with (go_at_call 18;refine (HF.out.1 _ _ _ _ _ _ _ _ _ _ Y4 HD.out.1).mono ?_;rintro e Y5 ⟨F3,c3,F4,c4,rfl,hP,hT,hB⟩;have J3:=hide (And.intro (hP.sl encP_len (Nat.le_refl _)) (And.intro (hT.sl encN3_len (Nat.le_refl _)) (And.intro (HD.out.2.1.trans (hB.mono HD.out.2.1.size)) (HD.out.2.2.below hB HD.out.2.2.lt))));clear hP hT hB)
  clear z0 z1 z2 z3 z4 z5 hg8l
  have hcc:=J1.out.2.2.2.1.below J3.out.2.2.1 J3.out.2.2.1.size
  have HC5:=hide hcc
  clear hcc
  obtain ⟨z0,z1,z2,z3,z4,z5⟩:=J3.out.2.2.2.six9
  have hg4l:=J3.out.2.2.2.lt
  go_cut [12] (fun v wx=>∃(g9:Nat) (A9:Option Addr) (k9':Nat),v= .pointer (some ⟨g9,0,none⟩)∧Blk wx g9 32 (cMad (.slice F3 nQ c3) (.slice F4 nU c4) (.slice A9 nS k9') (.slice A4 no k4) 1 (.slice none 0 0))∧Sl encE2 2 wx wx.heap.size A9 SC∧Below Y5.heap.size Y5 wx)
  case first=>
   have HSB:=hide (show Below Y5.heap.size Y5 Y5.drew from (Below.refl _ Y5).drew)
   refine wp_region_tree (fun W=>Below Y5.heap.size Y5 W) [0,1,2,3,4,6] (.q 0 (.q 1 (.q 2 (.q 3 (.q 4 (.two 5 (.q 6 (.one 7 (.one 8 .nil))) 7 (.one 5 (.q 6 (.one 8 .nil))))))))) mixed_ok (by kernel_rfl) ?_
   refine wpMixT_q (v:=(.slice F3 nQ c3)) rfl (fun _ _ _ h=>h) HSB.out ⟨rfl,fun _ _=>by simp [go_sem]⟩ ?_
   refine wpMixT_q (v:=(.slice F4 nU c4)) rfl (fun _ _ _ h=>h) HSB.out ⟨rfl,fun _ _=>by simp [go_sem]⟩ ?_
   refine wpMixT_q (v:=(.pointer (some ⟨g4,3,none⟩))) rfl (fun _ _ _ h=>h) HSB.out ⟨rfl,fun _ _=>by simp [go_sem]⟩ ?_
   refine wpMixT_q (v:=(.slice A4 no k4)) rfl (fun _ _ _ h=>h) HSB.out ⟨rfl,fun _ h'=>by have a0:=(h'.cell (p:=⟨g4,3,none⟩) hg4l).trans z3;simp [go_sem,a0]⟩ ?_
   refine wpMixT_q (v:=(.agg (cCtl A1 np k1 A2 nt k2 A3 nc k3 A4 no k4 st none 0 0))) rfl (fun _ _ _ h=>h) HSB.out ⟨rfl,fun _ h'=>by have a0:=(h'.cell (p:=⟨g4,0,none⟩) hg4l).trans z0;have a1:=(h'.cell (p:=⟨g4,1,none⟩) hg4l).trans z1;have a2:=(h'.cell (p:=⟨g4,2,none⟩) hg4l).trans z2;have a3:=(h'.cell (p:=⟨g4,3,none⟩) hg4l).trans z3;have a4:=(h'.cell (p:=⟨g4,4,none⟩) hg4l).trans z4;have a5:=(h'.cell (p:=⟨g4,5,none⟩) hg4l).trans z5;simp [go_sem,a0,a1,a2,a3,a4,a5]⟩ ?_
   simp only [List.getElem_toArray,List.getElem_cons_succ,List.getElem_cons_zero,Act.put,List.setIfInBounds_toArray,List.set_cons_succ,List.set_cons_zero]
   refine wpMixT_two rfl rfl ?_ ?_
   ·skip
    go_wp2_with fail
    refine (HK.out.2.2.2.2.1 h2 _ _ _ _ _ _ _ _ _ _ Y5.drew (HC5.out.below HSB.out HSB.out.size)).mono ?_
    rintro e W3 ⟨A9,k9x,rfl,hs9,how,hB⟩
    have how:=how (HL.out.2.2.2.2 h2)
    have H3:=hide (And.intro how (HSB.out.trans (hB.mono HSB.out.size)))
    try rw [←HM.out.2.2.2.2]
    clear hs9 how hB
    go_wp2_with fail
    refine ⟨fun _=>H3.out.2,?_⟩
    refine wpMixT_q (v:=(.agg #[(.slice F3 nQ c3),(.slice F4 nU c4),(.slice A9 nS k9x),(.slice A4 no k4),(.int .i64 1),(.slice none 0 0)])) rfl (fun _ _ _ h=>h) H3.out.2 ⟨rfl,fun _ _=>by simp [go_sem]⟩ ?_
    simp only [List.getElem_toArray,List.getElem_cons_succ,List.getElem_cons_zero,Act.put,List.setIfInBounds_toArray,List.set_cons_succ,List.set_cons_zero]
    refine wpMixT_one rfl ?_
    go_wp2_with fail
    obtain ⟨g9,hg9⟩:∃g,g=W3.heap.size:=⟨_,rfl⟩
    obtain ⟨Zz,hZz⟩:∃W,W=W3.alloc (.cells (cCtl none 0 0 none 0 0 none 0 0 none 0 0 0 none 0 0) 32):=⟨_,rfl⟩
    rw [←hZz,←hg9]
    have hBz:Below W3.heap.size W3 Zz:=by rw [hZz];exact (Below.refl _ _).alloc (Nat.le_refl _) _
    have hbz:Blk Zz g9 32 (cCtl none 0 0 none 0 0 none 0 0 none 0 0 0 none 0 0):=by rw [hZz,hg9];exact Blk.new W3 _ _
    have hSz:Below Y5.heap.size Y5 Zz:=H3.out.2.trans (hBz.mono H3.out.2.size)
    have HZz:=hide (And.intro hbz (And.intro hSz hBz))
    have hgz:Y5.heap.size≤g9:=by rw [hg9];exact H3.out.2.size
    have HG:=hide hg9
    clear hBz hbz hSz hZz hg9
    refine ⟨fun _=>by first | exact HZz.out.2.1 | (rw [HG.out];exact HZz.out.2.1),?_⟩
    refine wpMixT_one rfl ?_
    have f0:=HZz.out.1.frozen 0
    have f1:=HZz.out.1.frozen 1
    have f2:=HZz.out.1.frozen 2
    have f3:=HZz.out.1.frozen 3
    have f4:=HZz.out.1.frozen 4
    have f5:=HZz.out.1.frozen 5
    have hlz:=HZz.out.1.lt
    obtain ⟨p0,p1,p2,p3,p4,p5⟩:=HZz.out.1.six9
    go_wp2_with fail
    refine ⟨fun h=>absurd (h.symm.trans (show _=false by kernel_rfl)) (by simp),?_⟩
    refine wpMixT_nil ?_
    go_wp2_with fail
    go_meet
    case rel=>
     have hgw:=setW_grown g9 [(.slice F3 nQ c3),(.slice F4 nU c4),(.slice A9 nS k9x),(.slice A4 no k4),(.int .i64 1),(.slice none 0 0)] Zz 0
     exact ⟨g9,A9,k9x,rfl,((((((HZz.out.1.set_ 0 (.slice F3 nQ c3)).set_ 1 (.slice F4 nU c4)).set_ 2 (.slice A9 nS k9x)).set_ 3 (.slice A4 no k4)).set_ 4 (.int .i64 1)).set_ 5 (.slice none 0 0)),((H3.out.1.below HZz.out.2.2 (Nat.le_refl _)).step hgw (ctl_row HZz.out.1 (by decide) _)).sl encE2_len (Nat.le_refl _),HZz.out.2.1.trans (grown_bel hgw hgz HZz.out.2.1.size)⟩
   ·skip
    go_wp2_with fail
    obtain ⟨g9,hg9⟩:∃g,g=Y5.heap.size:=⟨_,rfl⟩
    obtain ⟨Zz,hZz⟩:∃W,W=(Y5.alloc (.cells (cCtl none 0 0 none 0 0 none 0 0 none 0 0 0 none 0 0) 32)).drew:=⟨_,rfl⟩
    rw [←hZz,←hg9]
    have hBz:Below Y5.heap.size Y5 Zz:=by rw [hZz];exact ((Below.refl _ _).alloc (Nat.le_refl _) _).drew
    have hbz:Blk Zz g9 32 (cCtl none 0 0 none 0 0 none 0 0 none 0 0 0 none 0 0):=by rw [hZz,hg9];exact Blk.new Y5 _ _
    have hSz:Below Y5.heap.size Y5 Zz:=(Below.refl Y5.heap.size Y5).trans (hBz.mono (Below.refl Y5.heap.size Y5).size)
    have HZz:=hide (And.intro hbz (And.intro hSz hBz))
    have hgz:Y5.heap.size≤g9:=by rw [hg9];exact (Below.refl Y5.heap.size Y5).size
    have HG:=hide hg9
    clear hBz hbz hSz hZz hg9
    refine ⟨fun _=>by first | exact HZz.out.2.1 | (rw [HG.out];exact HZz.out.2.1),?_⟩
    refine wpMixT_one rfl ?_
    go_wp2_with fail
    refine (HK.out.2.2.2.2.1 h2 _ _ _ _ _ _ _ _ _ _ Zz (HC5.out.below HZz.out.2.1 HZz.out.2.1.size)).mono ?_
    rintro e W3 ⟨A9,k9x,rfl,hs9,how,hB⟩
    have how:=how (HL.out.2.2.2.2 h2)
    have H3:=hide (And.intro how (HZz.out.2.1.trans (hB.mono HZz.out.2.1.size)))
    try rw [←HM.out.2.2.2.2]
    have hbX:=HZz.out.1.below hB HZz.out.1.lt
    have HBX:=hide hbX
    clear hbX hs9 how hB
    go_wp2_with fail
    refine ⟨fun _=>by first | exact H3.out.2 | (rw [HG.out];exact H3.out.2),?_⟩
    refine wpMixT_q (v:=(.agg #[(.slice F3 nQ c3),(.slice F4 nU c4),(.slice A9 nS k9x),(.slice A4 no k4),(.int .i64 1),(.slice none 0 0)])) rfl (fun _ _ _ h=>h) (by first | exact H3.out.2 | (rw [HG.out];exact H3.out.2)) ⟨rfl,fun _ _=>by simp [go_sem]⟩ ?_
    simp only [List.getElem_toArray,List.getElem_cons_succ,List.getElem_cons_zero,Act.put,List.setIfInBounds_toArray,List.set_cons_succ,List.set_cons_zero]
    refine wpMixT_one rfl ?_
    have f0:=HBX.out.frozen 0
    have f1:=HBX.out.frozen 1
    have f2:=HBX.out.frozen 2
    have f3:=HBX.out.frozen 3
    have f4:=HBX.out.frozen 4
    have f5:=HBX.out.frozen 5
    have hlz:=HBX.out.lt
    obtain ⟨p0,p1,p2,p3,p4,p5⟩:=HBX.out.six9
    go_wp2_with fail
    refine ⟨fun h=>absurd (h.symm.trans (show _=false by kernel_rfl)) (by simp),?_⟩
    refine wpMixT_nil ?_
    go_wp2_with fail
    go_meet
    case rel=>
     have hgw:=setW_grown g9 [(.slice F3 nQ c3),(.slice F4 nU c4),(.slice A9 nS k9x),(.slice A4 no k4),(.int .i64 1),(.slice none 0 0)] W3 0
     exact ⟨g9,A9,k9x,rfl,((((((HBX.out.set_ 0 (.slice F3 nQ c3)).set_ 1 (.slice F4 nU c4)).set_ 2 (.slice A9 nS k9x)).set_ 3 (.slice A4 no k4)).set_ 4 (.int .i64 1)).set_ 5 (.slice none 0 0)),(H3.out.1.step hgw (ctl_row HBX.out (by decide) _)).sl encE2_len (Nat.le_refl _),H3.out.2.trans (grown_bel hgw hgz H3.out.2.size)⟩
  case rest=>
   obtain ⟨g9,A9,k9',rfl,hb9,hs9,hB9⟩:=hcut
   obtain ⟨Z,rfl⟩:∃x,x=wc:=⟨_,rfl⟩
   have hcs:CtlM Z Z.heap.size F3 F4 A9 A4 none (⟨Q,U,SC,O,1, []⟩:Ctl):=⟨(J3.out.1.below hB9).more hB9.size,(J3.out.2.1.below hB9).more hB9.size,hs9,(HC5.out.o.below hB9).more hB9.size,⟨[],Sl.nil,rfl,fun i d hd=>by cases hd⟩⟩
   obtain ⟨y0,y1,y2,y3,y4,y5⟩:=hb9.six9
   have hg9l:=hb9.lt
   have HZ:=hide (And.intro hcs hB9)
   clear hb9 hs9 hB9 hcs z0 z1 z2 z3 z4 z5 hg4l
   go_upto_region 12 with (go_at_call 18;refine (HK.out.2.2.2.2.2 h2 _ _ _ _ _ _ _ _ _ _ Z HZ.out.1).mono ?_;rintro e Z1 ⟨F5,c5,F6,c6,rfl,hP,hT,hB⟩;have J4:=hide (And.intro (hP.sl encP_len (Nat.le_refl _)) (And.intro (hT.sl encN3_len (Nat.le_refl _)) (HZ.out.2.trans (hB.mono HZ.out.2.size))));clear hP hT hB)
   clear y0 y1 y2 y3 y4 y5 hg9l
   have hBw:=J1.out.2.2.2.2.trans ((J3.out.2.2.1.trans (J4.out.2.2.mono J3.out.2.2.1.size)).mono J1.out.2.2.2.2.size)
   have HBw:=hide hBw
   clear hBw
   rcases HF.out.2.1 with h0 | h3
   ·obtain ⟨hpe,hte⟩:=HF.out.2.2 h0
    subst h0
    obtain rfl:RP=FP:=hpe
    obtain rfl:RT=FT:=hte
    have hBY:Below Y1.heap.size Y1 Z1:=J3.out.2.2.1.trans (J4.out.2.2.mono J3.out.2.2.1.size)
    have kp:=pts4_any F1 F5 c1 c5 RP RP Z1 Z1.heap.size Z1.heap.size ((J1.out.1.below hBY).more hBY.size) J4.out.1 (by have:=HL.out.2.1.1;rw [←HM.out.1];omega) (by have:=HL.out.2.1.1;rw [←HM.out.1];omega) HL.out.2.2.1 HL.out.2.2.1
    have kt:=fun (W:World) (hW:Below Z1.heap.size Z1 W)=>sameTris_any F2 F6 c2 c6 RT RT W Z1.heap.size Z1.heap.size (((J1.out.2.1.below hBY).more hBY.size).below hW) (J4.out.2.1.below hW) (by have:=HL.out.2.1.2;rw [←HM.out.2.1];omega) (by have:=HL.out.2.1.2;rw [←HM.out.2.1];omega) HL.out.2.2.2.1 HL.out.2.2.2.1
    simp only [←HM.out.1,←HM.out.2.1,decide_true] at kp kt
    have HP:=hide (And.intro kp kt)
    clear kp kt hBY
    try rw [←HM.out.1]
    try rw [←HM.out.2.1]
    go_upto_region 17 with (go_at_call 24;refine HP.out.1.mono ?_;rintro e Z2 ⟨rfl,k5,hX5⟩;have H5:=hide (show Below Z1.heap.size Z1 Z2 from by rw [hX5];exact below_drewN (Below.refl Z1.heap.size Z1) k5);clear hX5)
    go_upto_region 18 with (go_at_call 25;refine (HP.out.2 _ H5.out).mono ?_;rintro e Z3 ⟨rfl,k6,hX6⟩;have H6:=hide (show Below w.heap.size w Z3 from by rw [hX6];exact HBw.out.trans ((below_drewN H5.out k6).mono HBw.out.size));clear hX6)
    go_wp2
    go_ret
    exact ⟨rfl,H6.out⟩
   ·subst h3
    go_wp2
    go_ret
    exact ⟨rfl,HBw.out⟩
 ·have n2:st < 2:=by omega
  go_wp2
  go_ret
  exact ⟨rfl,HS.out.2.2⟩
end Go.Proofs.YtmemofonebphfaaGreat
