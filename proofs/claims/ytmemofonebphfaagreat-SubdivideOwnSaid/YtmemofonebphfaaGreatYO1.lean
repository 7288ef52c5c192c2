import Derived.WalkKit
import Derived.WalkSpells
import Derived.WalkLawsBesides
import Derived.Laws.OwnMore
import Derived.Deep.AppendLies
import Derived.Deep.Draws
import Derived.Test.YtmemofonebphfaaGreatRows
import Derived.Handy
import Derived.Maps.Own
import Derived.Maps.Views
import Derived.DeepKeys4
import Derived.RangeFuncBox
import Derived.DeepKeys
import Derived.Laws.StructEq
import Derived.Sort.Grow
import Derived.Deep.QuietTactic
import Derived.BigQuiet
import Derived.LoopN
import Derived.Laws.EntriesVeiled
import Derived.Shelf.SlSortCmp.QuietGrown
import Derived.Deep.RegionHeld3
import Derived.Deep.DrawnRows
import Derived.Maps.AppendAt
import Derived.OwnWalk
import Derived.Shelf.GgSortFunc.RowK
import Derived.RangeFuncNested
import Derived.Sort.Statements
import Derived.Shelf.SlSortCmp.NoneTotal
import Derived.OrdersHeld
import Derived.OrdersIn
import Derived.RangeFuncCalls
import Derived.OwnWalkIn
import Derived.Deep.CutBlock
import Derived.Deep.DeepCutAuto
import Derived.StillTailTactics
import Derived.BigRegion
import Derived.Test.YtmemofonebphfaaGreatProg
import Derived.IntWalk
import Derived.Deep.WholeRow
import Derived.Great.BuildSlice
import Derived.Great.Walk
import Derived.Maps.OwnSet
import Derived.Maps.RangeWalk
import Derived.Deep.MidRow
import Derived.Shelf.RegionOpen
import Derived.Shelf.SlicesE.Clone
import Derived.WideKeyEntry
import Derived.Shelf.Abstract
import Derived.Test.YtmemofonebphfaaGreatY35
namespace Go.Proofs.YtmemofonebphfaaGreat
open Go.RowKit Go.Sort
set_option maxRecDepth 100000 in
theorem litsE2 (e:E2) (h:fits2 e):Tryz.prog.keyLits 2 56 (encE2 e)=some [.int .i64 e.1, .int .i64 e.2]:=by
 have c:Tryz.prog.cellsOf 3=1:=by kernel_rfl
 have c2:Tryz.prog.cellsOf 56=2:=by kernel_rfl
 have w0:=fits_wf h.1
 have w1:=fits_wf h.2
 simp [encE2,Program.keyLits,Tryz.underlying56,Tryz.underlying3,c,c2,List.range_succ,w0,w1]
set_option maxRecDepth 100000 in
theorem eqE2 (a b:E2) (ha:fits2 a) (hb:fits2 b) (w:World):(Op.equalIn 10000 56 (vE2 a) (vE2 b)).run Tryz.prog w= .ok (decide (a=b)) w:=by
 have c:Tryz.prog.cellsOf 56=2:=by kernel_rfl
 obtain ⟨r,hr,he⟩:=run_equalIn_deep (P:=Tryz.prog) 9998 2 56 (by kernel_rfl) w 2 2 (vE2 a) (vE2 b) _ _ (by simp [Value.formed,Tryz.underlying56,c]) (by simp [Value.formed,Tryz.underlying56,c]) (litsE2 a ha) (litsE2 b hb)
 rw [hr]
 have:r=decide (a=b):=by
  rw [Bool.eq_iff_iff,he]
  obtain ⟨a1,a2⟩:=a
  obtain ⟨b1,b2⟩:=b
  simp
 rw [this]
end Go.Proofs.YtmemofonebphfaaGreat
namespace Go.Proofs.YtmemofonebphfaaGreat
open Go.RowKit Go.Sort
set_option maxRecDepth 100000 in
theorem litsN3 (e:Pt) (h:fitsP e):Tryz.prog.keyLits 2 35 (encN3 e)=some [.int .i64 e.1, .int .i64 e.2.1, .int .i64 e.2.2]:=by
 have c:Tryz.prog.cellsOf 3=1:=by kernel_rfl
 have c2:Tryz.prog.cellsOf 35=3:=by kernel_rfl
 have w0:=fits_wf h.1
 have w1:=fits_wf h.2.1
 have w2:=fits_wf h.2.2
 simp [encN3,Program.keyLits,Tryz.underlying35,Tryz.underlying3,c,c2,List.range_succ,w0,w1,w2]
set_option maxRecDepth 100000 in
theorem eqN3 (a b:Pt) (ha:fitsP a) (hb:fitsP b) (w:World):(Op.equalIn 10000 35 (vP a) (vP b)).run Tryz.prog w= .ok (decide (a=b)) w:=by
 have c:Tryz.prog.cellsOf 35=3:=by kernel_rfl
 obtain ⟨r,hr,he⟩:=run_equalIn_deep (P:=Tryz.prog) 9998 2 35 (by kernel_rfl) w 2 2 (vP a) (vP b) _ _ (by simp [Value.formed,Tryz.underlying35,c]) (by simp [Value.formed,Tryz.underlying35,c]) (litsN3 a ha) (litsN3 b hb)
 rw [hr]
 have:r=decide (a=b):=by
  rw [Bool.eq_iff_iff,he]
  obtain ⟨a1,a2,a3⟩:=a
  obtain ⟨b1,b2,b3⟩:=b
  simp
 rw [this]
set_option maxHeartbeats 2000000 in
theorem sameTris_any (A B:Option Addr) (c d:Nat) (xs ys:List Pt) (w:World) (n1 n2:Nat) (hx:Sl encN3 3 w n1 A xs) (hy:Sl encN3 3 w n2 B ys) (hlx:xs.length≤4294967296) (_hly:ys.length≤4294967296) (hfx:∀t∈xs,fitsP t) (hfy:∀t∈ys,fitsP t):
  Calls Tryz.prog 25 #[.slice A xs.length c, .slice B ys.length d] w fun e w'=>e= .returned (.bool (decide (xs=ys)))∧∃k,w'=w.drewN k:=by
 go_enter Tryz.func25,Tryz.ntmps25
 by_cases hl:xs.length=ys.length
 ·rw [←hl]
  go_wp2
  go_loopw [5] (fun i wr=>∃k n:Nat,k≤xs.length∧i= .int .i64 k∧xs.take k=ys.take k∧wr=w.drewN n) (fun i _=>xs.length - (intOf i).toNat)
  case atStart=>exact ⟨0,0,Nat.zero_le _,rfl,rfl,rfl⟩
  case round=>
   obtain ⟨k,n,hk,rfl,htk,rfl⟩:=hrel
   by_cases hlt:k < xs.length
   ·obtain ⟨u,hu⟩:∃u,xs[k]? =some u:=⟨_,List.getElem?_eq_getElem hlt⟩
    obtain ⟨v,hv⟩:∃v,ys[k]? =some v:=⟨_,List.getElem?_eq_getElem (by omega)⟩
    obtain ⟨bA,oA,rfl,_,g0,g1,g2⟩:=hx.n3 hu
    obtain ⟨bB,oB,rfl,_,k0,k1,k2⟩:=hy.n3 hv
    have hq:=eqN3 u v (hfx u (List.mem_of_getElem? hu)) (hfy v (List.mem_of_getElem? hv))
    have H:=hide (And.intro hx (And.intro hy (And.intro hu (And.intro hv (And.intro htk hl)))))
    have i1:(k:Int) < (xs.length:Int):=by omega
    clear hx hy hu hv htk hl
    have htk1:=take_succ_eq H.out.2.2.1 H.out.2.2.2.1 H.out.2.2.2.2.1
    have HT:=hide htk1
    clear htk1
    by_cases huv:u=v
    ·have hd:decide (u=v)=true:=by simp [huv]
     rw [hd] at hq
     have HU:=hide huv
     clear huv hd
     go_wp2_with fail
     go_quiet (fail)
     go_wp2
     go_roundw
     case rel=>exact ⟨k+1,n+nq,by omega,by go_num,HT.out.2 HU.out,rfl⟩
     case measure=>simp [intOf];omega
    ·have hd:decide (u=v)=false:=by simp [huv]
     rw [hd] at hq
     have HU:=hide huv
     clear huv hd
     go_wp2_with fail
     go_quiet (fail)
     go_wp2
     go_ret
     refine ⟨?_,n+nq,by simp [World.drewN,Nat.add_assoc]⟩
     have:¬xs=ys:=fun e=>HU.out (HT.out.1 (by rw [e]))
     simp [this]
   ·have hke:k=xs.length:=by omega
    have hxy:xs=ys:=by
     rw [hke,List.take_length,hl,List.take_length] at htk
     exact htk
    have HX:=hide hxy
    clear hxy htk hx hy
    go_wp2
    go_ret
    exact ⟨by simp [HX.out],n,rfl⟩
 ·have hne:¬((xs.length:Int)=(ys.length:Int)):=by omega
  have hne2:¬xs=ys:=fun e=>hl (by rw [e])
  have HN:=hide hne2
  clear hx hy hne2
  go_wp2
  go_ret
  exact ⟨by simp [HN.out],0,rfl⟩
end Go.Proofs.YtmemofonebphfaaGreat
namespace Go.Proofs.YtmemofonebphfaaGreat
open Go.RowKit Go.Sort
structure FitC (c:Ctl):Prop where
 p:∀x∈c.points,fitsP x
 t:∀x∈c.tris,fitsP x
 cr:∀e∈c.creases,fits2 e
 o:∀i∈c.corners,fits i
 d:∀d∈c.details,∀x∈d,fitsP x
set_option maxRecDepth 100000 in
set_option maxHeartbeats 64000000 in
theorem same9_true (A1 A2 A3 A4 A5 B1 B2 B3 B4 B5:Option Addr) (a1 a2 a3 a4 a5 b1 b2 b3 b4 b5:Nat) (c:Ctl) (w:World) (ha:CtlM w w.heap.size A1 A2 A3 A4 A5 c) (hb:CtlM w w.heap.size B1 B2 B3 B4 B5 c) (hB:CtlB c) (hf:FitC c):
  Calls Tryz.prog 34 #[vCtl A1 c.points.length a1 A2 c.tris.length a2 A3 c.creases.length a3 A4 c.corners.length a4 c.steps A5 c.details.length a5,vCtl B1 c.points.length b1 B2 c.tris.length b2 B3 c.creases.length b3 B4 c.corners.length b4 c.steps B5 c.details.length b5] w fun e w'=>e= .returned (.bool true)∧Below w.heap.size w w':=by
 have kp:=fun (W:World) (hW:Below w.heap.size w W)=>pts4_any A1 B1 a1 b1 c.points c.points W w.heap.size w.heap.size (ha.p.below hW) (hb.p.below hW) (by have:=hB.p;omega) (by have:=hB.p;omega) hf.p hf.p
 have kt:=fun (W:World) (hW:Below w.heap.size w W)=>sameTris_any A2 B2 a2 b2 c.tris c.tris W w.heap.size w.heap.size (ha.t.below hW) (hb.t.below hW) (by have:=hB.t;omega) (by have:=hB.t;omega) hf.t hf.t
 simp only [decide_true] at kp kt
 obtain ⟨np,hnp⟩:∃n,n=c.points.length:=⟨_,rfl⟩
 obtain ⟨nt,hnt⟩:∃n,n=c.tris.length:=⟨_,rfl⟩
 obtain ⟨nc,hnc⟩:∃n,n=c.creases.length:=⟨_,rfl⟩
 obtain ⟨no,hno⟩:∃n,n=c.corners.length:=⟨_,rfl⟩
 obtain ⟨nd,hnd⟩:∃n,n=c.details.length:=⟨_,rfl⟩
 obtain ⟨st,hst⟩:∃n,n=c.steps:=⟨_,rfl⟩
 rw [←hnp,←hnt,←hnc,←hno,←hnd,←hst]
 simp only [←hnp] at kp
 simp only [←hnt] at kt
 have hcb:nc≤100000∧no≤100000∧nd≤100000:=⟨by rw [hnc];exact hB.cr,by rw [hno];exact hB.o,by rw [hnd];exact hB.d⟩
 have HK:=hide (And.intro kp kt)
 have HN:=hide (And.intro hnc (And.intro hno (And.intro hnd (And.intro hB hf))))
 have HM:=hide (And.intro ha hb)
 obtain ⟨hcb1,hcb2,hcb3⟩:=hcb
 clear kp kt hnp hnt hnc hno hnd hst ha hb hB hf
 go_enter Tryz.func34,Tryz.ntmps34
 go_upto_region 1 with fail
 obtain ⟨g1,hg1⟩:∃g,g=w.heap.size:=⟨_,rfl⟩
 obtain ⟨g2,hg2⟩:∃g,g=w.heap.size+1:=⟨_,rfl⟩
 obtain ⟨X0,hX⟩:∃W,W=(w.alloc (.cells (cCtl A1 np a1 A2 nt a2 A3 nc a3 A4 no a4 st A5 nd a5) 32)).alloc (.cells (cCtl B1 np b1 B2 nt b2 B3 nc b3 B4 no b4 st B5 nd b5) 32):=⟨_,rfl⟩
 have hba:Blk X0 g1 32 (cCtl A1 np a1 A2 nt a2 A3 nc a3 A4 no a4 st A5 nd a5):=by rw [hX,hg1];exact (Blk.new _ _ _).alloc _
 have hbb:Blk X0 g2 32 (cCtl B1 np b1 B2 nt b2 B3 nc b3 B4 no b4 st B5 nd b5):=by rw [hX,hg2];exact Blk.new' _ _ _ _ (by simp)
 have hBX:Below w.heap.size w X0:=by rw [hX];exact ((Below.refl _ w).alloc (Nat.le_refl _) _).alloc (by simp) _
 rw [←hX,←hg2,←hg1]
 have H0:=hide (And.intro hba (And.intro hbb hBX))
 have HR:=hide (Below.refl X0.heap.size X0)
 clear hba hbb hBX hX hg1 hg2
 have hga:=H0.out.1.below HR.out H0.out.1.lt
 have hgb:=H0.out.2.1.below HR.out H0.out.2.1.lt
 have y0:X0.cell? ⟨g1,0,none⟩=some (.slice A1 np a1):=hga.cell 0
 have z0:X0.cell? ⟨g2,0,none⟩=some (.slice B1 np b1):=hgb.cell 0
 have la:=hga.lt
 have lb:=hgb.lt
 clear hga hgb
 go_upto_region 2 with (go_at_call 24;refine (HK.out.1 X0 H0.out.2.2).mono ?_;rintro e X1 ⟨rfl,k1,hX1⟩;have H1:=hide (show Below X0.heap.size X0 X1 from by rw [hX1];exact below_drewN (Below.refl X0.heap.size X0) k1);clear hX1)
 clear y0 z0 la lb
 have hga:=H0.out.1.below H1.out H0.out.1.lt
 have hgb:=H0.out.2.1.below H1.out H0.out.2.1.lt
 have y1:X1.cell? ⟨g1,1,none⟩=some (.slice A2 nt a2):=hga.cell 1
 have z1:X1.cell? ⟨g2,1,none⟩=some (.slice B2 nt b2):=hgb.cell 1
 have la:=hga.lt
 have lb:=hgb.lt
 clear hga hgb
 go_upto_region 3 with (go_at_call 25;refine (HK.out.2 X1 (H0.out.2.2.trans (H1.out.mono H0.out.2.2.size))).mono ?_;rintro e X2 ⟨rfl,k2,hX2⟩;have H2:=hide (show Below X0.heap.size X0 X2 from by rw [hX2];exact below_drewN H1.out k2);clear hX2)
 clear y1 z1 la lb
 have hga:=H0.out.1.below H2.out H0.out.1.lt
 have hgb:=H0.out.2.1.below H2.out H0.out.2.1.lt
 have y2:X2.cell? ⟨g1,2,none⟩=some (.slice A3 nc a3):=hga.cell 2
 have z2:X2.cell? ⟨g2,2,none⟩=some (.slice B3 nc b3):=hgb.cell 2
 have y3:X2.cell? ⟨g1,3,none⟩=some (.slice A4 no a4):=hga.cell 3
 have z3:X2.cell? ⟨g2,3,none⟩=some (.slice B4 no b4):=hgb.cell 3
 have y4:X2.cell? ⟨g1,4,none⟩=some (.int .i64 st):=hga.cell 4
 have z4:X2.cell? ⟨g2,4,none⟩=some (.int .i64 st):=hgb.cell 4
 have y5:X2.cell? ⟨g1,5,none⟩=some (.slice A5 nd a5):=hga.cell 5
 have z5:X2.cell? ⟨g2,5,none⟩=some (.slice B5 nd b5):=hgb.cell 5
 have la:=hga.lt
 have lb:=hgb.lt
 clear hga hgb
 go_upto_region 6 with fail
 clear y2 y3 y4 y5 z2 z3 z4 z5 la lb
 have HS1:=H2
 go_loopw [7] (fun iv wr=>∃i:Nat,i≤nc∧iv= .int .i64 i∧Below X0.heap.size X0 wr) (fun iv _=>nc - (intOf iv).toNat)
 case atStart=>exact ⟨0,by omega,rfl,HS1.out⟩
 case round=>
  obtain ⟨i,hi,rfl,hBV⟩:=hrel
  obtain ⟨V,rfl⟩:∃x,x=wr:=⟨_,rfl⟩
  have HV:=hide hBV
  clear hBV
  have hga:=H0.out.1.below HV.out H0.out.1.lt
  have hgb:=H0.out.2.1.below HV.out H0.out.2.1.lt
  have y2:V.cell? ⟨g1,2,none⟩=some (.slice A3 nc a3):=hga.cell 2
  have z2:V.cell? ⟨g2,2,none⟩=some (.slice B3 nc b3):=hgb.cell 2
  have la:=hga.lt
  have lb:=hgb.lt
  clear hga hgb
  by_cases hlt:i < nc
  ·have i1:(i:Int) < (nc:Int):=by omega
   obtain ⟨x,hx⟩:∃x,c.creases[i]? =some x:=⟨_,List.getElem?_eq_getElem (by rw [←HN.out.1];exact hlt)⟩
   obtain ⟨ba,oa,hA,hba,r0,r1⟩:=(HM.out.1.cr.below (H0.out.2.2.trans (HV.out.mono H0.out.2.2.size))).e2 hx
   subst hA
   obtain ⟨bb,ob,hA,hbb,s0,s1⟩:=(HM.out.2.cr.below (H0.out.2.2.trans (HV.out.mono H0.out.2.2.size))).e2 hx
   subst hA
   have l1:ba < V.heap.size:=Nat.lt_of_lt_of_le hba (H0.out.2.2.trans (HV.out.mono H0.out.2.2.size)).size
   have l2:bb < V.heap.size:=Nat.lt_of_lt_of_le hbb (H0.out.2.2.trans (HV.out.mono H0.out.2.2.size)).size
   have hq:=eqE2 x x (HN.out.2.2.2.2.cr x (List.mem_of_getElem? hx)) (HN.out.2.2.2.2.cr x (List.mem_of_getElem? hx))
   rw [decide_eq_true rfl] at hq
   obtain ⟨x1,x2⟩:=x
   try simp only at r0 r1 s0 s1
   clear hx hba hbb hlt
   go_wp2_with fail
   go_quiet (fail)
   go_wp2
   go_roundw
   case rel=>exact ⟨i+1,by omega,by go_num,by first | exact below_drewN HV.out _ | exact HV.out.drew⟩
   case measure=>(simp [intOf];try omega)
  ·obtain rfl:nc=i:=by omega
   have i1:¬(nc:Int) < (nc:Int):=by omega
   go_upto_region 11 with fail
   clear y2 z2 la lb
   have HS2:=HV
   go_loopw [8] (fun iv wr=>∃i:Nat,i≤no∧iv= .int .i64 i∧Below X0.heap.size X0 wr) (fun iv _=>no - (intOf iv).toNat)
   case atStart=>exact ⟨0,by omega,rfl,HS2.out⟩
   case round=>
    obtain ⟨i,hi,rfl,hBV⟩:=hrel
    obtain ⟨V,rfl⟩:∃x,x=wr:=⟨_,rfl⟩
    have HV:=hide hBV
    clear hBV
    have hga:=H0.out.1.below HV.out H0.out.1.lt
    have hgb:=H0.out.2.1.below HV.out H0.out.2.1.lt
    have y3:V.cell? ⟨g1,3,none⟩=some (.slice A4 no a4):=hga.cell 3
    have z3:V.cell? ⟨g2,3,none⟩=some (.slice B4 no b4):=hgb.cell 3
    have la:=hga.lt
    have lb:=hgb.lt
    clear hga hgb
    by_cases hlt:i < no
    ·have i1:(i:Int) < (no:Int):=by omega
     obtain ⟨x,hx⟩:∃x,c.corners[i]? =some x:=⟨_,List.getElem?_eq_getElem (by rw [←HN.out.2.1];exact hlt)⟩
     obtain ⟨ba,oa,hA,hba,r0⟩:=(HM.out.1.o.below (H0.out.2.2.trans (HV.out.mono H0.out.2.2.size))).z9 hx
     subst hA
     obtain ⟨bb,ob,hA,hbb,s0⟩:=(HM.out.2.o.below (H0.out.2.2.trans (HV.out.mono H0.out.2.2.size))).z9 hx
     subst hA
     have l1:ba < V.heap.size:=Nat.lt_of_lt_of_le hba (H0.out.2.2.trans (HV.out.mono H0.out.2.2.size)).size
     have l2:bb < V.heap.size:=Nat.lt_of_lt_of_le hbb (H0.out.2.2.trans (HV.out.mono H0.out.2.2.size)).size
     clear hx hba hbb hlt
     go_wp2_with fail
     go_quiet (fail)
     go_wp2
     go_roundw
     case rel=>exact ⟨i+1,by omega,by go_num,by first | exact below_drewN HV.out _ | exact HV.out.drew⟩
     case measure=>(simp [intOf];try omega)
    ·obtain rfl:no=i:=by omega
     have i1:¬(no:Int) < (no:Int):=by omega
     go_upto_region 16 with fail
     clear y3 z3 la lb
     have HS3:=HV
     go_loopw [9] (fun iv wr=>∃i:Nat,i≤nd∧iv= .int .i64 i∧Below X0.heap.size X0 wr) (fun iv _=>nd - (intOf iv).toNat)
     case atStart=>exact ⟨0,by omega,rfl,HS3.out⟩
     case round=>
      obtain ⟨i,hi,rfl,hBV⟩:=hrel
      obtain ⟨V,rfl⟩:∃x,x=wr:=⟨_,rfl⟩
      have HV:=hide hBV
      clear hBV
      have hga:=H0.out.1.below HV.out H0.out.1.lt
      have hgb:=H0.out.2.1.below HV.out H0.out.2.1.lt
      have y5:V.cell? ⟨g1,5,none⟩=some (.slice A5 nd a5):=hga.cell 5
      have z5:V.cell? ⟨g2,5,none⟩=some (.slice B5 nd b5):=hgb.cell 5
      have la:=hga.lt
      have lb:=hgb.lt
      clear hga hgb
      by_cases hlt:i < nd
      ·have i1:(i:Int) < (nd:Int):=by omega
       obtain ⟨x,hx⟩:∃x,c.details[i]? =some x:=⟨_,List.getElem?_eq_getElem (by rw [←HN.out.2.2.1];exact hlt)⟩
       obtain ⟨ba,oa,C1,q1,hA,hba,r0,r1⟩:=(HM.out.1.below (H0.out.2.2.trans (HV.out.mono H0.out.2.2.size)) (H0.out.2.2.trans (HV.out.mono H0.out.2.2.size)).size).det hx
       subst hA
       obtain ⟨bb,ob,C2,q2,hA,hbb,s0,s1⟩:=(HM.out.2.below (H0.out.2.2.trans (HV.out.mono H0.out.2.2.size)) (H0.out.2.2.trans (HV.out.mono H0.out.2.2.size)).size).det hx
       subst hA
       have hxl:=HN.out.2.2.2.1.dd x (List.mem_of_getElem? hx)
       have hxf:=HN.out.2.2.2.2.d x (List.mem_of_getElem? hx)
       have kd:=fun (W:World) (hW:Below V.heap.size V W)=>pts4_any C1 C2 q1 q2 x x W V.heap.size V.heap.size (r1.below hW) (s1.below hW) (by omega) (by omega) hxf hxf
       simp only [decide_true] at kd
       obtain ⟨dl,hdl⟩:∃n,n=x.length:=⟨_,rfl⟩
       rw [←hdl] at r0 s0
       simp only [←hdl] at kd
       have HC:=hide (And.intro y5 (And.intro r0 (And.intro z5 (And.intro s0 (And.intro hba (And.intro hbb (And.intro la lb)))))))
       have HD:=hide kd
       clear hx r0 s0 r1 s1 hxl hxf kd hdl hba hbb
       go_upto_region 18 with fail
       clear y5 z5 la lb
       have HSB:=hide (show Below V.heap.size V V.drew from (Below.refl _ V).drew)
       refine wp_region_mix (fun W=>Below V.heap.size V W) [0,1,2,3,4,5,6,7,8,9] [0,1,2,3,4,5,6,7,8,9,10,11] mixed_ok (by kernel_rfl) ?_
       refine wpMix_q (v:=(.pointer (some ⟨g1,5,none⟩))) rfl rfl (fun _ _ _ h=>h) HSB.out ⟨rfl,fun _ _=>by simp [go_sem]⟩ ?_
       refine wpMix_q (v:=(.slice (some ⟨ba,oa,none⟩) nd a5)) rfl rfl (fun _ _ _ h=>h) HSB.out ⟨rfl,fun _ h'=>by have a0:=(h'.cell (p:=⟨g1,5,none⟩) HC.out.2.2.2.2.2.2.1).trans HC.out.1;simp [go_sem,a0]⟩ ?_
       refine wpMix_q (v:=(.int .i64 i)) rfl rfl (fun _ _ _ h=>h) HSB.out ⟨rfl,fun _ _=>by simp [go_sem]⟩ ?_
       refine wpMix_q (v:=(.pointer (some ⟨ba,oa+i,none⟩))) rfl rfl (fun _ _ _ h=>h) HSB.out ⟨rfl,fun _ _=>by simp [go_sem,i1]⟩ ?_
       refine wpMix_q (v:=(.slice C1 dl q1)) rfl rfl (fun _ _ _ h=>h) HSB.out ⟨rfl,fun _ h'=>by have a0:=(h'.cell (p:=⟨ba,oa+i,none⟩) HC.out.2.2.2.2.1).trans HC.out.2.1;simp [go_sem,a0]⟩ ?_
       refine wpMix_q (v:=(.pointer (some ⟨g2,5,none⟩))) rfl rfl (fun _ _ _ h=>h) HSB.out ⟨rfl,fun _ _=>by simp [go_sem]⟩ ?_
       simp only [List.getElem_toArray,List.getElem_cons_succ,List.getElem_cons_zero,Act.put,List.setIfInBounds_toArray,List.set_cons_succ,List.set_cons_zero]
       refine wpMix_q (v:=(.slice (some ⟨bb,ob,none⟩) nd b5)) rfl rfl (fun _ _ _ h=>h) HSB.out ⟨rfl,fun _ h'=>by have a0:=(h'.cell (p:=⟨g2,5,none⟩) HC.out.2.2.2.2.2.2.2).trans HC.out.2.2.1;simp [go_sem,a0]⟩ ?_
       refine wpMix_q (v:=(.int .i64 i)) rfl rfl (fun _ _ _ h=>h) HSB.out ⟨rfl,fun _ _=>by simp [go_sem]⟩ ?_
       refine wpMix_q (v:=(.pointer (some ⟨bb,ob+i,none⟩))) rfl rfl (fun _ _ _ h=>h) HSB.out ⟨rfl,fun _ _=>by simp [go_sem,i1]⟩ ?_
       refine wpMix_q (v:=(.slice C2 dl q2)) rfl rfl (fun _ _ _ h=>h) HSB.out ⟨rfl,fun _ h'=>by have a0:=(h'.cell (p:=⟨bb,ob+i,none⟩) HC.out.2.2.2.2.2.1).trans HC.out.2.2.2.1;simp [go_sem,a0]⟩ ?_
       simp only [List.getElem_toArray,List.getElem_cons_succ,List.getElem_cons_zero,Act.put,List.setIfInBounds_toArray,List.set_cons_succ,List.set_cons_zero]
       refine wpMix_n rfl rfl ?_
       go_wp2_with fail
       refine (HD.out V.drew HSB.out).mono ?_
       rintro e W1 ⟨rfl,k9,hW1⟩
       have hB9:Below V.heap.size V W1:=by rw [hW1];exact below_drewN HSB.out k9
       have H9:=hide hB9
       clear hB9 hW1
       go_wp2_with fail
       refine ⟨fun h=>absurd (h.symm.trans (show _=false by kernel_rfl)) (by simp),?_⟩
       refine wpMix_n rfl rfl ?_
       go_wp2_with fail
       refine ⟨fun h=>absurd (h.symm.trans (show _=false by kernel_rfl)) (by simp),?_⟩
       refine wpMix_nil ?_
       go_wp2
       go_roundw
       case rel=>exact ⟨i+1,by omega,by go_num,HV.out.trans (H9.out.mono HV.out.size)⟩
       case measure=>(simp [intOf];try omega)
      ·obtain rfl:nd=i:=by omega
       have i1:¬(nd:Int) < (nd:Int):=by omega
       go_wp2
       go_ret
       exact ⟨rfl,H0.out.2.2.trans (HV.out.mono H0.out.2.2.size)⟩
end Go.Proofs.YtmemofonebphfaaGreat
namespace Go.Proofs.YtmemofonebphfaaGreat
open Go.RowKit Go.Sort
theorem own_made_fits (s:ShpC):fits (madeC s).steps:=by
 have h:=made_st s
 show fits ((stM s:Nat):Int)
 unfold fits
 omega
theorem fitC_right {c:Ctl} (h:errC c=0) (hB:CtlB c):FitC c:=by
 have hR:=right_of h
 have hp:=hB.p
 have key:∀(lo hi:Int) (l:List Pt),-2097151≤lo→hi≤2097151→outR lo hi l=false→∀x∈l,fitsP x:=fun lo hi l h1 h2 h3 x hx=>by
  have h4:=(outR_no h3) x hx
  refine ⟨?_,?_,?_⟩ <;>unfold fits <;>omega
 refine ⟨key _ _ _ (by decide) (Int.ediv_le_self _ (by decide)) hR.rng,fun x hx=> ?_,fun e he=> ?_,fun i hi=> ?_,fun d hd=>key _ _ _ (by decide) (by decide) (hR.drng d hd)⟩
 ·have h1:=hR.idx x hx
  refine ⟨?_,?_,?_⟩ <;>unfold fits <;>omega
 ·obtain ⟨hd,hl⟩:=mem_edgesE.1 (hR.cre e he)
  obtain ⟨x,hx,hx2⟩:=mem_dirE.1 hd
  have hi:=hR.idx x hx
  have:0≤min e.1 e.2∧max e.1 e.2 < (c.points.length:Int):=by
   rcases mem_de3.1 hx2 with h | h | h <;>simp only [nrmE,Prod.mk.injEq] at h <;>omega
  constructor <;>unfold fits <;>omega
 ·have h1:=hR.cor i hi
  unfold fits
  omega
structure OwnD (X6 W:World) (b g9:Nat) (D1 D2 D3 D4 D5:Option Addr) (np nt nc no q1 q2 q3 q4 rd q5:Nat) (st:Int) (c:Ctl):Prop where
 bel:Below X6.heap.size X6 W
 bx:Blk W g9 32 (cMad (.slice D1 np q1) (.slice D2 nt q2) (.slice D3 nc q3) (.slice D4 no q4) st (.slice D5 rd q5))
 p:Own encP 3 43 W b (.slice D1 np q1) np c.points
 t:∃L,Own encN3 3 35 W b (.slice D2 nt q2) nt L
 cr:∃L,Own encE2 2 56 W b (.slice D3 nc q3) nc L
 o:∃L,Own encZ9 1 3 W b (.slice D4 no q4) no L
section
variable {X6 W W':World} {b g9:Nat} {D1 D2 D3 D4 D5:Option Addr} {np nt nc no q1 q2 q3 q4 rd q5:Nat} {st:Int} {c:Ctl} {row:Option Nat}
theorem OwnD.bel9 (h:OwnD X6 W b g9 D1 D2 D3 D4 D5 np nt nc no q1 q2 q3 q4 rd q5 st c) (hB:Below W.heap.size W W'):OwnD X6 W' b g9 D1 D2 D3 D4 D5 np nt nc no q1 q2 q3 q4 rd q5 st c:=by
 obtain ⟨L2,h2⟩:=h.t
 obtain ⟨L3,h3⟩:=h.cr
 obtain ⟨L4,h4⟩:=h.o
 exact ⟨h.bel.trans (hB.mono h.bel.size),h.bx.below hB h.bx.lt,h.p.below hB (Nat.le_refl _),⟨L2,h2.below hB (Nat.le_refl _)⟩,⟨L3,h3.below hB (Nat.le_refl _)⟩,⟨L4,h4.below hB (Nat.le_refl _)⟩⟩
theorem OwnD.low (h:OwnD X6 W b g9 D1 D2 D3 D4 D5 np nt nc no q1 q2 q3 q4 rd q5 st c) (hg:W.grownBy W' row) (hr:∀r,row=some r→X6.heap.size≤r∧r < b) (h9:b≤g9):OwnD X6 W' b g9 D1 D2 D3 D4 D5 np nt nc no q1 q2 q3 q4 rd q5 st c:=by
 obtain ⟨L2,h2⟩:=h.t
 obtain ⟨L3,h3⟩:=h.cr
 obtain ⟨L4,h4⟩:=h.o
 have hl:∀{t:TypeId},∀r,row=some r→r < b∨∀cs,W.heap[r]? ≠some (.cells cs t (0,0)):=fun r e=> .inl (hr r e).2
 exact ⟨h.bel.trans (grown_belO hg (fun r e=>(hr r e).1) h.bel.size),h.bx.grown hg (fun e=>by have:=(hr g9 e.symm).2;omega),h.p.step hg hl,⟨L2,h2.step hg hl⟩,⟨L3,h3.step hg hl⟩,⟨L4,h4.step hg hl⟩⟩
theorem OwnD.tt (h:OwnD X6 W b g9 D1 D2 D3 D4 D5 np nt nc no q1 q2 q3 q4 rd q5 st c) {L:List Pt} (ho:Own encN3 3 35 W b (.slice D2 nt q2) nt L) (hg:W.grownBy W' (Value.slice D2 nt q2).ownBlock) (hb:X6.heap.size≤b) {L':List Pt} (h':Own encN3 3 35 W' b (.slice D2 nt q2) nt L'):OwnD X6 W' b g9 D1 D2 D3 D4 D5 np nt nc no q1 q2 q3 q4 rd q5 st c:=by
 obtain ⟨L3,h3⟩:=h.cr
 obtain ⟨L4,h4⟩:=h.o
 exact ⟨h.bel.trans (grown_belO hg (fun r e=>Nat.le_trans hb (ho.blk r e).1) h.bel.size),h.bx.grown hg (blk_own_ne9 h.bx ho (by decide)),h.p.step hg (own_rowT ho (by decide)),⟨L',h'⟩,⟨L3,h3.step hg (own_rowT ho (by decide))⟩,⟨L4,h4.step hg (own_rowT ho (by decide))⟩⟩
theorem OwnD.cc (h:OwnD X6 W b g9 D1 D2 D3 D4 D5 np nt nc no q1 q2 q3 q4 rd q5 st c) {L:List E2} (ho:Own encE2 2 56 W b (.slice D3 nc q3) nc L) (hg:W.grownBy W' (Value.slice D3 nc q3).ownBlock) (hb:X6.heap.size≤b) {L':List E2} (h':Own encE2 2 56 W' b (.slice D3 nc q3) nc L'):OwnD X6 W' b g9 D1 D2 D3 D4 D5 np nt nc no q1 q2 q3 q4 rd q5 st c:=by
 obtain ⟨L2,h2⟩:=h.t
 obtain ⟨L4,h4⟩:=h.o
 exact ⟨h.bel.trans (grown_belO hg (fun r e=>Nat.le_trans hb (ho.blk r e).1) h.bel.size),h.bx.grown hg (blk_own_ne9 h.bx ho (by decide)),h.p.step hg (own_rowT ho (by decide)),⟨L2,h2.step hg (own_rowT ho (by decide))⟩,⟨L',h'⟩,⟨L4,h4.step hg (own_rowT ho (by decide))⟩⟩
theorem OwnD.oo (h:OwnD X6 W b g9 D1 D2 D3 D4 D5 np nt nc no q1 q2 q3 q4 rd q5 st c) {L:List Int} (ho:Own encZ9 1 3 W b (.slice D4 no q4) no L) (hg:W.grownBy W' (Value.slice D4 no q4).ownBlock) (hb:X6.heap.size≤b) {L':List Int} (h':Own encZ9 1 3 W' b (.slice D4 no q4) no L'):OwnD X6 W' b g9 D1 D2 D3 D4 D5 np nt nc no q1 q2 q3 q4 rd q5 st c:=by
 obtain ⟨L2,h2⟩:=h.t
 obtain ⟨L3,h3⟩:=h.cr
 exact ⟨h.bel.trans (grown_belO hg (fun r e=>Nat.le_trans hb (ho.blk r e).1) h.bel.size),h.bx.grown hg (blk_own_ne9 h.bx ho (by decide)),h.p.step hg (own_rowT ho (by decide)),⟨L2,h2.step hg (own_rowT ho (by decide))⟩,⟨L3,h3.step hg (own_rowT ho (by decide))⟩,⟨L',h'⟩⟩
end
set_option maxRecDepth 100000 in
set_option maxHeartbeats 64000000 in
theorem own9_of (hmade:MadeSaid) (Ap Ac Ao Ad:Option Addr) (cp cc oc dc:Nat) (s:ShpC) (w:World) (hm:ShpA w w.heap.size Ap Ac Ao Ad s) (hb:fits s.bits) (hl:s.points.length≤9223372036854775807∧s.creases.length≤9223372036854775807∧s.corners.length≤9223372036854775807∧s.details.length≤9223372036854775807):
  Calls Tryz.prog 12 #[vShp s.kind s.bits s.steps Ap s.points.length cp Ac s.creases.length cc Ao s.corners.length oc Ad s.details.length dc] w fun e w'=>e= .returned (.bool true)∧Below w.heap.size w w':=by
 have kmade:=fun (W:World) (hW:Below w.heap.size w W)=>hmade Ap Ac Ao Ad cp cc oc dc s W (hm.below hW hW.size) hb hl
 have hrc:=made_right s
 have hbk:=made_back s
 have hsm:=made_small s
 have hfs:=own_made_fits s
 obtain ⟨c,hc0⟩:∃c,c=madeC s:=⟨_,rfl⟩
 simp only [←hc0] at kmade hrc hbk hsm hfs
 have hfc:=fitC_right hrc hsm
 have kcopy:=fun (Ap At Ac Ao Ad:Option Addr) (cp ct cc oc dc:Nat) (W:World) (h:CtlM W W.heap.size Ap At Ac Ao Ad c)=>copy9_any Ap At Ac Ao Ad cp ct cc oc dc c W h hsm
 have kf1:=fun (Ap At Ac Ao Ad:Option Addr) (cp ct cc oc dc:Nat) (W:World) (h:CtlM W W.heap.size Ap At Ac Ao Ad c)=>fine_any Ap At Ac Ao Ad cp ct cc oc dc c W h hsm hfs (fun _=>hbk)
 have ksame:=fun (A1 A2 A3 A4 A5 B1 B2 B3 B4 B5:Option Addr) (a1 a2 a3 a4 a5 b1 b2 b3 b4 b5:Nat) (W:World) (ha:CtlM W W.heap.size A1 A2 A3 A4 A5 c) (hb:CtlM W W.heap.size B1 B2 B3 B4 B5 c)=>same9_true A1 A2 A3 A4 A5 B1 B2 B3 B4 B5 a1 a2 a3 a4 a5 b1 b2 b3 b4 b5 c W ha hb hsm hfc
 simp only [hrc] at kf1
 obtain ⟨hfw,hft⟩:=fin_lens hsm (fun _=>hbk)
 have hpf:c.points.length≤(finP c).length:=by
  obtain ⟨r,hr⟩:=fin_pre hrc (Nat.zero_le _)
  have hz:(c.level 0).p.length=c.points.length:=by show (List.map _ _).length=_;rw [List.length_map]
  rw [hr,List.length_append,hz]
  omega
 obtain ⟨ha1,ha2⟩:=ana_law (c0:=c) ⟨rfl,rfl,rfl,rfl,rfl⟩ hrc hbk
 have hlz:(anaZ c).points.length=c.points.length:=by simp [anaZ]
 have kan:=fun (Ap At Ac Ao Ad Af:Option Addr) (cp ct cc oc dc cf:Nat) (W:World) (h:CtlM W W.heap.size Ap At Ac Ao Ad c) (h2:Sl encP 3 W W.heap.size Af (finP c))=>analyse_any Ap At Ac Ao Ad Af cp ct cc oc dc cf c (finP c) W h hsm hfs h2 (by omega) (fin_fits c) (fun _=>hbk)
 rw [ha1,ha2] at kan
 obtain ⟨R,hR⟩:∃R,R=fullC c:=⟨_,rfl⟩
 rw [←hR] at kan
 have hRp:R.points=c.points:=by rw [hR];rfl
 have hRt:R.tris.length=c.tris.length:=by rw [hR];rfl
 have hRc:R.creases.length=c.creases.length:=by rw [hR];rfl
 have hRo:R.corners.length=c.corners.length:=by rw [hR];rfl
 have hRs:R.steps=c.steps:=by rw [hR];rfl
 obtain ⟨FP,hFP⟩:∃x,x=finP c:=⟨_,rfl⟩
 obtain ⟨FT,hFT⟩:∃x,x=finT c:=⟨_,rfl⟩
 simp only [←hFP,←hFT] at kf1 hfw hft hpf kan
 obtain ⟨np,hnp⟩:∃n,n=c.points.length:=⟨_,rfl⟩
 obtain ⟨nt,hnt⟩:∃n,n=c.tris.length:=⟨_,rfl⟩
 obtain ⟨nc,hnc⟩:∃n,n=c.creases.length:=⟨_,rfl⟩
 obtain ⟨no,hno⟩:∃n,n=c.corners.length:=⟨_,rfl⟩
 obtain ⟨nd,hnd⟩:∃n,n=c.details.length:=⟨_,rfl⟩
 obtain ⟨st,hst⟩:∃n,n=c.steps:=⟨_,rfl⟩
 obtain ⟨nF,hnF⟩:∃n,n=FP.length:=⟨_,rfl⟩
 obtain ⟨nT,hnT⟩:∃n,n=FT.length:=⟨_,rfl⟩
 obtain ⟨rd,hrd⟩:∃n,n=R.details.length:=⟨_,rfl⟩
 simp only [←hnp,←hnt,←hnc,←hno,←hnd,←hst,←hnF,←hnT] at kcopy kf1 kmade ksame kan
 rw [←hnF] at hfw hpf
 rw [←hnT] at hft
 rw [←hnp] at hpf
 rw [←hnt] at hRt
 rw [←hnc] at hRc
 rw [←hno] at hRo
 rw [←hst] at hRs
 have hnpl:np≤100000:=by rw [hnp];exact hsm.p
 have hntl:nt≤100000:=by rw [hnt];exact hsm.t
 have hncl:nc≤100000:=by rw [hnc];exact hsm.cr
 have hnol:no≤100000:=by rw [hno];exact hsm.o
 have HK:=hide (And.intro kmade (And.intro kcopy (And.intro kf1 (And.intro kan ksame))))
 have HN:=hide (And.intro hnp (And.intro hnt (And.intro hnc (And.intro hno (And.intro hnd (And.intro hst (And.intro hnF (And.intro hnT hrd))))))))
 have HR:=hide (And.intro hRp (And.intro hRt (And.intro hRc (And.intro hRo (And.intro hRs (And.intro hfc hpf))))))
 have hnF9:nF≤1000000:=by omega
 have hnT9:nT≤300000:=by omega
 clear kmade kcopy kf1 kan ksame hrc hbk hsm hfs hfc hfw hft hpf ha1 ha2 hlz hRp hRt hRc hRo hRs hnp hnt hnc hno hnd hst hnF hnT hrd hFP hFT hR hm hb hl hc0
 go_enter Tryz.func12,Tryz.ntmps12
 go_upto_region 1 with fail
 obtain ⟨g1,hg1⟩:∃g,g=w.heap.size:=⟨_,rfl⟩
 obtain ⟨X0,hX⟩:∃W,W=w.alloc (.cells (cShp s.kind s.bits s.steps Ap s.points.length cp Ac s.creases.length cc Ao s.corners.length oc Ad s.details.length dc) 25):=⟨_,rfl⟩
 rw [←hX,←hg1]
 have hb1:Blk X0 g1 25 (cShp s.kind s.bits s.steps Ap s.points.length cp Ac s.creases.length cc Ao s.corners.length oc Ad s.details.length dc):=by rw [hX,hg1];exact Blk.new _ _ _
 have hBX:Below w.heap.size w X0:=by rw [hX];exact (Below.refl _ w).alloc (Nat.le_refl _) _
 have H0:=hide (And.intro hb1 hBX)
 clear hb1 hBX hX hg1
 go_upto_region 2 with (go_at_call 13;refine (sanity9_any X0).mono ?_;rintro e X1 ⟨rfl,hB1⟩;have H1:=hide (And.intro (H0.out.1.below hB1 H0.out.1.lt) (H0.out.2.trans (hB1.mono H0.out.2.size)));clear hB1)
 obtain ⟨z0,z1,z2,z3,z4,z5,z6⟩:=H1.out.1.seven9
 have hgl:=H1.out.1.lt
 go_upto_region 3 with (go_at_call 15;refine (HK.out.1 X1 H1.out.2).mono ?_;rintro e X3 ⟨A1,A2,A3,A4,A5,k1,k2,k3,k4,k5,rfl,ht,hp,hcr,hco,hd,hB⟩;have H3:=hide (And.intro ht (And.intro hp (And.intro hcr (And.intro hco (And.intro hd hB)))));clear ht hp hcr hco hd hB)
 clear z0 z1 z2 z3 z4 z5 z6 hgl
 try simp only [←HN.out.1,←HN.out.2.1,←HN.out.2.2.1,←HN.out.2.2.2.1,←HN.out.2.2.2.2.1,←HN.out.2.2.2.2.2.1]
 obtain ⟨g4,hg4⟩:∃g,g=X3.heap.size:=⟨_,rfl⟩
 obtain ⟨X4,hX4⟩:∃W,W=X3.alloc (.cells (cMad (.slice A1 np k1) (.slice A2 nt k2) (.slice A3 nc k3) (.slice A4 no k4) st (.slice A5 nd k5)) 32):=⟨_,rfl⟩
 rw [←hX4,←hg4]
 have hBa:Below X3.heap.size X3 X4:=by rw [hX4];exact (Below.refl _ _).alloc (Nat.le_refl _) _
 have hb4:Blk X4 g4 32 (cMad (.slice A1 np k1) (.slice A2 nt k2) (.slice A3 nc k3) (.slice A4 no k4) st (.slice A5 nd k5)):=by rw [hX4,hg4];exact Blk.new _ _ _
 have hS4:CtE X1 X4 g4 (.slice A1 np k1) (.slice A2 nt k2) (.slice A3 nc k3) (.slice A4 no k4) (.slice A5 nd k5) c:=by
  have hz:=H3.out.2.2.2.2.2.size
  have hb6:=hb4
  rw [HN.out.1,HN.out.2.1,HN.out.2.2.1,HN.out.2.2.2.1,HN.out.2.2.2.2.1,HN.out.2.2.2.2.2.1] at hb6
  rw [HN.out.1,HN.out.2.1,HN.out.2.2.1,HN.out.2.2.2.1,HN.out.2.2.2.2.1]
  exact ⟨H3.out.2.2.2.2.2.trans (hBa.mono hz),hb6,by omega,H3.out.2.1.below hBa (Nat.le_refl _),H3.out.1.below hBa (Nat.le_refl _),H3.out.2.2.1.below hBa (Nat.le_refl _),H3.out.2.2.2.1.below hBa (Nat.le_refl _),H3.out.2.2.2.2.1.below hBa (Nat.le_refl _)⟩
 obtain ⟨z0,z1,z2,z3,z4,z5⟩:=hb4.six9
 have hg4l:=hb4.lt
 have hw4:=H1.out.2.trans (hS4.bel.mono H1.out.2.size)
 have HS:=hide (And.intro hb4 (And.intro hS4.ctlM hw4))
 clear hb4 hS4 hX4 hg4 hBa hw4
 go_upto_region 4 with (go_at_call 21;refine (HK.out.2.1 _ _ _ _ _ _ _ _ _ _ X4 HS.out.2.1).mono ?_;rintro e X5 ⟨BB,B1,B2,B3,B4,B5,b1,b2,b3,b4,b5,rfl,ht1,hp1,hc1,ho1,hd1,hlb,hB1⟩;have J2:=hide (And.intro (And.intro ht1 (And.intro hp1 (And.intro hc1 (And.intro ho1 hd1)))) (And.intro hlb hB1));clear ht1 hp1 hc1 ho1 hd1 hlb hB1)
 clear z0 z1 z2 z3 z4 z5 hg4l
 try simp only [←HN.out.1,←HN.out.2.1,←HN.out.2.2.1,←HN.out.2.2.2.1,←HN.out.2.2.2.2.1,←HN.out.2.2.2.2.2.1]
 obtain ⟨g5,hg5⟩:∃g,g=X5.heap.size:=⟨_,rfl⟩
 obtain ⟨X6,hX6⟩:∃W,W=X5.alloc (.cells (cMad (.slice B1 np b1) (.slice B2 nt b2) (.slice B3 nc b3) (.slice B4 no b4) st (.slice B5 nd b5)) 32):=⟨_,rfl⟩
 rw [←hX6,←hg5]
 have hBa:Below X5.heap.size X5 X6:=by rw [hX6];exact (Below.refl _ _).alloc (Nat.le_refl _) _
 have hb5:Blk X6 g5 32 (cMad (.slice B1 np b1) (.slice B2 nt b2) (.slice B3 nc b3) (.slice B4 no b4) st (.slice B5 nd b5)):=by rw [hX6,hg5];exact Blk.new _ _ _
 have hS6:CtE X4 X6 g5 (.slice B1 np b1) (.slice B2 nt b2) (.slice B3 nc b3) (.slice B4 no b4) (.slice B5 nd b5) c:=by
  have hz:=J2.out.2.2.size
  have hb9:=hb5
  rw [HN.out.1,HN.out.2.1,HN.out.2.2.1,HN.out.2.2.2.1,HN.out.2.2.2.2.1,HN.out.2.2.2.2.2.1] at hb9
  rw [HN.out.1,HN.out.2.1,HN.out.2.2.1,HN.out.2.2.2.1,HN.out.2.2.2.2.1]
  have hl:=J2.out.2.1
  exact ⟨J2.out.2.2.trans (hBa.mono hz),hb9,by omega,J2.out.1.2.1.below hBa (Nat.le_refl _),J2.out.1.1.below hBa (Nat.le_refl _),J2.out.1.2.2.1.below hBa (Nat.le_refl _),J2.out.1.2.2.2.1.below hBa (Nat.le_refl _),(J2.out.1.2.2.2.2.base_le hl.1).below hBa (Nat.le_refl _)⟩
 have hb46:=HS.out.1.below hS6.bel HS.out.1.lt
 obtain ⟨z0,z1,z2,z3,z4,z5⟩:=hb46.six9
 have hg4l:=hb46.lt
 have H6:=hide (And.intro hb46 (And.intro hb5 (And.intro (HS.out.2.1.below hS6.bel hS6.bel.size) (And.intro hS6.ctlM (HS.out.2.2.trans (hS6.bel.mono HS.out.2.2.size))))))
 clear hb46 hb5 hS6 hX6 hg5 hBa
 go_upto_region 5 with (go_at_call 18;refine (HK.out.2.2.1 _ _ _ _ _ _ _ _ _ _ X6 H6.out.2.2.1).mono ?_;rintro e X7 ⟨F1,f1,F2,f2,rfl,hP,hT,hB⟩;have J7:=hide (And.intro hP (And.intro hT hB));clear hP hT hB)
 clear z0 z1 z2 z3 z4 z5 hg4l
 have hb47:=H6.out.1.below J7.out.2.2 H6.out.1.lt
 obtain ⟨z0,z1,z2,z3,z4,z5⟩:=hb47.six9
 have hg4l:=hb47.lt
 have hc7:=H6.out.2.2.1.below J7.out.2.2 J7.out.2.2.size
 have HC7:=hide (And.intro hc7 hb47)
 clear hb47 hc7
 go_upto_region 6 with (go_at_call 31;refine (HK.out.2.2.2.1 _ _ _ _ _ _ _ _ _ _ _ _ X7 HC7.out.1 (J7.out.1.sl encP_len (Nat.le_refl _))).mono ?_;rintro e X8 ⟨v,rfl,BQ,D1,D2,D3,D4,D5,q1,q2,q3,q4,q5,hve,ht,hp,hcr,hco,hd,hlb,hB⟩;have hve:=Ending.returned.inj hve;subst hve;have J8:=hide (And.intro ht (And.intro hp (And.intro hcr (And.intro hco hB))));clear ht hp hcr hco hd hlb hB)
 clear z0 z1 z2 z3 z4 z5 hg4l
 try simp only [HR.out.1,HR.out.2.1,HR.out.2.2.1,HR.out.2.2.2.1,HR.out.2.2.2.2.1,←HN.out.1,←HN.out.2.2.2.2.2.2.2.2]
 obtain ⟨g9,hg9⟩:∃g,g=X8.heap.size:=⟨_,rfl⟩
 obtain ⟨X9,hX9⟩:∃W,W=X8.alloc (.cells (cMad (.slice D1 np q1) (.slice D2 nt q2) (.slice D3 nc q3) (.slice D4 no q4) st (.slice D5 rd q5)) 32):=⟨_,rfl⟩
 rw [←hX9,←hg9]
 have hBa:Below X8.heap.size X8 X9:=by rw [hX9];exact (Below.refl _ _).alloc (Nat.le_refl _) _
 have hb9:Blk X9 g9 32 (cMad (.slice D1 np q1) (.slice D2 nt q2) (.slice D3 nc q3) (.slice D4 no q4) st (.slice D5 rd q5)):=by rw [hX9,hg9];exact Blk.new _ _ _
 have hB79:Below X7.heap.size X7 X9:=J8.out.2.2.2.2.trans (hBa.mono J8.out.2.2.2.2.size)
 have hB69:Below X6.heap.size X6 X9:=J7.out.2.2.trans (hB79.mono J7.out.2.2.size)
 have hd9:Own encP 3 43 X9 X7.heap.size (.slice D1 np q1) np c.points∧(∃L,Own encN3 3 35 X9 X7.heap.size (.slice D2 nt q2) nt L)∧(∃L,Own encE2 2 56 X9 X7.heap.size (.slice D3 nc q3) nc L)∧∃L,Own encZ9 1 3 X9 X7.heap.size (.slice D4 no q4) no L:=by
  have h1:=J8.out.2.1.below hBa (Nat.le_refl _)
  have h2:=J8.out.1.below hBa (Nat.le_refl _)
  have h3:=J8.out.2.2.1.below hBa (Nat.le_refl _)
  have h4:=J8.out.2.2.2.1.below hBa (Nat.le_refl _)
  rw [HR.out.1,←HN.out.1] at h1
  rw [HR.out.2.1] at h2
  rw [HR.out.2.2.1] at h3
  rw [HR.out.2.2.2.1] at h4
  exact ⟨h1,⟨_,h2⟩,⟨_,h3⟩,⟨_,h4⟩⟩
 have hpb:=J7.out.1.blk
 have htb:=J7.out.2.1.blk
 have h67:=J7.out.2.2.size
 have HB:=hide (And.intro hpb (And.intro htb (And.intro h67 (show X7.heap.size≤g9 by rw [hg9];exact J8.out.2.2.2.2.size))))
 have hp9:=J7.out.1.below hB79 (Nat.le_refl _)
 have ht9:=J7.out.2.1.below hB79 (Nat.le_refl _)
 have ha:=H6.out.1.below hB69 H6.out.1.lt
 have hbx:=H6.out.2.1.below hB69 H6.out.2.1.lt
 have hca:=H6.out.2.2.1.below hB69 hB69.size
 have hcb:=H6.out.2.2.2.1.below hB69 hB69.size
 obtain ⟨z0,z1,z2,z3,z4,z5⟩:=ha.six9
 obtain ⟨y0,y1,y2,y3,y4,y5⟩:=hbx.six9
 have hg4l:=ha.lt
 have hg5l:=hbx.lt
 have H9:=hide (And.intro hB69 (And.intro hb9 (And.intro hd9 (And.intro hp9 (And.intro ht9 (And.intro hca hcb))))))
 have hpf:=HR.out.2.2.2.2.2.2
 have i0:¬(nF:Int) < (np:Int):=by omega
 clear hB79 hB69 hb9 hd9 hpb htb h67 hp9 ht9 ha hbx hca hcb hBa hX9 hg9 hpf
 go_upto_region 8 with (go_at_call 34;refine (HK.out.2.2.2.2 _ _ _ _ _ _ _ _ _ _ _ _ _ _ _ _ _ _ _ _ X9 H9.out.2.2.2.2.2.1 H9.out.2.2.2.2.2.2).mono ?_;rintro e X10 ⟨rfl,hB⟩;have HBT:=hide hB;clear hB)
 clear z0 z1 z2 z3 z4 z5 y0 y1 y2 y3 y4 y5 hg4l hg5l i0
 have hd:=H9.out.2.2.1
 obtain ⟨L2,hd2⟩:=hd.2.1
 obtain ⟨L3,hd3⟩:=hd.2.2.1
 obtain ⟨L4,hd4⟩:=hd.2.2.2
 have HT:=hide (show OwnD X6 X10 X7.heap.size g9 D1 D2 D3 D4 D5 np nt nc no q1 q2 q3 q4 rd q5 st c from ⟨H9.out.1.trans (HBT.out.mono H9.out.1.size),H9.out.2.1.below HBT.out H9.out.2.1.lt,hd.1.below HBT.out (Nat.le_refl _),⟨L2,hd2.below HBT.out (Nat.le_refl _)⟩,⟨L3,hd3.below HBT.out (Nat.le_refl _)⟩,⟨L4,hd4.below HBT.out (Nat.le_refl _)⟩⟩)
 have HT1:=hide (And.intro (H9.out.2.2.2.1.below HBT.out (Nat.le_refl _)) (H9.out.2.2.2.2.1.below HBT.out (Nat.le_refl _)))
 clear hd hd2 hd3 hd4 HBT
 go_upto_region 9 with fail
 have HB67:=hide HB.out.2.2.1
 go_loopw [11] (fun iv wr=>∃i:Nat,i≤nF∧iv= .int .i64 i∧OwnD X6 wr X7.heap.size g9 D1 D2 D3 D4 D5 np nt nc no q1 q2 q3 q4 rd q5 st c∧(∃L,Own encP 3 43 wr X6.heap.size (.slice F1 nF f1) nF L)∧Own encN3 3 35 wr X6.heap.size (.slice F2 nT f2) nT FT) (fun iv _=>nF - (intOf iv).toNat)
 case atStart=>exact ⟨0,by omega,rfl,HT.out,⟨_,HT1.out.1⟩,HT1.out.2⟩
 case round=>
  obtain ⟨i,hi,rfl,hD,⟨L,hO⟩,hT⟩:=hrel
  obtain ⟨V,rfl⟩:∃x,x=wr:=⟨_,rfl⟩
  by_cases hlt:i < nF
  ·have i1:(i:Int) < (nF:Int):=by omega
   obtain ⟨gp,cur,hA,hge,hbT,hcap⟩:=own_some hO (by omega)
   subst hA
   obtain ⟨x,hx⟩:∃x,L[i]? =some x:=⟨_,List.getElem?_eq_getElem (by rw [←hO.1];exact hlt)⟩
   obtain ⟨bq,oq,hA,hbq,hcq⟩:=(show Sl encP 3 V V.heap.size (some ⟨gp,0,none⟩) L from hO.sl encP_len (Nat.le_refl _)).at hx
   cases hA
   have y0:=hcq 0 _ rfl
   have y1:=hcq 1 _ rfl
   have y2:=hcq 2 _ rfl
   simp only [Nat.zero_add,Nat.add_zero] at y0 y1 y2
   have fr0:=hbT.frozen (i*3)
   have fr1:=hbT.frozen (i*3+1)
   have fr2:=hbT.frozen (i*3+2)
   have hgpl:=hbT.lt
   have hgr:=setW_grown gp (encP ((-9,0,0):Pt)) V (i*3)
   have h1:=hO.setW encP_len (i:=i) (by rw [←hO.1];exact hlt) ((-9,0,0):Pt)
   have hD2:=hD.low hgr (fun r e=>by cases e;exact ⟨(hO.blk gp rfl).1,(HB.out.1 gp rfl).2⟩) HB.out.2.2.2
   have hT2:=hT.step hgr (own_rowT hO (show (43:TypeId)≠35 by decide))
   have HZ:=hide (And.intro hD2 (And.intro h1 hT2))
   clear hD2 hD hT2 hT
   clear hx hbq hcq hge hcap hgr h1 hlt hbT hO
   go_wp2
   go_roundw
   case rel=>exact ⟨i+1,by omega,by go_num,HZ.out.1,⟨_,HZ.out.2.1⟩,HZ.out.2.2⟩
   case measure=>(simp [intOf];try omega)
  ·obtain rfl:nF=i:=by omega
   have i1:¬(nF:Int) < (nF:Int):=by omega
   have HU1:=hide (And.intro hD hT)
   clear hD hT hO
   go_upto_region 13 with fail
   go_loopw [12] (fun iv wr=>∃i:Nat,i≤nT∧iv= .int .i64 i∧OwnD X6 wr X7.heap.size g9 D1 D2 D3 D4 D5 np nt nc no q1 q2 q3 q4 rd q5 st c∧∃L,Own encN3 3 35 wr X6.heap.size (.slice F2 nT f2) nT L) (fun iv _=>nT - (intOf iv).toNat)
   case atStart=>exact ⟨0,by omega,rfl,HU1.out.1,⟨_,HU1.out.2⟩⟩
   case round=>
    obtain ⟨i,hi,rfl,hD,L,hO⟩:=hrel
    obtain ⟨V,rfl⟩:∃x,x=wr:=⟨_,rfl⟩
    by_cases hlt:i < nT
    ·have i1:(i:Int) < (nT:Int):=by omega
     obtain ⟨gp,cur,hA,hge,hbT,hcap⟩:=own_some hO (by omega)
     subst hA
     obtain ⟨x,hx⟩:∃x,L[i]? =some x:=⟨_,List.getElem?_eq_getElem (by rw [←hO.1];exact hlt)⟩
     obtain ⟨bq,oq,hA,hbq,hcq⟩:=(show Sl encN3 3 V V.heap.size (some ⟨gp,0,none⟩) L from hO.sl encN3_len (Nat.le_refl _)).at hx
     cases hA
     have y0:=hcq 0 _ rfl
     have y1:=hcq 1 _ rfl
     have y2:=hcq 2 _ rfl
     simp only [Nat.zero_add,Nat.add_zero] at y0 y1 y2
     have fr0:=hbT.frozen (i*3)
     have fr1:=hbT.frozen (i*3+1)
     have fr2:=hbT.frozen (i*3+2)
     have hgpl:=hbT.lt
     have hgr:=setW_grown gp (encN3 ((-1,-1,-1):Pt)) V (i*3)
     have h1:=hO.setW encN3_len (i:=i) (by rw [←hO.1];exact hlt) ((-1,-1,-1):Pt)
     have hD2:=hD.low hgr (fun r e=>by cases e;exact ⟨(hO.blk gp rfl).1,(HB.out.2.1 gp rfl).2⟩) HB.out.2.2.2
     have HZ:=hide (And.intro hD2 h1)
     clear hD2 hD
     clear hx hbq hcq hge hcap hgr h1 hlt hbT hO
     go_wp2
     go_roundw
     case rel=>exact ⟨i+1,by omega,by go_num,HZ.out.1,⟨_,HZ.out.2⟩⟩
     case measure=>(simp [intOf];try omega)
    ·obtain rfl:nT=i:=by omega
     have i1:¬(nT:Int) < (nT:Int):=by omega
     clear hO
     have hca:=H6.out.2.2.1.below hD.bel hD.bel.size
     have hcb:=H6.out.2.2.2.1.below hD.bel hD.bel.size
     have ha:=H6.out.1.below hD.bel H6.out.1.lt
     have hbx:=H6.out.2.1.below hD.bel H6.out.2.1.lt
     obtain ⟨z0,z1,z2,z3,z4,z5⟩:=ha.six9
     obtain ⟨y0,y1,y2,y3,y4,y5⟩:=hbx.six9
     have hg4l:=ha.lt
     have hg5l:=hbx.lt
     have HD2:=hide (And.intro hD (And.intro hca hcb))
     clear hca hcb ha hbx hD
     go_upto_region 17 with (go_at_call 34;refine (HK.out.2.2.2.2 _ _ _ _ _ _ _ _ _ _ _ _ _ _ _ _ _ _ _ _ V HD2.out.2.1 HD2.out.2.2).mono ?_;rintro e U ⟨rfl,hB⟩;have hD:=HD2.out.1.bel9 hB;clear hB)
     clear z0 z1 z2 z3 z4 z5 y0 y1 y2 y3 y4 y5 hg4l hg5l
     have kq:=pts4_any D1 A1 q1 k1 c.points c.points U U.heap.size U.heap.size (hD.p.sl encP_len (Nat.le_refl _)) ((H6.out.2.2.1.p.below hD.bel).more hD.bel.size) (by rw [←HN.out.1];omega) (by rw [←HN.out.1];omega) HR.out.2.2.2.2.2.1.p HR.out.2.2.2.2.2.1.p
     simp only [←HN.out.1,decide_true] at kq
     have ha:=H6.out.1.below hD.bel H6.out.1.lt
     have z0:U.cell? ⟨g9,0,none⟩=some (.slice D1 np q1):=hD.bx.cell 0
     have y0:U.cell? ⟨g4,0,none⟩=some (.slice A1 np k1):=ha.cell 0
     have hg9l:=hD.bx.lt
     have hg4l:=ha.lt
     have HQ:=hide (And.intro kq hD)
     clear kq hD ha
     go_upto_region 18 with (go_at_call 24;refine HQ.out.1.mono ?_;rintro e U2 ⟨rfl,k6,hX6⟩;have hD2:OwnD X6 U2 X7.heap.size g9 D1 D2 D3 D4 D5 np nt nc no q1 q2 q3 q4 rd q5 st c:=HQ.out.2.bel9 (by rw [hX6];exact below_drewN (Below.refl U.heap.size U) k6);have HD2:=hide hD2;clear hX6 hD2)
     clear z0 y0 hg9l hg4l
     go_upto_region 19 with fail
     go_loopw [15] (fun iv wr=>∃i:Nat,i≤nt∧iv= .int .i64 i∧OwnD X6 wr X7.heap.size g9 D1 D2 D3 D4 D5 np nt nc no q1 q2 q3 q4 rd q5 st c) (fun iv _=>nt - (intOf iv).toNat)
     case atStart=>exact ⟨0,by omega,rfl,HD2.out⟩
     case round=>
      obtain ⟨i,hi,rfl,hD⟩:=hrel
      obtain ⟨V,rfl⟩:∃x,x=wr:=⟨_,rfl⟩
      have gz1:V.cell? ⟨g9,1,none⟩=some (.slice D2 nt q2):=hD.bx.cell 1
      have hg9l:=hD.bx.lt
      by_cases hlt:i < nt
      ·have i1:(i:Int) < (nt:Int):=by omega
       obtain ⟨L,hO⟩:=hD.t
       obtain ⟨gp,cur,hA,hge,hbT,hcap⟩:=own_some hO (by omega)
       subst hA
       obtain ⟨x,hx⟩:∃x,L[i]? =some x:=⟨_,List.getElem?_eq_getElem (by rw [←hO.1];exact hlt)⟩
       obtain ⟨bq,oq,hA,hbq,hcq⟩:=(show Sl encN3 3 V V.heap.size (some ⟨gp,0,none⟩) L from hO.sl encN3_len (Nat.le_refl _)).at hx
       cases hA
       have y0:=hcq 0 _ rfl
       have y1:=hcq 1 _ rfl
       have y2:=hcq 2 _ rfl
       simp only [Nat.zero_add,Nat.add_zero] at y0 y1 y2
       have fr0:=hbT.frozen (i*3)
       have fr1:=hbT.frozen (i*3+1)
       have fr2:=hbT.frozen (i*3+2)
       have hgpl:=hbT.lt
       have hgr:=setW_grown gp (encN3 ((-2,-2,-2):Pt)) V (i*3)
       have h1:=hO.setW encN3_len (i:=i) (by rw [←hO.1];exact hlt) ((-2,-2,-2):Pt)
       have hD2:=hD.tt hO hgr HB67.out h1
       have HZ:=hide hD2
       clear hD2 hD
       clear hx hbq hcq hge hcap hgr h1 hlt hbT hO
       go_wp2
       go_roundw
       case rel=>exact ⟨i+1,by omega,by go_num,HZ.out⟩
       case measure=>(simp [intOf];try omega)
      ·obtain rfl:nt=i:=by omega
       have i1:¬(nt:Int) < (nt:Int):=by omega
       have HD3:=hide hD
       clear hD
       go_upto_region 23 with fail
       clear gz1 hg9l
       go_loopw [16] (fun iv wr=>∃i:Nat,i≤nc∧iv= .int .i64 i∧OwnD X6 wr X7.heap.size g9 D1 D2 D3 D4 D5 np nt nc no q1 q2 q3 q4 rd q5 st c) (fun iv _=>nc - (intOf iv).toNat)
       case atStart=>exact ⟨0,by omega,rfl,HD3.out⟩
       case round=>
        obtain ⟨i,hi,rfl,hD⟩:=hrel
        obtain ⟨V,rfl⟩:∃x,x=wr:=⟨_,rfl⟩
        have gz2:V.cell? ⟨g9,2,none⟩=some (.slice D3 nc q3):=hD.bx.cell 2
        have hg9l:=hD.bx.lt
        by_cases hlt:i < nc
        ·have i1:(i:Int) < (nc:Int):=by omega
         obtain ⟨L,hO⟩:=hD.cr
         obtain ⟨gp,cur,hA,hge,hbT,hcap⟩:=own_some hO (by omega)
         subst hA
         obtain ⟨x,hx⟩:∃x,L[i]? =some x:=⟨_,List.getElem?_eq_getElem (by rw [←hO.1];exact hlt)⟩
         obtain ⟨bq,oq,hA,hbq,hcq⟩:=(show Sl encE2 2 V V.heap.size (some ⟨gp,0,none⟩) L from hO.sl encE2_len (Nat.le_refl _)).at hx
         cases hA
         have y0:=hcq 0 _ rfl
         have y1:=hcq 1 _ rfl
         simp only [Nat.zero_add,Nat.add_zero] at y0 y1
         have fr0:=hbT.frozen (i*2)
         have fr1:=hbT.frozen (i*2+1)
         have hgpl:=hbT.lt
         have hgr:=setW_grown gp (encE2 ((-2,-2):E2)) V (i*2)
         have h1:=hO.setW encE2_len (i:=i) (by rw [←hO.1];exact hlt) ((-2,-2):E2)
         have hD2:=hD.cc hO hgr HB67.out h1
         have HZ:=hide hD2
         clear hD2 hD
         clear hx hbq hcq hge hcap hgr h1 hlt hbT hO
         go_wp2
         go_roundw
         case rel=>exact ⟨i+1,by omega,by go_num,HZ.out⟩
         case measure=>(simp [intOf];try omega)
        ·obtain rfl:nc=i:=by omega
         have i1:¬(nc:Int) < (nc:Int):=by omega
         have HD4:=hide hD
         clear hD
         go_upto_region 27 with fail
         clear gz2 hg9l
         go_loopw [17] (fun iv wr=>∃i:Nat,i≤no∧iv= .int .i64 i∧OwnD X6 wr X7.heap.size g9 D1 D2 D3 D4 D5 np nt nc no q1 q2 q3 q4 rd q5 st c) (fun iv _=>no - (intOf iv).toNat)
         case atStart=>exact ⟨0,by omega,rfl,HD4.out⟩
         case round=>
          obtain ⟨i,hi,rfl,hD⟩:=hrel
          obtain ⟨V,rfl⟩:∃x,x=wr:=⟨_,rfl⟩
          have gz3:V.cell? ⟨g9,3,none⟩=some (.slice D4 no q4):=hD.bx.cell 3
          have hg9l:=hD.bx.lt
          by_cases hlt:i < no
          ·have i1:(i:Int) < (no:Int):=by omega
           obtain ⟨L,hO⟩:=hD.o
           obtain ⟨gp,cur,hA,hge,hbT,hcap⟩:=own_some hO (by omega)
           subst hA
           obtain ⟨x,hx⟩:∃x,L[i]? =some x:=⟨_,List.getElem?_eq_getElem (by rw [←hO.1];exact hlt)⟩
           obtain ⟨bq,oq,hA,hbq,hcq⟩:=(show Sl encZ9 1 V V.heap.size (some ⟨gp,0,none⟩) L from hO.sl encZ9_len (Nat.le_refl _)).at hx
           cases hA
           have y0:=hcq 0 _ rfl
           simp only [Nat.zero_add,Nat.add_zero,Nat.mul_one] at y0
           have fr0:=hbT.frozen (i)
           have hgpl:=hbT.lt
           have hgr:=setW_grown gp (encZ9 (-2)) V (i)
           have h1:=hO.setW encZ9_len (i:=i) (by rw [←hO.1];exact hlt) (-2)
           rw [Nat.mul_one] at h1
           have hD2:=hD.oo hO hgr HB67.out h1
           have HZ:=hide hD2
           clear hD2 hD
           clear hx hbq hcq hge hcap hgr h1 hlt hbT hO
           go_wp2
           go_roundw
           case rel=>exact ⟨i+1,by omega,by go_num,HZ.out⟩
           case measure=>(simp [intOf];try omega)
          ·obtain rfl:no=i:=by omega
           have i1:¬(no:Int) < (no:Int):=by omega
           have hca:=H6.out.2.2.1.below hD.bel hD.bel.size
           have hcb:=H6.out.2.2.2.1.below hD.bel hD.bel.size
           have ha:=H6.out.1.below hD.bel H6.out.1.lt
           have hbx:=H6.out.2.1.below hD.bel H6.out.2.1.lt
           obtain ⟨z0,z1,z2,z3,z4,z5⟩:=ha.six9
           obtain ⟨y0,y1,y2,y3,y4,y5⟩:=hbx.six9
           have hg4l:=ha.lt
           have hg5l:=hbx.lt
           have HD5:=hide (And.intro hD (And.intro hca hcb))
           clear hca hcb ha hbx hD
           go_upto_region 31 with (go_at_call 34;refine (HK.out.2.2.2.2 _ _ _ _ _ _ _ _ _ _ _ _ _ _ _ _ _ _ _ _ V HD5.out.2.1 HD5.out.2.2).mono ?_;rintro e U9 ⟨rfl,hB⟩;have hD:=HD5.out.1.bel9 hB;clear hB)
           clear z0 z1 z2 z3 z4 z5 y0 y1 y2 y3 y4 y5 hg4l hg5l
           have HE:=hide (H6.out.2.2.2.2.trans (hD.bel.mono H6.out.2.2.2.2.size))
           clear hD
           go_wp2
           go_ret
           exact ⟨rfl,HE.out⟩
end Go.Proofs.YtmemofonebphfaaGreat
