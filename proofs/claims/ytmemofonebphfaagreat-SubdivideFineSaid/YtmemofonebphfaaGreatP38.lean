import Derived.Test.YtmemofonebphfaaGreatP30
import Derived.Test.YtmemofonebphfaaGreatP37
namespace Go.Proofs.YtmemofonebphfaaGreat
open Go.RowKit Go.Sort
theorem finT_fits {c:Ctl} (hb:CtlB c) (hnb:errC c=0→NoBack c.tris):∀x∈finT c,fitsP x:=fun x hx=>by
 by_cases he:errC c=0
 ·have h:=(fin_facts he (hnb he)).idx x hx
  have h1:=(fin_lens hb hnb).1
  unfold fitsP fits
  omega
 ·rw [(fin_none he).2] at hx
  cases hx
end Go.Proofs.YtmemofonebphfaaGreat
namespace Go.Proofs.YtmemofonebphfaaGreat
open Go.RowKit Go.Sort
set_option maxRecDepth 100000 in
set_option maxHeartbeats 64000000 in
theorem agrees_any (Ap At Ac Ao Ad:Option Addr) (cp ct cc oc dc:Nat) (c:Ctl) (w:World) (hm:CtlM w w.heap.size Ap At Ac Ao Ad c) (hb:CtlB c) (hfs:fits c.steps) (hnb:errC c=0→NoBack c.tris):
  Calls Tryz.prog 14 #[vCtl Ap c.points.length cp At c.tris.length ct Ac c.creases.length cc Ao c.corners.length oc c.steps Ad c.details.length dc] w fun e w'=>e= .returned (.bool true)∧Below w.heap.size w w':=by
 have kf:=fun (W:World) (hW:Below w.heap.size w W)=>fine_any Ap At Ac Ao Ad cp ct cc oc dc c W (hm.below hW hW.size) hb hfs hnb
 have kg:=fun (W:World) (hW:Below w.heap.size w W)=>Fine9_any Ap At Ac Ao Ad cp ct cc oc dc c W (hm.below hW hW.size) hb hfs hnb
 have ks:=fun (W:World) (hW:Below w.heap.size w W)=>subdiv_any Ap At Ac Ao Ad cp ct cc oc dc c W (hm.below hW hW.size) hb hfs hnb
 have kr:=fun (W:World) (hW:Below w.heap.size w W)=>subdivR_any Ap At Ac Ao Ad cp ct cc oc dc c W (hm.below hW hW.size) hb hfs hnb
 have h1:=fin_lens hb hnb
 have h2:=fin_fits c
 have h3:=finT_fits hb hnb
 have h4:=sub_fits c
 have h5:=sub_len hb hnb
 obtain ⟨P,hP⟩:∃p,p=finP c:=⟨_,rfl⟩
 obtain ⟨T,hT⟩:∃t,t=finT c:=⟨_,rfl⟩
 obtain ⟨R,hR⟩:∃t,t=subR c:=⟨_,rfl⟩
 simp only [←hP,←hT,←hR] at kf kg ks kr h1 h2 h3 h4 h5
 obtain ⟨np,hnp⟩:∃n,n=c.points.length:=⟨_,rfl⟩
 obtain ⟨nt,hnt⟩:∃n,n=c.tris.length:=⟨_,rfl⟩
 obtain ⟨nc,hnc⟩:∃n,n=c.creases.length:=⟨_,rfl⟩
 obtain ⟨no,hno⟩:∃n,n=c.corners.length:=⟨_,rfl⟩
 obtain ⟨nd,hnd⟩:∃n,n=c.details.length:=⟨_,rfl⟩
 obtain ⟨st,hst⟩:∃n,n=c.steps:=⟨_,rfl⟩
 obtain ⟨er,her⟩:∃n,n=errC c:=⟨_,rfl⟩
 obtain ⟨ES,hES⟩:∃n,n=errS c:=⟨_,rfl⟩
 obtain ⟨PN,hPN⟩:∃n,n=P.length:=⟨_,rfl⟩
 obtain ⟨TN,hTN⟩:∃n,n=T.length:=⟨_,rfl⟩
 rw [←hnp,←hnt,←hnc,←hno,←hnd,←hst]
 simp only [←hnp,←hnt,←hnc,←hno,←hnd,←hst,←her,←hES,←hPN,←hTN] at kf kg ks kr h1
 have HK:=hide (And.intro kf (And.intro kg (And.intro ks kr)))
 have HL:=hide (And.intro h1 (And.intro h2 (And.intro h3 (And.intro h4 (And.intro h5 (And.intro hPN hTN))))))
 clear kf kg ks kr h1 h2 h3 h4 h5 hP hT hR hnp hnt hnc hno hnd hst her hES hPN hTN hm hb hfs hnb
 go_enter Tryz.func14,Tryz.ntmps14
 go_upto_region 1 with fail
 obtain ⟨g1,hg1⟩:∃g,g=w.heap.size:=⟨_,rfl⟩
 obtain ⟨X0,hX⟩:∃W,W=w.alloc (.cells (cCtl Ap np cp At nt ct Ac nc cc Ao no oc st Ad nd dc) 32):=⟨_,rfl⟩
 rw [←hX,←hg1]
 have hb1:Blk X0 g1 32 (cCtl Ap np cp At nt ct Ac nc cc Ao no oc st Ad nd dc):=by rw [hX,hg1];exact Blk.new _ _ _
 have hBX:Below w.heap.size w X0:=by rw [hX];exact (Below.refl _ w).alloc (Nat.le_refl _) _
 have H0:=hide (And.intro hb1 hBX)
 clear hb1 hBX hX hg1
 obtain ⟨z0,z1,z2,z3,z4,z5⟩:=H0.out.1.six9
 have hgl:=H0.out.1.lt
 go_upto_region 2 with (go_at_call 18;refine (HK.out.1 X0 H0.out.2).mono ?_;rintro e X1 ⟨A1,c1,A2,c2,rfl,ho1,ho2,hB⟩;have H1:=hide (And.intro (H0.out.1.below hB H0.out.1.lt) (And.intro (ho1.sl encP_len (Nat.le_refl _)) (And.intro (ho2.sl encN3_len (Nat.le_refl _)) (H0.out.2.trans (hB.mono H0.out.2.size)))));clear ho1 ho2 hB)
 clear z0 z1 z2 z3 z4 z5 hgl
 obtain ⟨z0,z1,z2,z3,z4,z5⟩:=H1.out.1.six9
 have hgl:=H1.out.1.lt
 go_upto_region 3 with (go_at_call 32;refine (HK.out.2.1 X1 H1.out.2.2.2).mono ?_;rintro e X2 ⟨A3,c3,A4,c4,rfl,ho1,ho2,hB⟩;have H2:=hide (And.intro (H1.out.1.below hB H1.out.1.lt) (And.intro ((H1.out.2.1.below hB).more hB.size) (And.intro ((H1.out.2.2.1.below hB).more hB.size) (And.intro (ho1.sl encP_len (Nat.le_refl _)) (And.intro (ho2.sl encN3_len (Nat.le_refl _)) (H1.out.2.2.2.trans (hB.mono H1.out.2.2.2.size)))))));clear ho1 ho2 hB)
 clear z0 z1 z2 z3 z4 z5 hgl
 obtain ⟨z0,z1,z2,z3,z4,z5⟩:=H2.out.1.six9
 have hgl:=H2.out.1.lt
 go_upto_region 4 with (go_at_call 27;refine (HK.out.2.2.1 X2 H2.out.2.2.2.2.2).mono ?_;rintro e X3 ⟨A5,n5,c5,rfl,ho1,hB⟩;have hn5:=ho1.1;have H3:=hide (And.intro (H2.out.1.below hB H2.out.1.lt) (And.intro ((H2.out.2.1.below hB).more hB.size) (And.intro ((H2.out.2.2.1.below hB).more hB.size) (And.intro ((H2.out.2.2.2.1.below hB).more hB.size) (And.intro ((H2.out.2.2.2.2.1.below hB).more hB.size) (And.intro (ho1.sl encT_len (Nat.le_refl _)) (And.intro hn5 (H2.out.2.2.2.2.2.trans (hB.mono H2.out.2.2.2.2.2.size)))))))));clear ho1 hB hn5)
 clear z0 z1 z2 z3 z4 z5 hgl
 obtain ⟨z0,z1,z2,z3,z4,z5⟩:=H3.out.1.six9
 have hgl:=H3.out.1.lt
 go_upto_region 5 with (go_at_call 37;refine (HK.out.2.2.2 X3 H3.out.2.2.2.2.2.2.2).mono ?_;rintro e X4 ⟨A6,n6,c6,rfl,ho1,hB⟩;have H4:=hide (And.intro (And.intro ((H3.out.2.1.below hB).more hB.size) (And.intro ((H3.out.2.2.1.below hB).more hB.size) (And.intro ((H3.out.2.2.2.1.below hB).more hB.size) ((H3.out.2.2.2.2.1.below hB).more hB.size)))) (And.intro (And.intro ((H3.out.2.2.2.2.2.1.below hB).more hB.size) (And.intro H3.out.2.2.2.2.2.2.1 ho1)) (H3.out.2.2.2.2.2.2.2.trans (hB.mono H3.out.2.2.2.2.2.2.2.size))));clear ho1 hB)
 clear z0 z1 z2 z3 z4 z5 hgl
 obtain rfl:n5=n6:=H4.out.2.1.2.1.trans H4.out.2.1.2.2.1.symm
 have kp:=pts4_any A1 A3 c1 c3 P P X4 X4.heap.size X4.heap.size H4.out.1.1 H4.out.1.2.2.1 (by have:=HL.out.1.1;rw [←HL.out.2.2.2.2.2.1];omega) (by have:=HL.out.1.1;rw [←HL.out.2.2.2.2.2.1];omega) HL.out.2.1 HL.out.2.1
 have kt:=fun (W:World) (hW:Below X4.heap.size X4 W)=>sameTris_any A2 A4 c2 c4 T T W X4.heap.size X4.heap.size (H4.out.1.2.1.below hW) (H4.out.1.2.2.2.below hW) (by have:=HL.out.1.2;rw [←HL.out.2.2.2.2.2.2];omega) (by have:=HL.out.1.2;rw [←HL.out.2.2.2.2.2.2];omega) HL.out.2.2.1 HL.out.2.2.1
 have ke:=fun (W:World) (hW:Below X4.heap.size X4 W)=>equal_any A5 A6 c5 c6 R R W X4.heap.size X4.heap.size (H4.out.2.1.1.below hW) (H4.out.2.1.2.2.2.below hW) (by have:=HL.out.2.2.2.2.1;omega) (by have:=HL.out.2.2.2.2.1;omega) HL.out.2.2.2.1 HL.out.2.2.2.1
 simp only [←HL.out.2.2.2.2.2.1,←HL.out.2.2.2.2.2.2,←H4.out.2.1.2.1,decide_true] at kp kt ke
 have HC:=hide (And.intro kp (And.intro kt ke))
 clear kp kt ke
 go_upto_region 6 with (go_at_call 24;refine HC.out.1.mono ?_;rintro e X5 ⟨rfl,k5,hX5⟩;have H5:=hide (show Below X4.heap.size X4 X5 from by rw [hX5];exact below_drewN (Below.refl X4.heap.size X4) k5);clear hX5)
 go_upto_region 7 with (go_at_call 25;refine (HC.out.2.1 _ H5.out).mono ?_;rintro e X6 ⟨rfl,k6,hX6⟩;have H6:=hide (show Below X4.heap.size X4 X6 from by rw [hX6];exact below_drewN H5.out k6);clear hX6)
 go_wp2_with (go_at_call 29;refine (HC.out.2.2 _ H6.out).mono ?_;rintro e X7 ⟨rfl,k7,hX7⟩;have H7:=hide (show Below w.heap.size w X7 from by rw [hX7];exact H4.out.2.2.trans ((below_drewN H6.out k7).mono H4.out.2.2.size));clear hX7)
 go_ret
 exact ⟨rfl,H7.out⟩
end Go.Proofs.YtmemofonebphfaaGreat
