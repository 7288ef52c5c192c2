import Derived.StillTailTactics
import Derived.BigRegion
import Derived.Test.YtmemofonebphfaaGreatZ22
namespace Go.Proofs.YtmemofonebphfaaGreat
open Go.RowKit Go.Sort
def lenV:Value→Nat
 | .slice _ n _=>n
 | _=>0
theorem jB:(Tryz.prog.info? 56).map (fun i=>(i.zero,i.size,i.bytes))=some (some (.agg #[.int .i64 0, .int .i64 0]),2,16):=by kernel_rfl
theorem Sl.e2 {w:World} {B:Nat} {A:Option Addr} {t:List E2} (h:Sl yH 2 w B A t) {i:Nat} {x:E2} (hx:t[i]? =some x):
  ∃b o,A=some ⟨b,o,none⟩∧b < B∧w.cell? ⟨b,o+i*2,none⟩=some (.int .i64 x.1)∧w.cell? ⟨b,o+i*2+1,none⟩=some (.int .i64 x.2):=by
 obtain ⟨b,o,hA,hb,hc⟩:=h.at hx
 exact ⟨b,o,hA,hb,hc 0 _ rfl,hc 1 _ rfl⟩
theorem zBA {x y:E2} {xs ys:List E2}:List.merge (x::xs) (y::ys) (leO ltE2)=if ltE2 y x=true then y::List.merge (x::xs) ys (leO ltE2) else x::List.merge xs (y::ys) (leO ltE2):=by
 rw [List.cons_merge_cons]
 unfold leO
 cases ltE2 y x <;>simp
set_option maxRecDepth 100000 in
set_option maxHeartbeats 32000000 in
theorem zBD (n:Nat):∀(A:Option Addr) (c:Nat) (l:List E2) (w:World),l.length≤n→Sl yH 2 w w.heap.size A l→l.length≤100000000→l.length≤c→
  Calls Tryz.prog 48 #[.slice A l.length c] w fun e w'=>∃A' c',e= .returned (.slice A' l.length c')∧Below w.heap.size w w'∧Sl yH 2 w' w'.heap.size A' (vC ltE2 l)∧l.length≤c':=by
 induction n with
 | zero=>
  intro A c l w hn hs hl hc
  have e:l= []:=List.eq_nil_of_length_eq_zero (by omega)
  subst e
  have H:=hide (ai9 hs hc)
  clear hs hc hn hl
  go_enter Tryz.func48,Tryz.ntmps48
  go_wp2_with fail
  go_ret
  exact ⟨A,c,rfl,Below.refl _ w,by rw [jZ (by simp)];exact H.o.1,H.o.2⟩
 | succ n ih=>
  intro A c l w hn hs hl hc
  by_cases h2:l.length < 2
  ·have H:=hide (ai9 hs (ai9 hc h2))
   have hd:decide ((l.length:Int) < 2)=true:=by simp;omega
   clear hs hc hn
   go_enter Tryz.func48,Tryz.ntmps48
   go_wp2_with fail
   go_ret
   exact ⟨A,c,rfl,Below.refl _ w,by rw [jZ H.o.2.2];exact H.o.1,H.o.2.1⟩
  ·obtain ⟨N,hN⟩:=ex9 (l.length)
   obtain ⟨h,hh⟩:=ex9 (N / 2)
   have hq:(N:Int) / 2=(h:Int):=by omega
   have hq2:(N:Int).tdiv 2=(h:Int):=by rw [Int.tdiv_eq_ediv_of_nonneg (by omega)];exact hq
   have hrun1:∀V:World,(Instr.slice 29 (.slice A N c) none (some (.int .i64 h)) none).run Tryz.prog V= .ok (.slice A h c) V:=fun V=>wE Tryz.underlying29 Tryz.sizeOf56 (by omega) (by omega) V
   have hrun2:∀V:World,(Instr.slice 29 (.slice A N c) (some (.int .i64 h)) none none).run Tryz.prog V= .ok (.slice (cutA A c h 2) (N - h) (c - h)) V:=fun V=>kN Tryz.underlying29 Tryz.sizeOf56 (by omega) V
   have hl1:(l.take h).length=h:=by rw [List.length_take];omega
   have hl2:(l.drop h).length=N - h:=by rw [List.length_drop];omega
   have k1:=fun W (hW:Below w.heap.size w W)=>ih A c (l.take h) W (by omega) ((hs.below hW).more hW.size |>.take8 h) (by omega) (by omega)
   have k2:=fun W (hW:Below w.heap.size w W)=>ih (cutA A c h 2) (c - h) (l.drop h) W (by omega) (((hs.below hW).more hW.size).cut (by omega) (by omega)) (by omega) (by omega)
   simp only [hl1] at k1
   simp only [hl2] at k2
   obtain ⟨R,hR⟩:=ex9 (vC ltE2 l)
   have hm:List.merge (vC ltE2 (l.take h)) (vC ltE2 (l.drop h)) (leO ltE2)=R:=by rw [hR];exact gI.halves l h
   have hRl:R.length=N:=by rw [hR,yE,hN]
   have hx1:(vC ltE2 (l.take h)).length=h:=by rw [yE,hl1]
   have hx2:(vC ltE2 (l.drop h)).length=N - h:=by rw [yE,hl2]
   rw [←hR,←hN]
   obtain ⟨x0,hx0⟩:=ex9 (vC ltE2 (l.take h))
   obtain ⟨y0,hy0⟩:=ex9 (vC ltE2 (l.drop h))
   simp only [←hx0] at k1 hm hx1
   simp only [←hy0] at k2 hm hx2
   have K:=hide (ai9 k1 (ai9 k2 (ai9 hm (ai9 hRl (ai9 hx1 hx2)))))
   have hhN:h≤N:=by omega
   have i1:¬(N:Int) < 2:=by omega
   have hNl:N≤100000000:=by omega
   clear ih k1 k2 hm hRl hx1 hx2 hs hl hc hn hN hh hl1 hl2 hR hx0 hy0 h2
   go_enter Tryz.func48,Tryz.ntmps48
   go_upto_region 4 with (go_at_call 48;refine (K.o.1 w (Below.refl _ w)).mono ?_;rintro e w1 ⟨A1,c1,rfl,hB,hs1,hc1⟩;have H1:=hide (ai9 hs1 (ai9 hc1 hB));clear hs1 hc1 hB)
   go_upto_region 5 with (go_at_call 48;refine (K.o.2.1 w1 H1.o.2.2).mono ?_;rintro e Y ⟨A2,c2,rfl,hB,hs2,hc2⟩;have H2:=hide (ai9 ((H1.o.1.below hB).more hB.size) (ai9 hs2 (ai9 hc2 (H1.o.2.2.trans (hB.mono H1.o.2.2.size)))));clear hs2 hc2 hB)
   go_upto_region 6 with fail
   have hN2:=K.o.2.2.2.2.2
   have hN1:=K.o.2.2.2.2.1
   go_loopw [3,4,5] (fun av bv ov wr=>∃(x y m:List E2) (A1 A2:Option Addr) (c1 c2:Nat),av= .slice A1 x.length c1∧bv= .slice A2 y.length c2∧(Sl yH 2 Y Y.heap.size A1 x∧Sl yH 2 Y Y.heap.size A2 y)∧(x.length≤c1∧y.length≤c2)∧x.length+y.length+m.length=N∧m++List.merge x y (leO ltE2)=R∧Own yH 2 56 wr Y.heap.size ov m.length m∧Below Y.heap.size Y wr) (fun av bv _ _=>lenV av+lenV bv)
   case atStart=>exact ⟨_,_, [],A1,A2,c1,c2,by rw [hN1],by rw [hN2],⟨H2.o.1,H2.o.2.1⟩,⟨by rw [hN1];exact H1.o.2.1,by rw [hN2];exact H2.o.2.2.1⟩,by rw [hN1,hN2];simp;omega,K.o.2.2.1,Own.nil,Below.refl _ Y⟩
   case round=>
    obtain ⟨x,y,m,A1,A2,c1,c2,rfl,rfl,⟨hsx,hsy⟩,⟨hcx,hcy⟩,hlen,hmr,hO,hB⟩:=hrel
    obtain ⟨V,rfl⟩:=ex9 (wr)
    obtain ⟨Am,cm,rfl⟩:=hO.form
    have hcase:x= []∨(x≠ []∧y= [])∨(∃a xs b ys,x=a::xs∧y=b::ys):=by
     cases x with
     | nil=>exact .inl rfl
     | cons a xs=>cases y with
      | nil=>exact .inr (.inl ⟨by simp,rfl⟩)
      | cons b ys=>exact .inr (.inr ⟨a,xs,b,ys,rfl,rfl⟩)
    rcases hcase with hx | ⟨hx,hy⟩ | ⟨⟨x1,x2⟩,xs,⟨y1,y2⟩,ys,rfl,rfl⟩
    ·have hM:(m++x)++y=R:=by
      have h:=hmr
      rw [hx] at h
      rw [hx]
      simpa using h
     have hpx:x.length=0:=by rw [hx];rfl
     obtain ⟨px,hxl⟩:∃n,x.length=n:=⟨_,rfl⟩
     obtain ⟨py,hyl⟩:∃n,y.length=n:=⟨_,rfl⟩
     obtain ⟨ml,hml⟩:∃n,m.length=n:=⟨_,rfl⟩
     simp only [hxl,hyl,hml] at hpx hlen hO⊢
     have i2:¬(0:Int) < (px:Int):=by omega
     have hsV:Sl yH 2 V V.heap.size A1 x:=(hsx.below hB).more hB.size
     have hzV:=hB.size
     have HO:=hide (ai9 hO (ai9 hsV (ai9 hsy (ai9 hB (ai9 hM (ai9 hxl (ai9 hyl hml)))))))
     clear hO hsV hsx hsy hB hmr hM hxl hyl hml hcx hcy hx
     go_upto_region 12 with fail
     go_wp2_with (first
      | (at_builtin;refine zI rfl _ _ _ rfl Tryz.underlying29 jB rfl (by omega) zU yO rfl H5.o.1 A2 c2 Y.heap.size y (by rw [HO.o.2.2.2.2.2.2.1];rfl) (HO.o.2.2.1.below H5.o.2) (by have:=HO.o.2.2.2.2.2.2.1;have:=HO.o.2.2.2.2.2.1;unfold maxLen;omega) (by have:=HO.o.2.2.2.2.2.2.1;have:=HO.o.2.2.2.2.2.1;omega) H5.o.2.size ?_;intro v6 w6 ho6 hg6 hB6 hat6;have H6:=hide (ai9 ho6 (H5.o.2.trans hB6));clear ho6 hg6 hB6 hat6)
      | (at_builtin;refine zI rfl _ _ _ rfl Tryz.underlying29 jB rfl (by omega) zU yO rfl HO.o.1 A1 c1 V.heap.size x (by rw [HO.o.2.2.2.2.2.1];rfl) HO.o.2.1 (by rw [HO.o.2.2.2.2.2.1];unfold maxLen;omega) (by rw [HO.o.2.2.2.2.2.1];omega) hzV ?_;intro v5 w5 ho5 hg5 hB5 hat5;obtain ⟨A5,c5,rfl⟩:=ho5.form;have H5:=hide (ai9 ho5 (HO.o.2.2.2.1.trans hB5));clear ho5 hg5 hB5 hat5))
     go_ret
     have ho:=H6.o.1
     rw [HO.o.2.2.2.2.1,HO.o.2.2.2.2.2.1,HO.o.2.2.2.2.2.2.1,show ml+px+py=N by omega] at ho
     obtain ⟨A6,c6,rfl⟩:=ho.form
     exact ⟨A6,c6,rfl,H2.o.2.2.2.trans (H6.o.2.mono H2.o.2.2.2.size),ho.sl zU lr9,ho.place.1⟩
    ·have hM:(m++x)++y=R:=by
      have h:=hmr
      rw [hy] at h
      rw [hy]
      simpa using h
     have hpx:0 < x.length∧y.length=0:=⟨List.length_pos_iff.2 hx,by rw [hy];rfl⟩
     obtain ⟨px,hxl⟩:∃n,x.length=n:=⟨_,rfl⟩
     obtain ⟨py,hyl⟩:∃n,y.length=n:=⟨_,rfl⟩
     obtain ⟨ml,hml⟩:∃n,m.length=n:=⟨_,rfl⟩
     simp only [hxl,hyl,hml] at hpx hlen hO⊢
     obtain ⟨hp1,hp2⟩:=hpx
     subst hp2
     have i2:(0:Int) < (px:Int):=by omega
     have hsV:Sl yH 2 V V.heap.size A1 x:=(hsx.below hB).more hB.size
     have hzV:=hB.size
     have HO:=hide (ai9 hO (ai9 hsV (ai9 hsy (ai9 hB (ai9 hM (ai9 hxl (ai9 hyl hml)))))))
     clear hO hsV hsx hsy hB hmr hM hxl hyl hml hcx hcy hx hy
     go_upto_region 12 with fail
     go_wp2_with (first
      | (at_builtin;refine zI rfl _ _ _ rfl Tryz.underlying29 jB rfl (by omega) zU yO rfl H5.o.1 A2 c2 Y.heap.size y (by rw [HO.o.2.2.2.2.2.2.1];rfl) (HO.o.2.2.1.below H5.o.2) (by have:=HO.o.2.2.2.2.2.2.1;have:=HO.o.2.2.2.2.2.1;unfold maxLen;omega) (by have:=HO.o.2.2.2.2.2.2.1;have:=HO.o.2.2.2.2.2.1;omega) H5.o.2.size ?_;intro v6 w6 ho6 hg6 hB6 hat6;have H6:=hide (ai9 ho6 (H5.o.2.trans hB6));clear ho6 hg6 hB6 hat6)
      | (at_builtin;refine zI rfl _ _ _ rfl Tryz.underlying29 jB rfl (by omega) zU yO rfl HO.o.1 A1 c1 V.heap.size x (by rw [HO.o.2.2.2.2.2.1];rfl) HO.o.2.1 (by rw [HO.o.2.2.2.2.2.1];unfold maxLen;omega) (by rw [HO.o.2.2.2.2.2.1];omega) hzV ?_;intro v5 w5 ho5 hg5 hB5 hat5;obtain ⟨A5,c5,rfl⟩:=ho5.form;have H5:=hide (ai9 ho5 (HO.o.2.2.2.1.trans hB5));clear ho5 hg5 hB5 hat5))
     go_ret
     have ho:=H6.o.1
     rw [HO.o.2.2.2.2.1,HO.o.2.2.2.2.2.1,HO.o.2.2.2.2.2.2.1,show ml+px+0=N by omega] at ho
     obtain ⟨A6,c6,rfl⟩:=ho.form
     exact ⟨A6,c6,rfl,H2.o.2.2.2.trans (H6.o.2.mono H2.o.2.2.2.size),ho.sl zU lr9,ho.place.1⟩
    ·obtain ⟨ba,oa,hA,hba,z0,z1⟩:=hsx.e2 (i:=0) rfl
     obtain ⟨bb,ob,hB2,hbb,z2,z3⟩:=hsy.e2 (i:=0) rfl
     subst hA hB2
     simp only [Nat.zero_mul,Nat.add_zero] at z0 z1 z2 z3
     have hdx:Sl yH 2 Y Y.heap.size (cutA (some ⟨ba,oa,none⟩) c1 1 2) xs:=hsx.cut (i:=1) (by simp) hcx
     have hdy:Sl yH 2 Y Y.heap.size (cutA (some ⟨bb,ob,none⟩) c2 1 2) ys:=hsy.cut (i:=1) (by simp) hcy
     have HC:=hide (ai9 z0 (ai9 z1 (ai9 z2 (ai9 z3 (ai9 hba hbb)))))
     have z0:=(hB.cell (p:=⟨ba,oa,none⟩) hba).trans z0
     have z1:=(hB.cell (p:=⟨ba,oa+1,none⟩) hba).trans z1
     have z2:=(hB.cell (p:=⟨bb,ob,none⟩) hbb).trans z2
     have z3:=(hB.cell (p:=⟨bb,ob+1,none⟩) hbb).trans z3
     have hlA:ba < V.heap.size:=Nat.lt_of_lt_of_le hba hB.size
     have hlB:bb < V.heap.size:=Nat.lt_of_lt_of_le hbb hB.size
     obtain ⟨px,hxl⟩:∃n,xs.length=n:=⟨_,rfl⟩
     obtain ⟨py,hyl⟩:∃n,ys.length=n:=⟨_,rfl⟩
     have hr1:∀W:World,(Instr.slice 29 (.slice (some ⟨ba,oa,none⟩) (px+1) c1) (some (.int .i64 1)) none none).run Tryz.prog W= .ok (.slice (cutA (some ⟨ba,oa,none⟩) c1 1 2) px (c1 - 1)) W:=fun W=>kN (i:=1) Tryz.underlying29 Tryz.sizeOf56 (by omega) W
     have hr2:∀W:World,(Instr.slice 29 (.slice (some ⟨bb,ob,none⟩) (py+1) c2) (some (.int .i64 1)) none none).run Tryz.prog W= .ok (.slice (cutA (some ⟨bb,ob,none⟩) c2 1 2) py (c2 - 1)) W:=fun W=>kN (i:=1) Tryz.underlying29 Tryz.sizeOf56 (by omega) W
     rw [List.length_cons,List.length_cons,hxl,hyl] at hlen
     rw [List.length_cons,hxl] at hcx
     rw [List.length_cons,hyl] at hcy
     simp only [List.length_cons,hxl,hyl]
     obtain ⟨ml,hml⟩:∃n,m.length=n:=⟨_,rfl⟩
     rw [hml] at hlen hO⊢
     have kb:=fun W=>zBL (y1,y2) (x1,x2) W
     have HR:=hide (ai9 hsx (ai9 hsy (ai9 hdy (ai9 hdx (ai9 hmr (ai9 hO hB))))))
     have i2:(0:Int) < ((px+1:Nat):Int):=by omega
     have i3:(0:Int) < ((py+1:Nat):Int):=by omega
     have i4:(0:Int) < (px:Int)+1:=by omega
     have i5:(0:Int) < (py:Int)+1:=by omega
     clear hsx hsy hdx hdy hmr hO hB hba hbb
     by_cases hcmp:ltE2 (y1,y2) (x1,x2)=true
     ·have hl:ltE2 (y1,y2) (x1,x2)=true:=hcmp
      rw [hl] at kb
      have hM:(m++ [(y1,y2)])++List.merge ((x1,x2)::xs) ys (leO ltE2)=R:=by
       have h:=HR.o.2.2.2.2.1
       rw [zBA,hl] at h
       rw [List.append_assoc]
       exact h
      have HK:=hide (ai9 kb hM)
      clear kb hl hcmp hM
      go_upto_region 7 with fail
      go_still_tail 6,(by kernel_rfl)
      repeat still_step
      change wpList _ _ _ _ _ V.drew
      go_upto_region 8 with (go_at_call 82;refine (HK.o.1 V.drew).mono ?_;rintro e W3 ⟨rfl,hB⟩;have H3:=hide (ai9 (HR.o.2.2.2.2.2.2.drew.trans (hB.mono HR.o.2.2.2.2.2.2.size)) (HR.o.2.2.2.2.2.1.drew.below hB lr9));clear hB)
      clear z0 z1 z2 z3 hlA hlB
      have z0:=(H3.o.1.cell (p:=⟨ba,oa,none⟩) HC.o.2.2.2.2.1).trans HC.o.1
      have z1:=(H3.o.1.cell (p:=⟨ba,oa+1,none⟩) HC.o.2.2.2.2.1).trans HC.o.2.1
      have z2:=(H3.o.1.cell (p:=⟨bb,ob,none⟩) HC.o.2.2.2.2.2).trans HC.o.2.2.1
      have z3:=(H3.o.1.cell (p:=⟨bb,ob+1,none⟩) HC.o.2.2.2.2.2).trans HC.o.2.2.2.1
      have hlA:ba < W3.heap.size:=Nat.lt_of_lt_of_le HC.o.2.2.2.2.1 H3.o.1.size
      have hlB:bb < W3.heap.size:=Nat.lt_of_lt_of_le HC.o.2.2.2.2.2 H3.o.1.size
      have hz3:=H3.o.1.size
      go_upto_region 9 with (at_builtin;refine zC rfl _ _ _ rfl Tryz.underlying29 jB rfl (by omega) zU yO rfl (H3.o.2.alloc _) W3.heap.size 1 ((y1,y2):E2) rfl (Blk.new _ _ _) (by unfold maxLen;omega) (by omega) (by simp;omega) ?_;intro g5 cap5 w5 hown5 hg5 hB5 hat5 hgb5 hlt5;have H5:=hide (ai9 hown5 ((H3.o.1.alloc hz3 _).trans hB5));clear hown5 hg5 hB5 hat5 hgb5 hlt5)
      go_wp2
      go_roundw
      case rel=>exact ⟨(x1,x2)::xs,ys,m++ [(y1,y2)],some ⟨ba,oa,none⟩,cutA (some ⟨bb,ob,none⟩) c2 1 2,c1,c2 - 1,by rw [List.length_cons,hxl],by rw [hyl],⟨HR.o.1,HR.o.2.2.1⟩,⟨by rw [List.length_cons,hxl];omega,by omega⟩,by rw [List.length_append,List.length_cons];simp;omega,HK.o.2,by rw [List.length_append,hml];exact H5.o.1,H5.o.2⟩
      case measure=>(simp [lenV];try omega)
     ·have hl:ltE2 (y1,y2) (x1,x2)=false:=(by simpa using hcmp)
      rw [hl] at kb
      have hM:(m++ [(x1,x2)])++List.merge xs ((y1,y2)::ys) (leO ltE2)=R:=by
       have h:=HR.o.2.2.2.2.1
       rw [zBA,hl] at h
       rw [List.append_assoc]
       exact h
      have HK:=hide (ai9 kb hM)
      clear kb hl hcmp hM
      go_upto_region 7 with fail
      go_still_tail 6,(by kernel_rfl)
      repeat still_step
      change wpList _ _ _ _ _ V.drew
      go_upto_region 10 with (go_at_call 82;refine (HK.o.1 V.drew).mono ?_;rintro e W3 ⟨rfl,hB⟩;have H3:=hide (ai9 (HR.o.2.2.2.2.2.2.drew.trans (hB.mono HR.o.2.2.2.2.2.2.size)) (HR.o.2.2.2.2.2.1.drew.below hB lr9));clear hB)
      clear z0 z1 z2 z3 hlA hlB
      have z0:=(H3.o.1.cell (p:=⟨ba,oa,none⟩) HC.o.2.2.2.2.1).trans HC.o.1
      have z1:=(H3.o.1.cell (p:=⟨ba,oa+1,none⟩) HC.o.2.2.2.2.1).trans HC.o.2.1
      have z2:=(H3.o.1.cell (p:=⟨bb,ob,none⟩) HC.o.2.2.2.2.2).trans HC.o.2.2.1
      have z3:=(H3.o.1.cell (p:=⟨bb,ob+1,none⟩) HC.o.2.2.2.2.2).trans HC.o.2.2.2.1
      have hlA:ba < W3.heap.size:=Nat.lt_of_lt_of_le HC.o.2.2.2.2.1 H3.o.1.size
      have hlB:bb < W3.heap.size:=Nat.lt_of_lt_of_le HC.o.2.2.2.2.2 H3.o.1.size
      have hz3:=H3.o.1.size
      go_upto_region 11 with (at_builtin;refine zC rfl _ _ _ rfl Tryz.underlying29 jB rfl (by omega) zU yO rfl (H3.o.2.alloc _) W3.heap.size 1 ((x1,x2):E2) rfl (Blk.new _ _ _) (by unfold maxLen;omega) (by omega) (by simp;omega) ?_;intro g5 cap5 w5 hown5 hg5 hB5 hat5 hgb5 hlt5;have H5:=hide (ai9 hown5 ((H3.o.1.alloc hz3 _).trans hB5));clear hown5 hg5 hB5 hat5 hgb5 hlt5)
      go_wp2
      go_roundw
      case rel=>exact ⟨xs,(y1,y2)::ys,m++ [(x1,x2)],cutA (some ⟨ba,oa,none⟩) c1 1 2,some ⟨bb,ob,none⟩,c1 - 1,c2,by rw [hxl],by rw [List.length_cons,hyl],⟨HR.o.2.2.2.1,HR.o.2.1⟩,⟨by omega,by rw [List.length_cons,hyl];omega⟩,by rw [List.length_append,List.length_cons];simp;omega,HK.o.2,by rw [List.length_append,hml];exact H5.o.1,H5.o.2⟩
      case measure=>(simp [lenV];try omega)
end Go.Proofs.YtmemofonebphfaaGreat
namespace Go.Proofs.YtmemofonebphfaaGreat
open Go.RowKit Go.Sort
def upF (l:List E2):List E2:=l.filter fun e=>decide (e.1 < e.2)
theorem zFL {t:List Pt} {i:Nat} {x:Pt} (hx:t[i]? =some x):upE (t.take (i+1))=upE (t.take i)++upF (de3 x):=by
 unfold upE upF dirE
 rw [List.take_add_one,hx,List.flatMap_append,List.filter_append]
 simp
theorem uZ {x:Pt} {j:Nat} {e:E2} (he:(de3 x)[j]? =some e):upF ((de3 x).take (j+1))=upF ((de3 x).take j)++if e.1 < e.2 then [e] else []:=by
 unfold upF
 rw [List.take_add_one,he,List.filter_append]
 by_cases h:e.1 < e.2 <;>simp [h]
set_option maxRecDepth 100000 in
set_option maxHeartbeats 32000000 in
theorem uQ (A:Option Addr) (c:Nat) (t:List Pt) (w:World) (hs:Sl yF 3 w w.heap.size A t) (hl:t.length≤1000000):
  Calls Tryz.prog 26 #[.slice A t.length c] w fun e w'=>∃A' c',e= .returned (.slice A' (zH t).length c')∧Sl yH 2 w' w'.heap.size A' (zH t)∧Below w.heap.size w w':=by
 obtain ⟨N,hN⟩:=ex9 (t.length)
 rw [←hN] at hl⊢
 have HS:=hide (ai9 hs hN)
 clear hs hN
 go_enter Tryz.func26,Tryz.ntmps26
 go_upto_region 3 with fail
 go_loopw [3,4] (fun ov iv wr=>∃(i m:Nat),i≤N∧iv= .int .i64 i∧Own yH 2 56 wr w.heap.size ov m (upE (t.take i))∧m≤3*i∧Below w.heap.size w wr) (fun _ iv _=>N - (intOf iv).toNat)
 case atStart=>exact ⟨0,0,by omega,rfl,Own.nil,by omega,Below.refl _ w⟩
 case round=>
  obtain ⟨i,m,hi,rfl,hO,hm,hB⟩:=hrel
  obtain ⟨V,rfl⟩:=ex9 (wr)
  obtain ⟨Ao,co,rfl⟩:=hO.form
  by_cases hlt:i < N
  ·have i1:(i:Int) < (N:Int):=by omega
   obtain ⟨x,hx⟩:∃x,t[i]? =some x:=⟨_,List.getElem?_eq_getElem (by rw [←HS.o.2];exact hlt)⟩
   obtain ⟨bb,o,hA,hbb,c0,c1,c2⟩:=HS.o.1.n3 hx
   subst hA
   have hup:=zFL hx
   obtain ⟨x1,x2,x3⟩:=x
   simp only at c0 c1 c2
   have HC:=hide (ai9 c0 (ai9 c1 (ai9 c2 (ai9 hbb hup))))
   have HV:=hide (ai9 hO hB)
   clear hx hup c0 c1 c2 hO hB
   go_upto_region 6 with fail
   go_loopw [3,5] (fun ov jv wz=>∃(j m2:Nat),j≤3∧jv= .int .i64 j∧Own yH 2 56 wz w.heap.size ov m2 (upE (t.take i)++upF ((de3 (x1,x2,x3)).take j))∧m2≤3*i+j∧Below w.heap.size w wz) (fun _ jv _=>3 - (intOf jv).toNat)
   case atStart=>exact ⟨0,m,by omega,rfl,by simpa [upF] using HV.o.1,by omega,HV.o.2⟩
   case round=>
    obtain ⟨j,m2,hj,rfl,hO,hm2,hB⟩:=hrel
    obtain ⟨U,rfl⟩:=ex9 (wr)
    obtain ⟨Ap,cp,rfl⟩:=hO.form
    have c0:=(hB.cell (p:=⟨bb,o+i*3,none⟩) HC.o.2.2.2.1).trans HC.o.1
    have c1:=(hB.cell (p:=⟨bb,o+i*3+1,none⟩) HC.o.2.2.2.1).trans HC.o.2.1
    have c2:=(hB.cell (p:=⟨bb,o+i*3+2,none⟩) HC.o.2.2.2.1).trans HC.o.2.2.1
    have hbU:bb < U.heap.size:=Nat.lt_of_lt_of_le HC.o.2.2.2.1 hB.size
    have hzU:=hB.size
    have HU:=hide (ai9 hO hB)
    clear hO hB HV
    have a1:IntKind.i64.wrap 1=1:=by decide
    have a2:IntKind.i64.wrap 2=2:=by decide
    have a3:IntKind.i64.wrap 3=3:=by decide
    have hc:j=0∨j=1∨j=2∨j=3:=by omega
    rcases hc with rfl | rfl | rfl | rfl
    ·have hsu:=uZ (x:=(x1,x2,x3)) (j:=0) (e:=(x1,x2)) rfl
     by_cases h1:x1 < x2
     ·rw [if_pos h1] at hsu
      have HH:=hide hsu
      clear hsu
      go_wp2_with (at_builtin;refine zC rfl _ _ _ rfl Tryz.underlying29 jB rfl (by omega) zU yO rfl (HU.o.1.alloc _) U.heap.size 1 ((x1,x2):E2) rfl (Blk.new _ _ _) (by unfold maxLen;omega) (by omega) (by simp;omega) ?_;intro g5 cap5 w5 hown5 hg5 hB5 hat5 hgb5 hlt5;have H5:=hide (ai9 hown5 ((HU.o.2.alloc hzU _).trans hB5));clear hown5 hg5 hB5 hat5 hgb5 hlt5)
      go_roundw
      case rel=>exact ⟨1,m2+1,by omega,by go_num,by rw [HH.o,←List.append_assoc];exact H5.o.1,by omega,H5.o.2⟩
      case measure=>(simp [intOf];try omega)
     ·rw [if_neg h1,List.append_nil] at hsu
      have HH:=hide hsu
      clear hsu
      go_wp2
      go_roundw
      case rel=>exact ⟨1,m2,by omega,by go_num,by rw [HH.o];exact HU.o.1,by omega,HU.o.2⟩
      case measure=>(simp [intOf];try omega)
    ·have hsu:=uZ (x:=(x1,x2,x3)) (j:=1) (e:=(x2,x3)) rfl
     by_cases h1:x2 < x3
     ·rw [if_pos h1] at hsu
      have HH:=hide hsu
      clear hsu
      go_wp2_with (at_builtin;refine zC rfl _ _ _ rfl Tryz.underlying29 jB rfl (by omega) zU yO rfl (HU.o.1.alloc _) U.heap.size 1 ((x2,x3):E2) rfl (Blk.new _ _ _) (by unfold maxLen;omega) (by omega) (by simp;omega) ?_;intro g5 cap5 w5 hown5 hg5 hB5 hat5 hgb5 hlt5;have H5:=hide (ai9 hown5 ((HU.o.2.alloc hzU _).trans hB5));clear hown5 hg5 hB5 hat5 hgb5 hlt5)
      go_roundw
      case rel=>exact ⟨2,m2+1,by omega,by go_num,by rw [HH.o,←List.append_assoc];exact H5.o.1,by omega,H5.o.2⟩
      case measure=>(simp [intOf];try omega)
     ·rw [if_neg h1,List.append_nil] at hsu
      have HH:=hide hsu
      clear hsu
      go_wp2
      go_roundw
      case rel=>exact ⟨2,m2,by omega,by go_num,by rw [HH.o];exact HU.o.1,by omega,HU.o.2⟩
      case measure=>(simp [intOf];try omega)
    ·have hsu:=uZ (x:=(x1,x2,x3)) (j:=2) (e:=(x3,x1)) rfl
     by_cases h1:x3 < x1
     ·rw [if_pos h1] at hsu
      have HH:=hide hsu
      clear hsu
      go_wp2_with (at_builtin;refine zC rfl _ _ _ rfl Tryz.underlying29 jB rfl (by omega) zU yO rfl (HU.o.1.alloc _) U.heap.size 1 ((x3,x1):E2) rfl (Blk.new _ _ _) (by unfold maxLen;omega) (by omega) (by simp;omega) ?_;intro g5 cap5 w5 hown5 hg5 hB5 hat5 hgb5 hlt5;have H5:=hide (ai9 hown5 ((HU.o.2.alloc hzU _).trans hB5));clear hown5 hg5 hB5 hat5 hgb5 hlt5)
      go_roundw
      case rel=>exact ⟨3,m2+1,by omega,by go_num,by rw [HH.o,←List.append_assoc];exact H5.o.1,by omega,H5.o.2⟩
      case measure=>(simp [intOf];try omega)
     ·rw [if_neg h1,List.append_nil] at hsu
      have HH:=hide hsu
      clear hsu
      go_wp2
      go_roundw
      case rel=>exact ⟨3,m2,by omega,by go_num,by rw [HH.o];exact HU.o.1,by omega,HU.o.2⟩
      case measure=>(simp [intOf];try omega)
    ·go_wp2
     go_roundw
     case rel=>exact ⟨i+1,m2,by omega,by go_num,by rw [HC.o.2.2.2.2];exact HU.o.1,by omega,HU.o.2⟩
     case measure=>(simp [intOf];try omega)
  ·obtain rfl:i=N:=by omega
   have i1:¬(i:Int) < (i:Int):=by omega
   have ht:t.take i=t:=by rw [HS.o.2];exact List.take_length
   rw [ht] at hO
   have hml:=hO.1
   have k:=zBD m Ao co (upE t) V (by omega) (hO.sl zU lr9) (by omega) (by rw [←hml];exact hO.place.1)
   rw [←hml] at k
   have hel:m=(zH t).length:=by unfold zH;rw [yE];exact hml
   have HK:=hide (ai9 k (ai9 hB hel))
   clear k hO hB ht hml hel
   go_wp2_with (go_at_call 48;refine HK.o.1.mono ?_;rintro e W3 ⟨A3,c3,rfl,hB3,hs3,_⟩;have H3:=hide (ai9 hs3 (HK.o.2.1.trans (hB3.mono HK.o.2.1.size)));clear hB3 hs3)
   go_ret
   exact ⟨A3,c3,by rw [←HK.o.2.2];rfl,H3.o.1,H3.o.2⟩
end Go.Proofs.YtmemofonebphfaaGreat
namespace Go.Proofs.YtmemofonebphfaaGreat
open Go.RowKit Go.Sort
def yG (e:E2):Prop:=fits e.1∧fits e.2
set_option maxRecDepth 100000 in
theorem zME (e:E2) (h:yG e):Tryz.prog.keyLits 2 56 (yH e)=some [.int .i64 e.1, .int .i64 e.2]:=by
 have c:Tryz.prog.cellsOf 3=1:=by kernel_rfl
 have c2:Tryz.prog.cellsOf 56=2:=by kernel_rfl
 have w0:=uD h.1
 have w1:=uD h.2
 simp [yH,Program.keyLits,Tryz.underlying56,Tryz.underlying3,c,c2,List.range_succ,w0,w1]
set_option maxRecDepth 100000 in
theorem eqE2 (a b:E2) (ha:yG a) (hb:yG b) (w:World):(Op.equalIn 10000 56 (vE2 a) (vE2 b)).run Tryz.prog w= .ok (decide (a=b)) w:=by
 have c:Tryz.prog.cellsOf 56=2:=by kernel_rfl
 obtain ⟨r,hr,he⟩:=run_equalIn_deep (P:=Tryz.prog) 9998 2 56 (by kernel_rfl) w 2 2 (vE2 a) (vE2 b) _ _ (by simp [Value.formed,Tryz.underlying56,c]) (by simp [Value.formed,Tryz.underlying56,c]) (zME a ha) (zME b hb)
 rw [hr]
 have:r=decide (a=b):=by
  rw [Bool.eq_iff_iff,he]
  obtain ⟨a1,a2⟩:=a
  obtain ⟨b1,b2⟩:=b
  simp
 rw [this]
end Go.Proofs.YtmemofonebphfaaGreat
namespace Go.Proofs.YtmemofonebphfaaGreat
open Go.RowKit Go.Sort
theorem zMC {l:List E2} (hs:l.Pairwise (fun a b=>leO ltE2 a b=true)) {m k:Nat} {x y e:E2} (hx:l[m]? =some x) (hy:l[k]? =some y) (hk:k≤m) (h:ltE2 x e=true):ltE2 y e=true:=by
 rcases Nat.lt_or_ge k m with h1 | h1
 ·obtain ⟨hm,rfl⟩:=List.getElem?_eq_some_iff.1 hx
  obtain ⟨hk',rfl⟩:=List.getElem?_eq_some_iff.1 hy
  have:=List.pairwise_iff_getElem.1 hs k m hk' hm h1
  simp only [leO,Bool.not_eq_true'] at this
  simp [ltE2] at this h⊢
  omega
 ·have:k=m:=by omega
  subst this
  rw [hx] at hy
  cases hy
  exact h
theorem zC4 {l:List E2} (hs:l.Pairwise (fun a b=>leO ltE2 a b=true)) {a b:Int} {lo:Nat} (h1:∀k y,k < lo→l[k]? =some y→ltE2 y (nrmE a b)=true) (h2:∀k y,lo≤k→l[k]? =some y→ltE2 y (nrmE a b)=false) (h3:l[lo]? ≠some (nrmE a b)):posE l a b= -1:=by
 refine dU fun hm=> ?_
 obtain ⟨k,hk⟩:=List.mem_iff_getElem?.1 hm
 rcases Nat.lt_trichotomy k lo with h | h | h
 ·have:=h1 k _ h hk
  rw [gI.irr] at this
  cases this
 ·subst h;exact h3 hk
 ·have hlo:lo < l.length:=by have:=(List.getElem?_eq_some_iff.1 hk).1;omega
  have h4:=h2 lo _ lr9 (List.getElem?_eq_getElem hlo)
  obtain ⟨hk',e⟩:=List.getElem?_eq_some_iff.1 hk
  have h5:=List.pairwise_iff_getElem.1 hs lo k hlo hk' h
  simp only [leO,Bool.not_eq_true',e] at h5
  exact h3 (by rw [List.getElem?_eq_getElem hlo,gI.tot _ _ h4 h5])
set_option maxRecDepth 100000 in
set_option maxHeartbeats 32000000 in
theorem zCA (A:Option Addr) (c:Nat) (l:List E2) (a b:Int) (w:World) (hs:Sl yH 2 w w.heap.size A l) (hl:l.length≤100000000) (hf:∀e∈l,yG e) (hfe:yG (nrmE a b)) (hsr:l.Pairwise (fun a b=>leO ltE2 a b=true)) (hn:l.Nodup):
  Calls Tryz.prog 93 #[.slice A l.length c, .int .i64 a, .int .i64 b] w fun e w'=>e= .returned (.int .i64 (posE l a b))∧Below w.heap.size w w':=by
 obtain ⟨N,hN⟩:=ex9 (l.length)
 obtain ⟨R,hR⟩:=ex9 (posE l a b)
 rw [←hN] at hl⊢
 rw [←hR]
 obtain ⟨p,hp⟩:=ex9 (min a b)
 obtain ⟨q,hq⟩:=ex9 (max a b)
 have hpq:nrmE a b=(p,q):=by rw [hp,hq];rfl
 rw [hpq] at hfe
 have HS:=hide (ai9 hs (ai9 hf (ai9 hfe (ai9 hsr (ai9 hn (ai9 hN (ai9 hR hpq)))))))
 have e1:min a b=p:=hp.symm
 have e2:max a b=q:=hq.symm
 clear hs hf hfe hsr hn hN hR hp hq hpq
 go_enter Tryz.func93,Tryz.ntmps93
 go_upto_region 2 with fail
 obtain ⟨eb,heb⟩:=ex9 (w.heap.size)
 obtain ⟨X,hX⟩:=ex9 (w.alloc (.cells #[.int .i64 p, .int .i64 q] 56))
 rw [←hX,←heb]
 have hbe:Blk X eb 56 #[.int .i64 p, .int .i64 q]:=by rw [hX,heb];exact Blk.new _ _ _
 have hBX:Below w.heap.size w X:=by rw [hX];exact (Below.refl _ w).alloc lr9 _
 have HX:=hide (ai9 hbe (ai9 hBX ((HS.o.1.below hBX).more hBX.size)))
 clear hbe hBX hX heb e1 e2
 go_upto_region 4 with fail
 go_loopw [8,9] (fun lv hv wr=>∃lo hi:Nat,(lo≤hi∧hi≤N)∧lv= .int .i64 lo∧hv= .int .i64 hi∧(∀k y,k < lo→l[k]? =some y→ltE2 y (p,q)=true)∧(∀k y,hi≤k→l[k]? =some y→ltE2 y (p,q)=false)∧Below X.heap.size X wr) (fun lv hv _=>(intOf hv).toNat - (intOf lv).toNat)
 case atStart=>exact ⟨0,N,⟨by omega,by omega⟩,rfl,rfl,fun k y h=>absurd h (by omega),fun k y h hy=>absurd (List.getElem?_eq_some_iff.1 hy).1 (by have:=HS.o.2.2.2.2.2.1;omega),Below.refl _ X⟩
 case round=>
  obtain ⟨lo,hi,⟨hlh,hhN⟩,rfl,rfl,hlow,hhigh,hB⟩:=hrel
  obtain ⟨V,rfl⟩:=ex9 (wr)
  have hbe:=HX.o.1.below hB HX.o.1.lt
  have z0:V.cell? ⟨eb,0,none⟩=some (.int .i64 p):=hbe.cell 0
  have z1:V.cell? ⟨eb,1,none⟩=some (.int .i64 q):=hbe.cell 1
  have hel:=hbe.lt
  by_cases hlt:lo < hi
  ·have i1:(lo:Int) < (hi:Int):=by omega
   obtain ⟨m,hm⟩:=ex9 ((lo+hi) / 2)
   have hmd:((lo:Int)+(hi:Int)) / 2=(m:Int):=by omega
   have hmt:((lo:Int)+(hi:Int)).tdiv 2=(m:Int):=by rw [Int.tdiv_eq_ediv_of_nonneg (by omega)];exact hmd
   have hm1:lo≤m∧m < hi:=by omega
   have hmN:(m:Int) < (N:Int):=by omega
   obtain ⟨⟨x1,x2⟩,hx⟩:∃x,l[m]? =some x:=⟨_,List.getElem?_eq_getElem (by rw [←HS.o.2.2.2.2.2.1];omega)⟩
   obtain ⟨ba,oa,hA,hba,y0,y1⟩:=HX.o.2.2.e2 hx
   subst hA
   have y0:=(hB.cell (p:=⟨ba,oa+m*2,none⟩) hba).trans y0
   have y1:=(hB.cell (p:=⟨ba,oa+m*2+1,none⟩) hba).trans y1
   have hbV:ba < V.heap.size:=Nat.lt_of_lt_of_le hba hB.size
   have kb:=fun W=>zBL (x1,x2) (p,q) W
   have HR:=hide (ai9 hlow (ai9 hhigh (ai9 hB hx)))
   clear hlow hhigh hB hx hm hbe hba
   by_cases hc:ltE2 (x1,x2) (p,q)=true
   ·rw [hc] at kb
    have HK:=hide (ai9 kb hc)
    clear kb hc
    go_upto_region 6 with fail
    go_still_tail 5,(by kernel_rfl)
    repeat still_step
    change wpList _ _ _ _ _ V.drew
    go_wp2_with (go_at_call 82;refine (HK.o.1 V.drew).mono ?_;rintro e W3 ⟨rfl,hB3⟩;have H3:=hide (HR.o.2.2.1.drew.trans (hB3.mono HR.o.2.2.1.size));clear hB3)
    go_roundw
    case rel=>exact ⟨m+1,hi,⟨by omega,hhN⟩,by go_num,rfl,fun k y hk hy=>zMC HS.o.2.2.2.1 HR.o.2.2.2 hy (by omega) HK.o.2,HR.o.2.1,H3.o⟩
    case measure=>(simp [intOf];try omega)
   ·have hc':ltE2 (x1,x2) (p,q)=false:=by simpa using hc
    rw [hc'] at kb
    have HK:=hide (ai9 kb hc')
    clear kb hc hc'
    go_upto_region 6 with fail
    go_still_tail 5,(by kernel_rfl)
    repeat still_step
    change wpList _ _ _ _ _ V.drew
    go_wp2_with (go_at_call 82;refine (HK.o.1 V.drew).mono ?_;rintro e W3 ⟨rfl,hB3⟩;have H3:=hide (HR.o.2.2.1.drew.trans (hB3.mono HR.o.2.2.1.size));clear hB3)
    go_roundw
    case rel=>exact ⟨lo,m,⟨by omega,by omega⟩,rfl,rfl,HR.o.1,(fun k y hk hy=>by
     cases hv:ltE2 y (p,q) with
     | false=>rfl
     | true=>
      have:=zMC HS.o.2.2.2.1 hy HR.o.2.2.2 hk hv
      rw [HK.o.2] at this
      cases this),H3.o⟩
    case measure=>(simp [intOf];try omega)
  ·obtain rfl:lo=hi:=by omega
   have i1:¬(lo:Int) < (lo:Int):=by omega
   by_cases hN:lo < N
   ·have i2:(lo:Int) < (N:Int):=by omega
    obtain ⟨⟨x1,x2⟩,hx⟩:∃x,l[lo]? =some x:=⟨_,List.getElem?_eq_getElem (by rw [←HS.o.2.2.2.2.2.1];omega)⟩
    obtain ⟨ba,oa,hA,hba,y0,y1⟩:=HX.o.2.2.e2 hx
    subst hA
    have y0:=(hB.cell (p:=⟨ba,oa+lo*2,none⟩) hba).trans y0
    have y1:=(hB.cell (p:=⟨ba,oa+lo*2+1,none⟩) hba).trans y1
    have hbV:ba < V.heap.size:=Nat.lt_of_lt_of_le hba hB.size
    have ke:=eqE2 (x1,x2) (p,q) (HS.o.2.1 _ (List.mem_of_getElem? hx)) HS.o.2.2.1
    by_cases he:(x1,x2)=(p,q)
    ·have hr:R=lo:=by
      rw [HS.o.2.2.2.2.2.2.1]
      exact zJI HS.o.2.2.2.2.1 (by rw [HS.o.2.2.2.2.2.2.2,←he];exact hx)
     rw [decide_eq_true he] at ke
     have HR:=hide (ai9 hr (HX.o.2.1.trans (hB.mono HX.o.2.1.size)))
     clear he hr hlow hhigh hB hx hbe hba
     go_upto_region 9 with fail
     go_quiet (fail)
     go_wp2
     go_ret
     exact ⟨by rw [HR.o.1];rfl,below_drewN HR.o.2 _⟩
    ·have hr:R= -1:=by
      rw [HS.o.2.2.2.2.2.2.1]
      exact zC4 HS.o.2.2.2.1 (by rw [HS.o.2.2.2.2.2.2.2];exact hlow) (by rw [HS.o.2.2.2.2.2.2.2];exact hhigh) (by rw [HS.o.2.2.2.2.2.2.2,hx];exact fun h=>he (Option.some.inj h))
     rw [decide_eq_false he] at ke
     have HR:=hide (ai9 hr (HX.o.2.1.trans (hB.mono HX.o.2.1.size)))
     clear he hr hlow hhigh hB hx hbe hba
     go_upto_region 9 with fail
     go_quiet (fail)
     go_wp2
     go_ret
     exact ⟨by rw [HR.o.1];rfl,below_drewN HR.o.2 _⟩
   ·have i2:¬(lo:Int) < (N:Int):=by omega
    have hr:R= -1:=by
     rw [HS.o.2.2.2.2.2.2.1]
     exact zC4 HS.o.2.2.2.1 (by rw [HS.o.2.2.2.2.2.2.2];exact hlow) (by rw [HS.o.2.2.2.2.2.2.2];exact hhigh) (by
      rw [List.getElem?_eq_none (by rw [←HS.o.2.2.2.2.2.1];omega)]
      exact fun h=>nomatch h)
    have HR:=hide (ai9 hr (HX.o.2.1.trans (hB.mono HX.o.2.1.size)))
    clear hr hlow hhigh hB hbe
    go_upto_region 9 with fail
    go_quiet (fail)
    go_wp2
    go_ret
    exact ⟨by rw [HR.o.1];rfl,below_drewN HR.o.2 _⟩
end Go.Proofs.YtmemofonebphfaaGreat
namespace Go.Proofs.YtmemofonebphfaaGreat
open Go.RowKit Go.Sort
def nrm1 (e:E2):E2:=nrmE e.1 e.2
def zDY (L:List E2) (e:E2):Bool:=decide (e∈L)
theorem fV {L:List E2} {e:E2}:zDY L e=true ↔ e∈L:=decide_eq_true_iff
theorem zHH (L:List E2) (x e:E2):zDY (L++ [x]) e=(zDY L e || decide (x=e)):=by
 rw [Bool.eq_iff_iff,fV,Bool.or_eq_true,fV,decide_eq_true_eq,List.mem_append,List.mem_singleton]
 exact or_congr_right eq_comm
theorem zF6 (l:List E2):(setE l).length=(x9 (l.map nrm1)).length:=yE _
theorem vS {e:E2} (h:yG e):yG (nrm1 e):=by
 obtain ⟨h1,h2⟩:=h
 unfold fits at h1 h2
 unfold nrm1 nrmE yG fits
 dsimp only
 omega
set_option maxRecDepth 100000 in
set_option maxHeartbeats 32000000 in
theorem set_any (A:Option Addr) (c:Nat) (l:List E2) (w:World) (hs:Sl yH 2 w w.heap.size A l) (hl:l.length≤1000000) (hf:∀e∈l,yG e):
  Calls Tryz.prog 94 #[.slice A l.length c] w fun e w'=>∃A' c',e= .returned (.slice A' (setE l).length c')∧Sl yH 2 w' w'.heap.size A' (setE l)∧Below w.heap.size w w':=by
 obtain ⟨N,hN⟩:=ex9 (l.length)
 rw [←hN] at hl⊢
 have HS:=hide (ai9 hs (ai9 hN hf))
 clear hs hN hf
 go_enter Tryz.func94,Tryz.ntmps94
 go_upto_region 3 with fail
 go_loopw [3,4] (fun ov iv wr=>∃(i m:Nat),i≤N∧iv= .int .i64 i∧Own yH 2 56 wr w.heap.size ov m (x9 ((l.take i).map nrm1))∧m≤i∧Below w.heap.size w wr) (fun _ iv _=>N - (intOf iv).toNat)
 case atStart=>exact ⟨0,0,by omega,rfl,by rw [List.take_zero];exact Own.nil,by omega,Below.refl _ w⟩
 case round=>
  obtain ⟨i,m,hi,rfl,hO,hm,hB⟩:=hrel
  obtain ⟨V,rfl⟩:=ex9 (wr)
  obtain ⟨Ao,co,rfl⟩:=hO.form
  by_cases hlt:i < N
  ·have i1:(i:Int) < (N:Int):=by omega
   obtain ⟨x,hx⟩:∃x,l[i]? =some x:=⟨_,List.getElem?_eq_getElem (by rw [←HS.o.2.1];exact hlt)⟩
   have hfx:=vS (HS.o.2.2 x (List.mem_of_getElem? hx))
   obtain ⟨bb,o,hA,hbb,c0,c1⟩:=HS.o.1.e2 hx
   subst hA
   have hdd:x9 ((l.take (i+1)).map nrm1)=addL (x9 ((l.take i).map nrm1)) (nrm1 x):=by
    rw [List.take_add_one,hx,List.map_append]
    exact bM _ _
   have hfD:∀e∈x9 ((l.take i).map nrm1),yG e:=fun e he=>by
    obtain ⟨y,hy,rfl⟩:=List.mem_map.1 (vZ.1 he)
    exact vS (HS.o.2.2 y (List.mem_of_mem_take hy))
   obtain ⟨x1,x2⟩:=x
   simp only at c0 c1
   obtain ⟨D,hD⟩:=ex9 (x9 ((l.take i).map nrm1))
   rw [←hD] at hO hdd hfD
   obtain ⟨p,hp⟩:=ex9 (min x1 x2)
   obtain ⟨q,hq⟩:=ex9 (max x1 x2)
   have hn:nrm1 (x1,x2)=(p,q):=by rw [hp,hq];rfl
   rw [hn] at hdd hfx
   have e1:min x1 x2=p:=hp.symm
   have e2:max x1 x2=q:=hq.symm
   have c0:=(hB.cell (p:=⟨bb,o+i*2,none⟩) hbb).trans c0
   have c1:=(hB.cell (p:=⟨bb,o+i*2+1,none⟩) hbb).trans c1
   have hbV:bb < V.heap.size:=Nat.lt_of_lt_of_le hbb hB.size
   have hzV:=hB.size
   have HV:=hide (ai9 hO (ai9 hB (ai9 hdd (ai9 hfD hfx))))
   clear hx hdd hfD hfx hO hB hD hp hq hn hbb
   go_upto_region 5 with fail
   go_region
   as_aux_lemma=>
    obtain ⟨eb,heb⟩:=ex9 (V.heap.size)
    obtain ⟨X,hX⟩:=ex9 ((V.alloc (.cells #[.int .i64 p, .int .i64 q] 56)).drew)
    rw [←hX,←heb]
    have hbe:Blk X eb 56 #[.int .i64 p, .int .i64 q]:=by rw [hX,heb];exact Blk.new _ _ _
    have hBV:Below V.heap.size V X:=by rw [hX];exact ((Below.refl _ V).alloc lr9 _).drew
    have hBX:Below w.heap.size w X:=HV.o.2.1.trans (hBV.mono HV.o.2.1.size)
    have HX:=hide (ai9 hbe (ai9 hBX (HV.o.1.below hBV lr9)))
    clear hbe hBX hBV hX heb c0 c1 hbV hzV e1 e2
    go_upto_region 8 with fail
    go_loopw [6,7] (fun tv kv wr=>∃k:Nat,k≤m∧tv= .bool (zDY (D.take k) (p,q))∧kv= .int .i64 k∧Below X.heap.size X wr) (fun _ kv _=>m - (intOf kv).toNat)
    case atStart=>exact ⟨0,by omega,by rw [List.take_zero];rfl,rfl,Below.refl _ X⟩
    case round=>
     obtain ⟨k,hk,rfl,rfl,hBk⟩:=hrel
     obtain ⟨U,rfl⟩:=ex9 (wr)
     have hbU:=HX.o.1.below hBk HX.o.1.lt
     have z0:U.cell? ⟨eb,0,none⟩=some (.int .i64 p):=hbU.cell 0
     have z1:U.cell? ⟨eb,1,none⟩=some (.int .i64 q):=hbU.cell 1
     have hel:=hbU.lt
     have hOU:=HX.o.2.2.below hBk lr9
     by_cases hkm:k < m
     ·have i2:(k:Int) < (m:Int):=by omega
      obtain ⟨⟨y1,y2⟩,hy⟩:∃y,D[k]? =some y:=⟨_,List.getElem?_eq_getElem (by rw [←hOU.1];exact hkm)⟩
      obtain ⟨ba,oa,hA,hba,y0,y3⟩:=(hOU.sl zU lr9).e2 hy
      subst hA
      have htk:zDY (D.take (k+1)) (p,q)=(zDY (D.take k) (p,q) || decide ((y1,y2)=(p,q))):=by
       rw [List.take_add_one,hy]
       exact zHH _ _ _
      cases ht:zDY (D.take k) (p,q) with
      | true=>
       rw [ht,Bool.true_or] at htk
       have HR:=hide (ai9 htk hBk)
       clear htk ht hy hbU hOU hBk
       go_upto_region 10 with fail
       go_quiet (fail)
       go_wp2
       go_roundw
       case rel=>exact ⟨k+1,by omega,by rw [HR.o.1],by go_num,below_drewN HR.o.2 _⟩
       case measure=>(simp [intOf];try omega)
      | false=>
       rw [ht,Bool.false_or] at htk
       have ke:=eqE2 (y1,y2) (p,q) (HV.o.2.2.2.1 _ (List.mem_of_getElem? hy)) HV.o.2.2.2.2
       cases hd:decide ((y1,y2)=(p,q)) with
       | true=>
        rw [hd] at htk ke
        have HR:=hide (ai9 htk hBk)
        clear htk ht hd hy hbU hOU hBk
        go_upto_region 10 with fail
        go_quiet (fail)
        go_wp2
        go_roundw
        case rel=>exact ⟨k+1,by omega,by rw [HR.o.1],by go_num,below_drewN HR.o.2 _⟩
        case measure=>(simp [intOf];try omega)
       | false=>
        rw [hd] at htk ke
        have HR:=hide (ai9 htk hBk)
        clear htk ht hd hy hbU hOU hBk
        go_upto_region 10 with fail
        go_quiet (fail)
        go_wp2
        go_roundw
        case rel=>exact ⟨k+1,by omega,by rw [HR.o.1],by go_num,below_drewN HR.o.2 _⟩
        case measure=>(simp [intOf];try omega)
     ·obtain rfl:k=m:=by omega
      have i2:¬(k:Int) < (k:Int):=by omega
      have htk:D.take k=D:=by rw [hOU.1];exact List.take_length
      rw [htk]
      have hBU:=HX.o.2.1.trans (hBk.mono HX.o.2.1.size)
      have hzU:=hBU.size
      cases ht:zDY D (p,q) with
      | true=>
       have hdd:=HV.o.2.2.1
       rw [show addL D (p,q)=D from if_pos (fV.1 ht)] at hdd
       have HR:=hide (ai9 hdd (ai9 hOU hBU))
       clear htk ht hdd hbU hOU hBk hBU
       go_wp2
       go_roundw
       case rel=>exact ⟨i+1,k,by omega,by go_num,by rw [HR.o.1];exact HR.o.2.1,by omega,HR.o.2.2⟩
       case measure=>(simp [intOf];try omega)
      | false=>
       have hdd:=HV.o.2.2.1
       rw [show addL D (p,q)=D++ [(p,q)] from if_neg (fun h=>by rw [fV.2 h] at ht;cases ht)] at hdd
       have HR:=hide (ai9 hdd (ai9 hOU hBU))
       clear htk ht hdd hbU hOU hBk hBU
       go_wp2_with (at_builtin;refine zC rfl _ _ _ rfl Tryz.underlying29 jB rfl (by omega) zU yO rfl (HR.o.2.1.alloc _) U.heap.size 1 ((p,q):E2) rfl (Blk.new _ _ _) (by unfold maxLen;omega) (by omega) (by simp;omega) ?_;intro g5 cap5 w5 hown5 hg5 hB5 hat5 hgb5 hlt5;have H5:=hide (ai9 hown5 ((HR.o.2.2.alloc hzU _).trans hB5));clear hown5 hg5 hB5 hat5 hgb5 hlt5)
       go_roundw
       case rel=>exact ⟨i+1,k+1,by omega,by go_num,by rw [HR.o.1];exact H5.o.1,by omega,H5.o.2⟩
       case measure=>(simp [intOf];try omega)
  ·obtain rfl:i=N:=by omega
   have i1:¬(i:Int) < (i:Int):=by omega
   have ht:l.take i=l:=by rw [HS.o.2.1];exact List.take_length
   rw [ht] at hO
   have hml:=hO.1
   have k:=zBD m Ao co (x9 (l.map nrm1)) V (by omega) (hO.sl zU lr9) (by omega) (by rw [←hml];exact hO.place.1)
   rw [←hml] at k
   have hel:m=(setE l).length:=by rw [zF6];exact hml
   have HK:=hide (ai9 k (ai9 hB hel))
   clear k hO hB ht hml hel
   go_wp2_with (go_at_call 48;refine HK.o.1.mono ?_;rintro e W3 ⟨A3,c3,rfl,hB3,hs3,_⟩;have H3:=hide (ai9 hs3 (HK.o.2.1.trans (hB3.mono HK.o.2.1.size)));clear hB3 hs3)
   go_ret
   exact ⟨A3,c3,by rw [←HK.o.2.2];rfl,H3.o.1,H3.o.2⟩
end Go.Proofs.YtmemofonebphfaaGreat
namespace Go.Proofs.YtmemofonebphfaaGreat
open Go.RowKit Go.Sort
def xH (x:Int):List Value:= [.int .i64 x]
theorem xP (x:Int):(xH x).length=1:=rfl
theorem uF (x:Int):∀u∈xH x,u.oneCell'=true:=by
 intro u hu
 simp only [xH,List.mem_singleton] at hu
 subst hu
 rfl
theorem Sl.z9 {w:World} {B:Nat} {A:Option Addr} {xs:List Int} (h:Sl xH 1 w B A xs) {i:Nat} {x:Int} (hi:xs[i]? =some x):
  ∃b o,A=some ⟨b,o,none⟩∧b < B∧w.cell? ⟨b,o+i,none⟩=some (.int .i64 x):=by
 obtain ⟨b,o,hA,hb,hc⟩:=h.at hi
 refine ⟨b,o,hA,hb,?_⟩
 have:=hc 0 _ rfl
 rw [Nat.mul_one,Nat.add_zero] at this
 exact this
def othE (a b:Int) (l:List Int):Int:=l.foldl (fun o x=>if x≠b then x else o) a
def beyR (cr:List E2) (co:List Int) (a b:Int):Int:=if a∈co then a else if (xA cr a).length≠2 then a else othE a b (xA cr a)
def jA (e:E2) (a:Int) (j:Nat):List Int:=if j=0 then [] else if j=1 then (if e.1=a then [e.2] else []) else (if e.1=a then [e.2] else [])++if e.2=a then [e.1] else []
theorem fD (a b x:Int) (l:List Int):othE a b (l++ [x])=if x≠b then x else othE a b l:=by
 unfold othE
 rw [List.foldl_append]
 rfl
theorem zGC {cr:List E2} {i:Nat} {e:E2} (a:Int) (h:cr[i]? =some e):xA (cr.take (i+1)) a=xA (cr.take i) a++jA e a 2:=by
 unfold xA
 rw [List.take_add_one,h,Option.toList_some,List.flatMap_append,List.flatMap_singleton]
 rfl
theorem zIQ (e:E2) (a:Int):jA e a 1=jA e a 0++if e.1=a then [e.2] else []:=rfl
theorem zHU (e:E2) (a:Int):jA e a 2=jA e a 1++if e.2=a then [e.1] else []:=rfl
abbrev hLev (Ap:Option Addr) (np cp:Nat) (At:Option Addr) (nt ct:Nat) (Ac:Option Addr) (nc cc:Nat):Value:= .agg #[.slice Ap np cp, .slice At nt ct, .slice Ac nc cc]
set_option maxRecDepth 100000 in
set_option maxHeartbeats 32000000 in
theorem zA3 (Ap:Option Addr) (np cp:Nat) (At:Option Addr) (nt ct:Nat) (Ac:Option Addr) (cc:Nat) (cr:List E2) (Ao:Option Addr) (oc:Nat) (co:List Int) (a b:Int) (w:World) (hs:Sl yH 2 w w.heap.size Ac cr) (ho:Sl xH 1 w w.heap.size Ao co) (hl:cr.length≤100000000) (hlo:co.length≤100000000):
  Calls Tryz.prog 119 #[hLev Ap np cp At nt ct Ac cr.length cc, .slice Ao co.length oc, .int .i64 a, .int .i64 b] w fun e w'=>e= .returned (.int .i64 (beyR cr co a b))∧Below w.heap.size w w':=by
 obtain ⟨N,hN⟩:=ex9 (cr.length)
 obtain ⟨M,hM⟩:=ex9 (co.length)
 obtain ⟨R,hR⟩:=ex9 (beyR cr co a b)
 rw [←hN] at hl⊢
 rw [←hM] at hlo⊢
 rw [←hR]
 have HS:=hide (ai9 hs (ai9 ho (ai9 hN (ai9 hM hR))))
 clear hs ho hN hM hR
 go_enter Tryz.func119,Tryz.ntmps119
 go_upto_region 1 with fail
 obtain ⟨g,hg⟩:=ex9 (w.heap.size)
 obtain ⟨X,hX⟩:=ex9 (w.alloc (.cells #[.slice Ap np cp, .slice At nt ct, .slice Ac N cc] 108))
 rw [←hX,←hg]
 have hbe:Blk X g 108 #[.slice Ap np cp, .slice At nt ct, .slice Ac N cc]:=by rw [hX,hg];exact Blk.new _ _ _
 have hBX:Below w.heap.size w X:=by rw [hX];exact (Below.refl _ w).alloc lr9 _
 have z2:X.cell? ⟨g,2,none⟩=some (.slice Ac N cc):=hbe.cell 2
 have hgl:=hbe.lt
 have HX:=hide (ai9 hBX (ai9 ((HS.o.1.below hBX).more hBX.size) ((HS.o.2.1.below hBX).more hBX.size)))
 clear hbe hBX hX hg
 go_upto_region 2 with fail
 go_loopw [9] (fun iv wr=>∃i:Nat,i≤M∧iv= .int .i64 i∧wr=X∧∀k,k < i→co[k]? ≠some a) (fun iv _=>M - (intOf iv).toNat)
 case atStart=>exact ⟨0,by omega,rfl,rfl,fun k hk=>absurd hk (by omega)⟩
 case round=>
  obtain ⟨i,hi,rfl,hw,hno⟩:=hrel
  subst hw
  by_cases hlt:i < M
  ·have i1:(i:Int) < (M:Int):=by omega
   obtain ⟨x,hx⟩:∃x,co[i]? =some x:=⟨_,List.getElem?_eq_getElem (by rw [←HS.o.2.2.2.1];exact hlt)⟩
   obtain ⟨bb,o,hA,hbb,c0⟩:=HX.o.2.2.z9 hx
   subst hA
   by_cases hxa:x=a
   ·have hr:R=a:=by
     rw [HS.o.2.2.2.2]
     unfold beyR
     rw [if_pos (by rw [←hxa];exact List.mem_of_getElem? hx)]
    have HR:=hide (ai9 hr HX.o.1)
    subst hxa
    clear hr hx hno
    go_wp2
    go_ret
    exact ⟨by rw [HR.o.1];rfl,HR.o.2⟩
   ·have HR:=hide (show∀k,k < i+1→co[k]? ≠some a from fun k hk=>by
     rcases Nat.lt_or_ge k i with h | h
     ·exact hno k h
     ·obtain rfl:k=i:=by omega
      rw [hx]
      exact fun h=>hxa (Option.some.inj h))
    clear hx hno
    go_wp2
    go_roundw
    case rel=>exact ⟨i+1,by omega,by go_num,by trivial,HR.o⟩
    case measure=>(simp [intOf];try omega)
  ·obtain rfl:i=M:=by omega
   have i1:¬(i:Int) < (i:Int):=by omega
   have hna:a ∉ co:=fun h=>by
    obtain ⟨k,hk⟩:=List.mem_iff_getElem?.1 h
    exact hno k (by rw [HS.o.2.2.2.1];exact (List.getElem?_eq_some_iff.1 hk).1) hk
   have HA:=hide hna
   clear hno hna
   go_upto_region 9 with fail
   go_loopw [10,11,12] (fun nv ov iv wz=>∃(k n:Nat),k≤N∧nv= .int .i64 n∧n≤2*k∧n=(xA (cr.take k) a).length∧ov= .int .i64 (othE a b (xA (cr.take k) a))∧iv= .int .i64 k∧wz=wr) (fun _ _ iv _=>N - (intOf iv).toNat)
   case atStart=>exact ⟨0,0,by omega,rfl,by omega,by rw [List.take_zero];rfl,by rw [List.take_zero];rfl,rfl,rfl⟩
   case round=>
    obtain ⟨k,n,hk,rfl,hn2,hn,rfl,rfl,hw⟩:=hrel
    subst hw
    by_cases hkN:k < N
    ·have i2:(k:Int) < (N:Int):=by omega
     obtain ⟨x,hx⟩:∃x,cr[k]? =some x:=⟨_,List.getElem?_eq_getElem (by rw [←HS.o.2.2.1];exact hkN)⟩
     obtain ⟨bb,o,hA,hbb,c0,c1⟩:=HX.o.2.1.e2 hx
     subst hA
     have htk:=zGC a hx
     obtain ⟨x1,x2⟩:=x
     simp only at c0 c1
     obtain ⟨E,hE⟩:=ex9 (xA (cr.take k) a)
     rw [←hE] at htk hn⊢
     have HC:=hide (ai9 htk hn)
     clear hx htk hE hn
     go_upto_region 12 with fail
     go_loopw [10,11,13] (fun nv ov jv wz=>∃(j n:Nat),j≤2∧nv= .int .i64 n∧n≤2*k+j∧n=(E++jA (x1,x2) a j).length∧ov= .int .i64 (othE a b (E++jA (x1,x2) a j))∧jv= .int .i64 j∧wz=wr) (fun _ _ jv _=>2 - (intOf jv).toNat)
     case atStart=>exact ⟨0,n,by omega,rfl,by omega,by rw [show jA (x1,x2) a 0= [] from rfl,List.append_nil];exact HC.o.2,by rw [show jA (x1,x2) a 0= [] from rfl,List.append_nil],rfl,rfl⟩
     case round=>
      obtain ⟨j,n',hj,rfl,hn2',hn',rfl,rfl,hw⟩:=hrel
      subst hw
      have a1:IntKind.i64.wrap 1=1:=by decide
      have a0:IntKind.i64.wrap 0=0:=by decide
      have hc:j=0∨j=1∨j=2:=by omega
      rcases hc with rfl | rfl | rfl
      ·have hs1:E++jA (x1,x2) a 1=(E++jA (x1,x2) a 0)++if x1=a then [x2] else []:=by rw [zIQ,←List.append_assoc]
       obtain ⟨F,hF⟩:=ex9 (E++jA (x1,x2) a 0)
       rw [←hF] at hs1 hn'⊢
       by_cases h1:x1=a
       ·rw [if_pos h1] at hs1
        by_cases h2:x2=b
        ·have ho:othE a b (E++jA (x1,x2) a 1)=othE a b F:=by rw [hs1,fD,if_neg (by simpa using h2)]
         have hnn:n'+1=(E++jA (x1,x2) a 1).length:=by rw [hs1,List.length_append,←hn'];rfl
         have HR:=hide (ai9 ho hnn)
         clear ho hnn hs1 hF hn'
         subst h1 h2
         go_wp2
         go_roundw
         case rel=>exact ⟨1,n'+1,by omega,by go_num,by omega,HR.o.2,by rw [HR.o.1],by go_num,by trivial⟩
         case measure=>(simp [intOf];try omega)
        ·have ho:othE a b (E++jA (x1,x2) a 1)=x2:=by rw [hs1,fD,if_pos h2]
         have hnn:n'+1=(E++jA (x1,x2) a 1).length:=by rw [hs1,List.length_append,←hn'];rfl
         have HR:=hide (ai9 ho hnn)
         clear ho hnn hs1 hF hn'
         subst h1
         go_wp2
         go_roundw
         case rel=>exact ⟨1,n'+1,by omega,by go_num,by omega,HR.o.2,by rw [HR.o.1],by go_num,by trivial⟩
         case measure=>(simp [intOf];try omega)
       ·rw [if_neg h1,List.append_nil] at hs1
        have HR:=hide (ai9 hs1 hn')
        clear hs1 hF hn'
        go_wp2
        go_roundw
        case rel=>exact ⟨1,n',by omega,by trivial,by omega,by rw [HR.o.1];exact HR.o.2,by rw [HR.o.1],by go_num,by trivial⟩
        case measure=>(simp [intOf];try omega)
      ·have hs1:E++jA (x1,x2) a 2=(E++jA (x1,x2) a 1)++if x2=a then [x1] else []:=by rw [zHU,←List.append_assoc]
       obtain ⟨F,hF⟩:=ex9 (E++jA (x1,x2) a 1)
       rw [←hF] at hs1 hn'⊢
       by_cases h1:x2=a
       ·rw [if_pos h1] at hs1
        by_cases h2:x1=b
        ·have ho:othE a b (E++jA (x1,x2) a 2)=othE a b F:=by rw [hs1,fD,if_neg (by simpa using h2)]
         have hnn:n'+1=(E++jA (x1,x2) a 2).length:=by rw [hs1,List.length_append,←hn'];rfl
         have HR:=hide (ai9 ho hnn)
         clear ho hnn hs1 hF hn'
         subst h1 h2
         go_wp2
         go_roundw
         case rel=>exact ⟨2,n'+1,by omega,by go_num,by omega,HR.o.2,by rw [HR.o.1],by go_num,by trivial⟩
         case measure=>(simp [intOf];try omega)
        ·have ho:othE a b (E++jA (x1,x2) a 2)=x1:=by rw [hs1,fD,if_pos h2]
         have hnn:n'+1=(E++jA (x1,x2) a 2).length:=by rw [hs1,List.length_append,←hn'];rfl
         have HR:=hide (ai9 ho hnn)
         clear ho hnn hs1 hF hn'
         subst h1
         go_wp2
         go_roundw
         case rel=>exact ⟨2,n'+1,by omega,by go_num,by omega,HR.o.2,by rw [HR.o.1],by go_num,by trivial⟩
         case measure=>(simp [intOf];try omega)
       ·rw [if_neg h1,List.append_nil] at hs1
        have HR:=hide (ai9 hs1 hn')
        clear hs1 hF hn'
        go_wp2
        go_roundw
        case rel=>exact ⟨2,n',by omega,by trivial,by omega,by rw [HR.o.1];exact HR.o.2,by rw [HR.o.1],by go_num,by trivial⟩
        case measure=>(simp [intOf];try omega)
      ·have HR:=hide hn'
       clear hn'
       go_wp2
       go_roundw
       case rel=>exact ⟨k+1,n',by omega,by trivial,by omega,by rw [HC.o.1];exact HR.o,by rw [HC.o.1],by go_num,by trivial⟩
       case measure=>(simp [intOf];try omega)
    ·obtain rfl:k=N:=by omega
     have i2:¬(k:Int) < (k:Int):=by omega
     have ht:cr.take k=cr:=by rw [HS.o.2.2.1];exact List.take_length
     rw [ht] at hn⊢
     obtain ⟨O,hO⟩:=ex9 (othE a b (xA cr a))
     rw [←hO]
     by_cases h2:n=2
     ·have hr:R=O:=by
       rw [HS.o.2.2.2.2,hO]
       unfold beyR
       rw [if_neg HA.o,if_neg (by rw [←hn];simpa using h2)]
      have HR:=hide (ai9 hr HX.o.1)
      clear hr ht hO hn
      subst h2
      go_wp2
      go_ret
      exact ⟨by rw [HR.o.1];rfl,HR.o.2⟩
     ·have hr:R=a:=by
       rw [HS.o.2.2.2.2]
       unfold beyR
       rw [if_neg HA.o,if_pos (by rw [←hn];exact h2)]
      have HR:=hide (ai9 hr HX.o.1)
      have i3:¬(n:Int)=2:=by omega
      clear hr ht hO hn
      go_wp2
      go_ret
      exact ⟨by rw [HR.o.1];rfl,HR.o.2⟩
end Go.Proofs.YtmemofonebphfaaGreat
namespace Go.Proofs.YtmemofonebphfaaGreat
open Go.RowKit Go.Sort
section
variable {L:Lev} (h:LvR L)
include h
theorem LvR.rng {a b:Int} (hd:(a,b)∈dirE L.t):(0≤a∧a < L.p.length)∧0≤b∧b < L.p.length:=by
 obtain ⟨x,hx,hx2⟩:=zX.1 hd
 have:=h.cls.idx x hx
 obtain ⟨x1,x2,x3⟩:=x
 simp only [yM,Prod.mk.injEq] at hx2
 dsimp only at this
 omega
theorem LvR.crd {a b:Int} (hc:(a,b)∈L.cr):(a,b)∈dirE L.t∧(b,a)∈dirE L.t∧a < b:=by
 obtain ⟨h1,h2⟩:=zZ.1 (h.crE _ hc)
 exact ⟨h1,h.cls.clos _ h1,h2⟩
theorem LvR.thr {a b:Int} (hd:(a,b)∈dirE L.t):(b,zV L.t a b)∈dirE L.t∧(zV L.t a b,a)∈dirE L.t∧(zV L.t a b,b)∈dirE L.t∧(a,zV L.t a b)∈dirE L.t:=by
 obtain ⟨h1,h2⟩:=zID h.cls.nodup hd
 exact ⟨h1,h2,h.cls.clos _ h1,h.cls.clos _ h2⟩
theorem LvR.crf:∀e∈L.cr,e.1 < e.2:=fun e he=>(h.crd (a:=e.1) (b:=e.2) he).2.2
end
theorem zB1 {cr:List E2} {a x:Int}:x∈xA cr a ↔ (a,x)∈cr∨(x,a)∈cr:=by
 unfold xA
 rw [List.mem_flatMap]
 constructor
 ·rintro ⟨⟨e1,e2⟩,he,hx⟩
  rw [List.mem_append] at hx
  rcases hx with hx | hx
  ·split at hx
   ·rename_i h1
    simp only at h1
    subst h1
    rw [List.mem_singleton] at hx
    simp only at hx
    subst hx
    exact .inl he
   ·cases hx
  ·split at hx
   ·rename_i h1
    simp only at h1
    subst h1
    rw [List.mem_singleton] at hx
    simp only at hx
    subst hx
    exact .inr he
   ·cases hx
 ·rintro (h | h)
  ·exact ⟨_,h,by simp⟩
  ·exact ⟨_,h,by simp⟩
theorem zG0 {cr:List E2} (hn:cr.Nodup) (hl:∀e∈cr,e.1 < e.2) (a:Int):(xA cr a).Nodup:=by
 unfold xA
 refine bD (fun e he=> ?_) (fun i j d e x hi hj hx hy=> ?_)
 ·have:=hl e he
  by_cases h1:e.1=a <;>by_cases h2:e.2=a <;>simp [h1,h2]
  omega
 ·have hd:=hl d (List.mem_of_getElem? hi)
  have he:=hl e (List.mem_of_getElem? hj)
  have key:∀f:E2,x∈((if f.1=a then [f.2] else [])++if f.2=a then [f.1] else [])→(f.1=a∧x=f.2)∨(f.2=a∧x=f.1):=fun f hf=>by
   rw [List.mem_append] at hf
   rcases hf with hf | hf
   ·split at hf
    ·rename_i h1;exact .inl ⟨h1,List.mem_singleton.1 hf⟩
    ·cases hf
   ·split at hf
    ·rename_i h1;exact .inr ⟨h1,List.mem_singleton.1 hf⟩
    ·cases hf
  have k1:=key d hx
  have k2:=key e hy
  have hde:d=e:=Prod.ext (by omega) (by omega)
  subst hde
  obtain ⟨l1,g1⟩:=List.getElem?_eq_some_iff.1 hi
  obtain ⟨l2,g2⟩:=List.getElem?_eq_some_iff.1 hj
  exact (List.getElem_inj hn).1 (g1.trans g2.symm)
theorem zF5 {cr:List E2} (hn:cr.Nodup) (hl:∀e∈cr,e.1 < e.2) (co:List Int) {a b:Int} (hb:b∈xA cr a):beyR cr co a b=beyE cr co a b:=by
 unfold beyR beyE
 by_cases h1:a∈co
 ·rw [if_pos h1,if_pos (.inl h1)]
 ·rw [if_neg h1]
  by_cases h2:(xA cr a).length=2
  ·rw [if_neg (by simpa using h2),if_neg (by simp [h1,h2])]
   have hnd:=zG0 hn hl a
   match hE:xA cr a,h2,hnd with
   | [u,v],_,hnd=>
    rw [hE] at hb
    have huv:u≠v:=by
     rw [List.nodup_cons] at hnd
     exact fun h=>hnd.1 (by rw [h];simp)
    have ho:othE a b [u,v]=if v≠b then v else if u≠b then u else a:=rfl
    rw [ho]
    rw [List.mem_cons,List.mem_singleton] at hb
    rcases hb with rfl | rfl
    ·rw [if_pos (Ne.symm huv)];simp
    ·rw [if_neg (by simp),if_pos huv];simp [huv]
  ·rw [if_pos h2,if_pos (.inr h2)]
theorem zOK (cr:List E2) (co:List Int) (a b:Int):beyE cr co a b=a∨beyE cr co a b∈xA cr a:=by
 unfold beyE
 split
 ·exact .inl rfl
 ·rename_i h
  have h2:(xA cr a).length=2:=Classical.byContradiction fun h'=>h (.inr h')
  refine .inr ?_
  split
  ·rw [List.getD_eq_getElem?_getD,List.getElem?_eq_getElem (by omega)];exact List.getElem_mem _
  ·rw [List.getD_eq_getElem?_getD,List.getElem?_eq_getElem (by omega)];exact List.getElem_mem _
theorem LvR.bey {L:Lev} (h:LvR L) (co:List Int) {a b:Int} (ha:0≤a∧a < L.p.length):0≤beyE L.cr co a b∧beyE L.cr co a b < L.p.length:=by
 rcases zOK L.cr co a b with e | e
 ·rw [e];exact ha
 ·rcases zB1.1 e with hm | hm
  ·exact (h.rng (h.crd hm).1).2
  ·exact (h.rng (h.crd hm).1).1
end Go.Proofs.YtmemofonebphfaaGreat
namespace Go.Proofs.YtmemofonebphfaaGreat
open Go.RowKit Go.Sort
theorem Sl.ptW {w:World} {B b o:Nat} {ps:List Pt} (h:Sl encP 3 w B (some ⟨b,o,none⟩) ps) (hBw:B≤w.heap.size) {i:Nat} {p:Pt} (hi:ps[i]? =some p):
  b < B∧∀W,Below B w W→W.cell? ⟨b,o+i*3,none⟩=some (.int .i64 p.1)∧W.cell? ⟨b,o+i*3+1,none⟩=some (.int .i64 p.2.1)∧W.cell? ⟨b,o+i*3+2,none⟩=some (.int .i64 p.2.2)∧b < W.heap.size:=by
 obtain ⟨b',o',hA,hb,hc⟩:=h.at hi
 injection hA with hA
 injection hA with h1 h2
 subst h1 h2
 have g0:=hc 0 _ rfl
 rw [Nat.add_zero] at g0
 exact ⟨hb,fun W hW=>⟨(hW.cell (p:=⟨b,_,none⟩) hb).trans g0,(hW.cell (p:=⟨b,_,none⟩) hb).trans (hc 1 _ rfl),(hW.cell (p:=⟨b,_,none⟩) hb).trans (hc 2 _ rfl),Nat.lt_of_lt_of_le hb (Nat.le_trans hBw hW.size)⟩⟩
structure RulS (w Y:World) (n g4 g8 g9:Nat) (lev:Array Value) (s:Pt):Prop where
 below:Below n w Y
 b4:Blk Y g4 108 lev
 b8:Blk Y g8 43 #[.int .i64 0, .int .i64 0, .int .i64 0]
 b9:Blk Y g9 43 #[.int .i64 s.1, .int .i64 s.2.1, .int .i64 s.2.2]
 le:n≤g8∧n≤g9
 ne:g4≠g9∧g8≠g9
theorem RulS.call {w Y W:World} {n g4 g8 g9 B:Nat} {lev:Array Value} {s:Pt} (h:RulS w Y n g4 g8 g9 lev s) (hB:Below B Y.drew W) (hb:Y.heap.size≤B):RulS w W n g4 g8 g9 lev s:=by
 have hB':Below B Y W:=⟨hB.os,hB.tape,hB.output,hB.size,hB.block⟩
 have h1:=h.le.1
 have h2:=h.b8.lt
 exact ⟨h.below.trans (hB'.mono (by omega)),h.b4.below hB' (Nat.lt_of_lt_of_le h.b4.lt hb),h.b8.below hB' (Nat.lt_of_lt_of_le h.b8.lt hb),h.b9.below hB' (Nat.lt_of_lt_of_le h.b9.lt hb),h.le,h.ne⟩
theorem RulS.next {w Y W:World} {n g4 g8 g9 B:Nat} {lev:Array Value} {s:Pt} (h:RulS w Y n g4 g8 g9 lev s) (hB:Below B Y W) (hb:Y.heap.size≤B):RulS w W n g4 g8 g9 lev s:=h.call ⟨hB.os,hB.tape,hB.output,hB.size,hB.block⟩ hb
theorem RulS.store {w Y:World} {n g4 g8 g9:Nat} {lev:Array Value} {s:Pt} (h:RulS w Y n g4 g8 g9 lev s) (u:Pt):
  RulS w (((Y.setCell ⟨g9,0,none⟩ (.int .i64 u.1)).setCell ⟨g9,1,none⟩ (.int .i64 u.2.1)).setCell ⟨g9,2,none⟩ (.int .i64 u.2.2)) n g4 g8 g9 lev u:=
 ⟨((h.below.setCell (p:=⟨g9,0,none⟩) h.le.2 _).setCell (p:=⟨g9,1,none⟩) h.le.2 _).setCell (p:=⟨g9,2,none⟩) h.le.2 _,h.b4.far3 h.ne.1 _ _ _,h.b8.far3 h.ne.2 _ _ _,h.b9.set3 _ _ _,h.le,h.ne⟩
theorem RulS.far4 {w Y:World} {n g4 g8 g9 g:Nat} {lev:Array Value} {s:Pt} (h:RulS w Y n g4 g8 g9 lev s) (hg:g≠g9∧g≠g4∧g≠g8) (hn:n≤g) (a b c d:Value):
  RulS w ((((Y.setCell ⟨g,0,none⟩ a).setCell ⟨g,1,none⟩ b).setCell ⟨g,2,none⟩ c).setCell ⟨g,3,none⟩ d) n g4 g8 g9 lev s:=
 ⟨(((h.below.setCell (p:=⟨g,0,none⟩) hn _).setCell (p:=⟨g,1,none⟩) hn _).setCell (p:=⟨g,2,none⟩) hn _).setCell (p:=⟨g,3,none⟩) hn _,(h.b4.far3 hg.2.1.symm _ _ _).far (p:=⟨g,3,none⟩) hg.2.1.symm _,(h.b8.far3 hg.2.2.symm _ _ _).far (p:=⟨g,3,none⟩) hg.2.2.symm _,(h.b9.far3 hg.1.symm _ _ _).far (p:=⟨g,3,none⟩) hg.1.symm _,h.le,h.ne⟩
def sumW (s:Pt) (xs:List Pt) (j:Nat):Pt:=(xs.take j).foldl (fun s x=>addP s (yB x (-1))) s
theorem zGR (a b c d:Pt):addP (addP (yB (addP a b) 9) (yB c (-1))) (yB d (-1))=(wrap64 (9*a.1+(9*b.1+(-1*c.1+(-1*d.1+0)))),wrap64 (9*a.2.1+(9*b.2.1+(-1*c.2.1+(-1*d.2.1+0)))),wrap64 (9*a.2.2+(9*b.2.2+(-1*c.2.2+(-1*d.2.2+0))))):=by
 simp only [addP,yB,uJ,vJ,bU,Prod.mk.injEq]
 refine ⟨?_,?_,?_⟩ <;>congr 1 <;>omega
theorem zJZ (a b c d e f g h:Pt):addP (addP (addP (addP (addP (yB (addP a b) 8) (yB (addP c d) 2)) (yB e (-1))) (yB f (-1))) (yB g (-1))) (yB h (-1))=
  (wrap64 (8*a.1+(8*b.1+(2*c.1+(2*d.1+(-1*e.1+(-1*f.1+(-1*g.1+(-1*h.1+0)))))))),wrap64 (8*a.2.1+(8*b.2.1+(2*c.2.1+(2*d.2.1+(-1*e.2.1+(-1*f.2.1+(-1*g.2.1+(-1*h.2.1+0)))))))),wrap64 (8*a.2.2+(8*b.2.2+(2*c.2.2+(2*d.2.2+(-1*e.2.2+(-1*f.2.2+(-1*g.2.2+(-1*h.2.2+0))))))))):=by
 simp only [addP,yB,uJ,vJ,bU,Prod.mk.injEq]
 refine ⟨?_,?_,?_⟩ <;>congr 1 <;>omega
theorem getD_at {P:List Pt} {i:Nat} {x:Pt} (h:P[i]? =some x):P.getD ((i:Int).toNat) (0,0,0)=x:=by
 rw [Int.toNat_natCast,List.getD_eq_getElem?_getD,h];rfl
theorem yS (x:Int):wrap64 ((wrap64 x).tdiv 16)=(wrap64 x).tdiv 16:=by
 have h: -9223372036854775808≤wrap64 x∧wrap64 x≤9223372036854775807:=by unfold wrap64;omega
 have e:(wrap64 x).tdiv 16=if 0≤wrap64 x then wrap64 x / 16 else -(-wrap64 x / 16):=by
  split
  ·rw [Int.tdiv_eq_ediv_of_nonneg (by assumption)]
  ·have:wrap64 x= -(-wrap64 x):=by omega
   conv=>lhs;rw [this]
   rw [Int.neg_tdiv,Int.tdiv_eq_ediv_of_nonneg (by omega)]
 generalize (wrap64 x).tdiv 16=q at e
 unfold wrap64
 split at e <;>omega
set_option maxRecDepth 100000 in set_option maxHeartbeats 64000000 in
theorem zI3 (Ap At Ac Ao:Option Addr) (cp ct cc oc:Nat) (L:Lev) (co:List Int) (ia ib:Nat) (w:World) (hL:LvR L) (he:((ia:Int),(ib:Int))∈zH L.t) (hp:Sl encP 3 w w.heap.size Ap L.p) (ht:Sl yF 3 w w.heap.size At L.t) (hc:Sl yH 2 w w.heap.size Ac L.cr) (ho:Sl xH 1 w w.heap.size Ao co)
  (hlp:L.p.length≤1000000) (hlt:L.t.length≤1000000) (hlc:L.cr.length≤1000000) (hlo:co.length≤1000000):
  Calls Tryz.prog 95 #[hLev Ap L.p.length cp At L.t.length ct Ac L.cr.length cc, .slice Ao co.length oc, .int .i64 ia, .int .i64 ib] w fun e w'=>e= .returned (vP (jC L.p L.t L.cr co ia ib))∧Below w.heap.size w w':=by
 obtain ⟨hd,hab⟩:=zZ.1 he
 simp only at hab
 have hds:((ib:Int),(ia:Int))∈dirE L.t:=hL.cls.clos _ hd
 have hra:=(hL.rng hd).1
 have hrb:=(hL.rng hd).2
 have hfz:∀i:Int,0≤i→i < L.p.length→fits i:=fun i h1 h2=>by unfold fits;omega
 have hnm:nrmE (ia:Int) (ib:Int)=((ia:Int),(ib:Int)):=qB hab
 have kf:=fun (W:World) (hW:Below w.heap.size w W)=>zCA Ac cc L.cr ia ib W ((hc.below hW).more hW.size) (by omega) (fun e he=>by
  have:=hL.rng (a:=e.1) (b:=e.2) (hL.crd (a:=e.1) (b:=e.2) he).1
  exact ⟨hfz _ this.1.1 this.1.2,hfz _ this.2.1 this.2.2⟩) (by rw [hnm];exact ⟨hfz _ hra.1 hra.2,hfz _ hrb.1 hrb.2⟩) hL.crS hL.crN
 obtain ⟨xa,hxa⟩:∃x,L.p[ia]? =some x:=⟨_,List.getElem?_eq_getElem (by omega)⟩
 obtain ⟨xb,hxb⟩:∃x,L.p[ib]? =some x:=⟨_,List.getElem?_eq_getElem (by omega)⟩
 obtain ⟨bp,op,hA,hbp,_⟩:=hp.at hxa
 subst hA
 have qa:=(hp.ptW lr9 hxa).2
 have qb:=(hp.ptW lr9 hxb).2
 obtain ⟨R,hR⟩:=ex9 (jC L.p L.t L.cr co ia ib)
 rw [←hR]
 obtain ⟨np,hnp⟩:=ex9 (L.p.length)
 obtain ⟨nt,hnt⟩:=ex9 (L.t.length)
 obtain ⟨nc,hnc⟩:=ex9 (L.cr.length)
 obtain ⟨no,hno⟩:=ex9 (co.length)
 by_cases hcr:((ia:Int),(ib:Int))∈L.cr
 ·have hb1:(ib:Int)∈xA L.cr ia:=zB1.2 (.inl hcr)
  have hb2:(ia:Int)∈xA L.cr ib:=zB1.2 (.inr hcr)
  have e1:=zF5 hL.crN hL.crf co hb1
  have e2:=zF5 hL.crN hL.crf co hb2
  have r1:=hL.bey co (b:=(ib:Int)) hra
  have r2:=hL.bey co (b:=(ia:Int)) hrb
  obtain ⟨ic,hic⟩:∃n:Nat,beyE L.cr co ia ib=n:=⟨(beyE L.cr co ia ib).toNat,by omega⟩
  obtain ⟨jd,hid⟩:∃n:Nat,beyE L.cr co ib ia=n:=⟨(beyE L.cr co ib ia).toNat,by omega⟩
  obtain ⟨xc,hxc⟩:∃x,L.p[ic]? =some x:=⟨_,List.getElem?_eq_getElem (by omega)⟩
  obtain ⟨xd,hxd⟩:∃x,L.p[jd]? =some x:=⟨_,List.getElem?_eq_getElem (by omega)⟩
  have qc:=(hp.ptW lr9 hxc).2
  have qd:=(hp.ptW lr9 hxd).2
  obtain ⟨kf1,hkf⟩:∃n:Nat,posE L.cr ia ib=n:=by
   obtain ⟨i,h1,_⟩:=wI (l:=L.cr) (a:=ia) (b:=ib) (by rw [hnm];exact hcr)
   exact ⟨i,h1⟩
  have kb1:=fun (W:World) (hW:Below w.heap.size w W)=>zA3 (some ⟨bp,op,none⟩) np cp At nt ct Ac cc L.cr Ao oc co ia ib W ((hc.below hW).more hW.size) ((ho.below hW).more hW.size) (by omega) (by omega)
  have kb2:=fun (W:World) (hW:Below w.heap.size w W)=>zA3 (some ⟨bp,op,none⟩) np cp At nt ct Ac cc L.cr Ao oc co ib ia W ((hc.below hW).more hW.size) ((ho.below hW).more hW.size) (by omega) (by omega)
  simp only [e1,hic,←hnc,←hno] at kb1
  simp only [e2,hid,←hnc,←hno] at kb2
  simp only [hkf,←hnc] at kf
  have hres:R=((addP (addP (yB (addP xa xb) 9) (yB xc (-1))) (yB xd (-1))).1.tdiv 16,(addP (addP (yB (addP xa xb) 9) (yB xc (-1))) (yB xd (-1))).2.1.tdiv 16,(addP (addP (yB (addP xa xb) 9) (yB xc (-1))) (yB xd (-1))).2.2.tdiv 16):=by
   rw [hR,zGR]
   unfold jC wsE
   rw [hnm,if_pos hcr,hic,hid]
   simp only [wsum,getD_at hxa,getD_at hxb,getD_at hxc,getD_at hxd]
  have hwr:wrap64 R.1=R.1∧wrap64 R.2.1=R.2.1∧wrap64 R.2.2=R.2.2:=by
   rw [hR]
   exact ⟨yS _,yS _,yS _⟩
  obtain ⟨m1,hm1⟩:=ex9 (addP xa xb)
  obtain ⟨s1,hs1⟩:=ex9 (yB m1 9)
  obtain ⟨m2,hm2⟩:=ex9 (yB xc (-1))
  obtain ⟨s2,hs2⟩:=ex9 (addP s1 m2)
  obtain ⟨m3,hm3⟩:=ex9 (yB xd (-1))
  obtain ⟨s3,hs3⟩:=ex9 (addP s2 m3)
  rw [←hm1,←hs1,←hm2,←hs2,←hm3,←hs3] at hres
  have c1:=qH xa xb
  have c2:=times_any m1 9
  have c3:=times_any xc (-1)
  have c4:=qH s1 m2
  have c5:=times_any xd (-1)
  have c6:=qH s2 m3
  rw [←hm1] at c1
  rw [←hs1] at c2
  rw [←hm2] at c3
  rw [←hs2] at c4
  rw [←hm3] at c5
  rw [←hs3] at c6
  rw [←hnp] at hra hrb r1 r2
  rw [hic] at r1
  rw [hid] at r2
  rw [←hnp,←hnt,←hnc,←hno]
  have i1:(ia:Int) < (np:Int):=hra.2
  have i2:(ib:Int) < (np:Int):=hrb.2
  have i3:(ic:Int) < (np:Int):=r1.2
  have i4:(jd:Int) < (np:Int):=r2.2
  obtain ⟨R1,R2,R3⟩:=R
  obtain ⟨xa1,xa2,xa3⟩:=xa
  obtain ⟨xb1,xb2,xb3⟩:=xb
  obtain ⟨xc1,xc2,xc3⟩:=xc
  obtain ⟨xd1,xd2,xd3⟩:=xd
  obtain ⟨m11,m12,m13⟩:=m1
  obtain ⟨m21,m22,m23⟩:=m2
  obtain ⟨m31,m32,m33⟩:=m3
  obtain ⟨s11,s12,s13⟩:=s1
  obtain ⟨s21,s22,s23⟩:=s2
  obtain ⟨s31,s32,s33⟩:=s3
  simp only at qa qb qc qd
  simp only [Prod.mk.injEq] at hres
  obtain ⟨hR1,hR2,hR3⟩:=hres
  dsimp only at hwr
  rw [hR1,hR2,hR3] at hwr
  obtain ⟨w1,w2,w3⟩:=hwr
  have HR:=hide (ai9 hR1 (ai9 hR2 hR3))
  have HQ:=hide (ai9 qa (ai9 qb (ai9 qc qd)))
  have HK:=hide (ai9 kf (ai9 kb1 kb2))
  have HC:=hide (ai9 c1 (ai9 c2 (ai9 c3 (ai9 c4 (ai9 c5 c6)))))
  have HW:=hide (ai9 w1 (ai9 w2 w3))
  clear hd hab hds hra hrb hfz hnm kf hxa hxb hbp qa qb hR hnp hnt hnc hno hcr hb1 hb2 e1 e2 r1 r2 hic hid hxc hxd qc qd hkf kb1 kb2 hm1 hs1 hm2 hs2 hm3 hs3 c1 c2 c3 c4 c5 c6 hR1 hR2 hR3 w1 w2 w3 hL he hp ht hc ho hlp hlt hlc hlo
  go_enter Tryz.func95,Tryz.ntmps95
  go_upto_region 2 with fail
  obtain ⟨g4,hg4⟩:=ex9 (w.heap.size)
  obtain ⟨g8,hg8⟩:=ex9 (w.heap.size+1)
  obtain ⟨g9,hg9⟩:=ex9 (w.heap.size+1+1)
  obtain ⟨X,hX⟩:=ex9 ((((w.alloc (.cells #[.slice (some ⟨bp,op,none⟩) np cp, .slice At nt ct, .slice Ac nc cc] 108)).alloc (.cells #[.int .i64 0, .int .i64 0, .int .i64 0] 43)).alloc (.cells #[.int .i64 0, .int .i64 0, .int .i64 0] 43)))
  have hr0:RulS w X w.heap.size g4 g8 g9 #[.slice (some ⟨bp,op,none⟩) np cp, .slice At nt ct, .slice Ac nc cc] (0,0,0):=by
   rw [hX,hg4,hg8,hg9]
   exact ⟨(((Below.refl _ w).alloc lr9 _).alloc (by simp) _).alloc (by simp;omega) _,((Blk.new _ _ _).alloc _).alloc _,(Blk.new' _ _ _ _ (by simp)).alloc _,Blk.new' _ _ _ _ (by simp),by omega,by omega⟩
  rw [←hX,←hg9,←hg8,←hg4]
  have z2:X.cell? ⟨g4,2,none⟩=some (.slice Ac nc cc):=hr0.b4.cell 2
  have hz2:=hr0.b4.lt
  have H0:=hide hr0
  clear hr0 hX hg4 hg8 hg9
  go_upto_if 19 with (go_at_call 93;refine (HK.o.1 X H0.o.below).mono ?_;rintro e Y0 ⟨rfl,hB⟩;have H1:=hide (H0.o.next hB lr9);clear hB)
  clear z2 hz2
  have j0:(0:Int)≤(kf1:Int):=by omega
  have z0:Y0.cell? ⟨g4,0,none⟩=some (.slice (some ⟨bp,op,none⟩) np cp):=H1.o.b4.cell 0
  have z1:Y0.cell? ⟨g4,1,none⟩=some (.slice At nt ct):=H1.o.b4.cell 1
  have z2:Y0.cell? ⟨g4,2,none⟩=some (.slice Ac nc cc):=H1.o.b4.cell 2
  have hz4:=H1.o.b4.lt
  obtain ⟨pa1,pa2,pa3,hbY⟩:=HQ.o.1 Y0 H1.o.below
  obtain ⟨pb1,pb2,pb3,hbY⟩:=HQ.o.2.1 Y0 H1.o.below
  go_upto_region 3 with fail
  go_still_tail 10,(by kernel_rfl)
  repeat still_step
  change wpList _ _ _ _ _ Y0.drew
  go_upto_region 4 with (first | (go_at_call 64;refine (HC.o.2.1 W1).mono ?_;rintro e W2 ⟨rfl,hB⟩;have H3:=hide (H2.o.next hB lr9);clear hB;have f0:=H3.o.b9.frozen 0;have f1:=H3.o.b9.frozen 1;have f2:=H3.o.b9.frozen 2;have hl9:=H3.o.b9.lt;have k0:=H3.o.b9.cell 0;have k1:=H3.o.b9.cell 1;have k2:=H3.o.b9.cell 2) | (go_at_call 22;refine (HC.o.1 Y0.drew).mono ?_;rintro e W1 ⟨rfl,hB⟩;have H2:=hide (H1.o.call hB lr9);clear hB))
  obtain ⟨Y3,hY2⟩:=ex9 ((((W2.setCell ⟨g9,0,none⟩ (.int .i64 s11)).setCell ⟨g9,1,none⟩ (.int .i64 s12)).setCell ⟨g9,2,none⟩ (.int .i64 s13)))
  have H4:=hide (show RulS w Y3 w.heap.size g4 g8 g9 #[.slice (some ⟨bp,op,none⟩) np cp, .slice At nt ct, .slice Ac nc cc] (s11,s12,s13) from by rw [hY2];exact H3.o.store (s11,s12,s13))
  rw [←hY2]
  clear hY2 f0 f1 f2 hl9 k0 k1 k2
  clear z0 z1 z2 hz4 pa1 pa2 pa3 pb1 pb2 pb3 hbY
  have HD1:=hide (show RulS w Y3.drew w.heap.size g4 g8 g9 #[.slice (some ⟨bp,op,none⟩) np cp, .slice At nt ct, .slice Ac nc cc] (s11,s12,s13) from H4.o.call (Below.refl _ _) lr9)
  refine zB (fun W=>RulS w W w.heap.size g4 g8 g9 #[.slice (some ⟨bp,op,none⟩) np cp, .slice At nt ct, .slice Ac nc cc] (s11,s12,s13)) [0,1,2,3,4,5,6,8,9] [0,1,2,3,4,5,6,7,8,9,10,11,12] zL (by kernel_rfl) ?_
  refine zA (v:=vP (s11,s12,s13)) rfl rfl (fun _ _ _ h=>h) HD1.o ⟨rfl,fun _ h'=>by obtain ⟨a0,a1,a2⟩:=h'.b9.three;simp [go_sem,a0,a1,a2]⟩ ?_
  refine zA (v:=(.pointer (some ⟨g4,0,none⟩))) rfl rfl (fun _ _ _ h=>h) HD1.o ⟨rfl,fun _ h'=>by simp [go_sem]⟩ ?_
  refine zA (v:=(.slice (some ⟨bp,op,none⟩) np cp)) rfl rfl (fun _ _ _ h=>h) HD1.o ⟨rfl,fun _ h'=>by have a0:=h'.b4.cell 0;simp at a0;simp [go_sem,a0]⟩ ?_
  refine zA (v:=(.agg #[.slice (some ⟨bp,op,none⟩) np cp, .slice At nt ct, .slice Ac nc cc])) rfl rfl (fun _ _ _ h=>h) HD1.o ⟨rfl,fun _ h'=>by obtain ⟨a0,a1,a2⟩:=h'.b4.three;simp [go_sem,a0,a1,a2]⟩ ?_
  refine zA (v:=(.slice Ao no oc)) rfl rfl (fun _ _ _ h=>h) HD1.o ⟨rfl,fun _ h'=>by simp [go_sem]⟩ ?_
  refine zA (v:=(.int .i64 ia)) rfl rfl (fun _ _ _ h=>h) HD1.o ⟨rfl,fun _ h'=>by simp [go_sem]⟩ ?_
  refine zA (v:=(.int .i64 ib)) rfl rfl (fun _ _ _ h=>h) HD1.o ⟨rfl,fun _ h'=>by simp [go_sem]⟩ ?_
  simp only [List.getElem_toArray,List.getElem_cons_succ,List.getElem_cons_zero,Act.put,List.setIfInBounds_toArray,List.set_cons_succ,List.set_cons_zero]
  refine zD rfl rfl ?_
  go_wp2_with fail
  refine (HK.o.2.1 Y3.drew (HD1.o.below)).mono ?_
  rintro e Wb1 ⟨rfl,hB⟩
  have Hb1:=hide (HD1.o.next hB lr9)
  clear hB
  go_wp2_with fail
  refine ⟨fun _=>Hb1.o,?_⟩
  refine zA (v:=(.pointer (some ⟨bp,op+ic*3,none⟩))) rfl rfl (fun _ _ _ h=>h) Hb1.o ⟨rfl,fun _ h'=>by simp [go_sem,i3]⟩ ?_
  refine zA (v:=vP (xc1,xc2,xc3)) rfl rfl (fun _ _ _ h=>h) Hb1.o ⟨rfl,fun _ h'=>by obtain ⟨a0,a1,a2,_⟩:=HQ.o.2.2.1 _ h'.below;simp [go_sem,a0,a1,a2]⟩ ?_
  simp only [List.getElem_toArray,List.getElem_cons_succ,List.getElem_cons_zero,Act.put,List.setIfInBounds_toArray,List.set_cons_succ,List.set_cons_zero]
  refine zD rfl rfl ?_
  go_wp2_with fail
  refine (HC.o.2.2.1 Wb1).mono ?_
  rintro e Wt1 ⟨rfl,hB⟩
  have Ht1:=hide (Hb1.o.next hB lr9)
  clear hB
  go_wp2_with fail
  refine ⟨fun _=>Ht1.o,?_⟩
  refine zJ _ [_,_] (by kernel_rfl) rfl ?_
  go_upto_region 5 with (go_at_call 22;refine (HC.o.2.2.2.1 Wt1).mono ?_;rintro e Wp1 ⟨rfl,hB⟩;have Hp1:=hide (Ht1.o.next hB lr9);clear hB;have f0:=Hp1.o.b9.frozen 0;have f1:=Hp1.o.b9.frozen 1;have f2:=Hp1.o.b9.frozen 2;have hl9:=Hp1.o.b9.lt;have k0:=Hp1.o.b9.cell 0;have k1:=Hp1.o.b9.cell 1;have k2:=Hp1.o.b9.cell 2)
  obtain ⟨Yn1,hY2⟩:=ex9 ((((Wp1.setCell ⟨g9,0,none⟩ (.int .i64 s21)).setCell ⟨g9,1,none⟩ (.int .i64 s22)).setCell ⟨g9,2,none⟩ (.int .i64 s23)))
  have Hn1:=hide (show RulS w Yn1 w.heap.size g4 g8 g9 #[.slice (some ⟨bp,op,none⟩) np cp, .slice At nt ct, .slice Ac nc cc] (s21,s22,s23) from by rw [hY2];exact Hp1.o.store (s21,s22,s23))
  rw [←hY2]
  clear hY2 f0 f1 f2 hl9 k0 k1 k2
  have HD2:=hide (show RulS w Yn1.drew w.heap.size g4 g8 g9 #[.slice (some ⟨bp,op,none⟩) np cp, .slice At nt ct, .slice Ac nc cc] (s21,s22,s23) from Hn1.o.call (Below.refl _ _) lr9)
  refine zB (fun W=>RulS w W w.heap.size g4 g8 g9 #[.slice (some ⟨bp,op,none⟩) np cp, .slice At nt ct, .slice Ac nc cc] (s21,s22,s23)) [0,1,2,3,4,5,6,8,9] [0,1,2,3,4,5,6,7,8,9,10,11,12] zL (by kernel_rfl) ?_
  refine zA (v:=vP (s21,s22,s23)) rfl rfl (fun _ _ _ h=>h) HD2.o ⟨rfl,fun _ h'=>by obtain ⟨a0,a1,a2⟩:=h'.b9.three;simp [go_sem,a0,a1,a2]⟩ ?_
  refine zA (v:=(.pointer (some ⟨g4,0,none⟩))) rfl rfl (fun _ _ _ h=>h) HD2.o ⟨rfl,fun _ h'=>by simp [go_sem]⟩ ?_
  refine zA (v:=(.slice (some ⟨bp,op,none⟩) np cp)) rfl rfl (fun _ _ _ h=>h) HD2.o ⟨rfl,fun _ h'=>by have a0:=h'.b4.cell 0;simp at a0;simp [go_sem,a0]⟩ ?_
  refine zA (v:=(.agg #[.slice (some ⟨bp,op,none⟩) np cp, .slice At nt ct, .slice Ac nc cc])) rfl rfl (fun _ _ _ h=>h) HD2.o ⟨rfl,fun _ h'=>by obtain ⟨a0,a1,a2⟩:=h'.b4.three;simp [go_sem,a0,a1,a2]⟩ ?_
  refine zA (v:=(.slice Ao no oc)) rfl rfl (fun _ _ _ h=>h) HD2.o ⟨rfl,fun _ h'=>by simp [go_sem]⟩ ?_
  refine zA (v:=(.int .i64 ib)) rfl rfl (fun _ _ _ h=>h) HD2.o ⟨rfl,fun _ h'=>by simp [go_sem]⟩ ?_
  refine zA (v:=(.int .i64 ia)) rfl rfl (fun _ _ _ h=>h) HD2.o ⟨rfl,fun _ h'=>by simp [go_sem]⟩ ?_
  simp only [List.getElem_toArray,List.getElem_cons_succ,List.getElem_cons_zero,Act.put,List.setIfInBounds_toArray,List.set_cons_succ,List.set_cons_zero]
  refine zD rfl rfl ?_
  go_wp2_with fail
  refine (HK.o.2.2 Yn1.drew (HD2.o.below)).mono ?_
  rintro e Wb2 ⟨rfl,hB⟩
  have Hb2:=hide (HD2.o.next hB lr9)
  clear hB
  go_wp2_with fail
  refine ⟨fun _=>Hb2.o,?_⟩
  refine zA (v:=(.pointer (some ⟨bp,op+jd*3,none⟩))) rfl rfl (fun _ _ _ h=>h) Hb2.o ⟨rfl,fun _ h'=>by simp [go_sem,i4]⟩ ?_
  refine zA (v:=vP (xd1,xd2,xd3)) rfl rfl (fun _ _ _ h=>h) Hb2.o ⟨rfl,fun _ h'=>by obtain ⟨a0,a1,a2,_⟩:=HQ.o.2.2.2 _ h'.below;simp [go_sem,a0,a1,a2]⟩ ?_
  simp only [List.getElem_toArray,List.getElem_cons_succ,List.getElem_cons_zero,Act.put,List.setIfInBounds_toArray,List.set_cons_succ,List.set_cons_zero]
  refine zD rfl rfl ?_
  go_wp2_with fail
  refine (HC.o.2.2.2.2.1 Wb2).mono ?_
  rintro e Wt2 ⟨rfl,hB⟩
  have Ht2:=hide (Hb2.o.next hB lr9)
  clear hB
  go_wp2_with fail
  refine ⟨fun _=>Ht2.o,?_⟩
  refine zJ _ [_,_] (by kernel_rfl) rfl ?_
  go_upto_region 15 with (go_at_call 22;refine (HC.o.2.2.2.2.2 Wt2).mono ?_;rintro e Wp2 ⟨rfl,hB⟩;have Hp2:=hide (Ht2.o.next hB lr9);clear hB;have f0:=Hp2.o.b9.frozen 0;have f1:=Hp2.o.b9.frozen 1;have f2:=Hp2.o.b9.frozen 2;have hl9:=Hp2.o.b9.lt;have k0:=Hp2.o.b9.cell 0;have k1:=Hp2.o.b9.cell 1;have k2:=Hp2.o.b9.cell 2)
  obtain ⟨Yn2,hY2⟩:=ex9 ((((Wp2.setCell ⟨g9,0,none⟩ (.int .i64 s31)).setCell ⟨g9,1,none⟩ (.int .i64 s32)).setCell ⟨g9,2,none⟩ (.int .i64 s33)))
  have Hn2:=hide (show RulS w Yn2 w.heap.size g4 g8 g9 #[.slice (some ⟨bp,op,none⟩) np cp, .slice At nt ct, .slice Ac nc cc] (s31,s32,s33) from by rw [hY2];exact Hp2.o.store (s31,s32,s33))
  rw [←hY2]
  clear hY2 f0 f1 f2 hl9 k0 k1 k2
  have t1:Yn2.cell? ⟨g9,0,none⟩=some (.int .i64 s31):=Hn2.o.b9.cell 0
  have t2:Yn2.cell? ⟨g9,1,none⟩=some (.int .i64 s32):=Hn2.o.b9.cell 1
  have t3:Yn2.cell? ⟨g9,2,none⟩=some (.int .i64 s33):=Hn2.o.b9.cell 2
  have hz9:=Hn2.o.b9.lt
  have f0:=Hn2.o.b8.frozen 0
  have f1:=Hn2.o.b8.frozen 1
  have f2:=Hn2.o.b8.frozen 2
  have hl8:=Hn2.o.b8.lt
  have k0:=Hn2.o.b8.cell 0
  have k1:=Hn2.o.b8.cell 1
  have k2:=Hn2.o.b8.cell 2
  have w1:=HW.o.1
  have w2:=HW.o.2.1
  have w3:=HW.o.2.2
  go_wp2
  refine yX (v:=vP (R1,R2,R3)) (fun W=>Blk W g8 43 #[.int .i64 R1, .int .i64 R2, .int .i64 R3]) ?_ (fun W hW=> ?_) rfl ⟨rfl,?_⟩
  ·rw [HR.o.1,HR.o.2.1,HR.o.2.2];exact Hn2.o.b8.set3 _ _ _
  ·obtain ⟨a0,a1,a2⟩:=hW.three
   simp [results,Tryz.results95,go_sem,a0,a1,a2]
  ·exact ((Hn2.o.below.setCell (p:=⟨g8,0,none⟩) Hn2.o.le.1 _).setCell (p:=⟨g8,1,none⟩) Hn2.o.le.1 _).setCell (p:=⟨g8,2,none⟩) Hn2.o.le.1 _
 ·have hth:=hL.thr hd
  have hth2:=hL.thr hds
  have rc:=(hL.rng hth.1).2
  have rd:=(hL.rng hth2.1).2
  obtain ⟨ic,hic⟩:∃n:Nat,zV L.t ia ib=n:=⟨(zV L.t ia ib).toNat,by omega⟩
  obtain ⟨jd,hid⟩:∃n:Nat,zV L.t ib ia=n:=⟨(zV L.t ib ia).toNat,by omega⟩
  rw [hic] at hth rc
  rw [hid] at hth2 rd
  have re:=(hL.rng (hL.thr hth.2.2.1).1).2
  have rf:=(hL.rng (hL.thr hth.2.2.2).1).2
  have rg:=(hL.rng (hL.thr hth2.2.2.1).1).2
  have rh:=(hL.rng (hL.thr hth2.2.2.2).1).2
  obtain ⟨ie,hie⟩:∃n:Nat,zV L.t ic ib=n:=⟨(zV L.t ic ib).toNat,by omega⟩
  obtain ⟨je,hif⟩:∃n:Nat,zV L.t ia ic=n:=⟨(zV L.t ia ic).toNat,by omega⟩
  obtain ⟨ig,hig⟩:∃n:Nat,zV L.t jd ia=n:=⟨(zV L.t jd ia).toNat,by omega⟩
  obtain ⟨ih,hih⟩:∃n:Nat,zV L.t ib jd=n:=⟨(zV L.t ib jd).toNat,by omega⟩
  rw [hie] at re
  rw [hif] at rf
  rw [hig] at rg
  rw [hih] at rh
  obtain ⟨xc,hxc⟩:∃x,L.p[ic]? =some x:=⟨_,List.getElem?_eq_getElem (by omega)⟩
  obtain ⟨xd,hxd⟩:∃x,L.p[jd]? =some x:=⟨_,List.getElem?_eq_getElem (by omega)⟩
  obtain ⟨xe,hxe⟩:∃x,L.p[ie]? =some x:=⟨_,List.getElem?_eq_getElem (by omega)⟩
  obtain ⟨xf,hxf⟩:∃x,L.p[je]? =some x:=⟨_,List.getElem?_eq_getElem (by omega)⟩
  obtain ⟨xg,hxg⟩:∃x,L.p[ig]? =some x:=⟨_,List.getElem?_eq_getElem (by omega)⟩
  obtain ⟨xh,hxh⟩:∃x,L.p[ih]? =some x:=⟨_,List.getElem?_eq_getElem (by omega)⟩
  have qc:=(hp.ptW lr9 hxc).2
  have qd:=(hp.ptW lr9 hxd).2
  have hkf:posE L.cr ia ib= -1:=dU (by rw [hnm];exact hcr)
  have k3:=fun (W:World) (hW:Below w.heap.size w W) (a b:Int)=>zHR At ct L.t a b W ((ht.below hW).more hW.size) (by omega)
  have kc:=fun (W:World) (hW:Below w.heap.size w W)=>k3 W hW ia ib
  have kd:=fun (W:World) (hW:Below w.heap.size w W)=>k3 W hW ib ia
  have ke:=fun (W:World) (hW:Below w.heap.size w W)=>k3 W hW ic ib
  have kf':=fun (W:World) (hW:Below w.heap.size w W)=>k3 W hW ia ic
  have kg:=fun (W:World) (hW:Below w.heap.size w W)=>k3 W hW jd ia
  have kh:=fun (W:World) (hW:Below w.heap.size w W)=>k3 W hW ib jd
  simp only [hic,←hnt] at kc
  simp only [hid,←hnt] at kd
  simp only [hie,←hnt] at ke
  simp only [hif,←hnt] at kf'
  simp only [hig,←hnt] at kg
  simp only [hih,←hnt] at kh
  simp only [hkf,←hnc] at kf
  have hres:R=((addP (addP (addP (addP (addP (yB (addP xa xb) 8) (yB (addP xc xd) 2)) (yB xe (-1))) (yB xf (-1))) (yB xg (-1))) (yB xh (-1))).1.tdiv 16,(addP (addP (addP (addP (addP (yB (addP xa xb) 8) (yB (addP xc xd) 2)) (yB xe (-1))) (yB xf (-1))) (yB xg (-1))) (yB xh (-1))).2.1.tdiv 16,(addP (addP (addP (addP (addP (yB (addP xa xb) 8) (yB (addP xc xd) 2)) (yB xe (-1))) (yB xf (-1))) (yB xg (-1))) (yB xh (-1))).2.2.tdiv 16):=by
   rw [hR,zJZ]
   unfold jC wsE
   rw [hnm,if_neg hcr,hic,hid,hie,hif,hig,hih]
   simp only [wsum,getD_at hxa,getD_at hxb,getD_at hxc,getD_at hxd,getD_at hxe,getD_at hxf,getD_at hxg,getD_at hxh]
  have hwr:wrap64 R.1=R.1∧wrap64 R.2.1=R.2.1∧wrap64 R.2.2=R.2.2:=by
   rw [hR]
   exact ⟨yS _,yS _,yS _⟩
  have hw4:∀j,j < 4→∃i x, [ie,je,ig,ih][j]? =some i∧ [xe,xf,xg,xh][j]? =some x∧i < L.p.length∧L.p[i]? =some x:=fun j hj=>by
   have hc:j=0∨j=1∨j=2∨j=3:=by omega
   rcases hc with rfl | rfl | rfl | rfl
   ·exact ⟨ie,xe,rfl,rfl,by omega,hxe⟩
   ·exact ⟨je,xf,rfl,rfl,by omega,hxf⟩
   ·exact ⟨ig,xg,rfl,rfl,by omega,hxg⟩
   ·exact ⟨ih,xh,rfl,rfl,by omega,hxh⟩
  have hq4:=fun i x (hx:L.p[i]? =some x)=>(hp.ptW lr9 hx).2
  obtain ⟨m1,hm1⟩:=ex9 (addP xa xb)
  obtain ⟨s1,hs1⟩:=ex9 (yB m1 8)
  obtain ⟨m2,hm2⟩:=ex9 (addP xc xd)
  obtain ⟨m3,hm3⟩:=ex9 (yB m2 2)
  obtain ⟨s2,hs2⟩:=ex9 (addP s1 m3)
  rw [←hm1,←hs1,←hm2,←hm3,←hs2] at hres
  have hsg:∀j x, [xe,xf,xg,xh][j]? =some x→sumW s2 [xe,xf,xg,xh] (j+1)=addP (sumW s2 [xe,xf,xg,xh] j) (yB x (-1)):=fun j x h=>by unfold sumW;rw [List.take_add_one,h,Option.toList_some,List.foldl_append];rfl
  have hs4:R=((sumW s2 [xe,xf,xg,xh] 4).1.tdiv 16,(sumW s2 [xe,xf,xg,xh] 4).2.1.tdiv 16,(sumW s2 [xe,xf,xg,xh] 4).2.2.tdiv 16):=hres
  obtain ⟨il,hil⟩:∃l:List Nat,l= [ie,je,ig,ih]:=⟨_,rfl⟩
  obtain ⟨xl,hxl⟩:∃l:List Pt,l= [xe,xf,xg,xh]:=⟨_,rfl⟩
  rw [←hil,←hxl] at hw4
  rw [←hxl] at hsg hs4
  have c1:=qH xa xb
  have c2:=times_any m1 8
  have c3:=qH xc xd
  have c4:=times_any m2 2
  have c5:=qH s1 m3
  rw [←hm1] at c1
  rw [←hs1] at c2
  rw [←hm2] at c3
  rw [←hm3] at c4
  rw [←hs2] at c5
  rw [←hnp] at hra hrb rc rd
  rw [←hnp] at hw4
  rw [←hnp,←hnt,←hnc,←hno]
  have i1:(ia:Int) < (np:Int):=hra.2
  have i2:(ib:Int) < (np:Int):=hrb.2
  have i3:(ic:Int) < (np:Int):=rc.2
  have i4:(jd:Int) < (np:Int):=rd.2
  obtain ⟨R1,R2,R3⟩:=R
  obtain ⟨xa1,xa2,xa3⟩:=xa
  obtain ⟨xb1,xb2,xb3⟩:=xb
  obtain ⟨xc1,xc2,xc3⟩:=xc
  obtain ⟨xd1,xd2,xd3⟩:=xd
  obtain ⟨m11,m12,m13⟩:=m1
  obtain ⟨m21,m22,m23⟩:=m2
  obtain ⟨m31,m32,m33⟩:=m3
  obtain ⟨s11,s12,s13⟩:=s1
  obtain ⟨s21,s22,s23⟩:=s2
  simp only at qa qb qc qd
  have HQ:=hide (ai9 qa (ai9 qb (ai9 qc qd)))
  have HK:=hide (ai9 kf (ai9 kc (ai9 kd (ai9 ke (ai9 kf' (ai9 kg kh))))))
  have HC:=hide (ai9 c1 (ai9 c2 (ai9 c3 (ai9 c4 c5))))
  have HL:=hide (ai9 hw4 (ai9 hq4 (ai9 hsg (ai9 hs4 (ai9 hwr hil)))))
  clear hd hab hds hra hrb hfz hnm kf hxa hxb hbp qa qb hR hnp hnt hnc hno hcr hic hid hxc hxd qc qd hkf hm1 hs1 hm2 hs2 hm3 c1 c2 c3 c4 c5 hL he hp ht hc ho hlp hlt hlc hlo hth hth2 rc rd re rf rg rh hie hif hig hih hxe hxf hxg hxh k3 kc kd ke kf' kg kh hres hwr hw4 hq4 hsg hs4 hil hxl
  go_enter Tryz.func95,Tryz.ntmps95
  go_upto_region 2 with fail
  obtain ⟨g4,hg4⟩:=ex9 (w.heap.size)
  obtain ⟨g8,hg8⟩:=ex9 (w.heap.size+1)
  obtain ⟨g9,hg9⟩:=ex9 (w.heap.size+1+1)
  obtain ⟨X,hX⟩:=ex9 ((((w.alloc (.cells #[.slice (some ⟨bp,op,none⟩) np cp, .slice At nt ct, .slice Ac nc cc] 108)).alloc (.cells #[.int .i64 0, .int .i64 0, .int .i64 0] 43)).alloc (.cells #[.int .i64 0, .int .i64 0, .int .i64 0] 43)))
  have hr0:RulS w X w.heap.size g4 g8 g9 #[.slice (some ⟨bp,op,none⟩) np cp, .slice At nt ct, .slice Ac nc cc] (0,0,0):=by
   rw [hX,hg4,hg8,hg9]
   exact ⟨(((Below.refl _ w).alloc lr9 _).alloc (by simp) _).alloc (by simp;omega) _,((Blk.new _ _ _).alloc _).alloc _,(Blk.new' _ _ _ _ (by simp)).alloc _,Blk.new' _ _ _ _ (by simp),by omega,by omega⟩
  rw [←hX,←hg9,←hg8,←hg4]
  have z2:X.cell? ⟨g4,2,none⟩=some (.slice Ac nc cc):=hr0.b4.cell 2
  have hz2:=hr0.b4.lt
  have H0:=hide hr0
  clear hr0 hX hg4 hg8 hg9
  go_upto_if 19 with (go_at_call 93;refine (HK.o.1 X H0.o.below).mono ?_;rintro e Y0 ⟨rfl,hB⟩;have H1:=hide (H0.o.next hB lr9);clear hB)
  clear z2 hz2
  have z0:Y0.cell? ⟨g4,0,none⟩=some (.slice (some ⟨bp,op,none⟩) np cp):=H1.o.b4.cell 0
  have z1:Y0.cell? ⟨g4,1,none⟩=some (.slice At nt ct):=H1.o.b4.cell 1
  have z2:Y0.cell? ⟨g4,2,none⟩=some (.slice Ac nc cc):=H1.o.b4.cell 2
  have hz4:=H1.o.b4.lt
  obtain ⟨pa1,pa2,pa3,hbY⟩:=HQ.o.1 Y0 H1.o.below
  obtain ⟨pb1,pb2,pb3,hbY⟩:=HQ.o.2.1 Y0 H1.o.below
  go_upto_region 7 with (go_at_call 120;refine (HK.o.2.1 Y0 H1.o.below).mono ?_;rintro e W0 ⟨rfl,hW0⟩;obtain rfl:Y0=W0:=hW0.symm)
  go_upto_region 8 with (go_at_call 120;refine (HK.o.2.2.1 Y0 H1.o.below).mono ?_;rintro e W0 ⟨rfl,hW0⟩;obtain rfl:Y0=W0:=hW0.symm)
  go_still_tail 10,(by kernel_rfl)
  repeat still_step
  change wpList _ _ _ _ _ Y0.drew
  go_upto_region 9 with (first | (go_at_call 64;refine (HC.o.2.1 W1).mono ?_;rintro e W2 ⟨rfl,hB⟩;have H3:=hide (H2.o.next hB lr9);clear hB;have f0:=H3.o.b9.frozen 0;have f1:=H3.o.b9.frozen 1;have f2:=H3.o.b9.frozen 2;have hl9:=H3.o.b9.lt;have k0:=H3.o.b9.cell 0;have k1:=H3.o.b9.cell 1;have k2:=H3.o.b9.cell 2) | (go_at_call 22;refine (HC.o.1 Y0.drew).mono ?_;rintro e W1 ⟨rfl,hB⟩;have H2:=hide (H1.o.call hB lr9);clear hB))
  obtain ⟨Y3,hY2⟩:=ex9 ((((W2.setCell ⟨g9,0,none⟩ (.int .i64 s11)).setCell ⟨g9,1,none⟩ (.int .i64 s12)).setCell ⟨g9,2,none⟩ (.int .i64 s13)))
  have H4:=hide (show RulS w Y3 w.heap.size g4 g8 g9 #[.slice (some ⟨bp,op,none⟩) np cp, .slice At nt ct, .slice Ac nc cc] (s11,s12,s13) from by rw [hY2];exact H3.o.store (s11,s12,s13))
  rw [←hY2]
  clear hY2 f0 f1 f2 hl9 k0 k1 k2
  clear z0 z1 z2 hz4 pa1 pa2 pa3 pb1 pb2 pb3 hbY
  have HD9:=hide (show RulS w Y3.drew w.heap.size g4 g8 g9 #[.slice (some ⟨bp,op,none⟩) np cp, .slice At nt ct, .slice Ac nc cc] (s11,s12,s13) from H4.o.call (Below.refl _ _) lr9)
  refine zB (fun W=>RulS w W w.heap.size g4 g8 g9 #[.slice (some ⟨bp,op,none⟩) np cp, .slice At nt ct, .slice Ac nc cc] (s11,s12,s13)) [0,1,2,3,4,5,6,7,8,9,10] [0,1,2,3,4,5,6,7,8,9,10,11,12,13,14] zL (by kernel_rfl) ?_
  refine zA (v:=vP (s11,s12,s13)) rfl rfl (fun _ _ _ h=>h) HD9.o ⟨rfl,fun _ h'=>by obtain ⟨a0,a1,a2⟩:=h'.b9.three;simp [go_sem,a0,a1,a2]⟩ ?_
  refine zA (v:=(.pointer (some ⟨g4,0,none⟩))) rfl rfl (fun _ _ _ h=>h) HD9.o ⟨rfl,fun _ h'=>by simp [go_sem]⟩ ?_
  refine zA (v:=(.slice (some ⟨bp,op,none⟩) np cp)) rfl rfl (fun _ _ _ h=>h) HD9.o ⟨rfl,fun _ h'=>by have a0:=h'.b4.cell 0;simp at a0;simp [go_sem,a0]⟩ ?_
  refine zA (v:=(.int .i64 ic)) rfl rfl (fun _ _ _ h=>h) HD9.o ⟨rfl,fun _ h'=>by simp [go_sem]⟩ ?_
  refine zA (v:=(.pointer (some ⟨bp,op+ic*3,none⟩))) rfl rfl (fun _ _ _ h=>h) HD9.o ⟨rfl,fun _ h'=>by simp [go_sem,i3]⟩ ?_
  refine zA (v:=vP (xc1,xc2,xc3)) rfl rfl (fun _ _ _ h=>h) HD9.o ⟨rfl,fun _ h'=>by obtain ⟨a0,a1,a2,_⟩:=HQ.o.2.2.1 _ h'.below;simp [go_sem,a0,a1,a2]⟩ ?_
  simp only [List.getElem_toArray,List.getElem_cons_succ,List.getElem_cons_zero,Act.put,List.setIfInBounds_toArray,List.set_cons_succ,List.set_cons_zero]
  refine zA (v:=(.pointer (some ⟨g4,0,none⟩))) rfl rfl (fun _ _ _ h=>h) HD9.o ⟨rfl,fun _ h'=>by simp [go_sem]⟩ ?_
  refine zA (v:=(.slice (some ⟨bp,op,none⟩) np cp)) rfl rfl (fun _ _ _ h=>h) HD9.o ⟨rfl,fun _ h'=>by have a0:=h'.b4.cell 0;simp at a0;simp [go_sem,a0]⟩ ?_
  refine zA (v:=(.int .i64 jd)) rfl rfl (fun _ _ _ h=>h) HD9.o ⟨rfl,fun _ h'=>by simp [go_sem]⟩ ?_
  refine zA (v:=(.pointer (some ⟨bp,op+jd*3,none⟩))) rfl rfl (fun _ _ _ h=>h) HD9.o ⟨rfl,fun _ h'=>by simp [go_sem,i4]⟩ ?_
  refine zA (v:=vP (xd1,xd2,xd3)) rfl rfl (fun _ _ _ h=>h) HD9.o ⟨rfl,fun _ h'=>by obtain ⟨a0,a1,a2,_⟩:=HQ.o.2.2.2 _ h'.below;simp [go_sem,a0,a1,a2]⟩ ?_
  simp only [List.getElem_toArray,List.getElem_cons_succ,List.getElem_cons_zero,Act.put,List.setIfInBounds_toArray,List.set_cons_succ,List.set_cons_zero]
  refine zD rfl rfl ?_
  go_wp2_with fail
  refine (HC.o.2.2.1 Y3.drew).mono ?_
  rintro e W91 ⟨rfl,hB⟩
  have H91:=hide (HD9.o.next hB lr9)
  clear hB
  go_wp2_with fail
  refine ⟨fun _=>H91.o,?_⟩
  refine zD rfl rfl ?_
  go_wp2_with fail
  refine (HC.o.2.2.2.1 W91).mono ?_
  rintro e W92 ⟨rfl,hB⟩
  have H92:=hide (H91.o.next hB lr9)
  clear hB
  go_wp2_with fail
  refine ⟨fun _=>H92.o,?_⟩
  refine zJ _ [_,_] (by kernel_rfl) rfl ?_
  go_upto_region 10 with (go_at_call 22;refine (HC.o.2.2.2.2 W92).mono ?_;rintro e W93 ⟨rfl,hB⟩;have H93:=hide (H92.o.next hB lr9);clear hB;have f0:=H93.o.b9.frozen 0;have f1:=H93.o.b9.frozen 1;have f2:=H93.o.b9.frozen 2;have hl9:=H93.o.b9.lt;have k0:=H93.o.b9.cell 0;have k1:=H93.o.b9.cell 1;have k2:=H93.o.b9.cell 2)
  obtain ⟨Y9,hY2⟩:=ex9 ((((W93.setCell ⟨g9,0,none⟩ (.int .i64 s21)).setCell ⟨g9,1,none⟩ (.int .i64 s22)).setCell ⟨g9,2,none⟩ (.int .i64 s23)))
  have H9:=hide (show RulS w Y9 w.heap.size g4 g8 g9 #[.slice (some ⟨bp,op,none⟩) np cp, .slice At nt ct, .slice Ac nc cc] (s21,s22,s23) from by rw [hY2];exact H93.o.store (s21,s22,s23))
  rw [←hY2]
  clear hY2 f0 f1 f2 hl9 k0 k1 k2
  go_cut [12] (fun v wx=>∃ge,v= .pointer (some ⟨ge,0,none⟩)∧Blk wx ge 65 #[.int .i64 ie, .int .i64 je, .int .i64 ig, .int .i64 ih]∧((ge≠g9∧ge≠g4∧ge≠g8)∧w.heap.size≤ge)∧RulS w wx w.heap.size g4 g8 g9 #[.slice (some ⟨bp,op,none⟩) np cp, .slice At nt ct, .slice Ac nc cc] (s21,s22,s23))
  case first=>
   have HD:=hide (show RulS w Y9.drew w.heap.size g4 g8 g9 #[.slice (some ⟨bp,op,none⟩) np cp, .slice At nt ct, .slice Ac nc cc] (s21,s22,s23) from H9.o.call (Below.refl _ _) lr9)
   refine jS (fun W=>RulS w W w.heap.size g4 g8 g9 #[.slice (some ⟨bp,op,none⟩) np cp, .slice At nt ct, .slice Ac nc cc] (s21,s22,s23)) [0,1,2,3,5,6,7,8,10,11,12,13,15,16,17,18,20] (.q 0 (.q 1 (.q 2 (.q 3 (.q 5 (.q 6 (.q 7 (.q 8 (.q 10 (.q 11 (.q 12 (.q 13 (.q 15 (.q 16 (.q 17 (.q 18 (.two 4 (.two 9 (.two 14 (.two 19 (.q 20 (.one 21 (.one 22 .nil))) 21 (.one 19 (.q 20 (.one 22 .nil)))) 21 (.one 14 (.one 19 (.q 20 (.one 22 .nil))))) 21 (.one 9 (.one 14 (.one 19 (.q 20 (.one 22 .nil)))))) 21 (.one 4 (.one 9 (.one 14 (.one 19 (.q 20 (.one 22 .nil))))))))))))))))))))))) zL (by kernel_rfl) ?_
   refine yI (v:=(.pointer (some ⟨g4,1,none⟩))) rfl (fun _ _ _ h=>h) HD.o ⟨rfl,fun _ h'=>by simp [go_sem]⟩ ?_
   refine yI (v:=(.slice At nt ct)) rfl (fun _ _ _ h=>h) HD.o ⟨rfl,fun _ h'=>by have a0:=h'.b4.cell 1;simp at a0;simp [go_sem,a0]⟩ ?_
   refine yI (v:=(.int .i64 ic)) rfl (fun _ _ _ h=>h) HD.o ⟨rfl,fun _ h'=>by simp [go_sem]⟩ ?_
   refine yI (v:=(.int .i64 ib)) rfl (fun _ _ _ h=>h) HD.o ⟨rfl,fun _ h'=>by simp [go_sem]⟩ ?_
   refine yI (v:=(.pointer (some ⟨g4,1,none⟩))) rfl (fun _ _ _ h=>h) HD.o ⟨rfl,fun _ h'=>by simp [go_sem]⟩ ?_
   refine yI (v:=(.slice At nt ct)) rfl (fun _ _ _ h=>h) HD.o ⟨rfl,fun _ h'=>by have a0:=h'.b4.cell 1;simp at a0;simp [go_sem,a0]⟩ ?_
   simp only [List.getElem_toArray,List.getElem_cons_succ,List.getElem_cons_zero,Act.put,List.setIfInBounds_toArray,List.set_cons_succ,List.set_cons_zero]
   refine yI (v:=(.int .i64 ia)) rfl (fun _ _ _ h=>h) HD.o ⟨rfl,fun _ h'=>by simp [go_sem]⟩ ?_
   refine yI (v:=(.int .i64 ic)) rfl (fun _ _ _ h=>h) HD.o ⟨rfl,fun _ h'=>by simp [go_sem]⟩ ?_
   refine yI (v:=(.pointer (some ⟨g4,1,none⟩))) rfl (fun _ _ _ h=>h) HD.o ⟨rfl,fun _ h'=>by simp [go_sem]⟩ ?_
   refine yI (v:=(.slice At nt ct)) rfl (fun _ _ _ h=>h) HD.o ⟨rfl,fun _ h'=>by have a0:=h'.b4.cell 1;simp at a0;simp [go_sem,a0]⟩ ?_
   refine yI (v:=(.int .i64 jd)) rfl (fun _ _ _ h=>h) HD.o ⟨rfl,fun _ h'=>by simp [go_sem]⟩ ?_
   refine yI (v:=(.int .i64 ia)) rfl (fun _ _ _ h=>h) HD.o ⟨rfl,fun _ h'=>by simp [go_sem]⟩ ?_
   simp only [List.getElem_toArray,List.getElem_cons_succ,List.getElem_cons_zero,Act.put,List.setIfInBounds_toArray,List.set_cons_succ,List.set_cons_zero]
   refine yI (v:=(.pointer (some ⟨g4,1,none⟩))) rfl (fun _ _ _ h=>h) HD.o ⟨rfl,fun _ h'=>by simp [go_sem]⟩ ?_
   refine yI (v:=(.slice At nt ct)) rfl (fun _ _ _ h=>h) HD.o ⟨rfl,fun _ h'=>by have a0:=h'.b4.cell 1;simp at a0;simp [go_sem,a0]⟩ ?_
   refine yI (v:=(.int .i64 ib)) rfl (fun _ _ _ h=>h) HD.o ⟨rfl,fun _ h'=>by simp [go_sem]⟩ ?_
   refine yI (v:=(.int .i64 jd)) rfl (fun _ _ _ h=>h) HD.o ⟨rfl,fun _ h'=>by simp [go_sem]⟩ ?_
   simp only [List.getElem_toArray,List.getElem_cons_succ,List.getElem_cons_zero,Act.put,List.setIfInBounds_toArray,List.set_cons_succ,List.set_cons_zero]
   refine qF rfl rfl ?_ ?_
   ·skip
    go_wp2_with fail
    refine (HK.o.2.2.2.1 Y9.drew HD.o.below).mono ?_
    rintro e Wq0 ⟨rfl,hWq⟩
    obtain rfl:Y9.drew=Wq0:=hWq.symm
    go_wp2_with fail
    refine ⟨fun _=>HD.o,?_⟩
    refine qF rfl rfl ?_ ?_
    ·skip
     go_wp2_with fail
     refine (HK.o.2.2.2.2.1 Y9.drew HD.o.below).mono ?_
     rintro e Wq1 ⟨rfl,hWq⟩
     obtain rfl:Y9.drew=Wq1:=hWq.symm
     go_wp2_with fail
     refine ⟨fun _=>HD.o,?_⟩
     refine qF rfl rfl ?_ ?_
     ·skip
      go_wp2_with fail
      refine (HK.o.2.2.2.2.2.1 Y9.drew HD.o.below).mono ?_
      rintro e Wq2 ⟨rfl,hWq⟩
      obtain rfl:Y9.drew=Wq2:=hWq.symm
      go_wp2_with fail
      refine ⟨fun _=>HD.o,?_⟩
      refine qF rfl rfl ?_ ?_
      ·skip
       go_wp2_with fail
       refine (HK.o.2.2.2.2.2.2 Y9.drew HD.o.below).mono ?_
       rintro e Wq3 ⟨rfl,hWq⟩
       obtain rfl:Y9.drew=Wq3:=hWq.symm
       go_wp2_with fail
       refine ⟨fun _=>HD.o,?_⟩
       refine yI (v:=(.agg #[.int .i64 ie, .int .i64 je, .int .i64 ig, .int .i64 ih])) rfl (fun _ _ _ h=>h) HD.o ⟨rfl,fun _ h'=>by simp [go_sem]⟩ ?_
       simp only [List.getElem_toArray,List.getElem_cons_succ,List.getElem_cons_zero,Act.put,List.setIfInBounds_toArray,List.set_cons_succ,List.set_cons_zero]
       refine zY rfl ?_
       go_wp2_with fail
       obtain ⟨Z,hZ⟩:=ex9 ((Y9.alloc (.cells #[.int .i64 0, .int .i64 0, .int .i64 0, .int .i64 0] 65)).drew)
       have HZ:=hide (show RulS w Z w.heap.size g4 g8 g9 #[.slice (some ⟨bp,op,none⟩) np cp, .slice At nt ct, .slice Ac nc cc] (s21,s22,s23)∧Blk Z Y9.heap.size 65 #[.int .i64 0, .int .i64 0, .int .i64 0, .int .i64 0]∧(Y9.heap.size≠g9∧Y9.heap.size≠g4∧Y9.heap.size≠g8)∧w.heap.size≤Y9.heap.size from by rw [hZ];exact ⟨H9.o.next (((Below.refl _ Y9).alloc lr9 _).drew) lr9,Blk.new Y9 _ _,⟨Nat.ne_of_gt H9.o.b9.lt,Nat.ne_of_gt H9.o.b4.lt,Nat.ne_of_gt H9.o.b8.lt⟩,H9.o.below.size⟩)
       rw [←hZ]
       obtain ⟨ge,hge⟩:=ex9 (Y9.heap.size)
       rw [←hge] at HZ⊢
       clear hZ hge
       refine ⟨fun _=>HZ.o.1,?_⟩
       refine zY rfl ?_
       have f0:=HZ.o.2.1.frozen 0
       have f1:=HZ.o.2.1.frozen 1
       have f2:=HZ.o.2.1.frozen 2
       have f3:=HZ.o.2.1.frozen 3
       have hlz:=HZ.o.2.1.lt
       have k0:=HZ.o.2.1.cell 0
       have k1:=HZ.o.2.1.cell 1
       have k2:=HZ.o.2.1.cell 2
       have k3:=HZ.o.2.1.cell 3
       go_wp2_with fail
       refine ⟨fun h=>absurd (h.symm.trans (show _=false by kernel_rfl)) (by simp),?_⟩
       refine xI ?_
       go_wp2_with fail
       go_meet
       case rel=>
        refine ⟨ge,rfl,(((HZ.o.2.1.set_ 0 _).set_ 1 _).set_ 2 _).set_ 3 _,HZ.o.2.2,?_⟩
        exact HZ.o.1.far4 HZ.o.2.2.1 HZ.o.2.2.2 _ _ _ _
      ·skip
       go_wp2_with fail
       obtain ⟨Z,hZ⟩:=ex9 ((Y9.alloc (.cells #[.int .i64 0, .int .i64 0, .int .i64 0, .int .i64 0] 65)).drew)
       have HZ:=hide (show RulS w Z w.heap.size g4 g8 g9 #[.slice (some ⟨bp,op,none⟩) np cp, .slice At nt ct, .slice Ac nc cc] (s21,s22,s23)∧Blk Z Y9.heap.size 65 #[.int .i64 0, .int .i64 0, .int .i64 0, .int .i64 0]∧(Y9.heap.size≠g9∧Y9.heap.size≠g4∧Y9.heap.size≠g8)∧w.heap.size≤Y9.heap.size from by rw [hZ];exact ⟨H9.o.next (((Below.refl _ Y9).alloc lr9 _).drew) lr9,Blk.new Y9 _ _,⟨Nat.ne_of_gt H9.o.b9.lt,Nat.ne_of_gt H9.o.b4.lt,Nat.ne_of_gt H9.o.b8.lt⟩,H9.o.below.size⟩)
       rw [←hZ]
       obtain ⟨ge,hge⟩:=ex9 (Y9.heap.size)
       rw [←hge] at HZ⊢
       clear hZ hge
       refine ⟨fun _=>HZ.o.1,?_⟩
       refine zY rfl ?_
       go_wp2_with fail
       refine (HK.o.2.2.2.2.2.2 Z HZ.o.1.below).mono ?_
       rintro e Wq3 ⟨rfl,hWq⟩
       obtain rfl:Z=Wq3:=hWq.symm
       go_wp2_with fail
       refine ⟨fun _=>HZ.o.1,?_⟩
       refine yI (v:=(.agg #[.int .i64 ie, .int .i64 je, .int .i64 ig, .int .i64 ih])) rfl (fun _ _ _ h=>h) HZ.o.1 ⟨rfl,fun _ h'=>by simp [go_sem]⟩ ?_
       simp only [List.getElem_toArray,List.getElem_cons_succ,List.getElem_cons_zero,Act.put,List.setIfInBounds_toArray,List.set_cons_succ,List.set_cons_zero]
       refine zY rfl ?_
       have f0:=HZ.o.2.1.frozen 0
       have f1:=HZ.o.2.1.frozen 1
       have f2:=HZ.o.2.1.frozen 2
       have f3:=HZ.o.2.1.frozen 3
       have hlz:=HZ.o.2.1.lt
       have k0:=HZ.o.2.1.cell 0
       have k1:=HZ.o.2.1.cell 1
       have k2:=HZ.o.2.1.cell 2
       have k3:=HZ.o.2.1.cell 3
       go_wp2_with fail
       refine ⟨fun h=>absurd (h.symm.trans (show _=false by kernel_rfl)) (by simp),?_⟩
       refine xI ?_
       go_wp2_with fail
       go_meet
       case rel=>
        refine ⟨ge,rfl,(((HZ.o.2.1.set_ 0 _).set_ 1 _).set_ 2 _).set_ 3 _,HZ.o.2.2,?_⟩
        exact HZ.o.1.far4 HZ.o.2.2.1 HZ.o.2.2.2 _ _ _ _
     ·skip
      go_wp2_with fail
      obtain ⟨Z,hZ⟩:=ex9 ((Y9.alloc (.cells #[.int .i64 0, .int .i64 0, .int .i64 0, .int .i64 0] 65)).drew)
      have HZ:=hide (show RulS w Z w.heap.size g4 g8 g9 #[.slice (some ⟨bp,op,none⟩) np cp, .slice At nt ct, .slice Ac nc cc] (s21,s22,s23)∧Blk Z Y9.heap.size 65 #[.int .i64 0, .int .i64 0, .int .i64 0, .int .i64 0]∧(Y9.heap.size≠g9∧Y9.heap.size≠g4∧Y9.heap.size≠g8)∧w.heap.size≤Y9.heap.size from by rw [hZ];exact ⟨H9.o.next (((Below.refl _ Y9).alloc lr9 _).drew) lr9,Blk.new Y9 _ _,⟨Nat.ne_of_gt H9.o.b9.lt,Nat.ne_of_gt H9.o.b4.lt,Nat.ne_of_gt H9.o.b8.lt⟩,H9.o.below.size⟩)
      rw [←hZ]
      obtain ⟨ge,hge⟩:=ex9 (Y9.heap.size)
      rw [←hge] at HZ⊢
      clear hZ hge
      refine ⟨fun _=>HZ.o.1,?_⟩
      refine zY rfl ?_
      go_wp2_with fail
      refine (HK.o.2.2.2.2.2.1 Z HZ.o.1.below).mono ?_
      rintro e Wq2 ⟨rfl,hWq⟩
      obtain rfl:Z=Wq2:=hWq.symm
      go_wp2_with fail
      refine ⟨fun _=>HZ.o.1,?_⟩
      refine zY rfl ?_
      go_wp2_with fail
      refine (HK.o.2.2.2.2.2.2 Z HZ.o.1.below).mono ?_
      rintro e Wq3 ⟨rfl,hWq⟩
      obtain rfl:Z=Wq3:=hWq.symm
      go_wp2_with fail
      refine ⟨fun _=>HZ.o.1,?_⟩
      refine yI (v:=(.agg #[.int .i64 ie, .int .i64 je, .int .i64 ig, .int .i64 ih])) rfl (fun _ _ _ h=>h) HZ.o.1 ⟨rfl,fun _ h'=>by simp [go_sem]⟩ ?_
      simp only [List.getElem_toArray,List.getElem_cons_succ,List.getElem_cons_zero,Act.put,List.setIfInBounds_toArray,List.set_cons_succ,List.set_cons_zero]
      refine zY rfl ?_
      have f0:=HZ.o.2.1.frozen 0
      have f1:=HZ.o.2.1.frozen 1
      have f2:=HZ.o.2.1.frozen 2
      have f3:=HZ.o.2.1.frozen 3
      have hlz:=HZ.o.2.1.lt
      have k0:=HZ.o.2.1.cell 0
      have k1:=HZ.o.2.1.cell 1
      have k2:=HZ.o.2.1.cell 2
      have k3:=HZ.o.2.1.cell 3
      go_wp2_with fail
      refine ⟨fun h=>absurd (h.symm.trans (show _=false by kernel_rfl)) (by simp),?_⟩
      refine xI ?_
      go_wp2_with fail
      go_meet
      case rel=>
       refine ⟨ge,rfl,(((HZ.o.2.1.set_ 0 _).set_ 1 _).set_ 2 _).set_ 3 _,HZ.o.2.2,?_⟩
       exact HZ.o.1.far4 HZ.o.2.2.1 HZ.o.2.2.2 _ _ _ _
    ·skip
     go_wp2_with fail
     obtain ⟨Z,hZ⟩:=ex9 ((Y9.alloc (.cells #[.int .i64 0, .int .i64 0, .int .i64 0, .int .i64 0] 65)).drew)
     have HZ:=hide (show RulS w Z w.heap.size g4 g8 g9 #[.slice (some ⟨bp,op,none⟩) np cp, .slice At nt ct, .slice Ac nc cc] (s21,s22,s23)∧Blk Z Y9.heap.size 65 #[.int .i64 0, .int .i64 0, .int .i64 0, .int .i64 0]∧(Y9.heap.size≠g9∧Y9.heap.size≠g4∧Y9.heap.size≠g8)∧w.heap.size≤Y9.heap.size from by rw [hZ];exact ⟨H9.o.next (((Below.refl _ Y9).alloc lr9 _).drew) lr9,Blk.new Y9 _ _,⟨Nat.ne_of_gt H9.o.b9.lt,Nat.ne_of_gt H9.o.b4.lt,Nat.ne_of_gt H9.o.b8.lt⟩,H9.o.below.size⟩)
     rw [←hZ]
     obtain ⟨ge,hge⟩:=ex9 (Y9.heap.size)
     rw [←hge] at HZ⊢
     clear hZ hge
     refine ⟨fun _=>HZ.o.1,?_⟩
     refine zY rfl ?_
     go_wp2_with fail
     refine (HK.o.2.2.2.2.1 Z HZ.o.1.below).mono ?_
     rintro e Wq1 ⟨rfl,hWq⟩
     obtain rfl:Z=Wq1:=hWq.symm
     go_wp2_with fail
     refine ⟨fun _=>HZ.o.1,?_⟩
     refine zY rfl ?_
     go_wp2_with fail
     refine (HK.o.2.2.2.2.2.1 Z HZ.o.1.below).mono ?_
     rintro e Wq2 ⟨rfl,hWq⟩
     obtain rfl:Z=Wq2:=hWq.symm
     go_wp2_with fail
     refine ⟨fun _=>HZ.o.1,?_⟩
     refine zY rfl ?_
     go_wp2_with fail
     refine (HK.o.2.2.2.2.2.2 Z HZ.o.1.below).mono ?_
     rintro e Wq3 ⟨rfl,hWq⟩
     obtain rfl:Z=Wq3:=hWq.symm
     go_wp2_with fail
     refine ⟨fun _=>HZ.o.1,?_⟩
     refine yI (v:=(.agg #[.int .i64 ie, .int .i64 je, .int .i64 ig, .int .i64 ih])) rfl (fun _ _ _ h=>h) HZ.o.1 ⟨rfl,fun _ h'=>by simp [go_sem]⟩ ?_
     simp only [List.getElem_toArray,List.getElem_cons_succ,List.getElem_cons_zero,Act.put,List.setIfInBounds_toArray,List.set_cons_succ,List.set_cons_zero]
     refine zY rfl ?_
     have f0:=HZ.o.2.1.frozen 0
     have f1:=HZ.o.2.1.frozen 1
     have f2:=HZ.o.2.1.frozen 2
     have f3:=HZ.o.2.1.frozen 3
     have hlz:=HZ.o.2.1.lt
     have k0:=HZ.o.2.1.cell 0
     have k1:=HZ.o.2.1.cell 1
     have k2:=HZ.o.2.1.cell 2
     have k3:=HZ.o.2.1.cell 3
     go_wp2_with fail
     refine ⟨fun h=>absurd (h.symm.trans (show _=false by kernel_rfl)) (by simp),?_⟩
     refine xI ?_
     go_wp2_with fail
     go_meet
     case rel=>
      refine ⟨ge,rfl,(((HZ.o.2.1.set_ 0 _).set_ 1 _).set_ 2 _).set_ 3 _,HZ.o.2.2,?_⟩
      exact HZ.o.1.far4 HZ.o.2.2.1 HZ.o.2.2.2 _ _ _ _
   ·skip
    go_wp2_with fail
    obtain ⟨Z,hZ⟩:=ex9 ((Y9.alloc (.cells #[.int .i64 0, .int .i64 0, .int .i64 0, .int .i64 0] 65)).drew)
    have HZ:=hide (show RulS w Z w.heap.size g4 g8 g9 #[.slice (some ⟨bp,op,none⟩) np cp, .slice At nt ct, .slice Ac nc cc] (s21,s22,s23)∧Blk Z Y9.heap.size 65 #[.int .i64 0, .int .i64 0, .int .i64 0, .int .i64 0]∧(Y9.heap.size≠g9∧Y9.heap.size≠g4∧Y9.heap.size≠g8)∧w.heap.size≤Y9.heap.size from by rw [hZ];exact ⟨H9.o.next (((Below.refl _ Y9).alloc lr9 _).drew) lr9,Blk.new Y9 _ _,⟨Nat.ne_of_gt H9.o.b9.lt,Nat.ne_of_gt H9.o.b4.lt,Nat.ne_of_gt H9.o.b8.lt⟩,H9.o.below.size⟩)
    rw [←hZ]
    obtain ⟨ge,hge⟩:=ex9 (Y9.heap.size)
    rw [←hge] at HZ⊢
    clear hZ hge
    refine ⟨fun _=>HZ.o.1,?_⟩
    refine zY rfl ?_
    go_wp2_with fail
    refine (HK.o.2.2.2.1 Z HZ.o.1.below).mono ?_
    rintro e Wq0 ⟨rfl,hWq⟩
    obtain rfl:Z=Wq0:=hWq.symm
    go_wp2_with fail
    refine ⟨fun _=>HZ.o.1,?_⟩
    refine zY rfl ?_
    go_wp2_with fail
    refine (HK.o.2.2.2.2.1 Z HZ.o.1.below).mono ?_
    rintro e Wq1 ⟨rfl,hWq⟩
    obtain rfl:Z=Wq1:=hWq.symm
    go_wp2_with fail
    refine ⟨fun _=>HZ.o.1,?_⟩
    refine zY rfl ?_
    go_wp2_with fail
    refine (HK.o.2.2.2.2.2.1 Z HZ.o.1.below).mono ?_
    rintro e Wq2 ⟨rfl,hWq⟩
    obtain rfl:Z=Wq2:=hWq.symm
    go_wp2_with fail
    refine ⟨fun _=>HZ.o.1,?_⟩
    refine zY rfl ?_
    go_wp2_with fail
    refine (HK.o.2.2.2.2.2.2 Z HZ.o.1.below).mono ?_
    rintro e Wq3 ⟨rfl,hWq⟩
    obtain rfl:Z=Wq3:=hWq.symm
    go_wp2_with fail
    refine ⟨fun _=>HZ.o.1,?_⟩
    refine yI (v:=(.agg #[.int .i64 ie, .int .i64 je, .int .i64 ig, .int .i64 ih])) rfl (fun _ _ _ h=>h) HZ.o.1 ⟨rfl,fun _ h'=>by simp [go_sem]⟩ ?_
    simp only [List.getElem_toArray,List.getElem_cons_succ,List.getElem_cons_zero,Act.put,List.setIfInBounds_toArray,List.set_cons_succ,List.set_cons_zero]
    refine zY rfl ?_
    have f0:=HZ.o.2.1.frozen 0
    have f1:=HZ.o.2.1.frozen 1
    have f2:=HZ.o.2.1.frozen 2
    have f3:=HZ.o.2.1.frozen 3
    have hlz:=HZ.o.2.1.lt
    have k0:=HZ.o.2.1.cell 0
    have k1:=HZ.o.2.1.cell 1
    have k2:=HZ.o.2.1.cell 2
    have k3:=HZ.o.2.1.cell 3
    go_wp2_with fail
    refine ⟨fun h=>absurd (h.symm.trans (show _=false by kernel_rfl)) (by simp),?_⟩
    refine xI ?_
    go_wp2_with fail
    go_meet
    case rel=>
     refine ⟨ge,rfl,(((HZ.o.2.1.set_ 0 _).set_ 1 _).set_ 2 _).set_ 3 _,HZ.o.2.2,?_⟩
     exact HZ.o.1.far4 HZ.o.2.2.1 HZ.o.2.2.2 _ _ _ _
  case rest=>
   obtain ⟨ge,rfl,hbg,hgg,hru⟩:=hcut
   obtain ⟨Z0,rfl⟩:=ex9 (wc)
   have HG:=hide hgg
   have HS0:=hide (ai9 hru hbg)
   clear hru hbg hgg
   go_upto_region 12 with fail
   go_loopw [13] (fun jv wr=>∃j:Nat,j≤4∧jv= .int .i64 j∧RulS w wr w.heap.size g4 g8 g9 #[.slice (some ⟨bp,op,none⟩) np cp, .slice At nt ct, .slice Ac nc cc] (sumW (s21,s22,s23) xl j)∧Blk wr ge 65 #[.int .i64 ie, .int .i64 je, .int .i64 ig, .int .i64 ih]) (fun jv _=>4 - (intOf jv).toNat)
   case atStart=>exact ⟨0,by omega,rfl,HS0.o.1,HS0.o.2⟩
   case round=>
    obtain ⟨j,hj,rfl,hru,hbg⟩:=hrel
    obtain ⟨V,rfl⟩:=ex9 (wr)
    by_cases hj4:j < 4
    ·have j1:(j:Int) < 4:=by omega
     obtain ⟨i,x,hi,hx,hip,hpx⟩:=HL.o.1 j hj4
     have qx:=HL.o.2.1 i x hpx
     have hsg:=HL.o.2.2.1 j x hx
     have hcell:∀W,Blk W ge 65 #[.int .i64 ie, .int .i64 je, .int .i64 ig, .int .i64 ih]→W.cell? ⟨ge,j,none⟩=some (.int .i64 i):=fun W hW=>by
      rw [hW.cell j]
      have hc:j=0∨j=1∨j=2∨j=3:=by omega
      have hil:=HL.o.2.2.2.2.2
      rw [hil] at hi
      rcases hc with rfl | rfl | rfl | rfl <;>simp at hi⊢ <;>omega
     obtain ⟨s,hs⟩:=ex9 (sumW (s21,s22,s23) xl j)
     rw [←hs] at hsg hru
     obtain ⟨m,hm⟩:=ex9 (yB x (-1))
     rw [←hm] at hsg
     obtain ⟨s2,hs2⟩:=ex9 (addP s m)
     rw [←hs2] at hsg
     have c1:=times_any x (-1)
     have c2:=qH s m
     rw [←hm] at c1
     rw [←hs2] at c2
     obtain ⟨s1,sa2,sa3⟩:=s
     obtain ⟨m1,m2,m3⟩:=m
     obtain ⟨n1,n2,n3⟩:=s2
     obtain ⟨x1,x2,x3⟩:=x
     simp only at qx
     have ii:(i:Int) < (np:Int):=by omega
     have HV:=hide (ai9 hru (ai9 hbg (ai9 hsg (ai9 c1 (ai9 c2 (ai9 qx hcell))))))
     clear hru hbg hsg c1 c2 qx hs hm hs2 hcell hi hx hip hpx hj
     go_upto_region 14 with fail
     have HD:=hide (show RulS w V.drew w.heap.size g4 g8 g9 #[.slice (some ⟨bp,op,none⟩) np cp, .slice At nt ct, .slice Ac nc cc] (s1,sa2,sa3)∧Blk V.drew ge 65 #[.int .i64 ie, .int .i64 je, .int .i64 ig, .int .i64 ih] from ⟨HV.o.1.call (Below.refl _ _) lr9,HV.o.2.1⟩)
     refine zB (fun W=>RulS w W w.heap.size g4 g8 g9 #[.slice (some ⟨bp,op,none⟩) np cp, .slice At nt ct, .slice Ac nc cc] (s1,sa2,sa3)∧Blk W ge 65 #[.int .i64 ie, .int .i64 je, .int .i64 ig, .int .i64 ih]) [0,1,2,3,4,5,6,7] [0,1,2,3,4,5,6,7,8,9,10] zL (by kernel_rfl) ?_
     refine zA (v:=vP (s1,sa2,sa3)) rfl rfl (fun _ _ _ h=>h) HD.o ⟨rfl,fun _ h'=>by obtain ⟨a0,a1,a2⟩:=h'.1.b9.three;simp [go_sem,a0,a1,a2]⟩ ?_
     refine zA (v:=(.pointer (some ⟨g4,0,none⟩))) rfl rfl (fun _ _ _ h=>h) HD.o ⟨rfl,fun _ h'=>by simp [go_sem]⟩ ?_
     refine zA (v:=(.slice (some ⟨bp,op,none⟩) np cp)) rfl rfl (fun _ _ _ h=>h) HD.o ⟨rfl,fun _ h'=>by have a0:=h'.1.b4.cell 0;simp at a0;simp [go_sem,a0]⟩ ?_
     refine zA (v:=(.int .i64 j)) rfl rfl (fun _ _ _ h=>h) HD.o ⟨rfl,fun _ h'=>by simp [go_sem]⟩ ?_
     refine zA (v:=(.pointer (some ⟨ge,j,none⟩))) rfl rfl (fun _ _ _ h=>h) HD.o ⟨rfl,fun _ h'=>by simp [go_sem,j1]⟩ ?_
     refine zA (v:=(.int .i64 i)) rfl rfl (fun _ _ _ h=>h) HD.o ⟨rfl,fun _ h'=>by have a0:=HV.o.2.2.2.2.2.2 _ h'.2;simp [go_sem,a0]⟩ ?_
     simp only [List.getElem_toArray,List.getElem_cons_succ,List.getElem_cons_zero,Act.put,List.setIfInBounds_toArray,List.set_cons_succ,List.set_cons_zero]
     refine zA (v:=(.pointer (some ⟨bp,op+i*3,none⟩))) rfl rfl (fun _ _ _ h=>h) HD.o ⟨rfl,fun _ h'=>by simp [go_sem,ii]⟩ ?_
     refine zA (v:=vP (x1,x2,x3)) rfl rfl (fun _ _ _ h=>h) HD.o ⟨rfl,fun _ h'=>by obtain ⟨a0,a1,a2,_⟩:=HV.o.2.2.2.2.2.1 _ h'.1.below;simp [go_sem,a0,a1,a2]⟩ ?_
     simp only [List.getElem_toArray,List.getElem_cons_succ,List.getElem_cons_zero,Act.put,List.setIfInBounds_toArray,List.set_cons_succ,List.set_cons_zero]
     refine zD rfl rfl ?_
     go_wp2_with fail
     refine (HV.o.2.2.2.1 V.drew).mono ?_
     rintro e W1 ⟨rfl,hB⟩
     have hB2:Below V.heap.size V W1:=⟨hB.os,hB.tape,hB.output,hB.size,hB.block⟩
     have H1:=hide (ai9 (HD.o.1.next hB lr9) (HD.o.2.below hB HD.o.2.lt))
     clear hB hB2
     go_wp2_with fail
     refine ⟨fun _=>H1.o,?_⟩
     refine zJ _ [_,_] (by kernel_rfl) rfl ?_
     go_wp2_with (go_at_call 22;refine (HV.o.2.2.2.2.1 W1).mono ?_;rintro e W2 ⟨rfl,hB⟩;have H2:=hide (ai9 (H1.o.1.next hB lr9) (H1.o.2.below hB H1.o.2.lt));clear hB;have f0:=H2.o.1.b9.frozen 0;have f1:=H2.o.1.b9.frozen 1;have f2:=H2.o.1.b9.frozen 2;have hl9:=H2.o.1.b9.lt;have k0:=H2.o.1.b9.cell 0;have k1:=H2.o.1.b9.cell 1;have k2:=H2.o.1.b9.cell 2)
     go_roundw
     case rel=>exact ⟨j+1,by omega,by go_num,by rw [HV.o.2.2.1];exact H2.o.1.store (n1,n2,n3),H2.o.2.far3 HG.o.1.1 _ _ _⟩
     case measure=>(simp [intOf];try omega)
    ·obtain rfl:j=4:=by omega
     have hs4:=HL.o.2.2.2.1
     obtain ⟨s,hs⟩:=ex9 (sumW (s21,s22,s23) xl 4)
     rw [←hs] at hs4 hru
     obtain ⟨s1,sa2,sa3⟩:=s
     simp only [Prod.mk.injEq] at hs4
     obtain ⟨hR1,hR2,hR3⟩:=hs4
     have hwr:=HL.o.2.2.2.2.1
     try dsimp only at hwr
     rw [hR1,hR2,hR3] at hwr
     obtain ⟨w1,w2,w3⟩:=hwr
     have HR:=hide (ai9 hR1 (ai9 hR2 hR3))
     have HW:=hide (ai9 w1 (ai9 w2 w3))
     have HV:=hide hru
     clear hR1 hR2 hR3 w1 w2 w3 hru hs hbg hj
     rw [show (((4:Nat):Int))=4 from rfl]
     go_upto_region 15 with fail
     have t1:V.cell? ⟨g9,0,none⟩=some (.int .i64 s1):=HV.o.b9.cell 0
     have t2:V.cell? ⟨g9,1,none⟩=some (.int .i64 sa2):=HV.o.b9.cell 1
     have t3:V.cell? ⟨g9,2,none⟩=some (.int .i64 sa3):=HV.o.b9.cell 2
     have hz9:=HV.o.b9.lt
     have f0:=HV.o.b8.frozen 0
     have f1:=HV.o.b8.frozen 1
     have f2:=HV.o.b8.frozen 2
     have hl8:=HV.o.b8.lt
     have k0:=HV.o.b8.cell 0
     have k1:=HV.o.b8.cell 1
     have k2:=HV.o.b8.cell 2
     have w1:=HW.o.1
     have w2:=HW.o.2.1
     have w3:=HW.o.2.2
     go_wp2
     refine yX (v:=vP (R1,R2,R3)) (fun W=>Blk W g8 43 #[.int .i64 R1, .int .i64 R2, .int .i64 R3]) ?_ (fun W hW=> ?_) rfl ⟨rfl,?_⟩
     ·rw [HR.o.1,HR.o.2.1,HR.o.2.2];exact HV.o.b8.set3 _ _ _
     ·obtain ⟨a0,a1,a2⟩:=hW.three
      simp [results,Tryz.results95,go_sem,a0,a1,a2]
     ·exact ((HV.o.below.setCell (p:=⟨g8,0,none⟩) HV.o.le.1 _).setCell (p:=⟨g8,1,none⟩) HV.o.le.1 _).setCell (p:=⟨g8,2,none⟩) HV.o.le.1 _
end Go.Proofs.YtmemofonebphfaaGreat
namespace Go.Proofs.YtmemofonebphfaaGreat
open Go.RowKit Go.Sort
structure LevM (w:World) (B:Nat) (Ap At Ac:Option Addr) (L:Lev):Prop where
 p:Sl encP 3 w B Ap L.p
 t:Sl yF 3 w B At L.t
 c:Sl yH 2 w B Ac L.cr
theorem LevM.below {w W:World} {B B':Nat} {Ap At Ac:Option Addr} {L:Lev} (h:LevM w B Ap At Ac L) (hB:Below B w W) (hb:B≤B'):LevM W B' Ap At Ac L:=⟨(h.p.below hB).more hb,(h.t.below hB).more hb,(h.c.below hB).more hb⟩
structure LevB (L:Lev) (co:List Int):Prop where
 p:L.p.length≤1000000
 t:L.t.length≤300000
 c:L.cr.length≤400000
 o:co.length≤1000000
theorem zFS {L:Lev} {co:List Int} {i:Nat} {e:E2} (h:(zH L.t)[i]? =some e):(L.rules co)[i]? =some (jC L.p L.t L.cr co e.1 e.2):=by
 unfold Lev.rules
 rw [List.getElem?_map,h]
 rfl
theorem qW (t:List Pt):(zH t).length≤3*t.length:=by
 unfold zH upE
 rw [yE,←dN]
 exact List.length_filter_le _ _
set_option maxRecDepth 100000 in
set_option maxHeartbeats 32000000 in
theorem zGH (Ap At Ac Ao:Option Addr) (cp ct cc oc:Nat) (L:Lev) (co:List Int) (w:World) (hL:LvR L) (hm:LevM w w.heap.size Ap At Ac L) (ho:Sl xH 1 w w.heap.size Ao co) (hb:LevB L co):
  Calls Tryz.prog 63 #[hLev Ap L.p.length cp At L.t.length ct Ac L.cr.length cc, .slice Ao co.length oc] w fun e w'=>∃v,e= .returned v∧Own encP 3 43 w' w.heap.size v (L.rules co).length (L.rules co)∧Below w.heap.size w w':=by
 have kr:=fun (W:World) (hW:Below w.heap.size w W) (i:Nat) (e:E2) (he:(zH L.t)[i]? =some e)=>by
  have hmem:=List.mem_of_getElem? he
  have hr:=hL.rng (a:=e.1) (b:=e.2) (zZ.1 hmem).1
  have e1:((e.1.toNat:Nat):Int)=e.1:=by omega
  have e2:((e.2.toNat:Nat):Int)=e.2:=by omega
  have hm2:=hm.below hW hW.size
  have k:=zI3 Ap At Ac Ao cp ct cc oc L co e.1.toNat e.2.toNat W hL (by rw [e1,e2];exact hmem) hm2.p hm2.t hm2.c ((ho.below hW).more hW.size) hb.p (by have:=hb.t;omega) (by have:=hb.c;omega) hb.o
  rw [e1,e2] at k
  exact k
 have ke:=fun (W:World) (hW:Below w.heap.size w W)=>uQ At ct L.t W (hm.below hW hW.size).t (by have:=hb.t;omega)
 obtain ⟨N,hN⟩:=ex9 ((zH L.t).length)
 have hRl:(L.rules co).length=N:=by rw [kZ,hN]
 have hNl:N≤900000:=by have:=qW L.t;have:=hb.t;omega
 have hat:=fun i e (h:(zH L.t)[i]? =some e)=>zFS (co:=co) h
 obtain ⟨E,hE⟩:=ex9 (zH L.t)
 obtain ⟨RL,hRL⟩:=ex9 (L.rules co)
 rw [←hE] at hN
 rw [←hRL] at hRl⊢
 simp only [←hE,←hRL] at kr ke hat
 rw [←hN] at ke
 obtain ⟨np,hnp⟩:=ex9 (L.p.length)
 obtain ⟨nt,hnt⟩:=ex9 (L.t.length)
 obtain ⟨nc,hnc⟩:=ex9 (L.cr.length)
 obtain ⟨no,hno⟩:=ex9 (co.length)
 rw [hRl,←hnp,←hnt,←hnc,←hno]
 simp only [←hnp,←hnt,←hnc,←hno] at kr ke
 obtain ⟨rf,hrf⟩:∃f:E2→Pt,f=fun e=>jC L.p L.t L.cr co e.1 e.2:=⟨_,rfl⟩
 have hrf':∀e:E2,jC L.p L.t L.cr co e.1 e.2=rf e:=fun e=>by rw [hrf]
 simp only [hrf'] at kr hat
 have HK:=hide (ai9 kr (ai9 ke (ai9 hat (ai9 hN hRl))))
 clear kr ke hat hN hRl hE hRL hnp hnt hnc hno hrf hrf' hL hm ho hb
 go_enter Tryz.func63,Tryz.ntmps63
 go_upto_region 1 with fail
 obtain ⟨g,hg⟩:=ex9 (w.heap.size)
 obtain ⟨X0,hX⟩:=ex9 (w.alloc (.cells #[.slice Ap np cp, .slice At nt ct, .slice Ac nc cc] 108))
 rw [←hX,←hg]
 have hb0:Blk X0 g 108 #[.slice Ap np cp, .slice At nt ct, .slice Ac nc cc]:=by rw [hX,hg];exact Blk.new _ _ _
 have hBX:Below w.heap.size w X0:=by rw [hX];exact (Below.refl _ w).alloc lr9 _
 have z1:X0.cell? ⟨g,1,none⟩=some (.slice At nt ct):=hb0.cell 1
 have hgl:=hb0.lt
 have H0:=hide (ai9 hb0 hBX)
 clear hb0 hBX hX hg
 go_upto_region 4 with (go_at_call 26;refine (HK.o.2.1 X0 H0.o.2).mono ?_;rintro e X ⟨A1,c1,rfl,hs1,hB1⟩;have H1:=hide (ai9 hs1 (ai9 (H0.o.1.below hB1 H0.o.1.lt) (H0.o.2.trans (hB1.mono H0.o.2.size))));clear hs1 hB1)
 clear z1 hgl
 go_loopw [6,7] (fun ov iv wr=>∃i:Nat,i≤N∧iv= .int .i64 i∧Own encP 3 43 wr X.heap.size ov i (RL.take i)∧Below X.heap.size X wr) (fun _ iv _=>N - (intOf iv).toNat)
 case atStart=>exact ⟨0,by omega,rfl,by rw [List.take_zero];exact Own.nil,Below.refl _ X⟩
 case round=>
  obtain ⟨i,hi,rfl,hO,hB⟩:=hrel
  obtain ⟨V,rfl⟩:=ex9 (wr)
  obtain ⟨Ax,cx,rfl⟩:=hO.form
  by_cases hlt:i < N
  ·have i1:(i:Int) < (N:Int):=by omega
   obtain ⟨e,he⟩:∃e,E[i]? =some e:=⟨_,List.getElem?_eq_getElem (by rw [←HK.o.2.2.2.1];exact hlt)⟩
   obtain ⟨be,oe,hA,hbe,y0,y1⟩:=H1.o.1.e2 he
   subst hA
   have htk:RL.take (i+1)=RL.take i++ [rf e]:=by rw [List.take_add_one,HK.o.2.2.1 i e he];rfl
   have kr:=fun (W:World) (hW:Below w.heap.size w W)=>HK.o.1 W hW i e he
   have y0:=(hB.cell (p:=⟨be,oe+i*2,none⟩) hbe).trans y0
   have y1:=(hB.cell (p:=⟨be,oe+i*2+1,none⟩) hbe).trans y1
   have hbV:be < V.heap.size:=Nat.lt_of_lt_of_le hbe hB.size
   have hbb:=H1.o.2.1.below hB H1.o.2.1.lt
   obtain ⟨z0,z1,z2⟩:=hbb.three
   have hgl:=hbb.lt
   have hzV:=hB.size
   have hBw:=H1.o.2.2.trans (hB.mono H1.o.2.2.size)
   obtain ⟨e1,e2⟩:=e
   obtain ⟨r,hr⟩:=ex9 (rf (e1,e2))
   rw [←hr] at htk kr
   obtain ⟨r1,r2,r3⟩:=r
   simp only at y0 y1 kr
   have HV:=hide (ai9 hO (ai9 hB (ai9 htk (ai9 kr hBw))))
   have HM:=hide (ai9 z0 (ai9 z1 (ai9 z2 (ai9 y0 (ai9 y1 (ai9 hgl hbV))))))
   clear hO hB htk kr hBw hr he hbe hbb z0 z1 z2 y0 y1 hgl hbV
   go_upto_region 6 with fail
   have HSB:=hide (show Below V.heap.size V V.drew from (Below.refl _ V).drew)
   refine zB (fun W=>Below V.heap.size V W) [0,1,2,3,4,5,6,7,8,9,10,11,12] [0,1,2,3,4,5,6,7,8,9,10,11,12,13,14,15,16] zL (by kernel_rfl) ?_
   refine zA (v:=(.slice Ax i cx)) rfl rfl (fun _ _ _ h=>h) HSB.o ⟨rfl,fun _ _=>by simp [go_sem]⟩ ?_
   refine zA (v:=(hLev Ap np cp At nt ct Ac nc cc)) rfl rfl (fun _ _ _ h=>h) HSB.o ⟨rfl,fun _ h'=>by have a0:=(h'.cell (p:=⟨g,0,none⟩) HM.o.2.2.2.2.2.1).trans HM.o.1;have a1:=(h'.cell (p:=⟨g,1,none⟩) HM.o.2.2.2.2.2.1).trans HM.o.2.1;have a2:=(h'.cell (p:=⟨g,2,none⟩) HM.o.2.2.2.2.2.1).trans HM.o.2.2.1;simp [go_sem,a0,a1,a2]⟩ ?_
   refine zA (v:=(.slice Ao no oc)) rfl rfl (fun _ _ _ h=>h) HSB.o ⟨rfl,fun _ _=>by simp [go_sem]⟩ ?_
   refine zA (v:=(.slice (some ⟨be,oe,none⟩) N c1)) rfl rfl (fun _ _ _ h=>h) HSB.o ⟨rfl,fun _ _=>by simp [go_sem]⟩ ?_
   refine zA (v:=(.int .i64 i)) rfl rfl (fun _ _ _ h=>h) HSB.o ⟨rfl,fun _ _=>by simp [go_sem]⟩ ?_
   refine zA (v:=(.pointer (some ⟨be,oe+i*2,none⟩))) rfl rfl (fun _ _ _ h=>h) HSB.o ⟨rfl,fun _ _=>by simp [go_sem,i1]⟩ ?_
   simp only [List.getElem_toArray,List.getElem_cons_succ,List.getElem_cons_zero,Act.put,List.setIfInBounds_toArray,List.set_cons_succ,List.set_cons_zero]
   refine zA (v:=(.pointer (some ⟨be,oe+i*2,none⟩))) rfl rfl (fun _ _ _ h=>h) HSB.o ⟨rfl,fun _ _=>by simp [go_sem]⟩ ?_
   refine zA (v:=(.int .i64 e1)) rfl rfl (fun _ _ _ h=>h) HSB.o ⟨rfl,fun _ h'=>by have a0:=(h'.cell (p:=⟨be,oe+i*2,none⟩) HM.o.2.2.2.2.2.2).trans HM.o.2.2.2.1;simp [go_sem,a0]⟩ ?_
   refine zA (v:=(.slice (some ⟨be,oe,none⟩) N c1)) rfl rfl (fun _ _ _ h=>h) HSB.o ⟨rfl,fun _ _=>by simp [go_sem]⟩ ?_
   refine zA (v:=(.int .i64 i)) rfl rfl (fun _ _ _ h=>h) HSB.o ⟨rfl,fun _ _=>by simp [go_sem]⟩ ?_
   refine zA (v:=(.pointer (some ⟨be,oe+i*2,none⟩))) rfl rfl (fun _ _ _ h=>h) HSB.o ⟨rfl,fun _ _=>by simp [go_sem,i1]⟩ ?_
   refine zA (v:=(.pointer (some ⟨be,oe+i*2+1,none⟩))) rfl rfl (fun _ _ _ h=>h) HSB.o ⟨rfl,fun _ _=>by simp [go_sem]⟩ ?_
   simp only [List.getElem_toArray,List.getElem_cons_succ,List.getElem_cons_zero,Act.put,List.setIfInBounds_toArray,List.set_cons_succ,List.set_cons_zero]
   refine zA (v:=(.int .i64 e2)) rfl rfl (fun _ _ _ h=>h) HSB.o ⟨rfl,fun _ h'=>by have a0:=(h'.cell (p:=⟨be,oe+i*2+1,none⟩) HM.o.2.2.2.2.2.2).trans HM.o.2.2.2.2.1;simp [go_sem,a0]⟩ ?_
   simp only [List.getElem_toArray,List.getElem_cons_succ,List.getElem_cons_zero,Act.put,List.setIfInBounds_toArray,List.set_cons_succ,List.set_cons_zero]
   refine zD rfl rfl ?_
   go_wp2_with fail
   refine (HV.o.2.2.2.1 V.drew HV.o.2.2.2.2.drew).mono ?_
   rintro e W1 ⟨rfl,hB1⟩
   have H2:=hide (HSB.o.trans hB1)
   clear hB1
   go_wp2_with fail
   refine ⟨fun _=>H2.o,?_⟩
   have hz1:=H2.o.size
   refine zD rfl rfl ?_
   go_wp2_with fail
   refine ⟨fun _=>H2.o.alloc hz1 _,?_⟩
   refine zJ _ [_,_] (by kernel_rfl) rfl ?_
   refine zC rfl _ _ _ rfl Tryz.underlying28 bC rfl (by omega) zO yQ rfl ((HV.o.1.below H2.o lr9).alloc _) W1.heap.size 1 ((r1,r2,r3):Pt) rfl (Blk.new _ _ _) (by unfold maxLen;omega) (by omega) (by simp;omega) ?_
   intro g5 cap5 w5 hown5 hg5 hB5 hat5 hgb5 hlt5
   have H5:=hide (ai9 hown5 (((HV.o.2.1.trans (H2.o.mono HV.o.2.1.size)).alloc (by have:=HV.o.2.1.size;omega) _).trans hB5))
   clear hown5 hg5 hB5 hat5 hgb5 hlt5
   go_wp2_with fail
   go_roundw
   case rel=>exact ⟨i+1,by omega,by go_num,by rw [HV.o.2.2.1];exact H5.o.1,H5.o.2⟩
   case measure=>(simp [intOf];try omega)
  ·obtain rfl:i=N:=by omega
   have i1:¬(i:Int) < (i:Int):=by omega
   have ht:RL.take i=RL:=by rw [←HK.o.2.2.2.2];exact List.take_length
   rw [ht] at hO
   have HF:=hide (ai9 hO (H1.o.2.2.trans (hB.mono H1.o.2.2.size)))
   clear hO hB ht
   go_wp2
   go_ret
   exact ⟨_,rfl,HF.o.1.base_le H1.o.2.2.size,HF.o.2⟩
end Go.Proofs.YtmemofonebphfaaGreat
namespace Go.Proofs.YtmemofonebphfaaGreat
open Go.RowKit Go.Sort
theorem bI {α:Type} {enc:α→List Value} {k:Nat} {e:TypeId} {w:World} {base g:Nat} (hg:g=w.heap.size) (hb:base≤w.heap.size):Own enc k e (w.alloc (.cells #[] e)) base (.slice (some ⟨g,0,none⟩) 0 0) 0 ([]:List α):=by
 subst hg
 exact ⟨rfl,by simp, .inr ⟨w.heap.size,0,#[],rfl,hb,heap_alloc_new w _,Nat.le_refl _,by decide,by simp,by simp⟩⟩
theorem fE:(Tryz.prog.info? 35).map (fun i=>(i.zero,i.size,i.bytes))=some (some (.agg #[.int .i64 0, .int .i64 0, .int .i64 0]),3,24):=by kernel_rfl
structure StpS (w Y:World) (n g2 g4 g6:Nat) (lev:Array Value) (vp vt vc:Value):Prop where
 below:Below n w Y
 b2:Blk Y g2 108 lev
 b4:Blk Y g4 108 #[.slice none 0 0, .slice none 0 0, .slice none 0 0]
 b6:Blk Y g6 108 #[vp,vt,vc]
 le:n≤g2∧n≤g4∧n≤g6
 ne:g2≠g6∧g4≠g6∧g2≠g4
section
variable {w Y W:World} {n g2 g4 g6 B:Nat} {lev:Array Value} {vp vt vc:Value}
theorem StpS.next (h:StpS w Y n g2 g4 g6 lev vp vt vc) (hB:Below B Y W) (hb:Y.heap.size≤B):StpS w W n g2 g4 g6 lev vp vt vc:=by
 have h1:=h.le.1
 have h2:=h.b2.lt
 exact ⟨h.below.trans (hB.mono (by omega)),h.b2.below hB (Nat.lt_of_lt_of_le h.b2.lt hb),h.b4.below hB (Nat.lt_of_lt_of_le h.b4.lt hb),h.b6.below hB (Nat.lt_of_lt_of_le h.b6.lt hb),h.le,h.ne⟩
theorem StpS.grown {row:Option Nat} (h:StpS w Y n g2 g4 g6 lev vp vt vc) (hB:Below n Y W) (hg:Y.grownBy W row) (hr:∀r,row=some r→(r≠g2∧r≠g4)∧r≠g6):StpS w W n g2 g4 g6 lev vp vt vc:=by
 refine ⟨h.below.trans hB,h.b2.grown hg (fun e=>(hr _ e.symm).1.1 rfl),h.b4.grown hg (fun e=>(hr _ e.symm).1.2 rfl),h.b6.grown hg (fun e=>(hr _ e.symm).2 rfl),h.le,h.ne⟩
theorem StpS.setT (h:StpS w Y n g2 g4 g6 lev vp vt vc) (v:Value):StpS w (Y.setCell ⟨g6,1,none⟩ v) n g2 g4 g6 lev vp v vc:=
 ⟨h.below.setCell (p:=⟨g6,1,none⟩) h.le.2.2 _,h.b2.far (p:=⟨g6,1,none⟩) h.ne.1 _,h.b4.far (p:=⟨g6,1,none⟩) h.ne.2.1 _,h.b6.set_ 1 v,h.le,h.ne⟩
theorem StpS.setC (h:StpS w Y n g2 g4 g6 lev vp vt vc) (v:Value):StpS w (Y.setCell ⟨g6,2,none⟩ v) n g2 g4 g6 lev vp vt v:=
 ⟨h.below.setCell (p:=⟨g6,2,none⟩) h.le.2.2 _,h.b2.far (p:=⟨g6,2,none⟩) h.ne.1 _,h.b4.far (p:=⟨g6,2,none⟩) h.ne.2.1 _,h.b6.set_ 2 v,h.le,h.ne⟩
end
theorem zG (W:World) (b i:Nat) (v:Value):W.grownBy (W.setCell ⟨b,i,none⟩ v) (some b):=
 ⟨rfl,rfl,rfl,(KeepsWalks.setCell W _ v).size,fun k _ hne=>Below.heap_setCell W ⟨b,i,none⟩ v k (fun e=>hne (by rw [e]))⟩
theorem Sl.far9 {α:Type} {enc:α→List Value} {k:Nat} {w:World} {B B' g:Nat} {A:Option Addr} {xs:List α} {t:TypeId} {cs:Array Value} (h:Sl enc k w B A xs) (hb:Blk w g t cs) (hne:∀x∈xs,∀u∈enc x,∀off:Nat,cs[off]? ≠some u) (i:Nat) (v:Value) (hB:B≤B'):Sl enc k (w.setCell ⟨g,i,none⟩ v) B' A xs:=by
 rcases h with h | ⟨b,o,ha,hlt,hc⟩
 ·exact .inl h
 ·refine .inr ⟨b,o,ha,by omega,fun j x hx q u hu=> ?_⟩
  have h0:=hc j x hx q u hu
  by_cases e:b=g
  ·subst e
   rw [hb.cell] at h0
   exact absurd h0 (hne x (List.mem_of_getElem? hx) u (List.mem_of_getElem? hu) _)
  ·have hbk:=Below.heap_setCell w ⟨g,i,none⟩ v b e
   unfold World.cell? at h0⊢
   rw [hbk]
   exact h0
theorem vV {A B C:Option Addr} {a b c a' b' c':Nat} (x:E2):∀u∈yH x,∀off:Nat,#[Value.slice A a a',Value.slice B b b',Value.slice C c c'][off]? ≠some u:=fun u hu off=>by
 have hc:off=0∨off=1∨off=2∨3≤off:=by omega
 simp only [yH,List.mem_cons,List.not_mem_nil,or_false] at hu
 rcases hc with rfl | rfl | rfl | h3
 ·rcases hu with rfl | rfl <;>simp
 ·rcases hu with rfl | rfl <;>simp
 ·rcases hu with rfl | rfl <;>simp
 ·rw [Array.getElem?_eq_none (by simpa using h3)];simp
theorem zF {α:Type} {enc:α→List Value} {k:Nat} {e t:TypeId} {w:World} {base n gf:Nat} {v:Value} {xs:List α} {cs:Array Value} (hb:Blk w gf t cs) (ho:Own enc k e w base v n xs) (hte:e≠t):some gf≠v.ownBlock:=fun e'=>by
 obtain ⟨cs',hc⟩:=ho.cells gf e'.symm
 have hb':w.heap[gf]? =some (.cells cs t (0,0)):=hb
 rw [hc] at hb'
 cases hb'
 exact hte rfl
theorem Own.far9 {α:Type} {enc:α→List Value} {k:Nat} {e t:TypeId} {w:World} {base n g:Nat} {v:Value} {xs:List α} {cs:Array Value} (h:Own enc k e w base v n xs) (hb:Blk w g t cs) (hte:e≠t) (x y z:Value):Own enc k e (((w.setCell ⟨g,0,none⟩ x).setCell ⟨g,1,none⟩ y).setCell ⟨g,2,none⟩ z) base v n xs:=
 h.kept (((zG w g 0 x).trans (zG _ g 1 y)).trans (zG _ g 2 z)) (.inr (zF hb h hte).symm)
theorem zBB {m:Int→Int→Int} {t:List Pt} {i:Nat} {x:Pt} (h:t[i]? =some x):stepT m (t.take (i+1))=stepT m (t.take i)++four m x:=by
 unfold stepT
 rw [List.take_add_one,h,Option.toList_some,List.flatMap_append,List.flatMap_singleton]
theorem zAB {L:Lev} {i:Nat} {e:E2} (h:L.cr[i]? =some e):((L.cr.take (i+1)).flatMap fun e=> [(e.1,midE L.t L.p.length e.1 e.2),(e.2,midE L.t L.p.length e.1 e.2)])=((L.cr.take i).flatMap fun e=> [(e.1,midE L.t L.p.length e.1 e.2),(e.2,midE L.t L.p.length e.1 e.2)])++ [(e.1,midE L.t L.p.length e.1 e.2),(e.2,midE L.t L.p.length e.1 e.2)]:=by
 rw [List.take_add_one,h,Option.toList_some,List.flatMap_append,List.flatMap_singleton]
theorem gZ (L:Lev):∀i,((L.cr.take i).flatMap fun e=> [(e.1,midE L.t L.p.length e.1 e.2),(e.2,midE L.t L.p.length e.1 e.2)]).length≤2*i
 | 0=>by simp
 | i+1=>by
  cases h:L.cr[i]? with
  | none=>
   have:L.cr.take (i+1)=L.cr.take i:=by rw [List.take_add_one,h];simp
   rw [this]
   have:=gZ L i
   omega
  | some e=>
   rw [zAB h,List.length_append]
   have:=gZ L i
   simp only [List.length_cons,List.length_nil]
   omega
set_option maxRecDepth 100000 in set_option maxHeartbeats 64000000 in
theorem zHW (Ap At Ac Aa:Option Addr) (cp ct cc ca:Nat) (L:Lev) (added:List Pt) (co:List Int) (w:World) (hL:LvR L) (hm:LevM w w.heap.size Ap At Ac L) (ha:Sl encP 3 w w.heap.size Aa added) (hal:added.length=(zH L.t).length) (hb:LevB L co):
  Calls Tryz.prog 65 #[hLev Ap L.p.length cp At L.t.length ct Ac L.cr.length cc, .slice Aa added.length ca] w fun e w'=>∃Ap' cp' At' ct' Ac' cc',e= .returned (hLev Ap' (L.step added).p.length cp' At' (L.step added).t.length ct' Ac' (L.step added).cr.length cc')∧Own encP 3 43 w' w.heap.size (.slice Ap' (L.step added).p.length cp') (L.step added).p.length (L.step added).p∧Sl yF 3 w' w'.heap.size At' (L.step added).t∧Sl yH 2 w' w'.heap.size Ac' (L.step added).cr∧Below w.heap.size w w':=by
 obtain ⟨np,hnp⟩:=ex9 (L.p.length)
 obtain ⟨nt,hnt⟩:=ex9 (L.t.length)
 obtain ⟨nc,hnc⟩:=ex9 (L.cr.length)
 obtain ⟨N,hN⟩:=ex9 ((zH L.t).length)
 have hpl:np≤1000000:=by rw [hnp];exact hb.p
 have htl:nt≤300000:=by rw [hnt];exact hb.t
 have hcl:nc≤400000:=by rw [hnc];exact hb.c
 have hNl:N≤900000:=by have:=qW L.t;omega
 have ke:=fun (W:World) (hW:Below w.heap.size w W)=>uQ At ct L.t W (hm.below hW hW.size).t (by omega)
 have hfz:∀i:Int,0≤i→i < L.p.length→fits i:=fun i h1 h2=>by unfold fits;omega
 have kf:=fun (A:Option Addr) (c:Nat) (a b:Int) (W:World) (hs:Sl yH 2 W W.heap.size A (zH L.t)) (hd:(a,b)∈dirE L.t)=>zCA A c (zH L.t) a b W hs (by omega) (fun e he=>by
  have:=hL.rng (a:=e.1) (b:=e.2) (zZ.1 he).1
  exact ⟨hfz _ this.1.1 this.1.2,hfz _ this.2.1 this.2.2⟩) (vS (e:=(a,b)) ⟨hfz _ (hL.rng hd).1.1 (hL.rng hd).1.2,hfz _ (hL.rng hd).2.1 (hL.rng hd).2.2⟩) (qL L.t) (qK hL.cls.nodup)
 have kp:=fun (a b:Int) (hd:(a,b)∈dirE L.t)=>wI (hL.cls.nrm hd)
 have kset:=fun (A:Option Addr) (c:Nat) (l:List E2) (W:World) (hs:Sl yH 2 W W.heap.size A l) (hl:l.length≤1000000) (hf:∀e∈l,yG e)=>set_any A c l W hs hl hf
 have hin:∀(i:Nat) (x:Pt),L.t[i]? =some x→(x.1,x.2.1)∈dirE L.t∧(x.2.1,x.2.2)∈dirE L.t∧(x.2.2,x.1)∈dirE L.t:=fun i x hx=>by
  have:=List.mem_of_getElem? hx
  exact ⟨zX.2 ⟨x,this,by simp [de3]⟩,zX.2 ⟨x,this,by simp [de3]⟩,zX.2 ⟨x,this,by simp [de3]⟩⟩
 have hcd:∀(i:Nat) (e:E2),L.cr[i]? =some e→(e.1,e.2)∈dirE L.t:=fun i e he=>(hL.crd (a:=e.1) (b:=e.2) (List.mem_of_getElem? he)).1
 have hst:(L.step added).p=L.p++added∧(L.step added).t=stepT (midE L.t L.p.length) L.t∧(L.step added).cr=setE L.halved:=⟨rfl,rfl,rfl⟩
 have hf2:∀e∈L.halved,yG e:=fun e he=>by
  obtain ⟨f,hf,he⟩:=List.mem_flatMap.1 he
  have hd:=(hL.crd (a:=f.1) (b:=f.2) hf).1
  have hr:=hL.rng hd
  obtain ⟨k,hk1,hk2⟩:=kp _ _ hd
  have hkl:=(List.getElem?_eq_some_iff.1 hk2).1
  have hmid:midE L.t L.p.length f.1 f.2=L.p.length+k:=by unfold midE;rw [hk1]
  rw [hmid,List.mem_cons,List.mem_singleton] at he
  rcases he with rfl | rfl
  ·constructor <;>unfold fits <;>dsimp only <;>omega
  ·constructor <;>unfold fits <;>dsimp only <;>omega
 have hhl:L.halved.length≤2*nc:=by
  have:=gZ L nc
  rw [hnc,List.take_length] at this
  rw [hnc]
  exact this
 have hpos:∀(a b:Int) (k:Nat),posE (zH L.t) a b=k→midE L.t L.p.length a b=L.p.length+k:=fun a b k h=>by unfold midE;rw [h]
 rw [hst.1,hst.2.1,hst.2.2,List.length_append,hal,zDJ,←hnp,←hnt,←hnc,←hN]
 obtain ⟨E,hE⟩:=ex9 (zH L.t)
 rw [←hE] at hN
 rw [←hE,←hN] at hal
 simp only [←hE] at ke kf kp hpos
 rw [←hN] at kf
 simp only [←hN,←hnt] at ke
 rw [←hnp] at hpos
 obtain ⟨md,hmd⟩:=ex9 (midE L.t np)
 have hmd':midE L.t L.p.length=md:=by rw [hmd,hnp]
 rw [←hmd] at hpos
 rw [←hmd]
 have hht:∀(i:Nat) (e:E2),L.cr[i]? =some e→((L.cr.take (i+1)).flatMap fun e=> [(e.1,md e.1 e.2),(e.2,md e.1 e.2)])=((L.cr.take i).flatMap fun e=> [(e.1,md e.1 e.2),(e.2,md e.1 e.2)])++ [(e.1,md e.1 e.2),(e.2,md e.1 e.2)]:=fun i e he=>by rw [←hmd'];exact zAB he
 have hhe:((L.cr.take nc).flatMap fun e=> [(e.1,md e.1 e.2),(e.2,md e.1 e.2)])=L.halved:=by rw [hnc,List.take_length,←hmd'];rfl
 obtain ⟨SL,hSL⟩:=ex9 (setE L.halved)
 have hSl:SL.length≤2*nc:=by
  rw [hSL,zF6]
  have:=uO (L.halved.map nrm1)
  rw [List.length_map] at this
  omega
 rw [←hSL]
 have HK:=hide (ai9 ke (ai9 kf (ai9 kp (ai9 kset (ai9 hin (ai9 hcd (ai9 hf2 (ai9 hpos (ai9 hht (ai9 hhe (ai9 hhl (ai9 hSL hE))))))))))))
 have HM:=hide (ai9 hm (ai9 ha (ai9 hal (ai9 hnp (ai9 hnt (ai9 hnc hN))))))
 have HSl:=hide hSl
 clear ke kf kp kset hin hcd hf2 hpos hht hhe hhl hSL hSl hE hm ha hal hnp hnt hnc hN hmd hmd' hst hL hfz hb
 go_enter Tryz.func65,Tryz.ntmps65
 go_upto_region 1 with fail
 obtain ⟨g2,hg2⟩:=ex9 (w.heap.size)
 obtain ⟨g4,hg4⟩:=ex9 (w.heap.size+1)
 obtain ⟨X0,hX⟩:=ex9 ((w.alloc (.cells #[.slice Ap np cp, .slice At nt ct, .slice Ac nc cc] 108)).alloc (.cells #[.slice none 0 0, .slice none 0 0, .slice none 0 0] 108))
 rw [←hX,←hg4,←hg2]
 have hb2:Blk X0 g2 108 #[.slice Ap np cp, .slice At nt ct, .slice Ac nc cc]:=by rw [hX,hg2];exact (Blk.new _ _ _).alloc _
 have hb4:Blk X0 g4 108 #[.slice none 0 0, .slice none 0 0, .slice none 0 0]:=by rw [hX,hg4];exact Blk.new' _ _ _ _ (by simp)
 have hBX:Below w.heap.size w X0:=by rw [hX];exact ((Below.refl _ w).alloc lr9 _).alloc (by simp) _
 have z1:X0.cell? ⟨g2,1,none⟩=some (.slice At nt ct):=hb2.cell 1
 have hgl:=hb2.lt
 have hgs:w.heap.size≤g2∧w.heap.size≤g4∧g2≠g4:=by omega
 have H0:=hide (ai9 hb2 (ai9 hb4 (ai9 hBX hgs)))
 clear hb2 hb4 hBX hX hg2 hg4 hgs
 go_upto_region 2 with (go_at_call 26;refine (HK.o.1 X0 H0.o.2.2.1).mono ?_;rintro e X ⟨A1,ec,rfl,hs1,hB1⟩;have H1:=hide (ai9 hs1 (ai9 (H0.o.1.below hB1 H0.o.1.lt) (ai9 (H0.o.2.1.below hB1 H0.o.2.1.lt) (H0.o.2.2.1.trans (hB1.mono H0.o.2.2.1.size)))));clear hs1 hB1)
 clear z1 hgl
 have z0:X.cell? ⟨g2,0,none⟩=some (.slice Ap np cp):=H1.o.2.1.cell 0
 have hgl:=H1.o.2.1.lt
 go_upto_region 3 with (first
  | (at_builtin;refine zI rfl _ _ _ rfl Tryz.underlying28 bC rfl (by omega) zO yQ rfl H5.o.1 Aa ca w.heap.size added (by rw [HM.o.2.2.1];rfl) (HM.o.2.1.below (H1.o.2.2.2.trans ((H5.o.2).mono H1.o.2.2.2.size))) (by rw [HM.o.2.2.1];unfold maxLen;omega) (by rw [HM.o.2.2.1];omega) (H5.o.2.size) ?_;intro v6 w6 ho6 hg6 hB6 hat6;rw [HM.o.2.2.1] at ho6;obtain ⟨A6,c6,rfl⟩:=ho6.form;have H6:=hide (ai9 ho6 (H5.o.2.trans hB6));clear ho6 hg6 hB6 hat6)
  | (at_builtin;refine zI rfl _ _ _ rfl Tryz.underlying28 bC rfl (by omega) zO yQ rfl (bI (w:=X) rfl lr9) Ap cp w.heap.size L.p (by rw [←HM.o.2.2.2.1];rfl) ((HM.o.1.p.below H1.o.2.2.2).below (Below.mono ((Below.refl X.heap.size X).alloc lr9 _) H1.o.2.2.2.size)) (by rw [←HM.o.2.2.2.1];unfold maxLen;omega) (by rw [←HM.o.2.2.2.1];omega) (by simp) ?_;intro v5 w5 ho5 hg5 hB5 hat5;rw [←HM.o.2.2.2.1,List.nil_append,Nat.zero_add] at ho5;obtain ⟨A5,c5,rfl⟩:=ho5.form;have H5:=hide (ai9 ho5 (((Below.refl X.heap.size X).alloc lr9 _).trans hB5));clear ho5 hg5 hB5 hat5))
 clear z0 hgl
 obtain ⟨g6,hg6⟩:=ex9 (w6.heap.size)
 obtain ⟨Y,hY⟩:=ex9 (w6.alloc (.cells #[.slice A6 (np+N) c6, .slice none 0 0, .slice none 0 0] 108))
 have hBY:Below X.heap.size X Y:=by rw [hY];exact H6.o.2.alloc H6.o.2.size _
 have hst:StpS w Y w.heap.size g2 g4 g6 #[.slice Ap np cp, .slice At nt ct, .slice Ac nc cc] (.slice A6 (np+N) c6) (.slice none 0 0) (.slice none 0 0):=by
  have h1:=H1.o.2.1.lt
  have h2:=H1.o.2.2.1.lt
  have h3:=H6.o.2.size
  have h4:=H0.o.2.2.2
  refine ⟨H1.o.2.2.2.trans (hBY.mono H1.o.2.2.2.size),H1.o.2.1.below hBY H1.o.2.1.lt,H1.o.2.2.1.below hBY H1.o.2.2.1.lt,?_,?_,?_⟩
  ·rw [hY,hg6];exact Blk.new _ _ _
  ·have:=H1.o.2.2.2.size;omega
  ·omega
 have hop:Own encP 3 43 Y X.heap.size (.slice A6 (np+N) c6) (np+N) (L.p++added):=by rw [hY];exact H6.o.1.alloc _
 rw [←hY,←hg6]
 obtain ⟨PL,hPL⟩:=ex9 (L.p++added)
 rw [←hPL] at hop
 have HG6:=hide (show X.heap.size≤g6 from by have:=H6.o.2.size;omega)
 have HY:=hide (ai9 hst (ai9 hop (ai9 hBY hPL)))
 have z0:Y.cell? ⟨g2,0,none⟩=some (.slice Ap np cp):=hst.b2.cell 0
 have hgl:=hst.b2.lt
 clear hst hop hBY hPL hY hg6
 go_upto_region 5 with fail
 clear z0 hgl
 go_loopw [8] (fun iv wr=>∃(i:Nat) (vt:Value),i≤nt∧iv= .int .i64 i∧StpS w wr w.heap.size g2 g4 g6 #[.slice Ap np cp, .slice At nt ct, .slice Ac nc cc] (.slice A6 (np+N) c6) vt (.slice none 0 0)∧Own yF 3 35 wr Y.heap.size vt (4*i) (stepT md (L.t.take i))∧Own encP 3 43 wr X.heap.size (.slice A6 (np+N) c6) (np+N) PL∧Below X.heap.size X wr∧Y.heap.size≤wr.heap.size) (fun iv _=>nt - (intOf iv).toNat)
 case atStart=>exact ⟨0,_,by omega,rfl,HY.o.1,by rw [List.take_zero];exact Own.nil,HY.o.2.1,HY.o.2.2.1,Nat.le_refl _⟩
 case round=>
  obtain ⟨i,vt,hi,rfl,hst,hot,hop,hBX,hzY⟩:=hrel
  obtain ⟨V,rfl⟩:=ex9 (wr)
  obtain ⟨A7,c7,rfl⟩:=hot.form
  have z1:V.cell? ⟨g2,1,none⟩=some (.slice At nt ct):=hst.b2.cell 1
  have hg2V:=hst.b2.lt
  by_cases hlt:i < nt
  ·have i1:(i:Int) < (nt:Int):=by omega
   obtain ⟨x,hx⟩:∃x,L.t[i]? =some x:=⟨_,List.getElem?_eq_getElem (by rw [←HM.o.2.2.2.2.1];exact hlt)⟩
   obtain ⟨bb,o,hA,hbb,c0,c1,c2⟩:=HM.o.1.t.n3 hx
   subst hA
   obtain ⟨d1,d2,d3⟩:=HK.o.2.2.2.2.1 i x hx
   have htk:=zBB (m:=md) hx
   obtain ⟨x1,x2,x3⟩:=x
   simp only at c0 c1 c2 d1 d2 d3
   have c0:=(hst.below.cell (p:=⟨bb,o+i*3,none⟩) hbb).trans c0
   have c1:=(hst.below.cell (p:=⟨bb,o+i*3+1,none⟩) hbb).trans c1
   have c2:=(hst.below.cell (p:=⟨bb,o+i*3+2,none⟩) hbb).trans c2
   have hbV:bb < V.heap.size:=Nat.lt_of_lt_of_le hbb hst.below.size
   have kp1:=HK.o.2.2.1 _ _ d1
   have kp2:=HK.o.2.2.1 _ _ d2
   have kp3:=HK.o.2.2.1 _ _ d3
   obtain ⟨k1,hk1,hk1'⟩:=kp1
   obtain ⟨k2,hk2,hk2'⟩:=kp2
   obtain ⟨k3,hk3,hk3'⟩:=kp3
   have hEN:E.length=N:=HM.o.2.2.2.2.2.2.symm
   have b1:k1 < N:=by rw [←hEN];exact (List.getElem?_eq_some_iff.1 hk1').1
   have b2:k2 < N:=by rw [←hEN];exact (List.getElem?_eq_some_iff.1 hk2').1
   have b3:k3 < N:=by rw [←hEN];exact (List.getElem?_eq_some_iff.1 hk3').1
   have hfo:four md (x1,x2,x3)= [(x1,(np:Int)+(k1:Int),(np:Int)+(k3:Int)),((np:Int)+(k1:Int),x2,(np:Int)+(k2:Int)),((np:Int)+(k3:Int),(np:Int)+(k2:Int),x3),((np:Int)+(k1:Int),(np:Int)+(k2:Int),(np:Int)+(k3:Int))]:=by
    unfold four
    dsimp only
    rw [HK.o.2.2.2.2.2.2.2.1 _ _ _ hk1,HK.o.2.2.2.2.2.2.2.1 _ _ _ hk2,HK.o.2.2.2.2.2.2.2.1 _ _ _ hk3]
   rw [hfo] at htk
   have f1:=fun (W:World) (hW:Below X.heap.size X W)=>HK.o.2.1 A1 ec x1 x2 W ((H1.o.1.below hW).more hW.size) d1
   have f2:=fun (W:World) (hW:Below X.heap.size X W)=>HK.o.2.1 A1 ec x2 x3 W ((H1.o.1.below hW).more hW.size) d2
   have f3:=fun (W:World) (hW:Below X.heap.size X W)=>HK.o.2.1 A1 ec x3 x1 W ((H1.o.1.below hW).more hW.size) d3
   rw [hk1] at f1
   rw [hk2] at f2
   rw [hk3] at f3
   have HV:=hide (ai9 hst (ai9 hot (ai9 hop (ai9 hBX (ai9 htk (ai9 f1 (ai9 f2 f3)))))))
   clear hst hot hop hBX htk f1 f2 f3 hx d1 d2 d3 hk1 hk2 hk3 hk1' hk2' hk3' hEN hfo hbb
   go_upto_region 11 with (go_at_call 93;refine (HV.o.2.2.2.2.2.1 V HV.o.2.2.2.1).mono ?_;rintro e W1 ⟨rfl,hB⟩;have J1:=hide (ai9 (HV.o.1.next hB lr9) (ai9 (HV.o.2.1.below hB lr9) (ai9 (HV.o.2.2.1.below hB lr9) (ai9 (HV.o.2.2.2.1.trans (hB.mono HV.o.2.2.2.1.size)) (Nat.le_trans hzY hB.size)))));clear hB)
   clear z1 c0 c1 c2 hg2V hbV
   go_upto_region 12 with (go_at_call 93;refine (HV.o.2.2.2.2.2.2.1 W1 J1.o.2.2.2.1).mono ?_;rintro e W2 ⟨rfl,hB⟩;have J2:=hide (ai9 (J1.o.1.next hB lr9) (ai9 (J1.o.2.1.below hB lr9) (ai9 (J1.o.2.2.1.below hB lr9) (ai9 (J1.o.2.2.2.1.trans (hB.mono J1.o.2.2.2.1.size)) (Nat.le_trans J1.o.2.2.2.2 hB.size)))));clear hB)
   go_upto_region 13 with (go_at_call 93;refine (HV.o.2.2.2.2.2.2.2 W2 J2.o.2.2.2.1).mono ?_;rintro e W3 ⟨rfl,hB⟩;have J3:=hide (ai9 (J2.o.1.next hB lr9) (ai9 (J2.o.2.1.below hB lr9) (ai9 (J2.o.2.2.1.below hB lr9) (ai9 (J2.o.2.2.2.1.trans (hB.mono J2.o.2.2.2.1.size)) (Nat.le_trans J2.o.2.2.2.2 hB.size)))));clear hB)
   have z6:W3.cell? ⟨g6,1,none⟩=some (.slice A7 (4*i) c7):=J3.o.1.b6.cell 1
   have hg6V:=J3.o.1.b6.lt
   have hz3:=J3.o.2.2.2.2
   obtain ⟨ys,hys⟩:∃ys:List Pt,ys= [(x1,(np:Int)+(k1:Int),(np:Int)+(k3:Int)),((np:Int)+(k1:Int),x2,(np:Int)+(k2:Int)),((np:Int)+(k3:Int),(np:Int)+(k2:Int),x3),((np:Int)+(k1:Int),(np:Int)+(k2:Int),(np:Int)+(k3:Int))]:=⟨_,rfl⟩
   have hyl:ys.length=4:=by rw [hys];rfl
   have hya:(ys.flatMap yF).toArray=#[.int .i64 x1, .int .i64 ((np:Int)+(k1:Int)), .int .i64 ((np:Int)+(k3:Int)), .int .i64 ((np:Int)+(k1:Int)), .int .i64 x2, .int .i64 ((np:Int)+(k2:Int)), .int .i64 ((np:Int)+(k3:Int)), .int .i64 ((np:Int)+(k2:Int)), .int .i64 x3, .int .i64 ((np:Int)+(k1:Int)), .int .i64 ((np:Int)+(k2:Int)), .int .i64 ((np:Int)+(k3:Int))]:=by rw [hys];rfl
   have hol:=jK zS 35 W3 ys lr9 (by rw [hyl];omega)
   rw [hya] at hol
   have HW:=hide (ai9 (hol.sl zS lr9) (ai9 hyl (show stepT md (L.t.take (i+1))=stepT md (L.t.take i)++ys from by rw [HV.o.2.2.2.2.1,hys])))
   clear hol hya hys hyl
   go_wp2_with (at_builtin;refine zI rfl _ _ _ rfl Tryz.underlying22 fE rfl (by omega) zS vX rfl (J3.o.2.1.alloc _) (some ⟨W3.heap.size,0,none⟩) 4 _ ys (by rw [HW.o.2.1];rfl) HW.o.1 (by rw [HW.o.2.1];unfold maxLen;omega) (by rw [HW.o.2.1];omega) (by simp;omega) ?_;intro v5 w5 ho5 hg5 hB5 hat5;rw [HW.o.2.1,←HW.o.2.2,show 4*i+4=4*(i+1) by omega] at ho5;obtain ⟨Av,cv,rfl⟩:=ho5.form;have hst5:=(J3.o.1.next ((Below.refl W3.heap.size W3).alloc lr9 (.cells #[.int .i64 x1, .int .i64 ((np:Int)+(k1:Int)), .int .i64 ((np:Int)+(k3:Int)), .int .i64 ((np:Int)+(k1:Int)), .int .i64 x2, .int .i64 ((np:Int)+(k2:Int)), .int .i64 ((np:Int)+(k3:Int)), .int .i64 ((np:Int)+(k2:Int)), .int .i64 x3, .int .i64 ((np:Int)+(k1:Int)), .int .i64 ((np:Int)+(k2:Int)), .int .i64 ((np:Int)+(k3:Int))] 35)) lr9).grown (hB5.mono (HY.o.1.below.size)) hg5 (fun r hr=>by have h1:=(J3.o.2.1.blk r hr).1;have h2:=HY.o.1.b2.lt;have h3:=HY.o.1.b4.lt;have h4:=HY.o.1.b6.lt;omega);have hop5:=(J3.o.2.2.1.alloc (.cells #[.int .i64 x1, .int .i64 ((np:Int)+(k1:Int)), .int .i64 ((np:Int)+(k3:Int)), .int .i64 ((np:Int)+(k1:Int)), .int .i64 x2, .int .i64 ((np:Int)+(k2:Int)), .int .i64 ((np:Int)+(k3:Int)), .int .i64 ((np:Int)+(k2:Int)), .int .i64 x3, .int .i64 ((np:Int)+(k1:Int)), .int .i64 ((np:Int)+(k2:Int)), .int .i64 ((np:Int)+(k3:Int))] 35)).step hg5 (zQ ((J3.o.2.1.base_le HY.o.2.2.1.size).alloc _) (show (35:TypeId)≠43 by decide));have hB9:Below X.heap.size X w5:=(J3.o.2.2.2.1.alloc J3.o.2.2.2.1.size (.cells #[.int .i64 x1, .int .i64 ((np:Int)+(k1:Int)), .int .i64 ((np:Int)+(k3:Int)), .int .i64 ((np:Int)+(k1:Int)), .int .i64 x2, .int .i64 ((np:Int)+(k2:Int)), .int .i64 ((np:Int)+(k3:Int)), .int .i64 ((np:Int)+(k2:Int)), .int .i64 x3, .int .i64 ((np:Int)+(k1:Int)), .int .i64 ((np:Int)+(k2:Int)), .int .i64 ((np:Int)+(k3:Int))] 35)).trans (hB5.mono HY.o.2.2.1.size);have hz5:Y.heap.size≤w5.heap.size:=Nat.le_trans (Nat.le_trans hz3 (by simp)) hB5.size;have f61:=hst5.b6.frozen 1;have f6l:=hst5.b6.lt;have f6c:=hst5.b6.cell 1;have H5:=hide (ai9 hst5 (ai9 ho5 (ai9 hop5 (ai9 hB9 hz5))));clear ho5 hg5 hB5 hat5 hst5 hop5 hB9 hz5)
   go_roundw
   case rel=>
    have h5:=H5.o.1
    exact ⟨i+1,_,by omega,by go_num,h5.setT _,H5.o.2.1.kept (zG w5 g6 1 _) (.inr (zF h5.b6 H5.o.2.1 (by decide)).symm),H5.o.2.2.1.kept (zG w5 g6 1 _) (.inr (zF h5.b6 H5.o.2.2.1 (by decide)).symm),H5.o.2.2.2.1.setCell (p:=⟨g6,1,none⟩) (by have:=HG6.o;omega) _,by simp;exact H5.o.2.2.2.2⟩
   case measure=>(simp [intOf];try omega)
  ·obtain rfl:i=nt:=by omega
   have i1:¬(i:Int) < (i:Int):=by omega
   have ht:stepT md (L.t.take i)=stepT md L.t:=by rw [HM.o.2.2.2.2.1,List.take_length]
   rw [ht] at hot
   have z2:V.cell? ⟨g2,2,none⟩=some (.slice Ac nc cc):=hst.b2.cell 2
   have HV:=hide (ai9 hst (ai9 hot (ai9 hop hBX)))
   clear hst hot hop hBX ht z2
   go_upto_region 16 with fail
   clear z1 hg2V
   go_loopw [15,16] (fun cv iv wz=>∃(k m:Nat),k≤nc∧iv= .int .i64 k∧Own yH 2 56 wz V.heap.size cv m ((L.cr.take k).flatMap fun e=> [(e.1,md e.1 e.2),(e.2,md e.1 e.2)])∧m≤2*k∧Below V.heap.size V wz) (fun _ iv _=>nc - (intOf iv).toNat)
   case atStart=>exact ⟨0,0,by omega,rfl,by rw [List.take_zero];exact Own.nil,by omega,Below.refl _ V⟩
   case round=>
    obtain ⟨k,m,hk,rfl,hoc,hm,hB⟩:=hrel
    obtain ⟨U,rfl⟩:=ex9 (wr)
    obtain ⟨A8,c8,rfl⟩:=hoc.form
    have hst:=HV.o.1.next hB lr9
    have z2:U.cell? ⟨g2,2,none⟩=some (.slice Ac nc cc):=hst.b2.cell 2
    have hg2U:=hst.b2.lt
    have hzU:=hB.size
    by_cases hkn:k < nc
    ·have j1:(k:Int) < (nc:Int):=by omega
     obtain ⟨x,hx⟩:∃x,L.cr[k]? =some x:=⟨_,List.getElem?_eq_getElem (by rw [←HM.o.2.2.2.2.2.1];exact hkn)⟩
     obtain ⟨bb,o,hA,hbb,c0,c1⟩:=HM.o.1.c.e2 hx
     subst hA
     have hd:=HK.o.2.2.2.2.2.1 k x hx
     have htk:=HK.o.2.2.2.2.2.2.2.2.1 k x hx
     obtain ⟨x1,x2⟩:=x
     simp only at c0 c1 hd
     have c0:=(hst.below.cell (p:=⟨bb,o+k*2,none⟩) hbb).trans c0
     have c1:=(hst.below.cell (p:=⟨bb,o+k*2+1,none⟩) hbb).trans c1
     have hbU:bb < U.heap.size:=Nat.lt_of_lt_of_le hbb hst.below.size
     obtain ⟨k1,hk1,hk1'⟩:=HK.o.2.2.1 _ _ hd
     have b1:k1 < N:=by rw [HM.o.2.2.2.2.2.2];exact (List.getElem?_eq_some_iff.1 hk1').1
     have hBX:Below X.heap.size X U:=HV.o.2.2.2.trans (hB.mono HV.o.2.2.2.size)
     have f1:=HK.o.2.1 A1 ec x1 x2 U ((H1.o.1.below hBX).more hBX.size) hd
     rw [hk1] at f1
     dsimp only at htk
     rw [HK.o.2.2.2.2.2.2.2.1 _ _ _ hk1] at htk
     have HU:=hide (ai9 hoc (ai9 hB (ai9 htk f1)))
     clear hoc hB htk f1 hx hd hk1 hk1' hBX hst hbb
     go_upto_region 21 with (go_at_call 93;refine HU.o.2.2.2.mono ?_;rintro e W1 ⟨rfl,hB⟩;have J1:=hide (ai9 (HU.o.1.below hB lr9) (HU.o.2.1.trans (hB.mono HU.o.2.1.size)));clear hB)
     clear z2 c0 c1 hg2U hbU
     have hzW:=J1.o.2.size
     obtain ⟨ys,hys⟩:∃ys:List E2,ys= [(x1,(np:Int)+(k1:Int)),(x2,(np:Int)+(k1:Int))]:=⟨_,rfl⟩
     have hyl:ys.length=2:=by rw [hys];rfl
     have hya:(ys.flatMap yH).toArray=#[.int .i64 x1, .int .i64 ((np:Int)+(k1:Int)), .int .i64 x2, .int .i64 ((np:Int)+(k1:Int))]:=by rw [hys];rfl
     have hol:=jK zU 56 W1 ys lr9 (by rw [hyl];omega)
     rw [hya] at hol
     have HW:=hide (ai9 (hol.sl zU lr9) (ai9 hyl (show ((L.cr.take (k+1)).flatMap fun e=> [(e.1,md e.1 e.2),(e.2,md e.1 e.2)])=((L.cr.take k).flatMap fun e=> [(e.1,md e.1 e.2),(e.2,md e.1 e.2)])++ys from by rw [HU.o.2.2.1,hys])))
     clear hol hya hys hyl
     go_wp2_with (at_builtin;refine zI rfl _ _ _ rfl Tryz.underlying29 jB rfl (by omega) zU yO rfl (J1.o.1.alloc _) (some ⟨W1.heap.size,0,none⟩) 2 _ ys (by rw [HW.o.2.1];rfl) HW.o.1 (by rw [HW.o.2.1];unfold maxLen;omega) (by rw [HW.o.2.1];omega) (by simp;omega) ?_;intro v5 w5 ho5 hg5 hB5 hat5;rw [HW.o.2.1,←HW.o.2.2] at ho5;have H5:=hide (ai9 ho5 ((J1.o.2.alloc hzW _).trans hB5));clear ho5 hg5 hB5 hat5)
     go_roundw
     case rel=>exact ⟨k+1,m+2,by omega,by go_num,H5.o.1,by omega,H5.o.2⟩
     case measure=>(simp [intOf];try omega)
    ·obtain rfl:k=nc:=by omega
     have j1:¬(k:Int) < (k:Int):=by omega
     rw [HK.o.2.2.2.2.2.2.2.2.2.1] at hoc
     have hml:=hoc.1
     have ks:=HK.o.2.2.2.1 A8 c8 L.halved U (hoc.sl zU lr9) (by have:=HK.o.2.2.2.2.2.2.2.2.2.2.1;omega) HK.o.2.2.2.2.2.2.1
     rw [←hml,←HK.o.2.2.2.2.2.2.2.2.2.2.2.1] at ks
     have hot:=HV.o.2.1.below hB lr9
     have hop:=HV.o.2.2.1.below hB lr9
     have HU:=hide (ai9 hst (ai9 hot (ai9 hop ks)))
     clear hst hot hop ks hoc hB hml
     go_upto_region 23 with (go_at_call 94;refine HU.o.2.2.2.mono ?_;rintro e W4 ⟨A9,c9,rfl,hs9,hB⟩;have J4:=hide (ai9 (HU.o.1.next hB lr9) (ai9 (HU.o.2.1.below hB lr9) (ai9 (HU.o.2.2.1.below hB lr9) hs9)));clear hB hs9;have f62:=J4.o.1.b6.frozen 2;have f6l:=J4.o.1.b6.lt;have f6c:=J4.o.1.b6.cell 2)
     clear z2 hg2U
     obtain ⟨Z,hZ⟩:=ex9 (W4.setCell ⟨g6,2,none⟩ (.slice A9 SL.length c9))
     have hstZ:StpS w Z w.heap.size g2 g4 g6 #[.slice Ap np cp, .slice At i ct, .slice Ac k cc] (.slice A6 (np+N) c6) (.slice A7 (4*i) c7) (.slice A9 SL.length c9):=by rw [hZ];exact J4.o.1.setC _
     have hgz:=zG W4 g6 2 (.slice A9 SL.length c9)
     rw [←hZ] at hgz⊢
     have hotZ:=J4.o.2.1.kept hgz (.inr (zF J4.o.1.b6 J4.o.2.1 (by decide)).symm)
     have hopZ:=J4.o.2.2.1.kept hgz (.inr (zF J4.o.1.b6 J4.o.2.2.1 (by decide)).symm)
     have hscZ:Sl yH 2 Z Z.heap.size A9 SL:=by
      rw [hZ]
      exact Sl.far9 J4.o.2.2.2 J4.o.1.b6 (fun x _=>vV x) 2 _ (by simp)
     have HZ:=hide (ai9 hstZ (ai9 hotZ (ai9 hopZ hscZ)))
     have k0:=hstZ.b6.cell 0
     have k1:=hstZ.b6.cell 1
     have k2:=hstZ.b6.cell 2
     have kl:=hstZ.b6.lt
     have f0:=hstZ.b4.frozen 0
     have f1:=hstZ.b4.frozen 1
     have f2:=hstZ.b4.frozen 2
     have l4:=hstZ.b4.lt
     have q0:=hstZ.b4.cell 0
     have q1:=hstZ.b4.cell 1
     have q2:=hstZ.b4.cell 2
     clear hstZ hotZ hopZ hscZ hgz hZ f62 f6l f6c
     go_wp2
     have HS5:=hide HZ.o.1
     refine yX (v:=hLev A6 (np+N) c6 A7 (4*i) c7 A9 SL.length c9) (fun W=>Blk W g4 108 #[.slice A6 (np+N) c6, .slice A7 (4*i) c7, .slice A9 SL.length c9]) ?_ (fun W hW=> ?_) rfl ?_
     ·exact HZ.o.1.b4.set3 _ _ _
     ·obtain ⟨a0,a1,a2⟩:=hW.three
      simp [results,Tryz.results65,go_sem,a0,a1,a2]
     ·refine ⟨_,_,_,_,_,_,rfl,?_,(HZ.o.2.1.far9 HZ.o.1.b4 (by decide) _ _ _).sl zS lr9,?_,((HZ.o.1.below.setCell (p:=⟨g4,0,none⟩) HZ.o.1.le.2.1 _).setCell (p:=⟨g4,1,none⟩) HZ.o.1.le.2.1 _).setCell (p:=⟨g4,2,none⟩) HZ.o.1.le.2.1 _⟩
      ·have h:=(HZ.o.2.2.1.far9 HZ.o.1.b4 (by decide) (.slice A6 (np+N) c6) (.slice A7 (4*i) c7) (.slice A9 SL.length c9)).base_le H1.o.2.2.2.size
       rw [HY.o.2.2.2] at h
       exact h
      ·have h1:=Sl.far9 HZ.o.2.2.2 HZ.o.1.b4 (fun x _=>vV x) 0 (.slice A6 (np+N) c6) lr9
       have h2:=Sl.far9 h1 (HZ.o.1.b4.set_ 0 (.slice A6 (np+N) c6)) (fun x _=>vV x) 1 (.slice A7 (4*i) c7) lr9
       have h3:=Sl.far9 h2 ((HZ.o.1.b4.set_ 0 (.slice A6 (np+N) c6)).set_ 1 (.slice A7 (4*i) c7)) (fun x _=>vV x) 2 (.slice A9 SL.length c9) lr9
       exact h3.more (by simp)
end Go.Proofs.YtmemofonebphfaaGreat
namespace Go.Proofs.YtmemofonebphfaaGreat
open Go.RowKit Go.Sort
abbrev cCtl (Ap:Option Addr) (np cp:Nat) (At:Option Addr) (nt ct:Nat) (Ac:Option Addr) (nc cc:Nat) (Ao:Option Addr) (no oc:Nat) (st:Int) (Ad:Option Addr) (nd dc:Nat):Array Value:=
 #[.slice Ap np cp, .slice At nt ct, .slice Ac nc cc, .slice Ao no oc, .int .i64 st, .slice Ad nd dc]
abbrev vCtl (Ap:Option Addr) (np cp:Nat) (At:Option Addr) (nt ct:Nat) (Ac:Option Addr) (nc cc:Nat) (Ao:Option Addr) (no oc:Nat) (st:Int) (Ad:Option Addr) (nd dc:Nat):Value:=
 .agg #[.slice Ap np cp, .slice At nt ct, .slice Ac nc cc, .slice Ao no oc, .int .i64 st, .slice Ad nd dc]
structure CtlM (w:World) (B:Nat) (Ap At Ac Ao Ad:Option Addr) (c:Ctl):Prop where
 p:Sl encP 3 w B Ap c.points
 t:Sl yF 3 w B At c.tris
 cr:Sl yH 2 w B Ac c.creases
 o:Sl xH 1 w B Ao c.corners
 d:∃ss:List Hdr,Sl encS 1 w B Ad ss∧ss.length=c.details.length∧∀(i:Nat) (d:List Pt),c.details[i]? =some d→∃A k,ss[i]? =some (A,d.length,k)∧Sl encP 3 w B A d
theorem CtlM.below {w W:World} {B B':Nat} {Ap At Ac Ao Ad:Option Addr} {c:Ctl} (h:CtlM w B Ap At Ac Ao Ad c) (hB:Below B w W) (hb:B≤B'):CtlM W B' Ap At Ac Ao Ad c:=by
 refine ⟨(h.p.below hB).more hb,(h.t.below hB).more hb,(h.cr.below hB).more hb,(h.o.below hB).more hb,?_⟩
 obtain ⟨ss,h1,h2,h3⟩:=h.d
 refine ⟨ss,(h1.below hB).more hb,h2,fun i d hd=> ?_⟩
 obtain ⟨A,k,h4,h5⟩:=h3 i d hd
 exact ⟨A,k,h4,(h5.below hB).more hb⟩
structure CtlB (c:Ctl):Prop where
 p:c.points.length≤100000
 t:c.tris.length≤100000
 cr:c.creases.length≤100000
 o:c.corners.length≤100000
 d:c.details.length≤100000
 dd:∀d∈c.details,d.length≤1000000
theorem Blk.six9 {w:World} {g:Nat} {t:TypeId} {a b c d e f:Value} (h:Blk w g t #[a,b,c,d,e,f]):w.cell? ⟨g,0,none⟩=some a∧w.cell? ⟨g,1,none⟩=some b∧w.cell? ⟨g,2,none⟩=some c∧w.cell? ⟨g,3,none⟩=some d∧w.cell? ⟨g,4,none⟩=some e∧w.cell? ⟨g,5,none⟩=some f:=
 ⟨h.cell 0,h.cell 1,h.cell 2,h.cell 3,h.cell 4,h.cell 5⟩
theorem qY {n:Nat} {w W:World} (h:Below n w.drew W):Below n w W:=⟨h.os,h.tape,h.output,h.size,h.block⟩
def okI (np:Nat) (n:Int):Bool:=decide (0≤n) && decide (n < (np:Int))
set_option maxRecDepth 100000 in
set_option maxHeartbeats 8000000 in
theorem gG (Ap At Ac Ao Ad:Option Addr) (np cp nt ct nc cc no oc nd dc:Nat) (st n:Int) (w:World):
  Calls Tryz.prog 118 #[vCtl Ap np cp At nt ct Ac nc cc Ao no oc st Ad nd dc, .int .i64 n] w fun e w'=>e= .returned (.bool (okI np n))∧Below w.heap.size w w':=by
 go_enter Tryz.func118,Tryz.ntmps118
 go_upto_region 1 with fail
 obtain ⟨g,hg⟩:=ex9 (w.heap.size)
 obtain ⟨X,hX⟩:=ex9 (w.alloc (.cells (cCtl Ap np cp At nt ct Ac nc cc Ao no oc st Ad nd dc) 32))
 rw [←hX,←hg]
 have hb:Blk X g 32 (cCtl Ap np cp At nt ct Ac nc cc Ao no oc st Ad nd dc):=by rw [hX,hg];exact Blk.new _ _ _
 have hB:Below w.heap.size w X:=by rw [hX];exact (Below.refl _ w).alloc lr9 _
 have z0:X.cell? ⟨g,0,none⟩=some (.slice Ap np cp):=hb.cell 0
 have hl:=hb.lt
 have HB:=hide hB
 clear hB hb hX hg
 by_cases h1:0≤n
 ·by_cases h2:n < (np:Int)
  ·have HR:=hide (show okI np n=true by simp [okI,h1,h2])
   go_wp2
   go_ret
   exact ⟨by rw [HR.o];rfl,HB.o⟩
  ·have HR:=hide (show okI np n=false by simp [okI,h2])
   go_wp2
   go_ret
   exact ⟨by rw [HR.o];rfl,HB.o⟩
 ·have HR:=hide (show okI np n=false by simp [okI,h1])
  go_wp2
  go_ret
  exact ⟨by rw [HR.o];rfl,HB.o⟩
theorem bJ {np:Nat} {n:Int}:okI np n=true ↔ 0≤n∧n < (np:Int):=by simp [okI]
theorem zB0 {np:Nat} {l:List Int} {i:Int} (hi:i∈l) (h:okI np i=false):outE np l=true:=by
 refine List.any_eq_true.2 ⟨i,hi,?_⟩
 have:¬(0≤i∧i < (np:Int)):=fun h'=>by rw [bJ.2 h'] at h;cases h
 simp only [decide_eq_true_eq]
 omega
theorem kE {np:Nat} {l:List Int} (h:∀i∈l,okI np i=true):outE np l=false:=by
 refine List.any_eq_false.2 fun i hi=> ?_
 have:=bJ.1 (h i hi)
 simp only [decide_eq_true_eq]
 omega
set_option maxRecDepth 100000 in
set_option maxHeartbeats 32000000 in
theorem zED (Ap At Ac Ao Ad:Option Addr) (cp ct cc oc nd dc:Nat) (c:Ctl) (w:World) (hm:CtlM w w.heap.size Ap At Ac Ao Ad c) (hb:CtlB c):
  Calls Tryz.prog 92 #[vCtl Ap c.points.length cp At c.tris.length ct Ac c.creases.length cc Ao c.corners.length oc c.steps Ad nd dc] w fun e w'=>e= .returned (.bool (!qA c))∧Below w.heap.size w w':=by
 obtain ⟨np,hnp⟩:=ex9 (c.points.length)
 obtain ⟨nt,hnt⟩:=ex9 (c.tris.length)
 obtain ⟨nc,hnc⟩:=ex9 (c.creases.length)
 obtain ⟨no,hno⟩:=ex9 (c.corners.length)
 obtain ⟨st,hst⟩:=ex9 (c.steps)
 obtain ⟨R,hR⟩:=ex9 ( !qA c)
 have hpl:np≤100000:=by rw [hnp];exact hb.p
 have htl:nt≤100000:=by rw [hnt];exact hb.t
 have hcl:nc≤100000:=by rw [hnc];exact hb.cr
 have hol:no≤100000:=by rw [hno];exact hb.o
 have b1:∀(x:Pt) (i:Int),x∈c.tris→i∈xK x→okI np i=false→R=false:=fun x i hx hi h=>by
  rw [hR]
  unfold qA
  rw [zB0 (l:=yL c.tris) (List.mem_flatMap.2 ⟨x,hx,hi⟩) (by rw [←hnp];exact h)]
  rfl
 have b2:∀(x:E2) (i:Int),x∈c.creases→i∈ [x.1,x.2]→okI np i=false→R=false:=fun x i hx hi h=>by
  rw [hR]
  unfold qA
  rw [zB0 (l:=c.creases.flatMap fun e=> [e.1,e.2]) (List.mem_flatMap.2 ⟨x,hx,hi⟩) (by rw [←hnp];exact h)]
  simp
 have b3:∀(i:Int),i∈c.corners→okI np i=false→R=false:=fun i hi h=>by
  rw [hR]
  unfold qA
  rw [zB0 hi (by rw [←hnp];exact h)]
  simp
 have b4:(∀x∈c.tris,∀i∈xK x,okI np i=true)→(∀x∈c.creases,∀i∈ [x.1,x.2],okI np i=true)→(∀i∈c.corners,okI np i=true)→R=true:=fun h1 h2 h3=>by
  rw [hR]
  unfold qA
  rw [←hnp,kE (l:=yL c.tris) fun i hi=>by
   obtain ⟨x,hx,hi⟩:=List.mem_flatMap.1 hi
   exact h1 x hx i hi,kE (l:=c.creases.flatMap fun e=> [e.1,e.2]) fun i hi=>by
   obtain ⟨x,hx,hi⟩:=List.mem_flatMap.1 hi
   exact h2 x hx i hi,kE h3]
  rfl
 rw [←hR,←hnp,←hnt,←hnc,←hno,←hst]
 have HS:=hide (ai9 hm (ai9 hnt (ai9 hnc hno)))
 have HB:=hide (ai9 b1 (ai9 b2 (ai9 b3 b4)))
 clear hm hb hnp hnt hnc hno hst hR b1 b2 b3 b4
 go_enter Tryz.func92,Tryz.ntmps92
 go_upto_region 1 with fail
 obtain ⟨g,hg⟩:=ex9 (w.heap.size)
 obtain ⟨X,hX⟩:=ex9 (w.alloc (.cells (cCtl Ap np cp At nt ct Ac nc cc Ao no oc st Ad nd dc) 32))
 rw [←hX,←hg]
 have hbX:Blk X g 32 (cCtl Ap np cp At nt ct Ac nc cc Ao no oc st Ad nd dc):=by rw [hX,hg];exact Blk.new _ _ _
 have hBX:Below w.heap.size w X:=by rw [hX];exact (Below.refl _ w).alloc lr9 _
 have HX:=hide (ai9 hbX hBX)
 clear hbX hBX hX hg
 go_upto_region 2 with fail
 go_loopw [3] (fun iv wr=>∃i:Nat,i≤nt∧iv= .int .i64 i∧(∀k x,k < i→c.tris[k]? =some x→∀n∈xK x,okI np n=true)∧Below X.heap.size X wr) (fun iv _=>nt - (intOf iv).toNat)
 case atStart=>exact ⟨0,by omega,rfl,fun k x hk=>absurd hk (by omega),Below.refl _ X⟩
 case round=>
  obtain ⟨i,hi,rfl,hok,hB⟩:=hrel
  obtain ⟨V,rfl⟩:=ex9 (wr)
  have hbV:=HX.o.1.below hB HX.o.1.lt
  obtain ⟨z0,z1,z2,z3,z4,z5⟩:=hbV.six9
  have hgl:=hbV.lt
  by_cases hlt:i < nt
  ·have i1:(i:Int) < (nt:Int):=by omega
   obtain ⟨x,hx⟩:∃x,c.tris[i]? =some x:=⟨_,List.getElem?_eq_getElem (by rw [←HS.o.2.1];exact hlt)⟩
   obtain ⟨bb,o,hA,hbb,hcell⟩:=HS.o.1.t.at hx
   subst hA
   have HC:=hide (ai9 hok (ai9 hx (ai9 hbb hcell)))
   have HV:=hide hB
   clear hok hx hbb hcell hbV hB
   go_upto_region 5 with fail
   clear z0 z1 z2 z3 z4 z5 hgl
   go_loopw [4] (fun jv wz=>∃j:Nat,j≤3∧jv= .int .i64 j∧(∀k n,k < j→(xK x)[k]? =some n→okI np n=true)∧Below X.heap.size X wz) (fun jv _=>3 - (intOf jv).toNat)
   case atStart=>exact ⟨0,by omega,rfl,fun k x hk=>absurd hk (by omega),HV.o⟩
   case round=>
    obtain ⟨j,hj,rfl,hok,hB⟩:=hrel
    obtain ⟨U,rfl⟩:=ex9 (wr)
    have hbU:=HX.o.1.below hB HX.o.1.lt
    obtain ⟨z0,z1,z2,z3,z4,z5⟩:=hbU.six9
    have hgl:=hbU.lt
    by_cases hj3:j < 3
    ·have j1:(j:Int) < 3:=by omega
     obtain ⟨n,hn⟩:∃n,(xK x)[j]? =some n:=⟨_,List.getElem?_eq_getElem hj3⟩
     have c0:U.cell? ⟨bb,o+i*3+j,none⟩=some (.int .i64 n):=by
      have h:=HC.o.2.2.2 j (.int .i64 n) (by
       have hc:j=0∨j=1∨j=2:=by omega
       rcases hc with rfl | rfl | rfl <;>simp [xK] at hn <;>subst hn <;>rfl)
      exact ((HX.o.2.trans (hB.mono HX.o.2.size)).cell (p:=⟨bb,_,none⟩) HC.o.2.2.1).trans h
     have hbU:bb < U.heap.size:=Nat.lt_of_lt_of_le HC.o.2.2.1 (HX.o.2.trans (hB.mono HX.o.2.size)).size
     have ki:=gG Ap (some ⟨bb,o,none⟩) Ac Ao Ad np cp nt ct nc cc no oc nd dc st n U.drew
     cases hk:okI np n with
     | true=>
      rw [hk] at ki
      have HR:=hide (ai9 ki (ai9 hB (show∀k m,k < j+1→(xK x)[k]? =some m→okI np m=true from fun k m hkj hm=>by
       rcases Nat.lt_or_ge k j with h | h
       ·exact hok k m h hm
       ·obtain rfl:k=j:=by omega
        rw [hn] at hm
        cases hm
        exact hk)))
      clear ki hB hok hn hk
      go_upto_region 7 with fail
      go_still_tail 8,(by kernel_rfl)
      repeat still_step
      change wpList _ _ _ _ _ U.drew
      go_wp2_with (go_at_call 118;refine HR.o.1.mono ?_;rintro e W1 ⟨rfl,hB1⟩;have H1:=hide (HR.o.2.1.drew.trans (hB1.mono HR.o.2.1.size));clear hB1)
      go_roundw
      case rel=>exact ⟨j+1,by omega,by go_num,HR.o.2.2,H1.o⟩
      case measure=>(simp [intOf];try omega)
     | false=>
      rw [hk] at ki
      have hr:=HB.o.1 x n (List.mem_of_getElem? HC.o.2.1) (List.mem_of_getElem? hn) hk
      have HR:=hide (ai9 ki (ai9 hB hr))
      clear ki hB hok hn hk hr
      go_upto_region 7 with fail
      go_still_tail 8,(by kernel_rfl)
      repeat still_step
      change wpList _ _ _ _ _ U.drew
      go_wp2_with (go_at_call 118;refine HR.o.1.mono ?_;rintro e W1 ⟨rfl,hB1⟩;have H1:=hide (HR.o.2.1.drew.trans (hB1.mono HR.o.2.1.size));clear hB1)
      go_ret
      exact ⟨by rw [HR.o.2.2];rfl,HX.o.2.trans (H1.o.mono HX.o.2.size)⟩
    ·obtain rfl:j=3:=by omega
     have HR:=hide (ai9 hB (show∀k y,k < i+1→c.tris[k]? =some y→∀n∈xK y,okI np n=true from fun k y hk hy n hn=>by
      rcases Nat.lt_or_ge k i with h | h
      ·exact HC.o.1 k y h hy n hn
      ·obtain rfl:k=i:=by omega
       rw [HC.o.2.1] at hy
       cases hy
       obtain ⟨m,hm⟩:=List.mem_iff_getElem?.1 hn
       exact hok m n (by have:=(List.getElem?_eq_some_iff.1 hm).1;simpa [xK] using this) hm))
     clear hok hB hbU
     rw [show (((3:Nat):Int))=3 from rfl]
     go_wp2
     go_roundw
     case rel=>exact ⟨i+1,by omega,by go_num,HR.o.2,HR.o.1⟩
     case measure=>(simp [intOf];try omega)
  ·obtain rfl:i=nt:=by omega
   have i1:¬(i:Int) < (i:Int):=by omega
   have HT:=hide (ai9 (show∀x∈c.tris,∀n∈xK x,okI np n=true from fun x hx n hn=>by
    obtain ⟨k,hk⟩:=List.mem_iff_getElem?.1 hx
    exact hok k x (by rw [HS.o.2.1];exact (List.getElem?_eq_some_iff.1 hk).1) hk n hn) hB)
   clear hok hB hbV
   go_upto_region 11 with fail
   clear z0 z1 z2 z3 z4 z5 hgl
   go_loopw [6] (fun iv wr=>∃k:Nat,k≤nc∧iv= .int .i64 k∧(∀k' x,k' < k→c.creases[k']? =some x→∀n∈ [x.1,x.2],okI np n=true)∧Below X.heap.size X wr) (fun iv _=>nc - (intOf iv).toNat)
   case atStart=>exact ⟨0,by omega,rfl,fun k x hk=>absurd hk (by omega),HT.o.2⟩
   case round=>
    obtain ⟨k,hk,rfl,hok,hB⟩:=hrel
    obtain ⟨U,rfl⟩:=ex9 (wr)
    have hbU:=HX.o.1.below hB HX.o.1.lt
    obtain ⟨z0,z1,z2,z3,z4,z5⟩:=hbU.six9
    have hgl:=hbU.lt
    by_cases hkc:k < nc
    ·have j1:(k:Int) < (nc:Int):=by omega
     obtain ⟨x,hx⟩:∃x,c.creases[k]? =some x:=⟨_,List.getElem?_eq_getElem (by rw [←HS.o.2.2.1];exact hkc)⟩
     obtain ⟨bb,o,hA,hbb,c0,c1⟩:=HS.o.1.cr.e2 hx
     subst hA
     have hxm:=List.mem_of_getElem? hx
     obtain ⟨x1,x2⟩:=x
     simp only at c0 c1
     have hBw:=HX.o.2.trans (hB.mono HX.o.2.size)
     have c0:=(hBw.cell (p:=⟨bb,o+k*2,none⟩) hbb).trans c0
     have c1:=(hBw.cell (p:=⟨bb,o+k*2+1,none⟩) hbb).trans c1
     have hbU2:bb < U.heap.size:=Nat.lt_of_lt_of_le hbb hBw.size
     have HC:=hide (ai9 hok (ai9 hx hxm))
     have HU:=hide (ai9 hB hbU)
     have HZ:=hide (ai9 c0 (ai9 c1 hbU2))
     clear hok hx hxm hBw hbb hB hbU
     have k1:=gG Ap At (some ⟨bb,o,none⟩) Ao Ad np cp i ct nc cc no oc nd dc st x1 U.drew
     have k2:=fun W=>gG Ap At (some ⟨bb,o,none⟩) Ao Ad np cp i ct nc cc no oc nd dc st x2 W
     obtain ⟨a1,ha1⟩:=ex9 (okI np x1)
     obtain ⟨a2,ha2⟩:=ex9 (okI np x2)
     rw [←ha1] at k1
     simp only [←ha2] at k2
     have HK:=hide (ai9 k1 (ai9 k2 (ai9 ha1 ha2)))
     clear k1 k2 ha1 ha2
     go_upto_region 13 with fail
     go_still_tail 7,(by kernel_rfl)
     repeat still_step
     change wpList _ _ _ _ _ U.drew
     go_upto_region 14 with (go_at_call 118;refine HK.o.1.mono ?_;rintro e W1 ⟨rfl,hB1⟩;have H1:=hide (ai9 (HU.o.1.drew.trans (hB1.mono HU.o.1.size)) (qY hB1));clear hB1)
     clear z0 z1 z2 z3 z4 z5 hgl c0 c1 hbU2
     have hb1:Blk W1 g 32 (cCtl Ap np cp At i ct (some ⟨bb,o,none⟩) nc cc Ao no oc st Ad nd dc):=HU.o.2.below H1.o.2 HU.o.2.lt
     obtain ⟨z0,z1,z2,z3,z4,z5⟩:=hb1.six9
     have hgl:=hb1.lt
     have c1:=(H1.o.2.cell (p:=⟨bb,o+k*2+1,none⟩) HZ.o.2.2).trans HZ.o.2.1
     have hbW:bb < W1.heap.size:=Nat.lt_of_lt_of_le HZ.o.2.2 H1.o.2.size
     clear hb1
     go_still_tail 7,(by kernel_rfl)
     repeat still_step
     change wpList _ _ _ _ _ W1.drew
     cases a1 with
     | false=>
      have hr:=HB.o.2.1 (x1,x2) x1 HC.o.2.2 (by simp) HK.o.2.2.1.symm
      have HR:=hide hr
      clear hr
      go_wp2_with (go_at_call 118;refine (HK.o.2.1 W1.drew).mono ?_;rintro e W2 ⟨rfl,hB2⟩;have H2:=hide (H1.o.1.drew.trans (hB2.mono H1.o.1.size));clear hB2)
      go_ret
      exact ⟨by rw [HR.o];rfl,HX.o.2.trans (H2.o.mono HX.o.2.size)⟩
     | true=>
      cases a2 with
      | false=>
       have hr:=HB.o.2.1 (x1,x2) x2 HC.o.2.2 (by simp) HK.o.2.2.2.symm
       have HR:=hide hr
       clear hr
       go_wp2_with (go_at_call 118;refine (HK.o.2.1 W1.drew).mono ?_;rintro e W2 ⟨rfl,hB2⟩;have H2:=hide (H1.o.1.drew.trans (hB2.mono H1.o.1.size));clear hB2)
       go_ret
       exact ⟨by rw [HR.o];rfl,HX.o.2.trans (H2.o.mono HX.o.2.size)⟩
      | true=>
       have HR:=hide (show∀k' y,k' < k+1→c.creases[k']? =some y→∀n∈ [y.1,y.2],okI np n=true from fun k' y hk' hy n hn=>by
        rcases Nat.lt_or_ge k' k with h | h
        ·exact HC.o.1 k' y h hy n hn
        ·obtain rfl:k'=k:=by omega
         rw [HC.o.2.1] at hy
         cases hy
         simp only [List.mem_cons,List.not_mem_nil,or_false] at hn
         rcases hn with rfl | rfl
         ·exact HK.o.2.2.1.symm
         ·exact HK.o.2.2.2.symm)
       go_wp2_with (go_at_call 118;refine (HK.o.2.1 W1.drew).mono ?_;rintro e W2 ⟨rfl,hB2⟩;have H2:=hide (H1.o.1.drew.trans (hB2.mono H1.o.1.size));clear hB2)
       go_roundw
       case rel=>exact ⟨k+1,by omega,by go_num,HR.o,H2.o⟩
       case measure=>(simp [intOf];try omega)
    ·obtain rfl:k=nc:=by omega
     have j1:¬(k:Int) < (k:Int):=by omega
     have HC:=hide (ai9 (show∀x∈c.creases,∀n∈ [x.1,x.2],okI np n=true from fun x hx n hn=>by
      obtain ⟨k',hk'⟩:=List.mem_iff_getElem?.1 hx
      exact hok k' x (by rw [HS.o.2.2.1];exact (List.getElem?_eq_some_iff.1 hk').1) hk' n hn) hB)
     clear hok hB hbU
     go_upto_region 18 with fail
     clear z0 z1 z2 z3 z4 z5 hgl
     go_loopw [9] (fun iv wr=>∃l:Nat,l≤no∧iv= .int .i64 l∧(∀k' x,k' < l→c.corners[k']? =some x→okI np x=true)∧Below X.heap.size X wr) (fun iv _=>no - (intOf iv).toNat)
     case atStart=>exact ⟨0,by omega,rfl,fun k x hk=>absurd hk (by omega),HC.o.2⟩
     case round=>
      obtain ⟨l,hl,rfl,hok,hB⟩:=hrel
      obtain ⟨U,rfl⟩:=ex9 (wr)
      have hbU:=HX.o.1.below hB HX.o.1.lt
      obtain ⟨z0,z1,z2,z3,z4,z5⟩:=hbU.six9
      have hgl:=hbU.lt
      by_cases hlo:l < no
      ·have l1:(l:Int) < (no:Int):=by omega
       obtain ⟨x,hx⟩:∃x,c.corners[l]? =some x:=⟨_,List.getElem?_eq_getElem (by rw [←HS.o.2.2.2];exact hlo)⟩
       obtain ⟨bb,o,hA,hbb,c0⟩:=HS.o.1.o.z9 hx
       subst hA
       have hBw:=HX.o.2.trans (hB.mono HX.o.2.size)
       have c0:=(hBw.cell (p:=⟨bb,o+l,none⟩) hbb).trans c0
       have hbU2:bb < U.heap.size:=Nat.lt_of_lt_of_le hbb hBw.size
       have ki:=gG Ap At Ac (some ⟨bb,o,none⟩) Ad np cp i ct k cc no oc nd dc st x U.drew
       cases hk2:okI np x with
       | true=>
        rw [hk2] at ki
        have HR:=hide (ai9 ki (ai9 hB (show∀k m,k < l+1→c.corners[k]? =some m→okI np m=true from fun k m hkj hm=>by
         rcases Nat.lt_or_ge k l with h | h
         ·exact hok k m h hm
         ·obtain rfl:k=l:=by omega
          rw [hx] at hm
          cases hm
          exact hk2)))
        clear ki hB hok hx hk2 hBw hbb hbU
        go_upto_region 20 with fail
        go_still_tail 6,(by kernel_rfl)
        repeat still_step
        change wpList _ _ _ _ _ U.drew
        go_wp2_with (go_at_call 118;refine HR.o.1.mono ?_;rintro e W1 ⟨rfl,hB1⟩;have H1:=hide (HR.o.2.1.drew.trans (hB1.mono HR.o.2.1.size));clear hB1)
        go_roundw
        case rel=>exact ⟨l+1,by omega,by go_num,HR.o.2.2,H1.o⟩
        case measure=>(simp [intOf];try omega)
       | false=>
        rw [hk2] at ki
        have hr:=HB.o.2.2.1 x (List.mem_of_getElem? hx) hk2
        have HR:=hide (ai9 ki (ai9 hB hr))
        clear ki hB hok hx hk2 hr hBw hbb hbU
        go_upto_region 20 with fail
        go_still_tail 6,(by kernel_rfl)
        repeat still_step
        change wpList _ _ _ _ _ U.drew
        go_wp2_with (go_at_call 118;refine HR.o.1.mono ?_;rintro e W1 ⟨rfl,hB1⟩;have H1:=hide (HR.o.2.1.drew.trans (hB1.mono HR.o.2.1.size));clear hB1)
        go_ret
        exact ⟨by rw [HR.o.2.2];rfl,HX.o.2.trans (H1.o.mono HX.o.2.size)⟩
      ·obtain rfl:l=no:=by omega
       have l1:¬(l:Int) < (l:Int):=by omega
       have hr:=HB.o.2.2.2 HT.o.1 HC.o.1 (fun x hx=>by
        obtain ⟨k',hk'⟩:=List.mem_iff_getElem?.1 hx
        exact hok k' x (by rw [HS.o.2.2.2];exact (List.getElem?_eq_some_iff.1 hk').1) hk')
       have HR:=hide (ai9 hr hB)
       clear hr hok hB hbU
       go_wp2
       go_ret
       exact ⟨by rw [HR.o.1];rfl,HX.o.2.trans (HR.o.2.mono HX.o.2.size)⟩
end Go.Proofs.YtmemofonebphfaaGreat
namespace Go.Proofs.YtmemofonebphfaaGreat
open Go.RowKit Go.Sort
theorem zFN {lo hi:Int} {l:List Pt} {p:Pt} (hp:p∈l) (h:min (min p.1 p.2.1) p.2.2 < lo∨hi < max (max p.1 p.2.1) p.2.2):outR lo hi l=true:=List.any_eq_true.2 ⟨p,hp,decide_eq_true h⟩
theorem zKR {lo hi:Int} {l:List Pt} (h:∀p∈l,¬(min (min p.1 p.2.1) p.2.2 < lo)∧¬(hi < max (max p.1 p.2.1) p.2.2)):outR lo hi l=false:=by
 refine List.any_eq_false.2 fun p hp=> ?_
 have:=h p hp
 simp only [decide_eq_true_eq]
 omega
set_option maxRecDepth 100000 in
set_option maxHeartbeats 8000000 in
theorem bK (A:Option Addr) (c:Nat) (l:List Pt) (lo hi:Int) (w:World) (hs:Sl encP 3 w w.heap.size A l) (hl:l.length≤100000000):
  Calls Tryz.prog 67 #[.slice A l.length c, .int .i64 lo, .int .i64 hi] w fun e w'=>e= .returned (.bool (!outR lo hi l))∧Below w.heap.size w w':=by
 obtain ⟨N,hN⟩:=ex9 (l.length)
 obtain ⟨R,hR⟩:=ex9 ( !outR lo hi l)
 rw [←hN] at hl⊢
 rw [←hR]
 have HS:=hide (ai9 hs (ai9 hN hR))
 clear hs hN hR
 go_enter Tryz.func67,Tryz.ntmps67
 go_upto_region 2 with fail
 go_loopw [7] (fun iv wr=>∃i:Nat,i≤N∧iv= .int .i64 i∧(∀k p,k < i→l[k]? =some p→¬(min (min p.1 p.2.1) p.2.2 < lo)∧¬(hi < max (max p.1 p.2.1) p.2.2))∧Below w.heap.size w wr) (fun iv _=>N - (intOf iv).toNat)
 case atStart=>exact ⟨0,by omega,rfl,fun k p hk=>absurd hk (by omega),Below.refl _ w⟩
 case round=>
  obtain ⟨i,hi',rfl,hok,hB⟩:=hrel
  obtain ⟨V,rfl⟩:=ex9 (wr)
  by_cases hlt:i < N
  ·have i1:(i:Int) < (N:Int):=by omega
   obtain ⟨x,hx⟩:∃x,l[i]? =some x:=⟨_,List.getElem?_eq_getElem (by rw [←HS.o.2.1];exact hlt)⟩
   obtain ⟨bb,o,hA,hbb,hc⟩:=HS.o.1.at hx
   subst hA
   obtain ⟨x1,x2,x3⟩:=x
   have c0:=(hB.cell (p:=⟨bb,o+i*3+0,none⟩) hbb).trans (hc 0 _ rfl)
   have c1:=(hB.cell (p:=⟨bb,o+i*3+1,none⟩) hbb).trans (hc 1 _ rfl)
   have c2:=(hB.cell (p:=⟨bb,o+i*3+2,none⟩) hbb).trans (hc 2 _ rfl)
   rw [Nat.add_zero] at c0
   have hbV:bb < V.heap.size:=Nat.lt_of_lt_of_le hbb hB.size
   dsimp only at c0 c1 c2
   obtain ⟨m1,e1⟩:∃m,min x1 x2=m:=⟨_,rfl⟩
   obtain ⟨m2,e2⟩:∃m,min m1 x3=m:=⟨_,rfl⟩
   obtain ⟨m3,e3⟩:∃m,max x1 x2=m:=⟨_,rfl⟩
   obtain ⟨m4,e4⟩:∃m,max m3 x3=m:=⟨_,rfl⟩
   have hmm:min (min x1 x2) x3=m2:=by rw [e1,e2]
   have hmx:max (max x1 x2) x3=m4:=by rw [e3,e4]
   have HV:=hide (ai9 hok (ai9 hB (ai9 hx (ai9 hmm hmx))))
   clear hok hB hx hmm hmx hc hbb
   by_cases h1:m2 < lo
   ·have hr:R=false:=by
     rw [HS.o.2.2,zFN (List.mem_of_getElem? HV.o.2.2.1) (.inl (by dsimp only;rw [HV.o.2.2.2.1];exact h1))]
     rfl
    have HR:=hide hr
    clear hr
    go_upto_region 5 with fail
    have HB5:=hide (HV.o.2.1.alloc HV.o.2.1.size (.cells #[.int .i64 x1, .int .i64 x2, .int .i64 x3] 43))
    go_wp2
    go_ret
    exact ⟨by rw [HR.o];rfl,HB5.o⟩
   ·by_cases h2:hi < m4
    ·have hr:R=false:=by
      rw [HS.o.2.2,zFN (List.mem_of_getElem? HV.o.2.2.1) (.inr (by dsimp only;rw [HV.o.2.2.2.2];exact h2))]
      rfl
     have HR:=hide hr
     clear hr
     go_upto_region 5 with fail
     have HB5:=hide (HV.o.2.1.alloc HV.o.2.1.size (.cells #[.int .i64 x1, .int .i64 x2, .int .i64 x3] 43))
     go_wp2
     go_ret
     exact ⟨by rw [HR.o];rfl,HB5.o⟩
    ·have HR:=hide (show∀k p,k < i+1→l[k]? =some p→¬(min (min p.1 p.2.1) p.2.2 < lo)∧¬(hi < max (max p.1 p.2.1) p.2.2) from fun k p hk hp=>by
      rcases Nat.lt_or_ge k i with h | h
      ·exact HV.o.1 k p h hp
      ·obtain rfl:k=i:=by omega
       rw [HV.o.2.2.1] at hp
       cases hp
       dsimp only
       rw [HV.o.2.2.2.1,HV.o.2.2.2.2]
       exact ⟨h1,h2⟩)
     go_upto_region 5 with fail
     have HB5:=hide (HV.o.2.1.alloc HV.o.2.1.size (.cells #[.int .i64 x1, .int .i64 x2, .int .i64 x3] 43))
     go_wp2
     go_roundw
     case rel=>exact ⟨i+1,by omega,by go_num,HR.o,HB5.o⟩
     case measure=>(simp [intOf];try omega)
  ·obtain rfl:i=N:=by omega
   have i1:¬(i:Int) < (i:Int):=by omega
   have hr:R=true:=by
    rw [HS.o.2.2,zKR fun p hp=>by
     obtain ⟨k,hk⟩:=List.mem_iff_getElem?.1 hp
     exact hok k p (by rw [HS.o.2.1];exact (List.getElem?_eq_some_iff.1 hk).1) hk]
    rfl
   have HR:=hide (ai9 hr hB)
   clear hr hB hok
   go_wp2
   go_ret
   exact ⟨by rw [HR.o.1];rfl,HR.o.2⟩
end Go.Proofs.YtmemofonebphfaaGreat
namespace Go.Proofs.YtmemofonebphfaaGreat
open Go.RowKit Go.Sort
theorem zA5 {ds:List (List Pt)} {k:Nat} {d:List Pt} (h:ds[k]? =some d) (j m:Nat):jQ (ds.drop k) (j+1) m=(decide (m < d.length) || jQ (ds.drop (k+1)) j (4*m)):=by
 obtain ⟨hk,rfl⟩:=List.getElem?_eq_some_iff.1 h
 rw [List.drop_eq_getElem_cons hk]
 rfl
theorem dM:∀(j m:Nat),jQ [] j m=false
 | 0,_=>rfl
 | _+1,_=>rfl
theorem zCJ {n:Nat} (hn:n≤1000000) {x:Pt} (h:∀i∈xK x,0≤i∧i < (n:Int)):fitsT (numT x):=by
 have h1:=h x.1 (by simp [xK])
 have h2:=h x.2.1 (by simp [xK])
 have h3:=h x.2.2 (by simp [xK])
 unfold fitsT numT yJ fits
 dsimp only
 omega
theorem zMF {c:Ctl} (h:yN (c.tris.map numT) false=0):2*(zH c.tris).length=3*c.tris.length:=by
 obtain ⟨h1,h2,h3,_⟩:=vW.1 h
 refine zAL (fun e he=> ?_) h2 h3
 obtain ⟨x,hx,hd⟩:=zX.1 he
 have:=h1 x hx
 rcases yM.1 hd with rfl | rfl | rfl
 ·exact this.1
 ·exact this.2.1
 ·exact this.2.2
theorem CtlM.det {w:World} {B:Nat} {Ap At Ac Ao Ad:Option Addr} {c:Ctl} (h:CtlM w B Ap At Ac Ao Ad c) {i:Nat} {d:List Pt} (hd:c.details[i]? =some d):
  ∃b o A k,Ad=some ⟨b,o,none⟩∧b < B∧w.cell? ⟨b,o+i,none⟩=some (.slice A d.length k)∧Sl encP 3 w B A d:=by
 obtain ⟨ss,h1,h2,h3⟩:=h.d
 obtain ⟨A,k,h4,h5⟩:=h3 i d hd
 obtain ⟨b,o,hA,hb,hc⟩:=h1.at h4
 have:=hc 0 _ rfl
 rw [Nat.mul_one,Nat.add_zero] at this
 exact ⟨b,o,A,k,hA,hb,this,h5⟩
set_option maxRecDepth 100000 in set_option maxHeartbeats 64000000 in
theorem zGN (Ap At Ac Ao Ad:Option Addr) (cp ct cc oc dc:Nat) (c:Ctl) (w:World) (hm:CtlM w w.heap.size Ap At Ac Ao Ad c) (hb:CtlB c) (hfs:fits c.steps):
  Calls Tryz.prog 61 #[vCtl Ap c.points.length cp At c.tris.length ct Ac c.creases.length cc Ao c.corners.length oc c.steps Ad c.details.length dc] w fun e w'=>e= .returned (.int .i64 (errC c))∧Below w.heap.size w w':=by
 have ki:=fun (W:World) (hW:Below w.heap.size w W)=>zED Ap At Ac Ao Ad cp ct cc oc c.details.length dc c W (hm.below hW hW.size) hb
 have ke:=fun (W:World) (hW:Below w.heap.size w W)=>uQ At ct c.tris W (hm.below hW hW.size).t (by have:=hb.t;omega)
 have kr:=fun (W:World) (hW:Below w.heap.size w W) (hi:Int)=>bK Ap cp c.points 0 hi W (hm.below hW hW.size).p (by have:=hb.p;omega)
 obtain ⟨np,hnp⟩:=ex9 (c.points.length)
 obtain ⟨nt,hnt⟩:=ex9 (c.tris.length)
 obtain ⟨nc,hnc⟩:=ex9 (c.creases.length)
 obtain ⟨no,hno⟩:=ex9 (c.corners.length)
 obtain ⟨nd,hnd⟩:=ex9 (c.details.length)
 obtain ⟨st,hst⟩:=ex9 (c.steps)
 obtain ⟨R,hR⟩:=ex9 (errC c)
 have hpl:np≤100000:=by rw [hnp];exact hb.p
 have htl:nt≤100000:=by rw [hnt];exact hb.t
 have hcl:nc≤100000:=by rw [hnc];exact hb.cr
 have hol:no≤100000:=by rw [hno];exact hb.o
 have hdl:nd≤100000:=by rw [hnd];exact hb.d
 have ha:argC c=(decide (st < 0) || decide (4 < st) || decide (st < (nd:Int))):=by rw [hst,hnd];rfl
 have r1:argC c=true→R=1:=fun h=>by rw [hR];unfold errC;rw [if_pos h]
 have r2:argC c=false→qA c=true→R=14:=fun h1 h2=>by rw [hR];unfold errC;rw [if_neg (by rw [h1];simp),if_pos h2]
 have r3:argC c=false→qA c=false→yN (c.tris.map numT) false≠0→R=yN (c.tris.map numT) false:=fun h1 h2 h3=>by rw [hR];unfold errC;rw [if_neg (by rw [h1];simp),if_neg (by rw [h2];simp),if_pos h3]
 have r4:argC c=false→qA c=false→yN (c.tris.map numT) false=0→R=if wM c.tris c.creases=true then 13 else if bZ c=true then 2 else if farC c=true then 3 else 0:=fun h1 h2 h3=>by rw [hR];unfold errC;rw [if_neg (by rw [h1];simp),if_neg (by rw [h2];simp),if_neg (by simpa using h3)]
 rw [←hR,←hnp,←hnt,←hnc,←hno,←hnd,←hst]
 simp only [←hnp,←hnt,←hnc,←hno,←hnd,←hst] at ki ke kr
 have hfs': -9223372036854775808≤st∧st≤9223372036854775807:=by rw [hst];exact hfs
 have HS:=hide (ai9 hm (ai9 hb (ai9 hnp (ai9 hnt (ai9 hnc (ai9 hno (ai9 hnd hst)))))))
 have HK:=hide (ai9 ki (ai9 ke kr))
 have HR:=hide (ai9 r1 (ai9 r2 (ai9 r3 (ai9 r4 ha))))
 clear hm hb hnp hnt hnc hno hnd hst hR r1 r2 r3 r4 ki ke kr ha hfs
 go_enter Tryz.func61,Tryz.ntmps61
 go_upto_region 1 with fail
 obtain ⟨g,hg⟩:=ex9 (w.heap.size)
 obtain ⟨X,hX⟩:=ex9 (w.alloc (.cells (cCtl Ap np cp At nt ct Ac nc cc Ao no oc st Ad nd dc) 32))
 rw [←hX,←hg]
 have hbX:Blk X g 32 (cCtl Ap np cp At nt ct Ac nc cc Ao no oc st Ad nd dc):=by rw [hX,hg];exact Blk.new _ _ _
 have hBX:Below w.heap.size w X:=by rw [hX];exact (Below.refl _ w).alloc lr9 _
 obtain ⟨z0,z1,z2,z3,z4,z5⟩:=hbX.six9
 have hgl:=hbX.lt
 have HX:=hide (ai9 hbX hBX)
 clear hbX hBX hX hg
 by_cases s1:st < 0
 ·have hr:=HR.o.1 (by rw [HR.o.2.2.2.2];simp [s1])
  have HQ:=hide hr
  clear hr
  go_wp2
  go_ret
  exact ⟨by rw [HQ.o];rfl,HX.o.2⟩
 ·by_cases s2:4 < st
  ·have hr:=HR.o.1 (by rw [HR.o.2.2.2.2];simp [s2])
   have HQ:=hide hr
   clear hr
   go_wp2
   go_ret
   exact ⟨by rw [HQ.o];rfl,HX.o.2⟩
  ·by_cases s3:st < (nd:Int)
   ·have hr:=HR.o.1 (by rw [HR.o.2.2.2.2];simp [s3])
    have HQ:=hide hr
    clear hr
    go_wp2
    go_ret
    exact ⟨by rw [HQ.o];rfl,HX.o.2⟩
   ·have hA:argC c=false:=by rw [HR.o.2.2.2.2];simp [s1,s2,s3]
    obtain ⟨sn,hsn⟩:∃n:Nat,st=n:=⟨st.toNat,by omega⟩
    subst hsn
    have hs4:sn≤4:=by omega
    have hsd:nd≤sn:=by omega
    have HA:=hide hA
    have k1:=HK.o.1 X HX.o.2
    cases hix:qA c with
    | true=>
     rw [hix] at k1
     have hr:=HR.o.2.1 hA hix
     have HQ:=hide (ai9 hr k1)
     clear hr k1 hA hix
     go_wp2_with (go_at_call 92;refine HQ.o.2.mono ?_;rintro e W1 ⟨rfl,hB⟩;have H1:=hide (HX.o.2.trans (hB.mono HX.o.2.size));clear hB)
     go_ret
     exact ⟨by rw [HQ.o.1];rfl,H1.o⟩
    | false=>
     rw [hix] at k1
     have HI:=hide (ai9 hix k1)
     clear k1 hA hix
     go_upto_region 6 with (go_at_call 92;refine HI.o.2.mono ?_;rintro e W1 ⟨rfl,hB⟩;have H1:=hide (ai9 (HX.o.2.trans (hB.mono HX.o.2.size)) (HX.o.1.below hB HX.o.1.lt));clear hB)
     clear z0 z1 z2 z3 z4 z5 hgl
     go_upto_region 8 with fail
     go_loopw [4,5] (fun lv iv wr=>∃i:Nat,i≤nt∧iv= .int .i64 i∧Own encT 9 46 wr W1.heap.size lv i ((c.tris.take i).map numT)∧Below W1.heap.size W1 wr) (fun _ iv _=>nt - (intOf iv).toNat)
     case atStart=>exact ⟨0,by omega,rfl,by rw [List.take_zero];exact Own.nil,Below.refl _ W1⟩
     case round=>
      obtain ⟨i,hi,rfl,hO,hB⟩:=hrel
      obtain ⟨V,rfl⟩:=ex9 (wr)
      obtain ⟨Al,cl,rfl⟩:=hO.form
      have hbV:=H1.o.2.below hB H1.o.2.lt
      obtain ⟨z0,z1,z2,z3,z4,z5⟩:=hbV.six9
      have hgl:=hbV.lt
      have hBw:=H1.o.1.trans (hB.mono H1.o.1.size)
      by_cases hlt:i < nt
      ·have i1:(i:Int) < (nt:Int):=by omega
       obtain ⟨x,hx⟩:∃x,c.tris[i]? =some x:=⟨_,List.getElem?_eq_getElem (by rw [←HS.o.2.2.2.1];exact hlt)⟩
       obtain ⟨bb,o,hAt,hbb,c0,c1,c2⟩:=HS.o.1.t.n3 hx
       subst hAt
       have htk:(c.tris.take (i+1)).map numT=(c.tris.take i).map numT++ [numT x]:=by rw [List.take_add_one,hx,List.map_append];rfl
       obtain ⟨x1,x2,x3⟩:=x
       simp only at c0 c1 c2
       have c0:=(hBw.cell (p:=⟨bb,o+i*3,none⟩) hbb).trans c0
       have c1:=(hBw.cell (p:=⟨bb,o+i*3+1,none⟩) hbb).trans c1
       have c2:=(hBw.cell (p:=⟨bb,o+i*3+2,none⟩) hbb).trans c2
       have hbV2:bb < V.heap.size:=Nat.lt_of_lt_of_le hbb hBw.size
       have hzV:=hB.size
       have HV:=hide (ai9 hO (ai9 hB htk))
       clear hO hB htk hx hbb hbV hBw
       go_upto_region 11 with fail
       obtain ⟨Y,hY⟩:=ex9 (V.alloc (.cells #[.int .i64 x1, .int .i64 x2, .int .i64 x3] 35))
       obtain ⟨gy,hgy⟩:=ex9 (V.heap.size)
       have hbY:Blk Y gy 35 #[.int .i64 x1, .int .i64 x2, .int .i64 x3]:=by rw [hY,hgy];exact Blk.new _ _ _
       rw [←hY,←hgy]
       have HY:=hide (ai9 (show Own encT 9 46 Y W1.heap.size (.slice Al i cl) i ((c.tris.take i).map numT) by rw [hY];exact HV.o.1.alloc _) (show Below W1.heap.size W1 Y by rw [hY];exact HV.o.2.1.alloc HV.o.2.1.size _))
       obtain ⟨y0,y1,y2⟩:=hbY.three
       have hgyl:=hbY.lt
       have hzY:W1.heap.size≤Y.heap.size:=HY.o.2.size
       clear z0 z1 z2 z3 z4 z5 hgl c0 c1 c2 hbV2 hY hgy hbY hzV
       go_wp2_with (at_builtin;refine zC rfl _ _ _ rfl Tryz.underlying44 kF rfl (by omega) zW yU rfl (HY.o.1.alloc _) Y.heap.size 1 (numT (x1,x2,x3):Tri) rfl (Blk.new _ _ _) (by unfold maxLen;omega) (by omega) (by simp;omega) ?_;intro g5 cap5 w5 hown5 hg5 hB5 hat5 hgb5 hlt5;have H5:=hide (ai9 hown5 ((HY.o.2.alloc hzY _).trans hB5));clear hown5 hg5 hB5 hat5 hgb5 hlt5)
       go_roundw
       case rel=>exact ⟨i+1,by omega,by go_num,by rw [HV.o.2.2];exact H5.o.1,H5.o.2⟩
       case measure=>(simp [intOf];try omega)
      ·obtain rfl:i=nt:=by omega
       have i1:¬(i:Int) < (i:Int):=by omega
       have ht:c.tris.take i=c.tris:=by rw [HS.o.2.2.2.1];exact List.take_length
       rw [ht] at hO
       have hixo:∀x∈c.tris,fitsT (numT x):=fun x hx=>by
        have h:=HI.o.1
        unfold qA at h
        simp only [Bool.or_eq_false_iff] at h
        exact zCJ (n:=np) (by omega) fun n hn=>by rw [HS.o.2.2.1];exact jR h.1.1 n (List.mem_flatMap.2 ⟨x,hx,hn⟩)
       have hml:=hO.1
       have kc:=zDP Al cl (c.tris.map numT) V (hO.sl zW lr9) (by omega) (fun t ht=>by
        obtain ⟨x,hx,rfl⟩:=List.mem_map.1 ht
        exact hixo x hx)
       rw [←hml] at kc
       obtain ⟨ck,hck⟩:=ex9 (yN (c.tris.map numT) false)
       rw [←hck] at kc
       have HV:=hide (ai9 hBw (ai9 hbV (ai9 kc hck)))
       clear hO hB hbV hBw ht hixo hml kc hck
       by_cases hc0:ck=0
       ·subst hc0
        go_upto_region 15 with (go_at_call 70;refine HV.o.2.2.1.mono ?_;rintro e W2 ⟨rfl,hB⟩;have H2:=hide (ai9 (HV.o.1.trans (hB.mono HV.o.1.size)) (HV.o.2.1.below hB HV.o.2.1.lt));clear hB)
        clear z0 z1 z2 z3 z4 z5 hgl
        have hck:=HV.o.2.2.2.symm
        have hst':c.steps.toNat=sn:=by have:=HS.o.2.2.2.2.2.2.2;omega
        have hr:=HR.o.2.2.2.1 HA.o HI.o.1 hck
        obtain ⟨g1,g2,g3,g4⟩:=vW.1 hck
        have hcnt:=zMF hck
        rw [←HS.o.2.2.2.1] at hcnt
        have hixo:∀x∈c.tris,∀n∈xK x,0≤n∧n < (np:Int):=fun x hx n hn=>by
         have h:=HI.o.1
         unfold qA at h
         simp only [Bool.or_eq_false_iff] at h
         rw [HS.o.2.2.1]
         exact jR h.1.1 n (List.mem_flatMap.2 ⟨x,hx,hn⟩)
        have hcro:∀x∈c.creases,yG x:=fun x hx=>by
         have h:=HI.o.1
         unfold qA at h
         simp only [Bool.or_eq_false_iff] at h
         have h1:=jR h.1.2 x.1 (List.mem_flatMap.2 ⟨x,hx,by simp⟩)
         have h2:=jR h.1.2 x.2 (List.mem_flatMap.2 ⟨x,hx,by simp⟩)
         rw [←HS.o.2.2.1] at h1 h2
         constructor <;>unfold fits <;>omega
        have hEf:∀e∈zH c.tris,yG e:=fun e he=>by
         obtain ⟨x,hx,hd⟩:=zX.1 (zZ.1 he).1
         have h1:=hixo x hx x.1 (by simp [xK])
         have h2:=hixo x hx x.2.1 (by simp [xK])
         have h3:=hixo x hx x.2.2 (by simp [xK])
         rcases yM.1 hd with rfl | rfl | rfl <;>constructor <;>unfold fits <;>dsimp only <;>omega
        have hEl:(zH c.tris).length≤300000:=by have:=qW c.tris;rw [←HS.o.2.2.2.1] at this;omega
        have kf:=fun (A:Option Addr) (k:Nat) (a b:Int) (W:World) (hs:Sl yH 2 W W.heap.size A (zH c.tris)) (hf:yG (a,b))=>zCA A k (zH c.tris) a b W hs (by omega) hEf (vS (e:=(a,b)) hf) (qL _) (qK g2)
        obtain ⟨E,hE⟩:=ex9 (zH c.tris)
        have hne:wM c.tris c.creases=c.creases.any fun e=> !E.contains (nrmE e.1 e.2):=by rw [hE];rfl
        have hmc:bZ c=(jQ c.details sn (3*i / 2) || decide (65536 < 4^sn*i)):=by unfold bZ;rw [hst',←HS.o.2.2.2.1]
        have hfc:farC c=(outR 0 (2097151 / 16^sn) c.points || c.details.any (outR (-2097151) 2097151)):=by unfold farC;rw [hst']
        rw [hne,hmc,hfc] at hr
        obtain ⟨EN,hEN⟩:=ex9 (E.length)
        have ke:=HK.o.2.1 W2 H2.o.1
        rw [←hE,←hEN] at ke
        simp only [←hE,←hEN] at kf
        have HM:=hide (ai9 hr (ai9 hcnt (ai9 hcro (ai9 kf (ai9 ke hE)))))
        clear hr hcnt hcro kf ke hE hEN hne hmc hfc hEl hEf hixo g1 g2 g3 g4 hck hst'
        obtain ⟨z0,z1,z2,z3,z4,z5⟩:=H2.o.2.six9
        have hgl:=H2.o.2.lt
        go_upto_region 17 with (go_at_call 26;refine HM.o.2.2.2.2.1.mono ?_;rintro e W3 ⟨Ae,ce,rfl,hs3,hB⟩;have H3:=hide (ai9 (H2.o.1.trans (hB.mono H2.o.1.size)) (ai9 (H2.o.2.below hB H2.o.2.lt) hs3));clear hB hs3)
        clear z0 z1 z2 z3 z4 z5 hgl
        go_loopw [9] (fun iv wr=>∃k:Nat,k≤nc∧iv= .int .i64 k∧(∀k' x,k' < k→c.creases[k']? =some x→nrmE x.1 x.2∈E)∧Below W3.heap.size W3 wr) (fun iv _=>nc - (intOf iv).toNat)
        case atStart=>exact ⟨0,by omega,rfl,fun k x hk=>absurd hk (by omega),Below.refl _ W3⟩
        case round=>
         obtain ⟨k,hk,rfl,hok,hB⟩:=hrel
         obtain ⟨U,rfl⟩:=ex9 (wr)
         have hbU:=H3.o.2.1.below hB H3.o.2.1.lt
         obtain ⟨z0,z1,z2,z3,z4,z5⟩:=hbU.six9
         have hgl:=hbU.lt
         have hBw:=H3.o.1.trans (hB.mono H3.o.1.size)
         by_cases hkc:k < nc
         ·have j1:(k:Int) < (nc:Int):=by omega
          obtain ⟨x,hx⟩:∃x,c.creases[k]? =some x:=⟨_,List.getElem?_eq_getElem (by rw [←HS.o.2.2.2.2.1];exact hkc)⟩
          obtain ⟨bb,o,hAc,hbb,c0,c1⟩:=HS.o.1.cr.e2 hx
          subst hAc
          have hxm:=List.mem_of_getElem? hx
          have kf:=HM.o.2.2.2.1 Ae ce x.1 x.2 U.drew ((H3.o.2.2.below hB).more hB.size) (HM.o.2.2.1 x hxm)
          obtain ⟨x1,x2⟩:=x
          simp only at c0 c1 kf
          have c0:=(hBw.cell (p:=⟨bb,o+k*2,none⟩) hbb).trans c0
          have c1:=(hBw.cell (p:=⟨bb,o+k*2+1,none⟩) hbb).trans c1
          have hbU2:bb < U.heap.size:=Nat.lt_of_lt_of_le hbb hBw.size
          by_cases hin:nrmE x1 x2∈E
          ·obtain ⟨q,hq,_⟩:=wI hin
           rw [hq] at kf
           have HU:=hide (ai9 kf (ai9 hB (show∀k' y,k' < k+1→c.creases[k']? =some y→nrmE y.1 y.2∈E from fun k' y hk' hy=>by
            rcases Nat.lt_or_ge k' k with h | h
            ·exact hok k' y h hy
            ·obtain rfl:k'=k:=by omega
             rw [hx] at hy
             cases hy
             exact hin)))
           have q0:¬(q:Int) < 0:=by omega
           clear kf hB hok hx hxm hBw hbb hbU hin hq
           go_upto_region 19 with fail
           go_still_tail 13,(by kernel_rfl)
           repeat still_step
           change wpList _ _ _ _ _ U.drew
           go_wp2_with (go_at_call 93;refine HU.o.1.mono ?_;rintro e W4 ⟨rfl,hB4⟩;have H4:=hide (HU.o.2.1.trans ((qY hB4).mono HU.o.2.1.size));clear hB4)
           go_roundw
           case rel=>exact ⟨k+1,by omega,by go_num,HU.o.2.2,H4.o⟩
           case measure=>(simp [intOf];try omega)
          ·have hq:posE E x1 x2= -1:=dU hin
           rw [hq] at kf
           have hr:=HM.o.1
           rw [if_pos (List.any_eq_true.2 ⟨(x1,x2),hxm,by simpa using hin⟩)] at hr
           have HU:=hide (ai9 kf (ai9 hBw hr))
           clear kf hB hok hx hxm hBw hbb hbU hin hq hr
           go_upto_region 19 with fail
           go_still_tail 13,(by kernel_rfl)
           repeat still_step
           change wpList _ _ _ _ _ U.drew
           go_wp2_with (go_at_call 93;refine HU.o.1.mono ?_;rintro e W4 ⟨rfl,hB4⟩;have H4:=hide (HU.o.2.1.trans ((qY hB4).mono HU.o.2.1.size));clear hB4)
           go_ret
           exact ⟨by rw [HU.o.2.2];rfl,H4.o⟩
         ·obtain rfl:k=nc:=by omega
          have j1:¬(k:Int) < (k:Int):=by omega
          have hr:=HM.o.1
          rw [if_neg (by
           rw [List.any_eq_true]
           rintro ⟨e,he,h⟩
           obtain ⟨k',hk'⟩:=List.mem_iff_getElem?.1 he
           have:=hok k' e (by rw [HS.o.2.2.2.2.1];exact (List.getElem?_eq_some_iff.1 hk').1) hk'
           simp [this] at h)] at hr
          obtain ⟨M,hM⟩:=ex9 (jQ c.details sn (3*i / 2))
          rw [←hM] at hr
          have HU:=hide (ai9 hr (ai9 hM (ai9 hBw hbU)))
          clear hr hM hok hB hBw hbU
          go_upto_region 23 with fail
          go_loopw [10,11] (fun nv kv wr=>∃(j q m:Nat),j≤sn∧nv= .int .i64 q∧kv= .int .i64 j∧2*m=3*q∧q=4^j*i∧jQ (c.details.drop j) (sn - j) m=M∧wr=U) (fun _ kv _=>sn - (intOf kv).toNat)
          case atStart=>
           have hev:=HM.o.2.1
           exact ⟨0,i,3*i / 2,by omega,rfl,rfl,by omega,by simp,HU.o.2.1.symm,rfl⟩
          case round=>
           obtain ⟨j,q,m,hj,rfl,rfl,hm2,hq,hM,hw⟩:=hrel
           subst hw
           have hq4:q≤256*100000:=by
            rw [hq]
            refine Nat.mul_le_mul ?_ htl
            exact Nat.le_trans (Nat.pow_le_pow_right (by omega) (show j≤4 by omega)) (by decide)
           by_cases hjs:j < sn
           ·have l1:(j:Int) < (sn:Int):=by omega
            have t1:(3*(q:Int)).tdiv 2=(m:Int):=by rw [Int.tdiv_eq_ediv_of_nonneg (by omega)];omega
            have t2:(3*(q:Int)) / 2=(m:Int):=by omega
            have hsub:sn - j=(sn - (j+1))+1:=by omega
            rw [hsub] at hM
            by_cases hjn:j < nd
            ·have l2:(j:Int) < (nd:Int):=by omega
             obtain ⟨d,hd⟩:∃d,c.details[j]? =some d:=⟨_,List.getElem?_eq_getElem (by rw [←HS.o.2.2.2.2.2.2.1];exact hjn)⟩
             rw [zA5 hd] at hM
             obtain ⟨bd,od,Ax,kx,hAd,hbd,cd,_⟩:=HS.o.1.det hd
             subst hAd
             have cd:=(HU.o.2.2.1.cell (p:=⟨bd,od+j,none⟩) hbd).trans cd
             have hbdU:bd < wr.heap.size:=Nat.lt_of_lt_of_le hbd HU.o.2.2.1.size
             obtain ⟨dl,hdl2⟩:=ex9 (d.length)
             rw [←hdl2] at hM cd
             have hdl3:dl≤1000000:=by rw [hdl2];exact HS.o.2.1.dd d (List.mem_of_getElem? hd)
             by_cases hov:m < dl
             ·have hr:=HU.o.1
              rw [←hM,decide_eq_true hov,Bool.true_or,Bool.true_or,if_pos rfl] at hr
              have HQ:=hide hr
              have l3:(m:Int) < (dl:Int):=by omega
              clear hr hM hd hq hm2 hsub hdl2 hbd
              go_wp2
              go_ret
              exact ⟨by rw [HQ.o];rfl,HU.o.2.2.1⟩
             ·rw [decide_eq_false hov,Bool.false_or] at hM
              have HQ:=hide (ai9 hM (ai9 hq hm2))
              have l3:¬(m:Int) < (dl:Int):=by omega
              clear hM hd hq hm2 hsub hdl2 hbd
              go_wp2
              go_roundw
              case rel=>exact ⟨j+1,4*q,4*m,by omega,by go_num,by go_num,by have:=HQ.o.2.2;omega,by rw [HQ.o.2.1,Nat.pow_succ,←Nat.mul_assoc,Nat.mul_comm 4],HQ.o.1,by trivial⟩
              case measure=>(simp [intOf];try omega)
            ·have l2:¬(j:Int) < (nd:Int):=by omega
             have hnil:c.details.drop j= []:=List.drop_eq_nil_of_le (by rw [←HS.o.2.2.2.2.2.2.1];omega)
             have hnil2:c.details.drop (j+1)= []:=List.drop_eq_nil_of_le (by rw [←HS.o.2.2.2.2.2.2.1];omega)
             rw [hnil,dM] at hM
             have HQ:=hide (ai9 (show jQ (c.details.drop (j+1)) (sn - (j+1)) (4*m)=M by rw [hnil2,dM];exact hM) (ai9 hq hm2))
             clear hM hq hm2 hsub hnil hnil2
             go_wp2
             go_roundw
             case rel=>exact ⟨j+1,4*q,4*m,by omega,by go_num,by go_num,by have:=HQ.o.2.2;omega,by rw [HQ.o.2.1,Nat.pow_succ,←Nat.mul_assoc,Nat.mul_comm 4],HQ.o.1,by trivial⟩
             case measure=>(simp [intOf];try omega)
           ·obtain rfl:j=sn:=by omega
            have l1:¬(j:Int) < (j:Int):=by omega
            have hMf:M=false:=by rw [←hM,Nat.sub_self];unfold jQ;rfl
            have hr:=HU.o.1
            rw [hMf,Bool.false_or,←hq] at hr
            by_cases hqm:65536 < q
            ·rw [decide_eq_true hqm,if_pos rfl] at hr
             have l3:(65536:Int) < (q:Int):=by omega
             have HQ:=hide hr
             clear hr hM hMf hq hm2
             go_wp2
             go_ret
             exact ⟨by rw [HQ.o];rfl,HU.o.2.2.1⟩
            ·rw [decide_eq_false hqm,if_neg (by simp)] at hr
             have l3:¬(65536:Int) < (q:Int):=by omega
             obtain ⟨pw,mx,hpw,hmx,t1,t2,pb⟩:∃pw mx:Int,(16:Int)^j=pw∧2097151 / (16:Int)^j=mx∧(2097151:Int).tdiv pw=mx∧(2097151:Int) / pw=mx∧((1≤pw∧pw≤65536)∧0≤mx∧mx≤2097151):=by
              have hc:j=0∨j=1∨j=2∨j=3∨j=4:=by omega
              rcases hc with rfl | rfl | rfl | rfl | rfl <;>exact ⟨_,_,rfl,rfl,by decide,by decide,by decide⟩
             have kp:=fun W=>uG j hs4 W
             simp only [hpw] at kp
             rw [hmx] at hr
             have krg:=HK.o.2.2 wr.drew HU.o.2.2.1.drew mx
             obtain ⟨f1,hf1⟩:=ex9 ( !outR 0 mx c.points)
             rw [←hf1] at krg
             have HQ:=hide (ai9 hr (ai9 hf1 (ai9 kp krg)))
             clear hr hM hMf hq hm2 hpw hmx hf1 kp krg
             have pw0:¬pw=0:=by omega
             go_upto_region 30 with fail
             go_still_tail 6,(by kernel_rfl)
             repeat (first | still_step | still_call (HQ.o.2.2.1 _))
             change wpList _ _ _ _ _ wr.drew
             go_upto_region 31 with (go_at_call 67;refine HQ.o.2.2.2.mono ?_;rintro e W5 ⟨rfl,hB⟩;have H5:=hide (ai9 (HU.o.2.2.1.trans ((qY hB).mono HU.o.2.2.1.size)) (HU.o.2.2.2.below (qY hB) HU.o.2.2.2.lt));clear hB)
             clear z0 z1 z2 z3 z4 z5 hgl
             go_upto_region 32 with fail
             go_loopw [12,13] (fun fv kv wz=>∃l:Nat,l≤nd∧fv= .bool (f1 && (c.details.take l).all fun d=> !outR (-2097151) 2097151 d)∧kv= .int .i64 l∧Below W5.heap.size W5 wz) (fun _ kv _=>nd - (intOf kv).toNat)
             case atStart=>exact ⟨0,by omega,by rw [List.take_zero];simp,rfl,Below.refl _ W5⟩
             case round=>
              obtain ⟨l,hl,rfl,rfl,hB⟩:=hrel
              obtain ⟨Q,rfl⟩:=ex9 (wr)
              have hbQ:=H5.o.2.below hB H5.o.2.lt
              obtain ⟨z0,z1,z2,z3,z4,z5⟩:=hbQ.six9
              have hgl:=hbQ.lt
              have hBw:=H5.o.1.trans (hB.mono H5.o.1.size)
              obtain ⟨F,hF⟩:=ex9 ((f1 && (c.details.take l).all fun d=> !outR (-2097151) 2097151 d))
              rw [←hF]
              by_cases hln:l < nd
              ·have l2:(l:Int) < (nd:Int):=by omega
               obtain ⟨d,hd⟩:∃d,c.details[l]? =some d:=⟨_,List.getElem?_eq_getElem (by rw [←HS.o.2.2.2.2.2.2.1];exact hln)⟩
               obtain ⟨bd,od,Ax,kx,hAd,hbd,cd,hsd2⟩:=HS.o.1.det hd
               subst hAd
               have cd:=(hBw.cell (p:=⟨bd,od+l,none⟩) hbd).trans cd
               have hbdQ:bd < Q.heap.size:=Nat.lt_of_lt_of_le hbd hBw.size
               have hdl3:d.length≤1000000:=HS.o.2.1.dd d (List.mem_of_getElem? hd)
               have kd:=bK Ax kx d (-2097151) 2097151 Q ((hsd2.below hBw).more hBw.size) (by omega)
               have hF2:(f1 && (c.details.take (l+1)).all fun d=> !outR (-2097151) 2097151 d)=(F && !outR (-2097151) 2097151 d):=by rw [List.take_add_one,hd,hF,Option.toList_some,List.all_append,Bool.and_assoc];simp
               obtain ⟨fd,hfd⟩:=ex9 ( !outR (-2097151) 2097151 d)
               obtain ⟨dl,hdl2⟩:=ex9 (d.length)
               rw [←hfd] at kd hF2
               rw [←hdl2] at kd cd
               have HD:=hide (ai9 hF2 (ai9 kd hB))
               clear hF2 kd hB hd hsd2 hfd hdl2 hdl3 hbd hbQ hBw hF
               cases F with
               | true=>
                go_wp2_with (go_at_call 67;refine HD.o.2.1.mono ?_;rintro e W6 ⟨rfl,hB6⟩;have H6:=hide (HD.o.2.2.trans (hB6.mono HD.o.2.2.size));clear hB6)
                go_roundw
                case rel=>exact ⟨l+1,by omega,by rw [HD.o.1];simp,by go_num,H6.o⟩
                case measure=>(simp [intOf];try omega)
               | false=>
                go_wp2
                go_roundw
                case rel=>exact ⟨l+1,by omega,by rw [HD.o.1];simp,by go_num,HD.o.2.2⟩
                case measure=>(simp [intOf];try omega)
              ·obtain rfl:l=nd:=by omega
               have l2:¬(l:Int) < (l:Int):=by omega
               have hr:=HQ.o.1
               have ht:c.details.take l=c.details:=by rw [HS.o.2.2.2.2.2.2.1];exact List.take_length
               rw [ht] at hF
               have hFf:(outR 0 mx c.points || c.details.any (outR (-2097151) 2097151))= !F:=by
                rw [hF,HQ.o.2.1,Bool.not_and,Bool.not_not,←List.not_any_eq_all_not,Bool.not_not]
               rw [hFf] at hr
               have HD:=hide (ai9 hr hBw)
               clear hr ht hF hFf hB hbQ hBw
               cases F with
               | true=>
                go_wp2
                go_ret
                exact ⟨by rw [HD.o.1];rfl,HD.o.2⟩
               | false=>
                go_wp2
                go_ret
                exact ⟨by rw [HD.o.1];rfl,HD.o.2⟩
       ·have hr:=HR.o.2.2.1 HA.o HI.o.1 (by rw [←HV.o.2.2.2];exact hc0)
        have HQ:=hide hr
        have hne:(ck !=0)=true:=by simpa using hc0
        clear hr
        go_wp2_with (go_at_call 70;refine HV.o.2.2.1.mono ?_;rintro e W2 ⟨rfl,hB⟩;have H2:=hide (HV.o.1.trans (hB.mono HV.o.1.size));clear hB)
        go_ret
        exact ⟨by rw [HQ.o,←HV.o.2.2.2];rfl,H2.o⟩
end Go.Proofs.YtmemofonebphfaaGreat
namespace Go.Proofs.YtmemofonebphfaaGreat
open Go.RowKit Go.Sort
theorem zNM (c:Ctl):c.begin.p=c.points.map fun p=>yB p (16^c.steps.toNat):=by
 unfold Ctl.begin
 refine List.map_congr_left fun p _=> ?_
 simp [xU,yB]
theorem zF0 {w X0 Z:World} {g1 g2 g3 nt ct NC c9:Nat} {At A9:Option Addr} {cs1 cs2:Array Value} {CR:List E2} (hb1:Blk X0 g1 32 cs1) (hb2:Blk X0 g2 108 cs2) (hB0:Below w.heap.size w X0) (hb3:Blk Z g3 108 #[.slice none 0 0, .slice none 0 0, .slice none 0 0]) (hBZ:Below X0.heap.size X0 Z) (hs:Sl yH 2 Z Z.heap.size A9 CR) (hg:g3≠g1∧g3≠g2∧w.heap.size≤g3):
  ∃(g:Nat) (A:Option Addr) (c:Nat),Value.pointer (some ⟨g3,0,none⟩)= .pointer (some ⟨g,0,none⟩)∧Blk (((Z.setCell ⟨g3,0,none⟩ (.slice none 0 0)).setCell ⟨g3,1,none⟩ (.slice At nt ct)).setCell ⟨g3,2,none⟩ (.slice A9 NC c9)) g 108 #[.slice none 0 0, .slice At nt ct, .slice A NC c]∧Blk (((Z.setCell ⟨g3,0,none⟩ (.slice none 0 0)).setCell ⟨g3,1,none⟩ (.slice At nt ct)).setCell ⟨g3,2,none⟩ (.slice A9 NC c9)) g1 32 cs1∧Blk (((Z.setCell ⟨g3,0,none⟩ (.slice none 0 0)).setCell ⟨g3,1,none⟩ (.slice At nt ct)).setCell ⟨g3,2,none⟩ (.slice A9 NC c9)) g2 108 cs2∧Sl yH 2 (((Z.setCell ⟨g3,0,none⟩ (.slice none 0 0)).setCell ⟨g3,1,none⟩ (.slice At nt ct)).setCell ⟨g3,2,none⟩ (.slice A9 NC c9)) (((Z.setCell ⟨g3,0,none⟩ (.slice none 0 0)).setCell ⟨g3,1,none⟩ (.slice At nt ct)).setCell ⟨g3,2,none⟩ (.slice A9 NC c9)).heap.size A CR∧(w.heap.size≤g∧g1≠g∧g2≠g)∧Below w.heap.size w (((Z.setCell ⟨g3,0,none⟩ (.slice none 0 0)).setCell ⟨g3,1,none⟩ (.slice At nt ct)).setCell ⟨g3,2,none⟩ (.slice A9 NC c9)):=by
 refine ⟨g3,A9,c9,rfl,hb3.set3 _ _ _,(hb1.below hBZ hb1.lt).far3 hg.1.symm _ _ _,(hb2.below hBZ hb2.lt).far3 hg.2.1.symm _ _ _,?_,⟨hg.2.2,hg.1.symm,hg.2.1.symm⟩,?_⟩
 ·have h1:=Sl.far9 hs hb3 (fun x _=>vV x) 0 (.slice none 0 0) lr9
  have h2:=Sl.far9 h1 (hb3.set_ 0 (.slice none 0 0)) (fun x _=>vV x) 1 (.slice At nt ct) lr9
  have h3:=Sl.far9 h2 ((hb3.set_ 0 (.slice none 0 0)).set_ 1 (.slice At nt ct)) (fun x _=>vV x) 2 (.slice A9 NC c9) lr9
  exact h3.more (by simp)
 ·have h:=hB0.trans (hBZ.mono hB0.size)
  exact ((h.setCell (p:=⟨g3,0,none⟩) hg.2.2 _).setCell (p:=⟨g3,1,none⟩) hg.2.2 _).setCell (p:=⟨g3,2,none⟩) hg.2.2 _
set_option maxRecDepth 100000 in set_option maxHeartbeats 64000000 in
theorem zGE (Ap At Ac Ao Ad:Option Addr) (cp ct cc oc nd dc:Nat) (c:Ctl) (w:World) (hm:CtlM w w.heap.size Ap At Ac Ao Ad c) (hb:CtlB c) (hs:0≤c.steps∧c.steps≤4) (hf:∀e∈c.creases,yG e):
  Calls Tryz.prog 62 #[vCtl Ap c.points.length cp At c.tris.length ct Ac c.creases.length cc Ao c.corners.length oc c.steps Ad nd dc] w fun e w'=>∃Ap' cp' Ac' cc',e= .returned (hLev Ap' c.begin.p.length cp' At c.tris.length ct Ac' c.begin.cr.length cc')∧Own encP 3 43 w' w.heap.size (.slice Ap' c.begin.p.length cp') c.begin.p.length c.begin.p∧Sl yH 2 w' w'.heap.size Ac' c.begin.cr∧Below w.heap.size w w':=by
 have kset:=fun (W:World) (hW:Below w.heap.size w W)=>set_any Ac cc c.creases W (hm.below hW hW.size).cr (by have:=hb.cr;omega) hf
 have hcr:c.begin.cr=setE c.creases:=rfl
 have hpp:=zNM c
 have hpl2:c.begin.p.length=c.points.length:=List.length_map _
 obtain ⟨sn,hsn⟩:∃n:Nat,c.steps=n:=⟨c.steps.toNat,by omega⟩
 have hs4:sn≤4:=by omega
 rw [hsn,Int.toNat_natCast] at hpp
 obtain ⟨pw,hpw⟩:=ex9 ((16:Int)^sn)
 have kp:=fun W=>uG sn hs4 W
 simp only [←hpw] at kp hpp
 obtain ⟨np,hnp⟩:=ex9 (c.points.length)
 obtain ⟨nt,hnt⟩:=ex9 (c.tris.length)
 obtain ⟨nc,hnc⟩:=ex9 (c.creases.length)
 obtain ⟨no,hno⟩:=ex9 (c.corners.length)
 have hpl:np≤100000:=by rw [hnp];exact hb.p
 obtain ⟨CR,hCR⟩:=ex9 (setE c.creases)
 rw [hpl2,hcr,←hCR,hsn,←hnp,←hnt,←hnc,←hno,hpp]
 simp only [←hCR,←hnc] at kset
 obtain ⟨NC,hNC⟩:=ex9 (CR.length)
 rw [←hNC]
 simp only [←hNC] at kset
 have hxx:∀i x,c.points[i]? =some x→((c.points.take (i+1)).map fun p=>yB p pw)=((c.points.take i).map fun p=>yB p pw)++ [yB x pw]:=fun i x hx=>by rw [List.take_add_one,hx,List.map_append];rfl
 have HK:=hide (ai9 kset (ai9 kp (ai9 hxx (ai9 hm hnp))))
 clear kset kp hxx hm hb hf hcr hpp hpl2 hpw hnp hnt hnc hno hCR hNC hs hsn
 go_enter Tryz.func62,Tryz.ntmps62
 go_upto_region 1 with fail
 obtain ⟨g1,hg1⟩:=ex9 (w.heap.size)
 obtain ⟨g2,hg2⟩:=ex9 (w.heap.size+1)
 obtain ⟨X0,hX⟩:=ex9 ((w.alloc (.cells (cCtl Ap np cp At nt ct Ac nc cc Ao no oc sn Ad nd dc) 32)).alloc (.cells #[.slice none 0 0, .slice none 0 0, .slice none 0 0] 108))
 rw [←hX,←hg2,←hg1]
 have hb1:Blk X0 g1 32 (cCtl Ap np cp At nt ct Ac nc cc Ao no oc sn Ad nd dc):=by rw [hX,hg1];exact (Blk.new _ _ _).alloc _
 have hb2:Blk X0 g2 108 #[.slice none 0 0, .slice none 0 0, .slice none 0 0]:=by rw [hX,hg2];exact Blk.new' _ _ _ _ (by simp)
 have hBX:Below w.heap.size w X0:=by rw [hX];exact ((Below.refl _ w).alloc lr9 _).alloc (by simp) _
 have hgs:w.heap.size≤g1∧w.heap.size≤g2∧g1≠g2:=by omega
 have H0:=hide (ai9 hb1 (ai9 hb2 (ai9 hBX hgs)))
 clear hb1 hb2 hBX hX hg1 hg2 hgs
 go_cut [3] (fun v wx=>∃(g3:Nat) (A9:Option Addr) (c9:Nat),v= .pointer (some ⟨g3,0,none⟩)∧Blk wx g3 108 #[.slice none 0 0, .slice At nt ct, .slice A9 NC c9]∧Blk wx g1 32 (cCtl Ap np cp At nt ct Ac nc cc Ao no oc sn Ad nd dc)∧Blk wx g2 108 #[.slice none 0 0, .slice none 0 0, .slice none 0 0]∧Sl yH 2 wx wx.heap.size A9 CR∧(w.heap.size≤g3∧g1≠g3∧g2≠g3)∧Below w.heap.size w wx)
 case first=>
  obtain ⟨B0,hB0⟩:=ex9 (X0.heap.size)
  have HB0:=hide hB0
  have HSB:=hide (show Below B0 X0 X0.drew from by rw [hB0];exact (Below.refl _ X0).drew)
  clear hB0
  have z1:=H0.o.1.cell 1
  have z2:=H0.o.1.cell 2
  have hgl:g1 < B0:=by rw [HB0.o];exact H0.o.1.lt
  have HZ:=hide (ai9 z1 (ai9 z2 hgl))
  clear z1 z2 hgl
  refine jS (fun W=>Below B0 X0 W) [0,1,2,3,5] (.q 0 (.q 1 (.q 2 (.q 3 (.two 4 (.q 5 (.one 6 (.one 7 .nil))) 6 (.one 4 (.q 5 (.one 7 .nil)))))))) zL (by kernel_rfl) ?_
  refine yI (v:=(.pointer (some ⟨g1,1,none⟩))) rfl (fun _ _ _ h=>h) HSB.o ⟨rfl,fun _ _=>by simp [go_sem]⟩ ?_
  refine yI (v:=(.slice At nt ct)) rfl (fun _ _ _ h=>h) HSB.o ⟨rfl,fun _ h'=>by have a0:=(h'.cell (p:=⟨g1,1,none⟩) HZ.o.2.2).trans HZ.o.1;simp [go_sem,a0]⟩ ?_
  refine yI (v:=(.pointer (some ⟨g1,2,none⟩))) rfl (fun _ _ _ h=>h) HSB.o ⟨rfl,fun _ _=>by simp [go_sem]⟩ ?_
  refine yI (v:=(.slice Ac nc cc)) rfl (fun _ _ _ h=>h) HSB.o ⟨rfl,fun _ h'=>by have a0:=(h'.cell (p:=⟨g1,2,none⟩) HZ.o.2.2).trans HZ.o.2.1;simp [go_sem,a0]⟩ ?_
  simp only [List.getElem_toArray,List.getElem_cons_succ,List.getElem_cons_zero,Act.put,List.setIfInBounds_toArray,List.set_cons_succ,List.set_cons_zero]
  refine qF rfl rfl ?_ ?_
  ·skip
   go_wp2_with fail
   refine (HK.o.1 X0.drew (H0.o.2.2.1.drew)).mono ?_
   rintro e W1 ⟨A9,c9,rfl,hs9,hB⟩
   have hB:=qY hB
   have H1:=hide (ai9 hB (ai9 hs9 (show Below B0 X0 W1 from HB0.o▸hB)))
   clear hB hs9
   go_wp2_with fail
   refine ⟨fun _=>H1.o.2.2,?_⟩
   refine yI (v:=(.agg #[.slice none 0 0, .slice At nt ct, .slice A9 NC c9])) rfl (fun _ _ _ h=>h) H1.o.2.2 ⟨rfl,fun _ _=>by simp [go_sem]⟩ ?_
   simp only [List.getElem_toArray,List.getElem_cons_succ,List.getElem_cons_zero,Act.put,List.setIfInBounds_toArray,List.set_cons_succ,List.set_cons_zero]
   refine zY rfl ?_
   go_wp2_with fail
   obtain ⟨g3,hg3⟩:=ex9 (W1.heap.size)
   obtain ⟨Z,hZ⟩:=ex9 (W1.alloc (.cells #[.slice none 0 0, .slice none 0 0, .slice none 0 0] 108))
   have hbZ:Blk Z g3 108 #[.slice none 0 0, .slice none 0 0, .slice none 0 0]:=by rw [hZ,hg3];exact Blk.new _ _ _
   have hBZ:Below X0.heap.size X0 Z:=by rw [hZ];exact H1.o.1.alloc H1.o.1.size _
   have hsZ:Sl yH 2 Z Z.heap.size A9 CR:=by rw [hZ];exact (H1.o.2.1.below ((Below.refl _ W1).alloc lr9 _)).more (by simp)
   have hg3g:g3≠g1∧g3≠g2∧w.heap.size≤g3:=by have h1:=H0.o.1.lt;have h2:=H0.o.2.1.lt;have h3:=H1.o.1.size;have h4:=H0.o.2.2.1.size;omega
   rw [←hZ,←hg3]
   have HZZ:=hide (ai9 hbZ (ai9 hBZ (ai9 hsZ hg3g)))
   have HZS:=hide (show Below B0 X0 Z from HB0.o▸hBZ)
   clear hZ hg3 hBZ hsZ hg3g
   refine ⟨fun _=>HZS.o,?_⟩
   refine zY rfl ?_
   have f0:=hbZ.frozen 0
   have f1:=hbZ.frozen 1
   have f2:=hbZ.frozen 2
   have hlz:=hbZ.lt
   have k0:=hbZ.cell 0
   have k1:=hbZ.cell 1
   have k2:=hbZ.cell 2
   clear hbZ
   go_wp2_with fail
   refine ⟨fun h=>absurd (h.symm.trans (show _=false by kernel_rfl)) (by simp),?_⟩
   refine xI ?_
   go_wp2_with fail
   go_meet
   case rel=>
    exact zF0 H0.o.1 H0.o.2.1 H0.o.2.2.1 HZZ.o.1 HZZ.o.2.1 HZZ.o.2.2.1 HZZ.o.2.2.2
  ·skip
   go_wp2_with fail
   obtain ⟨g3,hg3⟩:=ex9 (X0.heap.size)
   obtain ⟨Y,hY⟩:=ex9 ((X0.alloc (.cells #[.slice none 0 0, .slice none 0 0, .slice none 0 0] 108)).drew)
   have hbY:Blk Y g3 108 #[.slice none 0 0, .slice none 0 0, .slice none 0 0]:=by rw [hY,hg3];exact Blk.new X0 _ _
   have hBY:Below X0.heap.size X0 Y:=by rw [hY];exact ((Below.refl _ X0).alloc lr9 _).drew
   have hg3g:g3≠g1∧g3≠g2∧w.heap.size≤g3:=by have h1:=H0.o.1.lt;have h2:=H0.o.2.1.lt;have h4:=H0.o.2.2.1.size;omega
   rw [←hY,←hg3]
   have HY:=hide (ai9 hbY (ai9 hBY hg3g))
   have HYS:=hide (show Below B0 X0 Y from HB0.o▸hBY)
   clear hY hg3 hBY hg3g hbY
   refine ⟨fun _=>HYS.o,?_⟩
   refine zY rfl ?_
   go_wp2_with fail
   refine (HK.o.1 Y (H0.o.2.2.1.trans (HY.o.2.1.mono H0.o.2.2.1.size))).mono ?_
   rintro e W1 ⟨A9,c9,rfl,hs9,hB⟩
   have hbZ:=HY.o.1.below hB HY.o.1.lt
   have H1:=hide (ai9 (HY.o.2.1.trans (hB.mono HY.o.2.1.size)) (ai9 hs9 hbZ))
   have HYT:=hide (show Below B0 X0 W1 from HB0.o▸H1.o.1)
   clear hB hs9
   go_wp2_with fail
   refine ⟨fun _=>HYT.o,?_⟩
   refine yI (v:=(.agg #[.slice none 0 0, .slice At nt ct, .slice A9 NC c9])) rfl (fun _ _ _ h=>h) HYT.o ⟨rfl,fun _ _=>by simp [go_sem]⟩ ?_
   simp only [List.getElem_toArray,List.getElem_cons_succ,List.getElem_cons_zero,Act.put,List.setIfInBounds_toArray,List.set_cons_succ,List.set_cons_zero]
   refine zY rfl ?_
   have f0:=hbZ.frozen 0
   have f1:=hbZ.frozen 1
   have f2:=hbZ.frozen 2
   have hlz:=hbZ.lt
   have k0:=hbZ.cell 0
   have k1:=hbZ.cell 1
   have k2:=hbZ.cell 2
   clear hbZ
   go_wp2_with fail
   refine ⟨fun h=>absurd (h.symm.trans (show _=false by kernel_rfl)) (by simp),?_⟩
   refine xI ?_
   go_wp2_with fail
   go_meet
   case rel=>
    exact zF0 H0.o.1 H0.o.2.1 H0.o.2.2.1 H1.o.2.2 H1.o.1 H1.o.2.1 HY.o.2.2
 case rest=>
  obtain ⟨g3,A9,c9,rfl,hb3,hb1,hb2,hs9,hgg,hB⟩:=hcut
  obtain ⟨X,rfl⟩:=ex9 (wc)
  have HX:=hide (ai9 hb3 (ai9 hb1 (ai9 hb2 (ai9 hs9 (ai9 hgg hB)))))
  clear hb3 hb1 hb2 hs9 hgg hB
  go_upto_region 3 with fail
  go_loopw [4] (fun iv wr=>∃(i:Nat) (vp:Value),i≤np∧iv= .int .i64 i∧Blk wr g3 108 #[vp, .slice At nt ct, .slice A9 NC c9]∧Blk wr g1 32 (cCtl Ap np cp At nt ct Ac nc cc Ao no oc sn Ad nd dc)∧Blk wr g2 108 #[.slice none 0 0, .slice none 0 0, .slice none 0 0]∧Own encP 3 43 wr X.heap.size vp i ((c.points.take i).map fun p=>yB p pw)∧Sl yH 2 wr X.heap.size A9 CR∧Below w.heap.size w wr∧X.heap.size≤wr.heap.size) (fun iv _=>np - (intOf iv).toNat)
  case atStart=>exact ⟨0,_,by omega,rfl,HX.o.1,HX.o.2.1,HX.o.2.2.1,by rw [List.take_zero];exact Own.nil,HX.o.2.2.2.1,HX.o.2.2.2.2.2,Nat.le_refl _⟩
  case round=>
   obtain ⟨i,vp,hi,rfl,hb3,hb1,hb2,hO,hs9,hB,hz⟩:=hrel
   obtain ⟨V,rfl⟩:=ex9 (wr)
   obtain ⟨Av,cv,rfl⟩:=hO.form
   have z0:=hb1.cell 0
   have z4:=hb1.cell 4
   have hgl:=hb1.lt
   have y0:=hb3.cell 0
   have hgl3:=hb3.lt
   by_cases hlt:i < np
   ·have i1:(i:Int) < (np:Int):=by omega
    obtain ⟨x,hx⟩:∃x,c.points[i]? =some x:=⟨_,List.getElem?_eq_getElem (by rw [←HK.o.2.2.2.2];exact hlt)⟩
    obtain ⟨bb,o,hA,hbb,_⟩:=HK.o.2.2.2.1.p.at hx
    subst hA
    have qx:=HK.o.2.2.2.1.p.ptW lr9 hx
    obtain ⟨c0,c1,c2,hbV⟩:=qx.2 V hB
    have htk:=HK.o.2.2.1 i x hx
    have ct:=times_any x pw
    obtain ⟨r,hr⟩:=ex9 (yB x pw)
    rw [←hr] at htk ct
    obtain ⟨r1,r2,r3⟩:=r
    obtain ⟨x1,x2,x3⟩:=x
    simp only at c0 c1 c2
    have HV:=hide (ai9 hO (ai9 hb3 (ai9 hb1 (ai9 hb2 (ai9 hs9 (ai9 hB (ai9 htk ct)))))))
    have HM:=hide (ai9 z0 (ai9 z4 (ai9 hgl (ai9 y0 (ai9 hgl3 (ai9 c0 (ai9 c1 (ai9 c2 hbV))))))))
    clear hO hb3 hb1 hb2 hs9 hB htk ct z4 y0 hgl3 c0 c1 c2 hbV hr hx hbb qx
    go_upto_region 5 with fail
    clear z0 hgl
    have HSB:=hide (show Below V.heap.size V V.drew from (Below.refl _ V).drew)
    refine zB (fun W=>Below V.heap.size V W) [0,1,2,3,4,5,6,7,8] [0,1,2,3,4,5,6,7,8,9,10,11,12,13,14] zL (by kernel_rfl) ?_
    refine zA (v:=(.pointer (some ⟨g3,0,none⟩))) rfl rfl (fun _ _ _ h=>h) HSB.o ⟨rfl,fun _ _=>by simp [go_sem]⟩ ?_
    refine zA (v:=(.slice Av i cv)) rfl rfl (fun _ _ _ h=>h) HSB.o ⟨rfl,fun _ h'=>by have a0:=(h'.cell (p:=⟨g3,0,none⟩) HM.o.2.2.2.2.1).trans HM.o.2.2.2.1;simp [go_sem,a0]⟩ ?_
    refine zA (v:=(.pointer (some ⟨g1,0,none⟩))) rfl rfl (fun _ _ _ h=>h) HSB.o ⟨rfl,fun _ _=>by simp [go_sem]⟩ ?_
    refine zA (v:=(.slice (some ⟨bb,o,none⟩) np cp)) rfl rfl (fun _ _ _ h=>h) HSB.o ⟨rfl,fun _ h'=>by have a0:=(h'.cell (p:=⟨g1,0,none⟩) HM.o.2.2.1).trans HM.o.1;simp [go_sem,a0]⟩ ?_
    refine zA (v:=(.int .i64 i)) rfl rfl (fun _ _ _ h=>h) HSB.o ⟨rfl,fun _ _=>by simp [go_sem]⟩ ?_
    refine zA (v:=(.pointer (some ⟨bb,o+i*3,none⟩))) rfl rfl (fun _ _ _ h=>h) HSB.o ⟨rfl,fun _ _=>by simp [go_sem,i1]⟩ ?_
    simp only [List.getElem_toArray,List.getElem_cons_succ,List.getElem_cons_zero,Act.put,List.setIfInBounds_toArray,List.set_cons_succ,List.set_cons_zero]
    refine zA (v:=vP (x1,x2,x3)) rfl rfl (fun _ _ _ h=>h) HSB.o ⟨rfl,fun _ h'=>by have a0:=(h'.cell (p:=⟨bb,o+i*3,none⟩) HM.o.2.2.2.2.2.2.2.2).trans HM.o.2.2.2.2.2.1;have a1:=(h'.cell (p:=⟨bb,o+i*3+1,none⟩) HM.o.2.2.2.2.2.2.2.2).trans HM.o.2.2.2.2.2.2.1;have a2:=(h'.cell (p:=⟨bb,o+i*3+2,none⟩) HM.o.2.2.2.2.2.2.2.2).trans HM.o.2.2.2.2.2.2.2.1;simp [go_sem,a0,a1,a2]⟩ ?_
    refine zA (v:=(.pointer (some ⟨g1,4,none⟩))) rfl rfl (fun _ _ _ h=>h) HSB.o ⟨rfl,fun _ _=>by simp [go_sem]⟩ ?_
    refine zA (v:=(.int .i64 sn)) rfl rfl (fun _ _ _ h=>h) HSB.o ⟨rfl,fun _ h'=>by have a0:=(h'.cell (p:=⟨g1,4,none⟩) HM.o.2.2.1).trans HM.o.2.1;simp [go_sem,a0]⟩ ?_
    simp only [List.getElem_toArray,List.getElem_cons_succ,List.getElem_cons_zero,Act.put,List.setIfInBounds_toArray,List.set_cons_succ,List.set_cons_zero]
    refine zD rfl rfl ?_
    go_wp2_with fail
    refine (HK.o.2.1 V.drew).mono ?_
    rintro e Wq ⟨rfl,hWq⟩
    obtain rfl:V.drew=Wq:=hWq.symm
    go_wp2_with fail
    refine ⟨fun _=>HSB.o,?_⟩
    refine zD rfl rfl ?_
    go_wp2_with fail
    refine (HV.o.2.2.2.2.2.2.2 V.drew).mono ?_
    rintro e W1 ⟨rfl,hB1⟩
    have H1:=hide (qY hB1)
    clear hB1
    go_wp2_with fail
    refine ⟨fun _=>H1.o,?_⟩
    have hz1:=H1.o.size
    refine zD rfl rfl ?_
    go_wp2_with fail
    refine ⟨fun _=>H1.o.alloc hz1 _,?_⟩
    refine zJ _ [_,_,_] (by kernel_rfl) rfl ?_
    refine zC rfl _ _ _ rfl Tryz.underlying28 bC rfl (by omega) zO yQ rfl ((HV.o.1.below H1.o lr9).alloc _) W1.heap.size 1 ((r1,r2,r3):Pt) rfl (Blk.new _ _ _) (by unfold maxLen;omega) (by omega) (by simp;omega) ?_
    intro g5 cap5 w5 hown5 hg5 hB5 hat5 hgb5 hlt5
    have hBV:Below V.heap.size V (W1.alloc (.cells #[.int .i64 r1, .int .i64 r2, .int .i64 r3] 43)):=H1.o.alloc hz1 _
    have hro:∀{g:Nat} {t:TypeId} {cs:Array Value},Blk V g t cs→(43:TypeId)≠t→Blk w5 g t cs:=fun hb hte=>(hb.below hBV hb.lt).grown hg5 (zF (hb.below hBV hb.lt) ((HV.o.1.below H1.o lr9).alloc _) hte)
    have hb3:=hro HV.o.2.1 (by decide)
    have hb1:=hro HV.o.2.2.1 (by decide)
    have hb2:=hro HV.o.2.2.2.1 (by decide)
    have hXw:w.heap.size≤X.heap.size:=HX.o.2.2.2.2.2.size
    have hBw:Below w.heap.size w w5:=(HV.o.2.2.2.2.2.1.trans (hBV.mono HV.o.2.2.2.2.2.1.size)).trans (hB5.mono hXw)
    have hs5:Sl yH 2 w5 X.heap.size A9 CR:=(HV.o.2.2.2.2.1.below (hBV.mono hz)).below hB5
    have hz5:X.heap.size≤w5.heap.size:=Nat.le_trans (Nat.le_trans hz hBV.size) hB5.size
    have f0:=hb3.frozen 0
    have f3:=hb3.lt
    have k3:=hb3.cell 0
    have H5:=hide (ai9 hown5 (ai9 hb3 (ai9 hb1 (ai9 hb2 (ai9 hs5 (ai9 hBw hz5))))))
    clear hown5 hg5 hB5 hat5 hgb5 hlt5 hBV hro hb3 hb1 hb2 hBw hs5 hz5 hXw
    go_wp2_with fail
    go_roundw
    case rel=>
     have hgg:=HX.o.2.2.2.2.1
     exact ⟨i+1,_,by omega,by go_num,H5.o.2.1.set_ 0 _,H5.o.2.2.1.far (p:=⟨g3,0,none⟩) hgg.2.1 _,H5.o.2.2.2.1.far (p:=⟨g3,0,none⟩) hgg.2.2 _,by rw [HV.o.2.2.2.2.2.2.1];exact H5.o.1.kept (zG w5 g3 0 _) (.inr (zF H5.o.2.1 H5.o.1 (by decide)).symm),Sl.far9 H5.o.2.2.2.2.1 H5.o.2.1 (fun x _=>vV x) 0 _ lr9,H5.o.2.2.2.2.2.1.setCell (p:=⟨g3,0,none⟩) hgg.1 _,by simp;exact H5.o.2.2.2.2.2.2⟩
    case measure=>(simp [intOf];try omega)
   ·obtain rfl:i=np:=by omega
    have i1:¬(i:Int) < (i:Int):=by omega
    have ht:c.points.take i=c.points:=by rw [HK.o.2.2.2.2];exact List.take_length
    rw [ht] at hO
    have y1:=hb3.cell 1
    have y2:=hb3.cell 2
    have f0:=hb2.frozen 0
    have f1:=hb2.frozen 1
    have f2:=hb2.frozen 2
    have l2:=hb2.lt
    have q0:=hb2.cell 0
    have q1:=hb2.cell 1
    have q2:=hb2.cell 2
    have HV:=hide (ai9 hO (ai9 hb2 (ai9 hs9 (ai9 hB hz))))
    clear hO hb2 hb1 hb3 hs9 hB ht
    go_wp2
    refine yX (v:=hLev Av i cv At nt ct A9 NC c9) (fun W=>Blk W g2 108 #[.slice Av i cv, .slice At nt ct, .slice A9 NC c9]) ?_ (fun W hW=> ?_) rfl ?_
    ·exact HV.o.2.1.set3 _ _ _
    ·obtain ⟨a0,a1,a2⟩:=hW.three
     simp [results,Tryz.results62,go_sem,a0,a1,a2]
    ·refine ⟨_,_,_,⟨_,rfl⟩,(HV.o.1.far9 HV.o.2.1 (by decide) _ _ _).base_le HX.o.2.2.2.2.2.size,?_,((HV.o.2.2.2.1.setCell (p:=⟨g2,0,none⟩) H0.o.2.2.2.2.1 _).setCell (p:=⟨g2,1,none⟩) H0.o.2.2.2.2.1 _).setCell (p:=⟨g2,2,none⟩) H0.o.2.2.2.2.1 _⟩
     have h1:=Sl.far9 HV.o.2.2.1 HV.o.2.1 (fun x _=>vV x) 0 (.slice Av i cv) lr9
     have h2:=Sl.far9 h1 (HV.o.2.1.set_ 0 (.slice Av i cv)) (fun x _=>vV x) 1 (.slice At nt ct) lr9
     have h3:=Sl.far9 h2 ((HV.o.2.1.set_ 0 (.slice Av i cv)).set_ 1 (.slice At nt ct)) (fun x _=>vV x) 2 (.slice A9 NC c9) lr9
     exact h3.more (by simp;exact HV.o.2.2.2.2)
end Go.Proofs.YtmemofonebphfaaGreat
namespace Go.Proofs.YtmemofonebphfaaGreat
open Go.RowKit Go.Sort
theorem jX {l m:List E2} (hl:l.Pairwise (fun a b=>leO ltE2 a b=true)) (hm:m.Pairwise (fun a b=>leO ltE2 a b=true)) (hp:l.Perm m):l=m:=
 hp.eq_of_pairwise (fun a b _ _ h1 h2=>by
  simp only [leO,Bool.not_eq_true'] at h1 h2
  exact gI.tot a b h2 h1) hl hm
theorem LvR.cr_filter {L:Lev} (h:LvR L):L.cr=(zH L.t).filter fun e=>decide (e∈L.cr):=by
 refine jX h.crS ((qL L.t).filter _) ?_
 refine (List.perm_ext_iff_of_nodup h.crN ((qK h.cls.nodup).filter _)).2 fun e=> ?_
 rw [List.mem_filter,decide_eq_true_eq]
 exact ⟨fun he=>⟨h.crE e he,he⟩,fun he=>he.2⟩
theorem LvR.cr_le {L:Lev} (h:LvR L):L.cr.length≤(zH L.t).length:=by
 rw [h.cr_filter]
 exact List.length_filter_le _ _
theorem zFF:∀{k n m:Nat} {ds:List (List Pt)} {d:List Pt},jQ ds n m=false→k < n→ds[k]? =some d→d.length≤4^k*m
 | 0,n+1,m,d0::ds,d,h,_,hd=>by
  unfold jQ at h
  simp only [Bool.or_eq_false_iff,decide_eq_false_iff_not] at h
  have e:d0=d:=by simpa using hd
  subst e
  simp
  omega
 | k+1,n+1,m,d0::ds,d,h,hk,hd=>by
  unfold jQ at h
  simp only [Bool.or_eq_false_iff] at h
  have:=zFF (k:=k) (n:=n) h.2 (by omega) (by simpa using hd)
  rw [Nat.pow_succ,Nat.mul_assoc]
  exact this
 | 0,_,_, [],_,_,_,hd=>by simp at hd
 | _+1,_,_, [],_,_,_,hd=>by simp at hd
 | _,0,_,_,_,_,hk,_=>absurd hk (by omega)
section
variable {c:Ctl} (h:zDU c) (hb:xE c.tris)
include h hb
theorem kL (k:Nat):2*(zH (c.level k).t).length=3*(4^k*c.tris.length):=by
 rw [←Ctl.level_t]
 exact (Ctl.level_right h hb k).cls.count
omit hb in
theorem zAK {k:Nat} (hk:k≤c.steps.toNat):4^k*c.tris.length≤65536:=Nat.le_trans (Nat.mul_le_mul_right _ (Nat.pow_le_pow_right (by omega) hk)) h.tri
theorem zAR:∀{k:Nat},k≤c.steps.toNat→(c.level k).p.length≤c.points.length+k*98304
 | 0,_=>by show (c.points.map _).length≤_;rw [List.length_map];omega
 | k+1,hk=>by
  rw [Ctl.level_p]
  have h1:=zAR (k:=k) (by omega)
  have h2:=kL h hb k
  have h3:=zAK h (k:=k) (by omega)
  omega
theorem jV (hB:CtlB c) {k:Nat} (hk:k≤c.steps.toNat):LevB (c.level k) c.corners:=by
 have h1:=zAR h hb hk
 have h2:=kL h hb k
 have h3:=zAK h hk
 have h4:=(Ctl.level_right h hb k).cr_le
 have h5:=h.st
 have h6:=hB.p
 have h7:=hB.o
 refine ⟨by omega,by rw [Ctl.level_t];omega,by omega,by omega⟩
theorem zKF {k:Nat} {d:List Pt} (hk:k < c.steps.toNat) (hd:c.details[k]? =some d):d.length≤(zH (c.level k).t).length:=by
 have h1:=zFF h.many hk hd
 have h2:=kL h hb k
 have h0:=kL h hb 0
 simp only [Nat.pow_zero,Nat.one_mul] at h0
 have e:3*c.tris.length / 2=(zH (c.level 0).t).length:=by omega
 rw [e] at h1
 have h3:2*(4^k*(zH (c.level 0).t).length)=2*(zH (c.level k).t).length:=by
  rw [h2,Nat.mul_left_comm,h0,Nat.mul_left_comm]
 omega
end
theorem zFU (a:List Pt) (n:Int):detE a [] n=a:=by
 unfold detE
 refine List.ext_getElem? fun i=> ?_
 rw [List.getElem?_mapIdx]
 cases a[i]? <;>rfl
theorem zNH {a ds:List Pt} {n:Int} {i j:Nat} {x:Pt} (hx:a[j]? =some x) (hj:i≤j):(detE a (ds.take i) n)[j]? =some x:=by
 unfold detE
 rw [List.getElem?_mapIdx,hx]
 have:(ds.take i)[j]? =none:=by rw [List.getElem?_take,if_neg (by omega)]
 show some (match (ds.take i)[j]? with | some d=>xU x d n | none=>x)=some x
 rw [this]
theorem zLJ {a ds:List Pt} {n:Int} {i:Nat} {x d:Pt} (hx:a[i]? =some x) (hd:ds[i]? =some d):(detE a (ds.take i) n).set i (xU x d n)=detE a (ds.take (i+1)) n:=by
 refine List.ext_getElem? fun j=> ?_
 rw [List.getElem?_set]
 split
 ·rename_i e
  subst e
  have hl:i < (detE a (ds.take i) n).length:=by rw [fF];exact (List.getElem?_eq_some_iff.1 hx).1
  rw [if_pos hl]
  unfold detE
  rw [List.getElem?_mapIdx,hx]
  have:(ds.take (i+1))[i]? =some d:=by rw [List.getElem?_take,if_pos (by omega)];exact hd
  show _=some (match (ds.take (i+1))[i]? with | some d=>xU x d n | none=>x)
  rw [this]
 ·rename_i e
  unfold detE
  rw [List.getElem?_mapIdx,List.getElem?_mapIdx]
  have:(ds.take (i+1))[j]? =(ds.take i)[j]? :=by
   rw [List.getElem?_take,List.getElem?_take]
   by_cases h:j < i
   ·rw [if_pos h,if_pos (by omega)]
   ·rw [if_neg h,if_neg (by omega)]
  rw [this]
theorem zJY (a d:Pt) (n:Int):addP a (yB d n)=xU a d n:=by
 simp only [addP,yB,xU,vJ]
def finP (c:Ctl):List Pt:=if errC c=0 then (c.level c.steps.toNat).p else []
def finT (c:Ctl):List Pt:=if errC c=0 then (c.level c.steps.toNat).t else []
end Go.Proofs.YtmemofonebphfaaGreat
namespace Go.Proofs.YtmemofonebphfaaGreat
open Go.RowKit Go.Sort
def zM5 (t u:Tri):Bool:=memE (t.2.1,t.1) (zK [u]) && (memE (t.2.2,t.2.1) (zK [u]) && memE (t.1,t.2.2) (zK [u]))
def codP (p:Pt):Nat:=p.1.toNat+4*p.2.1.toNat+16*p.2.2.toNat
def codV (n m:Nat):Nat:=(n % 3+m % 2)+4*(n / 3 % 3+m / 2 % 2)+16*(n / 9+m / 4)
theorem zD9 (n m:Nat):codP (cor8 (voxC (0,0,0) 1 n) 1 m)=codV n m:=by
 unfold codP codV cor8 voxC
 dsimp only
 omega
abbrev T3:=Nat × Nat × Nat
def sixI:Nat→List T3
 | 0=> [(0,2,3),(0,3,1)]
 | 1=> [(4,5,7),(4,7,6)]
 | 2=> [(0,1,5),(0,5,4)]
 | 3=> [(2,6,7),(2,7,3)]
 | 4=> [(0,4,6),(0,6,2)]
 | _=> [(1,3,7),(1,7,5)]
def cod3 (n:Nat) (x:T3):T3:=(codV n x.1,codV n x.2.1,codV n x.2.2)
theorem zFV (n f:Nat):∀t∈zN2 n f,∃x∈sixI f,cod3 n x=(codP t.1,codP t.2.1,codP t.2.2):=by
 intro t ht
 have key:∀i j k:Nat,cod3 n (i,j,k)=(codP (cor8 (voxC (0,0,0) 1 n) 1 i),codP (cor8 (voxC (0,0,0) 1 n) 1 j),codP (cor8 (voxC (0,0,0) 1 n) 1 k)):=fun i j k=>by
  rw [zD9,zD9,zD9];rfl
 rcases f with _ | _ | _ | _ | _ | f <;>simp only [zN2,kU,yT,List.mem_cons,List.not_mem_nil,or_false] at ht <;>rcases ht with rfl | rfl <;>
  first
  | exact ⟨_,List.mem_cons_self,key _ _ _⟩
  | exact ⟨_,List.mem_cons_of_mem _ List.mem_cons_self,key _ _ _⟩
def memC (x y:Nat) (u:T3):Bool:=(Nat.beq x u.1 && Nat.beq y u.2.1) || ((Nat.beq x u.2.1 && Nat.beq y u.2.2) || (Nat.beq x u.2.2 && Nat.beq y u.1))
def zLC (n f m g:Nat):Bool:=decide (nbrV n f=some m) || (sixI f).all fun x=>(sixI g).all fun y=> !(memC (codV n x.2.1) (codV n x.1) (cod3 m y) && memC (codV n x.2.2) (codV n x.2.1) (cod3 m y))
def zLU (z:Nat):Bool:=(List.range 9).all fun n=>(List.range 6).all fun f=>(List.range 27).all fun m=>(List.range 6).all fun g=>zLC (9*z+n) f m g
theorem zM3:zLU 0=true:=by decide+kernel
theorem zMU:zLU 1=true:=by decide+kernel
theorem zM0:zLU 2=true:=by decide+kernel
theorem zL2 {n f m g:Nat} (hn:n < 27) (hf:f < 6) (hm:m < 27) (hg:g < 6):zLC n f m g=true:=by
 have key:∀z,zLU z=true→n / 9=z→zLC n f m g=true:=fun z h e=>by
  have h1:=List.all_eq_true.1 (List.all_eq_true.1 (List.all_eq_true.1 (List.all_eq_true.1 h (n % 9) (List.mem_range.2 (by omega))) f (List.mem_range.2 hf)) m (List.mem_range.2 hm)) g (List.mem_range.2 hg)
  rw [show 9*z+n % 9=n by omega] at h1
  exact h1
 have hz:n / 9=0∨n / 9=1∨n / 9=2:=by omega
 rcases hz with h | h | h
 ·exact key 0 zM3 h
 ·exact key 1 zMU h
 ·exact key 2 zM0 h
theorem zD4 {x y:Pt} {u:Tri} (h:memE (x,y) (zK [u])=true):memC (codP x) (codP y) (codP u.1,codP u.2.1,codP u.2.2)=true:=by
 rw [zF8] at h
 have e:zK [u]= [(u.1,u.2.1),(u.2.1,u.2.2),(u.2.2,u.1)]:=rfl
 rw [e] at h
 simp only [List.mem_cons,List.not_mem_nil,or_false,Prod.mk.injEq] at h
 unfold memC
 rcases h with ⟨rfl,rfl⟩ | ⟨rfl,rfl⟩ | ⟨rfl,rfl⟩ <;>simp
theorem zKQ {b:Nat→Bool} {t u:Tri} (ht:t∈voxP b (0,0,0) 1) (hu:u∈voxP b (0,0,0) 1):zM5 t u=false:=by
 obtain ⟨n,f,hn,hf,hb,ho,hs⟩:=zEF ht
 obtain ⟨m,g,hm,hg,hb2,ho2,hs2⟩:=zEF hu
 have h1:=zL2 hn hf hm hg
 unfold zLC at h1
 rw [Bool.or_eq_true] at h1
 rcases h1 with h1 | h1
 ·exfalso
  have h1:=of_decide_eq_true h1
  unfold bF at ho
  rw [h1] at ho
  simp [hb2] at ho
 ·refine Bool.eq_false_iff.2 fun hk=> ?_
  unfold zM5 at hk
  rw [Bool.and_eq_true,Bool.and_eq_true] at hk
  obtain ⟨x,hx,ex⟩:=zFV n f t hs
  obtain ⟨y,hy,ey⟩:=zFV m g u hs2
  have h2:=List.all_eq_true.1 (List.all_eq_true.1 h1 x hx) y hy
  have k1:=zD4 hk.1
  have k2:=zD4 hk.2.1
  rw [←ey] at k1 k2
  unfold cod3 at ex
  simp only [Prod.mk.injEq] at ex
  rw [←ex.1,←ex.2.1] at k1
  rw [←ex.2.1,←ex.2.2] at k2
  rw [k1,k2] at h2
  cases h2
def tetB:List Pt:= [(0,2,1),(0,1,3),(1,2,3),(2,0,3)]
def octB:List Pt:= [(0,2,4),(2,1,4),(1,3,4),(3,0,4),(2,0,5),(1,2,5),(3,1,5),(0,3,5)]
def torR (y x:Nat):List Pt:=
 [(((3*y+x:Nat):Int),((3*y+(x+1) % 3:Nat):Int),((3*((y+1) % 3)+(x+1) % 3:Nat):Int)),(((3*y+x:Nat):Int),((3*((y+1) % 3)+(x+1) % 3:Nat):Int),((3*((y+1) % 3)+x:Nat):Int))]
def torB:List Pt:=(List.range 3).flatMap fun y=>(List.range 3).flatMap (torR y)
def posC:List Pt→Pt→Nat
 | [],_=>0
 | _::l,q=>if l.any (fun r=>decide (r=q)) then posC l q+1 else 0
def numV (l:List Tri):List Pt:=l.map fun t=>((posC (zN l) t.1:Int),(posC (zN l) t.2.1:Int),(posC (zN l) t.2.2:Int))
def uH (bits:Int):Nat:=2^(bits % 27).toNat ||| 2^((bits.tdiv 27) % 27).toNat
def voxB (bits:Int):List Tri:=voxP (uH bits).testBit (0,0,0) 1
def qN (kind bits:Int):List Pt:=
 if kind % 4=0 then tetB else if kind % 4=1 then octB else if kind % 4=2 then torB else if yN (voxB bits) false=0 then numV (voxB bits) else tetB
def kW (kind bits:Int):Nat:=
 if kind % 4=0 then 4 else if kind % 4=1 then 6 else if kind % 4=2 then 9 else if yN (voxB bits) false=0 then (zN (voxB bits)).length else 4
structure zJN (t:List Pt) (n:Nat):Prop where
 idx:∀x∈t,(0≤x.1∧x.1 < (n:Int))∧(0≤x.2.1∧x.2.1 < (n:Int))∧0≤x.2.2∧x.2.2 < (n:Int)
 chk:yN (t.map numT) false=0
 back:xE t
 few:t.length≤324
 pts:n≤972
 some:1≤n
 edg:1≤(zH t).length
def zPB (t:List Pt):Bool:=t.all fun x=>t.all fun y=> !((de3 x).all fun e=>(de3 y).any fun d=>decide (d=swE e))
theorem dP {t:List Pt} (h:zPB t=true):xE t:=fun x hx y hy hb=>by
 have h1:=List.all_eq_true.1 (List.all_eq_true.1 h x hx) y hy
 rw [Bool.not_eq_true',←Bool.not_eq_true,List.all_eq_true] at h1
 exact h1 fun e he=>List.any_eq_true.2 ⟨_,hb e he,by simp⟩
def idxN (t:List Pt) (n:Int):Bool:=t.all fun x=>decide (0≤x.1) && decide (x.1 < n) && decide (0≤x.2.1) && decide (x.2.1 < n) && decide (0≤x.2.2) && decide (x.2.2 < n)
theorem zJF {t:List Pt} {n:Int} (h:idxN t n=true):∀x∈t,(0≤x.1∧x.1 < n)∧(0≤x.2.1∧x.2.1 < n)∧0≤x.2.2∧x.2.2 < n:=fun x hx=>by
 have:=List.all_eq_true.1 h x hx
 simp only [Bool.and_eq_true,decide_eq_true_eq] at this
 omega
theorem zIV {t:List Pt} (h:t.any (fun x=>decide (x.1 < x.2.1))=true):1≤(zH t).length:=by
 obtain ⟨x,hx,h1⟩:=List.any_eq_true.1 h
 have hm:(x.1,x.2.1)∈zH t:=zZ.2 ⟨zX.2 ⟨x,hx,by simp [de3]⟩,of_decide_eq_true h1⟩
 exact List.length_pos_of_mem hm
theorem wZ:zJN tetB 4:=⟨zJF (by decide+kernel),by decide+kernel,dP (by decide+kernel),by decide,by decide,by decide,zIV (by decide+kernel)⟩
theorem zH6:zJN octB 6:=⟨zJF (by decide+kernel),by decide+kernel,dP (by decide+kernel),by decide,by decide,by decide,zIV (by decide+kernel)⟩
theorem zH8:zJN torB 9:=⟨zJF (by decide+kernel),by decide+kernel,dP (by decide+kernel),by decide+kernel,by decide,by decide,zIV (by decide+kernel)⟩
theorem zAC:∀{l:List Pt} {q:Pt},q∈l→l[posC l q]? =some q
 | p::l,q,h=>by
  unfold posC
  split
  ·rename_i h1
   obtain ⟨r,hr,e⟩:=List.any_eq_true.1 h1
   have e:=of_decide_eq_true e
   subst e
   rw [List.getElem?_cons_succ]
   exact zAC hr
  ·rename_i h1
   rcases List.mem_cons.1 h with rfl | h
   ·rfl
   ·exact absurd (List.any_eq_true.2 ⟨q,h,by simp⟩) h1
theorem jW {l:List Pt} {p q:Pt} (hp:p∈l) (hq:q∈l) (h:posC l p=posC l q):p=q:=by
 have h1:=zAC hp
 have h2:=zAC hq
 rw [h,h2] at h1
 exact (Option.some.inj h1).symm
theorem zEK {l:List Pt} {q:Pt} (h:q∈l):posC l q < l.length:=(List.getElem?_eq_some_iff.1 (zAC h)).1
theorem wC {l:List Tri} {t:Tri} (h:t∈l):t.1∈zN l∧t.2.1∈zN l∧t.2.2∈zN l:=
 by
 have hm:∀q,q∈ [t.1,t.2.1,t.2.2]→q∈zN l:=fun q hq=>((jE l).2 q).2 (List.mem_flatMap.2 ⟨t,h,hq⟩)
 exact ⟨hm _ (by simp),hm _ (by simp),hm _ (by simp)⟩
theorem zO3 (bits:Int):∃k,k < 27∧(uH bits).testBit k=true:=by
 refine ⟨(bits % 27).toNat,by omega,?_⟩
 unfold uH
 rw [Nat.testBit_or,Nat.testBit_two_pow]
 simp
theorem zLO (bits:Int):uH bits < 134217728:=by
 unfold uH
 exact Nat.or_lt_two_pow (n:=27) (Nat.pow_lt_pow_right (by omega) (by omega)) (Nat.pow_lt_pow_right (by omega) (by omega))
theorem zKA {bits:Int} (hc:yN (voxB bits) false=0) (hne:voxB bits≠ []):zJN (numV (voxB bits)) (zN (voxB bits)).length:=by
 have hcm:∀p∈vN (voxB bits),p∈zN (voxB bits):=fun p hp=>((jE _).2 p).2 hp
 have hnum:∀x∈numV (voxB bits),∃t∈voxB bits,x=((posC (zN (voxB bits)) t.1:Int),(posC (zN (voxB bits)) t.2.1:Int),(posC (zN (voxB bits)) t.2.2:Int)):=fun x hx=>by
  obtain ⟨t,ht,e⟩:=List.mem_map.1 hx
  exact ⟨t,ht,e.symm⟩
 have hck:yN ((numV (voxB bits)).map numT) false=0:=by
  have e:(numV (voxB bits)).map numT=(voxB bits).map (renT fun p=>((posC (zN (voxB bits)) p:Int),0,0)):=by
   unfold numV
   rw [List.map_map]
   rfl
  rw [e]
  refine (zIF fun p hp q hq h=> ?_).2 hc
  simp only [Prod.mk.injEq,and_true] at h
  exact jW (hcm p hp) (hcm q hq) (by omega)
 have hdist:=(vW.1 hck).1
 refine ⟨fun x hx=> ?_,hck,fun x hx y hy hb=> ?_,?_,?_,?_,?_⟩
 ·obtain ⟨t,ht,rfl⟩:=hnum x hx
  have:=wC ht
  have h1:=zEK this.1
  have h2:=zEK this.2.1
  have h3:=zEK this.2.2
  dsimp only
  omega
 ·obtain ⟨t,ht,rfl⟩:=hnum x hx
  obtain ⟨u,hu,rfl⟩:=hnum y hy
  have h1:=zKQ ht hu
  have ct:=wC ht
  have cu:=wC hu
  have key:∀p q:Pt,p∈zN (voxB bits)→q∈zN (voxB bits)→((posC (zN (voxB bits)) p:Int),(posC (zN (voxB bits)) q:Int))∈de3 ((posC (zN (voxB bits)) u.1:Int),(posC (zN (voxB bits)) u.2.1:Int),(posC (zN (voxB bits)) u.2.2:Int))→memE (p,q) (zK [u])=true:=fun p q hp hq h=>by
   rw [zF8]
   simp only [yM,Prod.mk.injEq] at h
   have e:zK [u]= [(u.1,u.2.1),(u.2.1,u.2.2),(u.2.2,u.1)]:=rfl
   rw [e]
   rcases h with ⟨ha,hb⟩ | ⟨ha,hb⟩ | ⟨ha,hb⟩
   ·rw [jW hp cu.1 (by omega),jW hq cu.2.1 (by omega)];simp
   ·rw [jW hp cu.2.1 (by omega),jW hq cu.2.2 (by omega)];simp
   ·rw [jW hp cu.2.2 (by omega),jW hq cu.1 (by omega)];simp
  have k1:=key t.2.1 t.1 ct.2.1 ct.1 (hb (_,_) (by simp [de3]))
  have k2:=key t.2.2 t.2.1 ct.2.2 ct.2.1 (hb (_,_) (by simp [de3]))
  have k3:=key t.1 t.2.2 ct.1 ct.2.2 (hb (_,_) (by simp [de3]))
  unfold zM5 at h1
  rw [k1,k2,k3] at h1
  cases h1
 ·unfold numV;rw [List.length_map];exact zD5 _ _ _
 ·have:=wW (voxB bits)
  have:=zD5 (uH bits).testBit (0,0,0) 1
  unfold voxB at*
  omega
 ·obtain ⟨t,ht⟩:=List.exists_mem_of_ne_nil _ hne
  exact List.length_pos_of_mem (wC ht).1
 ·obtain ⟨t,ht⟩:=List.exists_mem_of_ne_nil _ hne
  have hx:((posC (zN (voxB bits)) t.1:Int),(posC (zN (voxB bits)) t.2.1:Int),(posC (zN (voxB bits)) t.2.2:Int))∈numV (voxB bits):=List.mem_map.2 ⟨t,ht,rfl⟩
  have hd:=hdist _ hx
  have he:=zX.2 ⟨_,hx,yM.2 (.inl rfl)⟩
  have hs:=(vW.1 hck).2.2.1 _ he
  dsimp only at hd
  by_cases h:((posC (zN (voxB bits)) t.1:Int)) < (posC (zN (voxB bits)) t.2.1:Int)
  ·exact List.length_pos_of_mem (zZ.2 ⟨he,h⟩)
  ·have h2:(posC (zN (voxB bits)) t.2.1:Int) < (posC (zN (voxB bits)) t.1:Int):=by have:=hd.1;omega
   exact List.length_pos_of_mem (zZ.2 ⟨hs,h2⟩)
theorem zL4 (bits:Int):voxB bits≠ []:=by
 have hb:∀m,(uH bits).testBit m=(decide ((bits % 27).toNat=m) || decide (((bits.tdiv 27) % 27).toNat=m)):=fun m=>by
  unfold uH
  rw [Nat.testBit_or,Nat.testBit_two_pow,Nat.testBit_two_pow]
 have key:∀n,n < 27→(uH bits).testBit n=true→(uH bits).testBit (n+1)=false→voxB bits≠ []:=fun n hn h1 h2 he=>by
  have ho:bF (uH bits).testBit n 5=true:=by
   have hx:nbrV n 5=if n % 3=2 then none else some (n+1):=rfl
   unfold bF
   rw [hx]
   by_cases h:n % 3=2
   ·rw [if_pos h]
   ·rw [if_neg h]
    show (!(uH bits).testBit (n+1))=true
    rw [h2];rfl
  have hm:=zLR (o:=(0,0,0)) (s:=1) hn (show 5 < 6 by omega) h1 ho (t:=(cor8 (voxC (0,0,0) 1 n) 1 1,cor8 (voxC (0,0,0) 1 n) 1 3,cor8 (voxC (0,0,0) 1 n) 1 7)) (by simp [kU,yT])
  unfold voxB at he
  rw [he] at hm
  cases hm
 obtain ⟨i,hi⟩:=ex9 ((bits % 27).toNat)
 obtain ⟨j,hj⟩:=ex9 (((bits.tdiv 27) % 27).toNat)
 have hi27:i < 27:=by omega
 have hj27:j < 27:=by omega
 rw [←hi,←hj] at hb
 by_cases h:i≤j
 ·exact key j hj27 (by rw [hb];simp) (by rw [hb];simp;omega)
 ·exact key i hi27 (by rw [hb];simp) (by rw [hb];simp;omega)
theorem xQ (kind bits:Int):zJN (qN kind bits) (kW kind bits):=by
 unfold qN kW
 split
 ·exact wZ
 split
 ·exact zH6
 split
 ·exact zH8
 split
 ·rename_i h;exact zKA h (zL4 bits)
 ·exact wZ
structure ShpC where
 kind:Int
 bits:Int
 steps:Int
 points:List Pt
 creases:List Int
 corners:List Int
 details:List Pt
def lowS (n:Nat):Nat→Nat
 | 0=>0
 | k+1=>if 800 < n*2^(2*(k+1)) then lowS n k else k+1
theorem zJ8 (n:Nat):∀k,lowS n k≤k
 | 0=>Nat.le_refl _
 | k+1=>by
  unfold lowS
  split
  ·exact Nat.le_succ_of_le (zJ8 n k)
  ·exact Nat.le_refl _
theorem zFM {n:Nat} (h:n≤800):∀k,n*2^(2*lowS n k)≤800
 | 0=>by unfold lowS;simpa using h
 | k+1=>by
  unfold lowS
  split
  ·exact zFM h k
  ·omega
def stM (s:ShpC):Nat:=lowS (qN s.kind s.bits).length (s.steps % 5).toNat
def topM (s:ShpC):Int:=2097151 / 16^stM s
def rawM (ps:List Pt) (i:Nat):Pt:=if ps.length=0 then ((i:Int)*5,(i:Int)*i,7*(i:Int)) else
 (wrap64 ((ps.getD (i % ps.length) (0,0,0)).1+3*i),wrap64 ((ps.getD (i % ps.length) (0,0,0)).2.1+(i:Int)*i),wrap64 ((ps.getD (i % ps.length) (0,0,0)).2.2 - i))
def ptM (s:ShpC) (i:Nat):Pt:=((rawM s.points i).1 % (topM s+1),(rawM s.points i).2.1 % (topM s+1),(rawM s.points i).2.2 % (topM s+1))
def creM (E:List E2) (x:Int):E2:=if x.tmod 2=0 then ((E.getD (x % (E.length:Int)).toNat (0,0)).2,(E.getD (x % (E.length:Int)).toNat (0,0)).1) else E.getD (x % (E.length:Int)).toNat (0,0)
def detM (s:ShpC) (k:Nat):List Pt:=(List.range (min (4^k*(3*(qN s.kind s.bits).length / 2)) (40*(k+1)))).map fun i=>
 ((s.details.getD ((i+k) % s.details.length) (0,0,0)).1.tmod 20,(s.details.getD ((i+k) % s.details.length) (0,0,0)).2.1.tmod 20,(s.details.getD ((i+k) % s.details.length) (0,0,0)).2.2.tmod 20)
def xC (s:ShpC):Ctl where
 points:=(List.range (kW s.kind s.bits)).map (ptM s)
 tris:=qN s.kind s.bits
 creases:=(s.creases.take 12).map (creM (zH (qN s.kind s.bits)))
 corners:=(s.corners.take 4).map fun x=>x % (kW s.kind s.bits:Int)
 steps:=stM s
 details:=if s.details.length=0 then [] else (List.range (stM s)).map (detM s)
theorem zDZ {E:List E2} (h:1≤E.length) (x:Int):E.getD (x % (E.length:Int)).toNat (0,0)∈E:=by
 have:(x % (E.length:Int)).toNat < E.length:=by
  have:=Int.emod_nonneg x (show (E.length:Int)≠0 by omega)
  have:=Int.emod_lt_of_pos x (show (0:Int) < E.length by omega)
  omega
 rw [List.getD_eq_getElem?_getD,List.getElem?_eq_getElem this]
 exact List.getElem_mem this
theorem zFT {t:List Pt} (h:1≤(zH t).length) (x:Int):nrmE (creM (zH t) x).1 (creM (zH t) x).2∈zH t∧((creM (zH t) x).1,(creM (zH t) x).2)∈zH t∨((creM (zH t) x).2,(creM (zH t) x).1)∈zH t:=by
 unfold creM
 split
 ·exact .inr (zDZ h x)
 ·have:=zDZ h x
  refine .inl ⟨?_,this⟩
  rw [qB (zZ.1 this).2]
  exact this
theorem zI0:∀{ds:List (List Pt)} {n m:Nat},(∀(k:Nat) (d:List Pt),ds[k]? =some d→d.length≤4^k*m)→jQ ds n m=false
 | _,0,_,_=>by unfold jQ;rfl
 | [],_+1,_,_=>by unfold jQ;rfl
 | d::ds,n+1,m,h=>by
  unfold jQ
  rw [Bool.or_eq_false_iff,decide_eq_false_iff_not]
  refine ⟨by have:=h 0 d rfl;simp at this;omega,zI0 fun k e he=> ?_⟩
  have:=h (k+1) e (by simpa using he)
  rw [Nat.pow_succ,Nat.mul_assoc] at this
  exact this
theorem zAS (s:ShpC):stM s≤4:=by
 unfold stM
 have:=zJ8 (qN s.kind s.bits).length (s.steps % 5).toNat
 omega
theorem zKJ (s:ShpC):4^stM s*(qN s.kind s.bits).length≤800:=by
 have h:=zFM (n:=(qN s.kind s.bits).length) (by have:=(xQ s.kind s.bits).few;omega) (s.steps % 5).toNat
 unfold stM
 rw [show (4:Nat)=2^2 from rfl,←Nat.pow_mul,Nat.mul_comm]
 exact h
theorem zNL (s:ShpC):0≤topM s:=Int.ediv_nonneg (by decide) (Int.le_of_lt (Int.pow_pos (by decide)))
theorem zH9 {lo hi:Int} {l:List Pt} (h:∀p∈l,(lo≤p.1∧p.1≤hi)∧(lo≤p.2.1∧p.2.1≤hi)∧lo≤p.2.2∧p.2.2≤hi):outR lo hi l=false:=by
 refine List.any_eq_false.2 fun p hp=> ?_
 have:=h p hp
 simp only [decide_eq_true_eq]
 omega
theorem zA7 (x:Int): -2097151≤x.tmod 20∧x.tmod 20≤2097151:=by
 have h1:=Int.tmod_lt_of_pos x (show (0:Int) < 20 by decide)
 have h2:=Int.lt_tmod_of_pos x (show (0:Int) < 20 by decide)
 omega
theorem zGP (s:ShpC):errC (xC s)=0:=by
 have hb:=xQ s.kind s.bits
 have hs:=zAS s
 have hf:=zKJ s
 have hlen:(xC s).points.length=kW s.kind s.bits:=by show (List.map _ _).length=_;rw [List.length_map,List.length_range]
 have hdl:(xC s).details.length≤stM s:=by
  show (if _ then _ else _:List (List Pt)).length≤_
  split
  ·exact Nat.zero_le _
  ·rw [List.length_map,List.length_range];exact Nat.le_refl _
 have hdg:∀(k:Nat) (d:List Pt),(xC s).details[k]? =some d→d=detM s k:=fun k d h=>by
  have h:(if s.details.length=0 then [] else (List.range (stM s)).map (detM s))[k]? =some d:=h
  split at h
  ·cases h
  ·rw [List.getElem?_map] at h
   cases hk:(List.range (stM s))[k]? with
   | none=>rw [hk] at h;cases h
   | some j=>
    rw [hk] at h
    have:=List.getElem?_eq_some_iff.1 hk
    obtain ⟨h1,h2⟩:=this
    rw [List.getElem_range] at h2
    subst h2
    exact (Option.some.inj h).symm
 have hed:∀a b:Int,(a,b)∈zH (qN s.kind s.bits)→(0≤a∧a < (kW s.kind s.bits:Int))∧0≤b∧b < (kW s.kind s.bits:Int):=fun a b h=>by
  obtain ⟨x,hx,hx2⟩:=zX.1 (zZ.1 h).1
  have:=hb.idx x hx
  obtain ⟨x1,x2,x3⟩:=x
  simp only [yM,Prod.mk.injEq] at hx2
  dsimp only at this
  omega
 have h16:(16:Int)^(xC s).steps.toNat=16^stM s:=by show (16:Int)^((stM s:Int)).toNat=_;rw [Int.toNat_natCast]
 refine dR.2 ⟨?_,?_,hb.chk,zAJ.2 fun e he=> ?_,?_,?_⟩
 ·show (decide ((stM s:Int) < 0) || decide (4 < (stM s:Int)) || decide ((stM s:Int) < ((xC s).details.length:Int)))=false
  simp only [Bool.or_eq_false_iff,decide_eq_false_iff_not]
  omega
 ·unfold qA
  rw [hlen,Bool.or_eq_false_iff,Bool.or_eq_false_iff]
  refine ⟨⟨?_,?_⟩,?_⟩
  ·refine kE fun i hi=>bJ.2 ?_
   obtain ⟨x,hx,hx2⟩:=List.mem_flatMap.1 hi
   have:=hb.idx x hx
   simp only [xK,List.mem_cons,List.not_mem_nil,or_false] at hx2
   omega
  ·refine kE fun i hi=>bJ.2 ?_
   obtain ⟨e,he,h⟩:=List.mem_flatMap.1 hi
   obtain ⟨x,_,rfl⟩:=List.mem_map.1 he
   simp only [List.mem_cons,List.not_mem_nil,or_false] at h
   rcases zFT hb.edg x with ⟨_,h1⟩ | h1
   ·have:=hed _ _ h1;omega
   ·have:=hed _ _ h1;omega
  ·refine kE fun i hi=>bJ.2 ?_
   obtain ⟨x,_,rfl⟩:=List.mem_map.1 hi
   have h1:=hb.some
   exact ⟨Int.emod_nonneg x (by omega),Int.emod_lt_of_pos x (by omega)⟩
 ·obtain ⟨x,_,rfl⟩:=List.mem_map.1 he
  rcases zFT hb.edg x with ⟨h1,_⟩ | h1
  ·exact h1
  ·rw [dK,qB (zZ.1 h1).2];exact h1
 ·unfold bZ
  rw [Bool.or_eq_false_iff,decide_eq_false_iff_not]
  refine ⟨zI0 fun k d hd=> ?_,?_⟩
  ·rw [hdg k d hd]
   unfold detM
   rw [List.length_map,List.length_range]
   exact Nat.min_le_left _ _
  ·have:4^(xC s).steps.toNat*(xC s).tris.length=4^stM s*(qN s.kind s.bits).length:=by show 4^((stM s:Int)).toNat*_=_;rw [Int.toNat_natCast];rfl
   omega
 ·unfold farC
  rw [h16,Bool.or_eq_false_iff]
  refine ⟨zH9 fun p hp=> ?_,?_⟩
  ·obtain ⟨i,_,rfl⟩:=List.mem_map.1 hp
   have h1:=zNL s
   have key:∀x:Int,0≤x % (topM s+1)∧x % (topM s+1)≤topM s:=fun x=>⟨Int.emod_nonneg x (by omega),by have:=Int.emod_lt_of_pos x (show 0 < topM s+1 by omega);omega⟩
   exact ⟨key _,key _,key _⟩
  ·refine List.any_eq_false.2 fun d hd=> ?_
   rw [Bool.not_eq_true]
   obtain ⟨k,hk⟩:=List.mem_iff_getElem?.1 hd
   rw [hdg k d hk]
   refine zH9 fun p hp=> ?_
   obtain ⟨i,_,rfl⟩:=List.mem_map.1 hp
   exact ⟨zA7 _,zA7 _,zA7 _⟩
theorem zCZ (s:ShpC):xE (xC s).tris:=(xQ s.kind s.bits).back
end Go.Proofs.YtmemofonebphfaaGreat
namespace Go.Proofs.YtmemofonebphfaaGreat
open Go.RowKit Go.Sort
structure FinS (w Y:World) (g1 g6:Nat) (ctl:Array Value) (Ap At Ac:Option Addr) (cp ct cc:Nat) (L:Lev):Prop where
 below:Below w.heap.size w Y
 b1:Blk Y g1 32 ctl
 b6:Blk Y g6 108 #[.slice Ap L.p.length cp, .slice At L.t.length ct, .slice Ac L.cr.length cc]
 own:Own encP 3 43 Y w.heap.size (.slice Ap L.p.length cp) L.p.length L.p
 t:Sl yF 3 Y Y.heap.size At L.t
 c:Sl yH 2 Y Y.heap.size Ac L.cr
 le:w.heap.size≤g6
 ne:g1≠g6
theorem FinS.lev {w Y:World} {g1 g6:Nat} {ctl:Array Value} {Ap At Ac:Option Addr} {cp ct cc:Nat} {L:Lev} (h:FinS w Y g1 g6 ctl Ap At Ac cp ct cc L):LevM Y Y.heap.size Ap At Ac L:=⟨h.own.sl zO lr9,h.t,h.c⟩
theorem FinS.next {w Y W:World} {g1 g6:Nat} {ctl:Array Value} {Ap At Ac:Option Addr} {cp ct cc:Nat} {L:Lev} (h:FinS w Y g1 g6 ctl Ap At Ac cp ct cc L) (hB:Below Y.heap.size Y W):FinS w W g1 g6 ctl Ap At Ac cp ct cc L:=
 ⟨h.below.trans (hB.mono h.below.size),h.b1.below hB h.b1.lt,h.b6.below hB h.b6.lt,h.own.below hB lr9,(h.t.below hB).more hB.size,(h.c.below hB).more hB.size,h.le,h.ne⟩
theorem zEA {A B C:Option Addr} {a b c a' b' c':Nat} (x:Pt):∀u∈yF x,∀off:Nat,#[Value.slice A a a',Value.slice B b b',Value.slice C c c'][off]? ≠some u:=fun u hu off=>by
 have hc:off=0∨off=1∨off=2∨3≤off:=by omega
 simp only [yF,List.mem_cons,List.not_mem_nil,or_false] at hu
 rcases hc with rfl | rfl | rfl | h3
 ·rcases hu with rfl | rfl | rfl <;>simp
 ·rcases hu with rfl | rfl | rfl <;>simp
 ·rcases hu with rfl | rfl | rfl <;>simp
 ·rw [Array.getElem?_eq_none (by simpa using h3)];simp
theorem zDF {w W:World} {g1 g6:Nat} {ctl:Array Value} {Ap At Ac Bp Bt Bc:Option Addr} {cp ct cc np nt nc dp dt dc:Nat} {L:Lev} (hB:Below w.heap.size w W) (h1:Blk W g1 32 ctl) (h6:Blk W g6 108 #[.slice Bp np dp, .slice Bt nt dt, .slice Bc nc dc])
  (ho:Own encP 3 43 W w.heap.size (.slice Ap L.p.length cp) L.p.length L.p) (ht:Sl yF 3 W W.heap.size At L.t) (hc:Sl yH 2 W W.heap.size Ac L.cr) (hle:w.heap.size≤g6) (hne:g1≠g6):
  FinS w (((W.setCell ⟨g6,0,none⟩ (.slice Ap L.p.length cp)).setCell ⟨g6,1,none⟩ (.slice At L.t.length ct)).setCell ⟨g6,2,none⟩ (.slice Ac L.cr.length cc)) g1 g6 ctl Ap At Ac cp ct cc L:=by
 refine ⟨((hB.setCell (p:=⟨g6,0,none⟩) hle _).setCell (p:=⟨g6,1,none⟩) hle _).setCell (p:=⟨g6,2,none⟩) hle _,h1.far3 hne _ _ _,h6.set3 _ _ _,ho.far9 h6 (by decide) _ _ _,?_,?_,hle,hne⟩
 ·have a1:=Sl.far9 ht h6 (fun x _=>zEA x) 0 (.slice Ap L.p.length cp) lr9
  have a2:=Sl.far9 a1 (h6.set_ 0 (.slice Ap L.p.length cp)) (fun x _=>zEA x) 1 (.slice At L.t.length ct) lr9
  have a3:=Sl.far9 a2 ((h6.set_ 0 (.slice Ap L.p.length cp)).set_ 1 (.slice At L.t.length ct)) (fun x _=>zEA x) 2 (.slice Ac L.cr.length cc) lr9
  exact a3.more (by simp)
 ·have a1:=Sl.far9 hc h6 (fun x _=>vV x) 0 (.slice Ap L.p.length cp) lr9
  have a2:=Sl.far9 a1 (h6.set_ 0 (.slice Ap L.p.length cp)) (fun x _=>vV x) 1 (.slice At L.t.length ct) lr9
  have a3:=Sl.far9 a2 ((h6.set_ 0 (.slice Ap L.p.length cp)).set_ 1 (.slice At L.t.length ct)) (fun x _=>vV x) 2 (.slice Ac L.cr.length cc) lr9
  exact a3.more (by simp)
set_option maxRecDepth 100000 in set_option maxHeartbeats 64000000 in
theorem zC0 (Ap At Ac Ao Ad:Option Addr) (cp ct cc oc dc:Nat) (c:Ctl) (w:World) (hm:CtlM w w.heap.size Ap At Ac Ao Ad c) (hb:CtlB c) (hfs:fits c.steps) (hnb:errC c=0→xE c.tris):
  Calls Tryz.prog 32 #[vCtl Ap c.points.length cp At c.tris.length ct Ac c.creases.length cc Ao c.corners.length oc c.steps Ad c.details.length dc] w fun e w'=>∃A1 c1 A2 c2,e= .returned (.tuple #[.slice A1 (finP c).length c1, .slice A2 (finT c).length c2, .int .i64 (errC c)])∧Own encP 3 43 w' w.heap.size (.slice A1 (finP c).length c1) (finP c).length (finP c)∧Own yF 3 35 w' w.heap.size (.slice A2 (finT c).length c2) (finT c).length (finT c)∧Below w.heap.size w w':=by
 have kw:=fun (W:World) (hW:Below w.heap.size w W)=>zGN Ap At Ac Ao Ad cp ct cc oc dc c W (hm.below hW hW.size) hb hfs
 by_cases herr:errC c=0
 ·have hR:=uY herr
  have hN:=hnb herr
  have hst:=hR.st
  have hf2:∀e∈c.creases,yG e:=fun e he=>by
   obtain ⟨hd,hl⟩:=zZ.1 (hR.cre e he)
   obtain ⟨x,hx,hx2⟩:=zX.1 hd
   have hi:=hR.idx x hx
   have hp:=hb.p
   have:0≤min e.1 e.2∧max e.1 e.2 < (c.points.length:Int):=by
    rcases yM.1 hx2 with h | h | h <;>simp only [nrmE,Prod.mk.injEq] at h <;>omega
   constructor <;>unfold fits <;>omega
  have kb:=fun (W:World) (hW:Below w.heap.size w W)=>zGE Ap At Ac Ao Ad cp ct cc oc c.details.length dc c W (hm.below hW hW.size) hb hst hf2
  obtain ⟨sn,hsn⟩:∃n:Nat,c.steps=n:=⟨c.steps.toNat,by omega⟩
  have hsn':c.steps.toNat=sn:=by omega
  have hs4:sn≤4:=by omega
  have hLR:=fun k=>Ctl.level_right hR hN k
  have hLB:=fun k (hk:k≤sn)=>jV hR hN hb (k:=k) (by rw [hsn'];exact hk)
  have hdf:=fun k d (hk:k < sn) (hd:c.details[k]? =some d)=>zKF hR hN (k:=k) (by rw [hsn'];exact hk) hd
  have hfp:finP c=(c.level sn).p:=by unfold finP;rw [if_pos herr,hsn']
  have hft:finT c=(c.level sn).t:=by unfold finT;rw [if_pos herr,hsn']
  have hlv:∀k,c.level (k+1)=(c.level k).step (detE ((c.level k).rules c.corners) (c.details.getD k []) (16^(sn - 1 - k))):=fun k=>by rw [←hsn'];rfl
  have hl0:c.level 0=c.begin:=rfl
  rw [hfp,hft,herr,hsn]
  rw [herr] at kw
  obtain ⟨np,hnp⟩:=ex9 (c.points.length)
  obtain ⟨nt,hnt⟩:=ex9 (c.tris.length)
  obtain ⟨nc,hnc⟩:=ex9 (c.creases.length)
  obtain ⟨no,hno⟩:=ex9 (c.corners.length)
  obtain ⟨nd,hnd⟩:=ex9 (c.details.length)
  have hnol:no≤100000:=by rw [hno];exact hb.o
  have hndl:nd≤sn:=by have:=hR.det;omega
  rw [←hnp,←hnt,←hnc,←hno,←hnd]
  simp only [←hnp,←hnt,←hnc,←hno,←hnd,hsn] at kw kb
  have HK:=hide (ai9 kw (ai9 kb (ai9 hLR (ai9 hLB (ai9 hdf (ai9 hlv hl0))))))
  have HM:=hide (ai9 hm (ai9 hb (ai9 hnt (ai9 hno hnd))))
  clear kw kb hLR hLB hdf hlv hl0 hm hb hnp hnt hnc hno hnd hR hN hst hf2 hsn hsn' hfp hft herr hnb hfs
  go_enter Tryz.func32,Tryz.ntmps32
  go_upto_region 1 with fail
  obtain ⟨g1,hg1⟩:=ex9 (w.heap.size)
  obtain ⟨X0,hX⟩:=ex9 (w.alloc (.cells (cCtl Ap np cp At nt ct Ac nc cc Ao no oc sn Ad nd dc) 32))
  rw [←hX,←hg1]
  have hb1:Blk X0 g1 32 (cCtl Ap np cp At nt ct Ac nc cc Ao no oc sn Ad nd dc):=by rw [hX,hg1];exact Blk.new _ _ _
  have hBX:Below w.heap.size w X0:=by rw [hX];exact (Below.refl _ w).alloc lr9 _
  obtain ⟨z0,z1,z2,z3,z4,z5⟩:=hb1.six9
  have hgl:=hb1.lt
  have H0:=hide (ai9 hb1 hBX)
  clear hb1 hBX hX hg1
  go_upto_region 4 with (go_at_call 61;refine (HK.o.1 X0 H0.o.2).mono ?_;rintro e X1 ⟨rfl,hB⟩;have H1:=hide (ai9 (H0.o.1.below hB H0.o.1.lt) (H0.o.2.trans (hB.mono H0.o.2.size)));clear hB)
  clear z0 z1 z2 z3 z4 z5 hgl
  obtain ⟨z0,z1,z2,z3,z4,z5⟩:=H1.o.1.six9
  have hgl:=H1.o.1.lt
  go_upto_region 5 with (go_at_call 62;refine (HK.o.2.1 X1 H1.o.2).mono ?_;rintro e X2 ⟨Bp,bp,Bc,bc,rfl,ho,hsc,hB⟩;have H2:=hide (ai9 ho (ai9 hsc (ai9 (H1.o.1.below hB H1.o.1.lt) (H1.o.2.trans (hB.mono H1.o.2.size)))));clear ho hsc hB)
  clear z0 z1 z2 z3 z4 z5 hgl
  obtain ⟨g6,hg6⟩:=ex9 (X2.heap.size)
  obtain ⟨Y,hY⟩:=ex9 (X2.alloc (.cells #[.slice Bp c.begin.p.length bp, .slice At nt ct, .slice Bc c.begin.cr.length bc] 108))
  have hF0:FinS w Y g1 g6 (cCtl Ap np cp At nt ct Ac nc cc Ao no oc sn Ad nd dc) Bp At Bc bp ct bc (c.level 0):=by
   rw [HK.o.2.2.2.2.2.2]
   have hBY:Below X2.heap.size X2 Y:=by rw [hY];exact (Below.refl _ X2).alloc lr9 _
   have h2:=H2.o.2.2.2
   refine ⟨h2.trans (hBY.mono h2.size),H2.o.2.2.1.below hBY H2.o.2.2.1.lt,?_,?_,?_,(H2.o.2.1.below hBY).more hBY.size,?_,?_⟩
   ·rw [hY,hg6,HM.o.2.2.1];exact Blk.new _ _ _
   ·exact (H2.o.1.below hBY lr9).base_le H1.o.2.size
   ·exact ((HM.o.1.t.below h2).below (hBY.mono h2.size)).more (Nat.le_trans h2.size hBY.size)
   ·rw [hg6];exact h2.size
   ·rw [hg6];exact Nat.ne_of_lt H2.o.2.2.1.lt
  rw [←hY,←hg6]
  have HF:=hide hF0
  clear hF0 hY hg6
  go_upto_region 6 with fail
  go_loopw [7] (fun kv wr=>∃(k:Nat) (Cp Ct Cc:Option Addr) (p1 p2 p3:Nat),k≤sn∧kv= .int .i64 k∧FinS w wr g1 g6 (cCtl Ap np cp At nt ct Ac nc cc Ao no oc sn Ad nd dc) Cp Ct Cc p1 p2 p3 (c.level k)) (fun kv _=>sn - (intOf kv).toNat)
  case atStart=>exact ⟨0,_,_,_,_,_,_,by omega,rfl,HF.o⟩
  case round=>
   obtain ⟨k,Cp,Ct,Cc,p1,p2,p3,hk,rfl,hF⟩:=hrel
   obtain ⟨V,rfl⟩:=ex9 (wr)
   obtain ⟨z0,z1,z2,z3,z4,z5⟩:=hF.b1.six9
   have hgl:=hF.b1.lt
   by_cases hlt:k < sn
   ·have i1:(k:Int) < (sn:Int):=by omega
    have hLR:=HK.o.2.2.1 k
    have hLB:=HK.o.2.2.2.1 k (by omega)
    have kr:=zGH Cp Ct Cc Ao p1 p2 p3 oc (c.level k) c.corners V hLR hF.lev ((HM.o.1.o.below hF.below).more hF.below.size) hLB
    rw [←HM.o.2.2.2.1] at kr
    have hlv:=HK.o.2.2.2.2.2.1 k
    have hdf:=fun d (hd:c.details[k]? =some d)=>HK.o.2.2.2.2.1 k d hlt hd
    have hEl:(zH (c.level k).t).length≤900000:=by have:=qW (c.level k).t;have:=hLB.t;omega
    obtain ⟨L,hL⟩:=ex9 (c.level k)
    rw [←hL] at hF kr hlv hLR hLB hEl
    simp only [←hL] at hdf
    have hRl:=kZ L c.corners
    have y6:=hF.b6.three
    have hg6l:=hF.b6.lt
    have ks:=fun (Aa:Option Addr) (ca:Nat) (added:List Pt) (W:World) (hm:LevM W W.heap.size Cp Ct Cc L) (ha:Sl encP 3 W W.heap.size Aa added) (hal:added.length=(zH L.t).length)=>zHW Cp Ct Cc Aa p1 p2 p3 ca L added c.corners W hLR hm ha hal hLB
    obtain ⟨lp,hlp⟩:=ex9 (L.p.length)
    obtain ⟨lt,hlt2⟩:=ex9 (L.t.length)
    obtain ⟨lc,hlc⟩:=ex9 (L.cr.length)
    obtain ⟨EN,hEN⟩:=ex9 ((zH L.t).length)
    obtain ⟨RL,hRL⟩:=ex9 (L.rules c.corners)
    rw [←hlp,←hlt2,←hlc] at kr y6
    rw [←hRL] at kr hRl hlv
    rw [hRl,←hEN] at kr
    rw [←hEN] at hRl hEl
    simp only [←hEN] at hdf ks
    simp only [←hlp,←hlt2,←hlc] at ks
    have HV:=hide (ai9 hF (ai9 kr (ai9 hlv (ai9 hdf (ai9 hRl (ai9 ks (ai9 hlp (ai9 hlt2 (ai9 hlc hL)))))))))
    obtain ⟨y60,y61,y62⟩:=y6
    clear hF kr hlv hdf hRl ks hlp hlt2 hlc hL hLR hLB hRL hEN
    go_upto_region 9 with (go_at_call 63;refine HV.o.2.1.mono ?_;rintro e V1 ⟨va,rfl,hO,hB⟩;have J1:=hide (ai9 (HV.o.1.next hB) (ai9 hO hB));clear hO hB)
    clear z0 z1 z2 z3 z4 z5 hgl y60 y61 y62 hg6l
    obtain ⟨z0,z1,z2,z3,z4,z5⟩:=J1.o.1.b1.six9
    have hgl:=J1.o.1.b1.lt
    have hpwE:∃r:Nat,r≤4∧sn - 1 - k=r:=⟨sn - 1 - k,by omega,rfl⟩
    obtain ⟨r,hr4,hr⟩:=hpwE
    obtain ⟨pw,hpw⟩:=ex9 ((16:Int)^r)
    obtain ⟨Aa,ca,hva⟩:=J1.o.2.1.form
    subst hva
    by_cases hkd:k < nd
    ·have i2:(k:Int) < (nd:Int):=by omega
     obtain ⟨d,hd⟩:∃d,c.details[k]? =some d:=⟨_,List.getElem?_eq_getElem (by rw [←HM.o.2.2.2.2];exact hkd)⟩
     have hgd:c.details.getD k []=d:=by rw [List.getD_eq_getElem?_getD,hd];rfl
     have hdl:=HV.o.2.2.2.1 d hd
     obtain ⟨bd,od,Ax,kx,hAd,hbd,cd,hsd⟩:=HM.o.1.det hd
     subst hAd
     obtain ⟨dl,hdl2⟩:=ex9 (d.length)
     rw [←hdl2] at cd hdl
     have HD:=hide (ai9 hgd (ai9 hdl2 (ai9 hbd (ai9 cd (ai9 hsd (ai9 hr hpw))))))
     clear hgd hdl2 hbd cd hsd hd hr hpw
     go_upto_region 11 with fail
     clear z0 z1 z2 z3 z4 z5 hgl
     go_loopw [9] (fun iv wr=>∃i:Nat,i≤dl∧iv= .int .i64 i∧Below V.heap.size V wr∧Own encP 3 43 wr V.heap.size (.slice Aa EN ca) EN (detE RL (d.take i) pw)) (fun iv _=>dl - (intOf iv).toNat)
     case atStart=>exact ⟨0,by omega,rfl,J1.o.2.2,by rw [List.take_zero,zFU];exact J1.o.2.1⟩
     case round=>
      obtain ⟨i,hi,rfl,hB2,hO⟩:=hrel
      obtain ⟨U,rfl⟩:=ex9 (wr)
      have hF:=HV.o.1.next hB2
      obtain ⟨z0,z1,z2,z3,z4,z5⟩:=hF.b1.six9
      have hgl:=hF.b1.lt
      have cdU:=(hF.below.cell (p:=⟨bd,od+k,none⟩) HD.o.2.2.1).trans HD.o.2.2.2.1
      have hbdU:bd < U.heap.size:=Nat.lt_of_lt_of_le HD.o.2.2.1 hF.below.size
      by_cases hil:i < dl
      ·have j1:(i:Int) < (dl:Int):=by omega
       have j2:(i:Int) < (EN:Int):=by omega
       obtain ⟨x,hx⟩:∃x,RL[i]? =some x:=⟨_,List.getElem?_eq_getElem (by rw [HV.o.2.2.2.2.1];omega)⟩
       obtain ⟨y,hy⟩:∃y,d[i]? =some y:=⟨_,List.getElem?_eq_getElem (by rw [←HD.o.2.1];exact hil)⟩
       have hdx:=zNH (ds:=d) (n:=pw) (i:=i) hx lr9
       have hds:=zLJ (n:=pw) hx hy
       obtain ⟨be,oe,hAx,hbe,_⟩:=HD.o.2.2.2.2.1.at hy
       subst hAx
       obtain ⟨e0,e1,e2,heU⟩:=(HD.o.2.2.2.2.1.ptW lr9 hy).2 U hF.below
       obtain ⟨ga,ca',hAa,hga,hgaU⟩:=hO.at (fun h=>by rw [h] at hdx;cases hdx)
       injection hAa with hAa hEE hcc
       subst hAa hcc
       clear hEE
       have hsl:=hO.sl zO (Nat.le_refl U.heap.size)
       obtain ⟨a0,a1,a2,_⟩:=(hsl.ptW lr9 hdx).2 U (Below.refl _ U)
       simp only [Nat.zero_add] at a0 a1 a2
       have hset:=fun q:Pt=>Own.setW (i:=i) zO hO (by rw [←hO.1];omega) q
       obtain ⟨cs,hcs⟩:=hO.cells ga rfl
       have f0:=Blk.frozen hcs (i*3)
       have f1:=Blk.frozen hcs (i*3+1)
       have f2:=Blk.frozen hcs (i*3+2)
       have kt:=times_any y pw
       obtain ⟨m,hm⟩:=ex9 (yB y pw)
       have ka:=qH x m
       have hpr:addP x m=xU x y pw:=by rw [hm];exact zJY x y pw
       obtain ⟨q,hq⟩:=ex9 (xU x y pw)
       rw [←hm] at kt
       rw [hpr,←hq] at ka
       rw [←hq] at hds
       obtain ⟨x1,x2,x3⟩:=x
       obtain ⟨y1,y2,y3⟩:=y
       obtain ⟨m1,m2,m3⟩:=m
       obtain ⟨q1,q2,q3⟩:=q
       simp only at e0 e1 e2 a0 a1 a2
       have kp:=fun W=>uG r hr4 W
       simp only [←HD.o.2.2.2.2.2.2] at kp
       have w1:IntKind.i64.wrap ((sn:Int) - 1)=(sn:Int) - 1:=IntWalk.i64_in _ (by omega)
       have w2:IntKind.i64.wrap ((sn:Int) - 1 - (k:Int))=(r:Int):=by have:=HD.o.2.2.2.2.2.1;rw [IntWalk.i64_in _ (by omega)];omega
       have HU:=hide (ai9 hF (ai9 hO (ai9 hds (ai9 kt (ai9 ka (ai9 kp (ai9 hset (ai9 f0 (ai9 f1 (ai9 f2 hB2))))))))))
       have HN:=hide (ai9 z4 (ai9 z5 (ai9 hgl (ai9 cdU (ai9 hbdU (ai9 e0 (ai9 e1 (ai9 e2 (ai9 heU (ai9 a0 (ai9 a1 (ai9 a2 hgaU))))))))))))
       have HW:=hide (ai9 w1 w2)
       have HGA:=hide (show V.heap.size≤ga from hga)
       clear hF hB2 hO hds kt ka kp hset f0 f1 f2 z0 z1 z2 z3 z4 e0 e1 e2 heU a0 a1 a2 hgaU hm hpr hq hdx hx hy hsl hcs hbe hga w1 w2
       go_upto_region 13 with fail
       clear z5 hgl cdU hbdU
       have HSB:=hide (show Below U.heap.size U U.drew from (Below.refl _ U).drew)
       refine zB (fun W=>Below U.heap.size U W) [0,1,2,3,4,5,6,7,8,9,10,11,12,13,14,15,16,17,18] [0,1,2,3,4,5,6,7,8,9,10,11,12,13,14,15,16,17,18,19,20,21,22,23] zL (by kernel_rfl) ?_
       refine zA (v:=(.slice (some ⟨ga,0,none⟩) EN ca)) rfl rfl (fun _ _ _ h=>h) HSB.o ⟨rfl,fun _ _=>by simp [go_sem]⟩ ?_
       refine zA (v:=(.int .i64 i)) rfl rfl (fun _ _ _ h=>h) HSB.o ⟨rfl,fun _ _=>by simp [go_sem]⟩ ?_
       refine zA (v:=(.slice (some ⟨ga,0,none⟩) EN ca)) rfl rfl (fun _ _ _ h=>h) HSB.o ⟨rfl,fun _ _=>by simp [go_sem]⟩ ?_
       refine zA (v:=(.int .i64 i)) rfl rfl (fun _ _ _ h=>h) HSB.o ⟨rfl,fun _ _=>by simp [go_sem]⟩ ?_
       refine zA (v:=(.pointer (some ⟨ga,i*3,none⟩))) rfl rfl (fun _ _ _ h=>h) HSB.o ⟨rfl,fun _ _=>by simp [go_sem,j2]⟩ ?_
       refine zA (v:=vP (x1,x2,x3)) rfl rfl (fun _ _ _ h=>h) HSB.o ⟨rfl,fun _ h'=>by have a0:=(h'.cell (p:=⟨ga,i*3,none⟩) HN.o.2.2.2.2.2.2.2.2.2.2.2.2).trans HN.o.2.2.2.2.2.2.2.2.2.1;have a1:=(h'.cell (p:=⟨ga,i*3+1,none⟩) HN.o.2.2.2.2.2.2.2.2.2.2.2.2).trans HN.o.2.2.2.2.2.2.2.2.2.2.1;have a2:=(h'.cell (p:=⟨ga,i*3+2,none⟩) HN.o.2.2.2.2.2.2.2.2.2.2.2.2).trans HN.o.2.2.2.2.2.2.2.2.2.2.2.1;simp [go_sem,a0,a1,a2]⟩ ?_
       simp only [List.getElem_toArray,List.getElem_cons_succ,List.getElem_cons_zero,Act.put,List.setIfInBounds_toArray,List.set_cons_succ,List.set_cons_zero]
       refine zA (v:=(.pointer (some ⟨g1,5,none⟩))) rfl rfl (fun _ _ _ h=>h) HSB.o ⟨rfl,fun _ _=>by simp [go_sem]⟩ ?_
       refine zA (v:=(.slice (some ⟨bd,od,none⟩) nd dc)) rfl rfl (fun _ _ _ h=>h) HSB.o ⟨rfl,fun _ h'=>by have a0:=(h'.cell (p:=⟨g1,5,none⟩) HN.o.2.2.1).trans HN.o.2.1;simp [go_sem,a0]⟩ ?_
       refine zA (v:=(.int .i64 k)) rfl rfl (fun _ _ _ h=>h) HSB.o ⟨rfl,fun _ _=>by simp [go_sem]⟩ ?_
       refine zA (v:=(.pointer (some ⟨bd,od+k,none⟩))) rfl rfl (fun _ _ _ h=>h) HSB.o ⟨rfl,fun _ _=>by simp [go_sem,i2]⟩ ?_
       refine zA (v:=(.slice (some ⟨be,oe,none⟩) dl kx)) rfl rfl (fun _ _ _ h=>h) HSB.o ⟨rfl,fun _ h'=>by have a0:=(h'.cell (p:=⟨bd,od+k,none⟩) HN.o.2.2.2.2.1).trans HN.o.2.2.2.1;simp [go_sem,a0]⟩ ?_
       refine zA (v:=(.int .i64 i)) rfl rfl (fun _ _ _ h=>h) HSB.o ⟨rfl,fun _ _=>by simp [go_sem]⟩ ?_
       simp only [List.getElem_toArray,List.getElem_cons_succ,List.getElem_cons_zero,Act.put,List.setIfInBounds_toArray,List.set_cons_succ,List.set_cons_zero]
       refine zA (v:=(.pointer (some ⟨be,oe+i*3,none⟩))) rfl rfl (fun _ _ _ h=>h) HSB.o ⟨rfl,fun _ _=>by simp [go_sem,j1]⟩ ?_
       refine zA (v:=vP (y1,y2,y3)) rfl rfl (fun _ _ _ h=>h) HSB.o ⟨rfl,fun _ h'=>by have a0:=(h'.cell (p:=⟨be,oe+i*3,none⟩) HN.o.2.2.2.2.2.2.2.2.1).trans HN.o.2.2.2.2.2.1;have a1:=(h'.cell (p:=⟨be,oe+i*3+1,none⟩) HN.o.2.2.2.2.2.2.2.2.1).trans HN.o.2.2.2.2.2.2.1;have a2:=(h'.cell (p:=⟨be,oe+i*3+2,none⟩) HN.o.2.2.2.2.2.2.2.2.1).trans HN.o.2.2.2.2.2.2.2.1;simp [go_sem,a0,a1,a2]⟩ ?_
       refine zA (v:=(.pointer (some ⟨g1,4,none⟩))) rfl rfl (fun _ _ _ h=>h) HSB.o ⟨rfl,fun _ _=>by simp [go_sem]⟩ ?_
       refine zA (v:=(.int .i64 sn)) rfl rfl (fun _ _ _ h=>h) HSB.o ⟨rfl,fun _ h'=>by have a0:=(h'.cell (p:=⟨g1,4,none⟩) HN.o.2.2.1).trans HN.o.1;simp [go_sem,a0]⟩ ?_
       refine zA (v:=(.int .i64 ((sn:Int) - 1))) rfl rfl (fun _ _ _ h=>h) HSB.o ⟨rfl,fun _ _=>by simp [go_sem,HW.o.1]⟩ ?_
       refine zA (v:=(.int .i64 k)) rfl rfl (fun _ _ _ h=>h) HSB.o ⟨rfl,fun _ _=>by simp [go_sem]⟩ ?_
       simp only [List.getElem_toArray,List.getElem_cons_succ,List.getElem_cons_zero,Act.put,List.setIfInBounds_toArray,List.set_cons_succ,List.set_cons_zero]
       refine zA (v:=(.int .i64 r)) rfl rfl (fun _ _ _ h=>h) HSB.o ⟨rfl,fun _ _=>by simp [go_sem,HW.o.2]⟩ ?_
       simp only [List.getElem_toArray,List.getElem_cons_succ,List.getElem_cons_zero,Act.put,List.setIfInBounds_toArray,List.set_cons_succ,List.set_cons_zero]
       refine zD rfl rfl ?_
       go_wp2_with fail
       refine (HU.o.2.2.2.2.2.1 U.drew).mono ?_
       rintro e Wq ⟨rfl,hWq⟩
       obtain rfl:U.drew=Wq:=hWq.symm
       go_wp2_with fail
       refine ⟨fun _=>HSB.o,?_⟩
       refine zD rfl rfl ?_
       go_wp2_with fail
       refine (HU.o.2.2.2.1 U.drew).mono ?_
       rintro e W1 ⟨rfl,hB1⟩
       have H1:=hide (qY hB1)
       clear hB1
       go_wp2_with fail
       refine ⟨fun _=>H1.o,?_⟩
       refine zD rfl rfl ?_
       go_wp2_with fail
       refine (HU.o.2.2.2.2.1 W1).mono ?_
       rintro e W2 ⟨rfl,hB1⟩
       have J3:=hide (H1.o.trans (hB1.mono H1.o.size))
       clear hB1
       go_wp2_with fail
       refine ⟨fun _=>J3.o,?_⟩
       refine zJ _ [_,_] (by kernel_rfl) rfl ?_
       have hO2:=HU.o.2.1.below J3.o lr9
       obtain ⟨cs,hcs⟩:=hO2.cells ga rfl
       have f0:=Blk.frozen hcs (i*3)
       have f1:=Blk.frozen hcs (i*3+1)
       have f2:=Blk.frozen hcs (i*3+2)
       have k0:=(J3.o.cell (p:=⟨ga,i*3,none⟩) HN.o.2.2.2.2.2.2.2.2.2.2.2.2).trans HN.o.2.2.2.2.2.2.2.2.2.1
       have k1:=(J3.o.cell (p:=⟨ga,i*3+1,none⟩) HN.o.2.2.2.2.2.2.2.2.2.2.2.2).trans HN.o.2.2.2.2.2.2.2.2.2.2.1
       have k2:=(J3.o.cell (p:=⟨ga,i*3+2,none⟩) HN.o.2.2.2.2.2.2.2.2.2.2.2.2).trans HN.o.2.2.2.2.2.2.2.2.2.2.2.1
       have hgl2:ga < W2.heap.size:=Nat.lt_of_lt_of_le HN.o.2.2.2.2.2.2.2.2.2.2.2.2 J3.o.size
       have HO2:=hide hO2
       clear hO2 hcs
       go_wp2_with fail
       go_roundw
       case rel=>
        have h:=Own.setW (i:=i) zO HO2.o (by rw [←HO2.o.1];omega) (q1,q2,q3)
        rw [HU.o.2.2.1] at h
        exact ⟨i+1,by omega,by go_num,zBF HGA.o (encP (q1,q2,q3)) _ _ (HU.o.2.2.2.2.2.2.2.2.2.2.trans (J3.o.mono HU.o.2.2.2.2.2.2.2.2.2.2.size)),h⟩
       case measure=>(simp [intOf];try omega)
      ·obtain rfl:i=dl:=by omega
       have j1:¬(i:Int) < (i:Int):=by omega
       have ht:d.take i=d:=by rw [HD.o.2.1];exact List.take_length
       rw [ht] at hO
       rw [←HD.o.1] at hO
       have hr:=HD.o.2.2.2.2.2.1
       have hpw:=HD.o.2.2.2.2.2.2
       have hF:=HV.o.1.next hB2
       have hal:(detE RL (c.details.getD k []) pw).length=EN:=by rw [fF];exact HV.o.2.2.2.2.1
       have ks:=HV.o.2.2.2.2.2.1 Aa ca _ U hF.lev (hO.sl zO lr9) hal
       have hlv:=HV.o.2.2.1
       rw [hr,←hpw] at hlv
       rw [←hlv,hal] at ks
       obtain ⟨y0,y1,y2⟩:=hF.b6.three
       have hg6l:=hF.b6.lt
       rw [←HV.o.2.2.2.2.2.2.1] at y0
       rw [←HV.o.2.2.2.2.2.2.2.1] at y1
       rw [←HV.o.2.2.2.2.2.2.2.2.1] at y2
       obtain ⟨M,hM⟩:=ex9 (c.level (k+1))
       rw [←hM] at ks
       have HU:=hide (ai9 hF (ai9 ks hM))
       clear hF hB2 hO ks hal hlv hM hr hpw
       go_wp2_with (go_at_call 65;refine HU.o.2.1.mono ?_;rintro e W ⟨Dp,d1,Dt,d2,Dc,d3,rfl,ho,hst,hsc,hB⟩;have J2:=hide (ai9 (HU.o.1.next hB) (ai9 ho (ai9 hst (ai9 hsc hB))));clear ho hst hsc hB;have f0:=J2.o.1.b6.frozen 0;have f1:=J2.o.1.b6.frozen 1;have f2:=J2.o.1.b6.frozen 2;have l6:=J2.o.1.b6.lt;have k0:=J2.o.1.b6.cell 0;have k1:=J2.o.1.b6.cell 1;have k2:=J2.o.1.b6.cell 2)
       go_roundw
       case rel=>
        have hfs:=zDF (ct:=d2) (cc:=d3) (cp:=d1) J2.o.1.below J2.o.1.b1 J2.o.1.b6 (J2.o.2.1.base_le HU.o.1.below.size) J2.o.2.2.1 J2.o.2.2.2.1 HU.o.1.le HU.o.1.ne
        exact ⟨k+1,_,_,_,_,_,_,by omega,by go_num,by rw [←HU.o.2.2];exact hfs⟩
       case measure=>(simp [intOf];try omega)
    ·have i2:¬(k:Int) < (nd:Int):=by omega
     have hgd:c.details.getD k []= []:=by rw [List.getD_eq_getElem?_getD,List.getElem?_eq_none (by rw [←HM.o.2.2.2.2];omega)];rfl
     have hO:Own encP 3 43 V1 V.heap.size (.slice Aa EN ca) EN (detE RL (c.details.getD k []) pw):=by rw [hgd,zFU];exact J1.o.2.1
     have hF:=J1.o.1
     have hB2:=J1.o.2.2
     obtain ⟨U,rfl⟩:=ex9 (V1)
     have hF:=HV.o.1.next hB2
     have hal:(detE RL (c.details.getD k []) pw).length=EN:=by rw [fF];exact HV.o.2.2.2.2.1
     have ks:=HV.o.2.2.2.2.2.1 Aa ca _ U hF.lev (hO.sl zO lr9) hal
     have hlv:=HV.o.2.2.1
     rw [hr,←hpw] at hlv
     rw [←hlv,hal] at ks
     obtain ⟨y0,y1,y2⟩:=hF.b6.three
     have hg6l:=hF.b6.lt
     rw [←HV.o.2.2.2.2.2.2.1] at y0
     rw [←HV.o.2.2.2.2.2.2.2.1] at y1
     rw [←HV.o.2.2.2.2.2.2.2.2.1] at y2
     obtain ⟨M,hM⟩:=ex9 (c.level (k+1))
     rw [←hM] at ks
     have HU:=hide (ai9 hF (ai9 ks hM))
     clear hF hB2 hO ks hal hlv hM hr hpw hgd
     go_wp2_with (go_at_call 65;refine HU.o.2.1.mono ?_;rintro e W ⟨Dp,d1,Dt,d2,Dc,d3,rfl,ho,hst,hsc,hB⟩;have J2:=hide (ai9 (HU.o.1.next hB) (ai9 ho (ai9 hst (ai9 hsc hB))));clear ho hst hsc hB;have f0:=J2.o.1.b6.frozen 0;have f1:=J2.o.1.b6.frozen 1;have f2:=J2.o.1.b6.frozen 2;have l6:=J2.o.1.b6.lt;have k0:=J2.o.1.b6.cell 0;have k1:=J2.o.1.b6.cell 1;have k2:=J2.o.1.b6.cell 2)
     go_roundw
     case rel=>
      have hfs:=zDF (ct:=d2) (cc:=d3) (cp:=d1) J2.o.1.below J2.o.1.b1 J2.o.1.b6 (J2.o.2.1.base_le HU.o.1.below.size) J2.o.2.2.1 J2.o.2.2.2.1 HU.o.1.le HU.o.1.ne
      exact ⟨k+1,_,_,_,_,_,_,by omega,by go_num,by rw [←HU.o.2.2];exact hfs⟩
     case measure=>(simp [intOf];try omega)
   ·obtain rfl:k=sn:=by omega
    have i1:¬(k:Int) < (k:Int):=by omega
    obtain ⟨y0,y1,y2⟩:=hF.b6.three
    have hg6l:=hF.b6.lt
    obtain ⟨L,hL⟩:=ex9 (c.level k)
    have hLB:=HK.o.2.2.2.1 k hk
    rw [←hL] at hF y0 y1 y2 hLB
    obtain ⟨lp,hlp⟩:=ex9 (L.p.length)
    obtain ⟨lt,hlt2⟩:=ex9 (L.t.length)
    rw [←hlp] at y0
    rw [←hlt2] at y1
    have hltl:lt≤300000:=by rw [hlt2];exact hLB.t
    have HV:=hide (ai9 hF (ai9 hlp (ai9 hlt2 hL)))
    have HN:=hide (ai9 y0 (ai9 y1 hg6l))
    clear hF hlp hlt2 hL y0 y1 y2 hg6l hLB
    go_upto_region 15 with fail
    clear z0 z1 z2 z3 z4 z5 hgl
    have HSB:=hide (show Below V.heap.size V V.drew from (Below.refl _ V).drew)
    refine zB (fun W=>Below V.heap.size V W) [0,1,3,4] [0,1,3,4,2,5,6,7,8] zL (by kernel_rfl) ?_
    refine zA (v:=(.pointer (some ⟨g6,0,none⟩))) rfl rfl (fun _ _ _ h=>h) HSB.o ⟨rfl,fun _ _=>by simp [go_sem]⟩ ?_
    refine zA (v:=(.slice Cp lp p1)) rfl rfl (fun _ _ _ h=>h) HSB.o ⟨rfl,fun _ h'=>by have a0:=(h'.cell (p:=⟨g6,0,none⟩) HN.o.2.2).trans HN.o.1;simp [go_sem,a0]⟩ ?_
    refine zA (v:=(.pointer (some ⟨g6,1,none⟩))) rfl rfl (fun _ _ _ h=>h) HSB.o ⟨rfl,fun _ _=>by simp [go_sem]⟩ ?_
    refine zA (v:=(.slice Ct lt p2)) rfl rfl (fun _ _ _ h=>h) HSB.o ⟨rfl,fun _ h'=>by have a0:=(h'.cell (p:=⟨g6,1,none⟩) HN.o.2.2).trans HN.o.2.1;simp [go_sem,a0]⟩ ?_
    simp only [List.getElem_toArray,List.getElem_cons_succ,List.getElem_cons_zero,Act.put,List.setIfInBounds_toArray,List.set_cons_succ,List.set_cons_zero]
    refine zD rfl rfl ?_
    go_wp2_with fail
    have HA:=hide (show Below V.heap.size V (V.alloc (.cells #[] 35)) from (Below.refl _ V).alloc lr9 _)
    refine ⟨fun _=>HA.o.drew,?_⟩
    refine zD rfl rfl ?_
    refine zI rfl _ _ _ rfl Tryz.underlying22 fE rfl (by omega) zS vX rfl (bI (w:=V) rfl lr9).drew Ct p2 V.heap.size L.t (by rw [←HV.o.2.2.1];rfl) (HV.o.1.t.below HA.o.drew) (by rw [←HV.o.2.2.1];unfold maxLen;omega) (by rw [←HV.o.2.2.1];omega) (by simp) ?_
    intro v5 w5 ho5 hg5 hB5 hat5
    rw [←HV.o.2.2.1,List.nil_append,Nat.zero_add] at ho5
    obtain ⟨A5,c5,rfl⟩:=ho5.form
    have H5:=hide (ai9 ho5 (ai9 (HA.o.drew.trans hB5) True.intro))
    clear ho5 hg5 hB5 hat5
    go_wp2_with fail
    refine ⟨fun _=>H5.o.2.1,?_⟩
    refine zJ _ [_,_,_] (by kernel_rfl) rfl ?_
    go_wp2_with fail
    go_ret3
    have h1:=HV.o.1.own.below H5.o.2.1 lr9
    have h2:=H5.o.1.base_le HV.o.1.below.size
    have e1:=HV.o.2.2.2
    have e2:=HV.o.2.1
    have e3:=HV.o.2.2.1
    rw [←e1,←e2,←e3]
    rw [←e2] at h1
    exact ⟨_,_,_,_,rfl,h1,h2,HV.o.1.below.trans (H5.o.2.1.mono HV.o.1.below.size)⟩
 ·have hfp:finP c= []:=by unfold finP;rw [if_neg herr]
  have hft:finT c= []:=by unfold finT;rw [if_neg herr]
  rw [hfp,hft]
  obtain ⟨np,hnp⟩:=ex9 (c.points.length)
  obtain ⟨nt,hnt⟩:=ex9 (c.tris.length)
  obtain ⟨nc,hnc⟩:=ex9 (c.creases.length)
  obtain ⟨no,hno⟩:=ex9 (c.corners.length)
  obtain ⟨nd,hnd⟩:=ex9 (c.details.length)
  obtain ⟨sn,hsn⟩:=ex9 (c.steps)
  obtain ⟨er,her⟩:=ex9 (errC c)
  rw [←hnp,←hnt,←hnc,←hno,←hnd,←hsn,←her]
  simp only [←hnp,←hnt,←hnc,←hno,←hnd,←hsn,←her] at kw
  have hne:(er !=0)=true:=by rw [her];simpa using herr
  have HK:=hide kw
  clear kw hfp hft hnp hnt hnc hno hnd hsn her herr hm hb hfs hnb
  go_enter Tryz.func32,Tryz.ntmps32
  go_upto_region 1 with fail
  obtain ⟨g1,hg1⟩:=ex9 (w.heap.size)
  obtain ⟨X0,hX⟩:=ex9 (w.alloc (.cells (cCtl Ap np cp At nt ct Ac nc cc Ao no oc sn Ad nd dc) 32))
  rw [←hX,←hg1]
  have hb1:Blk X0 g1 32 (cCtl Ap np cp At nt ct Ac nc cc Ao no oc sn Ad nd dc):=by rw [hX,hg1];exact Blk.new _ _ _
  have hBX:Below w.heap.size w X0:=by rw [hX];exact (Below.refl _ w).alloc lr9 _
  obtain ⟨z0,z1,z2,z3,z4,z5⟩:=hb1.six9
  have hgl:=hb1.lt
  have H0:=hide (ai9 hb1 hBX)
  clear hb1 hBX hX hg1
  go_wp2_with (go_at_call 61;refine (HK.o X0 H0.o.2).mono ?_;rintro e X1 ⟨rfl,hB⟩;have H1:=hide (H0.o.2.trans (hB.mono H0.o.2.size));clear hB)
  go_ret3
  exact ⟨_,_,_,_,rfl,Own.nil,Own.nil,H1.o⟩
end Go.Proofs.YtmemofonebphfaaGreat
