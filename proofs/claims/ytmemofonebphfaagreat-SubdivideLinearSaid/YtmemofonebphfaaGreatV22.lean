import Derived.StillTailTactics
import Derived.BigRegion
import Derived.Test.YtmemofonebphfaaGreatV21
namespace Go.Proofs.YtmemofonebphfaaGreat
open Go.RowKit Go.Sort
def lenV:Value→Nat
 | .slice _ n _=>n
 | _=>0
theorem infoE2:(Tryz.prog.info? 56).map (fun i=>(i.zero,i.size,i.bytes))=some (some (.agg #[.int .i64 0, .int .i64 0]),2,16):=by kernel_rfl
theorem Sl.e2 {w:World} {B:Nat} {A:Option Addr} {t:List E2} (h:Sl encE2 2 w B A t) {i:Nat} {x:E2} (hx:t[i]? =some x):
  ∃b o,A=some ⟨b,o,none⟩∧b < B∧w.cell? ⟨b,o+i*2,none⟩=some (.int .i64 x.1)∧w.cell? ⟨b,o+i*2+1,none⟩=some (.int .i64 x.2):=by
 obtain ⟨b,o,hA,hb,hc⟩:=h.at hx
 exact ⟨b,o,hA,hb,hc 0 _ rfl,hc 1 _ rfl⟩
theorem merge_head {x y:E2} {xs ys:List E2}:List.merge (x::xs) (y::ys) (leO ltE2)=if ltE2 y x=true then y::List.merge (x::xs) ys (leO ltE2) else x::List.merge xs (y::ys) (leO ltE2):=by
 rw [List.cons_merge_cons]
 unfold leO
 cases ltE2 y x <;>simp
set_option maxRecDepth 100000 in
set_option maxHeartbeats 32000000 in
theorem sorted_any (n:Nat):∀(A:Option Addr) (c:Nat) (l:List E2) (w:World),l.length≤n→Sl encE2 2 w w.heap.size A l→l.length≤100000000→l.length≤c→
  Calls Tryz.prog 48 #[.slice A l.length c] w fun e w'=>∃A' c',e= .returned (.slice A' l.length c')∧Below w.heap.size w w'∧Sl encE2 2 w' w'.heap.size A' (sortO ltE2 l)∧l.length≤c':=by
 induction n with
 | zero=>
  intro A c l w hn hs hl hc
  have e:l= []:=List.eq_nil_of_length_eq_zero (by omega)
  subst e
  have H:=hide (And.intro hs hc)
  clear hs hc hn hl
  go_enter Tryz.func48,Tryz.ntmps48
  go_wp2_with fail
  go_ret
  exact ⟨A,c,rfl,Below.refl _ w,by rw [sortO_short (by simp)];exact H.out.1,H.out.2⟩
 | succ n ih=>
  intro A c l w hn hs hl hc
  by_cases h2:l.length < 2
  ·have H:=hide (And.intro hs (And.intro hc h2))
   have hd:decide ((l.length:Int) < 2)=true:=by simp;omega
   clear hs hc hn
   go_enter Tryz.func48,Tryz.ntmps48
   go_wp2_with fail
   go_ret
   exact ⟨A,c,rfl,Below.refl _ w,by rw [sortO_short H.out.2.2];exact H.out.1,H.out.2.1⟩
  ·obtain ⟨N,hN⟩:∃N,N=l.length:=⟨_,rfl⟩
   obtain ⟨h,hh⟩:∃h,h=N / 2:=⟨_,rfl⟩
   have hq:(N:Int) / 2=(h:Int):=by omega
   have hq2:(N:Int).tdiv 2=(h:Int):=by rw [Int.tdiv_eq_ediv_of_nonneg (by omega)];exact hq
   have hrun1:∀V:World,(Instr.slice 29 (.slice A N c) none (some (.int .i64 h)) none).run Tryz.prog V= .ok (.slice A h c) V:=fun V=>run_cutH Tryz.underlying29 Tryz.sizeOf56 (by omega) (by omega) V
   have hrun2:∀V:World,(Instr.slice 29 (.slice A N c) (some (.int .i64 h)) none none).run Tryz.prog V= .ok (.slice (cutA A c h 2) (N - h) (c - h)) V:=fun V=>run_cut Tryz.underlying29 Tryz.sizeOf56 (by omega) V
   have hl1:(l.take h).length=h:=by rw [List.length_take];omega
   have hl2:(l.drop h).length=N - h:=by rw [List.length_drop];omega
   have k1:=fun W (hW:Below w.heap.size w W)=>ih A c (l.take h) W (by omega) ((hs.below hW).more hW.size |>.take8 h) (by omega) (by omega)
   have k2:=fun W (hW:Below w.heap.size w W)=>ih (cutA A c h 2) (c - h) (l.drop h) W (by omega) (((hs.below hW).more hW.size).cut (by omega) (by omega)) (by omega) (by omega)
   simp only [hl1] at k1
   simp only [hl2] at k2
   obtain ⟨R,hR⟩:∃R,R=sortO ltE2 l:=⟨_,rfl⟩
   have hm:List.merge (sortO ltE2 (l.take h)) (sortO ltE2 (l.drop h)) (leO ltE2)=R:=by rw [hR];exact tot_E2.halves l h
   have hRl:R.length=N:=by rw [hR,sortO_length,hN]
   have hx1:(sortO ltE2 (l.take h)).length=h:=by rw [sortO_length,hl1]
   have hx2:(sortO ltE2 (l.drop h)).length=N - h:=by rw [sortO_length,hl2]
   rw [←hR,←hN]
   obtain ⟨x0,hx0⟩:∃x,x=sortO ltE2 (l.take h):=⟨_,rfl⟩
   obtain ⟨y0,hy0⟩:∃x,x=sortO ltE2 (l.drop h):=⟨_,rfl⟩
   simp only [←hx0] at k1 hm hx1
   simp only [←hy0] at k2 hm hx2
   have K:=hide (And.intro k1 (And.intro k2 (And.intro hm (And.intro hRl (And.intro hx1 hx2)))))
   have hhN:h≤N:=by omega
   have i1:¬(N:Int) < 2:=by omega
   have hNl:N≤100000000:=by omega
   clear ih k1 k2 hm hRl hx1 hx2 hs hl hc hn hN hh hl1 hl2 hR hx0 hy0 h2
   go_enter Tryz.func48,Tryz.ntmps48
   go_upto_region 4 with (go_at_call 48;refine (K.out.1 w (Below.refl _ w)).mono ?_;rintro e w1 ⟨A1,c1,rfl,hB,hs1,hc1⟩;have H1:=hide (And.intro hs1 (And.intro hc1 hB));clear hs1 hc1 hB)
   go_upto_region 5 with (go_at_call 48;refine (K.out.2.1 w1 H1.out.2.2).mono ?_;rintro e Y ⟨A2,c2,rfl,hB,hs2,hc2⟩;have H2:=hide (And.intro ((H1.out.1.below hB).more hB.size) (And.intro hs2 (And.intro hc2 (H1.out.2.2.trans (hB.mono H1.out.2.2.size)))));clear hs2 hc2 hB)
   go_upto_region 6 with fail
   have hN2:=K.out.2.2.2.2.2
   have hN1:=K.out.2.2.2.2.1
   go_loopw [3,4,5] (fun av bv ov wr=>∃(x y m:List E2) (A1 A2:Option Addr) (c1 c2:Nat),av= .slice A1 x.length c1∧bv= .slice A2 y.length c2∧(Sl encE2 2 Y Y.heap.size A1 x∧Sl encE2 2 Y Y.heap.size A2 y)∧(x.length≤c1∧y.length≤c2)∧x.length+y.length+m.length=N∧m++List.merge x y (leO ltE2)=R∧Own encE2 2 56 wr Y.heap.size ov m.length m∧Below Y.heap.size Y wr) (fun av bv _ _=>lenV av+lenV bv)
   case atStart=>exact ⟨_,_, [],A1,A2,c1,c2,by rw [hN1],by rw [hN2],⟨H2.out.1,H2.out.2.1⟩,⟨by rw [hN1];exact H1.out.2.1,by rw [hN2];exact H2.out.2.2.1⟩,by rw [hN1,hN2];simp;omega,K.out.2.2.1,Own.nil,Below.refl _ Y⟩
   case round=>
    obtain ⟨x,y,m,A1,A2,c1,c2,rfl,rfl,⟨hsx,hsy⟩,⟨hcx,hcy⟩,hlen,hmr,hO,hB⟩:=hrel
    obtain ⟨V,rfl⟩:∃x,x=wr:=⟨_,rfl⟩
    obtain ⟨Am,cm,rfl⟩:=hO.form
    have hcase:x= []∨(x≠ []∧y= [])∨(∃a xs b ys,x=a::xs∧y=b::ys):=by
     cases x with
     | nil=>exact .inl rfl
     | cons a xs=>cases y with
      | nil=>exact .inr (.inl ⟨by simp,rfl⟩)
      | cons b ys=>exact .inr (.inr ⟨a,xs,b,ys,rfl,rfl⟩)
    rcases hcase with hx | ⟨hx,hy⟩ | ⟨⟨x1,x2⟩,xs,⟨y1,y2⟩,ys,rfl,rfl⟩
    ·have hM:(m++x)++y=R:=by
      have h:=hmr
      rw [hx] at h
      rw [hx]
      simpa using h
     have hpx:x.length=0:=by rw [hx];rfl
     obtain ⟨px,hxl⟩:∃n,x.length=n:=⟨_,rfl⟩
     obtain ⟨py,hyl⟩:∃n,y.length=n:=⟨_,rfl⟩
     obtain ⟨ml,hml⟩:∃n,m.length=n:=⟨_,rfl⟩
     simp only [hxl,hyl,hml] at hpx hlen hO⊢
     have i2:¬(0:Int) < (px:Int):=by omega
     have hsV:Sl encE2 2 V V.heap.size A1 x:=(hsx.below hB).more hB.size
     have hzV:=hB.size
     have HO:=hide (And.intro hO (And.intro hsV (And.intro hsy (And.intro hB (And.intro hM (And.intro hxl (And.intro hyl hml)))))))
     clear hO hsV hsx hsy hB hmr hM hxl hyl hml hcx hcy hx
     go_upto_region 12 with fail
     go_wp2_with (first
      | (at_builtin;refine wpList_appendS rfl _ _ _ rfl Tryz.underlying29 infoE2 rfl (by omega) encE2_len encE2_one rfl H5.out.1 A2 c2 Y.heap.size y (by rw [HO.out.2.2.2.2.2.2.1];rfl) (HO.out.2.2.1.below H5.out.2) (by have:=HO.out.2.2.2.2.2.2.1;have:=HO.out.2.2.2.2.2.1;unfold maxLen;omega) (by have:=HO.out.2.2.2.2.2.2.1;have:=HO.out.2.2.2.2.2.1;omega) H5.out.2.size ?_;intro v6 w6 ho6 hg6 hB6 hat6;have H6:=hide (And.intro ho6 (H5.out.2.trans hB6));clear ho6 hg6 hB6 hat6)
      | (at_builtin;refine wpList_appendS rfl _ _ _ rfl Tryz.underlying29 infoE2 rfl (by omega) encE2_len encE2_one rfl HO.out.1 A1 c1 V.heap.size x (by rw [HO.out.2.2.2.2.2.1];rfl) HO.out.2.1 (by rw [HO.out.2.2.2.2.2.1];unfold maxLen;omega) (by rw [HO.out.2.2.2.2.2.1];omega) hzV ?_;intro v5 w5 ho5 hg5 hB5 hat5;obtain ⟨A5,c5,rfl⟩:=ho5.form;have H5:=hide (And.intro ho5 (HO.out.2.2.2.1.trans hB5));clear ho5 hg5 hB5 hat5))
     go_ret
     have ho:=H6.out.1
     rw [HO.out.2.2.2.2.1,HO.out.2.2.2.2.2.1,HO.out.2.2.2.2.2.2.1,show ml+px+py=N by omega] at ho
     obtain ⟨A6,c6,rfl⟩:=ho.form
     exact ⟨A6,c6,rfl,H2.out.2.2.2.trans (H6.out.2.mono H2.out.2.2.2.size),ho.sl encE2_len (Nat.le_refl _),ho.place.1⟩
    ·have hM:(m++x)++y=R:=by
      have h:=hmr
      rw [hy] at h
      rw [hy]
      simpa using h
     have hpx:0 < x.length∧y.length=0:=⟨List.length_pos_iff.2 hx,by rw [hy];rfl⟩
     obtain ⟨px,hxl⟩:∃n,x.length=n:=⟨_,rfl⟩
     obtain ⟨py,hyl⟩:∃n,y.length=n:=⟨_,rfl⟩
     obtain ⟨ml,hml⟩:∃n,m.length=n:=⟨_,rfl⟩
     simp only [hxl,hyl,hml] at hpx hlen hO⊢
     obtain ⟨hp1,hp2⟩:=hpx
     subst hp2
     have i2:(0:Int) < (px:Int):=by omega
     have hsV:Sl encE2 2 V V.heap.size A1 x:=(hsx.below hB).more hB.size
     have hzV:=hB.size
     have HO:=hide (And.intro hO (And.intro hsV (And.intro hsy (And.intro hB (And.intro hM (And.intro hxl (And.intro hyl hml)))))))
     clear hO hsV hsx hsy hB hmr hM hxl hyl hml hcx hcy hx hy
     go_upto_region 12 with fail
     go_wp2_with (first
      | (at_builtin;refine wpList_appendS rfl _ _ _ rfl Tryz.underlying29 infoE2 rfl (by omega) encE2_len encE2_one rfl H5.out.1 A2 c2 Y.heap.size y (by rw [HO.out.2.2.2.2.2.2.1];rfl) (HO.out.2.2.1.below H5.out.2) (by have:=HO.out.2.2.2.2.2.2.1;have:=HO.out.2.2.2.2.2.1;unfold maxLen;omega) (by have:=HO.out.2.2.2.2.2.2.1;have:=HO.out.2.2.2.2.2.1;omega) H5.out.2.size ?_;intro v6 w6 ho6 hg6 hB6 hat6;have H6:=hide (And.intro ho6 (H5.out.2.trans hB6));clear ho6 hg6 hB6 hat6)
      | (at_builtin;refine wpList_appendS rfl _ _ _ rfl Tryz.underlying29 infoE2 rfl (by omega) encE2_len encE2_one rfl HO.out.1 A1 c1 V.heap.size x (by rw [HO.out.2.2.2.2.2.1];rfl) HO.out.2.1 (by rw [HO.out.2.2.2.2.2.1];unfold maxLen;omega) (by rw [HO.out.2.2.2.2.2.1];omega) hzV ?_;intro v5 w5 ho5 hg5 hB5 hat5;obtain ⟨A5,c5,rfl⟩:=ho5.form;have H5:=hide (And.intro ho5 (HO.out.2.2.2.1.trans hB5));clear ho5 hg5 hB5 hat5))
     go_ret
     have ho:=H6.out.1
     rw [HO.out.2.2.2.2.1,HO.out.2.2.2.2.2.1,HO.out.2.2.2.2.2.2.1,show ml+px+0=N by omega] at ho
     obtain ⟨A6,c6,rfl⟩:=ho.form
     exact ⟨A6,c6,rfl,H2.out.2.2.2.trans (H6.out.2.mono H2.out.2.2.2.size),ho.sl encE2_len (Nat.le_refl _),ho.place.1⟩
    ·obtain ⟨ba,oa,hA,hba,z0,z1⟩:=hsx.e2 (i:=0) rfl
     obtain ⟨bb,ob,hB2,hbb,z2,z3⟩:=hsy.e2 (i:=0) rfl
     subst hA hB2
     simp only [Nat.zero_mul,Nat.add_zero] at z0 z1 z2 z3
     have hdx:Sl encE2 2 Y Y.heap.size (cutA (some ⟨ba,oa,none⟩) c1 1 2) xs:=hsx.cut (i:=1) (by simp) hcx
     have hdy:Sl encE2 2 Y Y.heap.size (cutA (some ⟨bb,ob,none⟩) c2 1 2) ys:=hsy.cut (i:=1) (by simp) hcy
     have HC:=hide (And.intro z0 (And.intro z1 (And.intro z2 (And.intro z3 (And.intro hba hbb)))))
     have z0:=(hB.cell (p:=⟨ba,oa,none⟩) hba).trans z0
     have z1:=(hB.cell (p:=⟨ba,oa+1,none⟩) hba).trans z1
     have z2:=(hB.cell (p:=⟨bb,ob,none⟩) hbb).trans z2
     have z3:=(hB.cell (p:=⟨bb,ob+1,none⟩) hbb).trans z3
     have hlA:ba < V.heap.size:=Nat.lt_of_lt_of_le hba hB.size
     have hlB:bb < V.heap.size:=Nat.lt_of_lt_of_le hbb hB.size
     obtain ⟨px,hxl⟩:∃n,xs.length=n:=⟨_,rfl⟩
     obtain ⟨py,hyl⟩:∃n,ys.length=n:=⟨_,rfl⟩
     have hr1:∀W:World,(Instr.slice 29 (.slice (some ⟨ba,oa,none⟩) (px+1) c1) (some (.int .i64 1)) none none).run Tryz.prog W= .ok (.slice (cutA (some ⟨ba,oa,none⟩) c1 1 2) px (c1 - 1)) W:=fun W=>run_cut (i:=1) Tryz.underlying29 Tryz.sizeOf56 (by omega) W
     have hr2:∀W:World,(Instr.slice 29 (.slice (some ⟨bb,ob,none⟩) (py+1) c2) (some (.int .i64 1)) none none).run Tryz.prog W= .ok (.slice (cutA (some ⟨bb,ob,none⟩) c2 1 2) py (c2 - 1)) W:=fun W=>run_cut (i:=1) Tryz.underlying29 Tryz.sizeOf56 (by omega) W
     rw [List.length_cons,List.length_cons,hxl,hyl] at hlen
     rw [List.length_cons,hxl] at hcx
     rw [List.length_cons,hyl] at hcy
     simp only [List.length_cons,hxl,hyl]
     obtain ⟨ml,hml⟩:∃n,m.length=n:=⟨_,rfl⟩
     rw [hml] at hlen hO⊢
     have kb:=fun W=>before_any (y1,y2) (x1,x2) W
     have HR:=hide (And.intro hsx (And.intro hsy (And.intro hdy (And.intro hdx (And.intro hmr (And.intro hO hB))))))
     have i2:(0:Int) < ((px+1:Nat):Int):=by omega
     have i3:(0:Int) < ((py+1:Nat):Int):=by omega
     have i4:(0:Int) < (px:Int)+1:=by omega
     have i5:(0:Int) < (py:Int)+1:=by omega
     clear hsx hsy hdx hdy hmr hO hB hba hbb
     by_cases hcmp:ltE2 (y1,y2) (x1,x2)=true
     ·have hl:ltE2 (y1,y2) (x1,x2)=true:=hcmp
      rw [hl] at kb
      have hM:(m++ [(y1,y2)])++List.merge ((x1,x2)::xs) ys (leO ltE2)=R:=by
       have h:=HR.out.2.2.2.2.1
       rw [merge_head,hl] at h
       rw [List.append_assoc]
       exact h
      have HK:=hide (And.intro kb hM)
      clear kb hl hcmp hM
      go_upto_region 7 with fail
      go_still_tail 6,(by kernel_rfl)
      repeat still_step
      change wpList _ _ _ _ _ V.drew
      go_upto_region 8 with (go_at_call 82;refine (HK.out.1 V.drew).mono ?_;rintro e W3 ⟨rfl,hB⟩;have H3:=hide (And.intro (HR.out.2.2.2.2.2.2.drew.trans (hB.mono HR.out.2.2.2.2.2.2.size)) (HR.out.2.2.2.2.2.1.drew.below hB (Nat.le_refl _)));clear hB)
      clear z0 z1 z2 z3 hlA hlB
      have z0:=(H3.out.1.cell (p:=⟨ba,oa,none⟩) HC.out.2.2.2.2.1).trans HC.out.1
      have z1:=(H3.out.1.cell (p:=⟨ba,oa+1,none⟩) HC.out.2.2.2.2.1).trans HC.out.2.1
      have z2:=(H3.out.1.cell (p:=⟨bb,ob,none⟩) HC.out.2.2.2.2.2).trans HC.out.2.2.1
      have z3:=(H3.out.1.cell (p:=⟨bb,ob+1,none⟩) HC.out.2.2.2.2.2).trans HC.out.2.2.2.1
      have hlA:ba < W3.heap.size:=Nat.lt_of_lt_of_le HC.out.2.2.2.2.1 H3.out.1.size
      have hlB:bb < W3.heap.size:=Nat.lt_of_lt_of_le HC.out.2.2.2.2.2 H3.out.1.size
      have hz3:=H3.out.1.size
      go_upto_region 9 with (at_builtin;refine wpList_append1 rfl _ _ _ rfl Tryz.underlying29 infoE2 rfl (by omega) encE2_len encE2_one rfl (H3.out.2.alloc _) W3.heap.size 1 ((y1,y2):E2) rfl (Blk.new _ _ _) (by unfold maxLen;omega) (by omega) (by simp;omega) ?_;intro g5 cap5 w5 hown5 hg5 hB5 hat5 hgb5 hlt5;have H5:=hide (And.intro hown5 ((H3.out.1.alloc hz3 _).trans hB5));clear hown5 hg5 hB5 hat5 hgb5 hlt5)
      go_wp2
      go_roundw
      case rel=>exact ⟨(x1,x2)::xs,ys,m++ [(y1,y2)],some ⟨ba,oa,none⟩,cutA (some ⟨bb,ob,none⟩) c2 1 2,c1,c2 - 1,by rw [List.length_cons,hxl],by rw [hyl],⟨HR.out.1,HR.out.2.2.1⟩,⟨by rw [List.length_cons,hxl];omega,by omega⟩,by rw [List.length_append,List.length_cons];simp;omega,HK.out.2,by rw [List.length_append,hml];exact H5.out.1,H5.out.2⟩
      case measure=>(simp [lenV];try omega)
     ·have hl:ltE2 (y1,y2) (x1,x2)=false:=(by simpa using hcmp)
      rw [hl] at kb
      have hM:(m++ [(x1,x2)])++List.merge xs ((y1,y2)::ys) (leO ltE2)=R:=by
       have h:=HR.out.2.2.2.2.1
       rw [merge_head,hl] at h
       rw [List.append_assoc]
       exact h
      have HK:=hide (And.intro kb hM)
      clear kb hl hcmp hM
      go_upto_region 7 with fail
      go_still_tail 6,(by kernel_rfl)
      repeat still_step
      change wpList _ _ _ _ _ V.drew
      go_upto_region 10 with (go_at_call 82;refine (HK.out.1 V.drew).mono ?_;rintro e W3 ⟨rfl,hB⟩;have H3:=hide (And.intro (HR.out.2.2.2.2.2.2.drew.trans (hB.mono HR.out.2.2.2.2.2.2.size)) (HR.out.2.2.2.2.2.1.drew.below hB (Nat.le_refl _)));clear hB)
      clear z0 z1 z2 z3 hlA hlB
      have z0:=(H3.out.1.cell (p:=⟨ba,oa,none⟩) HC.out.2.2.2.2.1).trans HC.out.1
      have z1:=(H3.out.1.cell (p:=⟨ba,oa+1,none⟩) HC.out.2.2.2.2.1).trans HC.out.2.1
      have z2:=(H3.out.1.cell (p:=⟨bb,ob,none⟩) HC.out.2.2.2.2.2).trans HC.out.2.2.1
      have z3:=(H3.out.1.cell (p:=⟨bb,ob+1,none⟩) HC.out.2.2.2.2.2).trans HC.out.2.2.2.1
      have hlA:ba < W3.heap.size:=Nat.lt_of_lt_of_le HC.out.2.2.2.2.1 H3.out.1.size
      have hlB:bb < W3.heap.size:=Nat.lt_of_lt_of_le HC.out.2.2.2.2.2 H3.out.1.size
      have hz3:=H3.out.1.size
      go_upto_region 11 with (at_builtin;refine wpList_append1 rfl _ _ _ rfl Tryz.underlying29 infoE2 rfl (by omega) encE2_len encE2_one rfl (H3.out.2.alloc _) W3.heap.size 1 ((x1,x2):E2) rfl (Blk.new _ _ _) (by unfold maxLen;omega) (by omega) (by simp;omega) ?_;intro g5 cap5 w5 hown5 hg5 hB5 hat5 hgb5 hlt5;have H5:=hide (And.intro hown5 ((H3.out.1.alloc hz3 _).trans hB5));clear hown5 hg5 hB5 hat5 hgb5 hlt5)
      go_wp2
      go_roundw
      case rel=>exact ⟨xs,(y1,y2)::ys,m++ [(x1,x2)],cutA (some ⟨ba,oa,none⟩) c1 1 2,some ⟨bb,ob,none⟩,c1 - 1,c2,by rw [hxl],by rw [List.length_cons,hyl],⟨HR.out.2.2.2.1,HR.out.2.1⟩,⟨by omega,by rw [List.length_cons,hyl];omega⟩,by rw [List.length_append,List.length_cons];simp;omega,HK.out.2,by rw [List.length_append,hml];exact H5.out.1,H5.out.2⟩
      case measure=>(simp [lenV];try omega)
end Go.Proofs.YtmemofonebphfaaGreat
namespace Go.Proofs.YtmemofonebphfaaGreat
open Go.RowKit Go.Sort
def upF (l:List E2):List E2:=l.filter fun e=>decide (e.1 < e.2)
theorem upE_succ {t:List Pt} {i:Nat} {x:Pt} (hx:t[i]? =some x):upE (t.take (i+1))=upE (t.take i)++upF (de3 x):=by
 unfold upE upF dirE
 rw [List.take_add_one,hx,List.flatMap_append,List.filter_append]
 simp
theorem upF_succ {x:Pt} {j:Nat} {e:E2} (he:(de3 x)[j]? =some e):upF ((de3 x).take (j+1))=upF ((de3 x).take j)++if e.1 < e.2 then [e] else []:=by
 unfold upF
 rw [List.take_add_one,he,List.filter_append]
 by_cases h:e.1 < e.2 <;>simp [h]
set_option maxRecDepth 100000 in
set_option maxHeartbeats 32000000 in
theorem edges9_any (A:Option Addr) (c:Nat) (t:List Pt) (w:World) (hs:Sl encN3 3 w w.heap.size A t) (hl:t.length≤1000000):
  Calls Tryz.prog 26 #[.slice A t.length c] w fun e w'=>∃A' c',e= .returned (.slice A' (edgesE t).length c')∧Sl encE2 2 w' w'.heap.size A' (edgesE t)∧Below w.heap.size w w':=by
 obtain ⟨N,hN⟩:∃N,N=t.length:=⟨_,rfl⟩
 rw [←hN] at hl⊢
 have HS:=hide (And.intro hs hN)
 clear hs hN
 go_enter Tryz.func26,Tryz.ntmps26
 go_upto_region 3 with fail
 go_loopw [3,4] (fun ov iv wr=>∃(i m:Nat),i≤N∧iv= .int .i64 i∧Own encE2 2 56 wr w.heap.size ov m (upE (t.take i))∧m≤3*i∧Below w.heap.size w wr) (fun _ iv _=>N - (intOf iv).toNat)
 case atStart=>exact ⟨0,0,by omega,rfl,Own.nil,by omega,Below.refl _ w⟩
 case round=>
  obtain ⟨i,m,hi,rfl,hO,hm,hB⟩:=hrel
  obtain ⟨V,rfl⟩:∃x,x=wr:=⟨_,rfl⟩
  obtain ⟨Ao,co,rfl⟩:=hO.form
  by_cases hlt:i < N
  ·have i1:(i:Int) < (N:Int):=by omega
   obtain ⟨x,hx⟩:∃x,t[i]? =some x:=⟨_,List.getElem?_eq_getElem (by rw [←HS.out.2];exact hlt)⟩
   obtain ⟨bb,o,hA,hbb,c0,c1,c2⟩:=HS.out.1.n3 hx
   subst hA
   have hup:=upE_succ hx
   obtain ⟨x1,x2,x3⟩:=x
   simp only at c0 c1 c2
   have HC:=hide (And.intro c0 (And.intro c1 (And.intro c2 (And.intro hbb hup))))
   have HV:=hide (And.intro hO hB)
   clear hx hup c0 c1 c2 hO hB
   go_upto_region 6 with fail
   go_loopw [3,5] (fun ov jv wz=>∃(j m2:Nat),j≤3∧jv= .int .i64 j∧Own encE2 2 56 wz w.heap.size ov m2 (upE (t.take i)++upF ((de3 (x1,x2,x3)).take j))∧m2≤3*i+j∧Below w.heap.size w wz) (fun _ jv _=>3 - (intOf jv).toNat)
   case atStart=>exact ⟨0,m,by omega,rfl,by simpa [upF] using HV.out.1,by omega,HV.out.2⟩
   case round=>
    obtain ⟨j,m2,hj,rfl,hO,hm2,hB⟩:=hrel
    obtain ⟨U,rfl⟩:∃x,x=wr:=⟨_,rfl⟩
    obtain ⟨Ap,cp,rfl⟩:=hO.form
    have c0:=(hB.cell (p:=⟨bb,o+i*3,none⟩) HC.out.2.2.2.1).trans HC.out.1
    have c1:=(hB.cell (p:=⟨bb,o+i*3+1,none⟩) HC.out.2.2.2.1).trans HC.out.2.1
    have c2:=(hB.cell (p:=⟨bb,o+i*3+2,none⟩) HC.out.2.2.2.1).trans HC.out.2.2.1
    have hbU:bb < U.heap.size:=Nat.lt_of_lt_of_le HC.out.2.2.2.1 hB.size
    have hzU:=hB.size
    have HU:=hide (And.intro hO hB)
    clear hO hB HV
    have a1:IntKind.i64.wrap 1=1:=by decide
    have a2:IntKind.i64.wrap 2=2:=by decide
    have a3:IntKind.i64.wrap 3=3:=by decide
    have hc:j=0∨j=1∨j=2∨j=3:=by omega
    rcases hc with rfl | rfl | rfl | rfl
    ·have hsu:=upF_succ (x:=(x1,x2,x3)) (j:=0) (e:=(x1,x2)) rfl
     by_cases h1:x1 < x2
     ·rw [if_pos h1] at hsu
      have HH:=hide hsu
      clear hsu
      go_wp2_with (at_builtin;refine wpList_append1 rfl _ _ _ rfl Tryz.underlying29 infoE2 rfl (by omega) encE2_len encE2_one rfl (HU.out.1.alloc _) U.heap.size 1 ((x1,x2):E2) rfl (Blk.new _ _ _) (by unfold maxLen;omega) (by omega) (by simp;omega) ?_;intro g5 cap5 w5 hown5 hg5 hB5 hat5 hgb5 hlt5;have H5:=hide (And.intro hown5 ((HU.out.2.alloc hzU _).trans hB5));clear hown5 hg5 hB5 hat5 hgb5 hlt5)
      go_roundw
      case rel=>exact ⟨1,m2+1,by omega,by go_num,by rw [HH.out,←List.append_assoc];exact H5.out.1,by omega,H5.out.2⟩
      case measure=>(simp [intOf];try omega)
     ·rw [if_neg h1,List.append_nil] at hsu
      have HH:=hide hsu
      clear hsu
      go_wp2
      go_roundw
      case rel=>exact ⟨1,m2,by omega,by go_num,by rw [HH.out];exact HU.out.1,by omega,HU.out.2⟩
      case measure=>(simp [intOf];try omega)
    ·have hsu:=upF_succ (x:=(x1,x2,x3)) (j:=1) (e:=(x2,x3)) rfl
     by_cases h1:x2 < x3
     ·rw [if_pos h1] at hsu
      have HH:=hide hsu
      clear hsu
      go_wp2_with (at_builtin;refine wpList_append1 rfl _ _ _ rfl Tryz.underlying29 infoE2 rfl (by omega) encE2_len encE2_one rfl (HU.out.1.alloc _) U.heap.size 1 ((x2,x3):E2) rfl (Blk.new _ _ _) (by unfold maxLen;omega) (by omega) (by simp;omega) ?_;intro g5 cap5 w5 hown5 hg5 hB5 hat5 hgb5 hlt5;have H5:=hide (And.intro hown5 ((HU.out.2.alloc hzU _).trans hB5));clear hown5 hg5 hB5 hat5 hgb5 hlt5)
      go_roundw
      case rel=>exact ⟨2,m2+1,by omega,by go_num,by rw [HH.out,←List.append_assoc];exact H5.out.1,by omega,H5.out.2⟩
      case measure=>(simp [intOf];try omega)
     ·rw [if_neg h1,List.append_nil] at hsu
      have HH:=hide hsu
      clear hsu
      go_wp2
      go_roundw
      case rel=>exact ⟨2,m2,by omega,by go_num,by rw [HH.out];exact HU.out.1,by omega,HU.out.2⟩
      case measure=>(simp [intOf];try omega)
    ·have hsu:=upF_succ (x:=(x1,x2,x3)) (j:=2) (e:=(x3,x1)) rfl
     by_cases h1:x3 < x1
     ·rw [if_pos h1] at hsu
      have HH:=hide hsu
      clear hsu
      go_wp2_with (at_builtin;refine wpList_append1 rfl _ _ _ rfl Tryz.underlying29 infoE2 rfl (by omega) encE2_len encE2_one rfl (HU.out.1.alloc _) U.heap.size 1 ((x3,x1):E2) rfl (Blk.new _ _ _) (by unfold maxLen;omega) (by omega) (by simp;omega) ?_;intro g5 cap5 w5 hown5 hg5 hB5 hat5 hgb5 hlt5;have H5:=hide (And.intro hown5 ((HU.out.2.alloc hzU _).trans hB5));clear hown5 hg5 hB5 hat5 hgb5 hlt5)
      go_roundw
      case rel=>exact ⟨3,m2+1,by omega,by go_num,by rw [HH.out,←List.append_assoc];exact H5.out.1,by omega,H5.out.2⟩
      case measure=>(simp [intOf];try omega)
     ·rw [if_neg h1,List.append_nil] at hsu
      have HH:=hide hsu
      clear hsu
      go_wp2
      go_roundw
      case rel=>exact ⟨3,m2,by omega,by go_num,by rw [HH.out];exact HU.out.1,by omega,HU.out.2⟩
      case measure=>(simp [intOf];try omega)
    ·go_wp2
     go_roundw
     case rel=>exact ⟨i+1,m2,by omega,by go_num,by rw [HC.out.2.2.2.2];exact HU.out.1,by omega,HU.out.2⟩
     case measure=>(simp [intOf];try omega)
  ·obtain rfl:i=N:=by omega
   have i1:¬(i:Int) < (i:Int):=by omega
   have ht:t.take i=t:=by rw [HS.out.2];exact List.take_length
   rw [ht] at hO
   have hml:=hO.1
   have k:=sorted_any m Ao co (upE t) V (by omega) (hO.sl encE2_len (Nat.le_refl _)) (by omega) (by rw [←hml];exact hO.place.1)
   rw [←hml] at k
   have hel:m=(edgesE t).length:=by unfold edgesE;rw [sortO_length];exact hml
   have HK:=hide (And.intro k (And.intro hB hel))
   clear k hO hB ht hml hel
   go_wp2_with (go_at_call 48;refine HK.out.1.mono ?_;rintro e W3 ⟨A3,c3,rfl,hB3,hs3,_⟩;have H3:=hide (And.intro hs3 (HK.out.2.1.trans (hB3.mono HK.out.2.1.size)));clear hB3 hs3)
   go_ret
   exact ⟨A3,c3,by rw [←HK.out.2.2];rfl,H3.out.1,H3.out.2⟩
end Go.Proofs.YtmemofonebphfaaGreat
namespace Go.Proofs.YtmemofonebphfaaGreat
open Go.RowKit Go.Sort
def fits2 (e:E2):Prop:=fits e.1∧fits e.2
end Go.Proofs.YtmemofonebphfaaGreat
namespace Go.Proofs.YtmemofonebphfaaGreat
open Go.RowKit Go.Sort
def nrm1 (e:E2):E2:=nrmE e.1 e.2
theorem nrm1_fits {e:E2} (h:fits2 e):fits2 (nrm1 e):=by
 obtain ⟨h1,h2⟩:=h
 unfold fits at h1 h2
 unfold nrm1 nrmE fits2 fits
 dsimp only
 omega
end Go.Proofs.YtmemofonebphfaaGreat
namespace Go.Proofs.YtmemofonebphfaaGreat
open Go.RowKit Go.Sort
def encZ9 (x:Int):List Value:= [.int .i64 x]
theorem encZ9_len (x:Int):(encZ9 x).length=1:=rfl
theorem encZ9_one (x:Int):∀u∈encZ9 x,u.oneCell'=true:=by
 intro u hu
 simp only [encZ9,List.mem_singleton] at hu
 subst hu
 rfl
theorem Sl.z9 {w:World} {B:Nat} {A:Option Addr} {xs:List Int} (h:Sl encZ9 1 w B A xs) {i:Nat} {x:Int} (hi:xs[i]? =some x):
  ∃b o,A=some ⟨b,o,none⟩∧b < B∧w.cell? ⟨b,o+i,none⟩=some (.int .i64 x):=by
 obtain ⟨b,o,hA,hb,hc⟩:=h.at hi
 refine ⟨b,o,hA,hb,?_⟩
 have:=hc 0 _ rfl
 rw [Nat.mul_one,Nat.add_zero] at this
 exact this
end Go.Proofs.YtmemofonebphfaaGreat
namespace Go.Proofs.YtmemofonebphfaaGreat
open Go.RowKit Go.Sort
section
variable {L:Lev} (h:LvR L)
include h
theorem LvR.rng {a b:Int} (hd:(a,b)∈dirE L.t):(0≤a∧a < L.p.length)∧0≤b∧b < L.p.length:=by
 obtain ⟨x,hx,hx2⟩:=mem_dirE.1 hd
 have:=h.cls.idx x hx
 obtain ⟨x1,x2,x3⟩:=x
 simp only [mem_de3,Prod.mk.injEq] at hx2
 dsimp only at this
 omega
theorem LvR.crd {a b:Int} (hc:(a,b)∈L.cr):(a,b)∈dirE L.t∧(b,a)∈dirE L.t∧a < b:=by
 obtain ⟨h1,h2⟩:=mem_edgesE.1 (h.crE _ hc)
 exact ⟨h1,h.cls.clos _ h1,h2⟩
theorem LvR.thr {a b:Int} (hd:(a,b)∈dirE L.t):(b,thirdE L.t a b)∈dirE L.t∧(thirdE L.t a b,a)∈dirE L.t∧(thirdE L.t a b,b)∈dirE L.t∧(a,thirdE L.t a b)∈dirE L.t:=by
 obtain ⟨h1,h2⟩:=third_mem h.cls.nodup hd
 exact ⟨h1,h2,h.cls.clos _ h1,h.cls.clos _ h2⟩
end
theorem mem_ends {cr:List E2} {a x:Int}:x∈endsE cr a ↔ (a,x)∈cr∨(x,a)∈cr:=by
 unfold endsE
 rw [List.mem_flatMap]
 constructor
 ·rintro ⟨⟨e1,e2⟩,he,hx⟩
  rw [List.mem_append] at hx
  rcases hx with hx | hx
  ·split at hx
   ·rename_i h1
    simp only at h1
    subst h1
    rw [List.mem_singleton] at hx
    simp only at hx
    subst hx
    exact .inl he
   ·cases hx
  ·split at hx
   ·rename_i h1
    simp only at h1
    subst h1
    rw [List.mem_singleton] at hx
    simp only at hx
    subst hx
    exact .inr he
   ·cases hx
 ·rintro (h | h)
  ·exact ⟨_,h,by simp⟩
  ·exact ⟨_,h,by simp⟩
theorem bey_or (cr:List E2) (co:List Int) (a b:Int):beyE cr co a b=a∨beyE cr co a b∈endsE cr a:=by
 unfold beyE
 split
 ·exact .inl rfl
 ·rename_i h
  have h2:(endsE cr a).length=2:=Classical.byContradiction fun h'=>h (.inr h')
  refine .inr ?_
  split
  ·rw [List.getD_eq_getElem?_getD,List.getElem?_eq_getElem (by omega)];exact List.getElem_mem _
  ·rw [List.getD_eq_getElem?_getD,List.getElem?_eq_getElem (by omega)];exact List.getElem_mem _
theorem LvR.bey {L:Lev} (h:LvR L) (co:List Int) {a b:Int} (ha:0≤a∧a < L.p.length):0≤beyE L.cr co a b∧beyE L.cr co a b < L.p.length:=by
 rcases bey_or L.cr co a b with e | e
 ·rw [e];exact ha
 ·rcases mem_ends.1 e with hm | hm
  ·exact (h.rng (h.crd hm).1).2
  ·exact (h.rng (h.crd hm).1).1
end Go.Proofs.YtmemofonebphfaaGreat
namespace Go.Proofs.YtmemofonebphfaaGreat
open Go.RowKit Go.Sort
theorem tdiv16_wrap (x:Int):wrap64 ((wrap64 x).tdiv 16)=(wrap64 x).tdiv 16:=by
 have h: -9223372036854775808≤wrap64 x∧wrap64 x≤9223372036854775807:=by unfold wrap64;omega
 have e:(wrap64 x).tdiv 16=if 0≤wrap64 x then wrap64 x / 16 else -(-wrap64 x / 16):=by
  split
  ·rw [Int.tdiv_eq_ediv_of_nonneg (by assumption)]
  ·have:wrap64 x= -(-wrap64 x):=by omega
   conv=>lhs;rw [this]
   rw [Int.neg_tdiv,Int.tdiv_eq_ediv_of_nonneg (by omega)]
 generalize (wrap64 x).tdiv 16=q at e
 unfold wrap64
 split at e <;>omega
end Go.Proofs.YtmemofonebphfaaGreat
namespace Go.Proofs.YtmemofonebphfaaGreat
open Go.RowKit Go.Sort
structure LevB (L:Lev) (co:List Int):Prop where
 p:L.p.length≤1000000
 t:L.t.length≤300000
 c:L.cr.length≤400000
 o:co.length≤1000000
theorem rules_at {L:Lev} {co:List Int} {i:Nat} {e:E2} (h:(edgesE L.t)[i]? =some e):(L.rules co)[i]? =some (ruleE L.p L.t L.cr co e.1 e.2):=by
 unfold Lev.rules
 rw [List.getElem?_map,h]
 rfl
theorem edgesE_le (t:List Pt):(edgesE t).length≤3*t.length:=by
 unfold edgesE upE
 rw [sortO_length,←dirE_length]
 exact List.length_filter_le _ _
end Go.Proofs.YtmemofonebphfaaGreat
namespace Go.Proofs.YtmemofonebphfaaGreat
open Go.RowKit Go.Sort
theorem own_empty9 {α:Type} {enc:α→List Value} {k:Nat} {e:TypeId} {w:World} {base g:Nat} (hg:g=w.heap.size) (hb:base≤w.heap.size):Own enc k e (w.alloc (.cells #[] e)) base (.slice (some ⟨g,0,none⟩) 0 0) 0 ([]:List α):=by
 subst hg
 exact ⟨rfl,by simp, .inr ⟨w.heap.size,0,#[],rfl,hb,heap_alloc_new w _,Nat.le_refl _,by decide,by simp,by simp⟩⟩
theorem infoN3:(Tryz.prog.info? 35).map (fun i=>(i.zero,i.size,i.bytes))=some (some (.agg #[.int .i64 0, .int .i64 0, .int .i64 0]),3,24):=by kernel_rfl
theorem grown_set9 (W:World) (b i:Nat) (v:Value):W.grownBy (W.setCell ⟨b,i,none⟩ v) (some b):=
 ⟨rfl,rfl,rfl,(KeepsWalks.setCell W _ v).size,fun k _ hne=>Below.heap_setCell W ⟨b,i,none⟩ v k (fun e=>hne (by rw [e]))⟩
theorem blk_own_ne9 {α:Type} {enc:α→List Value} {k:Nat} {e t:TypeId} {w:World} {base n gf:Nat} {v:Value} {xs:List α} {cs:Array Value} (hb:Blk w gf t cs) (ho:Own enc k e w base v n xs) (hte:e≠t):some gf≠v.ownBlock:=fun e'=>by
 obtain ⟨cs',hc⟩:=ho.cells gf e'.symm
 have hb':w.heap[gf]? =some (.cells cs t (0,0)):=hb
 rw [hc] at hb'
 cases hb'
 exact hte rfl
theorem stepT_take {m:Int→Int→Int} {t:List Pt} {i:Nat} {x:Pt} (h:t[i]? =some x):stepT m (t.take (i+1))=stepT m (t.take i)++four m x:=by
 unfold stepT
 rw [List.take_add_one,h,Option.toList_some,List.flatMap_append,List.flatMap_singleton]
end Go.Proofs.YtmemofonebphfaaGreat
namespace Go.Proofs.YtmemofonebphfaaGreat
open Go.RowKit Go.Sort
abbrev cCtl (Ap:Option Addr) (np cp:Nat) (At:Option Addr) (nt ct:Nat) (Ac:Option Addr) (nc cc:Nat) (Ao:Option Addr) (no oc:Nat) (st:Int) (Ad:Option Addr) (nd dc:Nat):Array Value:=
 #[.slice Ap np cp, .slice At nt ct, .slice Ac nc cc, .slice Ao no oc, .int .i64 st, .slice Ad nd dc]
abbrev vCtl (Ap:Option Addr) (np cp:Nat) (At:Option Addr) (nt ct:Nat) (Ac:Option Addr) (nc cc:Nat) (Ao:Option Addr) (no oc:Nat) (st:Int) (Ad:Option Addr) (nd dc:Nat):Value:=
 .agg #[.slice Ap np cp, .slice At nt ct, .slice Ac nc cc, .slice Ao no oc, .int .i64 st, .slice Ad nd dc]
structure CtlM (w:World) (B:Nat) (Ap At Ac Ao Ad:Option Addr) (c:Ctl):Prop where
 p:Sl encP 3 w B Ap c.points
 t:Sl encN3 3 w B At c.tris
 cr:Sl encE2 2 w B Ac c.creases
 o:Sl encZ9 1 w B Ao c.corners
 d:∃ss:List Hdr,Sl encS 1 w B Ad ss∧ss.length=c.details.length∧∀(i:Nat) (d:List Pt),c.details[i]? =some d→∃A k,ss[i]? =some (A,d.length,k)∧Sl encP 3 w B A d
theorem CtlM.below {w W:World} {B B':Nat} {Ap At Ac Ao Ad:Option Addr} {c:Ctl} (h:CtlM w B Ap At Ac Ao Ad c) (hB:Below B w W) (hb:B≤B'):CtlM W B' Ap At Ac Ao Ad c:=by
 refine ⟨(h.p.below hB).more hb,(h.t.below hB).more hb,(h.cr.below hB).more hb,(h.o.below hB).more hb,?_⟩
 obtain ⟨ss,h1,h2,h3⟩:=h.d
 refine ⟨ss,(h1.below hB).more hb,h2,fun i d hd=> ?_⟩
 obtain ⟨A,k,h4,h5⟩:=h3 i d hd
 exact ⟨A,k,h4,(h5.below hB).more hb⟩
structure CtlB (c:Ctl):Prop where
 p:c.points.length≤100000
 t:c.tris.length≤100000
 cr:c.creases.length≤100000
 o:c.corners.length≤100000
 d:c.details.length≤100000
 dd:∀d∈c.details,d.length≤1000000
theorem Blk.six9 {w:World} {g:Nat} {t:TypeId} {a b c d e f:Value} (h:Blk w g t #[a,b,c,d,e,f]):w.cell? ⟨g,0,none⟩=some a∧w.cell? ⟨g,1,none⟩=some b∧w.cell? ⟨g,2,none⟩=some c∧w.cell? ⟨g,3,none⟩=some d∧w.cell? ⟨g,4,none⟩=some e∧w.cell? ⟨g,5,none⟩=some f:=
 ⟨h.cell 0,h.cell 1,h.cell 2,h.cell 3,h.cell 4,h.cell 5⟩
theorem undrew9 {n:Nat} {w W:World} (h:Below n w.drew W):Below n w W:=⟨h.os,h.tape,h.output,h.size,h.block⟩
def okI (np:Nat) (n:Int):Bool:=decide (0≤n) && decide (n < (np:Int))
theorem okI_iff {np:Nat} {n:Int}:okI np n=true ↔ 0≤n∧n < (np:Int):=by simp [okI]
theorem outE_all {np:Nat} {l:List Int} (h:∀i∈l,okI np i=true):outE np l=false:=by
 refine List.any_eq_false.2 fun i hi=> ?_
 have:=okI_iff.1 (h i hi)
 simp only [decide_eq_true_eq]
 omega
end Go.Proofs.YtmemofonebphfaaGreat
namespace Go.Proofs.YtmemofonebphfaaGreat
open Go.RowKit Go.Sort
theorem manyE_drop {ds:List (List Pt)} {k:Nat} {d:List Pt} (h:ds[k]? =some d) (j m:Nat):manyE (ds.drop k) (j+1) m=(decide (m < d.length) || manyE (ds.drop (k+1)) j (4*m)):=by
 obtain ⟨hk,rfl⟩:=List.getElem?_eq_some_iff.1 h
 rw [List.drop_eq_getElem_cons hk]
 rfl
theorem manyE_nil:∀(j m:Nat),manyE [] j m=false
 | 0,_=>rfl
 | _+1,_=>rfl
theorem numT_fits {n:Nat} (hn:n≤1000000) {x:Pt} (h:∀i∈corN3 x,0≤i∧i < (n:Int)):fitsT (numT x):=by
 have h1:=h x.1 (by simp [corN3])
 have h2:=h x.2.1 (by simp [corN3])
 have h3:=h x.2.2 (by simp [corN3])
 unfold fitsT numT fitsP fits
 dsimp only
 omega
theorem sp_len {c:Ctl} (h:checkP (c.tris.map numT) false=0):2*(edgesE c.tris).length=3*c.tris.length:=by
 obtain ⟨h1,h2,h3,_⟩:=check_num.1 h
 refine edges_count (fun e he=> ?_) h2 h3
 obtain ⟨x,hx,hd⟩:=mem_dirE.1 he
 have:=h1 x hx
 rcases mem_de3.1 hd with rfl | rfl | rfl
 ·exact this.1
 ·exact this.2.1
 ·exact this.2.2
theorem CtlM.det {w:World} {B:Nat} {Ap At Ac Ao Ad:Option Addr} {c:Ctl} (h:CtlM w B Ap At Ac Ao Ad c) {i:Nat} {d:List Pt} (hd:c.details[i]? =some d):
  ∃b o A k,Ad=some ⟨b,o,none⟩∧b < B∧w.cell? ⟨b,o+i,none⟩=some (.slice A d.length k)∧Sl encP 3 w B A d:=by
 obtain ⟨ss,h1,h2,h3⟩:=h.d
 obtain ⟨A,k,h4,h5⟩:=h3 i d hd
 obtain ⟨b,o,hA,hb,hc⟩:=h1.at h4
 have:=hc 0 _ rfl
 rw [Nat.mul_one,Nat.add_zero] at this
 exact ⟨b,o,A,k,hA,hb,this,h5⟩
end Go.Proofs.YtmemofonebphfaaGreat
namespace Go.Proofs.YtmemofonebphfaaGreat
open Go.RowKit Go.Sort
theorem sorted_uniq {l m:List E2} (hl:l.Pairwise (fun a b=>leO ltE2 a b=true)) (hm:m.Pairwise (fun a b=>leO ltE2 a b=true)) (hp:l.Perm m):l=m:=
 hp.eq_of_pairwise (fun a b _ _ h1 h2=>by
  simp only [leO,Bool.not_eq_true'] at h1 h2
  exact tot_E2.tot a b h2 h1) hl hm
theorem LvR.cr_filter {L:Lev} (h:LvR L):L.cr=(edgesE L.t).filter fun e=>decide (e∈L.cr):=by
 refine sorted_uniq h.crS ((edgesE_sorted L.t).filter _) ?_
 refine (List.perm_ext_iff_of_nodup h.crN ((edgesE_nodup h.cls.nodup).filter _)).2 fun e=> ?_
 rw [List.mem_filter,decide_eq_true_eq]
 exact ⟨fun he=>⟨h.crE e he,he⟩,fun he=>he.2⟩
theorem LvR.cr_le {L:Lev} (h:LvR L):L.cr.length≤(edgesE L.t).length:=by
 rw [h.cr_filter]
 exact List.length_filter_le _ _
theorem many_get:∀{k n m:Nat} {ds:List (List Pt)} {d:List Pt},manyE ds n m=false→k < n→ds[k]? =some d→d.length≤4^k*m
 | 0,n+1,m,d0::ds,d,h,_,hd=>by
  unfold manyE at h
  simp only [Bool.or_eq_false_iff,decide_eq_false_iff_not] at h
  have e:d0=d:=by simpa using hd
  subst e
  simp
  omega
 | k+1,n+1,m,d0::ds,d,h,hk,hd=>by
  unfold manyE at h
  simp only [Bool.or_eq_false_iff] at h
  have:=many_get (k:=k) (n:=n) h.2 (by omega) (by simpa using hd)
  rw [Nat.pow_succ,Nat.mul_assoc]
  exact this
 | 0,_,_, [],_,_,_,hd=>by simp at hd
 | _+1,_,_, [],_,_,_,hd=>by simp at hd
 | _,0,_,_,_,_,hk,_=>absurd hk (by omega)
section
variable {c:Ctl} (h:RightC c) (hb:NoBack c.tris)
include h hb
theorem level_edges (k:Nat):2*(edgesE (c.level k).t).length=3*(4^k*c.tris.length):=by
 rw [←Ctl.level_t]
 exact (Ctl.level_right h hb k).cls.count
omit hb in
theorem level_tri {k:Nat} (hk:k≤c.steps.toNat):4^k*c.tris.length≤65536:=Nat.le_trans (Nat.mul_le_mul_right _ (Nat.pow_le_pow_right (by omega) hk)) h.tri
theorem level_pts:∀{k:Nat},k≤c.steps.toNat→(c.level k).p.length≤c.points.length+k*98304
 | 0,_=>by show (c.points.map _).length≤_;rw [List.length_map];omega
 | k+1,hk=>by
  rw [Ctl.level_p]
  have h1:=level_pts (k:=k) (by omega)
  have h2:=level_edges h hb k
  have h3:=level_tri h (k:=k) (by omega)
  omega
theorem level_small (hB:CtlB c) {k:Nat} (hk:k≤c.steps.toNat):LevB (c.level k) c.corners:=by
 have h1:=level_pts h hb hk
 have h2:=level_edges h hb k
 have h3:=level_tri h hk
 have h4:=(Ctl.level_right h hb k).cr_le
 have h5:=h.st
 have h6:=hB.p
 have h7:=hB.o
 refine ⟨by omega,by rw [Ctl.level_t];omega,by omega,by omega⟩
theorem det_few {k:Nat} {d:List Pt} (hk:k < c.steps.toNat) (hd:c.details[k]? =some d):d.length≤(edgesE (c.level k).t).length:=by
 have h1:=many_get h.many hk hd
 have h2:=level_edges h hb k
 have h0:=level_edges h hb 0
 simp only [Nat.pow_zero,Nat.one_mul] at h0
 have e:3*c.tris.length / 2=(edgesE (c.level 0).t).length:=by omega
 rw [e] at h1
 have h3:2*(4^k*(edgesE (c.level 0).t).length)=2*(edgesE (c.level k).t).length:=by
  rw [h2,Nat.mul_left_comm,h0,Nat.mul_left_comm]
 omega
end
def finP (c:Ctl):List Pt:=if errC c=0 then (c.level c.steps.toNat).p else []
def finT (c:Ctl):List Pt:=if errC c=0 then (c.level c.steps.toNat).t else []
end Go.Proofs.YtmemofonebphfaaGreat
namespace Go.Proofs.YtmemofonebphfaaGreat
open Go.RowKit Go.Sort
def backV (t u:Tri):Bool:=memE (t.2.1,t.1) (edgesP [u]) && (memE (t.2.2,t.2.1) (edgesP [u]) && memE (t.1,t.2.2) (edgesP [u]))
def codP (p:Pt):Nat:=p.1.toNat+4*p.2.1.toNat+16*p.2.2.toNat
def codV (n m:Nat):Nat:=(n % 3+m % 2)+4*(n / 3 % 3+m / 2 % 2)+16*(n / 9+m / 4)
theorem cod_cor (n m:Nat):codP (cor8 (voxC (0,0,0) 1 n) 1 m)=codV n m:=by
 unfold codP codV cor8 voxC
 dsimp only
 omega
abbrev T3:=Nat × Nat × Nat
def sixI:Nat→List T3
 | 0=> [(0,2,3),(0,3,1)]
 | 1=> [(4,5,7),(4,7,6)]
 | 2=> [(0,1,5),(0,5,4)]
 | 3=> [(2,6,7),(2,7,3)]
 | 4=> [(0,4,6),(0,6,2)]
 | _=> [(1,3,7),(1,7,5)]
def cod3 (n:Nat) (x:T3):T3:=(codV n x.1,codV n x.2.1,codV n x.2.2)
theorem side_six (n f:Nat):∀t∈sideG n f,∃x∈sixI f,cod3 n x=(codP t.1,codP t.2.1,codP t.2.2):=by
 intro t ht
 have key:∀i j k:Nat,cod3 n (i,j,k)=(codP (cor8 (voxC (0,0,0) 1 n) 1 i),codP (cor8 (voxC (0,0,0) 1 n) 1 j),codP (cor8 (voxC (0,0,0) 1 n) 1 k)):=fun i j k=>by
  rw [cod_cor,cod_cor,cod_cor];rfl
 rcases f with _ | _ | _ | _ | _ | f <;>simp only [sideG,sideP,quadP,List.mem_cons,List.not_mem_nil,or_false] at ht <;>rcases ht with rfl | rfl <;>
  first
  | exact ⟨_,List.mem_cons_self,key _ _ _⟩
  | exact ⟨_,List.mem_cons_of_mem _ List.mem_cons_self,key _ _ _⟩
def memC (x y:Nat) (u:T3):Bool:=(Nat.beq x u.1 && Nat.beq y u.2.1) || ((Nat.beq x u.2.1 && Nat.beq y u.2.2) || (Nat.beq x u.2.2 && Nat.beq y u.1))
def bothC (n f m g:Nat):Bool:=decide (nbrV n f=some m) || (sixI f).all fun x=>(sixI g).all fun y=> !(memC (codV n x.2.1) (codV n x.1) (cod3 m y) && memC (codV n x.2.2) (codV n x.2.1) (cod3 m y))
def backs (z:Nat):Bool:=(List.range 9).all fun n=>(List.range 6).all fun f=>(List.range 27).all fun m=>(List.range 6).all fun g=>bothC (9*z+n) f m g
theorem backs_0:backs 0=true:=by decide+kernel
theorem backs_1:backs 1=true:=by decide+kernel
theorem backs_2:backs 2=true:=by decide+kernel
theorem backs_ok {n f m g:Nat} (hn:n < 27) (hf:f < 6) (hm:m < 27) (hg:g < 6):bothC n f m g=true:=by
 have key:∀z,backs z=true→n / 9=z→bothC n f m g=true:=fun z h e=>by
  have h1:=List.all_eq_true.1 (List.all_eq_true.1 (List.all_eq_true.1 (List.all_eq_true.1 h (n % 9) (List.mem_range.2 (by omega))) f (List.mem_range.2 hf)) m (List.mem_range.2 hm)) g (List.mem_range.2 hg)
  rw [show 9*z+n % 9=n by omega] at h1
  exact h1
 have hz:n / 9=0∨n / 9=1∨n / 9=2:=by omega
 rcases hz with h | h | h
 ·exact key 0 backs_0 h
 ·exact key 1 backs_1 h
 ·exact key 2 backs_2 h
theorem memE_code {x y:Pt} {u:Tri} (h:memE (x,y) (edgesP [u])=true):memC (codP x) (codP y) (codP u.1,codP u.2.1,codP u.2.2)=true:=by
 rw [memE_iff] at h
 have e:edgesP [u]= [(u.1,u.2.1),(u.2.1,u.2.2),(u.2.2,u.1)]:=rfl
 rw [e] at h
 simp only [List.mem_cons,List.not_mem_nil,or_false,Prod.mk.injEq] at h
 unfold memC
 rcases h with ⟨rfl,rfl⟩ | ⟨rfl,rfl⟩ | ⟨rfl,rfl⟩ <;>simp
theorem vox_back {b:Nat→Bool} {t u:Tri} (ht:t∈voxP b (0,0,0) 1) (hu:u∈voxP b (0,0,0) 1):backV t u=false:=by
 obtain ⟨n,f,hn,hf,hb,ho,hs⟩:=mem_vox ht
 obtain ⟨m,g,hm,hg,hb2,ho2,hs2⟩:=mem_vox hu
 have h1:=backs_ok hn hf hm hg
 unfold bothC at h1
 rw [Bool.or_eq_true] at h1
 rcases h1 with h1 | h1
 ·exfalso
  have h1:=of_decide_eq_true h1
  unfold openV at ho
  rw [h1] at ho
  simp [hb2] at ho
 ·refine Bool.eq_false_iff.2 fun hk=> ?_
  unfold backV at hk
  rw [Bool.and_eq_true,Bool.and_eq_true] at hk
  obtain ⟨x,hx,ex⟩:=side_six n f t hs
  obtain ⟨y,hy,ey⟩:=side_six m g u hs2
  have h2:=List.all_eq_true.1 (List.all_eq_true.1 h1 x hx) y hy
  have k1:=memE_code hk.1
  have k2:=memE_code hk.2.1
  rw [←ey] at k1 k2
  unfold cod3 at ex
  simp only [Prod.mk.injEq] at ex
  rw [←ex.1,←ex.2.1] at k1
  rw [←ex.2.1,←ex.2.2] at k2
  rw [k1,k2] at h2
  cases h2
def tetB:List Pt:= [(0,2,1),(0,1,3),(1,2,3),(2,0,3)]
def octB:List Pt:= [(0,2,4),(2,1,4),(1,3,4),(3,0,4),(2,0,5),(1,2,5),(3,1,5),(0,3,5)]
def torR (y x:Nat):List Pt:=
 [(((3*y+x:Nat):Int),((3*y+(x+1) % 3:Nat):Int),((3*((y+1) % 3)+(x+1) % 3:Nat):Int)),(((3*y+x:Nat):Int),((3*((y+1) % 3)+(x+1) % 3:Nat):Int),((3*((y+1) % 3)+x:Nat):Int))]
def torB:List Pt:=(List.range 3).flatMap fun y=>(List.range 3).flatMap (torR y)
def posC:List Pt→Pt→Nat
 | [],_=>0
 | _::l,q=>if l.any (fun r=>decide (r=q)) then posC l q+1 else 0
def numV (l:List Tri):List Pt:=l.map fun t=>((posC (cornersP l) t.1:Int),(posC (cornersP l) t.2.1:Int),(posC (cornersP l) t.2.2:Int))
def bitsB (bits:Int):Nat:=2^(bits % 27).toNat ||| 2^((bits.tdiv 27) % 27).toNat
def voxB (bits:Int):List Tri:=voxP (bitsB bits).testBit (0,0,0) 1
def baseT (kind bits:Int):List Pt:=
 if kind % 4=0 then tetB else if kind % 4=1 then octB else if kind % 4=2 then torB else if checkP (voxB bits) false=0 then numV (voxB bits) else tetB
def baseN (kind bits:Int):Nat:=
 if kind % 4=0 then 4 else if kind % 4=1 then 6 else if kind % 4=2 then 9 else if checkP (voxB bits) false=0 then (cornersP (voxB bits)).length else 4
structure BaseR (t:List Pt) (n:Nat):Prop where
 idx:∀x∈t,(0≤x.1∧x.1 < (n:Int))∧(0≤x.2.1∧x.2.1 < (n:Int))∧0≤x.2.2∧x.2.2 < (n:Int)
 chk:checkP (t.map numT) false=0
 back:NoBack t
 few:t.length≤324
 pts:n≤972
 some:1≤n
 edg:1≤(edgesE t).length
def backN (t:List Pt):Bool:=t.all fun x=>t.all fun y=> !((de3 x).all fun e=>(de3 y).any fun d=>decide (d=swE e))
theorem noBack_of {t:List Pt} (h:backN t=true):NoBack t:=fun x hx y hy hb=>by
 have h1:=List.all_eq_true.1 (List.all_eq_true.1 h x hx) y hy
 rw [Bool.not_eq_true',←Bool.not_eq_true,List.all_eq_true] at h1
 exact h1 fun e he=>List.any_eq_true.2 ⟨_,hb e he,by simp⟩
def idxN (t:List Pt) (n:Int):Bool:=t.all fun x=>decide (0≤x.1) && decide (x.1 < n) && decide (0≤x.2.1) && decide (x.2.1 < n) && decide (0≤x.2.2) && decide (x.2.2 < n)
theorem idx_of {t:List Pt} {n:Int} (h:idxN t n=true):∀x∈t,(0≤x.1∧x.1 < n)∧(0≤x.2.1∧x.2.1 < n)∧0≤x.2.2∧x.2.2 < n:=fun x hx=>by
 have:=List.all_eq_true.1 h x hx
 simp only [Bool.and_eq_true,decide_eq_true_eq] at this
 omega
theorem edg_of {t:List Pt} (h:t.any (fun x=>decide (x.1 < x.2.1))=true):1≤(edgesE t).length:=by
 obtain ⟨x,hx,h1⟩:=List.any_eq_true.1 h
 have hm:(x.1,x.2.1)∈edgesE t:=mem_edgesE.2 ⟨mem_dirE.2 ⟨x,hx,by simp [de3]⟩,of_decide_eq_true h1⟩
 exact List.length_pos_of_mem hm
theorem tet_right:BaseR tetB 4:=⟨idx_of (by decide+kernel),by decide+kernel,noBack_of (by decide+kernel),by decide,by decide,by decide,edg_of (by decide+kernel)⟩
theorem oct_right:BaseR octB 6:=⟨idx_of (by decide+kernel),by decide+kernel,noBack_of (by decide+kernel),by decide,by decide,by decide,edg_of (by decide+kernel)⟩
theorem tor_right:BaseR torB 9:=⟨idx_of (by decide+kernel),by decide+kernel,noBack_of (by decide+kernel),by decide+kernel,by decide,by decide,edg_of (by decide+kernel)⟩
theorem posC_at:∀{l:List Pt} {q:Pt},q∈l→l[posC l q]? =some q
 | p::l,q,h=>by
  unfold posC
  split
  ·rename_i h1
   obtain ⟨r,hr,e⟩:=List.any_eq_true.1 h1
   have e:=of_decide_eq_true e
   subst e
   rw [List.getElem?_cons_succ]
   exact posC_at hr
  ·rename_i h1
   rcases List.mem_cons.1 h with rfl | h
   ·rfl
   ·exact absurd (List.any_eq_true.2 ⟨q,h,by simp⟩) h1
theorem posC_inj {l:List Pt} {p q:Pt} (hp:p∈l) (hq:q∈l) (h:posC l p=posC l q):p=q:=by
 have h1:=posC_at hp
 have h2:=posC_at hq
 rw [h,h2] at h1
 exact (Option.some.inj h1).symm
theorem posC_lt {l:List Pt} {q:Pt} (h:q∈l):posC l q < l.length:=(List.getElem?_eq_some_iff.1 (posC_at h)).1
theorem tri_cors {l:List Tri} {t:Tri} (h:t∈l):t.1∈cornersP l∧t.2.1∈cornersP l∧t.2.2∈cornersP l:=
 by
 have hm:∀q,q∈ [t.1,t.2.1,t.2.2]→q∈cornersP l:=fun q hq=>((corners_both l).2 q).2 (List.mem_flatMap.2 ⟨t,h,hq⟩)
 exact ⟨hm _ (by simp),hm _ (by simp),hm _ (by simp)⟩
theorem bitsB_one (bits:Int):∃k,k < 27∧(bitsB bits).testBit k=true:=by
 refine ⟨(bits % 27).toNat,by omega,?_⟩
 unfold bitsB
 rw [Nat.testBit_or,Nat.testBit_two_pow]
 simp
theorem bitsB_lt (bits:Int):bitsB bits < 134217728:=by
 unfold bitsB
 exact Nat.or_lt_two_pow (n:=27) (Nat.pow_lt_pow_right (by omega) (by omega)) (Nat.pow_lt_pow_right (by omega) (by omega))
theorem vox_right {bits:Int} (hc:checkP (voxB bits) false=0) (hne:voxB bits≠ []):BaseR (numV (voxB bits)) (cornersP (voxB bits)).length:=by
 have hcm:∀p∈corsP (voxB bits),p∈cornersP (voxB bits):=fun p hp=>((corners_both _).2 p).2 hp
 have hnum:∀x∈numV (voxB bits),∃t∈voxB bits,x=((posC (cornersP (voxB bits)) t.1:Int),(posC (cornersP (voxB bits)) t.2.1:Int),(posC (cornersP (voxB bits)) t.2.2:Int)):=fun x hx=>by
  obtain ⟨t,ht,e⟩:=List.mem_map.1 hx
  exact ⟨t,ht,e.symm⟩
 have hck:checkP ((numV (voxB bits)).map numT) false=0:=by
  have e:(numV (voxB bits)).map numT=(voxB bits).map (renT fun p=>((posC (cornersP (voxB bits)) p:Int),0,0)):=by
   unfold numV
   rw [List.map_map]
   rfl
  rw [e]
  refine (check_ren fun p hp q hq h=> ?_).2 hc
  simp only [Prod.mk.injEq,and_true] at h
  exact posC_inj (hcm p hp) (hcm q hq) (by omega)
 have hdist:=(check_num.1 hck).1
 refine ⟨fun x hx=> ?_,hck,fun x hx y hy hb=> ?_,?_,?_,?_,?_⟩
 ·obtain ⟨t,ht,rfl⟩:=hnum x hx
  have:=tri_cors ht
  have h1:=posC_lt this.1
  have h2:=posC_lt this.2.1
  have h3:=posC_lt this.2.2
  dsimp only
  omega
 ·obtain ⟨t,ht,rfl⟩:=hnum x hx
  obtain ⟨u,hu,rfl⟩:=hnum y hy
  have h1:=vox_back ht hu
  have ct:=tri_cors ht
  have cu:=tri_cors hu
  have key:∀p q:Pt,p∈cornersP (voxB bits)→q∈cornersP (voxB bits)→((posC (cornersP (voxB bits)) p:Int),(posC (cornersP (voxB bits)) q:Int))∈de3 ((posC (cornersP (voxB bits)) u.1:Int),(posC (cornersP (voxB bits)) u.2.1:Int),(posC (cornersP (voxB bits)) u.2.2:Int))→memE (p,q) (edgesP [u])=true:=fun p q hp hq h=>by
   rw [memE_iff]
   simp only [mem_de3,Prod.mk.injEq] at h
   have e:edgesP [u]= [(u.1,u.2.1),(u.2.1,u.2.2),(u.2.2,u.1)]:=rfl
   rw [e]
   rcases h with ⟨ha,hb⟩ | ⟨ha,hb⟩ | ⟨ha,hb⟩
   ·rw [posC_inj hp cu.1 (by omega),posC_inj hq cu.2.1 (by omega)];simp
   ·rw [posC_inj hp cu.2.1 (by omega),posC_inj hq cu.2.2 (by omega)];simp
   ·rw [posC_inj hp cu.2.2 (by omega),posC_inj hq cu.1 (by omega)];simp
  have k1:=key t.2.1 t.1 ct.2.1 ct.1 (hb (_,_) (by simp [de3]))
  have k2:=key t.2.2 t.2.1 ct.2.2 ct.2.1 (hb (_,_) (by simp [de3]))
  have k3:=key t.1 t.2.2 ct.1 ct.2.2 (hb (_,_) (by simp [de3]))
  unfold backV at h1
  rw [k1,k2,k3] at h1
  cases h1
 ·unfold numV;rw [List.length_map];exact voxP_le _ _ _
 ·have:=cornersP_le (voxB bits)
  have:=voxP_le (bitsB bits).testBit (0,0,0) 1
  unfold voxB at*
  omega
 ·obtain ⟨t,ht⟩:=List.exists_mem_of_ne_nil _ hne
  exact List.length_pos_of_mem (tri_cors ht).1
 ·obtain ⟨t,ht⟩:=List.exists_mem_of_ne_nil _ hne
  have hx:((posC (cornersP (voxB bits)) t.1:Int),(posC (cornersP (voxB bits)) t.2.1:Int),(posC (cornersP (voxB bits)) t.2.2:Int))∈numV (voxB bits):=List.mem_map.2 ⟨t,ht,rfl⟩
  have hd:=hdist _ hx
  have he:=mem_dirE.2 ⟨_,hx,mem_de3.2 (.inl rfl)⟩
  have hs:=(check_num.1 hck).2.2.1 _ he
  dsimp only at hd
  by_cases h:((posC (cornersP (voxB bits)) t.1:Int)) < (posC (cornersP (voxB bits)) t.2.1:Int)
  ·exact List.length_pos_of_mem (mem_edgesE.2 ⟨he,h⟩)
  ·have h2:(posC (cornersP (voxB bits)) t.2.1:Int) < (posC (cornersP (voxB bits)) t.1:Int):=by have:=hd.1;omega
   exact List.length_pos_of_mem (mem_edgesE.2 ⟨hs,h2⟩)
theorem vox_some (bits:Int):voxB bits≠ []:=by
 have hb:∀m,(bitsB bits).testBit m=(decide ((bits % 27).toNat=m) || decide (((bits.tdiv 27) % 27).toNat=m)):=fun m=>by
  unfold bitsB
  rw [Nat.testBit_or,Nat.testBit_two_pow,Nat.testBit_two_pow]
 have key:∀n,n < 27→(bitsB bits).testBit n=true→(bitsB bits).testBit (n+1)=false→voxB bits≠ []:=fun n hn h1 h2 he=>by
  have ho:openV (bitsB bits).testBit n 5=true:=by
   have hx:nbrV n 5=if n % 3=2 then none else some (n+1):=rfl
   unfold openV
   rw [hx]
   by_cases h:n % 3=2
   ·rw [if_pos h]
   ·rw [if_neg h]
    show (!(bitsB bits).testBit (n+1))=true
    rw [h2];rfl
  have hm:=mem_voxP (o:=(0,0,0)) (s:=1) hn (show 5 < 6 by omega) h1 ho (t:=(cor8 (voxC (0,0,0) 1 n) 1 1,cor8 (voxC (0,0,0) 1 n) 1 3,cor8 (voxC (0,0,0) 1 n) 1 7)) (by simp [sideP,quadP])
  unfold voxB at he
  rw [he] at hm
  cases hm
 obtain ⟨i,hi⟩:∃i,i=(bits % 27).toNat:=⟨_,rfl⟩
 obtain ⟨j,hj⟩:∃j,j=((bits.tdiv 27) % 27).toNat:=⟨_,rfl⟩
 have hi27:i < 27:=by omega
 have hj27:j < 27:=by omega
 rw [←hi,←hj] at hb
 by_cases h:i≤j
 ·exact key j hj27 (by rw [hb];simp) (by rw [hb];simp;omega)
 ·exact key i hi27 (by rw [hb];simp) (by rw [hb];simp;omega)
theorem base_right (kind bits:Int):BaseR (baseT kind bits) (baseN kind bits):=by
 unfold baseT baseN
 split
 ·exact tet_right
 split
 ·exact oct_right
 split
 ·exact tor_right
 split
 ·rename_i h;exact vox_right h (vox_some bits)
 ·exact tet_right
structure ShpC where
 kind:Int
 bits:Int
 steps:Int
 points:List Pt
 creases:List Int
 corners:List Int
 details:List Pt
def lowS (n:Nat):Nat→Nat
 | 0=>0
 | k+1=>if 800 < n*2^(2*(k+1)) then lowS n k else k+1
theorem lowS_le (n:Nat):∀k,lowS n k≤k
 | 0=>Nat.le_refl _
 | k+1=>by
  unfold lowS
  split
  ·exact Nat.le_succ_of_le (lowS_le n k)
  ·exact Nat.le_refl _
theorem lowS_few {n:Nat} (h:n≤800):∀k,n*2^(2*lowS n k)≤800
 | 0=>by unfold lowS;simpa using h
 | k+1=>by
  unfold lowS
  split
  ·exact lowS_few h k
  ·omega
def stM (s:ShpC):Nat:=lowS (baseT s.kind s.bits).length (s.steps % 5).toNat
def topM (s:ShpC):Int:=2097151 / 16^stM s
def rawM (ps:List Pt) (i:Nat):Pt:=if ps.length=0 then ((i:Int)*5,(i:Int)*i,7*(i:Int)) else
 (wrap64 ((ps.getD (i % ps.length) (0,0,0)).1+3*i),wrap64 ((ps.getD (i % ps.length) (0,0,0)).2.1+(i:Int)*i),wrap64 ((ps.getD (i % ps.length) (0,0,0)).2.2 - i))
def ptM (s:ShpC) (i:Nat):Pt:=((rawM s.points i).1 % (topM s+1),(rawM s.points i).2.1 % (topM s+1),(rawM s.points i).2.2 % (topM s+1))
def creM (E:List E2) (x:Int):E2:=if x.tmod 2=0 then ((E.getD (x % (E.length:Int)).toNat (0,0)).2,(E.getD (x % (E.length:Int)).toNat (0,0)).1) else E.getD (x % (E.length:Int)).toNat (0,0)
def detM (s:ShpC) (k:Nat):List Pt:=(List.range (min (4^k*(3*(baseT s.kind s.bits).length / 2)) (40*(k+1)))).map fun i=>
 ((s.details.getD ((i+k) % s.details.length) (0,0,0)).1.tmod 20,(s.details.getD ((i+k) % s.details.length) (0,0,0)).2.1.tmod 20,(s.details.getD ((i+k) % s.details.length) (0,0,0)).2.2.tmod 20)
def madeC (s:ShpC):Ctl where
 points:=(List.range (baseN s.kind s.bits)).map (ptM s)
 tris:=baseT s.kind s.bits
 creases:=(s.creases.take 12).map (creM (edgesE (baseT s.kind s.bits)))
 corners:=(s.corners.take 4).map fun x=>x % (baseN s.kind s.bits:Int)
 steps:=stM s
 details:=if s.details.length=0 then [] else (List.range (stM s)).map (detM s)
theorem getD_memE {E:List E2} (h:1≤E.length) (x:Int):E.getD (x % (E.length:Int)).toNat (0,0)∈E:=by
 have:(x % (E.length:Int)).toNat < E.length:=by
  have:=Int.emod_nonneg x (show (E.length:Int)≠0 by omega)
  have:=Int.emod_lt_of_pos x (show (0:Int) < E.length by omega)
  omega
 rw [List.getD_eq_getElem?_getD,List.getElem?_eq_getElem this]
 exact List.getElem_mem this
theorem creM_mem {t:List Pt} (h:1≤(edgesE t).length) (x:Int):nrmE (creM (edgesE t) x).1 (creM (edgesE t) x).2∈edgesE t∧((creM (edgesE t) x).1,(creM (edgesE t) x).2)∈edgesE t∨((creM (edgesE t) x).2,(creM (edgesE t) x).1)∈edgesE t:=by
 unfold creM
 split
 ·exact .inr (getD_memE h x)
 ·have:=getD_memE h x
  refine .inl ⟨?_,this⟩
  rw [nrmE_up (mem_edgesE.1 this).2]
  exact this
theorem many_of:∀{ds:List (List Pt)} {n m:Nat},(∀(k:Nat) (d:List Pt),ds[k]? =some d→d.length≤4^k*m)→manyE ds n m=false
 | _,0,_,_=>by unfold manyE;rfl
 | [],_+1,_,_=>by unfold manyE;rfl
 | d::ds,n+1,m,h=>by
  unfold manyE
  rw [Bool.or_eq_false_iff,decide_eq_false_iff_not]
  refine ⟨by have:=h 0 d rfl;simp at this;omega,many_of fun k e he=> ?_⟩
  have:=h (k+1) e (by simpa using he)
  rw [Nat.pow_succ,Nat.mul_assoc] at this
  exact this
theorem made_st (s:ShpC):stM s≤4:=by
 unfold stM
 have:=lowS_le (baseT s.kind s.bits).length (s.steps % 5).toNat
 omega
theorem made_few (s:ShpC):4^stM s*(baseT s.kind s.bits).length≤800:=by
 have h:=lowS_few (n:=(baseT s.kind s.bits).length) (by have:=(base_right s.kind s.bits).few;omega) (s.steps % 5).toNat
 unfold stM
 rw [show (4:Nat)=2^2 from rfl,←Nat.pow_mul,Nat.mul_comm]
 exact h
theorem top_pos (s:ShpC):0≤topM s:=Int.ediv_nonneg (by decide) (Int.le_of_lt (Int.pow_pos (by decide)))
theorem outR_of {lo hi:Int} {l:List Pt} (h:∀p∈l,(lo≤p.1∧p.1≤hi)∧(lo≤p.2.1∧p.2.1≤hi)∧lo≤p.2.2∧p.2.2≤hi):outR lo hi l=false:=by
 refine List.any_eq_false.2 fun p hp=> ?_
 have:=h p hp
 simp only [decide_eq_true_eq]
 omega
theorem tmod20 (x:Int): -2097151≤x.tmod 20∧x.tmod 20≤2097151:=by
 have h1:=Int.tmod_lt_of_pos x (show (0:Int) < 20 by decide)
 have h2:=Int.lt_tmod_of_pos x (show (0:Int) < 20 by decide)
 omega
theorem made_right (s:ShpC):errC (madeC s)=0:=by
 have hb:=base_right s.kind s.bits
 have hs:=made_st s
 have hf:=made_few s
 have hlen:(madeC s).points.length=baseN s.kind s.bits:=by show (List.map _ _).length=_;rw [List.length_map,List.length_range]
 have hdl:(madeC s).details.length≤stM s:=by
  show (if _ then _ else _:List (List Pt)).length≤_
  split
  ·exact Nat.zero_le _
  ·rw [List.length_map,List.length_range];exact Nat.le_refl _
 have hdg:∀(k:Nat) (d:List Pt),(madeC s).details[k]? =some d→d=detM s k:=fun k d h=>by
  have h:(if s.details.length=0 then [] else (List.range (stM s)).map (detM s))[k]? =some d:=h
  split at h
  ·cases h
  ·rw [List.getElem?_map] at h
   cases hk:(List.range (stM s))[k]? with
   | none=>rw [hk] at h;cases h
   | some j=>
    rw [hk] at h
    have:=List.getElem?_eq_some_iff.1 hk
    obtain ⟨h1,h2⟩:=this
    rw [List.getElem_range] at h2
    subst h2
    exact (Option.some.inj h).symm
 have hed:∀a b:Int,(a,b)∈edgesE (baseT s.kind s.bits)→(0≤a∧a < (baseN s.kind s.bits:Int))∧0≤b∧b < (baseN s.kind s.bits:Int):=fun a b h=>by
  obtain ⟨x,hx,hx2⟩:=mem_dirE.1 (mem_edgesE.1 h).1
  have:=hb.idx x hx
  obtain ⟨x1,x2,x3⟩:=x
  simp only [mem_de3,Prod.mk.injEq] at hx2
  dsimp only at this
  omega
 have h16:(16:Int)^(madeC s).steps.toNat=16^stM s:=by show (16:Int)^((stM s:Int)).toNat=_;rw [Int.toNat_natCast]
 refine right_iff.2 ⟨?_,?_,hb.chk,noEdge_no.2 fun e he=> ?_,?_,?_⟩
 ·show (decide ((stM s:Int) < 0) || decide (4 < (stM s:Int)) || decide ((stM s:Int) < ((madeC s).details.length:Int)))=false
  simp only [Bool.or_eq_false_iff,decide_eq_false_iff_not]
  omega
 ·unfold badIx
  rw [hlen,Bool.or_eq_false_iff,Bool.or_eq_false_iff]
  refine ⟨⟨?_,?_⟩,?_⟩
  ·refine outE_all fun i hi=>okI_iff.2 ?_
   obtain ⟨x,hx,hx2⟩:=List.mem_flatMap.1 hi
   have:=hb.idx x hx
   simp only [corN3,List.mem_cons,List.not_mem_nil,or_false] at hx2
   omega
  ·refine outE_all fun i hi=>okI_iff.2 ?_
   obtain ⟨e,he,h⟩:=List.mem_flatMap.1 hi
   obtain ⟨x,_,rfl⟩:=List.mem_map.1 he
   simp only [List.mem_cons,List.not_mem_nil,or_false] at h
   rcases creM_mem hb.edg x with ⟨_,h1⟩ | h1
   ·have:=hed _ _ h1;omega
   ·have:=hed _ _ h1;omega
  ·refine outE_all fun i hi=>okI_iff.2 ?_
   obtain ⟨x,_,rfl⟩:=List.mem_map.1 hi
   have h1:=hb.some
   exact ⟨Int.emod_nonneg x (by omega),Int.emod_lt_of_pos x (by omega)⟩
 ·obtain ⟨x,_,rfl⟩:=List.mem_map.1 he
  rcases creM_mem hb.edg x with ⟨h1,_⟩ | h1
  ·exact h1
  ·rw [nrmE_sym,nrmE_up (mem_edgesE.1 h1).2];exact h1
 ·unfold manyC
  rw [Bool.or_eq_false_iff,decide_eq_false_iff_not]
  refine ⟨many_of fun k d hd=> ?_,?_⟩
  ·rw [hdg k d hd]
   unfold detM
   rw [List.length_map,List.length_range]
   exact Nat.min_le_left _ _
  ·have:4^(madeC s).steps.toNat*(madeC s).tris.length=4^stM s*(baseT s.kind s.bits).length:=by show 4^((stM s:Int)).toNat*_=_;rw [Int.toNat_natCast];rfl
   omega
 ·unfold farC
  rw [h16,Bool.or_eq_false_iff]
  refine ⟨outR_of fun p hp=> ?_,?_⟩
  ·obtain ⟨i,_,rfl⟩:=List.mem_map.1 hp
   have h1:=top_pos s
   have key:∀x:Int,0≤x % (topM s+1)∧x % (topM s+1)≤topM s:=fun x=>⟨Int.emod_nonneg x (by omega),by have:=Int.emod_lt_of_pos x (show 0 < topM s+1 by omega);omega⟩
   exact ⟨key _,key _,key _⟩
  ·refine List.any_eq_false.2 fun d hd=> ?_
   rw [Bool.not_eq_true]
   obtain ⟨k,hk⟩:=List.mem_iff_getElem?.1 hd
   rw [hdg k d hk]
   refine outR_of fun p hp=> ?_
   obtain ⟨i,_,rfl⟩:=List.mem_map.1 hp
   exact ⟨tmod20 _,tmod20 _,tmod20 _⟩
theorem made_back (s:ShpC):NoBack (madeC s).tris:=(base_right s.kind s.bits).back
end Go.Proofs.YtmemofonebphfaaGreat
