import Derived.Test.YtmemofonebphfaaGreatY31
namespace Go.Proofs.YtmemofonebphfaaGreat
open Go.RowKit Go.Sort
theorem tdiv_fits {x n:Int} (hx:fits x) (hn:0 < n):fits (x.tdiv n):=by
 unfold fits at hx⊢
 obtain ⟨m,rfl⟩:∃m:Nat,n=m:=⟨n.toNat,by omega⟩
 by_cases h:0≤x
 ·rw [Int.tdiv_eq_ediv_of_nonneg h]
  have h1:=Int.ediv_nonneg h (show (0:Int)≤m by omega)
  have h2:=Int.ediv_le_self (m:Int) h
  omega
 ·have e:x= -(-x):=by omega
  rw [e,Int.neg_tdiv,Int.tdiv_eq_ediv_of_nonneg (by omega)]
  have h1:=Int.ediv_nonneg (show 0≤ -x by omega) (show (0:Int)≤m by omega)
  have h2:=Int.ediv_le_self (m:Int) (show 0≤ -x by omega)
  omega
theorem tmod_fits {x n:Int} (hx:fits x) (hn:0 < n):fits (x.tmod n):=by
 unfold fits at hx⊢
 obtain ⟨m,rfl⟩:∃m:Nat,n=m:=⟨n.toNat,by omega⟩
 by_cases h:0≤x
 ·rw [Int.tmod_eq_emod_of_nonneg h]
  have h1:=Int.emod_nonneg x (show (m:Int)≠0 by omega)
  have h2:=Int.mul_nonneg (show (0:Int)≤m by omega) (Int.ediv_nonneg h (show (0:Int)≤m by omega))
  have h3:=Int.mul_ediv_add_emod x m
  omega
 ·have e:x= -(-x):=by omega
  rw [e,Int.neg_tmod,Int.tmod_eq_emod_of_nonneg (by omega)]
  have h1:=Int.emod_nonneg (-x) (show (m:Int)≠0 by omega)
  have h2:=Int.mul_nonneg (show (0:Int)≤m by omega) (Int.ediv_nonneg (show 0≤ -x by omega) (show (0:Int)≤m by omega))
  have h3:=Int.mul_ediv_add_emod (-x) m
  omega
section
variable {P:Program} {ops:Array Oper} {Q:Exit→Act→World→Prop} {md:Region.Mode} {S:World→Prop}
theorem wpMix_s {qs r:List Nat} {i:Nat} {a:Act} {w:World} {o:Oper} (hq:qs.contains i=true) (ho:ops[i]? =some o) (hQ:∀c a w,Q (.panic c) (a.put o.dst undef) w→Q (.panic c) a w)
  (hS:S w) (hw:Region.wanted o (yielded ops a.tmps)=false) (h:wpMix P md ops Q S qs r (a.put o.dst undef) w):wpMix P md ops Q S qs (i::r) a w:=by
 unfold wpMix
 rw [if_pos hq]
 exact ⟨hS,o,undef,ho, .inr ⟨hw,rfl⟩,hQ,h⟩
end
theorem fitsP_plus (p q:Pt) (n:Int):fitsP (plusP p q n):=by
 refine ⟨?_,?_,?_⟩ <;>unfold fits plusP wrap64 <;>simp only <;>omega
theorem overB_and (p1 p2 p3 n:Int):overB (p1,p2,p3) n=(decide (p1.tmod n=0) && (decide (p2.tmod n=0) && decide (p3.tmod n=0))):=rfl
set_option maxRecDepth 100000 in
set_option maxHeartbeats 16000000 in
theorem over_any (p:Pt) (n:Int) (hp:fitsP p) (hn:0 < n) (w:World):Calls Tryz.prog 59 #[vP p, .int .i64 n] w fun e w'=>e= .returned (.tuple #[vP (overP p n), .bool (overB p n)])∧Below w.heap.size w w':=by
 obtain ⟨p1,p2,p3⟩:=p
 have d1:IntKind.i64.wrap (p1.tdiv n)=p1.tdiv n:=IntWalk.i64_in _ (tdiv_fits hp.1 hn)
 have d2:IntKind.i64.wrap (p2.tdiv n)=p2.tdiv n:=IntWalk.i64_in _ (tdiv_fits hp.2.1 hn)
 have d3:IntKind.i64.wrap (p3.tdiv n)=p3.tdiv n:=IntWalk.i64_in _ (tdiv_fits hp.2.2 hn)
 have hn0:n≠0:=by omega
 obtain ⟨q1,hq1⟩:∃q,q=p1.tdiv n:=⟨_,rfl⟩
 obtain ⟨q2,hq2⟩:∃q,q=p2.tdiv n:=⟨_,rfl⟩
 obtain ⟨q3,hq3⟩:∃q,q=p3.tdiv n:=⟨_,rfl⟩
 have r1:IntKind.i64.wrap (p1.tmod n)=p1.tmod n:=IntWalk.i64_in _ (tmod_fits hp.1 hn)
 have r2:IntKind.i64.wrap (p2.tmod n)=p2.tmod n:=IntWalk.i64_in _ (tmod_fits hp.2.1 hn)
 have r3:IntKind.i64.wrap (p3.tmod n)=p3.tmod n:=IntWalk.i64_in _ (tmod_fits hp.2.2 hn)
 obtain ⟨u1,hu1⟩:∃q,q=p1.tmod n:=⟨_,rfl⟩
 obtain ⟨u2,hu2⟩:∃q,q=p2.tmod n:=⟨_,rfl⟩
 obtain ⟨u3,hu3⟩:∃q,q=p3.tmod n:=⟨_,rfl⟩
 have eP:overP (p1,p2,p3) n=(q1,q2,q3):=by rw [hq1,hq2,hq3];rfl
 rw [←hq1] at d1
 rw [←hq2] at d2
 rw [←hq3] at d3
 rw [eP]
 obtain ⟨B,hBo⟩:∃b,b=overB (p1,p2,p3) n:=⟨_,rfl⟩
 rw [←hBo]
 rw [overB_and,←hu1,←hu2,←hu3] at hBo
 have HB:=hide hBo
 rw [←hu1] at r1
 rw [←hu2] at r2
 rw [←hu3] at r3
 clear hBo hp eP
 go_enter Tryz.func59,Tryz.ntmps59
 go_upto_region 1 with fail
 obtain ⟨g0,hg0⟩:∃g,g=w.heap.size:=⟨_,rfl⟩
 obtain ⟨g1,hg1⟩:∃g,g=w.heap.size+1:=⟨_,rfl⟩
 obtain ⟨X,hX⟩:∃X,X=((w.alloc (.cells #[.int .i64 p1, .int .i64 p2, .int .i64 p3] 43)).alloc (.cells #[.int .i64 0, .int .i64 0, .int .i64 0] 43)):=⟨_,rfl⟩
 have hb0:Blk X g0 43 #[.int .i64 p1, .int .i64 p2, .int .i64 p3]:=by rw [hX,hg0];exact ((Blk.new _ _ _).alloc _)
 have hb1:Blk X g1 43 #[.int .i64 0, .int .i64 0, .int .i64 0]:=by rw [hX,hg1];exact (Blk.new' _ _ _ _ (by simp))
 have hB:Below w.heap.size w X:=by rw [hX];exact (((Below.refl _ w).alloc (Nat.le_refl _) _).alloc (by simp;try omega) _)
 have hgw:w.heap.size≤g1:=by omega
 rw [←hX,←hg1,←hg0]
 have c00:X.cell? ⟨g0,0,none⟩=some (.int .i64 p1):=hb0.cell 0
 have c01:X.cell? ⟨g0,1,none⟩=some (.int .i64 p2):=hb0.cell 1
 have c02:X.cell? ⟨g0,2,none⟩=some (.int .i64 p3):=hb0.cell 2
 have c10:X.cell? ⟨g1,0,none⟩=some (.int .i64 0):=hb1.cell 0
 have c11:X.cell? ⟨g1,1,none⟩=some (.int .i64 0):=hb1.cell 1
 have c12:X.cell? ⟨g1,2,none⟩=some (.int .i64 0):=hb1.cell 2
 have l0:=hb0.lt
 have l1:=hb1.lt
 have f0:=hb1.frozen 0
 have f1:=hb1.frozen 1
 have f2:=hb1.frozen 2
 have HX:=hide (And.intro hb1 (And.intro hB hgw))
 have HSB:=hide (show Blk X.drew g0 43 #[.int .i64 p1, .int .i64 p2, .int .i64 p3] from hb0.drew)
 have hne:g0≠g1:=by omega
 have HN:=hide hne
 clear hne
 have HQ:=hide (And.intro hq1 (And.intro hq2 (And.intro hq3 (And.intro hu1 (And.intro hu2 (And.intro hu3 (And.intro d1 (And.intro d2 (And.intro d3 (And.intro r1 (And.intro r2 (And.intro r3 hn0))))))))))))
 clear hX hB hgw hg0 hg1 hb0 hb1
 clear hq1 hq2 hq3 hu1 hu2 hu3 d1 d2 d3 r1 r2 r3 hn0 c00 c01 c02
 have fin:∀(W:World),Blk W g1 43 #[.int .i64 q1, .int .i64 q2, .int .i64 q3]→W.cell? ⟨g1,0,none⟩=some (.int .i64 q1)∧W.cell? ⟨g1,1,none⟩=some (.int .i64 q2)∧W.cell? ⟨g1,2,none⟩=some (.int .i64 q3):=fun W h=>h.three
 have HF:=hide fin
 clear fin
 by_cases m1:u1=0
 ·by_cases m2:u2=0
  ·by_cases m3:u3=0
   ·obtain rfl:B=true:=by rw [HB.out,m1,m2,m3];rfl
    refine wp_region_mix (fun W=>Blk W g0 43 #[.int .i64 p1, .int .i64 p2, .int .i64 p3]) [0,1,2,3,4,5,6,7,8,9,10,11,12,13,14,15,16,17,18,19,20,21,22,23,24,25,26,27,28,29,30,31] [0,1,2,3,4,5,6,7,8,9,10,11,12,13,14,15,16,17,18,19,20,21,22,23,24,25,26,27,28,29,30,31,32,33] mixed_ok (by kernel_rfl) ?_
    refine wpMix_q (v:= .pointer (some ⟨g0,0,none⟩)) rfl rfl (fun _ _ _ h=>h) HSB.out ⟨rfl,fun _ _=>by simp [go_sem]⟩ ?_
    refine wpMix_q (v:= .int .i64 p1) rfl rfl (fun _ _ _ h=>h) HSB.out ⟨rfl,fun _ h'=>by have a0:=h'.cell 0;simp only [List.getElem?_toArray,List.getElem?_cons_zero] at a0;simp [go_sem,a0]⟩ ?_
    refine wpMix_q (v:= .int .i64 n) rfl rfl (fun _ _ _ h=>h) HSB.out ⟨rfl,fun _ _=>by simp [go_sem]⟩ ?_
    refine wpMix_q (v:= .int .i64 q1) rfl rfl (fun _ _ _ h=>h) HSB.out ⟨rfl,fun _ _=>by simp [go_sem,HQ.out.2.2.2.2.2.2.2.2.2.2.2.2,←HQ.out.1,HQ.out.2.2.2.2.2.2.1]⟩ ?_
    refine wpMix_q (v:= .pointer (some ⟨g0,1,none⟩)) rfl rfl (fun _ _ _ h=>h) HSB.out ⟨rfl,fun _ _=>by simp [go_sem]⟩ ?_
    refine wpMix_q (v:= .int .i64 p2) rfl rfl (fun _ _ _ h=>h) HSB.out ⟨rfl,fun _ h'=>by have a0:=h'.cell 1;simp only [List.getElem?_toArray,List.getElem?_cons_zero,List.getElem?_cons_succ] at a0;simp [go_sem,a0]⟩ ?_
    simp only [List.getElem_toArray,List.getElem_cons_succ,List.getElem_cons_zero,Act.put,List.setIfInBounds_toArray,List.set_cons_succ,List.set_cons_zero]
    refine wpMix_q (v:= .int .i64 n) rfl rfl (fun _ _ _ h=>h) HSB.out ⟨rfl,fun _ _=>by simp [go_sem]⟩ ?_
    refine wpMix_q (v:= .int .i64 q2) rfl rfl (fun _ _ _ h=>h) HSB.out ⟨rfl,fun _ _=>by simp [go_sem,HQ.out.2.2.2.2.2.2.2.2.2.2.2.2,←HQ.out.2.1,HQ.out.2.2.2.2.2.2.2.1]⟩ ?_
    refine wpMix_q (v:= .pointer (some ⟨g0,2,none⟩)) rfl rfl (fun _ _ _ h=>h) HSB.out ⟨rfl,fun _ _=>by simp [go_sem]⟩ ?_
    refine wpMix_q (v:= .int .i64 p3) rfl rfl (fun _ _ _ h=>h) HSB.out ⟨rfl,fun _ h'=>by have a0:=h'.cell 2;simp only [List.getElem?_toArray,List.getElem?_cons_zero,List.getElem?_cons_succ] at a0;simp [go_sem,a0]⟩ ?_
    refine wpMix_q (v:= .int .i64 n) rfl rfl (fun _ _ _ h=>h) HSB.out ⟨rfl,fun _ _=>by simp [go_sem]⟩ ?_
    refine wpMix_q (v:= .int .i64 q3) rfl rfl (fun _ _ _ h=>h) HSB.out ⟨rfl,fun _ _=>by simp [go_sem,HQ.out.2.2.2.2.2.2.2.2.2.2.2.2,←HQ.out.2.2.1,HQ.out.2.2.2.2.2.2.2.2.1]⟩ ?_
    simp only [List.getElem_toArray,List.getElem_cons_succ,List.getElem_cons_zero,Act.put,List.setIfInBounds_toArray,List.set_cons_succ,List.set_cons_zero]
    refine wpMix_q (v:=vP (q1,q2,q3)) rfl rfl (fun _ _ _ h=>h) HSB.out ⟨rfl,fun _ _=>by simp [go_sem]⟩ ?_
    refine wpMix_q (v:= .pointer (some ⟨g0,0,none⟩)) rfl rfl (fun _ _ _ h=>h) HSB.out ⟨rfl,fun _ _=>by simp [go_sem]⟩ ?_
    refine wpMix_q (v:= .int .i64 p1) rfl rfl (fun _ _ _ h=>h) HSB.out ⟨rfl,fun _ h'=>by have a0:=h'.cell 0;simp only [List.getElem?_toArray,List.getElem?_cons_zero] at a0;simp [go_sem,a0]⟩ ?_
    refine wpMix_q (v:= .int .i64 n) rfl rfl (fun _ _ _ h=>h) HSB.out ⟨rfl,fun _ _=>by simp [go_sem]⟩ ?_
    refine wpMix_q (v:= .int .i64 u1) rfl rfl (fun _ _ _ h=>h) HSB.out ⟨rfl,fun _ _=>by simp [go_sem,HQ.out.2.2.2.2.2.2.2.2.2.2.2.2,←HQ.out.2.2.2.1]⟩ ?_
    refine wpMix_q (v:= .bool true) rfl rfl (fun _ _ _ h=>h) HSB.out ⟨rfl,fun _ _=>by simp [go_sem,m1]⟩ ?_
    simp only [List.getElem_toArray,List.getElem_cons_succ,List.getElem_cons_zero,Act.put,List.setIfInBounds_toArray,List.set_cons_succ,List.set_cons_zero]
    refine wpMix_q (v:= .bool true) rfl rfl (fun _ _ _ h=>h) HSB.out ⟨rfl,fun _ _=>by simp [go_sem]⟩ ?_
    refine wpMix_q (v:= .pointer (some ⟨g0,1,none⟩)) rfl rfl (fun _ _ _ h=>h) HSB.out ⟨rfl,fun _ _=>by simp [go_sem]⟩ ?_
    refine wpMix_q (v:= .int .i64 p2) rfl rfl (fun _ _ _ h=>h) HSB.out ⟨rfl,fun _ h'=>by have a0:=h'.cell 1;simp only [List.getElem?_toArray,List.getElem?_cons_zero,List.getElem?_cons_succ] at a0;simp [go_sem,a0]⟩ ?_
    refine wpMix_q (v:= .int .i64 n) rfl rfl (fun _ _ _ h=>h) HSB.out ⟨rfl,fun _ _=>by simp [go_sem]⟩ ?_
    refine wpMix_q (v:= .int .i64 u2) rfl rfl (fun _ _ _ h=>h) HSB.out ⟨rfl,fun _ _=>by simp [go_sem,HQ.out.2.2.2.2.2.2.2.2.2.2.2.2,←HQ.out.2.2.2.2.1]⟩ ?_
    refine wpMix_q (v:= .bool true) rfl rfl (fun _ _ _ h=>h) HSB.out ⟨rfl,fun _ _=>by simp [go_sem,m2]⟩ ?_
    simp only [List.getElem_toArray,List.getElem_cons_succ,List.getElem_cons_zero,Act.put,List.setIfInBounds_toArray,List.set_cons_succ,List.set_cons_zero]
    refine wpMix_q (v:= .bool true) rfl rfl (fun _ _ _ h=>h) HSB.out ⟨rfl,fun _ _=>by simp [go_sem]⟩ ?_
    refine wpMix_q (v:= .bool true) rfl rfl (fun _ _ _ h=>h) HSB.out ⟨rfl,fun _ _=>by simp [go_sem]⟩ ?_
    refine wpMix_q (v:= .pointer (some ⟨g0,2,none⟩)) rfl rfl (fun _ _ _ h=>h) HSB.out ⟨rfl,fun _ _=>by simp [go_sem]⟩ ?_
    refine wpMix_q (v:= .int .i64 p3) rfl rfl (fun _ _ _ h=>h) HSB.out ⟨rfl,fun _ h'=>by have a0:=h'.cell 2;simp only [List.getElem?_toArray,List.getElem?_cons_zero,List.getElem?_cons_succ] at a0;simp [go_sem,a0]⟩ ?_
    refine wpMix_q (v:= .int .i64 n) rfl rfl (fun _ _ _ h=>h) HSB.out ⟨rfl,fun _ _=>by simp [go_sem]⟩ ?_
    refine wpMix_q (v:= .int .i64 u3) rfl rfl (fun _ _ _ h=>h) HSB.out ⟨rfl,fun _ _=>by simp [go_sem,HQ.out.2.2.2.2.2.2.2.2.2.2.2.2,←HQ.out.2.2.2.2.2.1]⟩ ?_
    simp only [List.getElem_toArray,List.getElem_cons_succ,List.getElem_cons_zero,Act.put,List.setIfInBounds_toArray,List.set_cons_succ,List.set_cons_zero]
    refine wpMix_q (v:= .bool true) rfl rfl (fun _ _ _ h=>h) HSB.out ⟨rfl,fun _ _=>by simp [go_sem,m3]⟩ ?_
    refine wpMix_q (v:= .bool true) rfl rfl (fun _ _ _ h=>h) HSB.out ⟨rfl,fun _ _=>by simp [go_sem]⟩ ?_
    simp only [List.getElem_toArray,List.getElem_cons_succ,List.getElem_cons_zero,Act.put,List.setIfInBounds_toArray,List.set_cons_succ,List.set_cons_zero]
    refine wpMix_n rfl rfl ?_
    go_wp2_with fail
    refine ⟨fun _=>HSB.out.far3 HN.out _ _ _,?_⟩
    refine wpMix_tail _ [_] (by kernel_rfl) rfl ?_
    go_wp2
    refine ret_at (v:= .tuple #[vP (q1,q2,q3), .bool true]) (fun W=>Blk W g1 43 #[.int .i64 q1, .int .i64 q2, .int .i64 q3]) ?_ (fun W hW=> ?_) rfl ⟨rfl,?_⟩
    ·exact HX.out.1.set3 _ _ _
    ·obtain ⟨a0,a1,a2⟩:=HF.out W hW
     simp [results,Tryz.results59,go_sem,a0,a1,a2]
     try trivial
    ·exact (((HX.out.2.1.setCell (p:=⟨g1,0,none⟩) HX.out.2.2 _).setCell (p:=⟨g1,1,none⟩) HX.out.2.2 _).setCell (p:=⟨g1,2,none⟩) HX.out.2.2 _).drew
   ·obtain rfl:B=false:=by rw [HB.out,decide_eq_false m3];simp
    refine wp_region_mix (fun W=>Blk W g0 43 #[.int .i64 p1, .int .i64 p2, .int .i64 p3]) [0,1,2,3,4,5,6,7,8,9,10,11,12,13,14,15,16,17,18,19,20,21,22,23,24,25,26,27,28,29,30,31] [0,1,2,3,4,5,6,7,8,9,10,11,12,13,14,15,16,17,18,19,20,21,22,23,24,25,26,27,28,29,30,31,32,33] mixed_ok (by kernel_rfl) ?_
    refine wpMix_q (v:= .pointer (some ⟨g0,0,none⟩)) rfl rfl (fun _ _ _ h=>h) HSB.out ⟨rfl,fun _ _=>by simp [go_sem]⟩ ?_
    refine wpMix_q (v:= .int .i64 p1) rfl rfl (fun _ _ _ h=>h) HSB.out ⟨rfl,fun _ h'=>by have a0:=h'.cell 0;simp only [List.getElem?_toArray,List.getElem?_cons_zero] at a0;simp [go_sem,a0]⟩ ?_
    refine wpMix_q (v:= .int .i64 n) rfl rfl (fun _ _ _ h=>h) HSB.out ⟨rfl,fun _ _=>by simp [go_sem]⟩ ?_
    refine wpMix_q (v:= .int .i64 q1) rfl rfl (fun _ _ _ h=>h) HSB.out ⟨rfl,fun _ _=>by simp [go_sem,HQ.out.2.2.2.2.2.2.2.2.2.2.2.2,←HQ.out.1,HQ.out.2.2.2.2.2.2.1]⟩ ?_
    refine wpMix_q (v:= .pointer (some ⟨g0,1,none⟩)) rfl rfl (fun _ _ _ h=>h) HSB.out ⟨rfl,fun _ _=>by simp [go_sem]⟩ ?_
    refine wpMix_q (v:= .int .i64 p2) rfl rfl (fun _ _ _ h=>h) HSB.out ⟨rfl,fun _ h'=>by have a0:=h'.cell 1;simp only [List.getElem?_toArray,List.getElem?_cons_zero,List.getElem?_cons_succ] at a0;simp [go_sem,a0]⟩ ?_
    simp only [List.getElem_toArray,List.getElem_cons_succ,List.getElem_cons_zero,Act.put,List.setIfInBounds_toArray,List.set_cons_succ,List.set_cons_zero]
    refine wpMix_q (v:= .int .i64 n) rfl rfl (fun _ _ _ h=>h) HSB.out ⟨rfl,fun _ _=>by simp [go_sem]⟩ ?_
    refine wpMix_q (v:= .int .i64 q2) rfl rfl (fun _ _ _ h=>h) HSB.out ⟨rfl,fun _ _=>by simp [go_sem,HQ.out.2.2.2.2.2.2.2.2.2.2.2.2,←HQ.out.2.1,HQ.out.2.2.2.2.2.2.2.1]⟩ ?_
    refine wpMix_q (v:= .pointer (some ⟨g0,2,none⟩)) rfl rfl (fun _ _ _ h=>h) HSB.out ⟨rfl,fun _ _=>by simp [go_sem]⟩ ?_
    refine wpMix_q (v:= .int .i64 p3) rfl rfl (fun _ _ _ h=>h) HSB.out ⟨rfl,fun _ h'=>by have a0:=h'.cell 2;simp only [List.getElem?_toArray,List.getElem?_cons_zero,List.getElem?_cons_succ] at a0;simp [go_sem,a0]⟩ ?_
    refine wpMix_q (v:= .int .i64 n) rfl rfl (fun _ _ _ h=>h) HSB.out ⟨rfl,fun _ _=>by simp [go_sem]⟩ ?_
    refine wpMix_q (v:= .int .i64 q3) rfl rfl (fun _ _ _ h=>h) HSB.out ⟨rfl,fun _ _=>by simp [go_sem,HQ.out.2.2.2.2.2.2.2.2.2.2.2.2,←HQ.out.2.2.1,HQ.out.2.2.2.2.2.2.2.2.1]⟩ ?_
    simp only [List.getElem_toArray,List.getElem_cons_succ,List.getElem_cons_zero,Act.put,List.setIfInBounds_toArray,List.set_cons_succ,List.set_cons_zero]
    refine wpMix_q (v:=vP (q1,q2,q3)) rfl rfl (fun _ _ _ h=>h) HSB.out ⟨rfl,fun _ _=>by simp [go_sem]⟩ ?_
    refine wpMix_q (v:= .pointer (some ⟨g0,0,none⟩)) rfl rfl (fun _ _ _ h=>h) HSB.out ⟨rfl,fun _ _=>by simp [go_sem]⟩ ?_
    refine wpMix_q (v:= .int .i64 p1) rfl rfl (fun _ _ _ h=>h) HSB.out ⟨rfl,fun _ h'=>by have a0:=h'.cell 0;simp only [List.getElem?_toArray,List.getElem?_cons_zero] at a0;simp [go_sem,a0]⟩ ?_
    refine wpMix_q (v:= .int .i64 n) rfl rfl (fun _ _ _ h=>h) HSB.out ⟨rfl,fun _ _=>by simp [go_sem]⟩ ?_
    refine wpMix_q (v:= .int .i64 u1) rfl rfl (fun _ _ _ h=>h) HSB.out ⟨rfl,fun _ _=>by simp [go_sem,HQ.out.2.2.2.2.2.2.2.2.2.2.2.2,←HQ.out.2.2.2.1]⟩ ?_
    refine wpMix_q (v:= .bool true) rfl rfl (fun _ _ _ h=>h) HSB.out ⟨rfl,fun _ _=>by simp [go_sem,m1]⟩ ?_
    simp only [List.getElem_toArray,List.getElem_cons_succ,List.getElem_cons_zero,Act.put,List.setIfInBounds_toArray,List.set_cons_succ,List.set_cons_zero]
    refine wpMix_q (v:= .bool true) rfl rfl (fun _ _ _ h=>h) HSB.out ⟨rfl,fun _ _=>by simp [go_sem]⟩ ?_
    refine wpMix_q (v:= .pointer (some ⟨g0,1,none⟩)) rfl rfl (fun _ _ _ h=>h) HSB.out ⟨rfl,fun _ _=>by simp [go_sem]⟩ ?_
    refine wpMix_q (v:= .int .i64 p2) rfl rfl (fun _ _ _ h=>h) HSB.out ⟨rfl,fun _ h'=>by have a0:=h'.cell 1;simp only [List.getElem?_toArray,List.getElem?_cons_zero,List.getElem?_cons_succ] at a0;simp [go_sem,a0]⟩ ?_
    refine wpMix_q (v:= .int .i64 n) rfl rfl (fun _ _ _ h=>h) HSB.out ⟨rfl,fun _ _=>by simp [go_sem]⟩ ?_
    refine wpMix_q (v:= .int .i64 u2) rfl rfl (fun _ _ _ h=>h) HSB.out ⟨rfl,fun _ _=>by simp [go_sem,HQ.out.2.2.2.2.2.2.2.2.2.2.2.2,←HQ.out.2.2.2.2.1]⟩ ?_
    refine wpMix_q (v:= .bool true) rfl rfl (fun _ _ _ h=>h) HSB.out ⟨rfl,fun _ _=>by simp [go_sem,m2]⟩ ?_
    simp only [List.getElem_toArray,List.getElem_cons_succ,List.getElem_cons_zero,Act.put,List.setIfInBounds_toArray,List.set_cons_succ,List.set_cons_zero]
    refine wpMix_q (v:= .bool true) rfl rfl (fun _ _ _ h=>h) HSB.out ⟨rfl,fun _ _=>by simp [go_sem]⟩ ?_
    refine wpMix_q (v:= .bool true) rfl rfl (fun _ _ _ h=>h) HSB.out ⟨rfl,fun _ _=>by simp [go_sem]⟩ ?_
    refine wpMix_q (v:= .pointer (some ⟨g0,2,none⟩)) rfl rfl (fun _ _ _ h=>h) HSB.out ⟨rfl,fun _ _=>by simp [go_sem]⟩ ?_
    refine wpMix_q (v:= .int .i64 p3) rfl rfl (fun _ _ _ h=>h) HSB.out ⟨rfl,fun _ h'=>by have a0:=h'.cell 2;simp only [List.getElem?_toArray,List.getElem?_cons_zero,List.getElem?_cons_succ] at a0;simp [go_sem,a0]⟩ ?_
    refine wpMix_q (v:= .int .i64 n) rfl rfl (fun _ _ _ h=>h) HSB.out ⟨rfl,fun _ _=>by simp [go_sem]⟩ ?_
    refine wpMix_q (v:= .int .i64 u3) rfl rfl (fun _ _ _ h=>h) HSB.out ⟨rfl,fun _ _=>by simp [go_sem,HQ.out.2.2.2.2.2.2.2.2.2.2.2.2,←HQ.out.2.2.2.2.2.1]⟩ ?_
    simp only [List.getElem_toArray,List.getElem_cons_succ,List.getElem_cons_zero,Act.put,List.setIfInBounds_toArray,List.set_cons_succ,List.set_cons_zero]
    refine wpMix_q (v:= .bool false) rfl rfl (fun _ _ _ h=>h) HSB.out ⟨rfl,fun _ _=>by simp [go_sem,m3]⟩ ?_
    refine wpMix_q (v:= .bool false) rfl rfl (fun _ _ _ h=>h) HSB.out ⟨rfl,fun _ _=>by simp [go_sem]⟩ ?_
    simp only [List.getElem_toArray,List.getElem_cons_succ,List.getElem_cons_zero,Act.put,List.setIfInBounds_toArray,List.set_cons_succ,List.set_cons_zero]
    refine wpMix_n rfl rfl ?_
    go_wp2_with fail
    refine ⟨fun _=>HSB.out.far3 HN.out _ _ _,?_⟩
    refine wpMix_tail _ [_] (by kernel_rfl) rfl ?_
    go_wp2
    refine ret_at (v:= .tuple #[vP (q1,q2,q3), .bool false]) (fun W=>Blk W g1 43 #[.int .i64 q1, .int .i64 q2, .int .i64 q3]) ?_ (fun W hW=> ?_) rfl ⟨rfl,?_⟩
    ·exact HX.out.1.set3 _ _ _
    ·obtain ⟨a0,a1,a2⟩:=HF.out W hW
     simp [results,Tryz.results59,go_sem,a0,a1,a2]
     try trivial
    ·exact (((HX.out.2.1.setCell (p:=⟨g1,0,none⟩) HX.out.2.2 _).setCell (p:=⟨g1,1,none⟩) HX.out.2.2 _).setCell (p:=⟨g1,2,none⟩) HX.out.2.2 _).drew
  ·obtain rfl:B=false:=by rw [HB.out,decide_eq_false m2];simp
   refine wp_region_mix (fun W=>Blk W g0 43 #[.int .i64 p1, .int .i64 p2, .int .i64 p3]) [0,1,2,3,4,5,6,7,8,9,10,11,12,13,14,15,16,17,18,19,20,21,22,23,24,25,26,27,28,29,30,31] [0,1,2,3,4,5,6,7,8,9,10,11,12,13,14,15,16,17,18,19,20,21,22,23,24,25,26,27,28,29,30,31,32,33] mixed_ok (by kernel_rfl) ?_
   refine wpMix_q (v:= .pointer (some ⟨g0,0,none⟩)) rfl rfl (fun _ _ _ h=>h) HSB.out ⟨rfl,fun _ _=>by simp [go_sem]⟩ ?_
   refine wpMix_q (v:= .int .i64 p1) rfl rfl (fun _ _ _ h=>h) HSB.out ⟨rfl,fun _ h'=>by have a0:=h'.cell 0;simp only [List.getElem?_toArray,List.getElem?_cons_zero] at a0;simp [go_sem,a0]⟩ ?_
   refine wpMix_q (v:= .int .i64 n) rfl rfl (fun _ _ _ h=>h) HSB.out ⟨rfl,fun _ _=>by simp [go_sem]⟩ ?_
   refine wpMix_q (v:= .int .i64 q1) rfl rfl (fun _ _ _ h=>h) HSB.out ⟨rfl,fun _ _=>by simp [go_sem,HQ.out.2.2.2.2.2.2.2.2.2.2.2.2,←HQ.out.1,HQ.out.2.2.2.2.2.2.1]⟩ ?_
   refine wpMix_q (v:= .pointer (some ⟨g0,1,none⟩)) rfl rfl (fun _ _ _ h=>h) HSB.out ⟨rfl,fun _ _=>by simp [go_sem]⟩ ?_
   refine wpMix_q (v:= .int .i64 p2) rfl rfl (fun _ _ _ h=>h) HSB.out ⟨rfl,fun _ h'=>by have a0:=h'.cell 1;simp only [List.getElem?_toArray,List.getElem?_cons_zero,List.getElem?_cons_succ] at a0;simp [go_sem,a0]⟩ ?_
   simp only [List.getElem_toArray,List.getElem_cons_succ,List.getElem_cons_zero,Act.put,List.setIfInBounds_toArray,List.set_cons_succ,List.set_cons_zero]
   refine wpMix_q (v:= .int .i64 n) rfl rfl (fun _ _ _ h=>h) HSB.out ⟨rfl,fun _ _=>by simp [go_sem]⟩ ?_
   refine wpMix_q (v:= .int .i64 q2) rfl rfl (fun _ _ _ h=>h) HSB.out ⟨rfl,fun _ _=>by simp [go_sem,HQ.out.2.2.2.2.2.2.2.2.2.2.2.2,←HQ.out.2.1,HQ.out.2.2.2.2.2.2.2.1]⟩ ?_
   refine wpMix_q (v:= .pointer (some ⟨g0,2,none⟩)) rfl rfl (fun _ _ _ h=>h) HSB.out ⟨rfl,fun _ _=>by simp [go_sem]⟩ ?_
   refine wpMix_q (v:= .int .i64 p3) rfl rfl (fun _ _ _ h=>h) HSB.out ⟨rfl,fun _ h'=>by have a0:=h'.cell 2;simp only [List.getElem?_toArray,List.getElem?_cons_zero,List.getElem?_cons_succ] at a0;simp [go_sem,a0]⟩ ?_
   refine wpMix_q (v:= .int .i64 n) rfl rfl (fun _ _ _ h=>h) HSB.out ⟨rfl,fun _ _=>by simp [go_sem]⟩ ?_
   refine wpMix_q (v:= .int .i64 q3) rfl rfl (fun _ _ _ h=>h) HSB.out ⟨rfl,fun _ _=>by simp [go_sem,HQ.out.2.2.2.2.2.2.2.2.2.2.2.2,←HQ.out.2.2.1,HQ.out.2.2.2.2.2.2.2.2.1]⟩ ?_
   simp only [List.getElem_toArray,List.getElem_cons_succ,List.getElem_cons_zero,Act.put,List.setIfInBounds_toArray,List.set_cons_succ,List.set_cons_zero]
   refine wpMix_q (v:=vP (q1,q2,q3)) rfl rfl (fun _ _ _ h=>h) HSB.out ⟨rfl,fun _ _=>by simp [go_sem]⟩ ?_
   refine wpMix_q (v:= .pointer (some ⟨g0,0,none⟩)) rfl rfl (fun _ _ _ h=>h) HSB.out ⟨rfl,fun _ _=>by simp [go_sem]⟩ ?_
   refine wpMix_q (v:= .int .i64 p1) rfl rfl (fun _ _ _ h=>h) HSB.out ⟨rfl,fun _ h'=>by have a0:=h'.cell 0;simp only [List.getElem?_toArray,List.getElem?_cons_zero] at a0;simp [go_sem,a0]⟩ ?_
   refine wpMix_q (v:= .int .i64 n) rfl rfl (fun _ _ _ h=>h) HSB.out ⟨rfl,fun _ _=>by simp [go_sem]⟩ ?_
   refine wpMix_q (v:= .int .i64 u1) rfl rfl (fun _ _ _ h=>h) HSB.out ⟨rfl,fun _ _=>by simp [go_sem,HQ.out.2.2.2.2.2.2.2.2.2.2.2.2,←HQ.out.2.2.2.1]⟩ ?_
   refine wpMix_q (v:= .bool true) rfl rfl (fun _ _ _ h=>h) HSB.out ⟨rfl,fun _ _=>by simp [go_sem,m1]⟩ ?_
   simp only [List.getElem_toArray,List.getElem_cons_succ,List.getElem_cons_zero,Act.put,List.setIfInBounds_toArray,List.set_cons_succ,List.set_cons_zero]
   refine wpMix_q (v:= .bool true) rfl rfl (fun _ _ _ h=>h) HSB.out ⟨rfl,fun _ _=>by simp [go_sem]⟩ ?_
   refine wpMix_q (v:= .pointer (some ⟨g0,1,none⟩)) rfl rfl (fun _ _ _ h=>h) HSB.out ⟨rfl,fun _ _=>by simp [go_sem]⟩ ?_
   refine wpMix_q (v:= .int .i64 p2) rfl rfl (fun _ _ _ h=>h) HSB.out ⟨rfl,fun _ h'=>by have a0:=h'.cell 1;simp only [List.getElem?_toArray,List.getElem?_cons_zero,List.getElem?_cons_succ] at a0;simp [go_sem,a0]⟩ ?_
   refine wpMix_q (v:= .int .i64 n) rfl rfl (fun _ _ _ h=>h) HSB.out ⟨rfl,fun _ _=>by simp [go_sem]⟩ ?_
   refine wpMix_q (v:= .int .i64 u2) rfl rfl (fun _ _ _ h=>h) HSB.out ⟨rfl,fun _ _=>by simp [go_sem,HQ.out.2.2.2.2.2.2.2.2.2.2.2.2,←HQ.out.2.2.2.2.1]⟩ ?_
   refine wpMix_q (v:= .bool false) rfl rfl (fun _ _ _ h=>h) HSB.out ⟨rfl,fun _ _=>by simp [go_sem,m2]⟩ ?_
   simp only [List.getElem_toArray,List.getElem_cons_succ,List.getElem_cons_zero,Act.put,List.setIfInBounds_toArray,List.set_cons_succ,List.set_cons_zero]
   refine wpMix_q (v:= .bool false) rfl rfl (fun _ _ _ h=>h) HSB.out ⟨rfl,fun _ _=>by simp [go_sem]⟩ ?_
   refine wpMix_q (v:= .bool false) rfl rfl (fun _ _ _ h=>h) HSB.out ⟨rfl,fun _ _=>by simp [go_sem]⟩ ?_
   refine wpMix_s rfl rfl (fun _ _ _ h=>h) HSB.out rfl ?_
   refine wpMix_s rfl rfl (fun _ _ _ h=>h) HSB.out rfl ?_
   refine wpMix_s rfl rfl (fun _ _ _ h=>h) HSB.out rfl ?_
   refine wpMix_s rfl rfl (fun _ _ _ h=>h) HSB.out rfl ?_
   simp only [List.getElem_toArray,List.getElem_cons_succ,List.getElem_cons_zero,Act.put,List.setIfInBounds_toArray,List.set_cons_succ,List.set_cons_zero]
   refine wpMix_s rfl rfl (fun _ _ _ h=>h) HSB.out rfl ?_
   refine wpMix_q (v:= .bool false) rfl rfl (fun _ _ _ h=>h) HSB.out ⟨rfl,fun _ _=>by simp [go_sem]⟩ ?_
   simp only [List.getElem_toArray,List.getElem_cons_succ,List.getElem_cons_zero,Act.put,List.setIfInBounds_toArray,List.set_cons_succ,List.set_cons_zero]
   refine wpMix_n rfl rfl ?_
   go_wp2_with fail
   refine ⟨fun _=>HSB.out.far3 HN.out _ _ _,?_⟩
   refine wpMix_tail _ [_] (by kernel_rfl) rfl ?_
   go_wp2
   refine ret_at (v:= .tuple #[vP (q1,q2,q3), .bool false]) (fun W=>Blk W g1 43 #[.int .i64 q1, .int .i64 q2, .int .i64 q3]) ?_ (fun W hW=> ?_) rfl ⟨rfl,?_⟩
   ·exact HX.out.1.set3 _ _ _
   ·obtain ⟨a0,a1,a2⟩:=HF.out W hW
    simp [results,Tryz.results59,go_sem,a0,a1,a2]
    try trivial
   ·exact (((HX.out.2.1.setCell (p:=⟨g1,0,none⟩) HX.out.2.2 _).setCell (p:=⟨g1,1,none⟩) HX.out.2.2 _).setCell (p:=⟨g1,2,none⟩) HX.out.2.2 _).drew
 ·obtain rfl:B=false:=by rw [HB.out,decide_eq_false m1];simp
  refine wp_region_mix (fun W=>Blk W g0 43 #[.int .i64 p1, .int .i64 p2, .int .i64 p3]) [0,1,2,3,4,5,6,7,8,9,10,11,12,13,14,15,16,17,18,19,20,21,22,23,24,25,26,27,28,29,30,31] [0,1,2,3,4,5,6,7,8,9,10,11,12,13,14,15,16,17,18,19,20,21,22,23,24,25,26,27,28,29,30,31,32,33] mixed_ok (by kernel_rfl) ?_
  refine wpMix_q (v:= .pointer (some ⟨g0,0,none⟩)) rfl rfl (fun _ _ _ h=>h) HSB.out ⟨rfl,fun _ _=>by simp [go_sem]⟩ ?_
  refine wpMix_q (v:= .int .i64 p1) rfl rfl (fun _ _ _ h=>h) HSB.out ⟨rfl,fun _ h'=>by have a0:=h'.cell 0;simp only [List.getElem?_toArray,List.getElem?_cons_zero] at a0;simp [go_sem,a0]⟩ ?_
  refine wpMix_q (v:= .int .i64 n) rfl rfl (fun _ _ _ h=>h) HSB.out ⟨rfl,fun _ _=>by simp [go_sem]⟩ ?_
  refine wpMix_q (v:= .int .i64 q1) rfl rfl (fun _ _ _ h=>h) HSB.out ⟨rfl,fun _ _=>by simp [go_sem,HQ.out.2.2.2.2.2.2.2.2.2.2.2.2,←HQ.out.1,HQ.out.2.2.2.2.2.2.1]⟩ ?_
  refine wpMix_q (v:= .pointer (some ⟨g0,1,none⟩)) rfl rfl (fun _ _ _ h=>h) HSB.out ⟨rfl,fun _ _=>by simp [go_sem]⟩ ?_
  refine wpMix_q (v:= .int .i64 p2) rfl rfl (fun _ _ _ h=>h) HSB.out ⟨rfl,fun _ h'=>by have a0:=h'.cell 1;simp only [List.getElem?_toArray,List.getElem?_cons_zero,List.getElem?_cons_succ] at a0;simp [go_sem,a0]⟩ ?_
  simp only [List.getElem_toArray,List.getElem_cons_succ,List.getElem_cons_zero,Act.put,List.setIfInBounds_toArray,List.set_cons_succ,List.set_cons_zero]
  refine wpMix_q (v:= .int .i64 n) rfl rfl (fun _ _ _ h=>h) HSB.out ⟨rfl,fun _ _=>by simp [go_sem]⟩ ?_
  refine wpMix_q (v:= .int .i64 q2) rfl rfl (fun _ _ _ h=>h) HSB.out ⟨rfl,fun _ _=>by simp [go_sem,HQ.out.2.2.2.2.2.2.2.2.2.2.2.2,←HQ.out.2.1,HQ.out.2.2.2.2.2.2.2.1]⟩ ?_
  refine wpMix_q (v:= .pointer (some ⟨g0,2,none⟩)) rfl rfl (fun _ _ _ h=>h) HSB.out ⟨rfl,fun _ _=>by simp [go_sem]⟩ ?_
  refine wpMix_q (v:= .int .i64 p3) rfl rfl (fun _ _ _ h=>h) HSB.out ⟨rfl,fun _ h'=>by have a0:=h'.cell 2;simp only [List.getElem?_toArray,List.getElem?_cons_zero,List.getElem?_cons_succ] at a0;simp [go_sem,a0]⟩ ?_
  refine wpMix_q (v:= .int .i64 n) rfl rfl (fun _ _ _ h=>h) HSB.out ⟨rfl,fun _ _=>by simp [go_sem]⟩ ?_
  refine wpMix_q (v:= .int .i64 q3) rfl rfl (fun _ _ _ h=>h) HSB.out ⟨rfl,fun _ _=>by simp [go_sem,HQ.out.2.2.2.2.2.2.2.2.2.2.2.2,←HQ.out.2.2.1,HQ.out.2.2.2.2.2.2.2.2.1]⟩ ?_
  simp only [List.getElem_toArray,List.getElem_cons_succ,List.getElem_cons_zero,Act.put,List.setIfInBounds_toArray,List.set_cons_succ,List.set_cons_zero]
  refine wpMix_q (v:=vP (q1,q2,q3)) rfl rfl (fun _ _ _ h=>h) HSB.out ⟨rfl,fun _ _=>by simp [go_sem]⟩ ?_
  refine wpMix_q (v:= .pointer (some ⟨g0,0,none⟩)) rfl rfl (fun _ _ _ h=>h) HSB.out ⟨rfl,fun _ _=>by simp [go_sem]⟩ ?_
  refine wpMix_q (v:= .int .i64 p1) rfl rfl (fun _ _ _ h=>h) HSB.out ⟨rfl,fun _ h'=>by have a0:=h'.cell 0;simp only [List.getElem?_toArray,List.getElem?_cons_zero] at a0;simp [go_sem,a0]⟩ ?_
  refine wpMix_q (v:= .int .i64 n) rfl rfl (fun _ _ _ h=>h) HSB.out ⟨rfl,fun _ _=>by simp [go_sem]⟩ ?_
  refine wpMix_q (v:= .int .i64 u1) rfl rfl (fun _ _ _ h=>h) HSB.out ⟨rfl,fun _ _=>by simp [go_sem,HQ.out.2.2.2.2.2.2.2.2.2.2.2.2,←HQ.out.2.2.2.1]⟩ ?_
  refine wpMix_q (v:= .bool false) rfl rfl (fun _ _ _ h=>h) HSB.out ⟨rfl,fun _ _=>by simp [go_sem,m1]⟩ ?_
  simp only [List.getElem_toArray,List.getElem_cons_succ,List.getElem_cons_zero,Act.put,List.setIfInBounds_toArray,List.set_cons_succ,List.set_cons_zero]
  refine wpMix_q (v:= .bool false) rfl rfl (fun _ _ _ h=>h) HSB.out ⟨rfl,fun _ _=>by simp [go_sem]⟩ ?_
  refine wpMix_s rfl rfl (fun _ _ _ h=>h) HSB.out rfl ?_
  refine wpMix_s rfl rfl (fun _ _ _ h=>h) HSB.out rfl ?_
  refine wpMix_s rfl rfl (fun _ _ _ h=>h) HSB.out rfl ?_
  refine wpMix_s rfl rfl (fun _ _ _ h=>h) HSB.out rfl ?_
  refine wpMix_s rfl rfl (fun _ _ _ h=>h) HSB.out rfl ?_
  simp only [List.getElem_toArray,List.getElem_cons_succ,List.getElem_cons_zero,Act.put,List.setIfInBounds_toArray,List.set_cons_succ,List.set_cons_zero]
  refine wpMix_q (v:= .bool false) rfl rfl (fun _ _ _ h=>h) HSB.out ⟨rfl,fun _ _=>by simp [go_sem]⟩ ?_
  refine wpMix_q (v:= .bool false) rfl rfl (fun _ _ _ h=>h) HSB.out ⟨rfl,fun _ _=>by simp [go_sem]⟩ ?_
  refine wpMix_s rfl rfl (fun _ _ _ h=>h) HSB.out rfl ?_
  refine wpMix_s rfl rfl (fun _ _ _ h=>h) HSB.out rfl ?_
  refine wpMix_s rfl rfl (fun _ _ _ h=>h) HSB.out rfl ?_
  refine wpMix_s rfl rfl (fun _ _ _ h=>h) HSB.out rfl ?_
  simp only [List.getElem_toArray,List.getElem_cons_succ,List.getElem_cons_zero,Act.put,List.setIfInBounds_toArray,List.set_cons_succ,List.set_cons_zero]
  refine wpMix_s rfl rfl (fun _ _ _ h=>h) HSB.out rfl ?_
  refine wpMix_q (v:= .bool false) rfl rfl (fun _ _ _ h=>h) HSB.out ⟨rfl,fun _ _=>by simp [go_sem]⟩ ?_
  simp only [List.getElem_toArray,List.getElem_cons_succ,List.getElem_cons_zero,Act.put,List.setIfInBounds_toArray,List.set_cons_succ,List.set_cons_zero]
  refine wpMix_n rfl rfl ?_
  go_wp2_with fail
  refine ⟨fun _=>HSB.out.far3 HN.out _ _ _,?_⟩
  refine wpMix_tail _ [_] (by kernel_rfl) rfl ?_
  go_wp2
  refine ret_at (v:= .tuple #[vP (q1,q2,q3), .bool false]) (fun W=>Blk W g1 43 #[.int .i64 q1, .int .i64 q2, .int .i64 q3]) ?_ (fun W hW=> ?_) rfl ⟨rfl,?_⟩
  ·exact HX.out.1.set3 _ _ _
  ·obtain ⟨a0,a1,a2⟩:=HF.out W hW
   simp [results,Tryz.results59,go_sem,a0,a1,a2]
   try trivial
  ·exact (((HX.out.2.1.setCell (p:=⟨g1,0,none⟩) HX.out.2.2 _).setCell (p:=⟨g1,1,none⟩) HX.out.2.2 _).setCell (p:=⟨g1,2,none⟩) HX.out.2.2 _).drew
end Go.Proofs.YtmemofonebphfaaGreat
namespace Go.Proofs.YtmemofonebphfaaGreat
open Go.RowKit Go.Sort Go.WideMaps Go.Maps Go.Shelf
set_option maxRecDepth 100000 in
set_option maxHeartbeats 32000000 in
theorem divided_any (p:Pt) (s:Nat) (hs:s≤4) (hp:fitsP p) (b:Bool) (gw:Nat) (w:World) (hw:Blk w gw 4 #[.bool b]):
  Calls Tryz.prog 58 #[vP p, .int .i64 s, .pointer (some ⟨gw,0,none⟩)] w fun e w'=>e= .returned (vP (overP p (16^s)))∧Blk w' gw 4 #[.bool (b && overB p (16^s))]∧w.grownBy w' (some gw):=by
 have ks:=fun W=>scale_any s hs W
 have hpos:(0:Int) < 16^s:=Int.pow_pos (by decide)
 obtain ⟨pw,hpw⟩:∃p,p=(16:Int)^s:=⟨_,rfl⟩
 simp only [←hpw] at ks hpos⊢
 have kp:=over_any p pw hp hpos
 obtain ⟨R,hR⟩:∃r,r=overP p pw:=⟨_,rfl⟩
 obtain ⟨ok,hok⟩:∃r,r=overB p pw:=⟨_,rfl⟩
 simp only [←hR,←hok] at kp⊢
 obtain ⟨p1,p2,p3⟩:=p
 obtain ⟨R1,R2,R3⟩:=R
 have HK:=hide (And.intro ks kp)
 clear ks kp hpos hpw hR hok hp
 obtain ⟨gp,hgp⟩:∃n,n=w.heap.size:=⟨_,rfl⟩
 obtain ⟨gr,hgr⟩:∃n,n=w.heap.size+1:=⟨_,rfl⟩
 obtain ⟨X,hX⟩:∃W,W=(w.alloc (.cells #[.int .i64 p1, .int .i64 p2, .int .i64 p3] 43)).alloc (.cells #[.int .i64 0, .int .i64 0, .int .i64 0] 43):=⟨_,rfl⟩
 have hB:Below w.heap.size w X:=by rw [hX];exact ((Below.refl _ w).alloc (Nat.le_refl _) _).alloc (by simp) _
 have hbp:Blk X gp 43 #[.int .i64 p1, .int .i64 p2, .int .i64 p3]:=by rw [hX,hgp];exact (Blk.new _ _ _).alloc _
 have hbr:Blk X gr 43 #[.int .i64 0, .int .i64 0, .int .i64 0]:=by rw [hX,hgr];exact Blk.new' _ _ _ _ (by simp)
 have hgw:w.heap.size≤gr:=by omega
 have hwX:=hw.below hB hw.lt
 have hne:gw≠gr:=by have:=hw.lt;omega
 have HX:=hide (And.intro hB (And.intro hbp (And.intro hbr (And.intro hwX (And.intro hgw hne)))))
 clear hB hbp hbr hw hgw hwX hne
 go_enter Tryz.func58,Tryz.ntmps58
 go_upto_region 1 with fail
 rw [←hX,←hgr,←hgp]
 clear hX hgr hgp
 go_cut [6,7] (fun u v wx=>∃g8:Nat,u= .pointer (some ⟨g8,0,none⟩)∧v= .bool ok∧X.heap.size≤g8∧Blk wx g8 43 #[.int .i64 R1, .int .i64 R2, .int .i64 R3]∧Below X.heap.size X wx)
 case first=>
  have HSB:=hide (show Below X.heap.size X X.drew from (Below.refl _ X).drew)
  refine wp_region_tree (fun W=>Below X.heap.size X W) [0,1,4,5,6] (.q 0 (.q 1 (.two 2 (.two 3 (.q 4 (.q 5 (.q 6 (.one 7 (.one 8 (.one 9 .nil)))))) 7 (.one 3 (.q 4 (.q 5 (.q 6 (.one 8 (.one 9 .nil))))))) 7 (.one 2 (.one 3 (.q 4 (.q 5 (.q 6 (.one 8 (.one 9 .nil)))))))))) mixed_ok (by kernel_rfl) ?_
  refine wpMixT_q (v:=vP (p1,p2,p3)) rfl (fun _ _ _ h=>h) HSB.out ⟨rfl,fun _ h'=>by have a0:=(h'.cell (p:=⟨gp,0,none⟩) HX.out.2.1.lt).trans (HX.out.2.1.cell 0);simp only [List.getElem?_toArray,List.getElem?_cons_zero] at a0;have a1:=(h'.cell (p:=⟨gp,1,none⟩) HX.out.2.1.lt).trans (HX.out.2.1.cell 1);simp only [List.getElem?_toArray,List.getElem?_cons_zero,List.getElem?_cons_succ] at a1;have a2:=(h'.cell (p:=⟨gp,2,none⟩) HX.out.2.1.lt).trans (HX.out.2.1.cell 2);simp only [List.getElem?_toArray,List.getElem?_cons_zero,List.getElem?_cons_succ] at a2;simp [go_sem,a0,a1,a2]⟩ ?_
  refine wpMixT_q (v:= .int .i64 s) rfl (fun _ _ _ h=>h) HSB.out ⟨rfl,fun _ _=>by simp [go_sem]⟩ ?_
  simp only [List.getElem_toArray,List.getElem_cons_succ,List.getElem_cons_zero,Act.put,List.setIfInBounds_toArray,List.set_cons_succ,List.set_cons_zero]
  have HB1:=hide HSB.out
  refine wpMixT_two rfl rfl ?_ ?_
  ·skip
   go_wp2_with fail
   refine (HK.out.1 X.drew).mono ?_
   rintro e W1 ⟨rfl,rfl⟩
   skip
   go_wp2_with fail
   refine ⟨fun _=>(by first | exact HB1.out | (have h9:=HB1.out;rw [←HG.out.2] at h9;exact h9)),?_⟩
   refine wpMixT_two rfl rfl ?_ ?_
   ·skip
    go_wp2_with fail
    refine (HK.out.2 X.drew).mono ?_
    rintro e W2 ⟨rfl,hB⟩
    have H3:=hide (HB1.out.trans (hB.mono HB1.out.size))
    clear hB
    go_wp2_with fail
    refine ⟨fun _=>(by first | exact H3.out | (have h9:=H3.out;rw [←HG.out.2] at h9;exact h9)),?_⟩
    refine wpMixT_q (v:= .tuple #[vP (R1,R2,R3), .bool ok]) rfl (fun _ _ _ h=>h) (by first | exact H3.out | (have h9:=H3.out;rw [←HG.out.2] at h9;exact h9)) ⟨rfl,fun _ _=>by simp [go_sem]⟩ ?_
    refine wpMixT_q (v:=vP (R1,R2,R3)) rfl (fun _ _ _ h=>h) (by first | exact H3.out | (have h9:=H3.out;rw [←HG.out.2] at h9;exact h9)) ⟨rfl,fun _ _=>by simp [go_sem]⟩ ?_
    refine wpMixT_q (v:= .bool ok) rfl (fun _ _ _ h=>h) (by first | exact H3.out | (have h9:=H3.out;rw [←HG.out.2] at h9;exact h9)) ⟨rfl,fun _ _=>by simp [go_sem]⟩ ?_
    simp only [List.getElem_toArray,List.getElem_cons_succ,List.getElem_cons_zero,Act.put,List.setIfInBounds_toArray,List.set_cons_succ,List.set_cons_zero]
    refine wpMixT_one rfl ?_
    go_wp2_with fail
    obtain ⟨g8,hg8⟩:∃g,g=W2.heap.size:=⟨_,rfl⟩
    obtain ⟨Z,hZ⟩:∃W,W=W2.alloc (.cells #[.int .i64 0, .int .i64 0, .int .i64 0] 43):=⟨_,rfl⟩
    rw [←hZ,←hg8]
    have hBz:Below W2.heap.size W2 Z:=by rw [hZ];exact (Below.refl _ _).alloc (Nat.le_refl _) _
    have hbz:Blk Z g8 43 #[.int .i64 0, .int .i64 0, .int .i64 0]:=by rw [hZ,hg8];exact Blk.new W2 _ _
    have hSz:Below X.heap.size X Z:=H3.out.trans (hBz.mono H3.out.size)
    have HZ:=hide (And.intro hbz hSz)
    have hgz:X.heap.size≤g8:=by rw [hg8];exact H3.out.size
    have HG:=hide (And.intro hgz hg8)
    clear hgz hBz hbz hSz hZ hg8
    refine ⟨fun _=>(by first | exact HZ.out.2 | (have h9:=HZ.out.2;rw [←HG.out.2] at h9;exact h9)),?_⟩
    refine wpMixT_one rfl ?_
    have f0:=HZ.out.1.frozen 0
    have f1:=HZ.out.1.frozen 1
    have f2:=HZ.out.1.frozen 2
    have hlz:=HZ.out.1.lt
    obtain ⟨k0,k1,k2⟩:=HZ.out.1.three
    have hS8:=hide (show Below X.heap.size X ((((Z).setCell ⟨g8,0,none⟩ (.int .i64 R1)).setCell ⟨g8,1,none⟩ (.int .i64 R2)).setCell ⟨g8,2,none⟩ (.int .i64 R3)) from ((HZ.out.2.setCell (p:=⟨g8,0,none⟩) HG.out.1 _).setCell (p:=⟨g8,1,none⟩) HG.out.1 _).setCell (p:=⟨g8,2,none⟩) HG.out.1 _)
    go_wp2_with fail
    refine ⟨fun _=>(by first | exact hS8.out | (have h9:=hS8.out;rw [←HG.out.2] at h9;exact h9)),?_⟩
    refine wpMixT_one rfl ?_
    go_wp2_with fail
    refine ⟨fun h=>absurd (h.symm.trans (show _=false by kernel_rfl)) (by simp),?_⟩
    refine wpMixT_nil ?_
    go_wp2_with fail
    go_meet
    case rel=>
     exact ⟨g8,rfl,rfl,HG.out.1,HZ.out.1.set3 _ _ _,((HZ.out.2.setCell (p:=⟨g8,0,none⟩) HG.out.1 _).setCell (p:=⟨g8,1,none⟩) HG.out.1 _).setCell (p:=⟨g8,2,none⟩) HG.out.1 _⟩
   ·skip
    go_wp2_with fail
    obtain ⟨g8,hg8⟩:∃g,g=X.heap.size:=⟨_,rfl⟩
    obtain ⟨Z,hZ⟩:∃W,W=(X.alloc (.cells #[.int .i64 0, .int .i64 0, .int .i64 0] 43)).drew:=⟨_,rfl⟩
    rw [←hZ,←hg8]
    have hBz:Below X.heap.size X Z:=by rw [hZ];exact ((Below.refl _ _).alloc (Nat.le_refl _) _).drew
    have hbz:Blk Z g8 43 #[.int .i64 0, .int .i64 0, .int .i64 0]:=by rw [hZ,hg8];exact Blk.new X _ _
    have hSz:Below X.heap.size X Z:=(Below.refl X.heap.size X).trans (hBz.mono (Below.refl X.heap.size X).size)
    have HZ:=hide (And.intro hbz hSz)
    have hgz:X.heap.size≤g8:=by rw [hg8];exact (Below.refl X.heap.size X).size
    have HG:=hide (And.intro hgz hg8)
    clear hgz hBz hbz hSz hZ hg8
    refine ⟨fun _=>(by first | exact HZ.out.2 | (have h9:=HZ.out.2;rw [←HG.out.2] at h9;exact h9)),?_⟩
    refine wpMixT_one rfl ?_
    go_wp2_with fail
    refine (HK.out.2 Z).mono ?_
    rintro e W2 ⟨rfl,hB⟩
    have H3:=hide (HZ.out.2.trans (hB.mono HZ.out.2.size))
    have hbX:=HZ.out.1.below hB HZ.out.1.lt
    have HBX:=hide hbX
    clear hbX
    clear hB
    go_wp2_with fail
    refine ⟨fun _=>(by first | exact H3.out | (have h9:=H3.out;rw [←HG.out.2] at h9;exact h9)),?_⟩
    refine wpMixT_q (v:= .tuple #[vP (R1,R2,R3), .bool ok]) rfl (fun _ _ _ h=>h) (by first | exact H3.out | (have h9:=H3.out;rw [←HG.out.2] at h9;exact h9)) ⟨rfl,fun _ _=>by simp [go_sem]⟩ ?_
    refine wpMixT_q (v:=vP (R1,R2,R3)) rfl (fun _ _ _ h=>h) (by first | exact H3.out | (have h9:=H3.out;rw [←HG.out.2] at h9;exact h9)) ⟨rfl,fun _ _=>by simp [go_sem]⟩ ?_
    refine wpMixT_q (v:= .bool ok) rfl (fun _ _ _ h=>h) (by first | exact H3.out | (have h9:=H3.out;rw [←HG.out.2] at h9;exact h9)) ⟨rfl,fun _ _=>by simp [go_sem]⟩ ?_
    simp only [List.getElem_toArray,List.getElem_cons_succ,List.getElem_cons_zero,Act.put,List.setIfInBounds_toArray,List.set_cons_succ,List.set_cons_zero]
    refine wpMixT_one rfl ?_
    have f0:=HBX.out.frozen 0
    have f1:=HBX.out.frozen 1
    have f2:=HBX.out.frozen 2
    have hlz:=HBX.out.lt
    obtain ⟨k0,k1,k2⟩:=HBX.out.three
    have hS8:=hide (show Below X.heap.size X ((((W2).setCell ⟨g8,0,none⟩ (.int .i64 R1)).setCell ⟨g8,1,none⟩ (.int .i64 R2)).setCell ⟨g8,2,none⟩ (.int .i64 R3)) from ((H3.out.setCell (p:=⟨g8,0,none⟩) HG.out.1 _).setCell (p:=⟨g8,1,none⟩) HG.out.1 _).setCell (p:=⟨g8,2,none⟩) HG.out.1 _)
    go_wp2_with fail
    refine ⟨fun _=>(by first | exact hS8.out | (have h9:=hS8.out;rw [←HG.out.2] at h9;exact h9)),?_⟩
    refine wpMixT_one rfl ?_
    go_wp2_with fail
    refine ⟨fun h=>absurd (h.symm.trans (show _=false by kernel_rfl)) (by simp),?_⟩
    refine wpMixT_nil ?_
    go_wp2_with fail
    go_meet
    case rel=>
     exact ⟨g8,rfl,rfl,HG.out.1,HBX.out.set3 _ _ _,((H3.out.setCell (p:=⟨g8,0,none⟩) HG.out.1 _).setCell (p:=⟨g8,1,none⟩) HG.out.1 _).setCell (p:=⟨g8,2,none⟩) HG.out.1 _⟩
  ·skip
   go_wp2_with fail
   obtain ⟨g8,hg8⟩:∃g,g=X.heap.size:=⟨_,rfl⟩
   obtain ⟨Z,hZ⟩:∃W,W=(X.alloc (.cells #[.int .i64 0, .int .i64 0, .int .i64 0] 43)).drew:=⟨_,rfl⟩
   rw [←hZ,←hg8]
   have hBz:Below X.heap.size X Z:=by rw [hZ];exact ((Below.refl _ _).alloc (Nat.le_refl _) _).drew
   have hbz:Blk Z g8 43 #[.int .i64 0, .int .i64 0, .int .i64 0]:=by rw [hZ,hg8];exact Blk.new X _ _
   have hSz:Below X.heap.size X Z:=(Below.refl X.heap.size X).trans (hBz.mono (Below.refl X.heap.size X).size)
   have HZ:=hide (And.intro hbz hSz)
   have hgz:X.heap.size≤g8:=by rw [hg8];exact (Below.refl X.heap.size X).size
   have HG:=hide (And.intro hgz hg8)
   clear hgz hBz hbz hSz hZ hg8
   refine ⟨fun _=>(by first | exact HZ.out.2 | (have h9:=HZ.out.2;rw [←HG.out.2] at h9;exact h9)),?_⟩
   refine wpMixT_one rfl ?_
   go_wp2_with fail
   refine (HK.out.1 Z).mono ?_
   rintro e W1 ⟨rfl,hw1⟩
   obtain rfl:Z=W1:=hw1.symm
   go_wp2_with fail
   refine ⟨fun _=>(by first | exact HZ.out.2 | (have h9:=HZ.out.2;rw [←HG.out.2] at h9;exact h9)),?_⟩
   refine wpMixT_one rfl ?_
   go_wp2_with fail
   refine (HK.out.2 Z).mono ?_
   rintro e W2 ⟨rfl,hB⟩
   have H3:=hide (HZ.out.2.trans (hB.mono HZ.out.2.size))
   have hbX:=HZ.out.1.below hB HZ.out.1.lt
   have HBX:=hide hbX
   clear hbX
   clear hB
   go_wp2_with fail
   refine ⟨fun _=>(by first | exact H3.out | (have h9:=H3.out;rw [←HG.out.2] at h9;exact h9)),?_⟩
   refine wpMixT_q (v:= .tuple #[vP (R1,R2,R3), .bool ok]) rfl (fun _ _ _ h=>h) (by first | exact H3.out | (have h9:=H3.out;rw [←HG.out.2] at h9;exact h9)) ⟨rfl,fun _ _=>by simp [go_sem]⟩ ?_
   refine wpMixT_q (v:=vP (R1,R2,R3)) rfl (fun _ _ _ h=>h) (by first | exact H3.out | (have h9:=H3.out;rw [←HG.out.2] at h9;exact h9)) ⟨rfl,fun _ _=>by simp [go_sem]⟩ ?_
   refine wpMixT_q (v:= .bool ok) rfl (fun _ _ _ h=>h) (by first | exact H3.out | (have h9:=H3.out;rw [←HG.out.2] at h9;exact h9)) ⟨rfl,fun _ _=>by simp [go_sem]⟩ ?_
   simp only [List.getElem_toArray,List.getElem_cons_succ,List.getElem_cons_zero,Act.put,List.setIfInBounds_toArray,List.set_cons_succ,List.set_cons_zero]
   refine wpMixT_one rfl ?_
   have f0:=HBX.out.frozen 0
   have f1:=HBX.out.frozen 1
   have f2:=HBX.out.frozen 2
   have hlz:=HBX.out.lt
   obtain ⟨k0,k1,k2⟩:=HBX.out.three
   have hS8:=hide (show Below X.heap.size X ((((W2).setCell ⟨g8,0,none⟩ (.int .i64 R1)).setCell ⟨g8,1,none⟩ (.int .i64 R2)).setCell ⟨g8,2,none⟩ (.int .i64 R3)) from ((H3.out.setCell (p:=⟨g8,0,none⟩) HG.out.1 _).setCell (p:=⟨g8,1,none⟩) HG.out.1 _).setCell (p:=⟨g8,2,none⟩) HG.out.1 _)
   go_wp2_with fail
   refine ⟨fun _=>(by first | exact hS8.out | (have h9:=hS8.out;rw [←HG.out.2] at h9;exact h9)),?_⟩
   refine wpMixT_one rfl ?_
   go_wp2_with fail
   refine ⟨fun h=>absurd (h.symm.trans (show _=false by kernel_rfl)) (by simp),?_⟩
   refine wpMixT_nil ?_
   go_wp2_with fail
   go_meet
   case rel=>
    exact ⟨g8,rfl,rfl,HG.out.1,HBX.out.set3 _ _ _,((H3.out.setCell (p:=⟨g8,0,none⟩) HG.out.1 _).setCell (p:=⟨g8,1,none⟩) HG.out.1 _).setCell (p:=⟨g8,2,none⟩) HG.out.1 _⟩
 case rest=>
  obtain ⟨g8,rfl,rfl,hg8,hb8,hBc⟩:=hcut
  obtain ⟨V,rfl⟩:∃x,x=wc:=⟨_,rfl⟩
  have hwV:=HX.out.2.2.2.1.below hBc HX.out.2.2.2.1.lt
  have hrV:=HX.out.2.2.1.below hBc HX.out.2.2.1.lt
  have hl8:=hb8.lt
  have hn8:gw≠g8:=by have:=HX.out.2.2.2.1.lt;omega
  have hnr:gr≠g8:=by have:=HX.out.2.2.1.lt;omega
  obtain ⟨k0,k1,k2⟩:=hb8.three
  have c0:V.cell? ⟨gw,0,none⟩=some (.bool b):=hwV.cell 0
  have hlw:=hwV.lt
  have fw:=hwV.frozen 0
  obtain ⟨r0,r1,r2⟩:=hrV.three
  have hrl:=hrV.lt
  have f0:=hrV.frozen 0
  have f1:=hrV.frozen 1
  have f2:=hrV.frozen 2
  have HV:=hide (And.intro hwV (And.intro hrV (And.intro hBc (And.intro hn8 hnr))))
  have hne:=HX.out.2.2.2.2.2
  clear hwV hrV hb8 hBc hg8
  cases b
  ·skip
   go_wp2
   refine ret_at (v:=vP (R1,R2,R3)) (fun W=>Blk W gr 43 #[.int .i64 R1, .int .i64 R2, .int .i64 R3]) ?_ (fun W hW=> ?_) rfl ⟨rfl,?_,?_⟩
   ·exact Blk.set3 (HV.out.2.1.far (p:=⟨gw,0,none⟩) HX.out.2.2.2.2.2.symm _) _ _ _
   ·obtain ⟨a0,a1,a2⟩:=hW.three
    simp [results,Tryz.results58,go_sem,a0,a1,a2]
    try trivial
   ·exact (HV.out.1.set_ 0 _).far3 HX.out.2.2.2.2.2 _ _ _
   ·have h0:=(grown_bel9 HX.out.1 (some gw)).trans (grown_bel9 HV.out.2.2.1 (some gw))
    have h1:=h0.trans (setW_grown gw [.bool false] V 0)
    exact grown_new (grown_new (grown_new h1 (setW_grown gr [_] _ 0) HX.out.2.2.2.2.1) (setW_grown gr [_] _ 1) HX.out.2.2.2.2.1) (setW_grown gr [_] _ 2) HX.out.2.2.2.2.1
  ·skip
   go_wp2
   refine ret_at (v:=vP (R1,R2,R3)) (fun W=>Blk W gr 43 #[.int .i64 R1, .int .i64 R2, .int .i64 R3]) ?_ (fun W hW=> ?_) rfl ⟨rfl,?_,?_⟩
   ·exact Blk.set3 (HV.out.2.1.far (p:=⟨gw,0,none⟩) HX.out.2.2.2.2.2.symm _) _ _ _
   ·obtain ⟨a0,a1,a2⟩:=hW.three
    simp [results,Tryz.results58,go_sem,a0,a1,a2]
    try trivial
   ·exact (HV.out.1.set_ 0 _).far3 HX.out.2.2.2.2.2 _ _ _
   ·have h0:=(grown_bel9 HX.out.1 (some gw)).trans (grown_bel9 HV.out.2.2.1 (some gw))
    have h1:=h0.trans (setW_grown gw [.bool ok] V 0)
    exact grown_new (grown_new (grown_new h1 (setW_grown gr [_] _ 0) HX.out.2.2.2.2.1) (setW_grown gr [_] _ 1) HX.out.2.2.2.2.1) (setW_grown gr [_] _ 2) HX.out.2.2.2.2.1
end Go.Proofs.YtmemofonebphfaaGreat
namespace Go.Proofs.YtmemofonebphfaaGreat
open Go.RowKit Go.Sort Go.WideMaps Go.Maps Go.Shelf
theorem blk_ne9 {W:World} {a b:Nat} {t u:TypeId} {cs ds:Array Value} (h1:Blk W a t cs) (h2:Blk W b u ds) (ht:t≠u):a≠b:=by
 rintro rfl
 have h3:some (Obj.cells cs t (0,0))=some (Obj.cells ds u (0,0)):=h1.symm.trans h2
 injection h3 with h3
 injection h3 with _ h4
 exact ht h4
structure Chg2 (W W':World) (gw gd:Nat) (O:Option Nat):Prop where
 os:W'.os=W.os
 tape:W'.tape=W.tape
 output:W'.output=W.output
 size:W.heap.size≤W'.heap.size
 block:∀k,k < W.heap.size→k≠gw→k≠gd→some k≠O→W'.heap[k]? =W.heap[k]?
theorem Chg2.refl (W:World) (gw gd:Nat) (O:Option Nat):Chg2 W W gw gd O:=⟨rfl,rfl,rfl,Nat.le_refl _,fun _ _ _ _ _=>rfl⟩
theorem Chg2.row {w W W':World} {gw gd:Nat} {O row:Option Nat} (h:Chg2 w W gw gd O) (hg:W.grownBy W' row) (hr:∀r,row=some r→r=gw∨r=gd∨some r=O∨w.heap.size≤r):Chg2 w W' gw gd O:=
 ⟨hg.os.trans h.os,hg.tape.trans h.tape,hg.output.trans h.output,Nat.le_trans h.size hg.size,fun k hk h1 h2 h3=>(hg.block k (Nat.lt_of_lt_of_le hk h.size) (fun e=>by
  rcases hr k e.symm with h | h | h | h
  ·exact h1 h
  ·exact h2 h
  ·exact h3 h
  ·omega)).trans (h.block k hk h1 h2 h3)⟩
theorem Chg2.bel {w W W':World} {gw gd:Nat} {O:Option Nat} (h:Chg2 w W gw gd O) (hB:Below W.heap.size W W'):Chg2 w W' gw gd O:=h.row (grown_bel9 hB none) (fun r e=>by cases e)
def putO (W W':World) (k:Nat):World:=match W'.heap[k]? with
 | some o=>{W with heap:=W.heap.setIfInBounds k o}
 | none=>W
theorem putO_size (W W':World) (k:Nat):(putO W W' k).heap.size=W.heap.size:=by
 unfold putO
 cases W'.heap[k]? <;>simp
theorem putO_get {W W':World} (hs:W.heap.size≤W'.heap.size) (j k:Nat):(putO W W' j).heap[k]? =if k=j∧j < W.heap.size then W'.heap[k]? else W.heap[k]? :=by
 unfold putO
 cases hj:W'.heap[j]? with
 | none=>
  have:¬j < W.heap.size:=fun h=>by
   rw [Array.getElem?_eq_getElem (by omega)] at hj
   cases hj
  rw [if_neg (fun h=>this h.2)]
 | some o=>
  simp only
  by_cases hk:k=j
  ·subst hk
   by_cases hl:k < W.heap.size
   ·rw [if_pos ⟨rfl,hl⟩,hj]
    simp [hl]
   ·rw [if_neg (fun h=>hl h.2)]
    simp [hl]
  ·rw [if_neg (fun h=>hk h.1),Array.getElem?_setIfInBounds_ne (Ne.symm hk)]
theorem putO_grown {W W':World} (hs:W.heap.size≤W'.heap.size) (j:Nat):W.grownBy (putO W W' j) (some j):=by
 refine ⟨?_,?_,?_,?_,fun k _ hk=> ?_⟩
 ·unfold putO;cases W'.heap[j]? <;>rfl
 ·unfold putO;cases W'.heap[j]? <;>rfl
 ·unfold putO;cases W'.heap[j]? <;>rfl
 ·rw [putO_size];exact Nat.le_refl _
 ·rw [putO_get hs,if_neg (fun h=>hk (by rw [h.1]))]
theorem putO2_bel {W W':World} {gw gd:Nat} (h:Chg2 W W' gw gd none):Below (putO (putO W W' gw) W' gd).heap.size (putO (putO W W' gw) W' gd) W':=by
 have s1:(putO W W' gw).heap.size≤W'.heap.size:=by rw [putO_size];exact h.size
 have s2:(putO (putO W W' gw) W' gd).heap.size≤W'.heap.size:=by rw [putO_size];exact s1
 have g1:=putO_grown h.size gw
 have g2:=putO_grown s1 gd
 refine ⟨by rw [g2.os,g1.os];exact h.os,by rw [g2.tape,g1.tape];exact h.tape,by rw [g2.output,g1.output];exact h.output,s2,fun k hk=> ?_⟩
 rw [putO_size,putO_size] at hk
 rw [putO_get s1,putO_size,putO_get h.size]
 split
 ·rfl
 ·rename_i h3
  split
  ·rfl
  ·rename_i h4
   exact h.block k hk (fun e=>h4 ⟨e,by rw [←e];exact hk⟩) (fun e=>h3 ⟨e,by rw [←e];exact hk⟩) (by simp)
theorem kpt_chg {W W':World} {B gw gd:Nat} {O P:Option Nat} {cs ds:Array Value} (h:Chg2 W W' gw gd O) (h1:Blk W gw 4 cs) (n1:NoInt cs) (h2:Blk W gd 28 ds) (n2:NoInt ds) (hO:∀r,O=some r→B≤r∧some r≠P):Kpt B P W W':=by
 have hne:gd≠gw:=blk_ne9 h2 h1 (by decide)
 have s1:(putO W W' gw).heap.size≤W'.heap.size:=by rw [putO_size];exact h.size
 have s2:(putO (putO W W' gw) W' gd).heap.size≤W'.heap.size:=by rw [putO_size];exact s1
 have g1:=putO_grown h.size gw
 have g2:=putO_grown s1 gd
 have k1:Kpt B P W (putO W W' gw):= .box (.refl W) h1 n1 (by decide) (by decide) g1
 have k2:Kpt B P W (putO (putO W W' gw) W' gd):= .box k1 (h2.grown g1 (fun e=>hne (Option.some.inj e))) n2 (by decide) (by decide) g2
 cases O with
 | none=>exact .bel k2 (putO2_bel h)
 | some r=>
  have g3:=putO_grown s2 r
  have k3:Kpt B P W (putO (putO (putO W W' gw) W' gd) W' r):= .row k2 g3 (fun q e=>by cases e;exact hO r rfl)
  refine .bel k3 ⟨by rw [g3.os,g2.os,g1.os];exact h.os,by rw [g3.tape,g2.tape,g1.tape];exact h.tape,by rw [g3.output,g2.output,g1.output];exact h.output,by rw [putO_size];exact s2,fun k hk=> ?_⟩
  rw [putO_size,putO_size,putO_size] at hk
  rw [putO_get s2,putO_size,putO_size,putO_get s1,putO_size,putO_get h.size]
  split
  ·rfl
  ·rename_i h5
   split
   ·rfl
   ·rename_i h3
    split
    ·rfl
    ·rename_i h4
     exact h.block k hk (fun e=>h4 ⟨e,by rw [←e];exact hk⟩) (fun e=>h3 ⟨e,by rw [←e];exact hk⟩) (fun e=>h5 ⟨Option.some.inj e,by rw [←Option.some.inj e];exact hk⟩)
theorem Chg2.blk {w W:World} {gw gd g:Nat} {O:Option Nat} {t:TypeId} {cs:Array Value} (h:Chg2 w W gw gd O) (hb:Blk w g t cs) (h1:g≠gw) (h2:g≠gd) (h3:some g≠O):Blk W g t cs:=(h.block g hb.lt h1 h2 h3).trans hb
theorem Chg2.cell {w W:World} {gw gd b o:Nat} {O:Option Nat} {v:Value} (h:Chg2 w W gw gd O) (hb:b < w.heap.size) (h1:b≠gw) (h2:b≠gd) (h3:some b≠O) (hv:w.cell? ⟨b,o,none⟩=some v):W.cell? ⟨b,o,none⟩=some v:=
 (World.cell?_of_block (a:=⟨b,o,none⟩) (h.block b hb h1 h2 h3)).trans hv
theorem slice_noint (A:Option Addr) (n c:Nat):NoInt #[Value.slice A n c]:=fun off k m=>by
 match off with
 | 0=>simp
 | off+1=>simp
structure A2R (w W:World) (B gd gw:Nat) (O:Option Nat) (i:Nat) (D:List Pt) (b:Bool):Prop where
 own:∃A c,Blk W gd 28 #[.slice A i c]∧Own encP 3 43 W B (.slice A i c) i D∧(∀r,(Value.slice A i c).ownBlock=some r→O=some r∨w.heap.size≤r)
 flag:Blk W gw 4 #[.bool b]
 chg:Chg2 w W gw gd O
set_option maxRecDepth 100000 in
set_option maxHeartbeats 64000000 in
theorem ana2_any (i:Nat) (q f:Pt) (gd gf gfi gfs gc gk gw:Nat) (Ad Af Ap At Ac Ao Ah:Option Addr) (cd fl cf lp np cp nt ct nc cc no oc sn nd dc k Bf B:Nat) (b:Bool) (fine D:List Pt) (w:World)
  (hd:Blk w gd 28 #[.slice Ad i cd]) (ho:Own encP 3 43 w B (.slice Ad i cd) i D) (hf:Blk w gf 106 #[.func (.func 58) #[] #[.pointer (some ⟨gw,0,none⟩)]])
  (hfi:Blk w gfi 28 #[.slice Af fl cf]) (hfl:fl=fine.length) (hsl:Sl encP 3 w Bf Af fine) (hfs:Blk w gfs 3 #[.int .i64 lp]) (hc:Blk w gc 32 (cCtl Ap np cp At nt ct Ac nc cc Ao no oc sn Ah nd dc)) (hk:Blk w gk 3 #[.int .i64 k]) (hw:Blk w gw 4 #[.bool b])
  (hx:fine[lp+i]? =some f) (hfit:fitsP f) (hks:k < sn) (hs4:sn≤4) (hfb:fl≤100000000) (hib:i≤1000000) (hB:B≤w.heap.size) (hBf:Bf≤gw) (hgi:gfi≠gd) (hgB:gd < B) (hwB:gw < B) (hBf2:Bf≤gd) (hBfB:Bf≤B):
  Calls Tryz.prog 60 #[.int .i64 i,vP q, .pointer (some ⟨gd,0,none⟩), .pointer (some ⟨gf,0,none⟩), .pointer (some ⟨gfi,0,none⟩), .pointer (some ⟨gfs,0,none⟩), .pointer (some ⟨gc,0,none⟩), .pointer (some ⟨gk,0,none⟩)] w fun e w'=>e= .returned (vP f)∧A2R w w' B gd gw (Value.slice Ad i cd).ownBlock (i+1) (D++ [overP (plusP f q (-1)) (16^(sn - 1 - k))]) (b && overB (plusP f q (-1)) (16^(sn - 1 - k))):=by
 obtain ⟨s,hs⟩:∃s:Nat,s=sn - 1 - k:=⟨_,rfl⟩
 rw [←hs]
 have hs4':s≤4:=by omega
 have kp:=plus_any f q (-1)
 have kdv:=fun (b:Bool) (W:World) (hW:Blk W gw 4 #[.bool b])=>divided_any (plusP f q (-1)) s hs4' (fitsP_plus _ _ _) b gw W hW
 obtain ⟨R,hR⟩:∃r,r=plusP f q (-1):=⟨_,rfl⟩
 simp only [←hR] at kp kdv⊢
 obtain ⟨V,hV⟩:∃v,v=overP R (16^s):=⟨_,rfl⟩
 obtain ⟨ok,hok⟩:∃v,v=overB R (16^s):=⟨_,rfl⟩
 simp only [←hV,←hok] at kdv⊢
 obtain ⟨m,hm⟩:∃m,m=lp+i:=⟨_,rfl⟩
 rw [←hm] at hx
 have hml:m < fl:=by rw [hfl];exact (List.getElem?_eq_some_iff.1 hx).1
 have e1:(lp:Int)+(i:Int)=(m:Int):=by omega
 have e2:(m:Int) < (fl:Int):=by omega
 obtain ⟨s1,hs1⟩:∃s1:Nat,s1=sn - 1:=⟨_,rfl⟩
 have t1:(sn:Int) - 1=(s1:Int):=by omega
 have t2:(s1:Int) - (k:Int)=(s:Int):=by omega
 have hs1b:s1≤4:=by omega
 obtain ⟨bf,of,hAf,hbf,d0,d1,d2⟩:=hsl.pt9 hx
 subst hAf
 have nd1:gd≠gw:=blk_ne9 hd hw (by decide)
 have nf1:gf≠gw:=blk_ne9 hf hw (by decide)
 have ni1:gfi≠gw:=blk_ne9 hfi hw (by decide)
 have ns1:gfs≠gw:=blk_ne9 hfs hw (by decide)
 have nc1:gc≠gw:=blk_ne9 hc hw (by decide)
 have nk1:gk≠gw:=blk_ne9 hk hw (by decide)
 have ns2:gfs≠gd:=blk_ne9 hfs hd (by decide)
 have nb1:bf≠gw:=by omega
 have nb2:bf≠gd:=by omega
 have nfO:some gfi≠(Value.slice Ad i cd).ownBlock:=blk_own_ne9 hfi ho (by decide)
 have nsO:some gfs≠(Value.slice Ad i cd).ownBlock:=blk_own_ne9 hfs ho (by decide)
 have nbO:some bf≠(Value.slice Ad i cd).ownBlock:=fun e=>by have:=(ho.blk bf e.symm).1;omega
 have hbw:bf < w.heap.size:=by omega
 try simp only at d0 d1 d2
 have HR:=hide (And.intro (And.intro hfi (And.intro ni1 (And.intro hgi nfO))) (And.intro (And.intro hfs (And.intro ns1 (And.intro ns2 nsO))) (And.intro d0 (And.intro d1 (And.intro d2 (And.intro hbw (And.intro nb1 (And.intro nb2 nbO))))))))
 have hob:=ho.blk
 obtain ⟨gp,hgp⟩:∃n,n=w.heap.size:=⟨_,rfl⟩
 obtain ⟨gr,hgr⟩:∃n,n=w.heap.size+1:=⟨_,rfl⟩
 obtain ⟨q1,q2,q3⟩:=q
 obtain ⟨f1,f2,f3⟩:=f
 obtain ⟨V1,V2,V3⟩:=V
 obtain ⟨X,hX⟩:∃W,W=(w.alloc (.cells #[.int .i64 q1, .int .i64 q2, .int .i64 q3] 43)).alloc (.cells #[.int .i64 0, .int .i64 0, .int .i64 0] 43):=⟨_,rfl⟩
 have hBX:Below w.heap.size w X:=by rw [hX];exact ((Below.refl _ w).alloc (Nat.le_refl _) _).alloc (by simp) _
 have hbp:Blk X gp 43 #[.int .i64 q1, .int .i64 q2, .int .i64 q3]:=by rw [hX,hgp];exact (Blk.new _ _ _).alloc _
 have hbr:Blk X gr 43 #[.int .i64 0, .int .i64 0, .int .i64 0]:=by rw [hX,hgr];exact Blk.new' _ _ _ _ (by simp)
 have hgw:w.heap.size≤gr:=by omega
 have hro:some gr≠(Value.slice Ad i cd).ownBlock:=fun e=>by have:=(hob gr e.symm).2;omega
 have HRO:=hide (And.intro hro hob)
 clear hro hob nfO nsO nbO hbw
 have hdX:=hd.below hBX hd.lt
 have hfX:=hf.below hBX hf.lt
 have hfiX:=hfi.below hBX hfi.lt
 have hfsX:=hfs.below hBX hfs.lt
 have hcX:=hc.below hBX hc.lt
 have hkX:=hk.below hBX hk.lt
 have hwX:=hw.below hBX hw.lt
 have hoX:=ho.below hBX (Nat.le_refl _)
 have np1:gp≠gw:=by have:=hw.lt;omega
 have nr1:gr≠gw:=by have:=hw.lt;omega
 have nr2:gr≠gd:=by have:=hd.lt;omega
 have z0:X.cell? ⟨gd,0,none⟩=some (.slice Ad i cd):=hdX.cell 0
 have z1:X.cell? ⟨gf,0,none⟩=some (.func (.func 58) #[] #[.pointer (some ⟨gw,0,none⟩)]):=hfX.cell 0
 have z2:X.cell? ⟨gfi,0,none⟩=some (.slice (some ⟨bf,of,none⟩) fl cf):=hfiX.cell 0
 have z3:X.cell? ⟨gfs,0,none⟩=some (.int .i64 lp):=hfsX.cell 0
 have z7:=(hBX.cell (p:=⟨bf,of+m*3,none⟩) (Nat.lt_of_lt_of_le hbf (Nat.le_trans hBfB hB))).trans d0
 have z8:=(hBX.cell (p:=⟨bf,of+m*3+1,none⟩) (Nat.lt_of_lt_of_le hbf (Nat.le_trans hBfB hB))).trans d1
 have z9:=(hBX.cell (p:=⟨bf,of+m*3+2,none⟩) (Nat.lt_of_lt_of_le hbf (Nat.le_trans hBfB hB))).trans d2
 try simp only at z7 z8 z9
 obtain ⟨u0,u1,u2⟩:=hbp.three
 have y4:X.cell? ⟨gc,4,none⟩=some (.int .i64 sn):=hcX.cell 4
 have y7:X.cell? ⟨gk,0,none⟩=some (.int .i64 k):=hkX.cell 0
 have HC:=hide (And.intro z0 (And.intro z1 (And.intro z2 (And.intro z3 (And.intro z7 (And.intro z8 (And.intro z9 (And.intro u0 (And.intro u1 (And.intro u2 (And.intro y4 y7)))))))))))
 have nsome:∀{a b:Nat},a≠b→some a≠some b:=fun h e=>h (Option.some.inj e)
 have HN:=hide (And.intro (nsome nd1) (And.intro (nsome nf1) (And.intro (nsome ni1) (And.intro (nsome ns1) (And.intro (nsome nb1) (And.intro (nsome np1) (And.intro (nsome nc1) (nsome nk1))))))))
 have HM:=hide (And.intro nr1 (And.intro nr2 (And.intro ns2 (And.intro nb2 hgi))))
 have HX:=hide (And.intro hBX (And.intro hbr (And.intro hgw (And.intro hdX (And.intro hwX hoX)))))
 have HB:=hide (And.intro hB (And.intro hgB hwB))
 have HK:=hide (And.intro kp kdv)
 have hBX2:B≤X.heap.size:=Nat.le_trans hB hBX.size
 clear z0 z1 z2 z3 z7 z8 z9 u0 u1 u2 y4 y7 nd1 nf1 ni1 ns1 nb1 np1 nc1 nk1 nr1 nr2 ns2 nb2 hgi hBX hbp hbr hgw hdX hfX hfiX hfsX hcX hkX hwX hoX hB hgB hwB kp kdv hd ho hf hfi hfl hsl hfs hc hk hw hx hfit hbf d0 d1 d2 hBf hBf2 hBfB hs hs1 hm hR hV hok nsome
 go_enter Tryz.func60,Tryz.ntmps60
 go_upto_region 1 with fail
 rw [←hX,←hgr,←hgp]
 clear hX hgr hgp
 have HSB:=hide (show X.grownBy X.drew (some gw) from grown_bel9 (Below.refl _ X).drew (some gw))
 refine wp_region_mix (fun W=>X.grownBy W (some gw)) [0,1,2,3,4,5,6,7,8,10,11,12,13,14] [0,1,2,3,4,5,6,7,8,10,11,12,13,14,9,15,16,17,18] mixed_ok (by kernel_rfl) ?_
 refine wpMix_q (v:= .slice Ad i cd) rfl rfl (fun _ _ _ h=>h) HSB.out ⟨rfl,fun _ h'=>by have a0:=World.grownBy.cell h' HC.out.1 (HN.out.1);simp [go_sem,a0]⟩ ?_
 refine wpMix_q (v:= .func (.func 58) #[] #[.pointer (some ⟨gw,0,none⟩)]) rfl rfl (fun _ _ _ h=>h) HSB.out ⟨rfl,fun _ h'=>by have a0:=World.grownBy.cell h' HC.out.2.1 (HN.out.2.1);simp [go_sem,a0]⟩ ?_
 refine wpMix_q (v:= .slice (some ⟨bf,of,none⟩) fl cf) rfl rfl (fun _ _ _ h=>h) HSB.out ⟨rfl,fun _ h'=>by have a0:=World.grownBy.cell h' HC.out.2.2.1 (HN.out.2.2.1);simp [go_sem,a0]⟩ ?_
 refine wpMix_q (v:= .int .i64 lp) rfl rfl (fun _ _ _ h=>h) HSB.out ⟨rfl,fun _ h'=>by have a0:=World.grownBy.cell h' HC.out.2.2.2.1 (HN.out.2.2.2.1);simp [go_sem,a0]⟩ ?_
 refine wpMix_q (v:= .int .i64 i) rfl rfl (fun _ _ _ h=>h) HSB.out ⟨rfl,fun _ _=>by simp [go_sem]⟩ ?_
 refine wpMix_q (v:= .int .i64 m) rfl rfl (fun _ _ _ h=>h) HSB.out ⟨rfl,fun _ _=>by have w1:IntKind.i64.wrap (m:Int)=m:=IntWalk.i64_in _ (by omega);simp [go_sem,e1,w1]⟩ ?_
 simp only [List.getElem_toArray,List.getElem_cons_succ,List.getElem_cons_zero,Act.put,List.setIfInBounds_toArray,List.set_cons_succ,List.set_cons_zero]
 refine wpMix_q (v:= .pointer (some ⟨bf,of+m*3,none⟩)) rfl rfl (fun _ _ _ h=>h) HSB.out ⟨rfl,fun _ _=>by simp [go_sem,e2]⟩ ?_
 refine wpMix_q (v:= .agg #[.int .i64 f1, .int .i64 f2, .int .i64 f3]) rfl rfl (fun _ _ _ h=>h) HSB.out ⟨rfl,fun _ h'=>by have a0:=World.grownBy.cell h' HC.out.2.2.2.2.1 (HN.out.2.2.2.2.1);have a1:=World.grownBy.cell h' HC.out.2.2.2.2.2.1 (HN.out.2.2.2.2.1);have a2:=World.grownBy.cell h' HC.out.2.2.2.2.2.2.1 (HN.out.2.2.2.2.1);simp [go_sem,a0,a1,a2]⟩ ?_
 refine wpMix_q (v:= .agg #[.int .i64 q1, .int .i64 q2, .int .i64 q3]) rfl rfl (fun _ _ _ h=>h) HSB.out ⟨rfl,fun _ h'=>by have a0:=World.grownBy.cell h' HC.out.2.2.2.2.2.2.2.1 (HN.out.2.2.2.2.2.1);have a1:=World.grownBy.cell h' HC.out.2.2.2.2.2.2.2.2.1 (HN.out.2.2.2.2.2.1);have a2:=World.grownBy.cell h' HC.out.2.2.2.2.2.2.2.2.2.1 (HN.out.2.2.2.2.2.1);simp [go_sem,a0,a1,a2]⟩ ?_
 refine wpMix_q (v:= .pointer (some ⟨gc,4,none⟩)) rfl rfl (fun _ _ _ h=>h) HSB.out ⟨rfl,fun _ _=>by simp [go_sem]⟩ ?_
 refine wpMix_q (v:= .int .i64 sn) rfl rfl (fun _ _ _ h=>h) HSB.out ⟨rfl,fun _ h'=>by have a0:=World.grownBy.cell h' HC.out.2.2.2.2.2.2.2.2.2.2.1 (HN.out.2.2.2.2.2.2.1);simp [go_sem,a0]⟩ ?_
 refine wpMix_q (v:= .int .i64 s1) rfl rfl (fun _ _ _ h=>h) HSB.out ⟨rfl,fun _ _=>by have w1:IntKind.i64.wrap (s1:Int)=s1:=IntWalk.i64_in _ (by omega);simp [go_sem,t1,w1]⟩ ?_
 simp only [List.getElem_toArray,List.getElem_cons_succ,List.getElem_cons_zero,Act.put,List.setIfInBounds_toArray,List.set_cons_succ,List.set_cons_zero]
 refine wpMix_q (v:= .int .i64 k) rfl rfl (fun _ _ _ h=>h) HSB.out ⟨rfl,fun _ h'=>by have a0:=World.grownBy.cell h' HC.out.2.2.2.2.2.2.2.2.2.2.2 (HN.out.2.2.2.2.2.2.2);simp [go_sem,a0]⟩ ?_
 refine wpMix_q (v:= .int .i64 s) rfl rfl (fun _ _ _ h=>h) HSB.out ⟨rfl,fun _ _=>by have w1:IntKind.i64.wrap (s:Int)=s:=IntWalk.i64_in _ (by omega);simp [go_sem,t2,w1]⟩ ?_
 simp only [List.getElem_toArray,List.getElem_cons_succ,List.getElem_cons_zero,Act.put,List.setIfInBounds_toArray,List.set_cons_succ,List.set_cons_zero]
 refine wpMix_n rfl rfl ?_
 go_wp2_with fail
 refine (HK.out.1 X.drew).mono ?_
 rintro e W1 ⟨rfl,hB1⟩
 have hg1:=HSB.out.trans (grown_bel9 hB1 (some gw))
 have hwW:=HX.out.2.2.2.2.1.below (undrew9 hB1) HX.out.2.2.2.2.1.lt
 have H1:=hide (And.intro hg1 (And.intro hwW (undrew9 hB1)))
 clear hg1 hwW hB1
 go_wp2_with fail
 refine ⟨fun _=>H1.out.1,?_⟩
 refine wpMix_n rfl rfl ?_
 go_wp2_with fail
 refine (HK.out.2 b W1 H1.out.2.1).mono ?_
 rintro e W2 ⟨rfl,hw2,hg2⟩
 have hdW:=(HX.out.2.2.2.1.below H1.out.2.2 HX.out.2.2.2.1.lt).grown hg2 HN.out.1
 have hoW:=(HX.out.2.2.2.2.2.below H1.out.2.2 (Nat.le_refl _)).kept hg2 (.inr (blk_own_ne9 H1.out.2.1 (HX.out.2.2.2.2.2.below H1.out.2.2 (Nat.le_refl _)) (by decide)).symm)
 have hrW:=(HX.out.2.1.below H1.out.2.2 HX.out.2.1.lt).grown hg2 (fun e=>HM.out.1 (Option.some.inj e))
 have hch:=((Chg2.refl w gw gd (Value.slice Ad i cd).ownBlock).bel HX.out.1).bel H1.out.2.2 |>.row hg2 (fun r e=>by cases e;exact .inl rfl)
 have hsz:=hg2.size
 have hsz1:=H1.out.2.2.size
 have H2:=hide (And.intro hw2 (And.intro hdW (And.intro hoW (And.intro hrW (And.intro hch (H1.out.1.trans hg2))))))
 clear hw2 hg2 hdW hoW hrW hch
 go_wp2_with fail
 refine ⟨fun _=>H2.out.2.2.2.2.2,?_⟩
 refine wpMix_n rfl rfl ?_
 go_wp2_with fail
 have hal:Below W2.heap.size W2 (W2.alloc (.cells #[.int .i64 V1, .int .i64 V2, .int .i64 V3] 43)):=(Below.refl _ W2).alloc (Nat.le_refl _) _
 have HA:=hide hal
 refine ⟨fun _=>H2.out.2.2.2.2.2.trans (grown_bel9 HA.out (some gw)),?_⟩
 have hbl:B≤(W2.alloc (.cells #[.int .i64 V1, .int .i64 V2, .int .i64 V3] 43)).heap.size:=by have:=hal.size;omega
 clear hal hsz hsz1 hBX2
 refine wpMix_tail _ [_,_] (by kernel_rfl) rfl ?_
 refine wpList_append1 rfl _ _ _ rfl Tryz.underlying28 infoP rfl (by omega) encP_len encP_one rfl (H2.out.2.2.1.below HA.out (Nat.le_refl _)) W2.heap.size 1 ((V1,V2,V3):Pt) rfl (Blk.new _ _ _) (by unfold maxLen;omega) (by omega) hbl ?_
 intro g6 cap6 w6 hown6 hg6 hB6 hat6 hgb6 hlt6
 have hoA:=H2.out.2.2.1.below HA.out (Nat.le_refl _)
 have hdA:=H2.out.2.1.below HA.out H2.out.2.1.lt
 have hwA:=H2.out.1.below HA.out H2.out.1.lt
 have hrA:=H2.out.2.2.2.1.below HA.out H2.out.2.2.2.1.lt
 have h61:=hdA.grown hg6 (blk_own_ne9 hdA hoA (by decide))
 have h62:=hwA.grown hg6 (blk_own_ne9 hwA hoA (by decide))
 have h63:=hrA.grown hg6 HRO.out.1
 have hg6r:g6≠gr:=by
  rcases hat6 with h | h
  ·have h1:=(HRO.out.2 g6 h).2;have h2:=HX.out.2.2.1;omega
  ·have h1:=hrA.lt;omega
 have hch:=(H2.out.2.2.2.2.1.bel HA.out).row hg6 (fun r e=> .inr (.inr (.inl e.symm)))
 have hat:g6≠gd:=by have:=HB.out.2.1;omega
 have hO6:∀r,(Value.slice (some ⟨g6,0,none⟩) (i+1) cap6).ownBlock=some r→(Value.slice Ad i cd).ownBlock=some r∨w.heap.size≤r:=fun r e=>by
  obtain rfl:g6=r:=Option.some.inj e
  rcases hat6 with h | h
  ·exact .inl h
  ·right;have h1:=HA.out.size;have h2:=H2.out.2.2.2.2.1.size;omega
 have H6:=hide (And.intro hown6 (And.intro h61 (And.intro h62 (And.intro h63 (And.intro hch (And.intro hO6 hg6r))))))
 have c6:w6.cell? ⟨gd,0,none⟩=some (.slice Ad i cd):=h61.cell 0
 have f6:=h61.frozen 0
 have hl6:=h61.lt
 clear hown6 hg6 hB6 hat6 hgb6 hlt6 hoA hdA hwA hrA h61 h62 h63 hch hat hO6 hg6r hbl
 go_upto_region 2 with fail
 obtain ⟨W7,hW7⟩:∃W,W=w6.setCell ⟨gd,0,none⟩ (.slice (some ⟨g6,0,none⟩) (i+1) cap6):=⟨_,rfl⟩
 rw [←hW7]
 have hg7:w6.grownBy W7 (some gd):=by rw [hW7];exact setW_grown gd [_] w6 0
 have hd7:Blk W7 gd 28 #[.slice (some ⟨g6,0,none⟩) (i+1) cap6]:=by rw [hW7];exact H6.out.2.1.set_ 0 _
 have hdw:gw≠gd:=fun e=>HN.out.1 (by rw [e])
 have hw7:=H6.out.2.2.1.grown hg7 (fun e=>hdw (Option.some.inj e))
 have hr7:=H6.out.2.2.2.1.grown hg7 (fun e=>HM.out.2.1 (Option.some.inj e))
 have ho7:=H6.out.1.kept hg7 (.inr (blk_own_ne9 H6.out.2.1 H6.out.1 (by decide)).symm)
 have hch7:=H6.out.2.2.2.2.1.row hg7 (fun r e=> .inr (.inl (Option.some.inj e).symm))
 have hb2:=hch7.blk HR.out.1.1 HR.out.1.2.1 HR.out.1.2.2.1 HR.out.1.2.2.2
 have hb3:=hch7.blk HR.out.2.1.1 HR.out.2.1.2.1 HR.out.2.1.2.2.1 HR.out.2.1.2.2.2
 have z2:W7.cell? ⟨gfi,0,none⟩=some (.slice (some ⟨bf,of,none⟩) fl cf):=hb2.cell 0
 have z3:W7.cell? ⟨gfs,0,none⟩=some (.int .i64 lp):=hb3.cell 0
 have l2:=hb2.lt
 have l3:=hb3.lt
 have hbw:=HR.out.2.2.2.2.2.1
 have l4:bf < W7.heap.size:=Nat.lt_of_lt_of_le hbw hch7.size
 have z7:=hch7.cell hbw HR.out.2.2.2.2.2.2.1 HR.out.2.2.2.2.2.2.2.1 HR.out.2.2.2.2.2.2.2.2 HR.out.2.2.1
 have z8:=hch7.cell hbw HR.out.2.2.2.2.2.2.1 HR.out.2.2.2.2.2.2.2.1 HR.out.2.2.2.2.2.2.2.2 HR.out.2.2.2.1
 have z9:=hch7.cell hbw HR.out.2.2.2.2.2.2.1 HR.out.2.2.2.2.2.2.2.1 HR.out.2.2.2.2.2.2.2.2 HR.out.2.2.2.2.1
 obtain ⟨r0,r1,r2⟩:=hr7.three
 have hrl:=hr7.lt
 have fr0:=hr7.frozen 0
 have fr1:=hr7.frozen 1
 have fr2:=hr7.frozen 2
 have H7:=hide (And.intro hd7 (And.intro hw7 (And.intro hr7 (And.intro ho7 hch7))))
 have hgwr:=HX.out.2.2.1
 have HG:=hide hgwr
 have w1:IntKind.i64.wrap (m:Int)=m:=IntWalk.i64_in _ (by omega)
 clear hW7 hg7 hd7 hdw hw7 hr7 ho7 hch7 hb2 hb3 hbw hgwr c6 f6 hl6
 go_wp2
 refine ret_at (v:=vP (f1,f2,f3)) (fun W=>Blk W gr 43 #[.int .i64 f1, .int .i64 f2, .int .i64 f3]) ?_ (fun W hW=> ?_) rfl ⟨rfl,⟨⟨_,_,?_,?_,H6.out.2.2.2.2.2.1⟩,?_,?_⟩⟩
 ·exact H7.out.2.2.1.set3 _ _ _
 ·obtain ⟨a0,a1,a2⟩:=hW.three
  simp [results,Tryz.results60,go_sem,a0,a1,a2]
  try trivial
 ·exact H7.out.1.far3 HM.out.2.1.symm _ _ _
 ·exact H7.out.2.2.2.1.kept (setW_grown gr [.int .i64 f1, .int .i64 f2, .int .i64 f3] W7 0) (.inr (fun e=>H6.out.2.2.2.2.2.2 (Option.some.inj e)))
 ·exact H7.out.2.1.far3 HM.out.1.symm _ _ _
 ·exact H7.out.2.2.2.2.row (setW_grown gr [.int .i64 f1, .int .i64 f2, .int .i64 f3] W7 0) (fun r e=> .inr (.inr (.inr (by rw [←Option.some.inj e];exact HG.out))))
end Go.Proofs.YtmemofonebphfaaGreat
namespace Go.Proofs.YtmemofonebphfaaGreat
open Go.RowKit
def RB9 (x y:World):Prop:=Below x.heap.size x y
theorem RB9.refl (x:World):RB9 x x:=Below.refl _ x
theorem RB9.trans (x y z:World) (h:RB9 x y) (k:RB9 y z):RB9 x z:=Below.trans h (Below.mono k h.size)
structure LastI (R0:World) (n p:Nat) (Φ:Nat→Value→World→Prop) (Fin:Value→World→Prop) (L:Nat→Bool) (vals:Nat→Value) (W:World):Prop where
 ord:L n=true→∀j,j < n→L j=true
 pre:L n=false→RB9 R0 W∧∀j,j < n→L j=true→Φ j (vals j) W
 fin:L n=true→Fin (vals p) W
section
variable {R0 W W':World} {n p:Nat} {Φ:Nat→Value→World→Prop} {Fin:Value→World→Prop} {L:Nat→Bool} {vals:Nat→Value}
theorem LastI.start:LastI R0 n p Φ Fin (fun _=>false) (fun _=>undef) R0:=
 ⟨fun h=>(by cases h),fun _=>⟨RB9.refl _,fun _ _ h=>(by cases h)⟩,fun h=>(by cases h)⟩
theorem LastI.early (h:LastI R0 n p Φ Fin L vals W) {i:Nat} (hi:i < n) (hl:L i=false):L n=false:=by
 cases hn:L n with
 | false=>rfl
 | true=>have:=h.ord hn i hi;rw [hl] at this;cases this
theorem LastI.step (hΦ:∀i v w w',Φ i v w→RB9 w w'→Φ i v w') (h:LastI R0 n p Φ Fin L vals W) {i:Nat} (hi:i < n) (hl:L i=false) {u v:Value} (e:u=v) (hB:RB9 W W') (hv:Φ i v W'):LastI R0 n p Φ Fin (also L i) (withV vals i u) W':=by
 subst e
 have hn:=h.early hi hl
 have hne:n≠i:=by omega
 have hn':also L i n=false:=by unfold also;rw [if_neg hne];exact hn
 obtain ⟨h1,h2⟩:=h.pre hn
 refine ⟨fun h=>(by rw [hn'] at h;cases h),fun _=>⟨RB9.trans _ _ _ h1 hB,fun j hj hlj=> ?_⟩,fun h=>(by rw [hn'] at h;cases h)⟩
 unfold withV
 by_cases e:j=i
 ·subst e;rw [if_pos rfl];exact hv
 ·rw [if_neg e]
  unfold also at hlj
  rw [if_neg e] at hlj
  exact hΦ _ _ _ _ (h2 j hj hlj) hB
theorem LastI.last (hall:∀j,j < n→L j=true) (hp:p < n) {u:Value} (hf:Fin (vals p) W'):LastI R0 n p Φ Fin (also L n) (withV vals n u) W':=by
 have hn':also L n n=true:=by unfold also;rw [if_pos rfl]
 refine ⟨fun _ j hj=> ?_,fun h=>(by rw [hn'] at h;cases h),fun _=> ?_⟩
 ·unfold also;rw [if_neg (by omega)];exact hall j hj
 ·unfold withV;rw [if_neg (by omega)];exact hf
end
end Go.Proofs.YtmemofonebphfaaGreat
namespace Go.Proofs.YtmemofonebphfaaGreat
open Go.RowKit Go.Sort Go.WideMaps Go.Maps Go.Shelf
theorem blk_rowT {W:World} {r:Nat} {t u:TypeId} {cs:Array Value} (hb:Blk W r t cs) (hu:u≠t) (b:Nat):∀q,(some r:Option Nat)=some q→q < b∨∀cs,W.heap[q]? ≠some (.cells cs u (0,0)):=fun q e=>by
 cases e
 refine .inr fun cs hc=> ?_
 have hb:W.heap[r]? =some (.cells _ _ (0,0)):=hb
 rw [hb] at hc
 cases hc
 exact hu rfl
section
variable {w W W':World} {B g r:Nat} {vp vt vc vo vd:Value} {c:Ctl} {t:TypeId} {cs:Array Value}
theorem CtE.off (h:CtE w W g vp vt vc vo vd c) (hb:Blk W r t cs) (hg:W.grownBy W' (some r)) (hr:w.heap.size≤r) (h1:32≠t) (h2:43≠t) (h3:35≠t) (h4:56≠t) (h5:3≠t) (h6:28≠t):CtE w W' g vp vt vc vo vd c:=
 ⟨h.bel.trans (grown_bel hg hr h.bel.size),h.b.grown hg (fun e=>blk_ne9 h.b hb h1 (Option.some.inj e)),h.le,h.p.step hg (blk_rowT hb h2 _),h.t.step hg (blk_rowT hb h3 _),h.cr.step hg (blk_rowT hb h4 _),h.o.step hg (blk_rowT hb h5 _),h.d.turn hg (fun u e=>blk_rowT hb (by rcases e with rfl | rfl <;>assumption) _)⟩
theorem CtO.off (h:CtO w W B g vp vt vc vo vd c) (hb:Blk W r t cs) (hg:W.grownBy W' (some r)) (hr:w.heap.size≤r) (h1:32≠t) (h2:43≠t) (h3:35≠t) (h4:56≠t) (h5:3≠t) (h6:28≠t):CtO w W' B g vp vt vc vo vd c:=
 ⟨h.e.off hb hg hr h1 h2 h3 h4 h5 h6,⟨h.lb.1,Nat.le_trans h.lb.2 hg.size⟩,h.lp,h.d.turn hg (fun u e=>blk_rowT hb (by rcases e with rfl | rfl <;>assumption) _)⟩
theorem CtO.chg {gw gl:Nat} {cs ds:Array Value} (h:CtO w W B g vp vt vc vo vd c) (hc:Chg2 W W' gw gl none) (h1:Blk W gw 4 cs) (h2:Blk W gl 90 ds) (hw:w.heap.size≤gw) (hl:w.heap.size≤gl):CtO w W' B g vp vt vc vo vd c:=by
 have g1:=putO_grown hc.size gw
 have s1:(putO W W' gw).heap.size≤W'.heap.size:=by rw [putO_size];exact hc.size
 have k1:=h.off h1 g1 hw (by decide) (by decide) (by decide) (by decide) (by decide) (by decide)
 have hb2:=h2.grown g1 (fun e=>blk_ne9 h2 h1 (by decide) (Option.some.inj e))
 exact (k1.off hb2 (putO_grown s1 gl) hl (by decide) (by decide) (by decide) (by decide) (by decide) (by decide)).below (putO2_bel hc)
theorem CtE.set_p {P Q T:List Pt} {C:List E2} {O:List Int} {st:Int} (h:CtE w W g vp vt vc vo (.slice none 0 0) ⟨P,T,C,O,st, []⟩) (hg:W.grownBy W' vp.ownBlock) (ho:Own encP 3 43 W' w.heap.size vp Q.length Q):CtE w W' g vp vt vc vo (.slice none 0 0) ⟨Q,T,C,O,st, []⟩:=by
 obtain ⟨b1,b2⟩:=h.row h.p (Nat.le_refl _) (by decide) hg
 exact ⟨b1,b2,h.le,ho,h.t.step hg (own_rowT h.p (show (43:TypeId)≠35 by decide)),h.cr.step hg (own_rowT h.p (show (43:TypeId)≠56 by decide)),h.o.step hg (own_rowT h.p (show (43:TypeId)≠3 by decide)),Pcs.nil⟩
theorem CtE.ctlM {Ap At Ac Ao Ad:Option Addr} {n1 n2 n3 n4 n5 c1 c2 c3 c4 c5:Nat} (h:CtE w W g (.slice Ap n1 c1) (.slice At n2 c2) (.slice Ac n3 c3) (.slice Ao n4 c4) (.slice Ad n5 c5) c):CtlM W W.heap.size Ap At Ac Ao Ad c:=by
 have h1:=h.p
 have h2:=h.t
 have h3:=h.cr
 have h4:=h.o
 refine ⟨?_,?_,?_,?_,?_⟩
 ·have e1:n1=c.points.length:=by obtain ⟨A,k,e⟩:=h1.form;injection e
  subst e1;exact h1.sl encP_len (Nat.le_refl _)
 ·have e1:n2=c.tris.length:=by obtain ⟨A,k,e⟩:=h2.form;injection e
  subst e1;exact h2.sl encN3_len (Nat.le_refl _)
 ·have e1:n3=c.creases.length:=by obtain ⟨A,k,e⟩:=h3.form;injection e
  subst e1;exact h3.sl encE2_len (Nat.le_refl _)
 ·have e1:n4=c.corners.length:=by obtain ⟨A,k,e⟩:=h4.form;injection e
  subst e1;exact h4.sl encZ9_len (Nat.le_refl _)
 ·exact h.d.sl (Nat.le_refl _)
end
theorem LvlM.off {w W:World} {b0 g b:Nat} {Ap:Option Addr} {cp:Nat} {At:Option Addr} {ct mc mo:Nat} {a4:Option Nat} {Ae:Option Addr} {ne ce:Nat} {a6 a7:Option Nat} {L:Lev} {co:List Int} (h:LvlM w b0 g Ap cp At ct mc mo a4 Ae ne ce a6 a7 L co) (ht:Own encN3 3 35 w b (.slice At L.t.length ct) L.t.length L.t)
  {row:Option Nat} (hg:w.grownBy W row) (hr:∀r,row=some r→∃(t:TypeId) (cs:Array Value),Blk w r t cs∧90≠t∧43≠t∧35≠t):LvlM W b0 g Ap cp At ct mc mo a4 Ae ne ce a6 a7 L co∧Own encN3 3 35 W b (.slice At L.t.length ct) L.t.length L.t:=by
 cases row with
 | none=>
  have hB:Below w.heap.size w W:=⟨hg.os,hg.tape,hg.output,hg.size,fun k hk=>hg.block k hk (by simp)⟩
  exact ⟨h.below hB,ht.below hB (Nat.le_refl _)⟩
 | some r=>
  obtain ⟨t,cs,hb,h1,h2,h3⟩:=hr r rfl
  have hp:=h.p.kept hg (.inr (blk_own_ne9 hb h.p h2).symm)
  have hT:=ht.kept hg (.inr (blk_own_ne9 hb ht h3).symm)
  obtain ⟨n1,m1⟩:=h.cr
  obtain ⟨n2,m2⟩:=h.co
  exact ⟨⟨h.bx.grown hg (fun e=>blk_ne9 h.bx hb h1 (Option.some.inj e)),hp,hT.sl encN3_len (Nat.le_refl _),⟨n1,m1.box hb hg⟩,⟨n2,m2.box hb hg⟩⟩,hT⟩
structure InvA (Y:World) (g gd gw:Nat) (c:Ctl) (fine:List Pt) (k:Nat) (B i:Nat) (P:Option Nat) (W:World):Prop where
 os:W.os=Y.os
 tape:W.tape=Y.tape
 output:W.output=Y.output
 size:Y.heap.size≤W.heap.size
 block:∀k,k < Y.heap.size→k≠g→k≠gd→k≠gw→W.heap[k]? =Y.heap[k]?
 yB:Y.heap.size≤B
 own:∃A cp,Blk W gd 28 #[.slice A i cp]∧Own encP 3 43 W B (.slice A i cp) i ((anaDet c fine k).take i)∧∀r,(Value.slice A i cp).ownBlock=some r→some r≠P
 flag:Blk W gw 4 #[.bool (wholeK c fine k i)]
 lt:∀r,P=some r→r < W.heap.size
theorem own_cells9 {α:Type} {enc:α→List Value} {k:Nat} {e:TypeId} {w:World} {b n r:Nat} {v:Value} {xs:List α} (h:Own enc k e w b v n xs) (hv:v.ownBlock=some r) (hn:∀cs,w.heap[r]? ≠some (.cells cs e (0,0))):False:=by
 obtain ⟨cs,hc⟩:=h.cells r hv
 exact hn cs hc
theorem stbA {Y:World} {g gd gw B:Nat} {c:Ctl} {fine:List Pt} {k:Nat} (hB:Y.heap.size≤B) (hgY:g < Y.heap.size) (hdY:gd < Y.heap.size) (hwY:gw < Y.heap.size) (h1:gd≠g) (h2:gw≠g):StbI g B (InvA Y g gd gw c fine k B) where
 st:=fun {i P W W' row} h hg hr=>by
  have hne:∀x,x < Y.heap.size→x≠g→some x≠row:=fun x hx hxg e=>by
   rcases hr x e.symm with h3 | h3
   ·exact hxg h3
   ·omega
  refine ⟨hg.os.trans h.os,hg.tape.trans h.tape,hg.output.trans h.output,Nat.le_trans h.size hg.size,fun x hx n1 n2 n3=>(hg.block x (Nat.lt_of_lt_of_le hx h.size) (hne x hx n1)).trans (h.block x hx n1 n2 n3),h.yB,?_,h.flag.grown hg (hne gw hwY h2),fun r e=>Nat.lt_of_lt_of_le (h.lt r e) hg.size⟩
  obtain ⟨A,cp,hb,ho,hP⟩:=h.own
  refine ⟨A,cp,hb.grown hg (hne gd hdY h1),ho.kept hg ?_,hP⟩
  cases hv:(Value.slice A i cp).ownBlock with
  | none=>exact .inl rfl
  | some q=>
   refine .inr fun e=> ?_
   have hq:=(ho.blk q hv).1
   rcases hr q e.symm with h3 | h3
   ·omega
   ·rcases h3.2 with h4 | h4
    ·exact hP q hv h4
    ·exact own_cells9 ho hv h4
 sw:=fun {i P W W' r} h hg hP hr hlt=>by
  have hne:∀x,x < Y.heap.size→some x≠P:=fun x hx e=>by have:=hP x e.symm;omega
  refine ⟨hg.os.trans h.os,hg.tape.trans h.tape,hg.output.trans h.output,Nat.le_trans h.size hg.size,fun x hx n1 n2 n3=>(hg.block x (Nat.lt_of_lt_of_le hx h.size) (hne x hx)).trans (h.block x hx n1 n2 n3),h.yB,?_,h.flag.grown hg (hne gw hwY),fun q e=>by cases e;exact hlt⟩
  obtain ⟨A,cp,hb,ho,hP2⟩:=h.own
  refine ⟨A,cp,hb.grown hg (hne gd hdY),ho.kept hg ?_,fun q hq e=> ?_⟩
  ·cases hv:(Value.slice A i cp).ownBlock with
   | none=>exact .inl rfl
   | some q=>exact .inr (hP2 q hv)
  ·have:=(ho.blk q hq).2
   have e:=Option.some.inj e
   omega
theorem madeA {w0 Y:World} {g gd gw gf gfi gfs gc gk:Nat} {Af Ap At Ac Ao Ah:Option Addr} {fl cf lp np cp nt ct nc cc no oc sn nd dc k:Nat} {c:Ctl} {fine:List Pt}
  (hwY:Below w0.heap.size w0 Y) (hf:Blk Y gf 106 #[.func (.func 58) #[] #[.pointer (some ⟨gw,0,none⟩)]]) (hfi:Blk Y gfi 28 #[.slice Af fl cf]) (hfl:fl=fine.length) (hsl:Sl encP 3 w0 w0.heap.size Af fine)
  (hfs:Blk Y gfs 3 #[.int .i64 lp]) (hc:Blk Y gc 32 (cCtl Ap np cp At nt ct Ac nc cc Ao no oc sn Ah nd dc)) (hk:Blk Y gk 3 #[.int .i64 k]) (hgl:∃cs,Blk Y g 90 cs) (hgd:∃cs,Blk Y gd 28 cs) (hgw:∃cs,Blk Y gw 4 cs)
  (hid:gfi≠gd) (hwg:w0.heap.size≤gw) (hdg:w0.heap.size≤gd) (hgg:w0.heap.size≤g) (hff:∀p∈fine,fitsP p) (hks:k < sn) (hs4:sn≤4) (hsn:c.steps.toNat=sn) (hfb:fl≤100000000) {ne:Nat} (hlp:(anaLev c fine k).p.length=lp) (hin:lp+ne≤fl) (hne:ne≤900000):
  MadeF 60 #[.pointer (some ⟨gd,0,none⟩), .pointer (some ⟨gf,0,none⟩), .pointer (some ⟨gfi,0,none⟩), .pointer (some ⟨gfs,0,none⟩), .pointer (some ⟨gc,0,none⟩), .pointer (some ⟨gk,0,none⟩)] ne ((anaLev c fine k).rules c.corners) (fun i _=>fine.getD (lp+i) (0,0,0)) (InvA Y g gd gw c fine k):=by
 intro B i P W q hi hq hI hBW hP
 obtain ⟨cl,hgl⟩:=hgl
 obtain ⟨cd0,hgd⟩:=hgd
 obtain ⟨cw,hgw⟩:=hgw
 have hby:∀{x:Nat} {t:TypeId} {cs:Array Value},Blk Y x t cs→x≠g→x≠gd→x≠gw→Blk W x t cs:=fun hb n1 n2 n3=>(hI.block _ hb.lt n1 n2 n3).trans hb
 obtain ⟨f,hx⟩:∃f,fine[lp+i]? =some f:=⟨_,List.getElem?_eq_getElem (by omega)⟩
 have hgt:fine.getD (lp+i) (0,0,0)=f:=by rw [List.getD_eq_getElem?_getD,hx];rfl
 have hslW:Sl encP 3 W w0.heap.size Af fine:=(hsl.below hwY).below ⟨hI.os,hI.tape,hI.output,hI.size,fun x hx=>hI.block x (Nat.lt_of_lt_of_le hx hwY.size) (by omega) (by omega) (by omega)⟩
 have hyB:=hI.yB
 obtain ⟨Ad,cd,hb,ho,hPo⟩:=hI.own
 have hda:=dif_at hq (by rw [hlp];exact hx)
 have hdd:=det_at hda
 rw [hsn] at hdd
 have hwk:=wholeK_succ hda
 rw [hsn] at hwk
 have key:=ana2_any i q f gd gf gfi gfs gc gk gw Ad Af Ap At Ac Ao Ah cd fl cf lp np cp nt ct nc cc no oc sn nd dc k w0.heap.size B (wholeK c fine k i) fine ((anaDet c fine k).take i) W hb ho
  (hby hf (blk_ne9 hf hgl (by decide)) (blk_ne9 hf hgd (by decide)) (blk_ne9 hf hgw (by decide))) (hby hfi (blk_ne9 hfi hgl (by decide)) hid (blk_ne9 hfi hgw (by decide))) hfl hslW
  (hby hfs (blk_ne9 hfs hgl (by decide)) (blk_ne9 hfs hgd (by decide)) (blk_ne9 hfs hgw (by decide))) (hby hc (blk_ne9 hc hgl (by decide)) (blk_ne9 hc hgd (by decide)) (blk_ne9 hc hgw (by decide))) (hby hk (blk_ne9 hk hgl (by decide)) (blk_ne9 hk hgd (by decide)) (blk_ne9 hk hgw (by decide))) hI.flag
  hx (hff f (List.mem_of_getElem? hx)) hks hs4 hfb (by omega) hBW hwg hid (Nat.lt_of_lt_of_le hgd.lt hyB) (Nat.lt_of_lt_of_le hgw.lt hyB) hdg (Nat.le_trans hwY.size hyB)
 refine key.mono ?_
 rintro e W' ⟨rfl,hR⟩
 obtain ⟨A',c',hb',ho',hO'⟩:=hR.own
 have hch:=hR.chg
 refine ⟨by show Ending.returned (vP f)=Ending.returned (vP (fine.getD (lp+i) (0,0,0)));rw [hgt],⟨hch.os.trans hI.os,hch.tape.trans hI.tape,hch.output.trans hI.output,Nat.le_trans hI.size hch.size,fun x hx n1 n2 n3=>(hch.block x (Nat.lt_of_lt_of_le hx hI.size) n3 n2 (fun e=> ?_)).trans (hI.block x hx n1 n2 n3),hyB,⟨A',c',hb',?_,fun r hr e=> ?_⟩,?_,fun r e=>Nat.lt_of_lt_of_le (hI.lt r e) hch.size⟩,?_⟩
 ·have:=(ho.blk x e.symm).1
  omega
 ·rw [take_at hdd]
  exact ho'
 ·rcases hO' r hr with h | h
  ·exact hPo r h e
  ·have:=hI.lt r e.symm
   omega
 ·rw [hwk]
  exact hR.flag
 ·exact kpt_chg hch hI.flag (bool_noint _) hb (slice_noint _ _ _) (fun r hr=>⟨(ho.blk r hr).1,hPo r hr⟩)
def ptsC (c:Ctl) (fine:List Pt) (i:Nat):Ctl:={c with points:=(anaPts c fine).take i++List.replicate (c.points.length - i) (0,0,0),details:= []}
def outC (c:Ctl) (fine:List Pt) (k:Nat):Ctl:={c with points:=anaPts c fine,details:=(List.range k).map (anaDet c fine)}
theorem ptsC_zero (c:Ctl) (fine:List Pt):ptsC c fine 0=anaZ c:=by unfold ptsC anaZ;simp
theorem ptsC_end {c:Ctl} {fine:List Pt} (h:(anaPts c fine).length=c.points.length):ptsC c fine c.points.length=outC c fine 0:=by
 unfold ptsC outC
 rw [List.take_of_length_le (by omega),Nat.sub_self]
 simp
theorem ptsC_len {c:Ctl} {fine:List Pt} {i:Nat} (h:(anaPts c fine).length=c.points.length) (hi:i≤c.points.length):(ptsC c fine i).points.length=c.points.length:=by
 show ((anaPts c fine).take i++List.replicate (c.points.length - i) (0,0,0)).length=_
 rw [List.length_append,List.length_take,List.length_replicate]
 omega
theorem ptsC_set {c:Ctl} {fine:List Pt} {i:Nat} {x:Pt} (h:(anaPts c fine).length=c.points.length) (hi:i < c.points.length) (hx:(anaPts c fine)[i]? =some x):(ptsC c fine i).points.set i x=(ptsC c fine (i+1)).points:=by
 show ((anaPts c fine).take i++List.replicate (c.points.length - i) (0,0,0)).set i x=(anaPts c fine).take (i+1)++List.replicate (c.points.length - (i+1)) (0,0,0)
 have hl:((anaPts c fine).take i).length=i:=by rw [List.length_take];omega
 rw [take_at hx,List.set_append_right _ _ (by omega),hl,Nat.sub_self,show c.points.length - i=c.points.length - (i+1)+1 by omega,List.replicate_succ,List.set_cons_zero,List.append_assoc]
 rfl
theorem outC_end (c:Ctl) (fine:List Pt):outC c fine c.steps.toNat=anaOut c fine:=rfl
theorem outC_next (c:Ctl) (fine:List Pt) (k:Nat):outC c fine (k+1)={outC c fine k with details:=(outC c fine k).details++ [anaDet c fine k]}:=by
 unfold outC
 rw [List.range_succ,List.map_append]
 rfl
theorem outC_dl (c:Ctl) (fine:List Pt) (k:Nat):(outC c fine k).details.length=k:=by unfold outC;simp
theorem anaE_z {c:Ctl} {fine:List Pt} (h:errC (anaZ c)≠0):anaE c fine=errC (anaZ c):=by unfold anaE;rw [if_pos h]
theorem anaE_n {c:Ctl} {fine:List Pt} (h:errC (anaZ c)=0) (hn:fine.length≠(anaMany c c.steps.toNat).1):anaE c fine=1:=by unfold anaE;rw [if_neg (by rw [h];simp),if_pos hn]
theorem anaE_w {c:Ctl} {fine:List Pt} (h:errC (anaZ c)=0) (hn:fine.length=(anaMany c c.steps.toNat).1) (hw:anaWhole c fine=false):anaE c fine=13:=by unfold anaE;rw [if_neg (by rw [h];simp),if_neg (fun h=>h hn),if_pos hw]
theorem anaE_o {c:Ctl} {fine:List Pt} (h:errC (anaZ c)=0) (hn:fine.length=(anaMany c c.steps.toNat).1) (hw:anaWhole c fine=true):anaE c fine=errC (anaOut c fine):=by unfold anaE;rw [if_neg (by rw [h];simp),if_neg (fun h=>h hn),if_neg (by rw [hw];simp)]
theorem anaR_none {c:Ctl} {fine:List Pt} (h:anaE c fine≠0):anaR c fine=noneC:=by unfold anaR;rw [if_neg h]
theorem anaR_out {c:Ctl} {fine:List Pt} (h:anaE c fine=0):anaR c fine=anaOut c fine:=by unfold anaR;rw [if_pos h]
theorem cpyr_none {w w':World} (hB:Below w.heap.size w w'):CpyR w w' noneC (.returned (vCtl none 0 0 none 0 0 none 0 0 none 0 0 0 none 0 0)):=
 ⟨w'.heap.size,none,none,none,none,none,0,0,0,0,0,rfl,Own.nil,Own.nil,Own.nil,Own.nil,Pcs.nil,⟨hB.size,Nat.le_refl _,fun r e=>by cases e⟩,hB⟩
def AnaA (w w':World) (E:Int) (R:Ctl) (e:Ending):Prop:=∃v,e= .returned (.tuple #[v, .int .i64 E])∧CpyR w w' R (.returned v)
def anaPhi (X0:World) (g1:Nat) (Ap At Ac Ao:Option Addr) (np cp nt ct nc cc no oc:Nat) (st:Int) (c:Ctl) (i:Nat) (v:Value) (W:World):Prop:=
 match i with
 | 0=>v= .pointer (some ⟨g1,0,none⟩)
 | 1=>v= .slice Ap np cp
 | 2=>v= .int .i64 np
 | 3=>∃A k,v= .slice A np k∧Own encP 3 43 W X0.heap.size (.slice A np k) np (List.replicate np (0,0,0))
 | 4=>v= .pointer (some ⟨g1,1,none⟩)
 | 5=>v= .slice At nt ct
 | 6=>∃A k,v= .slice A nt k∧Own encN3 3 35 W X0.heap.size (.slice A nt k) nt c.tris
 | 7=>v= .pointer (some ⟨g1,2,none⟩)
 | 8=>v= .slice Ac nc cc
 | 9=>∃A k,v= .slice A nc k∧Own encE2 2 56 W X0.heap.size (.slice A nc k) nc c.creases
 | 10=>v= .pointer (some ⟨g1,3,none⟩)
 | 11=>v= .slice Ao no oc
 | 12=>∃A k,v= .slice A no k∧Own encZ9 1 3 W X0.heap.size (.slice A no k) no c.corners
 | 13=>v= .pointer (some ⟨g1,4,none⟩)
 | 14=>v= .int .i64 st
 | 15=>∃B0 b0 B1 b1 B2 b2 B3 b3,v= .agg (cMad (.slice B0 np b0) (.slice B1 nt b1) (.slice B2 nc b2) (.slice B3 no b3) st (.slice none 0 0))∧Own encP 3 43 W X0.heap.size (.slice B0 np b0) np (List.replicate np (0,0,0))∧
  Own encN3 3 35 W X0.heap.size (.slice B1 nt b1) nt c.tris∧Own encE2 2 56 W X0.heap.size (.slice B2 nc b2) nc c.creases∧Own encZ9 1 3 W X0.heap.size (.slice B3 no b3) no c.corners
 | 16=>∃g,v= .pointer (some ⟨g,0,none⟩)∧X0.heap.size≤g∧Blk W g 32 (cCtl none 0 0 none 0 0 none 0 0 none 0 0 0 none 0 0)
 | _=>True
theorem anaPhi_keeps {X0:World} {g1:Nat} {Ap At Ac Ao:Option Addr} {np cp nt ct nc cc no oc:Nat} {st:Int} {c:Ctl} (i:Nat) (v:Value) (w w':World) (h:anaPhi X0 g1 Ap At Ac Ao np cp nt ct nc cc no oc st c i v w) (hB:RB9 w w'):anaPhi X0 g1 Ap At Ac Ao np cp nt ct nc cc no oc st c i v w':=by
 have hB:Below w.heap.size w w':=hB
 match i,h with
 | 0,h=>exact h
 | 1,h=>exact h
 | 2,h=>exact h
 | 3,h=>obtain ⟨A,k,e,ho⟩:=h;exact ⟨A,k,e,ho.below hB (Nat.le_refl _)⟩
 | 4,h=>exact h
 | 5,h=>exact h
 | 6,h=>obtain ⟨A,k,e,ho⟩:=h;exact ⟨A,k,e,ho.below hB (Nat.le_refl _)⟩
 | 7,h=>exact h
 | 8,h=>exact h
 | 9,h=>obtain ⟨A,k,e,ho⟩:=h;exact ⟨A,k,e,ho.below hB (Nat.le_refl _)⟩
 | 10,h=>exact h
 | 11,h=>exact h
 | 12,h=>obtain ⟨A,k,e,ho⟩:=h;exact ⟨A,k,e,ho.below hB (Nat.le_refl _)⟩
 | 13,h=>exact h
 | 14,h=>exact h
 | 15,h=>obtain ⟨B0,b0,B1,b1,B2,b2,B3,b3,e,h0,h1,h2,h3⟩:=h;exact ⟨B0,b0,B1,b1,B2,b2,B3,b3,e,h0.below hB (Nat.le_refl _),h1.below hB (Nat.le_refl _),h2.below hB (Nat.le_refl _),h3.below hB (Nat.le_refl _)⟩
 | 16,h=>obtain ⟨g,e,hg,hb⟩:=h;exact ⟨g,e,hg,hb.below hB hb.lt⟩
 | n+17,_=>exact trivial
def anaFin (X0:World) (np nt nc no:Nat) (c:Ctl) (v:Value) (W:World):Prop:=
 ∃g B0 b0 B1 b1 B2 b2 B3 b3,v= .pointer (some ⟨g,0,none⟩)∧CtE X0 W g (.slice B0 np b0) (.slice B1 nt b1) (.slice B2 nc b2) (.slice B3 no b3) (.slice none 0 0) (anaZ c)
theorem anaFin_of {X0 W:World} {np nt nc no g b0 b1 b2 b3:Nat} {B0 B1 B2 B3:Option Addr} {c:Ctl} {st:Int} (hB:Below X0.heap.size X0 W) (hnp:np=c.points.length) (hnt:nt=c.tris.length) (hnc:nc=c.creases.length) (hno:no=c.corners.length) (hst:st=c.steps) (hg:X0.heap.size≤g) (hb:Blk W g 32 (cCtl none 0 0 none 0 0 none 0 0 none 0 0 0 none 0 0))
  (h0:Own encP 3 43 W X0.heap.size (.slice B0 np b0) np (List.replicate np (0,0,0))) (h1:Own encN3 3 35 W X0.heap.size (.slice B1 nt b1) nt c.tris) (h2:Own encE2 2 56 W X0.heap.size (.slice B2 nc b2) nc c.creases) (h3:Own encZ9 1 3 W X0.heap.size (.slice B3 no b3) no c.corners):
  CtE X0 ((((((W.setCell ⟨g,0,none⟩ (.slice B0 np b0)).setCell ⟨g,1,none⟩ (.slice B1 nt b1)).setCell ⟨g,2,none⟩ (.slice B2 nc b2)).setCell ⟨g,3,none⟩ (.slice B3 no b3)).setCell ⟨g,4,none⟩ (.int .i64 st)).setCell ⟨g,5,none⟩ (.slice none 0 0)) g (.slice B0 np b0) (.slice B1 nt b1) (.slice B2 nc b2) (.slice B3 no b3) (.slice none 0 0) (anaZ c):=by
 subst hnp hnt hnc hno hst
 have hgr:=setW_grown g [.slice B0 c.points.length b0, .slice B1 c.tris.length b1, .slice B2 c.creases.length b2, .slice B3 c.corners.length b3, .int .i64 c.steps, .slice none 0 0] W 0
 have hl:(anaZ c).points.length=c.points.length:=by simp [anaZ]
 refine ⟨hB.trans (grown_bel hgr hg hB.size),?_,hg,?_,h1.step hgr (ctl_row hb (by decide) _),h2.step hgr (ctl_row hb (by decide) _),h3.step hgr (ctl_row hb (by decide) _),Pcs.nil⟩
 ·have h6:=(((((hb.set_ 0 (.slice B0 c.points.length b0)).set_ 1 (.slice B1 c.tris.length b1)).set_ 2 (.slice B2 c.creases.length b2)).set_ 3 (.slice B3 c.corners.length b3)).set_ 4 (.int .i64 c.steps)).set_ 5 (.slice none 0 0)
  exact h6
 ·rw [hl]
  exact h0.step hgr (ctl_row hb (by decide) _)
end Go.Proofs.YtmemofonebphfaaGreat
