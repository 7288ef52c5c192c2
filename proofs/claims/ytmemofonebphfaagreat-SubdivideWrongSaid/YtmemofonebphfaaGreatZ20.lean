import Derived.Test.YtmemofonebphfaaGreatZ1
import Derived.Test.YtmemofonebphfaaGreatZ11
import Derived.Test.YtmemofonebphfaaGreatZ12
import Derived.Test.YtmemofonebphfaaGreatZ18
namespace Go.Proofs.YtmemofonebphfaaGreat
open Go.RowKit
theorem zPN {s t:Tri} (h:s.1≠t.1):ltT s t=ltP s.1 t.1:=by simp [ltT,lexB,h]
theorem zPE {s t:Tri} (h0:s.1=t.1) (h:s.2.1≠t.2.1):ltT s t=ltP s.2.1 t.2.1:=by simp [ltT,lexB,h0,h,fJ.irrefl]
theorem zOC {s t:Tri} (h0:s.1=t.1) (h1:s.2.1=t.2.1):ltT s t=ltP s.2.2 t.2.2:=by simp [ltT,lexB,h0,h1,fJ.irrefl]
set_option maxRecDepth 100000 in
set_option maxHeartbeats 4000000 in
theorem zAE (s t:Tri) (hfs:fitsT s) (hft:fitsT t) (w:World):Calls Tryz.prog 117 #[vT s,vT t] w fun e w'=>e= .returned (.bool (ltT s t))∧Below w.heap.size w w':=by
 go_enter Tryz.func117,Tryz.ntmps117
 go_wp2
 obtain ⟨W,hW⟩:=ex9 ((w.alloc (.cells (encT s).toArray 46)).alloc (.cells (encT t).toArray 46))
 have hbs:Blk W w.heap.size 46 (encT s).toArray:=by rw [hW];exact (Blk.new _ _ _).alloc _
 have hbt:Blk W (w.heap.size+1) 46 (encT t).toArray:=by rw [hW];exact Blk.new' _ _ _ _ (by simp)
 have hB:Below w.heap.size w W:=by rw [hW];exact ((Below.refl _ _).alloc lr9 _).alloc (by simp) _
 have H:=hide (ai9 hbs (ai9 hbt (ai9 hB (ai9 hfs hft))))
 clear hW hbs hbt hB hfs hft
 go_loopw [5] (fun i wr=>∃j:Nat,j≤3∧i= .int .i64 j∧Blk wr w.heap.size 46 (encT s).toArray∧Blk wr (w.heap.size+1) 46 (encT t).toArray∧Below w.heap.size w wr∧(0 < j→s.1=t.1)∧(1 < j→s.2.1=t.2.1)∧(2 < j→s.2.2=t.2.2)) (fun i _=>3 - (intOf i).toNat)
 case atStart=>exact ⟨0,by omega,rfl,(Blk.new _ _ _).alloc _,Blk.new' _ _ _ _ (by simp),((Below.refl _ _).alloc lr9 _).alloc (by simp) _,by omega,by omega,by omega⟩
 case round=>
  obtain ⟨j,hj,rfl,hbs,hbt,hB,e0,e1,e2⟩:=hrel
  have hc:j=0∨j=1∨j=2∨j=3:=by omega
  rcases hc with rfl | rfl | rfl | rfl
  ·have hq:=eqP s.1 t.1 H.o.2.2.2.1.1 H.o.2.2.2.2.1
   have q0:wr.cell? ⟨w.heap.size,0,none⟩=some (.int .i64 s.1.1):=hbs.cell 0
   have q1:wr.cell? ⟨w.heap.size,1,none⟩=some (.int .i64 s.1.2.1):=hbs.cell 1
   have q2:wr.cell? ⟨w.heap.size,2,none⟩=some (.int .i64 s.1.2.2):=hbs.cell 2
   have k0:wr.cell? ⟨w.heap.size+1,0,none⟩=some (.int .i64 t.1.1):=hbt.cell 0
   have k1:wr.cell? ⟨w.heap.size+1,1,none⟩=some (.int .i64 t.1.2.1):=hbt.cell 1
   have k2:wr.cell? ⟨w.heap.size+1,2,none⟩=some (.int .i64 t.1.2.2):=hbt.cell 2
   have HH:=hide (ai9 hbs (ai9 hbt (ai9 hB (ai9 e0 (ai9 e1 e2)))))
   clear hbs hbt hB e0 e1 e2
   by_cases he:s.1=t.1
   ·have hd:decide (s.1=t.1)=true:=by simp [he]
    rw [hd] at hq
    have HE:=hide he
    clear he hd
    go_wp2_with fail
    go_quiet (fail)
    go_wp2
    go_roundw
    case rel=>exact ⟨1,by omega,rfl,HH.o.1,HH.o.2.1,below_drewN HH.o.2.2.1 _,fun _=>HE.o,by omega,by omega⟩
    case measure=>simp [intOf]
   ·have hd:decide (s.1=t.1)=false:=by simp [he]
    rw [hd] at hq
    have HE:=hide he
    clear he hd
    go_wp2_with fail
    go_quiet (fail)
    go_wp2_with fail
    go_region_held3 (fun w'=>w'.cell? ⟨w.heap.size,0,none⟩=some (.int .i64 s.1.1)∧w'.cell? ⟨w.heap.size,1,none⟩=some (.int .i64 s.1.2.1)∧w'.cell? ⟨w.heap.size,2,none⟩=some (.int .i64 s.1.2.2)∧w'.cell? ⟨w.heap.size+1,0,none⟩=some (.int .i64 t.1.1)∧w'.cell? ⟨w.heap.size+1,1,none⟩=some (.int .i64 t.1.2.1)∧w'.cell? ⟨w.heap.size+1,2,none⟩=some (.int .i64 t.1.2.2)) (first | go_keep | exact ⟨(zM hL q0),(zM hL q1),(zM hL q2),(zM hL k0),(zM hL k1),(zM hL k2)⟩) ((go_at_call 90;refine (xW s.1 t.1 _).mono ?_;rintro e w1 ⟨rfl,hL⟩))
    go_wp2
    go_ret
    exact ⟨by rw [zPN HE.o];rfl,(below_drewN HH.o.2.2.1 _).trans (hL.below.mono (HH.o.2.2.1).size)⟩
  ·have hq:=eqP s.2.1 t.2.1 H.o.2.2.2.1.2.1 H.o.2.2.2.2.2.1
   have q0:wr.cell? ⟨w.heap.size,3,none⟩=some (.int .i64 s.2.1.1):=hbs.cell 3
   have q1:wr.cell? ⟨w.heap.size,4,none⟩=some (.int .i64 s.2.1.2.1):=hbs.cell 4
   have q2:wr.cell? ⟨w.heap.size,5,none⟩=some (.int .i64 s.2.1.2.2):=hbs.cell 5
   have k0:wr.cell? ⟨w.heap.size+1,3,none⟩=some (.int .i64 t.2.1.1):=hbt.cell 3
   have k1:wr.cell? ⟨w.heap.size+1,4,none⟩=some (.int .i64 t.2.1.2.1):=hbt.cell 4
   have k2:wr.cell? ⟨w.heap.size+1,5,none⟩=some (.int .i64 t.2.1.2.2):=hbt.cell 5
   have HH:=hide (ai9 hbs (ai9 hbt (ai9 hB (ai9 e0 (ai9 e1 e2)))))
   clear hbs hbt hB e0 e1 e2
   by_cases he:s.2.1=t.2.1
   ·have hd:decide (s.2.1=t.2.1)=true:=by simp [he]
    rw [hd] at hq
    have HE:=hide he
    clear he hd
    go_wp2_with fail
    go_quiet (fail)
    go_wp2
    go_roundw
    case rel=>exact ⟨2,by omega,rfl,HH.o.1,HH.o.2.1,below_drewN HH.o.2.2.1 _,fun _=>HH.o.2.2.2.1 (by omega),fun _=>HE.o,by omega⟩
    case measure=>simp [intOf]
   ·have hd:decide (s.2.1=t.2.1)=false:=by simp [he]
    rw [hd] at hq
    have HE:=hide he
    clear he hd
    go_wp2_with fail
    go_quiet (fail)
    go_wp2_with fail
    go_region_held3 (fun w'=>w'.cell? ⟨w.heap.size,3,none⟩=some (.int .i64 s.2.1.1)∧w'.cell? ⟨w.heap.size,4,none⟩=some (.int .i64 s.2.1.2.1)∧w'.cell? ⟨w.heap.size,5,none⟩=some (.int .i64 s.2.1.2.2)∧w'.cell? ⟨w.heap.size+1,3,none⟩=some (.int .i64 t.2.1.1)∧w'.cell? ⟨w.heap.size+1,4,none⟩=some (.int .i64 t.2.1.2.1)∧w'.cell? ⟨w.heap.size+1,5,none⟩=some (.int .i64 t.2.1.2.2)) (first | go_keep | exact ⟨(zM hL q0),(zM hL q1),(zM hL q2),(zM hL k0),(zM hL k1),(zM hL k2)⟩) ((go_at_call 90;refine (xW s.2.1 t.2.1 _).mono ?_;rintro e w1 ⟨rfl,hL⟩))
    go_wp2
    go_ret
    exact ⟨by rw [zPE (HH.o.2.2.2.1 (by omega)) HE.o];rfl,(below_drewN HH.o.2.2.1 _).trans (hL.below.mono (HH.o.2.2.1).size)⟩
  ·have hq:=eqP s.2.2 t.2.2 H.o.2.2.2.1.2.2 H.o.2.2.2.2.2.2
   have q0:wr.cell? ⟨w.heap.size,6,none⟩=some (.int .i64 s.2.2.1):=hbs.cell 6
   have q1:wr.cell? ⟨w.heap.size,7,none⟩=some (.int .i64 s.2.2.2.1):=hbs.cell 7
   have q2:wr.cell? ⟨w.heap.size,8,none⟩=some (.int .i64 s.2.2.2.2):=hbs.cell 8
   have k0:wr.cell? ⟨w.heap.size+1,6,none⟩=some (.int .i64 t.2.2.1):=hbt.cell 6
   have k1:wr.cell? ⟨w.heap.size+1,7,none⟩=some (.int .i64 t.2.2.2.1):=hbt.cell 7
   have k2:wr.cell? ⟨w.heap.size+1,8,none⟩=some (.int .i64 t.2.2.2.2):=hbt.cell 8
   have HH:=hide (ai9 hbs (ai9 hbt (ai9 hB (ai9 e0 (ai9 e1 e2)))))
   clear hbs hbt hB e0 e1 e2
   by_cases he:s.2.2=t.2.2
   ·have hd:decide (s.2.2=t.2.2)=true:=by simp [he]
    rw [hd] at hq
    have HE:=hide he
    clear he hd
    go_wp2_with fail
    go_quiet (fail)
    go_wp2
    go_roundw
    case rel=>exact ⟨3,by omega,rfl,HH.o.1,HH.o.2.1,below_drewN HH.o.2.2.1 _,fun _=>HH.o.2.2.2.1 (by omega),fun _=>HH.o.2.2.2.2.1 (by omega),fun _=>HE.o⟩
    case measure=>simp [intOf]
   ·have hd:decide (s.2.2=t.2.2)=false:=by simp [he]
    rw [hd] at hq
    have HE:=hide he
    clear he hd
    go_wp2_with fail
    go_quiet (fail)
    go_wp2_with fail
    go_region_held3 (fun w'=>w'.cell? ⟨w.heap.size,6,none⟩=some (.int .i64 s.2.2.1)∧w'.cell? ⟨w.heap.size,7,none⟩=some (.int .i64 s.2.2.2.1)∧w'.cell? ⟨w.heap.size,8,none⟩=some (.int .i64 s.2.2.2.2)∧w'.cell? ⟨w.heap.size+1,6,none⟩=some (.int .i64 t.2.2.1)∧w'.cell? ⟨w.heap.size+1,7,none⟩=some (.int .i64 t.2.2.2.1)∧w'.cell? ⟨w.heap.size+1,8,none⟩=some (.int .i64 t.2.2.2.2)) (first | go_keep | exact ⟨(zM hL q0),(zM hL q1),(zM hL q2),(zM hL k0),(zM hL k1),(zM hL k2)⟩) ((go_at_call 90;refine (xW s.2.2 t.2.2 _).mono ?_;rintro e w1 ⟨rfl,hL⟩))
    go_wp2
    go_ret
    exact ⟨by rw [zOC (HH.o.2.2.2.1 (by omega)) (HH.o.2.2.2.2.1 (by omega))];rfl,(below_drewN HH.o.2.2.1 _).trans (hL.below.mono (HH.o.2.2.1).size)⟩
  ·have h0:=e0 (by omega)
   have h1:=e1 (by omega)
   have h2:=e2 (by omega)
   have HH:=hide (ai9 hB (ai9 h0 (ai9 h1 h2)))
   clear hbs hbt hB e0 e1 e2 h0 h1 h2
   have d3:((3:Int) < 3)=False:=by simp
   go_wp2
   go_ret
   refine ⟨?_,HH.o.1⟩
   rw [zOC HH.o.2.1 HH.o.2.2.1,HH.o.2.2.2,fJ.irrefl]
   rfl
end Go.Proofs.YtmemofonebphfaaGreat
namespace Go.Proofs.YtmemofonebphfaaGreat
open Go.RowKit Go.Sort
theorem qE (w:World):Below w.heap.size w w.drew:=below_drewN (Below.refl _ w) 1
theorem zPC:Tot ltT:=⟨zJ1.irrefl,zJ1.trans,zJ1.total⟩
abbrev zAI (xs ys:List Tri):List Tri:=List.merge xs ys (leO ltT)
set_option maxRecDepth 100000 in
set_option maxHeartbeats 8000000 in
theorem merge_any (A B:Option Addr) (c d:Nat) (xs ys:List Tri) (w:World) (hx:Sl encT 9 w w.heap.size A xs) (hy:Sl encT 9 w w.heap.size B ys) (hlx:xs.length≤4294967296) (hly:ys.length≤4294967296) (hd:ys.length≤d)
  (hfx:∀t∈xs,fitsT t) (hfy:∀t∈ys,fitsT t):
  Calls Tryz.prog 91 #[.slice A xs.length c, .slice B ys.length d] w fun e w'=>∃v,e= .returned v∧Own encT 9 46 w' w.heap.size v (xs.length+ys.length) (zAI xs ys)∧Below w.heap.size w w':=by
 have H:=hide (ai9 hx (ai9 hy (ai9 hfx hfy)))
 clear hx hy hfx hfy
 go_enter Tryz.func91,Tryz.ntmps91
 go_wp2
 go_loopw [5,6,7] (fun o j i wr=>∃(k m:Nat) (done:List Tri),k≤xs.length∧m≤ys.length∧i= .int .i64 k∧j= .int .i64 m∧Own encT 9 46 wr w.heap.size o (k+m) done∧done++zAI (xs.drop k) (ys.drop m)=zAI xs ys∧Below w.heap.size w wr) (fun _ _ i _=>xs.length - (intOf i).toNat)
 case atStart=>exact ⟨0,0, [],Nat.zero_le _,Nat.zero_le _,rfl,rfl,Own.nil,rfl,Below.refl _ w⟩
 case round=>
  obtain ⟨k,m0,done0,hk,hm0,rfl,rfl,hown0,heq0,hB0⟩:=hrel
  by_cases hlt:k < xs.length
  ·obtain ⟨x,hxk⟩:∃x,xs[k]? =some x:=⟨_,List.getElem?_eq_getElem hlt⟩
   have hfx:fitsT x:=H.o.2.2.1 x (List.mem_of_getElem? hxk)
   obtain ⟨bA,oA,hA,hbA,hcx⟩:=H.o.1.tri hxk
   subst hA
   have HX:=hide (ai9 hxk (ai9 hfx hcx))
   have H0:=hide (ai9 hown0 (ai9 heq0 hB0))
   have i1:(k:Int) < (xs.length:Int):=by omega
   clear hxk hfx hcx hown0 heq0 hB0
   go_wp2
   go_loopw [5,6] (fun o j wr=>∃(m:Nat) (done:List Tri),m≤ys.length∧j= .int .i64 m∧Own encT 9 46 wr w.heap.size o (k+m) done∧done++zAI (xs.drop k) (ys.drop m)=zAI xs ys∧Below w.heap.size w wr) (fun _ j _=>ys.length - (intOf j).toNat)
   case atStart=>exact ⟨m0,done0,hm0,rfl,H0.o.1,H0.o.2.1,H0.o.2.2⟩
   case round=>
    obtain ⟨m,done,hm,rfl,hown,heq,hB⟩:=hrel
    obtain ⟨Aq,cq,rfl⟩:=hown.form
    have hszB:=hB.size
    have hbAr:bA < wr.heap.size:=by omega
    have g0:=(hB.cell (p:=⟨bA,_,none⟩) hbA).trans HX.o.2.2.1
    have g1:=(hB.cell (p:=⟨bA,_,none⟩) hbA).trans HX.o.2.2.2.1
    have g2:=(hB.cell (p:=⟨bA,_,none⟩) hbA).trans HX.o.2.2.2.2.1
    have g3:=(hB.cell (p:=⟨bA,_,none⟩) hbA).trans HX.o.2.2.2.2.2.1
    have g4:=(hB.cell (p:=⟨bA,_,none⟩) hbA).trans HX.o.2.2.2.2.2.2.1
    have g5:=(hB.cell (p:=⟨bA,_,none⟩) hbA).trans HX.o.2.2.2.2.2.2.2.1
    have g6:=(hB.cell (p:=⟨bA,_,none⟩) hbA).trans HX.o.2.2.2.2.2.2.2.2.1
    have g7:=(hB.cell (p:=⟨bA,_,none⟩) hbA).trans HX.o.2.2.2.2.2.2.2.2.2.1
    have g8:=(hB.cell (p:=⟨bA,_,none⟩) hbA).trans HX.o.2.2.2.2.2.2.2.2.2.2
    have H1:=hide (ai9 hown (ai9 heq hB))
    clear hown heq hB
    by_cases hlm:m < ys.length
    ·obtain ⟨y,hym⟩:∃y,ys[m]? =some y:=⟨_,List.getElem?_eq_getElem hlm⟩
     have hfy:fitsT y:=H.o.2.2.2 y (List.mem_of_getElem? hym)
     obtain ⟨bB,oB,hBB,hbB,hcy⟩:=H.o.2.1.tri hym
     subst hBB
     have hbBr:bB < wr.heap.size:=by omega
     have i2:(m:Int) < (ys.length:Int):=by omega
     have k0:=(H1.o.2.2.cell (p:=⟨bB,_,none⟩) hbB).trans hcy.1
     have k1:=(H1.o.2.2.cell (p:=⟨bB,_,none⟩) hbB).trans hcy.2.1
     have k2:=(H1.o.2.2.cell (p:=⟨bB,_,none⟩) hbB).trans hcy.2.2.1
     have k3:=(H1.o.2.2.cell (p:=⟨bB,_,none⟩) hbB).trans hcy.2.2.2.1
     have k4:=(H1.o.2.2.cell (p:=⟨bB,_,none⟩) hbB).trans hcy.2.2.2.2.1
     have k5:=(H1.o.2.2.cell (p:=⟨bB,_,none⟩) hbB).trans hcy.2.2.2.2.2.1
     have k6:=(H1.o.2.2.cell (p:=⟨bB,_,none⟩) hbB).trans hcy.2.2.2.2.2.2.1
     have k7:=(H1.o.2.2.cell (p:=⟨bB,_,none⟩) hbB).trans hcy.2.2.2.2.2.2.2.1
     have k8:=(H1.o.2.2.cell (p:=⟨bB,_,none⟩) hbB).trans hcy.2.2.2.2.2.2.2.2
     have HY:=hide (ai9 hym hfy)
     clear hcy hym hfy
     by_cases hless:ltT y x=true
     ·have HL:=hide hless
      go_wp2_with fail
      go_region_held3 (fun w'=>w'.cell? ⟨bA,oA+k*9,none⟩=some (.int .i64 x.1.1)∧w'.cell? ⟨bA,oA+k*9+1,none⟩=some (.int .i64 x.1.2.1)∧w'.cell? ⟨bA,oA+k*9+2,none⟩=some (.int .i64 x.1.2.2)∧w'.cell? ⟨bA,oA+k*9+3,none⟩=some (.int .i64 x.2.1.1)∧w'.cell? ⟨bA,oA+k*9+4,none⟩=some (.int .i64 x.2.1.2.1)∧w'.cell? ⟨bA,oA+k*9+5,none⟩=some (.int .i64 x.2.1.2.2)∧w'.cell? ⟨bA,oA+k*9+6,none⟩=some (.int .i64 x.2.2.1)∧w'.cell? ⟨bA,oA+k*9+7,none⟩=some (.int .i64 x.2.2.2.1)∧w'.cell? ⟨bA,oA+k*9+8,none⟩=some (.int .i64 x.2.2.2.2)∧w'.cell? ⟨bB,oB+m*9,none⟩=some (.int .i64 y.1.1)∧w'.cell? ⟨bB,oB+m*9+1,none⟩=some (.int .i64 y.1.2.1)∧w'.cell? ⟨bB,oB+m*9+2,none⟩=some (.int .i64 y.1.2.2)∧w'.cell? ⟨bB,oB+m*9+3,none⟩=some (.int .i64 y.2.1.1)∧w'.cell? ⟨bB,oB+m*9+4,none⟩=some (.int .i64 y.2.1.2.1)∧w'.cell? ⟨bB,oB+m*9+5,none⟩=some (.int .i64 y.2.1.2.2)∧w'.cell? ⟨bB,oB+m*9+6,none⟩=some (.int .i64 y.2.2.1)∧w'.cell? ⟨bB,oB+m*9+7,none⟩=some (.int .i64 y.2.2.2.1)∧w'.cell? ⟨bB,oB+m*9+8,none⟩=some (.int .i64 y.2.2.2.2)) (first | go_keep | exact ⟨(hL.cell (p:=⟨bA,_,none⟩) hbAr).trans g0,(hL.cell (p:=⟨bA,_,none⟩) hbAr).trans g1,(hL.cell (p:=⟨bA,_,none⟩) hbAr).trans g2,(hL.cell (p:=⟨bA,_,none⟩) hbAr).trans g3,(hL.cell (p:=⟨bA,_,none⟩) hbAr).trans g4,(hL.cell (p:=⟨bA,_,none⟩) hbAr).trans g5,(hL.cell (p:=⟨bA,_,none⟩) hbAr).trans g6,(hL.cell (p:=⟨bA,_,none⟩) hbAr).trans g7,(hL.cell (p:=⟨bA,_,none⟩) hbAr).trans g8,(hL.cell (p:=⟨bB,_,none⟩) hbBr).trans k0,(hL.cell (p:=⟨bB,_,none⟩) hbBr).trans k1,(hL.cell (p:=⟨bB,_,none⟩) hbBr).trans k2,(hL.cell (p:=⟨bB,_,none⟩) hbBr).trans k3,(hL.cell (p:=⟨bB,_,none⟩) hbBr).trans k4,(hL.cell (p:=⟨bB,_,none⟩) hbBr).trans k5,(hL.cell (p:=⟨bB,_,none⟩) hbBr).trans k6,(hL.cell (p:=⟨bB,_,none⟩) hbBr).trans k7,(hL.cell (p:=⟨bB,_,none⟩) hbBr).trans k8⟩) ((go_at_call 117;refine (zAE y x HY.o.2 HX.o.2.1 _).mono ?_;rintro e w1 ⟨rfl,hL⟩;rw [hless]))
      have hL:=(qE wr).trans hL
      have hLs:=hL.size
      have hbB1:bB < w1.heap.size:=by have:wr.heap.size≤w1.heap.size:=hLs;omega
      have q0:=(hL.cell (p:=⟨bB,_,none⟩) hbBr).trans k0
      have q1:=(hL.cell (p:=⟨bB,_,none⟩) hbBr).trans k1
      have q2:=(hL.cell (p:=⟨bB,_,none⟩) hbBr).trans k2
      have q3:=(hL.cell (p:=⟨bB,_,none⟩) hbBr).trans k3
      have q4:=(hL.cell (p:=⟨bB,_,none⟩) hbBr).trans k4
      have q5:=(hL.cell (p:=⟨bB,_,none⟩) hbBr).trans k5
      have q6:=(hL.cell (p:=⟨bB,_,none⟩) hbBr).trans k6
      have q7:=(hL.cell (p:=⟨bB,_,none⟩) hbBr).trans k7
      have q8:=(hL.cell (p:=⟨bB,_,none⟩) hbBr).trans k8
      have hB1:Below w.heap.size w w1:=(H1.o.2.2.trans (hL.mono hszB))
      have hs1:=hB1.size
      have hown1:=(H1.o.1.below (w':=w1) hL lr9).alloc (.cells (encT y).toArray 46)
      have H2:=hide hB1
      clear hB1 hL hLs g0 g1 g2 g3 g4 g5 g6 g7 g8 k0 k1 k2 k3 k4 k5 k6 k7 k8
      go_wp2_with (at_builtin;refine zC rfl _ _ _ rfl Tryz.underlying44 kF rfl (by omega) zW yU rfl hown1 w1.heap.size 1 y rfl (Blk.new _ _ _) (by unfold maxLen;omega) (by omega) (by simp;omega) ?_;intro g cap w5 hown5 hg5 hB5 hat5 hgb5 hlt5)
      go_roundw
      case rel=>exact ⟨m+1,done++ [y],by omega,by go_num,hown5,by rw [List.append_assoc,List.singleton_append,←zD6 HX.o.1 HY.o.1 HL.o];exact H1.o.2.1,(H2.o.alloc hs1 _).trans hB5⟩
      case measure=>simp [intOf];omega
     ·have hlf:ltT y x=false:=by simpa using hless
      have HL:=hide hlf
      clear hless
      go_wp2_with fail
      go_region_held3 (fun w'=>w'.cell? ⟨bA,oA+k*9,none⟩=some (.int .i64 x.1.1)∧w'.cell? ⟨bA,oA+k*9+1,none⟩=some (.int .i64 x.1.2.1)∧w'.cell? ⟨bA,oA+k*9+2,none⟩=some (.int .i64 x.1.2.2)∧w'.cell? ⟨bA,oA+k*9+3,none⟩=some (.int .i64 x.2.1.1)∧w'.cell? ⟨bA,oA+k*9+4,none⟩=some (.int .i64 x.2.1.2.1)∧w'.cell? ⟨bA,oA+k*9+5,none⟩=some (.int .i64 x.2.1.2.2)∧w'.cell? ⟨bA,oA+k*9+6,none⟩=some (.int .i64 x.2.2.1)∧w'.cell? ⟨bA,oA+k*9+7,none⟩=some (.int .i64 x.2.2.2.1)∧w'.cell? ⟨bA,oA+k*9+8,none⟩=some (.int .i64 x.2.2.2.2)∧w'.cell? ⟨bB,oB+m*9,none⟩=some (.int .i64 y.1.1)∧w'.cell? ⟨bB,oB+m*9+1,none⟩=some (.int .i64 y.1.2.1)∧w'.cell? ⟨bB,oB+m*9+2,none⟩=some (.int .i64 y.1.2.2)∧w'.cell? ⟨bB,oB+m*9+3,none⟩=some (.int .i64 y.2.1.1)∧w'.cell? ⟨bB,oB+m*9+4,none⟩=some (.int .i64 y.2.1.2.1)∧w'.cell? ⟨bB,oB+m*9+5,none⟩=some (.int .i64 y.2.1.2.2)∧w'.cell? ⟨bB,oB+m*9+6,none⟩=some (.int .i64 y.2.2.1)∧w'.cell? ⟨bB,oB+m*9+7,none⟩=some (.int .i64 y.2.2.2.1)∧w'.cell? ⟨bB,oB+m*9+8,none⟩=some (.int .i64 y.2.2.2.2)) (first | go_keep | exact ⟨(hL.cell (p:=⟨bA,_,none⟩) hbAr).trans g0,(hL.cell (p:=⟨bA,_,none⟩) hbAr).trans g1,(hL.cell (p:=⟨bA,_,none⟩) hbAr).trans g2,(hL.cell (p:=⟨bA,_,none⟩) hbAr).trans g3,(hL.cell (p:=⟨bA,_,none⟩) hbAr).trans g4,(hL.cell (p:=⟨bA,_,none⟩) hbAr).trans g5,(hL.cell (p:=⟨bA,_,none⟩) hbAr).trans g6,(hL.cell (p:=⟨bA,_,none⟩) hbAr).trans g7,(hL.cell (p:=⟨bA,_,none⟩) hbAr).trans g8,(hL.cell (p:=⟨bB,_,none⟩) hbBr).trans k0,(hL.cell (p:=⟨bB,_,none⟩) hbBr).trans k1,(hL.cell (p:=⟨bB,_,none⟩) hbBr).trans k2,(hL.cell (p:=⟨bB,_,none⟩) hbBr).trans k3,(hL.cell (p:=⟨bB,_,none⟩) hbBr).trans k4,(hL.cell (p:=⟨bB,_,none⟩) hbBr).trans k5,(hL.cell (p:=⟨bB,_,none⟩) hbBr).trans k6,(hL.cell (p:=⟨bB,_,none⟩) hbBr).trans k7,(hL.cell (p:=⟨bB,_,none⟩) hbBr).trans k8⟩) ((go_at_call 117;refine (zAE y x HY.o.2 HX.o.2.1 _).mono ?_;rintro e w1 ⟨rfl,hL⟩;rw [hlf]))
      have hL:=(qE wr).trans hL
      have q0:=(hL.cell (p:=⟨bA,_,none⟩) hbAr).trans g0
      have q1:=(hL.cell (p:=⟨bA,_,none⟩) hbAr).trans g1
      have q2:=(hL.cell (p:=⟨bA,_,none⟩) hbAr).trans g2
      have q3:=(hL.cell (p:=⟨bA,_,none⟩) hbAr).trans g3
      have q4:=(hL.cell (p:=⟨bA,_,none⟩) hbAr).trans g4
      have q5:=(hL.cell (p:=⟨bA,_,none⟩) hbAr).trans g5
      have q6:=(hL.cell (p:=⟨bA,_,none⟩) hbAr).trans g6
      have q7:=(hL.cell (p:=⟨bA,_,none⟩) hbAr).trans g7
      have q8:=(hL.cell (p:=⟨bA,_,none⟩) hbAr).trans g8
      have HLs:=hide hL
      clear hlf hL g0 g1 g2 g3 g4 g5 g6 g7 g8 k0 k1 k2 k3 k4 k5 k6 k7 k8
      have hgk:Own encT 9 46 w1 w.heap.size (.slice Aq ((k+m:Nat)) cq) (k+m) done:=H1.o.1.below (w':=w1) HLs.o lr9
      have hBk:Below w.heap.size w w1:=H1.o.2.2.trans (HLs.o.mono hszB)
      have hszk:=hBk.size
      have HK:=hide (ai9 hgk hBk)
      have hgk2:=HK.o.1.alloc (.cells (encT x).toArray 46)
      clear hgk hBk
      go_wp2_with (at_builtin;refine zC rfl _ _ _ rfl Tryz.underlying44 kF rfl (by omega) zW yU rfl hgk2 w1.heap.size 1 x rfl (Blk.new _ _ _) (by unfold maxLen;omega) (by omega) (by simp;omega) ?_;intro g cap w5 hown5 hg5 hB5 hat5 hgb5 hlt5)
      go_roundw
      case rel=>exact ⟨k+1,m,done++ [x],by omega,by omega,by go_num,rfl,by rw [show k+1+m=k+m+1 by omega];exact hown5,by rw [List.append_assoc,List.singleton_append,←zBC HX.o.1 (fun y' hy'=>by rw [HY.o.1] at hy';cases hy';exact HL.o)];exact H1.o.2.1,(HK.o.2.alloc hszk _).trans hB5⟩
      case measure=>simp [intOf];omega
    ·have hme:m=ys.length:=by omega
     have HM:=hide hme
     clear hme
     have hgk:Own encT 9 46 wr w.heap.size (.slice Aq ((k+m:Nat)) cq) (k+m) done:=H1.o.1
     have hBk:Below w.heap.size w wr:=H1.o.2.2
     have hszk:=hBk.size
     have HK:=hide (ai9 hgk hBk)
     have hgk2:=HK.o.1.alloc (.cells (encT x).toArray 46)
     clear hgk hBk
     go_wp2_with (at_builtin;refine zC rfl _ _ _ rfl Tryz.underlying44 kF rfl (by omega) zW yU rfl hgk2 wr.heap.size 1 x rfl (Blk.new _ _ _) (by unfold maxLen;omega) (by omega) (by simp;omega) ?_;intro g cap w5 hown5 hg5 hB5 hat5 hgb5 hlt5)
     go_roundw
     case rel=>exact ⟨k+1,m,done++ [x],by omega,by omega,by go_num,rfl,by rw [show k+1+m=k+m+1 by omega];exact hown5,by rw [List.append_assoc,List.singleton_append,←zBC HX.o.1 (fun y' hy'=>by rw [HM.o,List.getElem?_eq_none lr9] at hy';cases hy')];exact H1.o.2.1,(HK.o.2.alloc hszk _).trans hB5⟩
     case measure=>simp [intOf];omega
  ·have hke:k=xs.length:=by omega
   subst hke
   have hsz:=hB0.size
   rw [zAI,zJR lr9] at heq0
   obtain ⟨Aq,cq,rfl⟩:=hown0.form
   have hcut:Sl encT 9 wr wr.heap.size (cutA B d m0 9) (ys.drop m0):=((H.o.2.1.below hB0).cut (Nat.le_of_lt_succ (by omega)) hd).more hsz
   have hrun:∀V:World,(Instr.slice 44 (.slice B ys.length d) (some (.int .i64 m0)) none none).run Tryz.prog V= .ok (.slice (cutA B d m0 9) (ys.length - m0) (d - m0)) V:=fun V=>by
    exact kN Tryz.underlying44 Tryz.sizeOf46 hm0 V
   have HC:=hide (ai9 hcut (ai9 hown0 (ai9 heq0 (ai9 hB0 hm0))))
   clear hcut hown0 heq0 hB0 hm0
   go_wp2_with (at_builtin;refine zI rfl _ _ _ rfl Tryz.underlying44 kF rfl (by omega) zW yU rfl HC.o.2.1 (cutA B d m0 9) (d - m0) wr.heap.size (ys.drop m0) (by rw [List.length_drop];rfl) HC.o.1 (by have:=HC.o.2.2.2.2;rw [List.length_drop];unfold maxLen;omega) (by have:=HC.o.2.2.2.2;rw [List.length_drop];omega) hsz ?_;intro v' w5 hown5 hg5 hB5 hat5)
   go_ret
   refine ⟨_,rfl,?_,HC.o.2.2.2.1.trans hB5⟩
   rw [HC.o.2.2.1] at hown5
   have hm0:=HC.o.2.2.2.2
   rw [List.length_drop,show xs.length+m0+(ys.length - m0)=xs.length+ys.length by omega] at hown5
   exact hown5
end Go.Proofs.YtmemofonebphfaaGreat
namespace Go.Proofs.YtmemofonebphfaaGreat
open Go.RowKit Go.Sort
set_option maxRecDepth 100000 in
set_option maxHeartbeats 4000000 in
theorem zGT (n:Nat):∀(A:Option Addr) (c:Nat) (ts:List Tri) (w:World),ts.length≤n→Sl encT 9 w w.heap.size A ts→ts.length≤2147483648→ts.length≤c→(∀t∈ts,fitsT t)→
  Calls Tryz.prog 55 #[.slice A ts.length c] w fun e w'=>∃A' c',e= .returned (.slice A' ts.length c')∧Below w.heap.size w w'∧Sl encT 9 w' w'.heap.size A' (vC ltT ts)∧ts.length≤c':=by
 induction n with
 | zero=>
  intro A c ts w hn hs hl hc hf
  have e:ts= []:=List.eq_nil_of_length_eq_zero (by omega)
  subst e
  have H:=hide (ai9 hs hc)
  clear hs hc hf hn hl
  go_enter Tryz.func55,Tryz.ntmps55
  go_wp2_with fail
  go_ret
  exact ⟨A,c,rfl,Below.refl _ w,by rw [jZ (by simp)];exact H.o.1,H.o.2⟩
 | succ n ih=>
  intro A c ts w hn hs hl hc hf
  by_cases h2:ts.length < 2
  ·have H:=hide (ai9 hs (ai9 hc h2))
   have hd:decide ((ts.length:Int) < 2)=true:=by simp;omega
   clear hs hc hf hn
   go_enter Tryz.func55,Tryz.ntmps55
   go_wp2_with fail
   go_ret
   exact ⟨A,c,rfl,Below.refl _ w,by rw [jZ H.o.2.2];exact H.o.1,H.o.2.1⟩
  ·obtain ⟨h,hh⟩:=ex9 (ts.length / 2)
   obtain ⟨t1,ht1⟩:=ex9 (ts.take h)
   obtain ⟨t2,ht2⟩:=ex9 (ts.drop h)
   have hl1:t1.length=h:=by rw [ht1,List.length_take];omega
   have hl2:t2.length=ts.length - h:=by rw [ht2,List.length_drop]
   have hq:(ts.length:Int) / 2=(h:Int):=by omega
   have hrun1:∀V:World,(Instr.slice 44 (.slice A ts.length c) none (some (.int .i64 h)) none).run Tryz.prog V= .ok (.slice A t1.length c) V:=fun V=>by
    rw [hl1];exact wE Tryz.underlying44 Tryz.sizeOf46 (by omega) hc V
   have hrun2:∀V:World,(Instr.slice 44 (.slice A ts.length c) (some (.int .i64 h)) none none).run Tryz.prog V= .ok (.slice (cutA A c h 9) t2.length (c - h)) V:=fun V=>by
    rw [hl2];exact kN Tryz.underlying44 Tryz.sizeOf46 (by omega) V
   have hs1:Sl encT 9 w w.heap.size A t1:=by rw [ht1];exact hs.take h
   have hs2:Sl encT 9 w w.heap.size (cutA A c h 9) t2:=by rw [ht2];exact hs.cut (by omega) hc
   have hf1:∀t∈t1,fitsT t:=fun t ht=>hf t (by rw [ht1] at ht;exact List.mem_of_mem_take ht)
   have hf2:∀t∈t2,fitsT t:=fun t ht=>hf t (by rw [ht2] at ht;exact List.mem_of_mem_drop ht)
   have hsum:t1.length+t2.length=ts.length:=by omega
   have hm:zAI (vC ltT t1) (vC ltT t2)=vC ltT ts:=by rw [ht1,ht2];exact zPC.halves ts h
   have hb1:t1.length≤n∧t1.length≤2147483648∧t1.length≤c:=by omega
   have hb2:t2.length≤n∧t2.length≤2147483648∧t2.length≤c - h:=by omega
   have hd:decide ((ts.length:Int) < 2)=false:=by simp;omega
   have hw:wrap64 (h:Int)=h:=by unfold wrap64;omega
   have HI:=hide ih
   have HS:=hide (ai9 hs1 (ai9 hs2 (ai9 hf1 (ai9 hf2 (ai9 hsum (ai9 hm (ai9 hb1 hb2)))))))
   clear hs hs1 hs2 hf hf1 hf2 hsum hm hb1 hb2 ih hn hl hc hh ht1 ht2 hl1 hl2
   go_enter Tryz.func55,Tryz.ntmps55
   go_wp2_with fail
   go_region_held3 (fun _=>True) (trivial) (first
    | (go_at_call 91;rw [←yE (lt:=ltT) t1,←yE (lt:=ltT) t2];refine (merge_any A1 A2 c1 c2 (vC ltT t1) (vC ltT t2) _ ((hs1.below hB2).more hB2.size) hs2 (by rw [yE];have:=HS.o.2.2.2.2.2.2.1.2.1;omega) (by rw [yE];have:=HS.o.2.2.2.2.2.2.2.2.1;omega) (by rw [yE];exact hc2) (fun t ht=>HS.o.2.2.1 t (uM.1 ht)) (fun t ht=>HS.o.2.2.2.1 t (uM.1 ht))).mono ?_;rintro e w3 ⟨v,rfl,hown,hB3⟩)
    | (go_at_call 55;have hB1':=hB1;refine (HI.o (cutA A c h 9) (c - h) t2 _ HS.o.2.2.2.2.2.2.2.1 ((HS.o.2.1.below hB1).more hB1.size) HS.o.2.2.2.2.2.2.2.2.1 HS.o.2.2.2.2.2.2.2.2.2 HS.o.2.2.2.1).mono ?_;rintro e w2 ⟨A2,c2,rfl,hB2,hs2,hc2⟩)
    | (go_at_call 55;refine (HI.o A c t1 w.drew HS.o.2.2.2.2.2.2.1.1 HS.o.1 HS.o.2.2.2.2.2.2.1.2.1 HS.o.2.2.2.2.2.2.1.2.2 HS.o.2.2.1).mono ?_;rintro e w1 ⟨A1,c1,rfl,hB0,hs1,hc1⟩;have hB1:=(qE w).trans hB0;clear hB0))
   go_wp2
   go_ret
   obtain ⟨A3,c3,rfl⟩:=hown.form
   have hmm:=HS.o.2.2.2.2.2.1
   have hsum:=HS.o.2.2.2.2.1
   rw [hmm] at hown
   rw [yE,yE,hsum] at hown⊢
   exact ⟨A3,c3,rfl,(hB1.trans (hB2.mono hB1.size)).trans (hB3.mono (by have:=hB1.size;have:=hB2.size;omega)),hown.sl zW lr9,hown.place.1⟩
end Go.Proofs.YtmemofonebphfaaGreat
namespace Go.Proofs.YtmemofonebphfaaGreat
open Go.RowKit Go.Sort
theorem zNT (t:Tri):rotR t=rotT t:=by
 unfold rotR rotT
 cases h1:ltP t.2.1 t.1 <;>cases h2:ltP t.2.2 t.1 <;>cases h3:ltP t.2.2 t.2.1 <;>simp
 have:=fJ.trans _ _ _ h3 h1
 rw [h2] at this;cases this
theorem zD0 {t:Tri} (h:fitsT t):fitsT (rotT t):=by
 unfold rotT
 split <;>split
 ·exact ⟨h.2.2,h.1,h.2.1⟩
 ·exact ⟨h.2.1,h.2.2,h.1⟩
 ·exact ⟨h.2.2,h.1,h.2.1⟩
 ·exact h
def zF7 (ts:List Tri):List Tri:=vC ltT (ts.map rotT)
theorem zE9 {ts:List Tri} (h:∀t∈ts,fitsT t):∀t∈zF7 ts,fitsT t:=by
 intro t ht
 obtain ⟨u,hu,rfl⟩:=List.mem_map.1 (uM.1 ht)
 exact zD0 (h u hu)
theorem fC (ts:List Tri):(zF7 ts).length=ts.length:=by simp [zF7,yE]
theorem zAX {α β:Type} (f:α→β) (xs:List α) (k:Nat) (x:α) (h:xs[k]? =some x):(xs.take (k+1)).map f=(xs.take k).map f++ [f x]:=by
 rw [List.take_add_one,h]
 simp
set_option maxHeartbeats 2000000 in
set_option maxRecDepth 100000 in
theorem zE2 (A:Option Addr) (c:Nat) (ts:List Tri) (w:World) (hs:Sl encT 9 w w.heap.size A ts) (hl:ts.length≤2147483648) (hf:∀t∈ts,fitsT t):
  Calls Tryz.prog 30 #[.slice A ts.length c] w fun e w'=>∃A' c',e= .returned (.slice A' ts.length c')∧Below w.heap.size w w'∧Sl encT 9 w' w'.heap.size A' (zF7 ts)∧ts.length≤c':=by
 have HF:=hide hf
 clear hf
 go_enter Tryz.func30,Tryz.ntmps30
 go_wp2
 go_loopw [3,4] (fun v i wr=>∃k:Nat,k≤ts.length∧i= .int .i64 k∧Own encT 9 46 wr w.heap.size v k ((ts.take k).map rotT)∧Below w.heap.size w wr) (fun _ i _=>ts.length - (intOf i).toNat)
 case atStart=>exact ⟨0,by omega,rfl,Own.nil,Below.refl _ _⟩
 case round=>
  obtain ⟨k,hk,rfl,hown,hB⟩:=hrel
  obtain ⟨A1,c1,rfl⟩:=hown.form
  have hsz:=hB.size
  by_cases hlt:k < ts.length
  ·obtain ⟨u,hu⟩:∃u,ts[k]? =some u:=⟨_,List.getElem?_eq_getElem hlt⟩
   obtain ⟨b,o,hA,hb,g0,g1,g2,g3,g4,g5,g6,g7,g8⟩:=(hs.below hB).tri hu
   subst hA
   have HU:=hide hu
   have HS:=hide hs
   have HOwn:=hide hown
   clear hu hs hown
   go_wp2_with fail
   refine (zER u _).mono ?_
   rintro e w1 ⟨rfl,hB1⟩
   rw [zNT]
   have hown1:=HOwn.o.below hB1 lr9
   have hz1:=hB1.size
   have HL:=hide (hB.trans (hB1.mono hsz))
   clear hB1 g0 g1 g2 g3 g4 g5 g6 g7 g8
   go_wp2_with (at_builtin;refine zC rfl _ _ _ rfl Tryz.underlying44 kF rfl (by omega) zW yU rfl (hown1.alloc _) w1.heap.size 1 (rotT u) rfl (Blk.new _ _ _) (by unfold maxLen;omega) (by omega) (by simp;omega) ?_;intro g cap w2 hown2 hg2 hB2 hat2 hgb2 hlt2)
   go_roundw
   case rel=>exact ⟨k+1,by omega,by go_num,by rw [zAX _ _ _ _ HU.o];exact hown2,(HL.o.alloc (by omega) _).trans hB2⟩
   case measure=>simp [intOf];omega
  ·have hk:k=ts.length:=by omega
   subst hk
   rw [List.take_length] at hown
   have hlen:(ts.map rotT).length=ts.length:=List.length_map _
   have hsort:=zGT ts.length A1 c1 (ts.map rotT) wr (by rw [hlen];exact Nat.le_refl _) (hown.sl zW lr9) (by rw [hlen];exact hl) (by rw [hlen];exact hown.place.1)
    (fun t ht=>by obtain ⟨u,hu,rfl⟩:=List.mem_map.1 ht;exact zD0 (HF.o u hu))
   rw [hlen] at hsort
   have HO:=hide hsort
   clear hs hown hsort hlen
   go_wp2_with (go_at_call 55;refine (qR HO).mono ?_;rintro e w1 ⟨A2,c2,rfl,hB2,hs2,hc2⟩)
   go_ret
   exact ⟨A2,c2,rfl,hB.trans (hB2.mono hsz),hs2,hc2⟩
end Go.Proofs.YtmemofonebphfaaGreat
