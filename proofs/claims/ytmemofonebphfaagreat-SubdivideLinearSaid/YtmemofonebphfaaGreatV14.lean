import Derived.Deep.RegionHeld3
import Derived.Deep.DrawnRows
import Derived.Test.YtmemofonebphfaaGreatV13
namespace Go.Proofs.YtmemofonebphfaaGreat
open Go.RowKit Go.Sort
def orI (x y z:Int):Int:=if x≠0 then x else if y≠0 then y else z
set_option maxHeartbeats 1000000 in
theorem or_any (b c:Nat) (x y z:Int) (w:World) (h0:w.cell? ⟨b,0,none⟩=some (vi x)) (h1:w.cell? ⟨b,1,none⟩=some (vi y)) (h2:w.cell? ⟨b,2,none⟩=some (vi z)):
  Calls Tryz.prog 104 #[.slice (some ⟨b,0,none⟩) 3 c] w fun e w'=>e= .returned (vi (orI x y z))∧w=w':=by
 by_cases hx:x=0
 ·have ex:(x !=0)=false:=by simp [hx]
  have HX:=hide hx
  clear hx
  by_cases hy:y=0
  ·have ey:(y !=0)=false:=by simp [hy]
   have HY:=hide hy
   clear hy
   by_cases hz:z=0
   ·have ez:(z !=0)=false:=by simp [hz]
    have HZ:=hide hz
    clear hz
    go_enter Tryz.func104,Tryz.ntmps104
    go_wp2
    go_rounds 4
    go_ret
    exact ⟨by simp [orI,HX.out,HY.out,HZ.out],rfl⟩
   ·have ez:(z !=0)=true:=by simp [hz]
    go_enter Tryz.func104,Tryz.ntmps104
    go_wp2
    go_rounds 4
    go_ret
    exact ⟨by simp [orI,HX.out,HY.out],rfl⟩
  ·have ey:(y !=0)=true:=by simp [hy]
   go_enter Tryz.func104,Tryz.ntmps104
   go_wp2
   go_rounds 4
   go_ret
   exact ⟨by simp [orI,HX.out,hy],rfl⟩
 ·have ex:(x !=0)=true:=by simp [hx]
  go_enter Tryz.func104,Tryz.ntmps104
  go_wp2
  go_rounds 4
  go_ret
  exact ⟨by simp [orI,hx],rfl⟩
set_option maxHeartbeats 1000000 in
theorem rless_any (a b:Pt) (w:World):Calls Tryz.prog 90 #[vP a,vP b] w fun e w'=>e= .returned (.bool (ltP a b))∧Lay w w':=by
 by_cases hx:a.1=b.1
 ·have ex:(a.1 !=b.1)=false:=by simp [hx]
  have HX:=hide hx
  clear hx
  by_cases hy:a.2.1=b.2.1
  ·have ey:(a.2.1 !=b.2.1)=false:=by simp [hy]
   have HY:=hide hy
   clear hy
   go_enter Tryz.func90,Tryz.ntmps90
   go_wp2
   go_ret
   exact ⟨by simp [ltP,HX.out,HY.out],((Lay.refl _).alloc _).alloc _⟩
  ·have ey:(a.2.1 !=b.2.1)=true:=by simp [hy]
   go_enter Tryz.func90,Tryz.ntmps90
   go_wp2
   go_ret
   exact ⟨by simp [ltP,HX.out,hy],((Lay.refl _).alloc _).alloc _⟩
 ·have ex:(a.1 !=b.1)=true:=by simp [hx]
  go_enter Tryz.func90,Tryz.ntmps90
  go_wp2
  go_ret
  exact ⟨by simp [ltP,hx],((Lay.refl _).alloc _).alloc _⟩
end Go.Proofs.YtmemofonebphfaaGreat
namespace Go.Proofs.YtmemofonebphfaaGreat
open Go.RowKit Go.Sort
def cmpT (s t:Tri):Int:=orI (cmpP s.1 t.1) (cmpP s.2.1 t.2.1) (cmpP s.2.2 t.2.2)
theorem Lay.drew {w w':World} (h:Lay w w'):Lay w w'.drew:=h.trans ⟨1,#[],by simp;rfl⟩
theorem cell_lay {w w':World} {a:Addr} {v:Value} (h:Lay w w') (hc:w.cell? a=some v):w'.cell? a=some v:=
 (h.below.cell (World.block_lt_of_cell? w a hc)).trans hc
theorem Lay.alloc1 (w:World) (o:Obj):Lay w (w.alloc o):=(Lay.refl w).alloc o
theorem Lay.drew1 (w:World):Lay w w.drew:=(Lay.refl w).drew
abbrev cT (t:Tri):Array Value:=#[.int .i64 t.1.1, .int .i64 t.1.2.1, .int .i64 t.1.2.2, .int .i64 t.2.1.1, .int .i64 t.2.1.2.1, .int .i64 t.2.1.2.2, .int .i64 t.2.2.1, .int .i64 t.2.2.2.1, .int .i64 t.2.2.2.2]
end Go.Proofs.YtmemofonebphfaaGreat
namespace Go.Proofs.YtmemofonebphfaaGreat
open Go.RowKit Go.Sort
def rotT (t:Tri):Tri:=if ltP t.2.1 t.1 then (if ltP t.2.2 t.2.1 then (t.2.2,t.1,t.2.1) else (t.2.1,t.2.2,t.1)) else (if ltP t.2.2 t.1 then (t.2.2,t.1,t.2.1) else t)
theorem Lay.setCell {w w':World} (h:Lay w w') {p:Addr} (hp:w.heap.size≤p.block) (u:Value):Lay w (w'.setCell p u):=by
 obtain ⟨n,os,rfl⟩:=h
 refine ⟨n,os.modify (p.block - w.heap.size) fun
   | .cells c elem frozen=> .cells (if p.spot.isSome then c else c.setIfInBounds p.off u) elem frozen
   | o=>o,?_⟩
 unfold World.setCell grow
 simp only
 congr 1
 exact modify_append_right _ _ _ _ hp
attribute [local go_sem ↓] Go.wp_at_zero Go.wp_at_succ
set_option maxHeartbeats 4000000 in
set_option maxRecDepth 100000 in
theorem rotate_any (t:Tri) (w:World):Calls Tryz.prog 85 #[vT t] w fun e w'=>e= .returned (vT (rotT t))∧Lay w w':=by
 have mixed:Tryz.prog.follows .mixedOrders=true:=by kernel_rfl
 go_enter Tryz.func85,Tryz.ntmps85
 go_wp2_with fail
 obtain ⟨W,hW⟩:∃W,W=(w.alloc (.cells (cT t) 46)).alloc (.cells (cT ((0,0,0),(0,0,0),(0,0,0))) 46):=⟨_,rfl⟩
 rw [←hW]
 have hL:Hid (Lay w W):=by rw [hW];exact ((Lay.refl _).alloc _).alloc _
 have b0':Blk W w.heap.size 46 (cT t):=by rw [hW];exact (Blk.new _ _ _).alloc _
 have b1':Blk W (w.heap.size+1) 46 (cT ((0,0,0),(0,0,0),(0,0,0))):=by rw [hW];exact Blk.new' _ _ _ _ (by simp)
 clear hW
 have gr0:∀n os,(grow (W.drewN n) os).cell? ⟨w.heap.size,0,none⟩=some (.int .i64 t.1.1):=fun n os=>cell_grown b0'.lt (b0'.cell 0) n os
 have gr1:∀n os,(grow (W.drewN n) os).cell? ⟨w.heap.size,1,none⟩=some (.int .i64 t.1.2.1):=fun n os=>cell_grown b0'.lt (b0'.cell 1) n os
 have gr2:∀n os,(grow (W.drewN n) os).cell? ⟨w.heap.size,2,none⟩=some (.int .i64 t.1.2.2):=fun n os=>cell_grown b0'.lt (b0'.cell 2) n os
 have gr3:∀n os,(grow (W.drewN n) os).cell? ⟨w.heap.size,3,none⟩=some (.int .i64 t.2.1.1):=fun n os=>cell_grown b0'.lt (b0'.cell 3) n os
 have gr4:∀n os,(grow (W.drewN n) os).cell? ⟨w.heap.size,4,none⟩=some (.int .i64 t.2.1.2.1):=fun n os=>cell_grown b0'.lt (b0'.cell 4) n os
 have gr5:∀n os,(grow (W.drewN n) os).cell? ⟨w.heap.size,5,none⟩=some (.int .i64 t.2.1.2.2):=fun n os=>cell_grown b0'.lt (b0'.cell 5) n os
 have gr6:∀n os,(grow (W.drewN n) os).cell? ⟨w.heap.size,6,none⟩=some (.int .i64 t.2.2.1):=fun n os=>cell_grown b0'.lt (b0'.cell 6) n os
 have gr7:∀n os,(grow (W.drewN n) os).cell? ⟨w.heap.size,7,none⟩=some (.int .i64 t.2.2.2.1):=fun n os=>cell_grown b0'.lt (b0'.cell 7) n os
 have gr8:∀n os,(grow (W.drewN n) os).cell? ⟨w.heap.size,8,none⟩=some (.int .i64 t.2.2.2.2):=fun n os=>cell_grown b0'.lt (b0'.cell 8) n os
 have c0:=hide b0'
 have c1:=hide b1'
 clear b0' b1'
 refine wp_loop_rounds 3 ?_
 cases h1:ltP t.2.1 t.1
 ·cases h2:ltP t.2.2 t.1
  ·rw [rounds_succ]
   go_wp2_with fail
   go_quiet_grown (first | (go_at_call 89;refine Calls.grown_of (less_any _ _ _)))
   simp only [h1]
   obtain ⟨W3,hW3⟩:∃W3,W3=grow (W.drewN nq) osq:=⟨_,rfl⟩
   rw [←hW3]
   have hL3':Lay W W3:=by rw [hW3];exact ⟨_,_,rfl⟩
   clear hW3 nq osq
   clear gr0 gr1 gr2 gr3 gr4 gr5 gr6 gr7 gr8
   have b0':=c0.out.lay hL3'
   have b1':=c1.out.lay hL3'
   have gr0:∀n os,(grow (W3.drewN n) os).cell? ⟨w.heap.size,0,none⟩=some (.int .i64 t.1.1):=fun n os=>cell_grown b0'.lt (b0'.cell 0) n os
   have gr1:∀n os,(grow (W3.drewN n) os).cell? ⟨w.heap.size,1,none⟩=some (.int .i64 t.1.2.1):=fun n os=>cell_grown b0'.lt (b0'.cell 1) n os
   have gr2:∀n os,(grow (W3.drewN n) os).cell? ⟨w.heap.size,2,none⟩=some (.int .i64 t.1.2.2):=fun n os=>cell_grown b0'.lt (b0'.cell 2) n os
   have gr3:∀n os,(grow (W3.drewN n) os).cell? ⟨w.heap.size,3,none⟩=some (.int .i64 t.2.1.1):=fun n os=>cell_grown b0'.lt (b0'.cell 3) n os
   have gr4:∀n os,(grow (W3.drewN n) os).cell? ⟨w.heap.size,4,none⟩=some (.int .i64 t.2.1.2.1):=fun n os=>cell_grown b0'.lt (b0'.cell 4) n os
   have gr5:∀n os,(grow (W3.drewN n) os).cell? ⟨w.heap.size,5,none⟩=some (.int .i64 t.2.1.2.2):=fun n os=>cell_grown b0'.lt (b0'.cell 5) n os
   have gr6:∀n os,(grow (W3.drewN n) os).cell? ⟨w.heap.size,6,none⟩=some (.int .i64 t.2.2.1):=fun n os=>cell_grown b0'.lt (b0'.cell 6) n os
   have gr7:∀n os,(grow (W3.drewN n) os).cell? ⟨w.heap.size,7,none⟩=some (.int .i64 t.2.2.2.1):=fun n os=>cell_grown b0'.lt (b0'.cell 7) n os
   have gr8:∀n os,(grow (W3.drewN n) os).cell? ⟨w.heap.size,8,none⟩=some (.int .i64 t.2.2.2.2):=fun n os=>cell_grown b0'.lt (b0'.cell 8) n os
   have b0:=hide b0'
   have b1:=hide b1'
   have hL3:=hide (hL.out.trans hL3')
   clear b0' b1' hL3' c0 c1
   go_wp2_with fail
   rw [rounds_succ]
   go_wp2_with fail
   go_quiet_grown (first | (go_at_call 89;refine Calls.grown_of (less_any _ _ _)))
   simp only [h2]
   go_wp2
   clear gr0 gr1 gr2 gr3 gr4 gr5 gr6 gr7 gr8
   obtain ⟨W4,hW4⟩:∃W4,W4=grow (W3.drewN nq) osq:=⟨_,rfl⟩
   rw [←hW4]
   have hL4:Lay W3 W4:=by rw [hW4];exact ⟨_,_,rfl⟩
   clear hW4
   have d0:=b0.out.lay hL4
   have d1:=b1.out.lay hL4
   have cl0:W4.cell? ⟨w.heap.size,0,none⟩=some (.int .i64 t.1.1):=d0.cell 0
   have cl1:W4.cell? ⟨w.heap.size,1,none⟩=some (.int .i64 t.1.2.1):=d0.cell 1
   have cl2:W4.cell? ⟨w.heap.size,2,none⟩=some (.int .i64 t.1.2.2):=d0.cell 2
   have cl3:W4.cell? ⟨w.heap.size,3,none⟩=some (.int .i64 t.2.1.1):=d0.cell 3
   have cl4:W4.cell? ⟨w.heap.size,4,none⟩=some (.int .i64 t.2.1.2.1):=d0.cell 4
   have cl5:W4.cell? ⟨w.heap.size,5,none⟩=some (.int .i64 t.2.1.2.2):=d0.cell 5
   have cl6:W4.cell? ⟨w.heap.size,6,none⟩=some (.int .i64 t.2.2.1):=d0.cell 6
   have cl7:W4.cell? ⟨w.heap.size,7,none⟩=some (.int .i64 t.2.2.2.1):=d0.cell 7
   have cl8:W4.cell? ⟨w.heap.size,8,none⟩=some (.int .i64 t.2.2.2.2):=d0.cell 8
   have hz0:=d0.lt
   have hz1:=d1.lt
   have e0:W4.cell? ⟨w.heap.size+1,0,none⟩=some (.int .i64 0):=d1.cell 0
   have e1:W4.cell? ⟨w.heap.size+1,1,none⟩=some (.int .i64 0):=d1.cell 1
   have e2:W4.cell? ⟨w.heap.size+1,2,none⟩=some (.int .i64 0):=d1.cell 2
   have e3:W4.cell? ⟨w.heap.size+1,3,none⟩=some (.int .i64 0):=d1.cell 3
   have e4:W4.cell? ⟨w.heap.size+1,4,none⟩=some (.int .i64 0):=d1.cell 4
   have e5:W4.cell? ⟨w.heap.size+1,5,none⟩=some (.int .i64 0):=d1.cell 5
   have e6:W4.cell? ⟨w.heap.size+1,6,none⟩=some (.int .i64 0):=d1.cell 6
   have e7:W4.cell? ⟨w.heap.size+1,7,none⟩=some (.int .i64 0):=d1.cell 7
   have e8:W4.cell? ⟨w.heap.size+1,8,none⟩=some (.int .i64 0):=d1.cell 8
   have f0:=d1.frozen 0
   have f1:=d1.frozen 1
   have f2:=d1.frozen 2
   have f3:=d1.frozen 3
   have f4:=d1.frozen 4
   have f5:=d1.frozen 5
   have f6:=d1.frozen 6
   have f7:=d1.frozen 7
   have f8:=d1.frozen 8
   have D0:=hide d0
   have D1:=hide d1
   have HL4:=hide (hL3.out.trans hL4)
   clear d0 d1 hL4
   rw [rounds_succ]
   go_wp2_with fail
   have hw0:IntKind.i64.wrap 0=0:=by decide
   have hw1:IntKind.i64.wrap 1=1:=by decide
   have hw2:IntKind.i64.wrap 2=2:=by decide
   have hw3:IntKind.i64.wrap 3=3:=by decide
   have hw4:IntKind.i64.wrap 4=4:=by decide
   go_region_held3 (fun w'=>w'.cell? ⟨w.heap.size,0,none⟩=some (.int .i64 t.1.1)∧w'.cell? ⟨w.heap.size,1,none⟩=some (.int .i64 t.1.2.1)∧w'.cell? ⟨w.heap.size,2,none⟩=some (.int .i64 t.1.2.2)∧w'.cell? ⟨w.heap.size,3,none⟩=some (.int .i64 t.2.1.1)∧w'.cell? ⟨w.heap.size,4,none⟩=some (.int .i64 t.2.1.2.1)∧w'.cell? ⟨w.heap.size,5,none⟩=some (.int .i64 t.2.1.2.2)∧w'.cell? ⟨w.heap.size,6,none⟩=some (.int .i64 t.2.2.1)∧w'.cell? ⟨w.heap.size,7,none⟩=some (.int .i64 t.2.2.2.1)∧w'.cell? ⟨w.heap.size,8,none⟩=some (.int .i64 t.2.2.2.2)) (go_keep) (fail)
   go_wp2
   refine bodyPost_ret (v:=vT (t.1,t.2.1,t.2.2)) (by simp [results,Tryz.results85,go_sem,e0,e1,e2,e3,e4,e5,e6,e7,e8]) rfl ⟨by simp [rotT,h1,h2],?_⟩
   exact (((((((((HL4.out.setCell (by simp) _).setCell (by simp) _).setCell (by simp) _).setCell (by simp) _).setCell (by simp) _).setCell (by simp) _).setCell (by simp) _).setCell (by simp) _).setCell (by simp) _).drew
  ·rw [rounds_succ]
   go_wp2_with fail
   go_quiet_grown (first | (go_at_call 89;refine Calls.grown_of (less_any _ _ _)))
   simp only [h1]
   obtain ⟨W3,hW3⟩:∃W3,W3=grow (W.drewN nq) osq:=⟨_,rfl⟩
   rw [←hW3]
   have hL3':Lay W W3:=by rw [hW3];exact ⟨_,_,rfl⟩
   clear hW3 nq osq
   clear gr0 gr1 gr2 gr3 gr4 gr5 gr6 gr7 gr8
   have b0':=c0.out.lay hL3'
   have b1':=c1.out.lay hL3'
   have gr0:∀n os,(grow (W3.drewN n) os).cell? ⟨w.heap.size,0,none⟩=some (.int .i64 t.1.1):=fun n os=>cell_grown b0'.lt (b0'.cell 0) n os
   have gr1:∀n os,(grow (W3.drewN n) os).cell? ⟨w.heap.size,1,none⟩=some (.int .i64 t.1.2.1):=fun n os=>cell_grown b0'.lt (b0'.cell 1) n os
   have gr2:∀n os,(grow (W3.drewN n) os).cell? ⟨w.heap.size,2,none⟩=some (.int .i64 t.1.2.2):=fun n os=>cell_grown b0'.lt (b0'.cell 2) n os
   have gr3:∀n os,(grow (W3.drewN n) os).cell? ⟨w.heap.size,3,none⟩=some (.int .i64 t.2.1.1):=fun n os=>cell_grown b0'.lt (b0'.cell 3) n os
   have gr4:∀n os,(grow (W3.drewN n) os).cell? ⟨w.heap.size,4,none⟩=some (.int .i64 t.2.1.2.1):=fun n os=>cell_grown b0'.lt (b0'.cell 4) n os
   have gr5:∀n os,(grow (W3.drewN n) os).cell? ⟨w.heap.size,5,none⟩=some (.int .i64 t.2.1.2.2):=fun n os=>cell_grown b0'.lt (b0'.cell 5) n os
   have gr6:∀n os,(grow (W3.drewN n) os).cell? ⟨w.heap.size,6,none⟩=some (.int .i64 t.2.2.1):=fun n os=>cell_grown b0'.lt (b0'.cell 6) n os
   have gr7:∀n os,(grow (W3.drewN n) os).cell? ⟨w.heap.size,7,none⟩=some (.int .i64 t.2.2.2.1):=fun n os=>cell_grown b0'.lt (b0'.cell 7) n os
   have gr8:∀n os,(grow (W3.drewN n) os).cell? ⟨w.heap.size,8,none⟩=some (.int .i64 t.2.2.2.2):=fun n os=>cell_grown b0'.lt (b0'.cell 8) n os
   have b0:=hide b0'
   have b1:=hide b1'
   have hL3:=hide (hL.out.trans hL3')
   clear b0' b1' hL3' c0 c1
   go_wp2_with fail
   rw [rounds_succ]
   go_wp2_with fail
   go_quiet_grown (first | (go_at_call 89;refine Calls.grown_of (less_any _ _ _)))
   simp only [h2]
   go_wp2
   clear gr0 gr1 gr2 gr3 gr4 gr5 gr6 gr7 gr8
   obtain ⟨W4,hW4⟩:∃W4,W4=grow (W3.drewN nq) osq:=⟨_,rfl⟩
   rw [←hW4]
   have hL4:Lay W3 W4:=by rw [hW4];exact ⟨_,_,rfl⟩
   clear hW4
   have d0:=b0.out.lay hL4
   have d1:=b1.out.lay hL4
   have cl0:W4.cell? ⟨w.heap.size,0,none⟩=some (.int .i64 t.1.1):=d0.cell 0
   have cl1:W4.cell? ⟨w.heap.size,1,none⟩=some (.int .i64 t.1.2.1):=d0.cell 1
   have cl2:W4.cell? ⟨w.heap.size,2,none⟩=some (.int .i64 t.1.2.2):=d0.cell 2
   have cl3:W4.cell? ⟨w.heap.size,3,none⟩=some (.int .i64 t.2.1.1):=d0.cell 3
   have cl4:W4.cell? ⟨w.heap.size,4,none⟩=some (.int .i64 t.2.1.2.1):=d0.cell 4
   have cl5:W4.cell? ⟨w.heap.size,5,none⟩=some (.int .i64 t.2.1.2.2):=d0.cell 5
   have cl6:W4.cell? ⟨w.heap.size,6,none⟩=some (.int .i64 t.2.2.1):=d0.cell 6
   have cl7:W4.cell? ⟨w.heap.size,7,none⟩=some (.int .i64 t.2.2.2.1):=d0.cell 7
   have cl8:W4.cell? ⟨w.heap.size,8,none⟩=some (.int .i64 t.2.2.2.2):=d0.cell 8
   have hz0:=d0.lt
   have hz1:=d1.lt
   have e0:W4.cell? ⟨w.heap.size+1,0,none⟩=some (.int .i64 0):=d1.cell 0
   have e1:W4.cell? ⟨w.heap.size+1,1,none⟩=some (.int .i64 0):=d1.cell 1
   have e2:W4.cell? ⟨w.heap.size+1,2,none⟩=some (.int .i64 0):=d1.cell 2
   have e3:W4.cell? ⟨w.heap.size+1,3,none⟩=some (.int .i64 0):=d1.cell 3
   have e4:W4.cell? ⟨w.heap.size+1,4,none⟩=some (.int .i64 0):=d1.cell 4
   have e5:W4.cell? ⟨w.heap.size+1,5,none⟩=some (.int .i64 0):=d1.cell 5
   have e6:W4.cell? ⟨w.heap.size+1,6,none⟩=some (.int .i64 0):=d1.cell 6
   have e7:W4.cell? ⟨w.heap.size+1,7,none⟩=some (.int .i64 0):=d1.cell 7
   have e8:W4.cell? ⟨w.heap.size+1,8,none⟩=some (.int .i64 0):=d1.cell 8
   have f0:=d1.frozen 0
   have f1:=d1.frozen 1
   have f2:=d1.frozen 2
   have f3:=d1.frozen 3
   have f4:=d1.frozen 4
   have f5:=d1.frozen 5
   have f6:=d1.frozen 6
   have f7:=d1.frozen 7
   have f8:=d1.frozen 8
   have D0:=hide d0
   have D1:=hide d1
   have HL4:=hide (hL3.out.trans hL4)
   clear d0 d1 hL4
   rw [rounds_succ]
   go_wp2_with fail
   have hw0:IntKind.i64.wrap 0=0:=by decide
   have hw1:IntKind.i64.wrap 1=1:=by decide
   have hw2:IntKind.i64.wrap 2=2:=by decide
   have hw3:IntKind.i64.wrap 3=3:=by decide
   have hw4:IntKind.i64.wrap 4=4:=by decide
   go_region_held3 (fun w'=>w'.cell? ⟨w.heap.size,0,none⟩=some (.int .i64 t.1.1)∧w'.cell? ⟨w.heap.size,1,none⟩=some (.int .i64 t.1.2.1)∧w'.cell? ⟨w.heap.size,2,none⟩=some (.int .i64 t.1.2.2)∧w'.cell? ⟨w.heap.size,3,none⟩=some (.int .i64 t.2.1.1)∧w'.cell? ⟨w.heap.size,4,none⟩=some (.int .i64 t.2.1.2.1)∧w'.cell? ⟨w.heap.size,5,none⟩=some (.int .i64 t.2.1.2.2)∧w'.cell? ⟨w.heap.size,6,none⟩=some (.int .i64 t.2.2.1)∧w'.cell? ⟨w.heap.size,7,none⟩=some (.int .i64 t.2.2.2.1)∧w'.cell? ⟨w.heap.size,8,none⟩=some (.int .i64 t.2.2.2.2)) (go_keep) (fail)
   go_wp2
   refine bodyPost_ret (v:=vT (t.2.2,t.1,t.2.1)) (by simp [results,Tryz.results85,go_sem,e0,e1,e2,e3,e4,e5,e6,e7,e8]) rfl ⟨by simp [rotT,h1,h2],?_⟩
   exact (((((((((HL4.out.setCell (by simp) _).setCell (by simp) _).setCell (by simp) _).setCell (by simp) _).setCell (by simp) _).setCell (by simp) _).setCell (by simp) _).setCell (by simp) _).setCell (by simp) _).drew
 ·cases h2:ltP t.2.2 t.2.1
  ·rw [rounds_succ]
   go_wp2_with fail
   go_quiet_grown (first | (go_at_call 89;refine Calls.grown_of (less_any _ _ _)))
   simp only [h1]
   obtain ⟨W3,hW3⟩:∃W3,W3=grow (W.drewN nq) osq:=⟨_,rfl⟩
   rw [←hW3]
   have hL3':Lay W W3:=by rw [hW3];exact ⟨_,_,rfl⟩
   clear hW3 nq osq
   clear gr0 gr1 gr2 gr3 gr4 gr5 gr6 gr7 gr8
   have b0':=c0.out.lay hL3'
   have b1':=c1.out.lay hL3'
   have gr0:∀n os,(grow (W3.drewN n) os).cell? ⟨w.heap.size,0,none⟩=some (.int .i64 t.1.1):=fun n os=>cell_grown b0'.lt (b0'.cell 0) n os
   have gr1:∀n os,(grow (W3.drewN n) os).cell? ⟨w.heap.size,1,none⟩=some (.int .i64 t.1.2.1):=fun n os=>cell_grown b0'.lt (b0'.cell 1) n os
   have gr2:∀n os,(grow (W3.drewN n) os).cell? ⟨w.heap.size,2,none⟩=some (.int .i64 t.1.2.2):=fun n os=>cell_grown b0'.lt (b0'.cell 2) n os
   have gr3:∀n os,(grow (W3.drewN n) os).cell? ⟨w.heap.size,3,none⟩=some (.int .i64 t.2.1.1):=fun n os=>cell_grown b0'.lt (b0'.cell 3) n os
   have gr4:∀n os,(grow (W3.drewN n) os).cell? ⟨w.heap.size,4,none⟩=some (.int .i64 t.2.1.2.1):=fun n os=>cell_grown b0'.lt (b0'.cell 4) n os
   have gr5:∀n os,(grow (W3.drewN n) os).cell? ⟨w.heap.size,5,none⟩=some (.int .i64 t.2.1.2.2):=fun n os=>cell_grown b0'.lt (b0'.cell 5) n os
   have gr6:∀n os,(grow (W3.drewN n) os).cell? ⟨w.heap.size,6,none⟩=some (.int .i64 t.2.2.1):=fun n os=>cell_grown b0'.lt (b0'.cell 6) n os
   have gr7:∀n os,(grow (W3.drewN n) os).cell? ⟨w.heap.size,7,none⟩=some (.int .i64 t.2.2.2.1):=fun n os=>cell_grown b0'.lt (b0'.cell 7) n os
   have gr8:∀n os,(grow (W3.drewN n) os).cell? ⟨w.heap.size,8,none⟩=some (.int .i64 t.2.2.2.2):=fun n os=>cell_grown b0'.lt (b0'.cell 8) n os
   have b0:=hide b0'
   have b1:=hide b1'
   have hL3:=hide (hL.out.trans hL3')
   clear b0' b1' hL3' c0 c1
   go_wp2_with fail
   rw [rounds_succ]
   go_wp2_with fail
   go_quiet_grown (first | (go_at_call 89;refine Calls.grown_of (less_any _ _ _)))
   simp only [h2]
   go_wp2
   clear gr0 gr1 gr2 gr3 gr4 gr5 gr6 gr7 gr8
   obtain ⟨W4,hW4⟩:∃W4,W4=grow (W3.drewN nq) osq:=⟨_,rfl⟩
   rw [←hW4]
   have hL4:Lay W3 W4:=by rw [hW4];exact ⟨_,_,rfl⟩
   clear hW4
   have d0:=b0.out.lay hL4
   have d1:=b1.out.lay hL4
   have cl0:W4.cell? ⟨w.heap.size,0,none⟩=some (.int .i64 t.1.1):=d0.cell 0
   have cl1:W4.cell? ⟨w.heap.size,1,none⟩=some (.int .i64 t.1.2.1):=d0.cell 1
   have cl2:W4.cell? ⟨w.heap.size,2,none⟩=some (.int .i64 t.1.2.2):=d0.cell 2
   have cl3:W4.cell? ⟨w.heap.size,3,none⟩=some (.int .i64 t.2.1.1):=d0.cell 3
   have cl4:W4.cell? ⟨w.heap.size,4,none⟩=some (.int .i64 t.2.1.2.1):=d0.cell 4
   have cl5:W4.cell? ⟨w.heap.size,5,none⟩=some (.int .i64 t.2.1.2.2):=d0.cell 5
   have cl6:W4.cell? ⟨w.heap.size,6,none⟩=some (.int .i64 t.2.2.1):=d0.cell 6
   have cl7:W4.cell? ⟨w.heap.size,7,none⟩=some (.int .i64 t.2.2.2.1):=d0.cell 7
   have cl8:W4.cell? ⟨w.heap.size,8,none⟩=some (.int .i64 t.2.2.2.2):=d0.cell 8
   have hz0:=d0.lt
   have hz1:=d1.lt
   have e0:W4.cell? ⟨w.heap.size+1,0,none⟩=some (.int .i64 0):=d1.cell 0
   have e1:W4.cell? ⟨w.heap.size+1,1,none⟩=some (.int .i64 0):=d1.cell 1
   have e2:W4.cell? ⟨w.heap.size+1,2,none⟩=some (.int .i64 0):=d1.cell 2
   have e3:W4.cell? ⟨w.heap.size+1,3,none⟩=some (.int .i64 0):=d1.cell 3
   have e4:W4.cell? ⟨w.heap.size+1,4,none⟩=some (.int .i64 0):=d1.cell 4
   have e5:W4.cell? ⟨w.heap.size+1,5,none⟩=some (.int .i64 0):=d1.cell 5
   have e6:W4.cell? ⟨w.heap.size+1,6,none⟩=some (.int .i64 0):=d1.cell 6
   have e7:W4.cell? ⟨w.heap.size+1,7,none⟩=some (.int .i64 0):=d1.cell 7
   have e8:W4.cell? ⟨w.heap.size+1,8,none⟩=some (.int .i64 0):=d1.cell 8
   have f0:=d1.frozen 0
   have f1:=d1.frozen 1
   have f2:=d1.frozen 2
   have f3:=d1.frozen 3
   have f4:=d1.frozen 4
   have f5:=d1.frozen 5
   have f6:=d1.frozen 6
   have f7:=d1.frozen 7
   have f8:=d1.frozen 8
   have D0:=hide d0
   have D1:=hide d1
   have HL4:=hide (hL3.out.trans hL4)
   clear d0 d1 hL4
   rw [rounds_succ]
   go_wp2_with fail
   have hw0:IntKind.i64.wrap 0=0:=by decide
   have hw1:IntKind.i64.wrap 1=1:=by decide
   have hw2:IntKind.i64.wrap 2=2:=by decide
   have hw3:IntKind.i64.wrap 3=3:=by decide
   have hw4:IntKind.i64.wrap 4=4:=by decide
   go_region_held3 (fun w'=>w'.cell? ⟨w.heap.size,0,none⟩=some (.int .i64 t.1.1)∧w'.cell? ⟨w.heap.size,1,none⟩=some (.int .i64 t.1.2.1)∧w'.cell? ⟨w.heap.size,2,none⟩=some (.int .i64 t.1.2.2)∧w'.cell? ⟨w.heap.size,3,none⟩=some (.int .i64 t.2.1.1)∧w'.cell? ⟨w.heap.size,4,none⟩=some (.int .i64 t.2.1.2.1)∧w'.cell? ⟨w.heap.size,5,none⟩=some (.int .i64 t.2.1.2.2)∧w'.cell? ⟨w.heap.size,6,none⟩=some (.int .i64 t.2.2.1)∧w'.cell? ⟨w.heap.size,7,none⟩=some (.int .i64 t.2.2.2.1)∧w'.cell? ⟨w.heap.size,8,none⟩=some (.int .i64 t.2.2.2.2)) (go_keep) (fail)
   go_wp2
   refine bodyPost_ret (v:=vT (t.2.1,t.2.2,t.1)) (by simp [results,Tryz.results85,go_sem,e0,e1,e2,e3,e4,e5,e6,e7,e8]) rfl ⟨by simp [rotT,h1,h2],?_⟩
   exact (((((((((HL4.out.setCell (by simp) _).setCell (by simp) _).setCell (by simp) _).setCell (by simp) _).setCell (by simp) _).setCell (by simp) _).setCell (by simp) _).setCell (by simp) _).setCell (by simp) _).drew
  ·rw [rounds_succ]
   go_wp2_with fail
   go_quiet_grown (first | (go_at_call 89;refine Calls.grown_of (less_any _ _ _)))
   simp only [h1]
   obtain ⟨W3,hW3⟩:∃W3,W3=grow (W.drewN nq) osq:=⟨_,rfl⟩
   rw [←hW3]
   have hL3':Lay W W3:=by rw [hW3];exact ⟨_,_,rfl⟩
   clear hW3 nq osq
   clear gr0 gr1 gr2 gr3 gr4 gr5 gr6 gr7 gr8
   have b0':=c0.out.lay hL3'
   have b1':=c1.out.lay hL3'
   have gr0:∀n os,(grow (W3.drewN n) os).cell? ⟨w.heap.size,0,none⟩=some (.int .i64 t.1.1):=fun n os=>cell_grown b0'.lt (b0'.cell 0) n os
   have gr1:∀n os,(grow (W3.drewN n) os).cell? ⟨w.heap.size,1,none⟩=some (.int .i64 t.1.2.1):=fun n os=>cell_grown b0'.lt (b0'.cell 1) n os
   have gr2:∀n os,(grow (W3.drewN n) os).cell? ⟨w.heap.size,2,none⟩=some (.int .i64 t.1.2.2):=fun n os=>cell_grown b0'.lt (b0'.cell 2) n os
   have gr3:∀n os,(grow (W3.drewN n) os).cell? ⟨w.heap.size,3,none⟩=some (.int .i64 t.2.1.1):=fun n os=>cell_grown b0'.lt (b0'.cell 3) n os
   have gr4:∀n os,(grow (W3.drewN n) os).cell? ⟨w.heap.size,4,none⟩=some (.int .i64 t.2.1.2.1):=fun n os=>cell_grown b0'.lt (b0'.cell 4) n os
   have gr5:∀n os,(grow (W3.drewN n) os).cell? ⟨w.heap.size,5,none⟩=some (.int .i64 t.2.1.2.2):=fun n os=>cell_grown b0'.lt (b0'.cell 5) n os
   have gr6:∀n os,(grow (W3.drewN n) os).cell? ⟨w.heap.size,6,none⟩=some (.int .i64 t.2.2.1):=fun n os=>cell_grown b0'.lt (b0'.cell 6) n os
   have gr7:∀n os,(grow (W3.drewN n) os).cell? ⟨w.heap.size,7,none⟩=some (.int .i64 t.2.2.2.1):=fun n os=>cell_grown b0'.lt (b0'.cell 7) n os
   have gr8:∀n os,(grow (W3.drewN n) os).cell? ⟨w.heap.size,8,none⟩=some (.int .i64 t.2.2.2.2):=fun n os=>cell_grown b0'.lt (b0'.cell 8) n os
   have b0:=hide b0'
   have b1:=hide b1'
   have hL3:=hide (hL.out.trans hL3')
   clear b0' b1' hL3' c0 c1
   go_wp2_with fail
   rw [rounds_succ]
   go_wp2_with fail
   go_quiet_grown (first | (go_at_call 89;refine Calls.grown_of (less_any _ _ _)))
   simp only [h2]
   go_wp2
   clear gr0 gr1 gr2 gr3 gr4 gr5 gr6 gr7 gr8
   obtain ⟨W4,hW4⟩:∃W4,W4=grow (W3.drewN nq) osq:=⟨_,rfl⟩
   rw [←hW4]
   have hL4:Lay W3 W4:=by rw [hW4];exact ⟨_,_,rfl⟩
   clear hW4
   have d0:=b0.out.lay hL4
   have d1:=b1.out.lay hL4
   have cl0:W4.cell? ⟨w.heap.size,0,none⟩=some (.int .i64 t.1.1):=d0.cell 0
   have cl1:W4.cell? ⟨w.heap.size,1,none⟩=some (.int .i64 t.1.2.1):=d0.cell 1
   have cl2:W4.cell? ⟨w.heap.size,2,none⟩=some (.int .i64 t.1.2.2):=d0.cell 2
   have cl3:W4.cell? ⟨w.heap.size,3,none⟩=some (.int .i64 t.2.1.1):=d0.cell 3
   have cl4:W4.cell? ⟨w.heap.size,4,none⟩=some (.int .i64 t.2.1.2.1):=d0.cell 4
   have cl5:W4.cell? ⟨w.heap.size,5,none⟩=some (.int .i64 t.2.1.2.2):=d0.cell 5
   have cl6:W4.cell? ⟨w.heap.size,6,none⟩=some (.int .i64 t.2.2.1):=d0.cell 6
   have cl7:W4.cell? ⟨w.heap.size,7,none⟩=some (.int .i64 t.2.2.2.1):=d0.cell 7
   have cl8:W4.cell? ⟨w.heap.size,8,none⟩=some (.int .i64 t.2.2.2.2):=d0.cell 8
   have hz0:=d0.lt
   have hz1:=d1.lt
   have e0:W4.cell? ⟨w.heap.size+1,0,none⟩=some (.int .i64 0):=d1.cell 0
   have e1:W4.cell? ⟨w.heap.size+1,1,none⟩=some (.int .i64 0):=d1.cell 1
   have e2:W4.cell? ⟨w.heap.size+1,2,none⟩=some (.int .i64 0):=d1.cell 2
   have e3:W4.cell? ⟨w.heap.size+1,3,none⟩=some (.int .i64 0):=d1.cell 3
   have e4:W4.cell? ⟨w.heap.size+1,4,none⟩=some (.int .i64 0):=d1.cell 4
   have e5:W4.cell? ⟨w.heap.size+1,5,none⟩=some (.int .i64 0):=d1.cell 5
   have e6:W4.cell? ⟨w.heap.size+1,6,none⟩=some (.int .i64 0):=d1.cell 6
   have e7:W4.cell? ⟨w.heap.size+1,7,none⟩=some (.int .i64 0):=d1.cell 7
   have e8:W4.cell? ⟨w.heap.size+1,8,none⟩=some (.int .i64 0):=d1.cell 8
   have f0:=d1.frozen 0
   have f1:=d1.frozen 1
   have f2:=d1.frozen 2
   have f3:=d1.frozen 3
   have f4:=d1.frozen 4
   have f5:=d1.frozen 5
   have f6:=d1.frozen 6
   have f7:=d1.frozen 7
   have f8:=d1.frozen 8
   have D0:=hide d0
   have D1:=hide d1
   have HL4:=hide (hL3.out.trans hL4)
   clear d0 d1 hL4
   rw [rounds_succ]
   go_wp2_with fail
   have hw0:IntKind.i64.wrap 0=0:=by decide
   have hw1:IntKind.i64.wrap 1=1:=by decide
   have hw2:IntKind.i64.wrap 2=2:=by decide
   have hw3:IntKind.i64.wrap 3=3:=by decide
   have hw4:IntKind.i64.wrap 4=4:=by decide
   go_region_held3 (fun w'=>w'.cell? ⟨w.heap.size,0,none⟩=some (.int .i64 t.1.1)∧w'.cell? ⟨w.heap.size,1,none⟩=some (.int .i64 t.1.2.1)∧w'.cell? ⟨w.heap.size,2,none⟩=some (.int .i64 t.1.2.2)∧w'.cell? ⟨w.heap.size,3,none⟩=some (.int .i64 t.2.1.1)∧w'.cell? ⟨w.heap.size,4,none⟩=some (.int .i64 t.2.1.2.1)∧w'.cell? ⟨w.heap.size,5,none⟩=some (.int .i64 t.2.1.2.2)∧w'.cell? ⟨w.heap.size,6,none⟩=some (.int .i64 t.2.2.1)∧w'.cell? ⟨w.heap.size,7,none⟩=some (.int .i64 t.2.2.2.1)∧w'.cell? ⟨w.heap.size,8,none⟩=some (.int .i64 t.2.2.2.2)) (go_keep) (fail)
   go_wp2
   refine bodyPost_ret (v:=vT (t.2.2,t.1,t.2.1)) (by simp [results,Tryz.results85,go_sem,e0,e1,e2,e3,e4,e5,e6,e7,e8]) rfl ⟨by simp [rotT,h1,h2],?_⟩
   exact (((((((((HL4.out.setCell (by simp) _).setCell (by simp) _).setCell (by simp) _).setCell (by simp) _).setCell (by simp) _).setCell (by simp) _).setCell (by simp) _).setCell (by simp) _).setCell (by simp) _).drew
end Go.Proofs.YtmemofonebphfaaGreat
namespace Go.Proofs.YtmemofonebphfaaGreat
open Go.RowKit Go.Sort
attribute [local go_sem ↓] Go.wp_at_zero Go.wp_at_succ
set_option maxHeartbeats 4000000 in
set_option maxRecDepth 100000 in
theorem cmpTris_any (s t:Tri) (w:World):Calls Tryz.prog 87 #[vT s,vT t] w fun e w'=>e= .returned (vi (cmpT s t))∧Lay w w':=by
 go_enter Tryz.func87,Tryz.ntmps87
 go_wp2_with fail
 obtain ⟨W,hW⟩:∃W,W=(w.alloc (.cells (cT s) 46)).alloc (.cells (cT t) 46):=⟨_,rfl⟩
 rw [←hW]
 have hL:Lay w W:=by rw [hW];exact ((Lay.refl _).alloc _).alloc _
 have b0:Blk W w.heap.size 46 (cT s):=by rw [hW];exact (Blk.new _ _ _).alloc _
 have b1:Blk W (w.heap.size+1) 46 (cT t):=by rw [hW];exact Blk.new' _ _ _ _ (by simp)
 clear hW
 have cl0:W.cell? ⟨w.heap.size,0,none⟩=some (.int .i64 s.1.1):=b0.cell 0
 have cl1:W.cell? ⟨w.heap.size,1,none⟩=some (.int .i64 s.1.2.1):=b0.cell 1
 have cl2:W.cell? ⟨w.heap.size,2,none⟩=some (.int .i64 s.1.2.2):=b0.cell 2
 have cl3:W.cell? ⟨w.heap.size,3,none⟩=some (.int .i64 s.2.1.1):=b0.cell 3
 have cl4:W.cell? ⟨w.heap.size,4,none⟩=some (.int .i64 s.2.1.2.1):=b0.cell 4
 have cl5:W.cell? ⟨w.heap.size,5,none⟩=some (.int .i64 s.2.1.2.2):=b0.cell 5
 have cl6:W.cell? ⟨w.heap.size,6,none⟩=some (.int .i64 s.2.2.1):=b0.cell 6
 have cl7:W.cell? ⟨w.heap.size,7,none⟩=some (.int .i64 s.2.2.2.1):=b0.cell 7
 have cl8:W.cell? ⟨w.heap.size,8,none⟩=some (.int .i64 s.2.2.2.2):=b0.cell 8
 have cl9:W.cell? ⟨w.heap.size+1,0,none⟩=some (.int .i64 t.1.1):=b1.cell 0
 have cl10:W.cell? ⟨w.heap.size+1,1,none⟩=some (.int .i64 t.1.2.1):=b1.cell 1
 have cl11:W.cell? ⟨w.heap.size+1,2,none⟩=some (.int .i64 t.1.2.2):=b1.cell 2
 have cl12:W.cell? ⟨w.heap.size+1,3,none⟩=some (.int .i64 t.2.1.1):=b1.cell 3
 have cl13:W.cell? ⟨w.heap.size+1,4,none⟩=some (.int .i64 t.2.1.2.1):=b1.cell 4
 have cl14:W.cell? ⟨w.heap.size+1,5,none⟩=some (.int .i64 t.2.1.2.2):=b1.cell 5
 have cl15:W.cell? ⟨w.heap.size+1,6,none⟩=some (.int .i64 t.2.2.1):=b1.cell 6
 have cl16:W.cell? ⟨w.heap.size+1,7,none⟩=some (.int .i64 t.2.2.2.1):=b1.cell 7
 have cl17:W.cell? ⟨w.heap.size+1,8,none⟩=some (.int .i64 t.2.2.2.2):=b1.cell 8
 clear b0 b1
 go_region_held3 (fun w'=>Lay w w'∧w'.cell? ⟨w.heap.size,0,none⟩=some (.int .i64 s.1.1)∧w'.cell? ⟨w.heap.size,1,none⟩=some (.int .i64 s.1.2.1)∧w'.cell? ⟨w.heap.size,2,none⟩=some (.int .i64 s.1.2.2)∧w'.cell? ⟨w.heap.size,3,none⟩=some (.int .i64 s.2.1.1)∧w'.cell? ⟨w.heap.size,4,none⟩=some (.int .i64 s.2.1.2.1)∧w'.cell? ⟨w.heap.size,5,none⟩=some (.int .i64 s.2.1.2.2)∧w'.cell? ⟨w.heap.size,6,none⟩=some (.int .i64 s.2.2.1)∧w'.cell? ⟨w.heap.size,7,none⟩=some (.int .i64 s.2.2.2.1)∧w'.cell? ⟨w.heap.size,8,none⟩=some (.int .i64 s.2.2.2.2)∧w'.cell? ⟨w.heap.size+1,0,none⟩=some (.int .i64 t.1.1)∧w'.cell? ⟨w.heap.size+1,1,none⟩=some (.int .i64 t.1.2.1)∧w'.cell? ⟨w.heap.size+1,2,none⟩=some (.int .i64 t.1.2.2)∧w'.cell? ⟨w.heap.size+1,3,none⟩=some (.int .i64 t.2.1.1)∧w'.cell? ⟨w.heap.size+1,4,none⟩=some (.int .i64 t.2.1.2.1)∧w'.cell? ⟨w.heap.size+1,5,none⟩=some (.int .i64 t.2.1.2.2)∧w'.cell? ⟨w.heap.size+1,6,none⟩=some (.int .i64 t.2.2.1)∧w'.cell? ⟨w.heap.size+1,7,none⟩=some (.int .i64 t.2.2.2.1)∧w'.cell? ⟨w.heap.size+1,8,none⟩=some (.int .i64 t.2.2.2.2))
  ((go_split_ands;first
   | (refine ⟨Lay.trans (by with_reducible assumption) hLx,?_,?_,?_,?_,?_,?_,?_,?_,?_,?_,?_,?_,?_,?_,?_,?_,?_,?_⟩ <;>exact cell_lay hLx (by with_reducible assumption))
   | (refine ⟨Lay.alloc (by with_reducible assumption) _,?_,?_,?_,?_,?_,?_,?_,?_,?_,?_,?_,?_,?_,?_,?_,?_,?_,?_⟩ <;>exact cell_lay (Lay.alloc1 _ _) (by with_reducible assumption))
   | (refine ⟨Lay.drew (by with_reducible assumption),?_,?_,?_,?_,?_,?_,?_,?_,?_,?_,?_,?_,?_,?_,?_,?_,?_,?_⟩ <;>exact cell_lay (Lay.drew1 _) (by with_reducible assumption))
   | go_keep))
  (first | (go_at_call 53;refine (cmpPoints_any _ _ _).mono ?_;rintro e wx ⟨rfl,hLx⟩) | (go_at_call 104;refine (or_any _ 3 _ _ _ _ ((Blk.new wx 3 _).cell 0) ((Blk.new wx 3 _).cell 1) ((Blk.new wx 3 _).cell 2)).mono ?_;rintro e wx ⟨rfl,rfl⟩))
 go_wp2
 go_ret
 go_split_ands
 exact ⟨rfl,by with_reducible assumption⟩
end Go.Proofs.YtmemofonebphfaaGreat
