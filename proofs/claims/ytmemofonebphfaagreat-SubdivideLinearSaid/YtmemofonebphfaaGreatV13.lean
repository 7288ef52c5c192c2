import Derived.Sort.Grow
import Derived.Deep.QuietTactic
import Derived.BigQuiet
import Derived.LoopN
import Derived.Laws.EntriesVeiled
import Derived.Shelf.SlSortCmp.QuietGrown
import Derived.Test.YtmemofonebphfaaGreatV8
namespace Go.Proofs.YtmemofonebphfaaGreat
open Go.RowKit Go.Sort
def Lay (w w':World):Prop:=∃n os,w'=grow (w.drewN n) os
theorem Lay.refl (w:World):Lay w w:=⟨0,#[],by simp;rfl⟩
theorem Lay.alloc {w w':World} (h:Lay w w') (o:Obj):Lay w (w'.alloc o):=by
 obtain ⟨n,os,rfl⟩:=h
 exact ⟨n,os++#[o],by rw [alloc_eq_grow,grow_grow]⟩
theorem Lay.trans {a b c:World} (h:Lay a b) (k:Lay b c):Lay a c:=by
 obtain ⟨n,os,rfl⟩:=h
 obtain ⟨m,os',rfl⟩:=k
 exact ⟨n+m,os++os',by show grow (grow ((a.drewN n).drewN m) os) os'=_;rw [grow_grow,World.drewN_drewN]⟩
theorem Lay.below {w w':World} (h:Lay w w'):Below w.heap.size w w':=by
 obtain ⟨n,os,rfl⟩:=h
 exact ⟨rfl,rfl,rfl,by simp,fun k hk=>heap_grow_old (w.drewN n) os hk⟩
end Go.Proofs.YtmemofonebphfaaGreat
namespace Go.Proofs.YtmemofonebphfaaGreat
open Go.RowKit Go.Sort
def ltP (a b:Pt):Bool:=if a.1≠b.1 then decide (a.1 < b.1) else if a.2.1≠b.2.1 then decide (a.2.1 < b.2.1) else decide (a.2.2 < b.2.2)
theorem ptx_any (p:Pt) (w:World):Calls Tryz.prog 146 #[vP p] w fun e w'=>e= .returned (vi p.1)∧Lay w w':=by
 go_enter Tryz.func146,Tryz.ntmps146
 go_wp2
 go_ret
 exact ⟨rfl,(Lay.refl _).alloc _⟩
theorem pty_any (p:Pt) (w:World):Calls Tryz.prog 147 #[vP p] w fun e w'=>e= .returned (vi p.2.1)∧Lay w w':=by
 go_enter Tryz.func147,Tryz.ntmps147
 go_wp2
 go_ret
 exact ⟨rfl,(Lay.refl _).alloc _⟩
theorem ptz_any (p:Pt) (w:World):Calls Tryz.prog 148 #[vP p] w fun e w'=>e= .returned (vi p.2.2)∧Lay w w':=by
 go_enter Tryz.func148,Tryz.ntmps148
 go_wp2
 go_ret
 exact ⟨rfl,(Lay.refl _).alloc _⟩
theorem axes_any (w:World):Calls Tryz.prog 116 #[] w fun e w'=>e= .returned (.agg #[.func (.func 146) #[] #[], .func (.func 147) #[] #[], .func (.func 148) #[] #[]])∧Lay w w':=by
 go_enter Tryz.func116,Tryz.ntmps116
 go_wp2
 go_returns
 exact ⟨rfl,(Lay.refl _).alloc _⟩
theorem idxF0 (a b c:Value) (w:World):(Instr.index 158 (.agg #[a,b,c]) (.int .i64 0)).run Tryz.prog w= .ok a w:=by kernel_rfl
theorem idxF1 (a b c:Value) (w:World):(Instr.index 158 (.agg #[a,b,c]) (.int .i64 1)).run Tryz.prog w= .ok b w:=by kernel_rfl
theorem idxF2 (a b c:Value) (w:World):(Instr.index 158 (.agg #[a,b,c]) (.int .i64 2)).run Tryz.prog w= .ok c w:=by kernel_rfl
attribute [local go_sem] idxF0 idxF1 idxF2
theorem cells_grown {w:World} {g:Nat} {t:TypeId} {p:Pt} (h:Blk w g t #[.int .i64 p.1, .int .i64 p.2.1, .int .i64 p.2.2]):
  (∀n os,(grow (w.drewN n) os).cell? ⟨g,0,none⟩=some (.int .i64 p.1))∧(∀n os,(grow (w.drewN n) os).cell? ⟨g,1,none⟩=some (.int .i64 p.2.1))∧(∀n os,(grow (w.drewN n) os).cell? ⟨g,2,none⟩=some (.int .i64 p.2.2)):=
 ⟨fun n os=>cell_grown h.lt (h.cell 0) n os,fun n os=>cell_grown h.lt (h.cell 1) n os,fun n os=>cell_grown h.lt (h.cell 2) n os⟩
theorem Blk.lay {w w':World} {g:Nat} {t:TypeId} {cs:Array Value} (h:Blk w g t cs) (hL:Lay w w'):Blk w' g t cs:=h.below hL.below h.lt
set_option maxHeartbeats 1000000 in
set_option maxRecDepth 100000 in
theorem less_any (a b:Pt) (w:World):Calls Tryz.prog 89 #[vP a,vP b] w fun e w'=>e= .returned (.bool (ltP a b))∧Lay w w':=by
 have mixed:Tryz.prog.follows .mixedOrders=true:=by kernel_rfl
 go_enter Tryz.func89,Tryz.ntmps89
 go_wp2_with (go_at_call 116;refine (axes_any _).mono ?_;rintro e w1 ⟨rfl,hL1⟩)
 have b0:Blk w1 w.heap.size 43 #[.int .i64 a.1, .int .i64 a.2.1, .int .i64 a.2.2]:=((Blk.new _ _ _).alloc _).lay hL1
 have b1:Blk w1 (w.heap.size+1) 43 #[.int .i64 b.1, .int .i64 b.2.1, .int .i64 b.2.2]:=(Blk.new' _ _ _ _ (by simp)).lay hL1
 have hL:Lay w w1:=(((Lay.refl _).alloc _).alloc _).trans hL1
 clear hL1
 go_loopw [10] (fun i wr=>∃j:Nat,j≤3∧i= .int .i64 j∧Lay w wr∧Blk wr w.heap.size 43 #[.int .i64 a.1, .int .i64 a.2.1, .int .i64 a.2.2]∧
   Blk wr (w.heap.size+1) 43 #[.int .i64 b.1, .int .i64 b.2.1, .int .i64 b.2.2]∧(0 < j→a.1=b.1)∧(1 < j→a.2.1=b.2.1)∧(2 < j→a.2.2=b.2.2)) (fun i _=>3 - (intOf i).toNat)
 case atStart=>exact ⟨0,by omega,rfl,hL,b0,b1,by omega,by omega,by omega⟩
 case round=>
  obtain ⟨j,hj,rfl,hLr,b0,b1,e0,e1,e2⟩:=hrel
  obtain ⟨a0,a1,a2⟩:=cells_grown b0
  obtain ⟨c0,c1,c2⟩:=cells_grown b1
  have B0:=hide b0
  have B1:=hide b1
  have E0:=hide e0
  have E1:=hide e1
  have E2:=hide e2
  clear b0 b1 e0 e1 e2
  have hj':j=0∨j=1∨j=2∨j=3:=by omega
  rcases hj' with rfl | rfl | rfl | rfl
  ·by_cases h:a.1=b.1
   ·have hne:(a.1 !=b.1)=false:=by simp [h]
    have H:=hide h
    clear h
    go_wp2_with fail
    go_quiet_grown (first | (go_at_call 146;refine Calls.grown_of (ptx_any _ _)))
    go_wp2
    go_roundw
    case rel=>exact ⟨0+1,by omega,rfl,hLr.trans ⟨_,_,rfl⟩,B0.out.lay ⟨_,_,rfl⟩,B1.out.lay ⟨_,_,rfl⟩,fun _=>H.out,by omega,by omega⟩
    case measure=>simp [intOf]
   ·have hne:(a.1 !=b.1)=true:=by simp [h]
    have H:=hide h
    clear h
    go_wp2_with fail
    go_quiet_grown (first | (go_at_call 146;refine Calls.grown_of (ptx_any _ _)))
    go_wp2
    go_ret
    exact ⟨by have h:=H.out;simp [ltP,h],hLr.trans ⟨_,_,rfl⟩⟩
  ·by_cases h:a.2.1=b.2.1
   ·have hne:(a.2.1 !=b.2.1)=false:=by simp [h]
    have H:=hide h
    clear h
    go_wp2_with fail
    go_quiet_grown (first | (go_at_call 147;refine Calls.grown_of (pty_any _ _)))
    go_wp2
    go_roundw
    case rel=>exact ⟨1+1,by omega,rfl,hLr.trans ⟨_,_,rfl⟩,B0.out.lay ⟨_,_,rfl⟩,B1.out.lay ⟨_,_,rfl⟩,fun _=>E0.out (by omega),fun _=>H.out,by omega⟩
    case measure=>simp [intOf]
   ·have hne:(a.2.1 !=b.2.1)=true:=by simp [h]
    have H:=hide h
    clear h
    go_wp2_with fail
    go_quiet_grown (first | (go_at_call 147;refine Calls.grown_of (pty_any _ _)))
    go_wp2
    go_ret
    exact ⟨by have h:=H.out;have e0':=E0.out (by omega);simp [ltP,e0',h],hLr.trans ⟨_,_,rfl⟩⟩
  ·by_cases h:a.2.2=b.2.2
   ·have hne:(a.2.2 !=b.2.2)=false:=by simp [h]
    have H:=hide h
    clear h
    go_wp2_with fail
    go_quiet_grown (first | (go_at_call 148;refine Calls.grown_of (ptz_any _ _)))
    go_wp2
    go_roundw
    case rel=>exact ⟨2+1,by omega,rfl,hLr.trans ⟨_,_,rfl⟩,B0.out.lay ⟨_,_,rfl⟩,B1.out.lay ⟨_,_,rfl⟩,fun _=>E0.out (by omega),fun _=>E1.out (by omega),fun _=>H.out⟩
    case measure=>simp [intOf]
   ·have hne:(a.2.2 !=b.2.2)=true:=by simp [h]
    have H:=hide h
    clear h
    go_wp2_with fail
    go_quiet_grown (first | (go_at_call 148;refine Calls.grown_of (ptz_any _ _)))
    go_wp2
    go_ret
    exact ⟨by have e0':=E0.out (by omega);have e1':=E1.out (by omega);simp [ltP,e0',e1'],hLr.trans ⟨_,_,rfl⟩⟩
  ·go_wp2
   go_ret
   exact ⟨by have e0':=E0.out (by omega);have e1':=E1.out (by omega);have e2':=E2.out (by omega);simp [ltP,e0',e1',e2'],hLr⟩
def cmpP (a b:Pt):Int:=if ltP a b then -1 else if ltP b a then 1 else 0
set_option maxHeartbeats 1000000 in
theorem cmpPoints_any (a b:Pt) (w:World):Calls Tryz.prog 53 #[vP a,vP b] w fun e w'=>e= .returned (vi (cmpP a b))∧Lay w w':=by
 have hc:=fun (x y:Pt) W=>less_any x y W
 go_enter Tryz.func53,Tryz.ntmps53
 go_wp2_with fail
 refine (less_any a b _).mono ?_
 rintro e w1 ⟨rfl,hL1⟩
 have b0:Blk w1 w.heap.size 43 #[.int .i64 a.1, .int .i64 a.2.1, .int .i64 a.2.2]:=((Blk.new _ _ _).alloc _).lay hL1
 have b1:Blk w1 (w.heap.size+1) 43 #[.int .i64 b.1, .int .i64 b.2.1, .int .i64 b.2.2]:=(Blk.new' _ _ _ _ (by simp)).lay hL1
 have hL:Lay w w1:=(((Lay.refl _).alloc _).alloc _).trans hL1
 clear hL1 hc
 have a0:w1.cell? ⟨w.heap.size,0,none⟩=some (.int .i64 a.1):=b0.cell 0
 have a1:w1.cell? ⟨w.heap.size,1,none⟩=some (.int .i64 a.2.1):=b0.cell 1
 have a2:w1.cell? ⟨w.heap.size,2,none⟩=some (.int .i64 a.2.2):=b0.cell 2
 have c0:w1.cell? ⟨w.heap.size+1,0,none⟩=some (.int .i64 b.1):=b1.cell 0
 have c1:w1.cell? ⟨w.heap.size+1,1,none⟩=some (.int .i64 b.2.1):=b1.cell 1
 have c2:w1.cell? ⟨w.heap.size+1,2,none⟩=some (.int .i64 b.2.2):=b1.cell 2
 clear b0 b1
 cases h:ltP a b
 ·go_wp2_with fail
  refine (less_any b a _).mono ?_
  rintro e w2 ⟨rfl,hL2⟩
  cases h2:ltP b a
  ·go_wp2
   go_ret
   exact ⟨by simp [cmpP,h,h2],hL.trans hL2⟩
  ·go_wp2
   go_ret
   exact ⟨by simp [cmpP,h,h2],hL.trans hL2⟩
 ·go_wp2
  go_ret
  exact ⟨by simp [cmpP,h],hL⟩
end Go.Proofs.YtmemofonebphfaaGreat
