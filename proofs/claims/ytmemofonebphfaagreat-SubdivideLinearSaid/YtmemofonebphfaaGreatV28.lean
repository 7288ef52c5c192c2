import Derived.StillTailTactics
import Derived.Deep.WholeRow
import Derived.Great.BuildSlice
import Derived.Great.Walk
import Derived.Test.YtmemofonebphfaaGreatV21
namespace Go.Proofs.YtmemofonebphfaaGreat
open Go.RowKit Go.Sort
def stpV (f j:Nat):Int:=([[0,0,-1], [0,0,1], [0,-1,0], [0,1,0], [-1,0,0], [1,0,0]].getD f [0,0,0]).getD j 0
def stpA:Array Value:=#[.int .i64 0, .int .i64 0, .int .i64 (-1), .int .i64 0, .int .i64 0, .int .i64 1, .int .i64 0, .int .i64 (-1), .int .i64 0, .int .i64 0, .int .i64 1, .int .i64 0, .int .i64 (-1), .int .i64 0, .int .i64 0, .int .i64 1, .int .i64 0, .int .i64 0]
def stpZ:Array Value:=#[.int .i64 0, .int .i64 0, .int .i64 0, .int .i64 0, .int .i64 0, .int .i64 0, .int .i64 0, .int .i64 0, .int .i64 0, .int .i64 0, .int .i64 0, .int .i64 0, .int .i64 0, .int .i64 0, .int .i64 0, .int .i64 0, .int .i64 0, .int .i64 0]
theorem stp_b0 (a:Act):Tryz.prog.built 35 ((#[(0, .const (.int .i64 0)),(1, .const (.int .i64 0)),(2, .const (.int .i64 (-1)))]:Array (Nat × Operand)).map fun (i,x)=>(i,a.eval x)).toList=some #[.int .i64 0, .int .i64 0, .int .i64 (-1)]:=by kernel_rfl
theorem stp_b1 (a:Act):Tryz.prog.built 35 ((#[(0, .const (.int .i64 0)),(1, .const (.int .i64 0)),(2, .const (.int .i64 1))]:Array (Nat × Operand)).map fun (i,x)=>(i,a.eval x)).toList=some #[.int .i64 0, .int .i64 0, .int .i64 1]:=by kernel_rfl
theorem stp_b2 (a:Act):Tryz.prog.built 35 ((#[(0, .const (.int .i64 0)),(1, .const (.int .i64 (-1))),(2, .const (.int .i64 0))]:Array (Nat × Operand)).map fun (i,x)=>(i,a.eval x)).toList=some #[.int .i64 0, .int .i64 (-1), .int .i64 0]:=by kernel_rfl
theorem stp_b3 (a:Act):Tryz.prog.built 35 ((#[(0, .const (.int .i64 0)),(1, .const (.int .i64 1)),(2, .const (.int .i64 0))]:Array (Nat × Operand)).map fun (i,x)=>(i,a.eval x)).toList=some #[.int .i64 0, .int .i64 1, .int .i64 0]:=by kernel_rfl
theorem stp_b4 (a:Act):Tryz.prog.built 35 ((#[(0, .const (.int .i64 (-1))),(1, .const (.int .i64 0)),(2, .const (.int .i64 0))]:Array (Nat × Operand)).map fun (i,x)=>(i,a.eval x)).toList=some #[.int .i64 (-1), .int .i64 0, .int .i64 0]:=by kernel_rfl
theorem stp_b5 (a:Act):Tryz.prog.built 35 ((#[(0, .const (.int .i64 1)),(1, .const (.int .i64 0)),(2, .const (.int .i64 0))]:Array (Nat × Operand)).map fun (i,x)=>(i,a.eval x)).toList=some #[.int .i64 1, .int .i64 0, .int .i64 0]:=by kernel_rfl
theorem stp_b6 (a:Act) (h0:a.eval (.tmp 59)= .agg #[.int .i64 0, .int .i64 0, .int .i64 (-1)]) (h1:a.eval (.tmp 60)= .agg #[.int .i64 0, .int .i64 0, .int .i64 1]) (h2:a.eval (.tmp 61)= .agg #[.int .i64 0, .int .i64 (-1), .int .i64 0]) (h3:a.eval (.tmp 62)= .agg #[.int .i64 0, .int .i64 1, .int .i64 0]) (h4:a.eval (.tmp 63)= .agg #[.int .i64 (-1), .int .i64 0, .int .i64 0]) (h5:a.eval (.tmp 64)= .agg #[.int .i64 1, .int .i64 0, .int .i64 0]):Tryz.prog.built 138 ((#[(0, .tmp 59),(1, .tmp 60),(2, .tmp 61),(3, .tmp 62),(4, .tmp 63),(5, .tmp 64)]:Array (Nat × Operand)).map fun (i,x)=>(i,a.eval x)).toList=some stpA:=by
 rw [show ((#[(0, .tmp 59),(1, .tmp 60),(2, .tmp 61),(3, .tmp 62),(4, .tmp 63),(5, .tmp 64)]:Array (Nat × Operand)).map fun (i,x)=>(i,a.eval x))=#[(0,a.eval (.tmp 59)),(1,a.eval (.tmp 60)),(2,a.eval (.tmp 61)),(3,a.eval (.tmp 62)),(4,a.eval (.tmp 63)),(5,a.eval (.tmp 64))] by simp,h0,h1,h2,h3,h4,h5]
 kernel_rfl
theorem stp_al (ρ:Operand→Value) (o:Oper) (ho:o.op= .alloc 138) (W:World):(execOp ρ o).run Tryz.prog W= .ok (.value (.pointer (some ⟨W.heap.size,0,none⟩))) (W.alloc (.cells stpZ 138)):=by
 unfold execOp
 rw [ho]
 kernel_rfl
theorem stp_sz:(Tryz.prog.info? 138).map (·.size)=some stpA.size:=by kernel_rfl
theorem stp_one:stpA.all (·.oneCell')=true:=by kernel_rfl
def insV4 (u v w:Int):Bool:=decide (0≤u∧u < 3∧0≤v∧v < 3∧0≤w∧w < 3)
def nbrOK (n f:Nat):Bool:=match nbrV n f with
 | none=> !insV4 ((n % 3:Nat)+stpV f 0) ((n / 3 % 3:Nat)+stpV f 1) ((n / 9:Nat)+stpV f 2)
 | some m=>decide (m < 27∧((n % 3:Nat):Int)+stpV f 0=(m % 3:Nat)∧((n / 3 % 3:Nat):Int)+stpV f 1=(m / 3 % 3:Nat)∧((n / 9:Nat):Int)+stpV f 2=(m / 9:Nat))
theorem nbr_all:((List.range 27).all fun n=>(List.range 6).all (nbrOK n))=true:=by decide+kernel
theorem nbr_ok {n f:Nat} (hn:n < 27) (hf:f < 6):nbrOK n f=true:=List.all_eq_true.1 (List.all_eq_true.1 nbr_all n (List.mem_range.2 hn)) f (List.mem_range.2 hf)
theorem cube_side (g:Nat→Pt) {f:Nat} (hf:f < 6):∃t u,sideP g f= [t,u]∧(cubeP g)[2*f]? =some t∧(cubeP g)[2*f+1]? =some u:=by
 have h:f=0∨f=1∨f=2∨f=3∨f=4∨f=5:=by omega
 rcases h with rfl | rfl | rfl | rfl | rfl | rfl <;>exact ⟨_,_,rfl,rfl,rfl⟩
def voxR (o:Pt) (s:Int):Prop:=(0≤s∧s≤1000)∧(-2199023255552≤o.1∧o.1≤2199023255552)∧(-2199023255552≤o.2.1∧o.2.1≤2199023255552)∧(-2199023255552≤o.2.2∧o.2.2≤2199023255552)
theorem small3 {a s:Int} (ha:0≤a∧a < 3) (hs:0≤s∧s≤1000):0≤a*s∧a*s≤2000:=by
 have h:a=0∨a=1∨a=2:=by omega
 rcases h with rfl | rfl | rfl <;>omega
set_option maxRecDepth 100000 in
set_option maxHeartbeats 64000000 in
theorem voxels_any (b:Nat) (hb:b < 134217728) (s:Int) (o:Pt) (w:World) (hr:voxR o s):
  Calls Tryz.prog 69 #[.int .i64 b, .int .i64 s,vP o] w fun e w'=>∃v,e= .returned v∧Own encT 9 46 w' w.heap.size v (voxP b.testBit o s).length (voxP b.testBit o s)∧Below w.heap.size w w':=by
 obtain ⟨ox,oy,oz⟩:=o
 obtain ⟨hs,hx,hy,hz⟩:=hr
 dsimp only at hx hy hz
 have HR:=hide (And.intro hs (And.intro hx (And.intro hy hz)))
 have HBt:=hide hb
 obtain ⟨B,hB⟩:∃B,B=b.testBit:=⟨_,rfl⟩
 have HBB:=hide hB
 rw [←hB]
 clear hB hs hx hy hz
 go_enter Tryz.func69,Tryz.ntmps69
 go_wp2_with fail
 obtain ⟨ob,hob⟩:∃b,b=w.heap.size:=⟨_,rfl⟩
 obtain ⟨X,hX⟩:∃X,X=w.alloc (.cells #[.int .i64 ox, .int .i64 oy, .int .i64 oz] 43):=⟨_,rfl⟩
 rw [←hX,←hob]
 have hbo:Blk X ob 43 #[.int .i64 ox, .int .i64 oy, .int .i64 oz]:=by rw [hX,hob];exact Blk.new _ _ _
 have hBX:Below w.heap.size w X:=by rw [hX];exact (Below.refl _ w).alloc (Nat.le_refl _) _
 have HX:=hide (And.intro hbo hBX)
 clear hbo hBX hX hob
 go_loopw [7,8] (fun ov nv wr=>∃(n M:Nat),n≤27∧nv= .int .i64 n∧Own encT 9 46 wr X.heap.size ov M (voxL B (ox,oy,oz) s n)∧Below X.heap.size X wr) (fun _ nv _=>27 - (intOf nv).toNat)
 case atStart=>exact ⟨0,0,by omega,rfl,Own.nil,Below.refl _ X⟩
 case round=>
  obtain ⟨n,M,hn,rfl,hown,hB⟩:=hrel
  obtain ⟨R,rfl⟩:∃x,x=wr:=⟨_,rfl⟩
  by_cases hlt:n < 27
  ·have i1:(n:Int) < 27:=by omega
   have hsucc:=voxL_succ B (ox,oy,oz) s n
   have hbR:=HX.out.1.below hB HX.out.1.lt
   have hMl:=hown.1
   have hMb:M≤324:=by rw [hMl];have:=voxL_le B (ox,oy,oz) s n;omega
   have hlb:=hbR.lt
   have g0:R.cell? ⟨ob,0,none⟩=some (.int .i64 ox):=hbR.cell 0
   have g1:R.cell? ⟨ob,1,none⟩=some (.int .i64 oy):=hbR.cell 1
   have g2:R.cell? ⟨ob,2,none⟩=some (.int .i64 oz):=hbR.cell 2
   have hbit:bits .and .i64 ((b:Int) / 2^n) 1=if B n=true then 1 else 0:=by rw [HBB.out];exact bit_and b n
   have HR0:=hide (And.intro hown (And.intro hB (And.intro hbR (And.intro hMl hMb))))
   have HSc:=hide hsucc
   clear hown hB hbR hMl hMb hsucc
   by_cases hbn:B n=true
   ·rw [if_pos hbn] at hbit
    have HBn:=hide hbn
    clear hbn
    go_upto_region 9 with fail
    clear hbit
    obtain ⟨x,hx⟩:∃x,x=(n:Int) % 3:=⟨_,rfl⟩
    obtain ⟨y,hy⟩:∃y,y=(n:Int) / 3 % 3:=⟨_,rfl⟩
    obtain ⟨z,hz⟩:∃z,z=(n:Int) / 9:=⟨_,rfl⟩
    rw [←hx,←hy,←hz]
    have bx:0≤x∧x < 3:=by omega
    have by1:0≤y∧y < 3:=by omega
    have bz:0≤z∧z < 3:=by omega
    have HXY:=hide (And.intro hx (And.intro hy hz))
    clear hx hy hz
    obtain ⟨px,hpx⟩:∃p,p=x*s:=⟨_,rfl⟩
    obtain ⟨py,hpy⟩:∃p,p=y*s:=⟨_,rfl⟩
    obtain ⟨pz,hpz⟩:∃p,p=z*s:=⟨_,rfl⟩
    have qx:=small3 bx HR.out.1
    have qy:=small3 by1 HR.out.1
    have qz:=small3 bz HR.out.1
    rw [←hpx] at qx
    rw [←hpy] at qy
    rw [←hpz] at qz
    have m1:IntKind.i64.wrap (x*s)=px:=by rw [←hpx];exact IntWalk.i64_in _ (by omega)
    have m2:IntKind.i64.wrap (y*s)=py:=by rw [←hpy];exact IntWalk.i64_in _ (by omega)
    have m3:IntKind.i64.wrap (z*s)=pz:=by rw [←hpz];exact IntWalk.i64_in _ (by omega)
    obtain ⟨cx,hcx⟩:∃p,p=ox+px:=⟨_,rfl⟩
    obtain ⟨cy,hcy⟩:∃p,p=oy+py:=⟨_,rfl⟩
    obtain ⟨cz,hcz⟩:∃p,p=oz+pz:=⟨_,rfl⟩
    have r1:IntKind.i64.wrap (ox+px)=cx:=by rw [←hcx];exact IntWalk.i64_in _ (by have:=HR.out.2.1;omega)
    have r2:IntKind.i64.wrap (oy+py)=cy:=by rw [←hcy];exact IntWalk.i64_in _ (by have:=HR.out.2.2.1;omega)
    have r3:IntKind.i64.wrap (oz+pz)=cz:=by rw [←hcz];exact IntWalk.i64_in _ (by have:=HR.out.2.2.2;omega)
    have hcc:(cx,cy,cz)=voxC (ox,oy,oz) s n:=by
     rw [hcx,hcy,hcz,hpx,hpy,hpz,HXY.out.1,HXY.out.2.1,HXY.out.2.2]
     simp only [voxC]
     norm_cast
    have hcr:cubeR (cx,cy,cz) s:=by
     have h1:=HR.out
     unfold cubeR fits
     dsimp only
     omega
    have HC:=hide (And.intro hcc hcr)
    clear hcc hcr hpx hpy hpz hcx hcy hcz
    go_upto_region 10 with fail
    clear m1 m2 m3 r1 r2 r3 qx qy qz g0 g1 g2
    obtain ⟨pb,hpb⟩:∃g,g=R.heap.size:=⟨_,rfl⟩
    obtain ⟨Y0,hY0⟩:∃Y,Y=R.alloc (.cells #[.int .i64 cx, .int .i64 cy, .int .i64 cz] 43):=⟨_,rfl⟩
    rw [←hpb,←hY0]
    have hbp:Blk Y0 pb 43 #[.int .i64 cx, .int .i64 cy, .int .i64 cz]:=by rw [hY0,hpb];exact Blk.new _ _ _
    have ho0:Own encT 9 46 Y0 X.heap.size u7 M (voxL B (ox,oy,oz) s n):=by rw [hY0];exact HR0.out.1.alloc _
    have hB0:Below X.heap.size X Y0:=by rw [hY0];exact HR0.out.2.1.alloc HR0.out.2.1.size _
    have g0:Y0.cell? ⟨pb,0,none⟩=some (.int .i64 cx):=hbp.cell 0
    have g1:Y0.cell? ⟨pb,1,none⟩=some (.int .i64 cy):=hbp.cell 1
    have g2:Y0.cell? ⟨pb,2,none⟩=some (.int .i64 cz):=hbp.cell 2
    have hlp:=hbp.lt
    have HY0:=hide (And.intro ho0 hB0)
    clear ho0 hB0 hbp hY0 hpb hlb
    go_upto_region 11 with (go_at_call 97;refine (cube_any (cx,cy,cz) s Y0 HC.out.2).mono ?_;rintro e Y1 ⟨v,rfl,ho1,hB1⟩;obtain ⟨cg,cc,rfl,hcge,hclt⟩:=ho1.at (by intro h;cases h);have H1:=hide (And.intro (HY0.out.1.below hB1 (Nat.le_refl _)) (And.intro (HY0.out.2.trans (hB1.mono HY0.out.2.size)) (And.intro ho1 (And.intro hcge hclt))));clear ho1 hB1 hcge hclt)
    clear g0 g1 g2 hlp
    have hrow:(Y1.alloc (.cells stpZ 138)).heap[Y1.heap.size]? =some (.cells stpZ 138 (0,0)):=heap_alloc_new _ _
    refine wp_region_lit ?_
    refine wpList_buildTo (P:=Tryz.prog) rfl 35 #[(0, .const (.int .i64 0)),(1, .const (.int .i64 0)),(2, .const (.int .i64 (-1)))] rfl (some 59) rfl #[.int .i64 0, .int .i64 0, .int .i64 (-1)] (stp_b0 _) ?_
    refine wpList_buildTo (P:=Tryz.prog) rfl 35 #[(0, .const (.int .i64 0)),(1, .const (.int .i64 0)),(2, .const (.int .i64 1))] rfl (some 60) rfl #[.int .i64 0, .int .i64 0, .int .i64 1] (stp_b1 _) ?_
    refine wpList_buildTo (P:=Tryz.prog) rfl 35 #[(0, .const (.int .i64 0)),(1, .const (.int .i64 (-1))),(2, .const (.int .i64 0))] rfl (some 61) rfl #[.int .i64 0, .int .i64 (-1), .int .i64 0] (stp_b2 _) ?_
    refine wpList_buildTo (P:=Tryz.prog) rfl 35 #[(0, .const (.int .i64 0)),(1, .const (.int .i64 1)),(2, .const (.int .i64 0))] rfl (some 62) rfl #[.int .i64 0, .int .i64 1, .int .i64 0] (stp_b3 _) ?_
    refine wpList_buildTo (P:=Tryz.prog) rfl 35 #[(0, .const (.int .i64 (-1))),(1, .const (.int .i64 0)),(2, .const (.int .i64 0))] rfl (some 63) rfl #[.int .i64 (-1), .int .i64 0, .int .i64 0] (stp_b4 _) ?_
    refine wpList_buildTo (P:=Tryz.prog) rfl 35 #[(0, .const (.int .i64 1)),(1, .const (.int .i64 0)),(2, .const (.int .i64 0))] rfl (some 64) rfl #[.int .i64 1, .int .i64 0, .int .i64 0] (stp_b5 _) ?_
    simp only [Act.put,List.setIfInBounds_toArray,List.set_cons_succ,List.set_cons_zero]
    refine wpList_buildTo (P:=Tryz.prog) rfl 138 #[(0, .tmp 59),(1, .tmp 60),(2, .tmp 61),(3, .tmp 62),(4, .tmp 63),(5, .tmp 64)] rfl (some 65) rfl stpA (stp_b6 _ rfl rfl rfl rfl rfl rfl) ?_
    simp only [Act.put,List.setIfInBounds_toArray,List.set_cons_succ,List.set_cons_zero]
    refine Go.Great.wpList_allocTo (P:=Tryz.prog) rfl (some 14) rfl (.pointer (some ⟨Y1.heap.size,0,none⟩)) (.cells stpZ 138) (stp_al _ _ rfl _) ?_
    simp only [Act.put,List.setIfInBounds_toArray,List.set_cons_succ,List.set_cons_zero]
    refine wpList_store_row (P:=Tryz.prog) rfl 138 (.tmp 14) (.tmp 65) rfl Y1.heap.size stpA rfl rfl 138 stpZ hrow stp_sz rfl stp_one ?_
    rw [World.setRow_alloc_new]
    clear hrow
    go_upto_region 12 with fail
    obtain ⟨sb,hsb⟩:∃g,g=Y1.heap.size:=⟨_,rfl⟩
    obtain ⟨Y,hY⟩:∃Z,Z=Y1.alloc (.cells stpA 138):=⟨_,rfl⟩
    rw [←hY,←hsb]
    obtain ⟨CL,hCL⟩:∃C,C=cubeP (cor8 (cx,cy,cz) s):=⟨_,rfl⟩
    have hbs:Blk Y sb 138 stpA:=by rw [hY,hsb];exact Blk.new _ _ _
    have hoY:Own encT 9 46 Y X.heap.size u7 M (voxL B (ox,oy,oz) s n):=by rw [hY];exact H1.out.1.alloc _
    have hBY:Below X.heap.size X Y:=by rw [hY];exact H1.out.2.1.alloc H1.out.2.1.size _
    have hcl:Sl encT 9 Y Y.heap.size (some ⟨cg,0,none⟩) CL:=by rw [hY,hCL];exact (H1.out.2.2.1.alloc _).sl encT_len (Nat.le_refl _)
    have hn1:u7.ownBlock≠some cg:=fun e=>by have h1:=(HY0.out.1.blk cg e).2;have h2:=H1.out.2.2.2.1;omega
    have hn2:u7.ownBlock≠some sb:=fun e=>by have h1:=(H1.out.1.blk sb e).2;omega
    have hcs:CL=cubeP (cor8 (voxC (ox,oy,oz) s n) s):=by rw [hCL,HC.out.1]
    have hzY:Y1.heap.size+1=Y.heap.size:=by rw [hY];simp
    have hcgY:cg < Y.heap.size:=by have:=H1.out.2.2.2.2;omega
    have HY:=hide (And.intro hbs (And.intro hoY (And.intro hBY (And.intro hcl (And.intro hn1 (And.intro hn2 (And.intro hcs hcgY)))))))
    clear hbs hoY hBY hcl hn1 hn2 hcs hcgY hzY hY hsb hCL H1 HY0
    go_wp2_with fail
    go_loopw [7,15] (fun ov fv wr=>∃(f m:Nat),f≤6∧fv= .int .i64 f∧Own encT 9 46 wr X.heap.size ov m (voxL B (ox,oy,oz) s n++voxN B (ox,oy,oz) s n f)∧Blk wr sb 138 stpA∧Sl encT 9 wr Y.heap.size (some ⟨cg,0,none⟩) CL∧ov.ownBlock≠some cg∧ov.ownBlock≠some sb∧Below X.heap.size X wr∧Y.heap.size≤wr.heap.size) (fun _ fv _=>6 - (intOf fv).toNat)
    case atStart=>exact ⟨0,M,by omega,rfl,by rw [show voxN B (ox,oy,oz) s n 0= [] from rfl,List.append_nil];exact HY.out.2.1,HY.out.1,HY.out.2.2.2.1,HY.out.2.2.2.2.1,HY.out.2.2.2.2.2.1,HY.out.2.2.1,Nat.le_refl _⟩
    case round=>
     obtain ⟨f,m0,hf,rfl,hown,hbs,hcl,hn1,hn2,hB,hzV⟩:=hrel
     obtain ⟨V,rfl⟩:∃x,x=wr:=⟨_,rfl⟩
     by_cases hf6:f < 6
     ·have i2:(f:Int) < 6:=by omega
      have hml:=hown.1
      have hmb:m0≤400:=by rw [hml,List.length_append];have h1:=voxL_le B (ox,oy,oz) s n;have h2:=voxN_le B (ox,oy,oz) s n f;omega
      have hnb:=nbr_ok hlt hf6
      have hvs:=voxN_succ B (ox,oy,oz) s n f
      have hlb:=hbs.lt
      have hclt:=HY.out.2.2.2.2.2.2.2
      have HV:=hide (And.intro hown (And.intro hbs (And.intro hcl (And.intro hn1 (And.intro hn2 (And.intro hB (And.intro hzV (And.intro hnb (And.intro hvs (And.intro hmb hf6))))))))))
      clear hown hcl hn1 hn2 hB hml hmb hnb hvs
      go_upto_region 15 with fail
      go_cut [16] (fun uv wx=>uv= .int .i64 (x+stpV f 0)∧wx=V)
      case first=>
       have hc:f=0∨f=1∨f=2∨f=3∨f=4∨f=5:=by omega
       rcases hc with rfl | rfl | rfl | rfl | rfl | rfl
       ·have c0:V.cell? ⟨sb,0,none⟩=some (.int .i64 (0)):=HV.out.2.1.cell 0
        go_wp2_with fail
        go_meet
        case rel=>exact ⟨by simp [stpV],rfl⟩
       ·have c0:V.cell? ⟨sb,3,none⟩=some (.int .i64 (0)):=HV.out.2.1.cell 3
        go_wp2_with fail
        go_meet
        case rel=>exact ⟨by simp [stpV],rfl⟩
       ·have c0:V.cell? ⟨sb,6,none⟩=some (.int .i64 (0)):=HV.out.2.1.cell 6
        go_wp2_with fail
        go_meet
        case rel=>exact ⟨by simp [stpV],rfl⟩
       ·have c0:V.cell? ⟨sb,9,none⟩=some (.int .i64 (0)):=HV.out.2.1.cell 9
        go_wp2_with fail
        go_meet
        case rel=>exact ⟨by simp [stpV],rfl⟩
       ·have c0:V.cell? ⟨sb,12,none⟩=some (.int .i64 (-1)):=HV.out.2.1.cell 12
        go_wp2_with fail
        go_meet
        case rel=>exact ⟨by simp [stpV];try omega,rfl⟩
       ·have c0:V.cell? ⟨sb,15,none⟩=some (.int .i64 (1)):=HV.out.2.1.cell 15
        go_wp2_with fail
        go_meet
        case rel=>exact ⟨by simp [stpV];try omega,rfl⟩
      case rest=>
      obtain ⟨rfl,hw⟩:=hcut
      obtain rfl:V=wc:=hw.symm
      go_upto_region 16 with fail
      go_cut [17] (fun uv wx=>uv= .int .i64 (y+stpV f 1)∧wx=V)
      case first=>
       have hc:f=0∨f=1∨f=2∨f=3∨f=4∨f=5:=by omega
       rcases hc with rfl | rfl | rfl | rfl | rfl | rfl
       ·have c0:V.cell? ⟨sb,1,none⟩=some (.int .i64 (0)):=HV.out.2.1.cell 1
        go_wp2_with fail
        go_meet
        case rel=>exact ⟨by simp [stpV],rfl⟩
       ·have c0:V.cell? ⟨sb,4,none⟩=some (.int .i64 (0)):=HV.out.2.1.cell 4
        go_wp2_with fail
        go_meet
        case rel=>exact ⟨by simp [stpV],rfl⟩
       ·have c0:V.cell? ⟨sb,7,none⟩=some (.int .i64 (-1)):=HV.out.2.1.cell 7
        go_wp2_with fail
        go_meet
        case rel=>exact ⟨by simp [stpV];try omega,rfl⟩
       ·have c0:V.cell? ⟨sb,10,none⟩=some (.int .i64 (1)):=HV.out.2.1.cell 10
        go_wp2_with fail
        go_meet
        case rel=>exact ⟨by simp [stpV];try omega,rfl⟩
       ·have c0:V.cell? ⟨sb,13,none⟩=some (.int .i64 (0)):=HV.out.2.1.cell 13
        go_wp2_with fail
        go_meet
        case rel=>exact ⟨by simp [stpV],rfl⟩
       ·have c0:V.cell? ⟨sb,16,none⟩=some (.int .i64 (0)):=HV.out.2.1.cell 16
        go_wp2_with fail
        go_meet
        case rel=>exact ⟨by simp [stpV],rfl⟩
      case rest=>
      obtain ⟨rfl,hw⟩:=hcut
      obtain rfl:V=wc:=hw.symm
      go_upto_region 17 with fail
      go_cut [18] (fun uv wx=>uv= .int .i64 (z+stpV f 2)∧wx=V)
      case first=>
       have hc:f=0∨f=1∨f=2∨f=3∨f=4∨f=5:=by omega
       rcases hc with rfl | rfl | rfl | rfl | rfl | rfl
       ·have c0:V.cell? ⟨sb,2,none⟩=some (.int .i64 (-1)):=HV.out.2.1.cell 2
        go_wp2_with fail
        go_meet
        case rel=>exact ⟨by simp [stpV];try omega,rfl⟩
       ·have c0:V.cell? ⟨sb,5,none⟩=some (.int .i64 (1)):=HV.out.2.1.cell 5
        go_wp2_with fail
        go_meet
        case rel=>exact ⟨by simp [stpV];try omega,rfl⟩
       ·have c0:V.cell? ⟨sb,8,none⟩=some (.int .i64 (0)):=HV.out.2.1.cell 8
        go_wp2_with fail
        go_meet
        case rel=>exact ⟨by simp [stpV],rfl⟩
       ·have c0:V.cell? ⟨sb,11,none⟩=some (.int .i64 (0)):=HV.out.2.1.cell 11
        go_wp2_with fail
        go_meet
        case rel=>exact ⟨by simp [stpV],rfl⟩
       ·have c0:V.cell? ⟨sb,14,none⟩=some (.int .i64 (0)):=HV.out.2.1.cell 14
        go_wp2_with fail
        go_meet
        case rel=>exact ⟨by simp [stpV],rfl⟩
       ·have c0:V.cell? ⟨sb,17,none⟩=some (.int .i64 (0)):=HV.out.2.1.cell 17
        go_wp2_with fail
        go_meet
        case rel=>exact ⟨by simp [stpV],rfl⟩
      case rest=>
      obtain ⟨rfl,hw⟩:=hcut
      obtain rfl:V=wc:=hw.symm
      obtain ⟨U,hU⟩:∃u,u=x+stpV f 0:=⟨_,rfl⟩
      obtain ⟨V1,hV1⟩:∃u,u=y+stpV f 1:=⟨_,rfl⟩
      obtain ⟨W1,hW1⟩:∃u,u=z+stpV f 2:=⟨_,rfl⟩
      rw [←hU,←hV1,←hW1]
      have HU:=hide (And.intro hU (And.intro hV1 hW1))
      clear hU hV1 hW1
      go_upto_region 18 with fail
      go_cut [19] (fun iv wx=>iv= .bool (insV4 U V1 W1)∧wx=V)
      case first=>
       by_cases h1:0≤U
       ·by_cases h2:U < 3
        ·by_cases h3:0≤V1
         ·by_cases h4:V1 < 3
          ·by_cases h5:0≤W1
           ·by_cases h6:W1 < 3
            ·go_wp2_with fail
             go_meet
             case rel=>exact ⟨by rw [insV4,decide_eq_true ⟨h1,h2,h3,h4,h5,h6⟩],rfl⟩
            ·go_wp2_with fail
             go_meet
             case rel=>exact ⟨by rw [insV4,decide_eq_false (fun h=>by omega)],rfl⟩
           ·go_wp2_with fail
            go_meet
            case rel=>exact ⟨by rw [insV4,decide_eq_false (fun h=>by omega)],rfl⟩
          ·go_wp2_with fail
           go_meet
           case rel=>exact ⟨by rw [insV4,decide_eq_false (fun h=>by omega)],rfl⟩
         ·go_wp2_with fail
          go_meet
          case rel=>exact ⟨by rw [insV4,decide_eq_false (fun h=>by omega)],rfl⟩
        ·go_wp2_with fail
         go_meet
         case rel=>exact ⟨by rw [insV4,decide_eq_false (fun h=>by omega)],rfl⟩
       ·go_wp2_with fail
        go_meet
        case rel=>exact ⟨by rw [insV4,decide_eq_false (fun h=>by omega)],rfl⟩
      case rest=>
      obtain ⟨rfl,hw⟩:=hcut
      obtain rfl:V=wc:=hw.symm
      have hxn:x=((n % 3:Nat):Int):=by rw [HXY.out.1];norm_cast
      have hyn:y=((n / 3 % 3:Nat):Int):=by rw [HXY.out.2.1];norm_cast
      have hzn:z=((n / 9:Nat):Int):=by rw [HXY.out.2.2];norm_cast
      have hNB:(nbrV n f=none∧insV4 U V1 W1=false)∨∃m:Nat,nbrV n f=some m∧m < 27∧U=((m % 3:Nat):Int)∧V1=((m / 3 % 3:Nat):Int)∧W1=((m / 9:Nat):Int):=by
       have h:=HV.out.2.2.2.2.2.2.2.1
       rw [HU.out.1,HU.out.2.1,HU.out.2.2,hxn,hyn,hzn]
       unfold nbrOK at h
       cases hk:nbrV n f with
       | none=>rw [hk] at h;exact .inl ⟨rfl,by simpa using h⟩
       | some m=>rw [hk] at h;exact .inr ⟨m,rfl,of_decide_eq_true h⟩
      have HNB:=hide hNB
      clear hNB hxn hyn hzn
      go_upto_region 19 with fail
      go_cut [19,125] (fun iv ov wx=>(∃c,iv= .bool c)∧ov= .bool (openV B n f)∧wx=V)
      case first=>
       rcases HNB.out with ⟨h1,h2⟩ | ⟨m,h1,h2,h3,h4,h5⟩
       ·have hop:openV B n f=true:=by unfold openV;rw [h1]
        have HO:=hide hop
        clear h1 hop
        go_wp2_with fail
        go_meet
        case rel=>exact ⟨⟨_,rfl⟩,by rw [HO.out],rfl⟩
       ·have hop:openV B n f= !B m:=by unfold openV;rw [h1]
        have h6:insV4 U V1 W1=true:=decide_eq_true ⟨by omega,by omega,by omega,by omega,by omega,by omega⟩
        have hidx:(W1*3+V1)*3+U=(m:Int):=by omega
        have l1:0≤U∧U < 3:=by omega
        have l2:0≤V1∧V1 < 3:=by omega
        have l3:0≤W1∧W1 < 3:=by omega
        have hbit:bits .and .i64 ((b:Int) / 2^m) 1=if B m=true then 1 else 0:=by rw [HBB.out];exact bit_and b m
        have HO:=hide hop
        clear h1 hop h3 h4 h5 HU HNB
        by_cases hbm:B m=true
        ·rw [if_pos hbm] at hbit
         have HM:=hide hbm
         clear hbm
         go_wp2_with fail
         go_meet
         case rel=>exact ⟨⟨_,rfl⟩,by rw [HO.out,HM.out];rfl,rfl⟩
        ·rw [if_neg hbm] at hbit
         have HM:=hide (show B m=false by simpa using hbm)
         clear hbm
         go_wp2_with fail
         go_meet
         case rel=>exact ⟨⟨_,rfl⟩,by rw [HO.out,HM.out];rfl,rfl⟩
      case rest=>
      obtain ⟨⟨cb,rfl⟩,rfl,hw⟩:=hcut
      obtain rfl:V=wc:=hw.symm
      clear HU HNB
      cases hop:openV B n f with
      | false=>
       have HO:=hide hop
       clear hop
       go_wp2
       go_roundw
       case rel=>exact ⟨f+1,m0,by omega,by go_num,by rw [HV.out.2.2.2.2.2.2.2.2.1,HO.out,if_neg (by simp),List.append_nil];exact HV.out.1,HV.out.2.1,HV.out.2.2.1,HV.out.2.2.2.1,HV.out.2.2.2.2.1,HV.out.2.2.2.2.2.1,HV.out.2.2.2.2.2.2.1⟩
       case measure=>(simp [intOf];try omega)
      | true=>
       obtain ⟨t,u,hsd,ht,hu⟩:=cube_side (cor8 (voxC (ox,oy,oz) s n) s) HV.out.2.2.2.2.2.2.2.2.2.2
       rw [←HY.out.2.2.2.2.2.2.1] at ht hu
       obtain ⟨b1,o1,hA1,hb1,g0,g1,g2,g3,g4,g5,g6,g7,g8⟩:=HV.out.2.2.1.tri ht
       obtain ⟨b2,o2,hA2,hb2,k0,k1,k2,k3,k4,k5,k6,k7,k8⟩:=HV.out.2.2.1.tri hu
       cases hA1
       cases hA2
       simp only [Nat.zero_add] at g0 g1 g2 g3 g4 g5 g6 g7 g8 k0 k1 k2 k3 k4 k5 k6 k7 k8
       have HO:=hide (And.intro hop hsd)
       clear hop hsd ht hu
       obtain ⟨j1,hj1⟩:∃j,j=2*f:=⟨_,rfl⟩
       obtain ⟨j2,hj2⟩:∃j,j=2*f+1:=⟨_,rfl⟩
       rw [←hj1] at g0 g1 g2 g3 g4 g5 g6 g7 g8
       rw [←hj2] at k0 k1 k2 k3 k4 k5 k6 k7 k8
       have e1:IntKind.i64.wrap (2*(f:Int))=(j1:Int):=by rw [IntWalk.i64_in _ (by omega)];omega
       have e2:IntKind.i64.wrap ((j1:Int)+1)=(j2:Int):=by rw [IntWalk.i64_in _ (by omega)];omega
       have l1:j1 < 12:=by omega
       have l2:j2 < 12:=by omega
       obtain ⟨⟨a1,a2,a3⟩,⟨a4,a5,a6⟩,a7,a8,a9⟩:=t
       obtain ⟨⟨d1,d2,d3⟩,⟨d4,d5,d6⟩,d7,d8,d9⟩:=u
       dsimp only at g0 g1 g2 g3 g4 g5 g6 g7 g8 k0 k1 k2 k3 k4 k5 k6 k7 k8
       clear hj1 hj2 hb1 hb2
       go_upto_region 20 with fail
       have HQ:=hide (show (fun W:World=>W.cell? ⟨cg,j1*9,none⟩=some (.int .i64 a1)∧W.cell? ⟨cg,j1*9+1,none⟩=some (.int .i64 a2)∧W.cell? ⟨cg,j1*9+2,none⟩=some (.int .i64 a3)∧W.cell? ⟨cg,j1*9+3,none⟩=some (.int .i64 a4)∧W.cell? ⟨cg,j1*9+4,none⟩=some (.int .i64 a5)∧W.cell? ⟨cg,j1*9+5,none⟩=some (.int .i64 a6)∧W.cell? ⟨cg,j1*9+6,none⟩=some (.int .i64 a7)∧W.cell? ⟨cg,j1*9+7,none⟩=some (.int .i64 a8)∧W.cell? ⟨cg,j1*9+8,none⟩=some (.int .i64 a9)∧W.cell? ⟨cg,j2*9,none⟩=some (.int .i64 d1)∧W.cell? ⟨cg,j2*9+1,none⟩=some (.int .i64 d2)∧W.cell? ⟨cg,j2*9+2,none⟩=some (.int .i64 d3)∧W.cell? ⟨cg,j2*9+3,none⟩=some (.int .i64 d4)∧W.cell? ⟨cg,j2*9+4,none⟩=some (.int .i64 d5)∧W.cell? ⟨cg,j2*9+5,none⟩=some (.int .i64 d6)∧W.cell? ⟨cg,j2*9+6,none⟩=some (.int .i64 d7)∧W.cell? ⟨cg,j2*9+7,none⟩=some (.int .i64 d8)∧W.cell? ⟨cg,j2*9+8,none⟩=some (.int .i64 d9)) V.drew from ⟨g0,g1,g2,g3,g4,g5,g6,g7,g8,k0,k1,k2,k3,k4,k5,k6,k7,k8⟩)
       clear g0 g1 g2 g3 g4 g5 g6 g7 g8 k0 k1 k2 k3 k4 k5 k6 k7 k8
       have l1i:(j1:Int) < 12:=by omega
       have l2i:(j2:Int) < 12:=by omega
       refine wp_region_mix (fun W=>W.cell? ⟨cg,j1*9,none⟩=some (.int .i64 a1)∧W.cell? ⟨cg,j1*9+1,none⟩=some (.int .i64 a2)∧W.cell? ⟨cg,j1*9+2,none⟩=some (.int .i64 a3)∧W.cell? ⟨cg,j1*9+3,none⟩=some (.int .i64 a4)∧W.cell? ⟨cg,j1*9+4,none⟩=some (.int .i64 a5)∧W.cell? ⟨cg,j1*9+5,none⟩=some (.int .i64 a6)∧W.cell? ⟨cg,j1*9+6,none⟩=some (.int .i64 a7)∧W.cell? ⟨cg,j1*9+7,none⟩=some (.int .i64 a8)∧W.cell? ⟨cg,j1*9+8,none⟩=some (.int .i64 a9)∧W.cell? ⟨cg,j2*9,none⟩=some (.int .i64 d1)∧W.cell? ⟨cg,j2*9+1,none⟩=some (.int .i64 d2)∧W.cell? ⟨cg,j2*9+2,none⟩=some (.int .i64 d3)∧W.cell? ⟨cg,j2*9+3,none⟩=some (.int .i64 d4)∧W.cell? ⟨cg,j2*9+4,none⟩=some (.int .i64 d5)∧W.cell? ⟨cg,j2*9+5,none⟩=some (.int .i64 d6)∧W.cell? ⟨cg,j2*9+6,none⟩=some (.int .i64 d7)∧W.cell? ⟨cg,j2*9+7,none⟩=some (.int .i64 d8)∧W.cell? ⟨cg,j2*9+8,none⟩=some (.int .i64 d9)) [0,1,2,3,4,5,6,7,8,9,10,11] [0,1,2,3,4,5,6,7,8,9,10,11,12,13,14] mixed_ok (by kernel_rfl) ?_
       refine wpMix_q (v:=u7) rfl rfl (fun _ _ _ h=>h) HQ.out ⟨rfl,fun W h=>by simp [go_sem]⟩ ?_
       simp only [List.getElem_toArray,List.getElem_cons_zero,Act.put,List.setIfInBounds_toArray,List.set_cons_succ,List.set_cons_zero]
       refine wpMix_q (v:= .slice (some ⟨cg,0,none⟩) 12 cc) rfl rfl (fun _ _ _ h=>h) HQ.out ⟨rfl,fun W h=>by simp [go_sem]⟩ ?_
       simp only [List.getElem_toArray,List.getElem_cons_succ,List.getElem_cons_zero,Act.put,List.setIfInBounds_toArray,List.set_cons_succ,List.set_cons_zero]
       refine wpMix_q (v:= .int .i64 f) rfl rfl (fun _ _ _ h=>h) HQ.out ⟨rfl,fun W h=>by simp [go_sem]⟩ ?_
       simp only [List.getElem_toArray,List.getElem_cons_succ,List.getElem_cons_zero,Act.put,List.setIfInBounds_toArray,List.set_cons_succ,List.set_cons_zero]
       refine wpMix_q (v:= .int .i64 j1) rfl rfl (fun _ _ _ h=>h) HQ.out ⟨rfl,fun W h=>by simp [go_sem,e1]⟩ ?_
       simp only [List.getElem_toArray,List.getElem_cons_succ,List.getElem_cons_zero,Act.put,List.setIfInBounds_toArray,List.set_cons_succ,List.set_cons_zero]
       refine wpMix_q (v:= .pointer (some ⟨cg,j1*9,none⟩)) rfl rfl (fun _ _ _ h=>h) HQ.out ⟨rfl,fun W h=>by simp [go_sem,l1i,add_none]⟩ ?_
       simp only [List.getElem_toArray,List.getElem_cons_succ,List.getElem_cons_zero,Act.put,List.setIfInBounds_toArray,List.set_cons_succ,List.set_cons_zero]
       refine wpMix_q (v:= .agg #[.int .i64 a1, .int .i64 a2, .int .i64 a3, .int .i64 a4, .int .i64 a5, .int .i64 a6, .int .i64 a7, .int .i64 a8, .int .i64 a9]) rfl rfl (fun _ _ _ h=>h) HQ.out ⟨rfl,fun W h=>by obtain ⟨r1,r2,r3,r4,r5,r6,r7,r8,r9,t1,t2,t3,t4,t5,t6,t7,t8,t9⟩:=h;simp [go_sem,r1,r2,r3,r4,r5,r6,r7,r8,r9]⟩ ?_
       simp only [List.getElem_toArray,List.getElem_cons_succ,List.getElem_cons_zero,Act.put,List.setIfInBounds_toArray,List.set_cons_succ,List.set_cons_zero]
       refine wpMix_q (v:= .slice (some ⟨cg,0,none⟩) 12 cc) rfl rfl (fun _ _ _ h=>h) HQ.out ⟨rfl,fun W h=>by simp [go_sem]⟩ ?_
       simp only [List.getElem_toArray,List.getElem_cons_succ,List.getElem_cons_zero,Act.put,List.setIfInBounds_toArray,List.set_cons_succ,List.set_cons_zero]
       refine wpMix_q (v:= .int .i64 f) rfl rfl (fun _ _ _ h=>h) HQ.out ⟨rfl,fun W h=>by simp [go_sem]⟩ ?_
       simp only [List.getElem_toArray,List.getElem_cons_succ,List.getElem_cons_zero,Act.put,List.setIfInBounds_toArray,List.set_cons_succ,List.set_cons_zero]
       refine wpMix_q (v:= .int .i64 j1) rfl rfl (fun _ _ _ h=>h) HQ.out ⟨rfl,fun W h=>by simp [go_sem,e1]⟩ ?_
       simp only [List.getElem_toArray,List.getElem_cons_succ,List.getElem_cons_zero,Act.put,List.setIfInBounds_toArray,List.set_cons_succ,List.set_cons_zero]
       refine wpMix_q (v:= .int .i64 j2) rfl rfl (fun _ _ _ h=>h) HQ.out ⟨rfl,fun W h=>by simp [go_sem,e2]⟩ ?_
       simp only [List.getElem_toArray,List.getElem_cons_succ,List.getElem_cons_zero,Act.put,List.setIfInBounds_toArray,List.set_cons_succ,List.set_cons_zero]
       refine wpMix_q (v:= .pointer (some ⟨cg,j2*9,none⟩)) rfl rfl (fun _ _ _ h=>h) HQ.out ⟨rfl,fun W h=>by simp [go_sem,l2i,add_none]⟩ ?_
       simp only [List.getElem_toArray,List.getElem_cons_succ,List.getElem_cons_zero,Act.put,List.setIfInBounds_toArray,List.set_cons_succ,List.set_cons_zero]
       refine wpMix_q (v:= .agg #[.int .i64 d1, .int .i64 d2, .int .i64 d3, .int .i64 d4, .int .i64 d5, .int .i64 d6, .int .i64 d7, .int .i64 d8, .int .i64 d9]) rfl rfl (fun _ _ _ h=>h) HQ.out ⟨rfl,fun W h=>by obtain ⟨r1,r2,r3,r4,r5,r6,r7,r8,r9,t1,t2,t3,t4,t5,t6,t7,t8,t9⟩:=h;simp [go_sem,t1,t2,t3,t4,t5,t6,t7,t8,t9]⟩ ?_
       simp only [List.getElem_toArray,List.getElem_cons_succ,List.getElem_cons_zero,Act.put,List.setIfInBounds_toArray,List.set_cons_succ,List.set_cons_zero]
       refine wpMix_n rfl rfl ?_
       go_wp2_with fail
       have hbL:Blk (V.drew.alloc (.cells ([((a1,a2,a3),(a4,a5,a6),a7,a8,a9),((d1,d2,d3),(d4,d5,d6),d7,d8,d9)].flatMap encT).toArray 46)) V.heap.size 46 ([((a1,a2,a3),(a4,a5,a6),a7,a8,a9),((d1,d2,d3),(d4,d5,d6),d7,d8,d9)].flatMap encT).toArray:=Blk.new' _ _ _ _ (by simp)
       have hBL:Below V.heap.size V (V.drew.alloc (.cells ([((a1,a2,a3),(a4,a5,a6),a7,a8,a9),((d1,d2,d3),(d4,d5,d6),d7,d8,d9)].flatMap encT).toArray 46)):=((Below.refl _ V).drew).alloc (by simp) _
       have HL:=hide (And.intro hbL hBL)
       clear hbL hBL
       have hcgV:cg < V.heap.size:=by have h1:=HY.out.2.2.2.2.2.2.2;have h2:=HV.out.2.2.2.2.2.2.1;omega
       refine ⟨fun _=> ?_,?_⟩
       ·have hk:∀o,(V.drew.alloc (.cells ([((a1,a2,a3),(a4,a5,a6),a7,a8,a9),((d1,d2,d3),(d4,d5,d6),d7,d8,d9)].flatMap encT).toArray 46)).cell? ⟨cg,o,none⟩=V.drew.cell? ⟨cg,o,none⟩:=fun o=>HL.out.2.cell (p:=⟨cg,o,none⟩) hcgV
        have h:=HQ.out
        simp only [←hk] at h
        exact h
       refine wpMix_n rfl rfl ?_
       refine wpList_appendS rfl _ _ _ rfl Tryz.underlying44 infoT rfl (by omega) encT_len encT_one rfl (HV.out.1.drew.alloc _) (some ⟨V.heap.size,0,none⟩) 2 (V.heap.size+1) [((a1,a2,a3),(a4,a5,a6),a7,a8,a9),((d1,d2,d3),(d4,d5,d6),d7,d8,d9)] rfl (Sl.of_blk encT_len HL.out.1 (by omega)) (by have:=HV.out.2.2.2.2.2.2.2.2.2.1;unfold maxLen;simp;omega) (by have:=HV.out.2.2.2.2.2.2.2.2.2.1;simp;omega) (by have:=HV.out.2.2.2.2.2.1.size;simp;omega) ?_
       intro v5 w5 ho5 hg5 hB5 hat5
       go_wp2_with fail
       have hX5:=HV.out.2.2.2.2.2.1.trans ((HL.out.2.mono HV.out.2.2.2.2.2.1.size).trans hB5)
       have hsb5:Blk w5 sb 138 stpA:=(HV.out.2.1.drew.alloc _).grown hg5 (fun e=>HV.out.2.2.2.2.1 e.symm)
       have hcl5:Sl encT 9 w5 Y.heap.size (some ⟨cg,0,none⟩) CL:=(HV.out.2.2.1.below (HL.out.2.mono HV.out.2.2.2.2.2.2.1)).grown hg5 (by have:=HV.out.2.2.2.2.2.2.1;simp;omega) (fun e=>HV.out.2.2.2.1 e.symm)
       have hn15:v5.ownBlock≠some cg:=fun e=>by
        rcases hat5 with h | h
        ·exact HV.out.2.2.2.1 (h.symm.trans e)
        ·rw [h] at e;exact absurd e (by simp;omega)
       have hsbV:=HV.out.2.1.lt
       have hn25:v5.ownBlock≠some sb:=fun e=>by
        rcases hat5 with h | h
        ·exact HV.out.2.2.2.2.1 (h.symm.trans e)
        ·rw [h] at e;exact absurd e (by simp;omega)
       have hz5:Y.heap.size≤w5.heap.size:=by have h1:=hg5.size;simp at h1;have h2:=HV.out.2.2.2.2.2.2.1;omega
       have H5:=hide (And.intro ho5 (And.intro hX5 (And.intro hsb5 (And.intro hcl5 (And.intro hn15 (And.intro hn25 hz5))))))
       clear ho5 hg5 hB5 hat5 hX5 hsb5 hcl5 hn15 hn25 hz5 hsbV hcgV
       refine ⟨fun h=>absurd (h.symm.trans (show _=false by kernel_rfl)) (by simp),?_⟩
       refine wpMix_tail _ [_] (by kernel_rfl) rfl ?_
       simp only [List.getElem_toArray,List.getElem_cons_succ,List.getElem_cons_zero]
       go_wp2
       go_roundw
       case rel=>exact ⟨f+1,m0+2,by omega,by go_num,by rw [HV.out.2.2.2.2.2.2.2.2.1,HO.out.1,if_pos rfl,HO.out.2,←List.append_assoc];exact H5.out.1,H5.out.2.2.1,H5.out.2.2.2.1,H5.out.2.2.2.2.1,H5.out.2.2.2.2.2.1,H5.out.2.1,H5.out.2.2.2.2.2.2⟩
       case measure=>(simp [intOf];try omega)
     ·obtain rfl:f=6:=by omega
      have i2:¬((6:Nat):Int) < 6:=by omega
      have HV:=hide (And.intro hown hB)
      clear hown hbs hcl hn1 hn2 hB hzV
      go_wp2
      go_roundw
      case rel=>exact ⟨n+1,m0,by omega,by go_num,by rw [HSc.out];unfold voxM;rw [if_pos HBn.out];exact HV.out.1,HV.out.2⟩
      case measure=>(simp [intOf];try omega)
   ·rw [if_neg hbn] at hbit
    have HBn:=hide hbn
    clear hbn
    go_wp2
    go_roundw
    case rel=>exact ⟨n+1,M,by omega,by go_num,by rw [HSc.out];unfold voxM;rw [if_neg HBn.out,List.append_nil];exact HR0.out.1,HR0.out.2.1⟩
    case measure=>(simp [intOf];try omega)
  ·obtain rfl:n=27:=by omega
   have i1:¬((27:Nat):Int) < 27:=by omega
   have hfin:Own encT 9 46 R w.heap.size u7 (voxP B (ox,oy,oz) s).length (voxP B (ox,oy,oz) s):=by
    have h:=hown.base_le HX.out.2.size
    rw [hown.1] at h
    exact h
   have HF:=hide (And.intro hfin (HX.out.2.trans (hB.mono HX.out.2.size)))
   clear hown hB hfin
   go_wp2
   go_ret
   exact ⟨_,rfl,HF.out.1,HF.out.2⟩
end Go.Proofs.YtmemofonebphfaaGreat
