import Derived.Deep.MidRow
import Derived.Shelf.RegionOpen
import Derived.Test.YtmemofonebphfaaGreatV9
import Derived.Test.YtmemofonebphfaaGreatV22
namespace Go.Proofs.YtmemofonebphfaaGreat
open Go.RowKit Go.WideMaps Go.Maps
set_option maxRecDepth 100000
theorem laid_ok4:laidOutB Tryz.prog=true:=by kernel_rfl
theorem fits_wf4 {c:Int} (h:fits c):(Lit.int .i64 c).wf=true:=by
 obtain ⟨h1,h2⟩:=h
 simp only [Lit.wf,IntKind.min,IntKind.max,IntKind.signed,IntKind.bits,Bool.and_eq_true,decide_eq_true_eq,if_true]
 omega
theorem vP_inj4 {p q:Pt} (h:vP p=vP q):p=q:=by
 obtain ⟨a,b,c⟩:=p
 obtain ⟨d,e,f⟩:=q
 simpa using h
theorem vE_inj4 {p q:Ed} (h:vE p=vE q):p=q:=by
 obtain ⟨⟨a,b,c⟩,d,e,f⟩:=p
 obtain ⟨⟨a',b',c'⟩,d',e',f'⟩:=q
 simpa [and_assoc] using h
theorem rowP4:(43:TypeId) < Tryz.prog.types.size:=of_decide_eq_true (by kernel_rfl)
theorem wideP4:(match Tryz.prog.underlying 43 with | some (.array _ _) | some (.struct _)=>true | _=>false)=true:=by rw [Tryz.underlying43]
theorem lawP4:KeyLaw Tryz.prog 43:=deep_law_laid laid_ok4 (m:=2) (by omega) rowP4 (by kernel_rfl) wideP4
theorem keyedP4:Keyed Tryz.prog 43:=Keyed.of_law lawP4
theorem key_someP4 (p:Pt) (hp:fitsP p):∃l,keyOf Tryz.prog 43 (vP p)=some l:=by
 obtain ⟨h0,h1,h2⟩:=hp
 have w0:=fits_wf4 h0
 have w1:=fits_wf4 h1
 have w2:=fits_wf4 h2
 have k:Tryz.prog.keyType 43=true:=by kernel_rfl
 have c:Tryz.prog.cellsOf 43=3:=by kernel_rfl
 have c1:Tryz.prog.cellsOf 3=1:=by kernel_rfl
 obtain ⟨n,hn⟩:∃n,Tryz.prog.types.size+1=n+1+1:=⟨Tryz.prog.types.size - 1,by have:(43:Nat) < Tryz.prog.types.size:=rowP4;omega⟩
 unfold keyOf
 simp only [Tryz.underlying43,k,Value.formed,c,hn,Bool.true_and]
 simp [Program.keyLits,Tryz.underlying43,Tryz.underlying3,c,c1,w0,w1,w2,Value.cells]
theorem kfP4:KeyFit Tryz.prog 43 vP fitsP:=⟨keyedP4,key_someP4,fun _ _=>vP_inj4⟩
theorem rowE4:(147:TypeId) < Tryz.prog.types.size:=of_decide_eq_true (by kernel_rfl)
theorem wideE4:(match Tryz.prog.underlying 147 with | some (.array _ _) | some (.struct _)=>true | _=>false)=true:=by rw [Tryz.underlying147]
theorem lawE4:KeyLaw Tryz.prog 147:=deep_law_laid laid_ok4 (m:=3) (by omega) rowE4 (by kernel_rfl) wideE4
theorem keyedE4:Keyed Tryz.prog 147:=Keyed.of_law lawE4
theorem lits_n4 (p:Pt) (hp:fitsP p) (n:Nat):Tryz.prog.keyLits (n+1+1) 43 [.int .i64 p.1, .int .i64 p.2.1, .int .i64 p.2.2]=some [.int .i64 p.1, .int .i64 p.2.1, .int .i64 p.2.2]:=by
 obtain ⟨h0,h1,h2⟩:=hp
 have w0:=fits_wf4 h0
 have w1:=fits_wf4 h1
 have w2:=fits_wf4 h2
 have c:Tryz.prog.cellsOf 43=3:=by kernel_rfl
 have c1:Tryz.prog.cellsOf 3=1:=by kernel_rfl
 simp [Program.keyLits,Tryz.underlying43,Tryz.underlying3,c,c1,w0,w1,w2]
theorem key_someE4 (e:Ed) (he:fitsE e):∃l,keyOf Tryz.prog 147 (vE e)=some l:=by
 have k:Tryz.prog.keyType 147=true:=by kernel_rfl
 have c:Tryz.prog.cellsOf 147=6:=by kernel_rfl
 have c3:Tryz.prog.cellsOf 43=3:=by kernel_rfl
 obtain ⟨n,hn⟩:∃n,Tryz.prog.types.size+1=n+1+1+1:=⟨Tryz.prog.types.size - 2,by have:(147:Nat) < Tryz.prog.types.size:=rowE4;omega⟩
 have h0:=lits_n4 e.1 he.1 n
 have h1:=lits_n4 e.2 he.2 n
 unfold keyOf
 simp only [Tryz.underlying147,k,Value.formed,c,hn,Bool.true_and]
 unfold Program.keyLits
 simp [Tryz.underlying147,c,c3,h0,h1,Value.cells]
theorem kfE4:KeyFit Tryz.prog 147 vE fitsE:=⟨keyedE4,key_someE4,fun _ _=>vE_inj4⟩
section
variable {κ:Type} [DecidableEq κ]
def setK4 (L:List κ) (p:κ):Option Value:=if p∈L then some (.bool true) else none
def memB (L:List κ) (p:κ):Bool:=decide (p∈L)
theorem memB_iff {L:List κ} {p:κ}:memB L p=true ↔ p∈L:=decide_eq_true_iff
theorem memB_on {L:List κ} {p:κ} (h:p∈L):memB L p=true:=memB_iff.2 h
theorem memB_off {L:List κ} {p:κ} (h:p ∉ L):memB L p=false:=by
 cases hb:memB L p with
 | false=>rfl
 | true=>exact absurd (memB_iff.1 hb) h
theorem setK4_get (L:List κ) (p:κ):(setK4 L p).getD (.bool false)= .bool (memB L p):=by
 unfold setK4
 by_cases h:p∈L
 ·rw [if_pos h,memB_on h];rfl
 ·rw [if_neg h,memB_off h];rfl
theorem setK4_add (L:List κ) (p:κ):(fun q=>if q=p then some (Value.bool true) else setK4 L q)=setK4 (addL L p):=by
 funext q
 unfold setK4
 by_cases hq:q=p
 ·subst hq
  rw [if_pos rfl,if_pos (addL_mem.2 (.inr rfl))]
 ·rw [if_neg hq]
  by_cases h:q∈L
  ·rw [if_pos h,if_pos (addL_mem.2 (.inl h))]
  ·rw [if_neg h,if_neg (fun h'=>(addL_mem.1 h').elim h hq)]
theorem addL_old {L:List κ} {p:κ} (h:p∈L):addL L p=L:=if_pos h
end
def SetPM (w:World) (b n:Nat) (L:List Pt):Prop:=MapK Tryz.prog 43 vP fitsP w b n (setK4 L)
def SetEM (w:World) (b n:Nat) (L:List Ed):Prop:=MapK Tryz.prog 147 vE fitsE w b n (setK4 L)
set_option maxHeartbeats 4000000 in
theorem addP_any (mb n:Nat) (L:List Pt) (p:Pt) (w:World) (hM:SetPM w mb n L) (hf:fitsP p) (hn:n < maxLen):
  Calls Tryz.prog 51 #[.map (some mb),vP p] w fun r w'=>r= .returned (.bool (!memB L p))∧SetPM w' mb (n+1) (addL L p)∧w.grownBy w' (some mb):=by
 have hlt:=hM.lt
 go_enter Tryz.func51,Tryz.ntmps51
 go_upto_region 1 with fail
 obtain ⟨X,hX⟩:∃X,X=w.alloc (.cells #[.int .i64 p.1, .int .i64 p.2.1, .int .i64 p.2.2] 43):=⟨_,rfl⟩
 rw [←hX]
 have heX:Blk X w.heap.size 43 #[.int .i64 p.1, .int .i64 p.2.1, .int .i64 p.2.2]:=by rw [hX];exact Blk.new _ _ _
 have hB:Below w.heap.size w X:=by rw [hX];exact (Below.refl _ w).alloc (Nat.le_refl _) _
 have hMX:MapK Tryz.prog 43 vP fitsP X mb n (setK4 L):=hM.below hB hlt
 obtain ⟨a0,a1,a2⟩:=heX.three
 have hl:=hMX.lookup kfP4 (t:=98) (e:=4) Tryz.underlying98 (z:= .bool false) rfl p hf
 rw [setK4_get] at hl
 by_cases hE:p∈L
 ·rw [memB_on hE] at hl
  have HE:=hide (And.intro hMX (And.intro hB hE))
  clear hX heX hB hMX hM hE
  go_wp2
  go_ret
  refine ⟨by rw [memB_on HE.out.2.2];rfl,?_,⟨HE.out.2.1.os,HE.out.2.1.tape,HE.out.2.1.output,HE.out.2.1.size,fun i hi _=>HE.out.2.1.block i hi⟩⟩
  rw [addL_old HE.out.2.2]
  exact HE.out.1.mono (by omega)
 ·rw [memB_off hE] at hl
  obtain ⟨w5,hrun,hm5,hg5,hz5⟩:=hMX.update kfP4 (t:=98) (e:=4) Tryz.underlying98 hn p hf (.bool true)
  rw [setK4_add] at hm5
  have HE:=hide (And.intro hm5 (And.intro (grown_below hB hg5) hE))
  clear hm5 hg5 hz5 hX heX hB hMX hM hE
  go_wp2
  go_ret
  exact ⟨by rw [memB_off HE.out.2.2];rfl,HE.out.1,HE.out.2.1⟩
theorem Blk.six4 {w:World} {g:Nat} {t:TypeId} {a b c d e f:Value} (h:Blk w g t #[a,b,c,d,e,f]):w.cell? ⟨g,0,none⟩=some a∧w.cell? ⟨g,1,none⟩=some b∧w.cell? ⟨g,2,none⟩=some c∧w.cell? ⟨g,3,none⟩=some d∧w.cell? ⟨g,4,none⟩=some e∧w.cell? ⟨g,5,none⟩=some f:=
 ⟨h.cell 0,h.cell 1,h.cell 2,h.cell 3,h.cell 4,h.cell 5⟩
abbrev cE (e:Ed):Array Value:=#[.int .i64 e.1.1, .int .i64 e.1.2.1, .int .i64 e.1.2.2, .int .i64 e.2.1, .int .i64 e.2.2.1, .int .i64 e.2.2.2]
set_option maxHeartbeats 4000000 in
theorem addE_any (mb n:Nat) (L:List Ed) (p:Ed) (w:World) (hM:SetEM w mb n L) (hf:fitsE p) (hn:n < maxLen):
  Calls Tryz.prog 110 #[.map (some mb),vE p] w fun r w'=>r= .returned (.bool (!memB L p))∧SetEM w' mb (n+1) (addL L p)∧w.grownBy w' (some mb):=by
 have hlt:=hM.lt
 go_enter Tryz.func110,Tryz.ntmps110
 go_upto_region 1 with fail
 obtain ⟨X,hX⟩:∃X,X=w.alloc (.cells (cE p) 147):=⟨_,rfl⟩
 rw [←hX]
 have heX:Blk X w.heap.size 147 (cE p):=by rw [hX];exact Blk.new _ _ _
 have hB:Below w.heap.size w X:=by rw [hX];exact (Below.refl _ w).alloc (Nat.le_refl _) _
 have hMX:MapK Tryz.prog 147 vE fitsE X mb n (setK4 L):=hM.below hB hlt
 obtain ⟨a0,a1,a2,a3,a4,a5⟩:=heX.six4
 have hl:=hMX.lookup kfE4 (t:=122) (e:=4) Tryz.underlying122 (z:= .bool false) rfl p hf
 rw [setK4_get] at hl
 by_cases hE:p∈L
 ·rw [memB_on hE] at hl
  have HE:=hide (And.intro hMX (And.intro hB hE))
  clear hX heX hB hMX hM hE
  go_wp2
  go_ret
  refine ⟨by rw [memB_on HE.out.2.2];rfl,?_,⟨HE.out.2.1.os,HE.out.2.1.tape,HE.out.2.1.output,HE.out.2.1.size,fun i hi _=>HE.out.2.1.block i hi⟩⟩
  rw [addL_old HE.out.2.2]
  exact HE.out.1.mono (by omega)
 ·rw [memB_off hE] at hl
  obtain ⟨w5,hrun,hm5,hg5,hz5⟩:=hMX.update kfE4 (t:=122) (e:=4) Tryz.underlying122 hn p hf (.bool true)
  rw [setK4_add] at hm5
  have HE:=hide (And.intro hm5 (And.intro (grown_below hB hg5) hE))
  clear hm5 hg5 hz5 hX heX hB hMX hM hE
  go_wp2
  go_ret
  exact ⟨by rw [memB_off HE.out.2.2];rfl,HE.out.1,HE.out.2.1⟩
end Go.Proofs.YtmemofonebphfaaGreat
namespace Go.Proofs.YtmemofonebphfaaGreat
open Go.RowKit Go.WideMaps Go.Maps
set_option maxRecDepth 100000
theorem vE2_inj {p q:E2} (h:vE2 p=vE2 q):p=q:=by
 obtain ⟨a,b⟩:=p
 obtain ⟨c,d⟩:=q
 simpa using h
theorem rowSE:(115:TypeId) < Tryz.prog.types.size:=of_decide_eq_true (by kernel_rfl)
theorem wideSE:(match Tryz.prog.underlying 115 with | some (.array _ _) | some (.struct _)=>true | _=>false)=true:=by rw [Tryz.underlying115]
theorem lawSE:KeyLaw Tryz.prog 115:=deep_law_laid laid_ok4 (m:=2) (by omega) rowSE (by kernel_rfl) wideSE
theorem keyedSE:Keyed Tryz.prog 115:=Keyed.of_law lawSE
theorem key_someSE (p:E2) (hp:fits2 p):∃l,keyOf Tryz.prog 115 (vE2 p)=some l:=by
 obtain ⟨h0,h1⟩:=hp
 have w0:=fits_wf4 h0
 have w1:=fits_wf4 h1
 have k:Tryz.prog.keyType 115=true:=by kernel_rfl
 have c:Tryz.prog.cellsOf 115=2:=by kernel_rfl
 have c1:Tryz.prog.cellsOf 3=1:=by kernel_rfl
 obtain ⟨n,hn⟩:∃n,Tryz.prog.types.size+1=n+1+1:=⟨Tryz.prog.types.size - 1,by have:(115:Nat) < Tryz.prog.types.size:=rowSE;omega⟩
 unfold keyOf
 simp only [Tryz.underlying115,k,Value.formed,c,hn,Bool.true_and]
 simp [Program.keyLits,Tryz.underlying115,Tryz.underlying3,c,c1,w0,w1,Value.cells]
theorem kfSE:KeyFit Tryz.prog 115 vE2 fits2:=⟨keyedSE,key_someSE,fun _ _=>vE2_inj⟩
theorem rowA2:(56:TypeId) < Tryz.prog.types.size:=of_decide_eq_true (by kernel_rfl)
theorem wideA2:(match Tryz.prog.underlying 56 with | some (.array _ _) | some (.struct _)=>true | _=>false)=true:=by rw [Tryz.underlying56]
theorem lawA2:KeyLaw Tryz.prog 56:=deep_law_laid laid_ok4 (m:=2) (by omega) rowA2 (by kernel_rfl) wideA2
theorem keyedA2:Keyed Tryz.prog 56:=Keyed.of_law lawA2
theorem key_someA2 (p:E2) (hp:fits2 p):∃l,keyOf Tryz.prog 56 (vE2 p)=some l:=by
 obtain ⟨h0,h1⟩:=hp
 have w0:=fits_wf4 h0
 have w1:=fits_wf4 h1
 have k:Tryz.prog.keyType 56=true:=by kernel_rfl
 have c:Tryz.prog.cellsOf 56=2:=by kernel_rfl
 have c1:Tryz.prog.cellsOf 3=1:=by kernel_rfl
 obtain ⟨n,hn⟩:∃n,Tryz.prog.types.size+1=n+1+1:=⟨Tryz.prog.types.size - 1,by have:(56:Nat) < Tryz.prog.types.size:=rowA2;omega⟩
 unfold keyOf
 simp only [Tryz.underlying56,k,Value.formed,c,hn,Bool.true_and]
 simp [Program.keyLits,Tryz.underlying56,Tryz.underlying3,c,c1,w0,w1,Value.cells,List.range_succ]
theorem kfA2:KeyFit Tryz.prog 56 vE2 fits2:=⟨keyedA2,key_someA2,fun _ _=>vE2_inj⟩
theorem keyedI9:Keyed Tryz.prog 3:=int_keyed Tryz.underlying3
theorem key_someI9 (x:Int) (hx:fits x):∃l,keyOf Tryz.prog 3 (vi x)=some l:=by
 have w0:=fits_wf4 hx
 refine ⟨.int .i64 x,?_⟩
 unfold keyOf
 simp [Tryz.underlying3,mapKey,w0]
theorem kfI9:KeyFit Tryz.prog 3 vi fits:=⟨keyedI9,key_someI9,fun _ _ h=>by simpa using h⟩
set_option maxHeartbeats 8000000 in
theorem between_any (a b:Int) (w:World):Calls Tryz.prog 73 #[.int .i64 a, .int .i64 b] w fun e w'=>e= .returned (vE2 (nrmE a b))∧Below w.heap.size w w':=by
 obtain ⟨p,hp⟩:∃p,p=min a b:=⟨_,rfl⟩
 obtain ⟨q,hq⟩:∃q,q=max a b:=⟨_,rfl⟩
 have hpq:nrmE a b=(p,q):=by rw [hp,hq];rfl
 rw [hpq]
 have e1:min a b=p:=hp.symm
 have e2:max a b=q:=hq.symm
 clear hp hq hpq
 go_enter Tryz.func73,Tryz.ntmps73
 go_upto_region 1 with fail
 obtain ⟨g,hg⟩:∃g,g=w.heap.size:=⟨_,rfl⟩
 obtain ⟨X,hX⟩:∃W,W=w.alloc (.cells #[.int .i64 0, .int .i64 0] 115):=⟨_,rfl⟩
 rw [←hX,←hg]
 have hb:Blk X g 115 #[.int .i64 0, .int .i64 0]:=by rw [hX,hg];exact Blk.new _ _ _
 have hB:Below w.heap.size w X:=by rw [hX];exact (Below.refl _ w).alloc (Nat.le_refl _) _
 have hgw:w.heap.size≤g:=by omega
 have l0:=hb.lt
 have f0:=hb.frozen 0
 have f1:=hb.frozen 1
 have c0:=hb.cell 0
 have c1:=hb.cell 1
 have HX:=hide (And.intro hb (And.intro hB hgw))
 clear hb hB hgw hg hX
 go_wp2
 refine ret_at (v:=vE2 (p,q)) (fun W=>Blk W g 115 #[.int .i64 p, .int .i64 q]) ?_ (fun W hW=> ?_) rfl ⟨rfl,?_⟩
 ·exact (HX.out.1.set_ 0 _).set_ 1 _
 ·have a0:W.cell? ⟨g,0,none⟩=some (.int .i64 p):=hW.cell 0
  have a1:W.cell? ⟨g,1,none⟩=some (.int .i64 q):=hW.cell 1
  simp [results,Tryz.results73,go_sem,a0,a1]
 ·exact (HX.out.2.1.setCell (p:=⟨g,0,none⟩) HX.out.2.2 _).setCell (p:=⟨g,1,none⟩) HX.out.2.2 _
set_option maxHeartbeats 8000000 in
theorem plus_any (p q:Pt) (n:Int) (w:World):Calls Tryz.prog 44 #[vP p,vP q, .int .i64 n] w fun e w'=>e= .returned (vP (plusP p q n))∧Below w.heap.size w w':=by
 obtain ⟨p1,p2,p3⟩:=p
 obtain ⟨q1,q2,q3⟩:=q
 have hpl:plusP (p1,p2,p3) (q1,q2,q3) n=(wrap64 (p1+wrap64 (n*q1)),wrap64 (p2+wrap64 (n*q2)),wrap64 (p3+wrap64 (n*q3))):=by
  unfold plusP
  rw [wrap64_add_r,wrap64_add_r,wrap64_add_r]
 rw [hpl]
 clear hpl
 go_enter Tryz.func44,Tryz.ntmps44
 go_upto_region 1 with fail
 obtain ⟨g0,hg0⟩:∃g,g=w.heap.size:=⟨_,rfl⟩
 obtain ⟨g1,hg1⟩:∃g,g=w.heap.size+1:=⟨_,rfl⟩
 obtain ⟨g2,hg2⟩:∃g,g=w.heap.size+1+1:=⟨_,rfl⟩
 obtain ⟨X,hX⟩:∃X,X=(((w.alloc (.cells #[.int .i64 p1, .int .i64 p2, .int .i64 p3] 43)).alloc (.cells #[.int .i64 q1, .int .i64 q2, .int .i64 q3] 43)).alloc (.cells #[.int .i64 0, .int .i64 0, .int .i64 0] 43)):=⟨_,rfl⟩
 have hb0:Blk X g0 43 #[.int .i64 p1, .int .i64 p2, .int .i64 p3]:=by rw [hX,hg0];exact (((Blk.new _ _ _).alloc _).alloc _)
 have hb1:Blk X g1 43 #[.int .i64 q1, .int .i64 q2, .int .i64 q3]:=by rw [hX,hg1];exact ((Blk.new' _ _ _ _ (by simp)).alloc _)
 have hb2:Blk X g2 43 #[.int .i64 0, .int .i64 0, .int .i64 0]:=by rw [hX,hg2];exact (Blk.new' _ _ _ _ (by simp))
 have hB:Below w.heap.size w X:=by rw [hX];exact ((((Below.refl _ w).alloc (Nat.le_refl _) _).alloc (by simp;try omega) _).alloc (by simp;try omega) _)
 have hgw:w.heap.size≤g2:=by omega
 rw [←hX,←hg2,←hg1,←hg0]
 have c00:X.cell? ⟨g0,0,none⟩=some (.int .i64 p1):=hb0.cell 0
 have c01:X.cell? ⟨g0,1,none⟩=some (.int .i64 p2):=hb0.cell 1
 have c02:X.cell? ⟨g0,2,none⟩=some (.int .i64 p3):=hb0.cell 2
 have c10:X.cell? ⟨g1,0,none⟩=some (.int .i64 q1):=hb1.cell 0
 have c11:X.cell? ⟨g1,1,none⟩=some (.int .i64 q2):=hb1.cell 1
 have c12:X.cell? ⟨g1,2,none⟩=some (.int .i64 q3):=hb1.cell 2
 have c20:X.cell? ⟨g2,0,none⟩=some (.int .i64 0):=hb2.cell 0
 have c21:X.cell? ⟨g2,1,none⟩=some (.int .i64 0):=hb2.cell 1
 have c22:X.cell? ⟨g2,2,none⟩=some (.int .i64 0):=hb2.cell 2
 have l0:=hb0.lt
 have l1:=hb1.lt
 have l2:=hb2.lt
 have f0:=hb2.frozen 0
 have f1:=hb2.frozen 1
 have f2:=hb2.frozen 2
 have HX:=hide (And.intro hb2 (And.intro hB hgw))
 clear hX hB hgw hg0 hg1 hg2 hb0 hb1 hb2
 go_wp2
 refine ret_at (v:=vP (wrap64 (p1+wrap64 (n*q1)),wrap64 (p2+wrap64 (n*q2)),wrap64 (p3+wrap64 (n*q3)))) (fun W=>Blk W g2 43 #[.int .i64 (wrap64 (p1+wrap64 (n*q1))), .int .i64 (wrap64 (p2+wrap64 (n*q2))), .int .i64 (wrap64 (p3+wrap64 (n*q3)))]) ?_ (fun W hW=> ?_) rfl ⟨rfl,?_⟩
 ·exact HX.out.1.set3 _ _ _
 ·obtain ⟨a0,a1,a2⟩:=hW.three
  simp [results,Tryz.results44,go_sem,a0,a1,a2]
  try trivial
 ·exact ((HX.out.2.1.setCell (p:=⟨g2,0,none⟩) HX.out.2.2 _).setCell (p:=⟨g2,1,none⟩) HX.out.2.2 _).setCell (p:=⟨g2,2,none⟩) HX.out.2.2 _
set_option maxHeartbeats 8000000 in
theorem scale_any (n:Nat) (hn:n≤4) (w:World):Calls Tryz.prog 45 #[.int .i64 n] w fun e w'=>e= .returned (.int .i64 (16^n))∧w'=w:=by
 go_enter Tryz.func45,Tryz.ntmps45
 have hp:∀k:Nat,k < 4→(1:Int)≤16^k∧((16:Int)^k≤4096)∧(16:Int)^k*16=16^(k+1):=fun k hk=>by
  have hc:k=0∨k=1∨k=2∨k=3:=by omega
  rcases hc with rfl | rfl | rfl | rfl <;>decide
 have HP:=hide hp
 clear hp
 go_upto_region 3 with fail
 go_loopw [3,5] (fun ov kv wr=>∃k:Nat,k≤n∧ov= .int .i64 (16^k)∧kv= .int .i64 k∧wr=w) (fun _ kv _=>n - (intOf kv).toNat)
 case atStart=>exact ⟨0,by omega,rfl,rfl,rfl⟩
 case round=>
  obtain ⟨k,hk,rfl,rfl,hw⟩:=hrel
  subst hw
  by_cases hlt:k < n
  ·have i1:(k:Int) < (n:Int):=by omega
   obtain ⟨q1,q2,q3⟩:=HP.out k (by omega)
   obtain ⟨x,hx⟩:∃x:Int,x=16^k:=⟨_,rfl⟩
   rw [←hx] at q1 q2 q3⊢
   have HQ:=hide q3
   clear hx q3
   go_wp2
   go_roundw
   case rel=>exact ⟨k+1,by omega,by rw [←HQ.out],by go_num,by trivial⟩
   case measure=>(simp [intOf];try omega)
  ·obtain rfl:k=n:=by omega
   have i1:¬(k:Int) < (k:Int):=by omega
   go_wp2
   go_ret
   exact ⟨rfl,rfl⟩
end Go.Proofs.YtmemofonebphfaaGreat
