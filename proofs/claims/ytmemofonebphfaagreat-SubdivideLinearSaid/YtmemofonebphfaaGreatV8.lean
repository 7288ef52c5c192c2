import Derived.Test.YtmemofonebphfaaGreatRows
import Derived.Handy
import Derived.Test.YtmemofonebphfaaGreatV3
namespace Go.Proofs.YtmemofonebphfaaGreat
open Go.RowKit
def fits (c:Int):Prop:= -9223372036854775808≤c∧c≤9223372036854775807
def fitsP (p:Pt):Prop:=fits p.1∧fits p.2.1∧fits p.2.2
def fitsT (t:Tri):Prop:=fitsP t.1∧fitsP t.2.1∧fitsP t.2.2
theorem mixed_ok:Tryz.prog.follows .mixedOrders=true:=by kernel_rfl
theorem ret_at {P:Program} {fn:Func} {R:Ending→World→Prop} {a:Act} {w:World} {v:Value} (S:World→Prop) (hw:S w) (hr:∀W,S W→(results fn a.tmps).run P W= .ok v W) (hd:a.defers= []) (hR:R (.returned v) w):bodyPost P fn R .ret a w:=
 bodyPost_ret (hr w hw) hd hR
theorem Blk.three {W:World} {g:Nat} {t:TypeId} {a b c:Value} (h:Blk W g t #[a,b,c]):W.cell? ⟨g,0,none⟩=some a∧W.cell? ⟨g,1,none⟩=some b∧W.cell? ⟨g,2,none⟩=some c:=
 ⟨h.cell 0,h.cell 1,h.cell 2⟩
end Go.Proofs.YtmemofonebphfaaGreat
namespace Go.Proofs.YtmemofonebphfaaGreat
open Go.RowKit
theorem idxT0 (a b c d e f g h i:Value) (w:World):(Instr.index 46 (.agg #[a,b,c,d,e,f,g,h,i]) (.int .i64 0)).run Tryz.prog w= .ok (.agg #[a,b,c]) w:=by kernel_rfl
theorem idxT1 (a b c d e f g h i:Value) (w:World):(Instr.index 46 (.agg #[a,b,c,d,e,f,g,h,i]) (.int .i64 1)).run Tryz.prog w= .ok (.agg #[d,e,f]) w:=by kernel_rfl
theorem idxT2 (a b c d e f g h i:Value) (w:World):(Instr.index 46 (.agg #[a,b,c,d,e,f,g,h,i]) (.int .i64 2)).run Tryz.prog w= .ok (.agg #[g,h,i]) w:=by kernel_rfl
def corner (t:Tri) (j:Nat):Pt:=if j=0 then t.1 else if j=1 then t.2.1 else t.2.2
theorem idxT (t:Tri) (j:Nat) (hj:j < 3) (w:World):(Instr.index 46 (vT t) (.int .i64 j)).run Tryz.prog w= .ok (vP (corner t j)) w:=by
 have:j=0∨j=1∨j=2:=by omega
 rcases this with rfl | rfl | rfl
 ·exact idxT0 _ _ _ _ _ _ _ _ _ w
 ·exact idxT1 _ _ _ _ _ _ _ _ _ w
 ·exact idxT2 _ _ _ _ _ _ _ _ _ w
end Go.Proofs.YtmemofonebphfaaGreat
