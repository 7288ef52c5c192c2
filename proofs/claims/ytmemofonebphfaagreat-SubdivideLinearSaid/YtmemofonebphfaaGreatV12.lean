import Derived.Maps.Own
import Derived.Maps.Views
import Derived.DeepKeys4
import Derived.RangeFuncBox
import Derived.DeepKeys
import Derived.Laws.StructEq
import Derived.Test.YtmemofonebphfaaGreatV8
namespace Go.Proofs.YtmemofonebphfaaGreat
set_option maxRecDepth 100000
open Go.RowKit Go.WideMaps Go.Maps
theorem fits_wf {c:Int} (h:fits c):(Lit.int .i64 c).wf=true:=by
 obtain ⟨h1,h2⟩:=h
 simp only [Lit.wf,IntKind.min,IntKind.max,IntKind.signed,IntKind.bits,Bool.and_eq_true,decide_eq_true_eq,if_true]
 omega
end Go.Proofs.YtmemofonebphfaaGreat
namespace Go.Proofs.YtmemofonebphfaaGreat
open Go.RowKit
set_option maxRecDepth 100000
theorem litsP (p:Pt) (hp:fitsP p):Tryz.prog.keyLits 2 43 [.int .i64 p.1, .int .i64 p.2.1, .int .i64 p.2.2]=some [.int .i64 p.1, .int .i64 p.2.1, .int .i64 p.2.2]:=by
 have w0:=fits_wf hp.1
 have w1:=fits_wf hp.2.1
 have w2:=fits_wf hp.2.2
 have c:Tryz.prog.cellsOf 43=3:=by kernel_rfl
 have c1:Tryz.prog.cellsOf 3=1:=by kernel_rfl
 simp [Program.keyLits,Tryz.underlying43,Tryz.underlying3,c,c1,w0,w1,w2]
theorem eqP (a b:Pt) (ha:fitsP a) (hb:fitsP b) (w:World):(Op.equalIn 10000 43 (vP a) (vP b)).run Tryz.prog w= .ok (decide (a=b)) w:=by
 have c:Tryz.prog.cellsOf 43=3:=by kernel_rfl
 obtain ⟨r,hr,he⟩:=run_equalIn_deep (P:=Tryz.prog) 9998 2 43 (by kernel_rfl) w 2 2 (vP a) (vP b) _ _ (by simp [Value.formed,Tryz.underlying43,c]) (by simp [Value.formed,Tryz.underlying43,c]) (litsP a ha) (litsP b hb)
 rw [hr]
 have:r=decide (a=b):=by
  rw [Bool.eq_iff_iff,he]
  obtain ⟨a1,a2,a3⟩:=a
  obtain ⟨b1,b2,b3⟩:=b
  simp
 rw [this]
end Go.Proofs.YtmemofonebphfaaGreat
