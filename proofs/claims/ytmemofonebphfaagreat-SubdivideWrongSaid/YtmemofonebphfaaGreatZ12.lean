import Derived.Maps.Own
import Derived.Maps.Views
import Derived.DeepKeys4
import Derived.RangeFuncBox
import Derived.DeepKeys
import Derived.Laws.StructEq
import Derived.Test.YtmemofonebphfaaGreatZ8
namespace Go.Proofs.YtmemofonebphfaaGreat
set_option maxRecDepth 100000
open Go.RowKit Go.WideMaps Go.Maps
theorem uD {c:Int} (h:fits c):(Lit.int .i64 c).wf=true:=by
 obtain ⟨h1,h2⟩:=h
 simp only [Lit.wf,IntKind.min,IntKind.max,IntKind.signed,IntKind.bits,Bool.and_eq_true,decide_eq_true_eq,if_true]
 omega
end Go.Proofs.YtmemofonebphfaaGreat
namespace Go.Proofs.YtmemofonebphfaaGreat
open Go.RowKit
set_option maxRecDepth 100000
theorem zEJ (p:Pt) (hp:yJ p):Tryz.prog.keyLits 2 43 [.int .i64 p.1, .int .i64 p.2.1, .int .i64 p.2.2]=some [.int .i64 p.1, .int .i64 p.2.1, .int .i64 p.2.2]:=by
 have w0:=uD hp.1
 have w1:=uD hp.2.1
 have w2:=uD hp.2.2
 have c:Tryz.prog.cellsOf 43=3:=by kernel_rfl
 have c1:Tryz.prog.cellsOf 3=1:=by kernel_rfl
 simp [Program.keyLits,Tryz.underlying43,Tryz.underlying3,c,c1,w0,w1,w2]
theorem zOZ (t:Tri) (ht:fitsT t):Tryz.prog.keyLits 3 46 (encT t)=some [.int .i64 t.1.1, .int .i64 t.1.2.1, .int .i64 t.1.2.2, .int .i64 t.2.1.1, .int .i64 t.2.1.2.1, .int .i64 t.2.1.2.2, .int .i64 t.2.2.1, .int .i64 t.2.2.2.1, .int .i64 t.2.2.2.2]:=by
 have c:Tryz.prog.cellsOf 43=3:=by kernel_rfl
 have c9:Tryz.prog.cellsOf 46=9:=by kernel_rfl
 have h0:=zEJ t.1 ht.1
 have h1:=zEJ t.2.1 ht.2.1
 have h2:=zEJ t.2.2 ht.2.2
 unfold Program.keyLits
 simp [encT,Tryz.underlying46,c,c9,List.range_succ,h0,h1,h2]
theorem eqP (a b:Pt) (ha:yJ a) (hb:yJ b) (w:World):(Op.equalIn 10000 43 (vP a) (vP b)).run Tryz.prog w= .ok (decide (a=b)) w:=by
 have c:Tryz.prog.cellsOf 43=3:=by kernel_rfl
 obtain ⟨r,hr,he⟩:=run_equalIn_deep (P:=Tryz.prog) 9998 2 43 (by kernel_rfl) w 2 2 (vP a) (vP b) _ _ (by simp [Value.formed,Tryz.underlying43,c]) (by simp [Value.formed,Tryz.underlying43,c]) (zEJ a ha) (zEJ b hb)
 rw [hr]
 have:r=decide (a=b):=by
  rw [Bool.eq_iff_iff,he]
  obtain ⟨a1,a2,a3⟩:=a
  obtain ⟨b1,b2,b3⟩:=b
  simp
 rw [this]
theorem eqT (a b:Tri) (ha:fitsT a) (hb:fitsT b) (w:World):(Op.equalIn 10000 46 (vT a) (vT b)).run Tryz.prog w= .ok (decide (a=b)) w:=by
 have c:Tryz.prog.cellsOf 46=9:=by kernel_rfl
 obtain ⟨r,hr,he⟩:=run_equalIn_deep (P:=Tryz.prog) 9997 3 46 (by kernel_rfl) w 3 3 (vT a) (vT b) _ _ (by simp [Value.formed,Tryz.underlying46,c]) (by simp [Value.formed,Tryz.underlying46,c]) (zOZ a ha) (zOZ b hb)
 rw [hr]
 have:r=decide (a=b):=by
  rw [Bool.eq_iff_iff,he]
  obtain ⟨⟨a1,a2,a3⟩,⟨a4,a5,a6⟩,a7,a8,a9⟩:=a
  obtain ⟨⟨b1,b2,b3⟩,⟨b4,b5,b6⟩,b7,b8,b9⟩:=b
  simp [and_assoc]
 rw [this]
end Go.Proofs.YtmemofonebphfaaGreat
