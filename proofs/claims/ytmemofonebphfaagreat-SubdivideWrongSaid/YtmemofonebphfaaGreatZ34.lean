import Derived.Test.YtmemofonebphfaaGreatZ32
import Derived.Test.YtmemofonebphfaaGreatZ33
namespace Go.Proofs.YtmemofonebphfaaGreat
open Go.RowKit Go.Sort
theorem zA2 (Ap At Ac Ao Ad:Option Addr) (cp ct cc oc dc:Nat) (c:Ctl) (q:Pt) (w:World) (hm:CtlM w w.heap.size Ap At Ac Ao Ad c) (hb:CtlB c) (hp0:0 < c.points.length) (ht0:0 < c.tris.length):
  Calls Tryz.prog 16 #[vCtl Ap c.points.length cp At c.tris.length ct Ac c.creases.length cc Ao c.corners.length oc c.steps Ad c.details.length dc, .agg #[.int .i64 q.1, .int .i64 q.2.1, .int .i64 q.2.2]] w fun e w'=>MadR w w' (yY c q) e:=by
 obtain ⟨q1,q2,q3⟩:=q
 dsimp only
 by_cases h:q1 % 13 < 7
 ·exact zND Ap At Ac Ao Ad cp ct cc oc dc c q1 q2 q3 w hm hb hp0 ht0 (by omega)
 ·exact zNF Ap At Ac Ao Ad cp ct cc oc dc c q1 q2 q3 w hm hb hp0 ht0 (by omega)
end Go.Proofs.YtmemofonebphfaaGreat
