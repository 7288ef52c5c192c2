import Derived.Test.YtmemofonebphfaaGreatP38
namespace Go.Proofs.YtmemofonebphfaaGreat
open Go.RowKit Go.Sort
theorem made_fits (s:ShpC):fits (madeC s).steps:=by
 have:=made_st s
 show fits ((stM s:Nat):Int)
 unfold fits
 omega
end Go.Proofs.YtmemofonebphfaaGreat
namespace Go.Proofs.YtmemofonebphfaaGreat
open Go.RowKit Go.Sort
set_option maxRecDepth 100000 in
set_option maxHeartbeats 64000000 in
theorem fineL9_of (hmade:MadeSaid) (Ap Ac Ao Ad:Option Addr) (cp cc oc dc:Nat) (s:ShpC) (w:World) (hm:ShpA w w.heap.size Ap Ac Ao Ad s) (hb:fits s.bits) (hl:s.points.length≤9223372036854775807∧s.creases.length≤9223372036854775807∧s.corners.length≤9223372036854775807∧s.details.length≤9223372036854775807):
  Calls Tryz.prog 3 #[vShp s.kind s.bits s.steps Ap s.points.length cp Ac s.creases.length cc Ao s.corners.length oc Ad s.details.length dc] w fun e w'=>e= .returned (.bool true)∧Below w.heap.size w w':=by
 have kmade:=fun (W:World) (hW:Below w.heap.size w W)=>hmade Ap Ac Ao Ad cp cc oc dc s W (hm.below hW hW.size) hb hl
 have ka:=fun (Ap At Ac Ao Ad:Option Addr) (cp ct cc oc dc:Nat) (W:World) (h:CtlM W W.heap.size Ap At Ac Ao Ad (madeC s))=>agrees_any Ap At Ac Ao Ad cp ct cc oc dc (madeC s) W h (made_small s) (made_fits s) (fun _=>made_back s)
 obtain ⟨c,hc⟩:∃c,c=madeC s:=⟨_,rfl⟩
 simp only [←hc] at kmade ka
 have HK:=hide (And.intro kmade ka)
 clear kmade ka hc hm hb hl
 go_enter Tryz.func3,Tryz.ntmps3
 go_upto_region 1 with fail
 obtain ⟨g1,hg1⟩:∃g,g=w.heap.size:=⟨_,rfl⟩
 obtain ⟨X0,hX⟩:∃W,W=w.alloc (.cells (cShp s.kind s.bits s.steps Ap s.points.length cp Ac s.creases.length cc Ao s.corners.length oc Ad s.details.length dc) 25):=⟨_,rfl⟩
 rw [←hX,←hg1]
 have hb1:Blk X0 g1 25 (cShp s.kind s.bits s.steps Ap s.points.length cp Ac s.creases.length cc Ao s.corners.length oc Ad s.details.length dc):=by rw [hX,hg1];exact Blk.new _ _ _
 have hBX:Below w.heap.size w X0:=by rw [hX];exact (Below.refl _ w).alloc (Nat.le_refl _) _
 have H0:=hide (And.intro hb1 hBX)
 clear hb1 hBX hX hg1
 go_upto_region 2 with (go_at_call 13;refine (sanity9_any X0).mono ?_;rintro e X1 ⟨rfl,hB1⟩;have H1:=hide (And.intro (H0.out.1.below hB1 H0.out.1.lt) (H0.out.2.trans (hB1.mono H0.out.2.size)));clear hB1)
 obtain ⟨z0,z1,z2,z3,z4,z5,z6⟩:=H1.out.1.seven9
 have hgl:=H1.out.1.lt
 go_wp2_with (first | (go_at_call 15;refine (HK.out.1 X1 H1.out.2).mono ?_;rintro e X2 ⟨Ap',At,Ac',Ao',Ad',cp',ct,cc',oc',dc',rfl,ht,hp,hcr,hco,hd,hB2⟩;have H2:=hide (And.intro (show CtlM X2 X2.heap.size Ap' At Ac' Ao' Ad' c from ⟨hp.sl encP_len (Nat.le_refl _),ht.sl encN3_len (Nat.le_refl _),hcr.sl encE2_len (Nat.le_refl _),hco.sl encZ9_len (Nat.le_refl _),hd.sl (Nat.le_refl _)⟩) (H1.out.2.trans (hB2.mono H1.out.2.size)));clear ht hp hcr hco hd hB2) | (go_at_call 14;refine (HK.out.2 _ _ _ _ _ _ _ _ _ _ X2 H2.out.1).mono ?_;rintro e X3 ⟨rfl,hB⟩;have H3:=hide (H2.out.2.trans (hB.mono H2.out.2.size));clear hB))
 go_ret
 exact ⟨rfl,H3.out⟩
end Go.Proofs.YtmemofonebphfaaGreat
