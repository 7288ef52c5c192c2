import Derived.Test.YtmemofonebphfaaGreatRows
import Derived.Test.YtmemofonebphfaaGreatV34
import Derived.Test.YtmemofonebphfaaGreatV35
import Derived.Test.YtmemofonebphfaaGreatV36
namespace Go.Proofs.YtmemofonebphfaaGreat
open Go.ChangeShapes Go.WideShapes Go.ChangeAt Go.RowKit
set_option maxRecDepth 100000 in
theorem subdivideLinear9_lifted (os:Os) (started:os.Started) (H:Type) (enc:TypeId × Value→H):
  ReturnsInHanded {} Tryz.checked os 6 .any (Rows.subdivideLinearSpec.pre6 enc Tryz.prog Tryz.f6 Rows.subdivideLinearRow.domain false) (Rows.subdivideLinearSpec.post enc Tryz.prog Tryz.f6 false true false false):=by
 refine returnsInHanded_of_change (C:=Tryz.checked) ownK started (by kernel_rfl) Tryz.func6
  (ChangeSpec.witness6 (enc:=enc) (C:=Tryz.checked) false ⟨#[],#[.agg #[.int .i64 0, .int .i64 0, .int .i64 0, .slice none 0 0, .slice none 0 0, .slice none 0 0, .slice none 0 0], .agg #[.int .i64 0, .int .i64 0, .int .i64 0, .slice none 0 0, .slice none 0 0, .slice none 0 0, .slice none 0 0]], []⟩ 8 (by kernel_rfl) (by kernel_rfl) (by kernel_rfl) (by kernel_rfl)) ?_
 intro W base args ds gs before hval0 hW _ _
 have hval:∀(j:Nat) t v,Tryz.f6.params[j]? =some t→args[j]? =some v→Value.okWide Tryz.prog W .any base t v:=hval0
 have hW':=hW
 obtain ⟨p,q0,hA0,hV,rfl,hfz,hnd⟩:=hW
 have hA:DataW.TrodAll enc Tryz.prog W 0 (fun _=>true) true Tryz.f6.params.toList args.toList ds p:=hA0
 rw [Tryz.params6] at hA hval
 obtain ⟨v0,vs0,d0,ds0,pp0,qq0,hargs,rfl,rfl,h0,r0⟩:=trodAll_cons hA
 obtain ⟨v1,vs1,d1,ds1,pp1,qq1,rfl,rfl,rfl,h1,r1⟩:=trodAll_cons r0
 obtain ⟨rfl,rfl,rfl⟩:=trodAll_nil r1
 obtain rfl:args=#[v0,v1]:=by cases args;simp_all
 obtain ⟨rfl,rfl⟩:=trodVars_none hV
 obtain ⟨Ap,Ac,Ao,Ad,cp,cc,oc,dc,s,rfl,hm,hf,hl⟩:=open_shape9 (hval 0 25 v0 rfl rfl) h0
 obtain ⟨Ap2,Ac2,Ao2,Ad2,cp2,cc2,oc2,dc2,s2,rfl,hm2,hf2,hl2⟩:=open_shape9 (hval 1 25 v1 rfl rfl) h1
 refine (linear9_of madeD_any Ap Ac Ao Ad cp cc oc dc s Ap2 Ac2 Ao2 Ad2 cp2 cc2 oc2 dc2 s2 W hm hm2 hf.2.1 hl hl2).mono fun e W' ⟨he,hb⟩=> ?_
 subst he
 exact ⟨_,rfl,law_close (by kernel_rfl) rfl hW' rfl (by rw [Tryz.params6];decide+kernel) hb⟩
theorem subdivideLinear9_holds:Rows.SubdivideLinearSaid:=
 OpenClaim.holds_of_wide 6 Tryz.f6 rfl rfl rfl rfl rfl rfl rfl ⟨rfl,rfl,rfl,rfl,rfl⟩ rfl rfl rfl rfl rfl (by kernel_rfl) Tryz.func6 (by kernel_rfl)
  (of_decide_eq_true (by kernel_rfl)) (by unfold Func.isWrapper;first | (rw [if_pos (by decide+kernel)];kernel_rfl) | (rw [if_neg (by decide+kernel)];exact ⟨rfl,rfl⟩))
  (fun os started H enc _=>subdivideLinear9_lifted os started H enc)
end Go.Proofs.YtmemofonebphfaaGreat
