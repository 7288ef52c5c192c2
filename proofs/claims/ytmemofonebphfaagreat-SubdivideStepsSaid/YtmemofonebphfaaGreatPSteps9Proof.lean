import Derived.Test.YtmemofonebphfaaGreatRows
import Derived.Test.YtmemofonebphfaaGreatP31
import Derived.Test.YtmemofonebphfaaGreatP35
import Derived.Test.YtmemofonebphfaaGreatP36
import Derived.Test.YtmemofonebphfaaGreatPT1
import Derived.Test.YtmemofonebphfaaGreatPT2
namespace Go.Proofs.YtmemofonebphfaaGreat
open Go.ChangeShapes Go.WideShapes Go.ChangeAt Go.RowKit
set_option maxRecDepth 100000 in
theorem subdivideSteps9_lifted (os:Os) (started:os.Started) (H:Type) (enc:TypeId × Value→H):
  ReturnsInHanded {} Tryz.checked os 7 .any (Rows.subdivideStepsSpec.pre6 enc Tryz.prog Tryz.f7 Rows.subdivideStepsRow.domain false) (Rows.subdivideStepsSpec.post enc Tryz.prog Tryz.f7 false true false false):=by
 refine returnsInHanded_of_change (C:=Tryz.checked) ownK started (by kernel_rfl) Tryz.func7
  (ChangeSpec.witness6 (enc:=enc) (C:=Tryz.checked) false ⟨#[],#[.agg #[.int .i64 0, .int .i64 0, .int .i64 0, .slice none 0 0, .slice none 0 0, .slice none 0 0, .slice none 0 0]], []⟩ 8 (by kernel_rfl) (by kernel_rfl) (by kernel_rfl) (by kernel_rfl)) ?_
 intro W base args ds gs before hval0 hW _ _
 have hval:∀(j:Nat) t v,Tryz.f7.params[j]? =some t→args[j]? =some v→Value.okWide Tryz.prog W .any base t v:=hval0
 have hW':=hW
 obtain ⟨p,q0,hA0,hV,rfl,hfz,hnd⟩:=hW
 have hA:DataW.TrodAll enc Tryz.prog W 0 (fun _=>true) true Tryz.f7.params.toList args.toList ds p:=hA0
 rw [Tryz.params7] at hA hval
 obtain ⟨v0,vs0,d0,ds0,pp0,qq0,hargs,rfl,rfl,h0,r0⟩:=trodAll_cons hA
 obtain ⟨rfl,rfl,rfl⟩:=trodAll_nil r0
 obtain rfl:args=#[v0]:=by cases args;simp_all
 obtain ⟨rfl,rfl⟩:=trodVars_none hV
 obtain ⟨Ap,Ac,Ao,Ad,cp,cc,oc,dc,s,rfl,hm,hf,hl⟩:=open_shape9 (hval 0 25 v0 rfl rfl) h0
 refine (steps9_of made_any Ap Ac Ao Ad cp cc oc dc s W hm hf.2.1 hl).mono fun e W' ⟨he,hb⟩=> ?_
 subst he
 exact ⟨_,rfl,law_close (by kernel_rfl) rfl hW' rfl (by rw [Tryz.params7];decide+kernel) hb⟩
theorem subdivideSteps9_holds:Rows.SubdivideStepsSaid:=
 OpenClaim.holds_of_wide 7 Tryz.f7 rfl rfl rfl rfl rfl rfl rfl ⟨rfl,rfl,rfl,rfl,rfl⟩ rfl rfl rfl rfl rfl (by kernel_rfl) Tryz.func7 (by kernel_rfl)
  (of_decide_eq_true (by kernel_rfl)) (by unfold Func.isWrapper;first | (rw [if_pos (by decide+kernel)];kernel_rfl) | (rw [if_neg (by decide+kernel)];exact ⟨rfl,rfl⟩))
  (fun os started H enc _=>subdivideSteps9_lifted os started H enc)
end Go.Proofs.YtmemofonebphfaaGreat
