import Derived.Test.YtmemofonebphfaaGreatRows
import Derived.Test.YtmemofonebphfaaGreatY33
import Derived.Test.YtmemofonebphfaaGreatY34
import Derived.Test.YtmemofonebphfaaGreatY35
import Derived.Test.YtmemofonebphfaaGreatYO1
namespace Go.Proofs.YtmemofonebphfaaGreat
open Go.ChangeShapes Go.WideShapes Go.ChangeAt Go.RowKit
set_option maxRecDepth 100000 in
theorem subdivideOwn9_lifted (os:Os) (started:os.Started) (H:Type) (enc:TypeId × Value→H):
  ReturnsInHanded {} Tryz.checked os 12 .any (Rows.subdivideOwnSpec.pre6 enc Tryz.prog Tryz.f12 Rows.subdivideOwnRow.domain false) (Rows.subdivideOwnSpec.post enc Tryz.prog Tryz.f12 false true false false):=by
 refine returnsInHanded_of_change (C:=Tryz.checked) ownK started (by kernel_rfl) Tryz.func12
  (ChangeSpec.witness6 (enc:=enc) (C:=Tryz.checked) false ⟨#[],#[.agg #[.int .i64 0, .int .i64 0, .int .i64 0, .slice none 0 0, .slice none 0 0, .slice none 0 0, .slice none 0 0]], []⟩ 8 (by kernel_rfl) (by kernel_rfl) (by kernel_rfl) (by kernel_rfl)) ?_
 intro W base args ds gs before hval0 hW _ _
 have hval:∀(j:Nat) t v,Tryz.f12.params[j]? =some t→args[j]? =some v→Value.okWide Tryz.prog W .any base t v:=hval0
 have hW':=hW
 obtain ⟨p,q0,hA0,hV,rfl,hfz,hnd⟩:=hW
 have hA:DataW.TrodAll enc Tryz.prog W 0 (fun _=>true) true Tryz.f12.params.toList args.toList ds p:=hA0
 rw [Tryz.params12] at hA hval
 obtain ⟨v0,vs0,d0,ds0,pp0,qq0,hargs,rfl,rfl,h0,r0⟩:=trodAll_cons hA
 obtain ⟨rfl,rfl,rfl⟩:=trodAll_nil r0
 obtain rfl:args=#[v0]:=by cases args;simp_all
 obtain ⟨rfl,rfl⟩:=trodVars_none hV
 obtain ⟨Ap,Ac,Ao,Ad,cp,cc,oc,dc,s,rfl,hm,hf,hl⟩:=open_shape9 (hval 0 25 v0 rfl rfl) h0
 refine (own9_of made_any Ap Ac Ao Ad cp cc oc dc s W hm hf.2.1 hl).mono fun e W' ⟨he,hb⟩=> ?_
 subst he
 exact ⟨_,rfl,law_close (by kernel_rfl) rfl hW' rfl (by rw [Tryz.params12];decide+kernel) hb⟩
theorem subdivideOwn9_holds:Rows.SubdivideOwnSaid:=
 OpenClaim.holds_of_wide 12 Tryz.f12 rfl rfl rfl rfl rfl rfl rfl ⟨rfl,rfl,rfl,rfl,rfl⟩ rfl rfl rfl rfl rfl (by kernel_rfl) Tryz.func12 (by kernel_rfl)
  (of_decide_eq_true (by kernel_rfl)) (by unfold Func.isWrapper;first | (rw [if_pos (by decide+kernel)];kernel_rfl) | (rw [if_neg (by decide+kernel)];exact ⟨rfl,rfl⟩))
  (fun os started H enc _=>subdivideOwn9_lifted os started H enc)
end Go.Proofs.YtmemofonebphfaaGreat
