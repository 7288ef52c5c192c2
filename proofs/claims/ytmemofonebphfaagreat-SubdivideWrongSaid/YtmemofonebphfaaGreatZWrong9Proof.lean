import Derived.Test.YtmemofonebphfaaGreatRows
import Derived.Test.YtmemofonebphfaaGreatZ31
import Derived.Test.YtmemofonebphfaaGreatZ35
namespace Go.Proofs.YtmemofonebphfaaGreat
open Go.ChangeShapes Go.WideShapes Go.ChangeAt Go.RowKit
set_option maxRecDepth 100000 in
theorem kV (os:Os) (started:os.Started) (H:Type) (enc:TypeId × Value→H):
  ReturnsInHanded {} Tryz.checked os 4 .any (Rows.subdivideWrongSpec.pre6 enc Tryz.prog Tryz.f4 Rows.subdivideWrongRow.domain false) (Rows.subdivideWrongSpec.post enc Tryz.prog Tryz.f4 false true false false):=by
 refine returnsInHanded_of_change (C:=Tryz.checked) ownK started (by kernel_rfl) Tryz.func4
  (ChangeSpec.witness6 (enc:=enc) (C:=Tryz.checked) false ⟨#[],#[.agg #[.int .i64 0, .int .i64 0, .int .i64 0, .slice none 0 0, .slice none 0 0, .slice none 0 0, .slice none 0 0], .agg #[.int .i64 0, .int .i64 0, .int .i64 0], .agg #[.int .i64 0, .int .i64 0, .int .i64 0]], []⟩ 8 (by kernel_rfl) (by kernel_rfl) (by kernel_rfl) (by kernel_rfl)) ?_
 intro W base args ds gs before hval0 hW _ _
 have hval:∀(j:Nat) t v,Tryz.f4.params[j]? =some t→args[j]? =some v→Value.okWide Tryz.prog W .any base t v:=hval0
 have hW':=hW
 obtain ⟨p,q0,hA0,hV,rfl,hfz,hnd⟩:=hW
 have hA:DataW.TrodAll enc Tryz.prog W 0 (fun _=>true) true Tryz.f4.params.toList args.toList ds p:=hA0
 rw [Tryz.params4] at hA hval
 obtain ⟨v0,vs0,d0,ds0,pp0,qq0,hargs,rfl,rfl,h0,r0⟩:=trodAll_cons hA
 obtain ⟨v1,vs1,d1,ds1,pp1,qq1,rfl,rfl,rfl,h1,r1⟩:=trodAll_cons r0
 obtain ⟨v2,vs2,d2,ds2,pp2,qq2,rfl,rfl,rfl,h2,r2⟩:=trodAll_cons r1
 obtain ⟨rfl,rfl,rfl⟩:=trodAll_nil r2
 obtain rfl:args=#[v0,v1,v2]:=by cases args;simp_all
 obtain ⟨rfl,rfl⟩:=trodVars_none hV
 obtain ⟨Ap,Ac,Ao,Ad,cp,cc,oc,dc,s,rfl,hm,hf,hl⟩:=zE4 (hval 0 25 v0 rfl rfl) h0
 obtain ⟨q,rfl,hfq⟩:=zBJ (hval 1 35 v1 rfl rfl) h1
 obtain ⟨r,rfl,hfr⟩:=zBJ (hval 2 35 v2 rfl rfl) h2
 refine (zJ0 zKO Ap Ac Ao Ad cp cc oc dc s q r W hm hf.2.1 hl hfq hfr).mono fun e W' ⟨he,hb⟩=> ?_
 subst he
 exact ⟨_,rfl,zI6 (by kernel_rfl) rfl hW' rfl (by rw [Tryz.params4];decide+kernel) hb⟩
theorem subdivideWrong9_holds:Rows.SubdivideWrongSaid:=
 OpenClaim.holds_of_wide 4 Tryz.f4 rfl rfl rfl rfl rfl rfl rfl ⟨rfl,rfl,rfl,rfl,rfl⟩ rfl rfl rfl rfl rfl (by kernel_rfl) Tryz.func4 (by kernel_rfl)
  (of_decide_eq_true (by kernel_rfl)) (by unfold Func.isWrapper;first | (rw [if_pos (by decide+kernel)];kernel_rfl) | (rw [if_neg (by decide+kernel)];exact ⟨rfl,rfl⟩))
  (fun os started H enc _=>kV os started H enc)
end Go.Proofs.YtmemofonebphfaaGreat
