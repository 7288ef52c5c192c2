/- ClusterLocal returns true for every input, and its arguments read as they did; no condition. -/
import Derived.Test.YtgndbpkgehjelaaRows
import Derived.Test.YtgndbpkgehjelaaCB20
import Derived.Test.YtgndbpkgehjelaaCLocal
namespace Go.Proofs.Ytgndbpkgehjelaa
open Go.ChangeShapes Go.WideShapes Go.ChangeAt Go.RowKit
set_option maxRecDepth 100000 in
theorem local_lifted (os : Os) (started : os.Started) (H : Type) (enc : TypeId × Value → H) :
    ReturnsInHanded {} Try.checked os 8 .any (Rows.clusterLocalSpec.pre6 enc Try.prog Try.f8 Rows.clusterLocalRow.domain false) (Rows.clusterLocalSpec.post enc Try.prog Try.f8 false true false false) := by
  refine returnsInHanded_of_change (C := Try.checked) ownK started (by kernel_rfl) Try.func8
    (ChangeSpec.witness6 (enc := enc) (C := Try.checked) false ⟨#[], #[.slice none 0 0, .slice none 0 0, .int .u8 0], []⟩ 8 (by kernel_rfl) (by kernel_rfl) (by kernel_rfl) (by kernel_rfl)) ?_
  intro W base args ds gs before hval0 hW _ _
  have hval : ∀ (j : Nat) t v, Try.f8.params[j]? = some t → args[j]? = some v → Value.okWide Try.prog W .any base t v := hval0
  have hW' := hW
  obtain ⟨p, q, hA0, hV, rfl, hfz, hnd⟩ := hW
  have hA : DataW.TrodAll enc Try.prog W 0 (fun _ => true) true Try.f8.params.toList args.toList ds p := hA0
  rw [Try.params8] at hA hval
  obtain ⟨v0, vs0, d0, ds0, p0, q0, hargs, rfl, rfl, h0, r0⟩ := trodAll_cons hA
  obtain ⟨v1, vs1, d1, ds1, p1, q1, rfl, rfl, rfl, h1, r1⟩ := trodAll_cons r0
  obtain ⟨v2, vs2, d2, ds2, p2, q2, rfl, rfl, rfl, h2, r2⟩ := trodAll_cons r1
  obtain ⟨rfl, rfl, rfl⟩ := trodAll_nil r2
  obtain rfl : args = #[v0, v1, v2] := by cases args; simp_all
  obtain ⟨rfl, rfl⟩ := trodVars_none hV
  obtain ⟨A0, c0, ns0, rfl, hs0, hf0, hc0, hl0⟩ := open_nines (hval 0 34 v0 rfl rfl) h0
  obtain ⟨A1, c1, ns1, rfl, hs1, hf1, hc1, hl1⟩ := open_nines (hval 1 34 v1 rfl rfl) h1
  obtain ⟨x2, rfl, hx2⟩ := open_u8 (hval 2 5 v2 rfl rfl) h2
  refine (local_walk A0 c0 ns0 A1 c1 ns1 x2 W hs0 hl0 hs1 hl1 hx2).mono fun e W' ⟨he, hb⟩ => ?_
  subst he
  exact ⟨_, rfl, law_close (by kernel_rfl) rfl hW' rfl (by rw [Try.params8]; decide +kernel) hb⟩
theorem local_holds : Rows.ClusterLocalSaid :=
  OpenClaim.holds_of_wide 8 Try.f8 rfl rfl rfl rfl rfl rfl rfl ⟨rfl, rfl, rfl, rfl, rfl⟩ rfl rfl rfl rfl rfl (by kernel_rfl) Try.func8 (by kernel_rfl)
    (of_decide_eq_true (by kernel_rfl)) (by unfold Func.isWrapper; first | (rw [if_pos (by decide +kernel)]; kernel_rfl) | (rw [if_neg (by decide +kernel)]; exact ⟨rfl, rfl⟩))
    (fun os started H enc _ => local_lifted os started H enc)
end Go.Proofs.Ytgndbpkgehjelaa
