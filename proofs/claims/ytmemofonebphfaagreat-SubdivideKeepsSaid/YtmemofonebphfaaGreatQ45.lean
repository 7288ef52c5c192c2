/- SbY KpP KpW. -/
import Derived.WalkKit
import Derived.WalkSpells
import Derived.WalkLawsBesides
import Derived.Laws.OwnMore
import Derived.Deep.AppendLies
import Derived.Deep.Draws
import Derived.Maps.AppendAt
import Derived.OwnWalk
import Derived.Sort.Grow
import Derived.Shelf.GgSortFunc.RowK
import Derived.RangeFuncNested
import Derived.RangeFuncBox
import Derived.Test.YtmemofonebphfaaGreatRows
import Derived.Handy
import Derived.Maps.Own
import Derived.Maps.Views
import Derived.DeepKeys4
import Derived.DeepKeys
import Derived.Laws.StructEq
import Derived.Deep.QuietTactic
import Derived.BigQuiet
import Derived.LoopN
import Derived.Laws.EntriesVeiled
import Derived.Shelf.SlSortCmp.QuietGrown
import Derived.Deep.RegionHeld3
import Derived.Deep.DrawnRows
import Derived.Sort.Statements
import Derived.Shelf.SlSortCmp.NoneTotal
import Derived.OrdersHeld
import Derived.OrdersIn
import Derived.RangeFuncCalls
import Derived.OwnWalkIn
import Derived.Deep.CutBlock
import Derived.Deep.DeepCutAuto
import Derived.StillTailTactics
import Derived.BigRegion
import Derived.Test.YtmemofonebphfaaGreatProg
import Derived.IntWalk
import Derived.Deep.WholeRow
import Derived.Great.BuildSlice
import Derived.Great.Walk
import Derived.Maps.OwnSet
import Derived.Maps.RangeWalk
import Derived.Deep.MidRow
import Derived.Shelf.RegionOpen
import Derived.Shelf.SlicesE.Clone
import Derived.WideKeyEntry
import Derived.Shelf.Abstract
import Derived.Test.YtmemofonebphfaaGreatQ29
namespace Go.Proofs.YtmemofonebphfaaGreat
open Go.RowKit Go.Sort
theorem lowS_few {n : Nat} (h : n ≤ 800) : ∀ k, n * 2 ^ (2 * lowS n k) ≤ 800
  | 0 => by unfold lowS; simpa using h
  | k + 1 => by
    unfold lowS
    split
    · exact lowS_few h k
    · omega
theorem getD_memE {E : List E2} (h : 1 ≤ E.length) (x : Int) : E.getD (x % (E.length : Int)).toNat (0, 0) ∈ E := by
  have : (x % (E.length : Int)).toNat < E.length := by
    have := Int.emod_nonneg x (show (E.length : Int) ≠ 0 by omega)
    have := Int.emod_lt_of_pos x (show (0 : Int) < E.length by omega)
    omega
  rw [List.getD_eq_getElem?_getD, List.getElem?_eq_getElem this]
  exact List.getElem_mem this
theorem creM_mem {t : List Pt} (h : 1 ≤ (edgesE t).length) (x : Int) : nrmE (creM (edgesE t) x).1 (creM (edgesE t) x).2 ∈ edgesE t ∧ ((creM (edgesE t) x).1, (creM (edgesE t) x).2) ∈ edgesE t ∨ ((creM (edgesE t) x).2, (creM (edgesE t) x).1) ∈ edgesE t := by
  unfold creM
  split
  · exact .inr (getD_memE h x)
  · have := getD_memE h x
    refine .inl ⟨?_, this⟩
    rw [nrmE_up (mem_edgesE.1 this).2]
    exact this
theorem many_of : ∀ {ds : List (List Pt)} {n m : Nat}, (∀ (k : Nat) (d : List Pt), ds[k]? = some d → d.length ≤ 4 ^ k * m) → manyE ds n m = false
  | _, 0, _, _ => by unfold manyE; rfl
  | [], _ + 1, _, _ => by unfold manyE; rfl
  | d :: ds, n + 1, m, h => by
    unfold manyE
    rw [Bool.or_eq_false_iff, decide_eq_false_iff_not]
    refine ⟨by have := h 0 d rfl; simp at this; omega, many_of fun k e he => ?_⟩
    have := h (k + 1) e (by simpa using he)
    rw [Nat.pow_succ, Nat.mul_assoc] at this
    exact this
theorem made_few (s : ShpC) : 4 ^ stM s * (baseT s.kind s.bits).length ≤ 800 := by
  have h := lowS_few (n := (baseT s.kind s.bits).length) (by have := (base_right s.kind s.bits).few; omega) (s.steps % 5).toNat
  unfold stM
  rw [show (4 : Nat) = 2 ^ 2 from rfl, ← Nat.pow_mul, Nat.mul_comm]
  exact h
theorem top_pos (s : ShpC) : 0 ≤ topM s := Int.ediv_nonneg (by decide) (Int.le_of_lt (Int.pow_pos (by decide)))
theorem outR_of {lo hi : Int} {l : List Pt} (h : ∀ p ∈ l, (lo ≤ p.1 ∧ p.1 ≤ hi) ∧ (lo ≤ p.2.1 ∧ p.2.1 ≤ hi) ∧ lo ≤ p.2.2 ∧ p.2.2 ≤ hi) : outR lo hi l = false := by
  refine List.any_eq_false.2 fun p hp => ?_
  have := h p hp
  simp only [decide_eq_true_eq]
  omega
theorem made_right (s : ShpC) : errC (madeC s) = 0 := by
  have hb := base_right s.kind s.bits
  have hs := made_st s
  have hf := made_few s
  have hlen : (madeC s).points.length = baseN s.kind s.bits := by show (List.map _ _).length = _; rw [List.length_map, List.length_range]
  have hdl : (madeC s).details.length ≤ stM s := by
    show (if _ then _ else _ : List (List Pt)).length ≤ _
    split
    · exact Nat.zero_le _
    · rw [List.length_map, List.length_range]; exact Nat.le_refl _
  have hdg : ∀ (k : Nat) (d : List Pt), (madeC s).details[k]? = some d → d = detM s k := fun k d h => by
    have h : (if s.details.length = 0 then [] else (List.range (stM s)).map (detM s))[k]? = some d := h
    split at h
    · cases h
    · rw [List.getElem?_map] at h
      cases hk : (List.range (stM s))[k]? with
      | none => rw [hk] at h; cases h
      | some j =>
        rw [hk] at h
        have := List.getElem?_eq_some_iff.1 hk
        obtain ⟨h1, h2⟩ := this
        rw [List.getElem_range] at h2
        subst h2
        exact (Option.some.inj h).symm
  have hed : ∀ a b : Int, (a, b) ∈ edgesE (baseT s.kind s.bits) → (0 ≤ a ∧ a < (baseN s.kind s.bits : Int)) ∧ 0 ≤ b ∧ b < (baseN s.kind s.bits : Int) := fun a b h => by
    obtain ⟨x, hx, hx2⟩ := mem_dirE.1 (mem_edgesE.1 h).1
    have := hb.idx x hx
    obtain ⟨x1, x2, x3⟩ := x
    simp only [mem_de3, Prod.mk.injEq] at hx2
    dsimp only at this
    omega
  have h16 : (16 : Int) ^ (madeC s).steps.toNat = 16 ^ stM s := by show (16 : Int) ^ ((stM s : Int)).toNat = _; rw [Int.toNat_natCast]
  refine right_iff.2 ⟨?_, ?_, hb.chk, noEdge_no.2 fun e he => ?_, ?_, ?_⟩
  · show (decide ((stM s : Int) < 0) || decide (4 < (stM s : Int)) || decide ((stM s : Int) < ((madeC s).details.length : Int))) = false
    simp only [Bool.or_eq_false_iff, decide_eq_false_iff_not]
    omega
  · unfold badIx
    rw [hlen, Bool.or_eq_false_iff, Bool.or_eq_false_iff]
    refine ⟨⟨?_, ?_⟩, ?_⟩
    · refine outE_all fun i hi => okI_iff.2 ?_
      obtain ⟨x, hx, hx2⟩ := List.mem_flatMap.1 hi
      have := hb.idx x hx
      simp only [corN3, List.mem_cons, List.not_mem_nil, or_false] at hx2
      omega
    · refine outE_all fun i hi => okI_iff.2 ?_
      obtain ⟨e, he, h⟩ := List.mem_flatMap.1 hi
      obtain ⟨x, _, rfl⟩ := List.mem_map.1 he
      simp only [List.mem_cons, List.not_mem_nil, or_false] at h
      rcases creM_mem hb.edg x with ⟨_, h1⟩ | h1
      · have := hed _ _ h1; omega
      · have := hed _ _ h1; omega
    · refine outE_all fun i hi => okI_iff.2 ?_
      obtain ⟨x, _, rfl⟩ := List.mem_map.1 hi
      have h1 := hb.some
      exact ⟨Int.emod_nonneg x (by omega), Int.emod_lt_of_pos x (by omega)⟩
  · obtain ⟨x, _, rfl⟩ := List.mem_map.1 he
    rcases creM_mem hb.edg x with ⟨h1, _⟩ | h1
    · exact h1
    · rw [nrmE_sym, nrmE_up (mem_edgesE.1 h1).2]; exact h1
  · unfold manyC
    rw [Bool.or_eq_false_iff, decide_eq_false_iff_not]
    refine ⟨many_of fun k d hd => ?_, ?_⟩
    · rw [hdg k d hd]
      unfold detM
      rw [List.length_map, List.length_range]
      exact Nat.min_le_left _ _
    · have : 4 ^ (madeC s).steps.toNat * (madeC s).tris.length = 4 ^ stM s * (baseT s.kind s.bits).length := by show 4 ^ ((stM s : Int)).toNat * _ = _; rw [Int.toNat_natCast]; rfl
      omega
  · unfold farC
    rw [h16, Bool.or_eq_false_iff]
    refine ⟨outR_of fun p hp => ?_, ?_⟩
    · obtain ⟨i, _, rfl⟩ := List.mem_map.1 hp
      have h1 := top_pos s
      have key : ∀ x : Int, 0 ≤ x % (topM s + 1) ∧ x % (topM s + 1) ≤ topM s := fun x => ⟨Int.emod_nonneg x (by omega), by have := Int.emod_lt_of_pos x (show 0 < topM s + 1 by omega); omega⟩
      exact ⟨key _, key _, key _⟩
    · refine List.any_eq_false.2 fun d hd => ?_
      rw [Bool.not_eq_true]
      obtain ⟨k, hk⟩ := List.mem_iff_getElem?.1 hd
      rw [hdg k d hk]
      refine outR_of fun p hp => ?_
      obtain ⟨i, _, rfl⟩ := List.mem_map.1 hp
      exact ⟨tmod20 _, tmod20 _, tmod20 _⟩
end Go.Proofs.YtmemofonebphfaaGreat
namespace Go.Proofs.YtmemofonebphfaaGreat
open Go.RowKit Go.Sort
theorem made_fin (s : ShpC) : FinF (madeC s) := fin_facts (made_right s) (made_back s)
end Go.Proofs.YtmemofonebphfaaGreat
namespace Go.Proofs.YtmemofonebphfaaGreat
open Go.RowKit Go.Sort
theorem fits_of (n : Nat) (y : Int) (h0 : 0 ≤ y) (h1 : y < (n : Int)) (hn : n ≤ 1000000) : fits y := by unfold fits; omega
set_option maxRecDepth 100000 in
set_option maxHeartbeats 64000000 in
theorem keeps9_of (hmade : MadeSaid) (Ap Ac Ao Ad : Option Addr) (cp cc oc dc : Nat) (s : ShpC) (w : World) (hm : ShpA w w.heap.size Ap Ac Ao Ad s) (hb : fits s.bits) (hl : s.points.length ≤ 9223372036854775807 ∧ s.creases.length ≤ 9223372036854775807 ∧ s.corners.length ≤ 9223372036854775807 ∧ s.details.length ≤ 9223372036854775807) :
    Calls Tryz.prog 5 #[vShp s.kind s.bits s.steps Ap s.points.length cp Ac s.creases.length cc Ao s.corners.length oc Ad s.details.length dc] w fun e w' => e = .returned (.bool true) ∧ Below w.heap.size w w' := by
  have kmade := fun (W : World) (hW : Below w.heap.size w W) => hmade Ap Ac Ao Ad cp cc oc dc s W (hm.below hW hW.size) hb hl
  have hF := made_fin s
  have hsm := made_small s
  have hft := made_fits s
  have hrt := made_right s
  have hbk := made_back s
  have hst := made_st s
  obtain ⟨c, hc⟩ : ∃ c, c = madeC s := ⟨_, rfl⟩
  have hs0 : c.steps = ((stM s : Nat) : Int) := by rw [hc]; rfl
  have hnp9 : c.points.length ≤ 972 := by
    rw [hc]
    show (List.map _ _).length ≤ _
    rw [List.length_map, List.length_range]
    exact (base_right s.kind s.bits).pts
  have hnt9 : c.tris.length ≤ 324 := by rw [hc]; exact (base_right s.kind s.bits).few
  simp only [← hc] at kmade hF hsm hft hrt hbk
  obtain ⟨k, hk⟩ : ∃ k, k = stM s := ⟨_, rfl⟩
  rw [← hk] at hs0 hst
  have HK := hide (And.intro kmade (And.intro hF (And.intro hsm (And.intro hft (And.intro hrt (And.intro hbk hs0))))))
  clear kmade hF hsm hft hrt hbk hs0 hk hc hm hl hb
  go_enter Tryz.func5, Tryz.ntmps5
  go_upto_region 1 with fail
  obtain ⟨g1, hg1⟩ : ∃ g, g = w.heap.size := ⟨_, rfl⟩
  obtain ⟨X0, hX⟩ : ∃ W, W = w.alloc (.cells (cShp s.kind s.bits s.steps Ap s.points.length cp Ac s.creases.length cc Ao s.corners.length oc Ad s.details.length dc) 25) := ⟨_, rfl⟩
  rw [← hX, ← hg1]
  have hb1 : Blk X0 g1 25 (cShp s.kind s.bits s.steps Ap s.points.length cp Ac s.creases.length cc Ao s.corners.length oc Ad s.details.length dc) := by rw [hX, hg1]; exact Blk.new _ _ _
  have hBX : Below w.heap.size w X0 := by rw [hX]; exact (Below.refl _ w).alloc (Nat.le_refl _) _
  have H0 := hide (And.intro hb1 hBX)
  clear hb1 hBX hX hg1
  go_upto_region 2 with (go_at_call 13; refine (sanity9_any X0).mono ?_; rintro e X1 ⟨rfl, hB1⟩; have H1 := hide (And.intro (H0.out.1.below hB1 H0.out.1.lt) (H0.out.2.trans (hB1.mono H0.out.2.size))); clear hB1)
  obtain ⟨z0, z1, z2, z3, z4, z5, z6⟩ := H1.out.1.seven9
  have hgl := H1.out.1.lt
  go_upto_region 3 with (go_at_call 15; refine (HK.out.1 X1 H1.out.2).mono ?_; rintro e X2 ⟨Ap', At, Ac', Ao', Ad', cp', ct, cc', oc', dc', rfl, ht, hp, hcr, hco, hd, hB2⟩; have H2 := hide (And.intro ht (And.intro hp (And.intro hcr (And.intro hco (And.intro hd (H1.out.2.trans (hB2.mono H1.out.2.size))))))); clear ht hp hcr hco hd hB2)
  clear z0 z1 z2 z3 z4 z5 z6 hgl
  obtain ⟨X3, hX3⟩ : ∃ W, W = X2.alloc (.cells (cCtl Ap' c.points.length cp' At c.tris.length ct Ac' c.creases.length cc' Ao' c.corners.length oc' c.steps Ad' c.details.length dc') 32) := ⟨_, rfl⟩
  obtain ⟨g4, hg4⟩ : ∃ g, g = X2.heap.size := ⟨_, rfl⟩
  rw [← hX3, ← hg4]
  have hB3 : Below X2.heap.size X2 X3 := by rw [hX3]; exact (Below.refl _ _).alloc (Nat.le_refl _) _
  have hb4 : Blk X3 g4 32 (cCtl Ap' c.points.length cp' At c.tris.length ct Ac' c.creases.length cc' Ao' c.corners.length oc' c.steps Ad' c.details.length dc') := by rw [hX3, hg4]; exact Blk.new _ _ _
  have hmc : CtlM X3 X3.heap.size Ap' At Ac' Ao' Ad' c := (show CtlM X2 X2.heap.size Ap' At Ac' Ao' Ad' c from ⟨H2.out.2.1.sl encP_len (Nat.le_refl _), H2.out.1.sl encN3_len (Nat.le_refl _), H2.out.2.2.1.sl encE2_len (Nat.le_refl _), H2.out.2.2.2.1.sl encZ9_len (Nat.le_refl _), H2.out.2.2.2.2.1.sl (Nat.le_refl _)⟩).below hB3 hB3.size
  have H3 := hide (And.intro hmc (And.intro hb4 (H2.out.2.2.2.2.2.trans (hB3.mono H2.out.2.2.2.2.2.size))))
  clear hB3 hb4 hmc hX3 hg4
  obtain ⟨z0, z1, z2, z3, z4, z5⟩ := H3.out.2.1.six9
  have hgl := H3.out.2.1.lt
  have kf := fine_any Ap' At Ac' Ao' Ad' cp' ct cc' oc' dc' c X3 H3.out.1 HK.out.2.2.1 HK.out.2.2.2.1 (fun _ => HK.out.2.2.2.2.2.1)
  rw [HK.out.2.2.2.2.1] at kf
  obtain ⟨P, hP⟩ : ∃ P, P = finP c := ⟨_, rfl⟩
  obtain ⟨T, hT⟩ : ∃ T, T = finT c := ⟨_, rfl⟩
  rw [← hP, ← hT] at kf
  obtain ⟨nP, hnP⟩ : ∃ n, n = P.length := ⟨_, rfl⟩
  obtain ⟨nT, hnT⟩ : ∃ n, n = T.length := ⟨_, rfl⟩
  rw [← hnP, ← hnT] at kf
  obtain ⟨np, hnp⟩ : ∃ n, n = c.points.length := ⟨_, rfl⟩
  obtain ⟨nt, hnt⟩ : ∃ n, n = c.tris.length := ⟨_, rfl⟩
  have HF := HK.out.2.1
  have hle : np ≤ nP := by rw [hnp, hnP, hP]; exact HF.le
  have hnPb : nP ≤ 500000 := by have := HF.pts; rw [← hP, ← hnP] at this; omega
  have hnTb : nT ≤ 65536 := by rw [hnT, hT]; exact HF.few
  have hlen : nT = 2 ^ (2 * k) * nt := by
    have := HF.lenT
    rw [HK.out.2.2.2.2.2.2, Int.toNat_natCast] at this
    rw [hnT, hT, this, hnt, Nat.pow_mul]
  have hpre : ∀ (i : Nat) (x : Pt), c.points[i]? = some x → P[i]? = some (wrap64 (16 ^ k * x.1), wrap64 (16 ^ k * x.2.1), wrap64 (16 ^ k * x.2.2)) := fun i x hx => by
    have := HF.pre i x hx
    rw [HK.out.2.2.2.2.2.2, Int.toNat_natCast] at this
    rw [hP]
    exact this
  have hidx : ∀ x ∈ T, (0 ≤ x.1 ∧ x.1 < (nP : Int)) ∧ (0 ≤ x.2.1 ∧ x.2.1 < (nP : Int)) ∧ 0 ≤ x.2.2 ∧ x.2.2 < (nP : Int) := by rw [hT, hnP, hP]; exact HF.idx
  have hchk : checkP (T.map numT) false = 0 := by rw [hT]; exact HF.chk
  have hst0 := HK.out.2.2.2.2.2.2
  rw [← hnp] at hnp9
  rw [← hnt] at hnt9
  rw [← hnp, ← hnt, hst0] at kf
  simp only [← hnp, ← hnt, hst0] at z0 z1 z2 z3 z4 z5
  try rw [← hnp]
  try rw [← hnt]
  try rw [hst0]
  clear hst0
  obtain ⟨nc, hnc⟩ : ∃ n, n = c.creases.length := ⟨_, rfl⟩
  obtain ⟨no, hno⟩ : ∃ n, n = c.corners.length := ⟨_, rfl⟩
  obtain ⟨nd, hnd⟩ : ∃ n, n = c.details.length := ⟨_, rfl⟩
  simp only [← hnc, ← hno, ← hnd] at kf z0 z1 z2 z3 z4 z5
  try simp only [← hnc, ← hno, ← hnd]
  have HA := hide (And.intro hpre (And.intro hidx (And.intro hchk (And.intro kf (And.intro hnp (And.intro hnT hnP))))))
  have HL := hide hlen
  clear hP hT hnP hnT hnp hnt HF hpre hidx hchk kf hlen hnc hno hnd
  go_upto_region 4 with (go_at_call 18; refine HA.out.2.2.2.1.mono ?_; rintro e X4 ⟨A1, c1, A2, c2, rfl, hP, hT, hB4⟩; have H4 := hide (And.intro hP (And.intro hT hB4)); clear hP hT hB4)
  have z0' := (H4.out.2.2.cell (p := ⟨g4, 0, none⟩) hgl).trans z0
  have z1' := (H4.out.2.2.cell (p := ⟨g4, 1, none⟩) hgl).trans z1
  have z4' := (H4.out.2.2.cell (p := ⟨g4, 4, none⟩) hgl).trans z4
  have hgl4 : g4 < X4.heap.size := Nat.lt_of_lt_of_le hgl H4.out.2.2.size
  clear z0 z1 z2 z3 z4 z5 hgl
  obtain ⟨s4, hs4⟩ : ∃ n : Nat, n = 4 * k := ⟨_, rfl⟩
  obtain ⟨s2, hs2⟩ : ∃ n : Nat, n = 2 * k := ⟨_, rfl⟩
  have u1 : 4 * (k : Int) = (s4 : Int) := by omega
  have u2 : 2 * (k : Int) = (s2 : Int) := by omega
  obtain ⟨pw, hpw⟩ : ∃ p : Int, p = (16 : Int) ^ k := ⟨_, rfl⟩
  have u3 : (2 : Int) ^ s4 = pw := by
    rw [hs4, hpw, Int.pow_mul]
    rfl
  have pb : 1 ≤ pw ∧ pw ≤ 65536 := by
    have hc : k = 0 ∨ k = 1 ∨ k = 2 ∨ k = 3 ∨ k = 4 := by omega
    rw [hpw]
    rcases hc with rfl | rfl | rfl | rfl | rfl <;> decide
  have u4 : (nt : Int) * 2 ^ s2 = (nT : Int) := by
    rw [HL.out, hs2, Int.natCast_mul, Int.natCast_pow, Int.mul_comm]
    rfl
  have u5 : ¬ (nP : Int) < (np : Int) := by omega
  have HW := hide hpw
  clear hs4 hs2 hpw
  go_upto_region 8 with fail
  clear u1 u2 u3 u4 u5 z1' z4'
  go_loopw [9] (fun iv wr => ∃ i : Nat, i ≤ np ∧ iv = .int .i64 i ∧ Below X4.heap.size X4 wr) (fun iv _ => np - (intOf iv).toNat)
  case atStart => exact ⟨0, by omega, rfl, Below.refl _ _⟩
  case round =>
    obtain ⟨i, hi, rfl, hB⟩ := hrel
    obtain ⟨V, rfl⟩ : ∃ x, x = wr := ⟨_, rfl⟩
    have d0 := (hB.cell (p := ⟨g4, 0, none⟩) hgl4).trans z0'
    have hglV : g4 < V.heap.size := Nat.lt_of_lt_of_le hgl4 hB.size
    by_cases hlt : i < np
    · have i1 : (i : Int) < (np : Int) := by omega
      obtain ⟨x, hx⟩ : ∃ x, c.points[i]? = some x := ⟨_, List.getElem?_eq_getElem (by rw [← HA.out.2.2.2.2.1]; exact hlt)⟩
      have hy := HA.out.1 i x hx
      have hBV : Below X3.heap.size X3 V := H4.out.2.2.trans (hB.mono H4.out.2.2.size)
      obtain ⟨bc, oc9, hA, hbc, _⟩ := H3.out.1.p.at hx
      subst hA
      obtain ⟨e0, e1, e2, hbcV⟩ := (H3.out.1.p.ptW (Nat.le_refl _) hx).2 V hBV
      have hSP : Sl encP 3 X4 X4.heap.size A1 P := H4.out.1.sl encP_len (Nat.le_refl _)
      obtain ⟨bp, op, hA, hbp, _⟩ := hSP.at hy
      subst hA
      obtain ⟨f0, f1, f2, hbpV⟩ := (hSP.ptW (Nat.le_refl _) hy).2 V hB
      obtain ⟨x1, x2, x3⟩ := x
      simp only at e0 e1 e2 f0 f1 f2
      rw [← HW.out] at f0 f1 f2
      obtain ⟨y1, hy1⟩ : ∃ y, wrap64 (pw * x1) = y := ⟨_, rfl⟩
      obtain ⟨y2, hy2⟩ : ∃ y, wrap64 (pw * x2) = y := ⟨_, rfl⟩
      obtain ⟨y3, hy3⟩ : ∃ y, wrap64 (pw * x3) = y := ⟨_, rfl⟩
      rw [hy1] at f0
      rw [hy2] at f1
      rw [hy3] at f2
      have j1 : (i : Int) < (nP : Int) := by omega
      have HE := hide (And.intro hB (And.intro hy1 (And.intro hy2 hy3)))
      clear hB hy1 hy2 hy3 hSP hBV hx hy hbc hbp
      go_upto_region 11 with fail
      obtain ⟨Y, hY⟩ : ∃ W, W = V.alloc (.cells #[.int .i64 x1, .int .i64 x2, .int .i64 x3] 43) := ⟨_, rfl⟩
      obtain ⟨g10, hg10⟩ : ∃ g, g = V.heap.size := ⟨_, rfl⟩
      rw [← hY, ← hg10]
      have hBY : Below V.heap.size V Y := by rw [hY]; exact (Below.refl _ V).alloc (Nat.le_refl _) _
      have hbY : Blk Y g10 43 #[.int .i64 x1, .int .i64 x2, .int .i64 x3] := by rw [hY, hg10]; exact Blk.new _ _ _
      obtain ⟨k0, k1, k2⟩ := hbY.three
      have hl10 := hbY.lt
      have q0 := (hBY.cell (p := ⟨bp, op + i * 3, none⟩) hbpV).trans f0
      have q1 := (hBY.cell (p := ⟨bp, op + i * 3 + 1, none⟩) hbpV).trans f1
      have q2 := (hBY.cell (p := ⟨bp, op + i * 3 + 2, none⟩) hbpV).trans f2
      have hbpY : bp < Y.heap.size := Nat.lt_of_lt_of_le hbpV hBY.size
      have HY := hide (And.intro k0 (And.intro k1 (And.intro k2 (And.intro hl10 (And.intro q0 (And.intro q1 (And.intro q2 (And.intro hbpY (HE.out.1.trans (hBY.mono HE.out.1.size))))))))))
      clear hBY hbY k0 k1 k2 hl10 q0 q1 q2 hbpY hY hg10 e0 e1 e2 f0 f1 f2 hbcV hbpV d0 hglV
      have HSB := hide (show Below Y.heap.size Y Y.drew from (Below.refl _ Y).drew)
      refine wp_region_mix (fun W => Below Y.heap.size Y W) [0, 1, 2, 3, 4, 5, 6, 7, 8, 9, 10, 11, 12, 13, 14, 15, 16, 17] [0, 1, 2, 3, 4, 5, 6, 7, 8, 9, 10, 11, 12, 13, 14, 15, 16, 17] mixed_ok (by kernel_rfl) ?_
      refine wpMix_q (v := (.slice (some ⟨bp, op, none⟩) nP c1)) rfl rfl (fun _ _ _ h => h) HSB.out ⟨rfl, fun _ _ => by simp [go_sem]⟩ ?_
      refine wpMix_q (v := (.int .i64 i)) rfl rfl (fun _ _ _ h => h) HSB.out ⟨rfl, fun _ _ => by simp [go_sem]⟩ ?_
      refine wpMix_q (v := (.pointer (some ⟨bp, op + i * 3, none⟩))) rfl rfl (fun _ _ _ h => h) HSB.out ⟨rfl, fun _ _ => by simp [go_sem, j1]⟩ ?_
      refine wpMix_q (v := (.agg #[.int .i64 y1, .int .i64 y2, .int .i64 y3])) rfl rfl (fun _ _ _ h => h) HSB.out ⟨rfl, fun _ h' => by have a0 := (h'.cell (p := ⟨bp, op + i * 3, none⟩) HY.out.2.2.2.2.2.2.2.1).trans HY.out.2.2.2.2.1; have a1 := (h'.cell (p := ⟨bp, op + i * 3 + 1, none⟩) HY.out.2.2.2.2.2.2.2.1).trans HY.out.2.2.2.2.2.1; have a2 := (h'.cell (p := ⟨bp, op + i * 3 + 2, none⟩) HY.out.2.2.2.2.2.2.2.1).trans HY.out.2.2.2.2.2.2.1; simp [go_sem, a0, a1, a2]⟩ ?_
      refine wpMix_q (v := (.int .i64 pw)) rfl rfl (fun _ _ _ h => h) HSB.out ⟨rfl, fun _ _ => by simp [go_sem]⟩ ?_
      refine wpMix_q (v := (.pointer (some ⟨g10, 0, none⟩))) rfl rfl (fun _ _ _ h => h) HSB.out ⟨rfl, fun _ _ => by simp [go_sem]⟩ ?_
      simp only [List.getElem_toArray, List.getElem_cons_succ, List.getElem_cons_zero, Act.put, List.setIfInBounds_toArray, List.set_cons_succ, List.set_cons_zero]
      refine wpMix_q (v := (.int .i64 x1)) rfl rfl (fun _ _ _ h => h) HSB.out ⟨rfl, fun _ h' => by have a0 := (h'.cell (p := ⟨g10, 0, none⟩) HY.out.2.2.2.1).trans HY.out.1; simp [go_sem, a0]⟩ ?_
      refine wpMix_q (v := (.int .i64 y1)) rfl rfl (fun _ _ _ h => h) HSB.out ⟨rfl, fun _ _ => by have w1 := (IntWalk.i64_left (pw * x1)).trans HE.out.2.1; simp [go_sem, w1]⟩ ?_
      refine wpMix_q (v := (.int .i64 pw)) rfl rfl (fun _ _ _ h => h) HSB.out ⟨rfl, fun _ _ => by simp [go_sem]⟩ ?_
      refine wpMix_q (v := (.pointer (some ⟨g10, 1, none⟩))) rfl rfl (fun _ _ _ h => h) HSB.out ⟨rfl, fun _ _ => by simp [go_sem]⟩ ?_
      refine wpMix_q (v := (.int .i64 x2)) rfl rfl (fun _ _ _ h => h) HSB.out ⟨rfl, fun _ h' => by have a0 := (h'.cell (p := ⟨g10, 1, none⟩) HY.out.2.2.2.1).trans HY.out.2.1; simp [go_sem, a0]⟩ ?_
      refine wpMix_q (v := (.int .i64 y2)) rfl rfl (fun _ _ _ h => h) HSB.out ⟨rfl, fun _ _ => by have w1 := (IntWalk.i64_left (pw * x2)).trans HE.out.2.2.1; simp [go_sem, w1]⟩ ?_
      simp only [List.getElem_toArray, List.getElem_cons_succ, List.getElem_cons_zero, Act.put, List.setIfInBounds_toArray, List.set_cons_succ, List.set_cons_zero]
      refine wpMix_q (v := (.int .i64 pw)) rfl rfl (fun _ _ _ h => h) HSB.out ⟨rfl, fun _ _ => by simp [go_sem]⟩ ?_
      refine wpMix_q (v := (.pointer (some ⟨g10, 2, none⟩))) rfl rfl (fun _ _ _ h => h) HSB.out ⟨rfl, fun _ _ => by simp [go_sem]⟩ ?_
      refine wpMix_q (v := (.int .i64 x3)) rfl rfl (fun _ _ _ h => h) HSB.out ⟨rfl, fun _ h' => by have a0 := (h'.cell (p := ⟨g10, 2, none⟩) HY.out.2.2.2.1).trans HY.out.2.2.1; simp [go_sem, a0]⟩ ?_
      refine wpMix_q (v := (.int .i64 y3)) rfl rfl (fun _ _ _ h => h) HSB.out ⟨rfl, fun _ _ => by have w1 := (IntWalk.i64_left (pw * x3)).trans HE.out.2.2.2; simp [go_sem, w1]⟩ ?_
      refine wpMix_q (v := (.agg #[.int .i64 y1, .int .i64 y2, .int .i64 y3])) rfl rfl (fun _ _ _ h => h) HSB.out ⟨rfl, fun _ _ => by simp [go_sem]⟩ ?_
      refine wpMix_q (v := (.bool false)) rfl rfl (fun _ _ _ h => h) HSB.out ⟨rfl, fun _ _ => by simp [go_sem]⟩ ?_
      simp only [List.getElem_toArray, List.getElem_cons_succ, List.getElem_cons_zero, Act.put, List.setIfInBounds_toArray, List.set_cons_succ, List.set_cons_zero]
      refine wpMix_nil ?_
      have HBn := hide HY.out.2.2.2.2.2.2.2.2.drew
      clear HSB
      go_wp2
      go_roundw
      case rel => repeat (first | exact ⟨i + 1, by omega, by go_num, HBn.out⟩ | exact ⟨⟨i + 1, by omega, by go_num, HBn.out⟩, rfl⟩ | apply Exists.intro)
      case measure => (simp [intOf]; try omega)
    · obtain rfl : i = np := by omega
      have i1 : ¬ (i : Int) < (i : Int) := by omega
      have HV := hide hB
      clear hB
      go_upto_region 15 with fail
      clear d0 hglV
      go_loopw [11, 12] (fun lv iv wr => ∃ n : Nat, n ≤ nT ∧ iv = .int .i64 n ∧ Own encT 9 46 wr V.heap.size lv n ((T.take n).map numT) ∧ Below V.heap.size V wr) (fun _ iv _ => nT - (intOf iv).toNat)
      case atStart => exact ⟨0, by omega, rfl, Own.nil, Below.refl _ _⟩
      case round =>
        obtain ⟨n, hn, rfl, hO, hB⟩ := hrel
        obtain ⟨R, rfl⟩ : ∃ x, x = wr := ⟨_, rfl⟩
        obtain ⟨Al, cl, rfl⟩ := hO.form
        by_cases hlt : n < nT
        · have n1 : (n : Int) < (nT : Int) := by omega
          obtain ⟨x, hx⟩ : ∃ x, T[n]? = some x := ⟨_, List.getElem?_eq_getElem (by rw [← HA.out.2.2.2.2.2.1]; exact hlt)⟩
          have htk : (T.take (n + 1)).map numT = (T.take n).map numT ++ [numT x] := by rw [List.take_add_one, hx, List.map_append]; rfl
          have hBR : Below X4.heap.size X4 R := HV.out.trans (hB.mono HV.out.size)
          have hST : Sl encN3 3 X4 X4.heap.size A2 T := H4.out.2.1.sl encN3_len (Nat.le_refl _)
          obtain ⟨bt, ot, hA, hbt, f0, f1, f2⟩ := (hST.below hBR).n3 hx
          subst hA
          have hbtR : bt < R.heap.size := Nat.lt_of_lt_of_le hbt hBR.size
          obtain ⟨⟨a1, a2⟩, ⟨b1, b2⟩, d1, d2⟩ := HA.out.2.1 x (List.mem_of_getElem? hx)
          obtain ⟨x1, x2, x3⟩ := x
          simp only at f0 f1 f2 a1 a2 b1 b2 d1 d2
          have HE := hide (And.intro hO (And.intro hB htk))
          have HF := hide (And.intro f0 (And.intro f1 (And.intro f2 hbtR)))
          clear hO hB htk hx hBR hST hbt
          go_upto_region 18 with fail
          go_loopw [13] (fun jv wz => ∃ j : Nat, j ≤ 3 ∧ jv = .int .i64 j ∧ wz = R) (fun jv _ => 3 - (intOf jv).toNat)
          case atStart => exact ⟨0, by omega, rfl, rfl⟩
          case round =>
            obtain ⟨j, hj, rfl, hwz⟩ := hrel
            obtain rfl : R = wr := hwz.symm
            have v1 : ¬ x1 < 0 := by omega
            have v2 : ¬ x2 < 0 := by omega
            have v3 : ¬ x3 < 0 := by omega
            have w1 : ¬ (nP : Int) ≤ x1 := by omega
            have w2 : ¬ (nP : Int) ≤ x2 := by omega
            have w3 : ¬ (nP : Int) ≤ x3 := by omega
            have hj4 : j = 0 ∨ j = 1 ∨ j = 2 ∨ j = 3 := by omega
            rcases hj4 with rfl | rfl | rfl | rfl
            · go_wp2
              go_roundw
              case rel => repeat (first | exact ⟨1, by omega, by first | rfl | go_num, by first | rfl | trivial⟩ | exact ⟨⟨1, by omega, by first | rfl | go_num, by first | rfl | trivial⟩, rfl⟩ | apply Exists.intro)
              case measure => (simp [intOf]; try omega)
            · go_wp2
              go_roundw
              case rel => repeat (first | exact ⟨2, by omega, by first | rfl | go_num, by first | rfl | trivial⟩ | exact ⟨⟨2, by omega, by first | rfl | go_num, by first | rfl | trivial⟩, rfl⟩ | apply Exists.intro)
              case measure => (simp [intOf]; try omega)
            · go_wp2
              go_roundw
              case rel => repeat (first | exact ⟨3, by omega, by first | rfl | go_num, by first | rfl | trivial⟩ | exact ⟨⟨3, by omega, by first | rfl | go_num, by first | rfl | trivial⟩, rfl⟩ | apply Exists.intro)
              case measure => (simp [intOf]; try omega)
            · clear f0 f1 f2 hbtR
              go_upto_region 22 with fail
              have HSB := hide (show Below R.heap.size R R.drew from (Below.refl _ R).drew)
              refine wp_region_mix (fun W => Below R.heap.size R W) [0, 1, 2, 3, 4, 5, 6, 7, 8, 9, 10, 11, 12, 13, 14, 15, 16, 17, 18, 19] [0, 1, 2, 3, 4, 5, 6, 7, 8, 9, 10, 11, 12, 13, 14, 15, 16, 17, 18, 19, 20, 21, 22] mixed_ok (by kernel_rfl) ?_
              refine wpMix_q (v := (.slice Al n cl)) rfl rfl (fun _ _ _ h => h) HSB.out ⟨rfl, fun _ _ => by simp [go_sem]⟩ ?_
              refine wpMix_q (v := (.slice (some ⟨bt, ot, none⟩) nT c2)) rfl rfl (fun _ _ _ h => h) HSB.out ⟨rfl, fun _ _ => by simp [go_sem]⟩ ?_
              refine wpMix_q (v := (.int .i64 n)) rfl rfl (fun _ _ _ h => h) HSB.out ⟨rfl, fun _ _ => by simp [go_sem]⟩ ?_
              refine wpMix_q (v := (.pointer (some ⟨bt, ot + n * 3, none⟩))) rfl rfl (fun _ _ _ h => h) HSB.out ⟨rfl, fun _ _ => by simp [go_sem, n1]⟩ ?_
              refine wpMix_q (v := (.pointer (some ⟨bt, ot + n * 3, none⟩))) rfl rfl (fun _ _ _ h => h) HSB.out ⟨rfl, fun _ _ => by simp [go_sem]⟩ ?_
              refine wpMix_q (v := (.int .i64 x1)) rfl rfl (fun _ _ _ h => h) HSB.out ⟨rfl, fun _ h' => by have a0 := (h'.cell (p := ⟨bt, ot + n * 3, none⟩) HF.out.2.2.2).trans HF.out.1; simp [go_sem, a0]⟩ ?_
              simp only [List.getElem_toArray, List.getElem_cons_succ, List.getElem_cons_zero, Act.put, List.setIfInBounds_toArray, List.set_cons_succ, List.set_cons_zero]
              refine wpMix_q (v := (.agg #[.int .i64 x1, .int .i64 0, .int .i64 0])) rfl rfl (fun _ _ _ h => h) HSB.out ⟨rfl, fun _ _ => by simp [go_sem]⟩ ?_
              refine wpMix_q (v := (.slice (some ⟨bt, ot, none⟩) nT c2)) rfl rfl (fun _ _ _ h => h) HSB.out ⟨rfl, fun _ _ => by simp [go_sem]⟩ ?_
              refine wpMix_q (v := (.int .i64 n)) rfl rfl (fun _ _ _ h => h) HSB.out ⟨rfl, fun _ _ => by simp [go_sem]⟩ ?_
              refine wpMix_q (v := (.pointer (some ⟨bt, ot + n * 3, none⟩))) rfl rfl (fun _ _ _ h => h) HSB.out ⟨rfl, fun _ _ => by simp [go_sem, n1]⟩ ?_
              refine wpMix_q (v := (.pointer (some ⟨bt, ot + n * 3 + 1, none⟩))) rfl rfl (fun _ _ _ h => h) HSB.out ⟨rfl, fun _ _ => by simp [go_sem]⟩ ?_
              refine wpMix_q (v := (.int .i64 x2)) rfl rfl (fun _ _ _ h => h) HSB.out ⟨rfl, fun _ h' => by have a0 := (h'.cell (p := ⟨bt, ot + n * 3 + 1, none⟩) HF.out.2.2.2).trans HF.out.2.1; simp [go_sem, a0]⟩ ?_
              simp only [List.getElem_toArray, List.getElem_cons_succ, List.getElem_cons_zero, Act.put, List.setIfInBounds_toArray, List.set_cons_succ, List.set_cons_zero]
              refine wpMix_q (v := (.agg #[.int .i64 x2, .int .i64 0, .int .i64 0])) rfl rfl (fun _ _ _ h => h) HSB.out ⟨rfl, fun _ _ => by simp [go_sem]⟩ ?_
              refine wpMix_q (v := (.slice (some ⟨bt, ot, none⟩) nT c2)) rfl rfl (fun _ _ _ h => h) HSB.out ⟨rfl, fun _ _ => by simp [go_sem]⟩ ?_
              refine wpMix_q (v := (.int .i64 n)) rfl rfl (fun _ _ _ h => h) HSB.out ⟨rfl, fun _ _ => by simp [go_sem]⟩ ?_
              refine wpMix_q (v := (.pointer (some ⟨bt, ot + n * 3, none⟩))) rfl rfl (fun _ _ _ h => h) HSB.out ⟨rfl, fun _ _ => by simp [go_sem, n1]⟩ ?_
              refine wpMix_q (v := (.pointer (some ⟨bt, ot + n * 3 + 2, none⟩))) rfl rfl (fun _ _ _ h => h) HSB.out ⟨rfl, fun _ _ => by simp [go_sem]⟩ ?_
              refine wpMix_q (v := (.int .i64 x3)) rfl rfl (fun _ _ _ h => h) HSB.out ⟨rfl, fun _ h' => by have a0 := (h'.cell (p := ⟨bt, ot + n * 3 + 2, none⟩) HF.out.2.2.2).trans HF.out.2.2.1; simp [go_sem, a0]⟩ ?_
              simp only [List.getElem_toArray, List.getElem_cons_succ, List.getElem_cons_zero, Act.put, List.setIfInBounds_toArray, List.set_cons_succ, List.set_cons_zero]
              refine wpMix_q (v := (.agg #[.int .i64 x3, .int .i64 0, .int .i64 0])) rfl rfl (fun _ _ _ h => h) HSB.out ⟨rfl, fun _ _ => by simp [go_sem]⟩ ?_
              refine wpMix_q (v := (.agg #[.int .i64 x1, .int .i64 0, .int .i64 0, .int .i64 x2, .int .i64 0, .int .i64 0, .int .i64 x3, .int .i64 0, .int .i64 0])) rfl rfl (fun _ _ _ h => h) HSB.out ⟨rfl, fun _ _ => by simp [go_sem]⟩ ?_
              simp only [List.getElem_toArray, List.getElem_cons_succ, List.getElem_cons_zero, Act.put, List.setIfInBounds_toArray, List.set_cons_succ, List.set_cons_zero]
              refine wpMix_n rfl rfl ?_
              go_wp2_with fail
              refine ⟨fun _ => HSB.out.alloc (Nat.le_refl _) _, ?_⟩
              refine wpMix_tail _ [_, _] (by kernel_rfl) rfl ?_
              have hal : Below R.heap.size R (R.drew.alloc (.cells #[.int .i64 x1, .int .i64 0, .int .i64 0, .int .i64 x2, .int .i64 0, .int .i64 0, .int .i64 x3, .int .i64 0, .int .i64 0] 46)) := (Below.refl _ R).drew.alloc (Nat.le_refl _) _
              have hVR := HE.out.2.1.size
              refine wpList_append1 rfl _ _ _ rfl Tryz.underlying44 infoT rfl (by omega) encT_len encT_one rfl (HE.out.1.below hal (Nat.le_refl _)) R.heap.size 1 (numT (x1, x2, x3)) rfl (Blk.new _ _ _) (by unfold maxLen; omega) (by omega) (Nat.le_trans hVR hal.size) ?_
              intro g6 cap6 w6 hown6 hg6 hB6 hat6 hgb6 hlt6
              have hB7 := (HE.out.2.1.trans (hal.mono hVR)).trans hB6
              rw [← HE.out.2.2] at hown6
              have H6 := hide (And.intro hown6 hB7)
              clear hown6 hg6 hB6 hat6 hgb6 hlt6 hB7 hal HSB
              go_wp2
              go_roundw
              case rel => repeat (first | exact ⟨n + 1, by omega, by go_num, H6.out.1, H6.out.2⟩ | exact ⟨⟨n + 1, by omega, by go_num, H6.out.1, H6.out.2⟩, rfl⟩ | apply Exists.intro)
              case measure => (simp [intOf]; try omega)
        · obtain rfl : n = nT := by omega
          have n1 : ¬ (n : Int) < (n : Int) := by omega
          rw [HA.out.2.2.2.2.2.1, List.take_length, ← HA.out.2.2.2.2.2.1] at hO
          have hcl : (T.map numT).length = n := by rw [List.length_map]; exact HA.out.2.2.2.2.2.1.symm
          have hnPb2 := hnPb
          have kc := Check4_any Al cl (T.map numT) R (hO.sl encT_len (Nat.le_refl _)) (by rw [hcl]; omega) (fun t ht => by
            obtain ⟨x, hx, rfl⟩ := List.mem_map.1 ht
            have h := HA.out.2.1 x hx
            have z : fits 0 := by unfold fits; omega
            exact ⟨⟨fits_of nP _ h.1.1 h.1.2 (by omega), z, z⟩, ⟨fits_of nP _ h.2.1.1 h.2.1.2 (by omega), z, z⟩, fits_of nP _ h.2.2.1 h.2.2.2 (by omega), z, z⟩)
          rw [HA.out.2.2.1, hcl] at kc
          have hBf := H3.out.2.2.trans ((H4.out.2.2.trans ((HV.out.trans (hB.mono HV.out.size)).mono H4.out.2.2.size)).mono H3.out.2.2.size)
          have HE := hide (And.intro kc hBf)
          clear kc hBf hO hB hcl
          go_wp2_with (go_at_call 19; refine HE.out.1.mono ?_; rintro e W9 ⟨rfl, hB9⟩; have H9 := hide (HE.out.2.trans (hB9.mono HE.out.2.size)); clear hB9)
          go_ret
          exact ⟨rfl, H9.out⟩
end Go.Proofs.YtmemofonebphfaaGreat
