/- Kit Word With Cor Edge Edge2 MshA RfpP Eul4. -/
import Derived.WalkKit
import Derived.WalkSpells
import Derived.WalkLawsBesides
import Derived.Laws.OwnMore
import Derived.Deep.AppendLies
import Derived.Deep.Draws
import Derived.Maps.AppendAt
import Derived.OwnWalk
import Derived.Sort.Grow
import Derived.Shelf.GgSortFunc.RowK
import Derived.RangeFuncNested
import Derived.RangeFuncBox
import Derived.Test.YtelfnmohpjkilaaGreatDoorRows
import Derived.Handy
import Derived.Maps.Own
import Derived.Maps.Views
import Derived.DeepKeys4
import Derived.DeepKeys
import Derived.Laws.StructEq
import Derived.Deep.QuietTactic
import Derived.BigQuiet
import Derived.LoopN
import Derived.Laws.EntriesVeiled
import Derived.Shelf.SlSortCmp.QuietGrown
import Derived.Deep.RegionHeld3
import Derived.Deep.DrawnRows
import Derived.Sort.Statements
import Derived.Shelf.SlSortCmp.NoneTotal
import Derived.OrdersHeld
import Derived.OrdersIn
import Derived.RangeFuncCalls
import Derived.OwnWalkIn
import Derived.Deep.CutBlock
import Derived.Deep.DeepCutAuto
import Derived.Test.YtelfnmohpjkilaaGreatDoorQ39
import Derived.Test.YtelfnmohpjkilaaGreatDoorQ48
namespace Go.Proofs.YtelfnmohpjkilaaGreatDoor
open Go.RowKit

section
variable {w w' : World} {g : Nat} {t : TypeId} {cs : Array Value}
theorem Blk.drewN (h : Blk w g t cs) (n : Nat) : Blk (w.drewN n) g t cs := h
end
end Go.Proofs.YtelfnmohpjkilaaGreatDoor
namespace Go.Proofs.YtelfnmohpjkilaaGreatDoor
open Go.RowKit
def RB (x y : World) : Prop := Below x.heap.size x y
theorem RB.refl (x : World) : RB x x := Below.refl _ x
theorem RB.trans (x y z : World) (h : RB x y) (k : RB y z) : RB x z := Below.trans h (Below.mono k h.size)
end Go.Proofs.YtelfnmohpjkilaaGreatDoor
namespace Go.Proofs.YtelfnmohpjkilaaGreatDoor
open Go.RowKit Go.Sort
theorem atP_eq {l : List Pt} {p : Pt} {a : Nat} (ha : a ≤ l.length) (hlo : ∀ j q, j < a → l[j]? = some q → ltP q p = true) (hhi : ∀ q, l[a]? = some q → ltP q p = false) : a = atP l p := by
  unfold atP
  induction l generalizing a with
  | nil => simpa using ha
  | cons x l ih =>
    cases a with
    | zero =>
      have := hhi x rfl
      simp [this]
    | succ a =>
      have h0 := hlo 0 x (by omega) rfl
      rw [List.takeWhile_cons, h0, if_pos rfl, List.length_cons]
      rw [← ih (a := a) (by simpa using ha) (fun j q hj hq => hlo (j + 1) q (by omega) (by simpa using hq)) (fun q hq => hhi q (by simpa using hq))]
theorem withP_mem {l : List Pt} {p q : Pt} (h : q ∈ withP l p) : q ∈ l ∨ q = p := by
  unfold withP at h
  split at h
  · exact .inl h
  · rcases List.mem_append.1 h with h | h
    · exact .inl (List.mem_of_mem_take h)
    · rcases List.mem_cons.1 h with h | h
      · exact .inr h
      · exact .inl (List.mem_of_mem_drop h)
theorem Sl.pt8 {w : World} {B b o : Nat} {ps : List Pt} (h : Sl encP 3 w B (some ⟨b, o, none⟩) ps) {i : Nat} {p : Pt} (hi : ps[i]? = some p) :
    w.cell? ⟨b, o + i * 3, none⟩ = some (.int .i64 p.1) ∧ w.cell? ⟨b, o + i * 3 + 1, none⟩ = some (.int .i64 p.2.1) ∧ w.cell? ⟨b, o + i * 3 + 2, none⟩ = some (.int .i64 p.2.2) := by
  obtain ⟨b', o', ha, _, hc⟩ := h.at hi
  cases ha
  exact ⟨hc 0 _ rfl, hc 1 _ rfl, hc 2 _ rfl⟩
theorem Blk.three8 {w : World} {g : Nat} {t : TypeId} {a b c : Value} (h : Blk w g t #[a, b, c]) : w.cell? ⟨g, 0, none⟩ = some a ∧ w.cell? ⟨g, 1, none⟩ = some b ∧ w.cell? ⟨g, 2, none⟩ = some c := ⟨h.cell 0, h.cell 1, h.cell 2⟩
set_option maxRecDepth 100000 in
set_option maxHeartbeats 8000000 in
theorem with_any (A : Option Addr) (c : Nat) (l : List Pt) (p : Pt) (w : World) (hs : Sl encP 3 w w.heap.size A l) (hl : l.length ≤ 4294967296) (hc : l.length ≤ c) (hp : fitsP p) (hf : ∀ q ∈ l, fitsP q) :
    Calls Tryz.prog 47 #[.slice A l.length c, vP p] w fun e w' => ∃ A' c', e = .returned (.slice A' (withP l p).length c') ∧ Sl encP 3 w' w'.heap.size A' (withP l p) ∧ (withP l p).length ≤ c' ∧ Below w.heap.size w w' := by
  obtain ⟨n, hn⟩ : ∃ n, n = l.length := ⟨_, rfl⟩
  rw [← hn] at hl hc ⊢
  have HS := hide (And.intro hs (And.intro hp (And.intro hf hn)))
  clear hs hp hf hn
  go_enter Tryz.func47, Tryz.ntmps47
  obtain ⟨X, hX⟩ : ∃ X, X = w.alloc (.cells #[.int .i64 p.1, .int .i64 p.2.1, .int .i64 p.2.2] 41) := ⟨_, rfl⟩
  have hBX : Below w.heap.size w X := by rw [hX]; exact (Below.refl _ w).alloc (Nat.le_refl _) _
  have hbx : Blk X w.heap.size 41 #[.int .i64 p.1, .int .i64 p.2.1, .int .i64 p.2.2] := by rw [hX]; exact Blk.new _ _ _
  have hzX : X.heap.size = w.heap.size + 1 := by rw [hX]; simp
  have HX := hide (And.intro hBX (And.intro hbx hX))
  clear hBX hbx hX
  go_upto_block 0 with fail
  rw [← HX.out.2.2]
  go_cut [5] (fun a wx => ∃ a' : Nat, a = .int .i64 a' ∧ a' ≤ n ∧ (∀ j q, j < a' → l[j]? = some q → ltP q p = true) ∧ (∀ q, l[a']? = some q → ltP q p = false) ∧ RB X wx)
  case first =>
    go_wp2_with fail
    go_loopw [5] (fun a wx => ∃ a' : Nat, a = .int .i64 a' ∧ a' ≤ n ∧ (∀ j q, j < a' → l[j]? = some q → ltP q p = true) ∧ RB X wx) (fun a _ => n - (intOf a).toNat)
    case atStart => exact ⟨0, rfl, Nat.zero_le _, fun j q h => absurd h (by omega), RB.refl _⟩
    case round =>
      obtain ⟨a, rfl, ha, hlo, hR⟩ := hrel
      have hbx := HX.out.2.1.below hR HX.out.2.1.lt
      have hszR := hR.size
      by_cases hla : a < n
      · obtain ⟨q, hq⟩ : ∃ q, l[a]? = some q := ⟨_, List.getElem?_eq_getElem (by rw [← HS.out.2.2.2]; exact hla)⟩
        obtain ⟨bp, op, hAp, hbp, hcq⟩ := ((HS.out.1.below HX.out.1).below (hR.mono (by omega))).at hq
        subst hAp
        have k0 := hcq 0 _ rfl
        have k1 := hcq 1 _ rfl
        have k2 := hcq 2 _ rfl
        have x0 := hbx.cell 0
        have x1 := hbx.cell 1
        have x2 := hbx.cell 2
        simp only [List.getElem?_toArray, List.getElem?_cons_zero, List.getElem?_cons_succ, Nat.add_zero] at x0 x1 x2 k0 k1 k2
        have hbpR : bp < wr.heap.size := by omega
        have hbxR := hbx.lt
        have i2 : (a : Int) < (n : Int) := by omega
        have HL := hide (And.intro hlo (And.intro hR hq))
        clear hlo hR hq hcq hbx
        cases hless : ltP q p
        · have HLS := hide hless
          go_wp2_with fail
          go_region_held3 (fun w' => w'.cell? ⟨bp, op + a * 3, none⟩ = some (.int .i64 q.1) ∧ w'.cell? ⟨bp, op + a * 3 + 1, none⟩ = some (.int .i64 q.2.1) ∧ w'.cell? ⟨bp, op + a * 3 + 2, none⟩ = some (.int .i64 q.2.2) ∧ w'.cell? ⟨w.heap.size, 0, none⟩ = some (.int .i64 p.1) ∧ w'.cell? ⟨w.heap.size, 1, none⟩ = some (.int .i64 p.2.1) ∧ w'.cell? ⟨w.heap.size, 2, none⟩ = some (.int .i64 p.2.2)) (first | go_keep | exact ⟨cell_lay hL k0, cell_lay hL k1, cell_lay hL k2, cell_lay hL x0, cell_lay hL x1, cell_lay hL x2⟩) ((go_at_call 83; refine (rless_any q p _).mono ?_; rintro e w3 ⟨rfl, hL⟩; rw [hless]))
          go_wp2_with fail
          go_meet
          case rel =>
            refine ⟨a, rfl, ha, HL.out.1, fun q' hq' => ?_, HL.out.2.1.trans _ _ _ ((below_drew wr).trans hL.below)⟩
            rw [HL.out.2.2] at hq'
            cases hq'
            exact HLS.out
        · have HLS := hide hless
          go_wp2_with fail
          go_region_held3 (fun w' => w'.cell? ⟨bp, op + a * 3, none⟩ = some (.int .i64 q.1) ∧ w'.cell? ⟨bp, op + a * 3 + 1, none⟩ = some (.int .i64 q.2.1) ∧ w'.cell? ⟨bp, op + a * 3 + 2, none⟩ = some (.int .i64 q.2.2) ∧ w'.cell? ⟨w.heap.size, 0, none⟩ = some (.int .i64 p.1) ∧ w'.cell? ⟨w.heap.size, 1, none⟩ = some (.int .i64 p.2.1) ∧ w'.cell? ⟨w.heap.size, 2, none⟩ = some (.int .i64 p.2.2)) (first | go_keep | exact ⟨cell_lay hL k0, cell_lay hL k1, cell_lay hL k2, cell_lay hL x0, cell_lay hL x1, cell_lay hL x2⟩) ((go_at_call 83; refine (rless_any q p _).mono ?_; rintro e w3 ⟨rfl, hL⟩; rw [hless]))
          go_wp2_with fail
          go_roundw
          case rel =>
            refine ⟨a + 1, by go_num, by omega, fun j q' hj hq' => ?_, HL.out.2.1.trans _ _ _ ((below_drew wr).trans hL.below)⟩
            rcases Nat.lt_or_ge j a with h | h
            · exact HL.out.1 j q' h hq'
            · have hja : j = a := by omega
              subst hja
              rw [HL.out.2.2] at hq'
              cases hq'
              exact HLS.out
          case measure => simp [intOf]; omega
      · have hae : a = n := by omega
        have HL := hide (And.intro hlo (And.intro hR hae))
        clear hlo hR hbx hae
        go_wp2_with fail
        go_meet
        case rel => exact ⟨a, rfl, ha, HL.out.1, (fun q' hq' => by rw [HL.out.2.2, HS.out.2.2.2, List.getElem?_eq_none (Nat.le_refl _)] at hq'; cases hq'), HL.out.2.1⟩
  case rest =>
    obtain ⟨a, rfl, ha, hlo, hhi, hR⟩ := hcut
    have hat : a = atP l p := atP_eq (by rw [← HS.out.2.2.2]; exact ha) hlo hhi
    have hbx := HX.out.2.1.below hR HX.out.2.1.lt
    have hszR := hR.size
    obtain ⟨x0, x1, x2⟩ := hbx.three8
    have hbw : Below w.heap.size w wc := HX.out.1.trans (hR.mono (by omega))
    have hsl : Sl encP 3 wc w.heap.size A l := HS.out.1.below hbw
    have HA := hide (And.intro hat (And.intro hbw (And.intro hsl hbx)))
    clear hat hlo hhi hR hbw hsl
    by_cases hla : a < n
    · have i2 : (a : Int) < (n : Int) := by omega
      obtain ⟨q, hq⟩ : ∃ q, l[a]? = some q := ⟨_, List.getElem?_eq_getElem (by rw [← HS.out.2.2.2]; exact hla)⟩
      have heq := eqP q p (HS.out.2.2.1 q (List.mem_of_getElem? hq)) HS.out.2.1
      obtain ⟨bp, op, hAp, hbp, hcq⟩ := HA.out.2.2.1.at hq
      subst hAp
      have hwq : withP l p = if q = p then l else l.take a ++ (p :: l.drop a) := by
        unfold withP
        rw [← HA.out.1, hq]
        simp
      obtain ⟨k0, k1, k2⟩ := HA.out.2.2.1.pt8 hq
      have hd : decide (a < n) = true := decide_eq_true hla
      have HQ := hide hwq
      clear hq hcq hwq
      by_cases hqp : q = p
      · have hdq : decide (q = p) = true := decide_eq_true hqp
        rw [hdq] at heq
        have HE := hide hqp
        clear hqp hdq
        go_wp2_with fail
        go_quiet (fail)
        go_wp2
        go_ret
        have hww : withP l p = l := by rw [HQ.out, if_pos HE.out]
        rw [hww, ← HS.out.2.2.2]
        have hbW : Below w.heap.size w (wc.drewN nq) := below_drewN HA.out.2.1 _
        exact ⟨_, c, rfl, (HS.out.1.below hbW).more hbW.size, hc, hbW⟩
      · have hdq : decide (q = p) = false := decide_eq_false hqp
        rw [hdq] at heq
        have hww : withP l p = l.take a ++ (p :: l.drop a) := by rw [HQ.out, if_neg hqp]
        have HE := hide hww
        clear hqp hdq hww
        go_wp2_with fail
        go_quiet (fail)
        obtain ⟨W, hW⟩ : ∃ W, W = wc.drewN nq := ⟨_, rfl⟩
        have hbW : Below w.heap.size w W := by rw [hW]; exact below_drewN HA.out.2.1 _
        have hslW : Sl encP 3 W w.heap.size (some ⟨bp, op, none⟩) l := HS.out.1.below hbW
        have hbxW : Blk W w.heap.size 41 #[.int .i64 p.1, .int .i64 p.2.1, .int .i64 p.2.2] := by rw [hW]; exact HA.out.2.2.2.drewN _
        have hzW := hbW.size
        have hzW1 := hbxW.lt
        have hta : (l.take a).length = a := by rw [List.length_take]; have := HS.out.2.2.2; omega
        have htd : (l.drop a).length = n - a := by rw [List.length_drop, ← HS.out.2.2.2]
        have hrunH : ∀ V : World, (Instr.slice 34 (.slice (some ⟨bp, op, none⟩) n c) none (some (.int .i64 a)) none).run Tryz.prog V = .ok (.slice (some ⟨bp, op, none⟩) a c) V := fun V => run_cutH Tryz.underlying34 Tryz.sizeOf41 ha hc V
        have hrunL : ∀ V : World, (Instr.slice 34 (.slice (some ⟨bp, op, none⟩) n c) (some (.int .i64 a)) none none).run Tryz.prog V = .ok (.slice (cutA (some ⟨bp, op, none⟩) c a 3) (n - a) (c - a)) V := fun V => run_cut Tryz.underlying34 Tryz.sizeOf41 ha V
        have hslT : Sl encP 3 W w.heap.size (some ⟨bp, op, none⟩) (l.take a) := hslW.take8 a
        have hslD : Sl encP 3 W w.heap.size (cutA (some ⟨bp, op, none⟩) c a 3) (l.drop a) := hslW.cut (by rw [← HS.out.2.2.2]; exact ha) (by rw [← HS.out.2.2.2]; exact hc)
        obtain ⟨x0', x1', x2'⟩ := hbxW.three8
        have HT := hide (And.intro hbW (And.intro hslT (And.intro hslD (And.intro hbxW (And.intro hta (And.intro htd hW))))))
        rw [← hW]
        clear hbW hslW hbxW hta htd hslT hslD hW
        go_upto_region 10 with (at_builtin; refine wpList_appendS rfl _ _ _ rfl Tryz.underlying34 infoPt rfl (by omega) encP_len encP_one rfl (Own.nil (base := W.heap.size)) (some ⟨bp, op, none⟩) c w.heap.size (l.take a) (by rw [HT.out.2.2.2.2.1]; rfl) HT.out.2.1 (by rw [HT.out.2.2.2.2.1]; unfold maxLen; omega) (by rw [HT.out.2.2.2.2.1]; omega) (Nat.le_refl _) ?_; intro v1 w1 hown1 hg1 hB1 hat1; rw [HT.out.2.2.2.2.1, Nat.zero_add, List.nil_append] at hown1; obtain ⟨A1, c1, rfl⟩ := hown1.form)
        have y0 := (hB1.cell (p := ⟨w.heap.size, 0, none⟩) hzW1).trans x0'
        have y1 := (hB1.cell (p := ⟨w.heap.size, 1, none⟩) hzW1).trans x1'
        have y2 := (hB1.cell (p := ⟨w.heap.size, 2, none⟩) hzW1).trans x2'
        have HO1 := hide (And.intro hown1 hB1)
        have hz1 := hB1.size
        have hown1' := hown1.alloc (.cells #[.int .i64 p.1, .int .i64 p.2.1, .int .i64 p.2.2] 41)
        clear hown1 hg1 hB1 hat1 x0' x1' x2'
        go_upto_region 11 with (at_builtin; refine wpList_append1 rfl _ _ _ rfl Tryz.underlying34 infoPt rfl (by omega) encP_len encP_one rfl hown1' w1.heap.size 1 p rfl (Blk.new _ _ _) (by unfold maxLen; omega) (by omega) (by simp; omega) ?_; intro g2 cap2 w2 hown2 hg2 hB2 hat2 hgb2 hlt2)
        have hB12 : Below W.heap.size W w2 := HO1.out.2.trans (((Below.refl _ w1).alloc (by omega) _).trans hB2)
        have hz2 := hB12.size
        have HO2 := hide (And.intro hown2 (And.intro hB12 (HT.out.2.2.1.below (hB12.mono hzW))))
        clear hown2 hg2 hB2 hat2 hown1' hB12 y0 y1 y2
        go_wp2_with (at_builtin; refine wpList_appendS rfl _ _ _ rfl Tryz.underlying34 infoPt rfl (by omega) encP_len encP_one rfl HO2.out.1 (cutA (some ⟨bp, op, none⟩) c a 3) (c - a) w.heap.size (l.drop a) (by rw [HT.out.2.2.2.2.2.1]; rfl) HO2.out.2.2 (by rw [HT.out.2.2.2.2.2.1]; unfold maxLen; omega) (by rw [HT.out.2.2.2.2.2.1]; omega) hz2 ?_; intro v3 w3 hown3 hg3 hB3 hat3; obtain ⟨A3, c3, rfl⟩ := hown3.form)
        go_ret
        have hlen : a + 1 + (l.drop a).length = (withP l p).length := by rw [hown3.1, HE.out]; simp
        have hfin : Below w.heap.size w w3 := HT.out.1.trans ((HO2.out.2.1.mono hzW).trans (hB3.mono hzW))
        rw [List.append_assoc, List.singleton_append, ← HE.out] at hown3
        refine ⟨A3, c3, ?_, hown3.sl encP_len (Nat.le_refl _), ?_, hfin⟩
        · rw [← hlen, List.length_drop]; rfl
        · rw [← hlen]; exact hown3.place.1
    · have hd : decide (a < n) = false := decide_eq_false hla
      have hww : withP l p = l.take a ++ (p :: l.drop a) := by
        unfold withP
        rw [← HA.out.1, List.getElem?_eq_none (by rw [← HS.out.2.2.2]; omega), if_neg (by simp)]
      have HE := hide hww
      clear hww
      go_wp2_with fail
      go_quiet (fail)
      obtain ⟨W, hW⟩ : ∃ W, W = wc.drewN nq := ⟨_, rfl⟩
      have hbW : Below w.heap.size w W := by rw [hW]; exact below_drewN HA.out.2.1 _
      have hslW : Sl encP 3 W w.heap.size A l := HS.out.1.below hbW
      have hbxW : Blk W w.heap.size 41 #[.int .i64 p.1, .int .i64 p.2.1, .int .i64 p.2.2] := by rw [hW]; exact HA.out.2.2.2.drewN _
      have hzW := hbW.size
      have hzW1 := hbxW.lt
      have hta : (l.take a).length = a := by rw [List.length_take]; have := HS.out.2.2.2; omega
      have htd : (l.drop a).length = n - a := by rw [List.length_drop, ← HS.out.2.2.2]
      have hrunH : ∀ V : World, (Instr.slice 34 (.slice A n c) none (some (.int .i64 a)) none).run Tryz.prog V = .ok (.slice A a c) V := fun V => run_cutH Tryz.underlying34 Tryz.sizeOf41 ha hc V
      have hrunL : ∀ V : World, (Instr.slice 34 (.slice A n c) (some (.int .i64 a)) none none).run Tryz.prog V = .ok (.slice (cutA A c a 3) (n - a) (c - a)) V := fun V => run_cut Tryz.underlying34 Tryz.sizeOf41 ha V
      have hslT : Sl encP 3 W w.heap.size A (l.take a) := hslW.take8 a
      have hslD : Sl encP 3 W w.heap.size (cutA A c a 3) (l.drop a) := hslW.cut (by rw [← HS.out.2.2.2]; exact ha) (by rw [← HS.out.2.2.2]; exact hc)
      obtain ⟨x0', x1', x2'⟩ := hbxW.three8
      have HT := hide (And.intro hbW (And.intro hslT (And.intro hslD (And.intro hbxW (And.intro hta (And.intro htd hW))))))
      rw [← hW]
      clear hbW hslW hbxW hta htd hslT hslD hW
      go_upto_region 10 with (at_builtin; refine wpList_appendS rfl _ _ _ rfl Tryz.underlying34 infoPt rfl (by omega) encP_len encP_one rfl (Own.nil (base := W.heap.size)) A c w.heap.size (l.take a) (by rw [HT.out.2.2.2.2.1]; rfl) HT.out.2.1 (by rw [HT.out.2.2.2.2.1]; unfold maxLen; omega) (by rw [HT.out.2.2.2.2.1]; omega) (Nat.le_refl _) ?_; intro v1 w1 hown1 hg1 hB1 hat1; rw [HT.out.2.2.2.2.1, Nat.zero_add, List.nil_append] at hown1; obtain ⟨A1, c1, rfl⟩ := hown1.form)
      have y0 := (hB1.cell (p := ⟨w.heap.size, 0, none⟩) hzW1).trans x0'
      have y1 := (hB1.cell (p := ⟨w.heap.size, 1, none⟩) hzW1).trans x1'
      have y2 := (hB1.cell (p := ⟨w.heap.size, 2, none⟩) hzW1).trans x2'
      have HO1 := hide (And.intro hown1 hB1)
      have hz1 := hB1.size
      have hown1' := hown1.alloc (.cells #[.int .i64 p.1, .int .i64 p.2.1, .int .i64 p.2.2] 41)
      clear hown1 hg1 hB1 hat1 x0' x1' x2'
      go_upto_region 11 with (at_builtin; refine wpList_append1 rfl _ _ _ rfl Tryz.underlying34 infoPt rfl (by omega) encP_len encP_one rfl hown1' w1.heap.size 1 p rfl (Blk.new _ _ _) (by unfold maxLen; omega) (by omega) (by simp; omega) ?_; intro g2 cap2 w2 hown2 hg2 hB2 hat2 hgb2 hlt2)
      have hB12 : Below W.heap.size W w2 := HO1.out.2.trans (((Below.refl _ w1).alloc (by omega) _).trans hB2)
      have hz2 := hB12.size
      have HO2 := hide (And.intro hown2 (And.intro hB12 (HT.out.2.2.1.below (hB12.mono hzW))))
      clear hown2 hg2 hB2 hat2 hown1' hB12 y0 y1 y2
      go_wp2_with (at_builtin; refine wpList_appendS rfl _ _ _ rfl Tryz.underlying34 infoPt rfl (by omega) encP_len encP_one rfl HO2.out.1 (cutA A c a 3) (c - a) w.heap.size (l.drop a) (by rw [HT.out.2.2.2.2.2.1]; rfl) HO2.out.2.2 (by rw [HT.out.2.2.2.2.2.1]; unfold maxLen; omega) (by rw [HT.out.2.2.2.2.2.1]; omega) hz2 ?_; intro v3 w3 hown3 hg3 hB3 hat3; obtain ⟨A3, c3, rfl⟩ := hown3.form)
      go_ret
      have hlen : a + 1 + (l.drop a).length = (withP l p).length := by rw [hown3.1, HE.out]; simp
      have hfin : Below w.heap.size w w3 := HT.out.1.trans ((HO2.out.2.1.mono hzW).trans (hB3.mono hzW))
      rw [List.append_assoc, List.singleton_append, ← HE.out] at hown3
      refine ⟨A3, c3, ?_, hown3.sl encP_len (Nat.le_refl _), ?_, hfin⟩
      · rw [← hlen, List.length_drop]; rfl
      · rw [← hlen]; exact hown3.place.1
end Go.Proofs.YtelfnmohpjkilaaGreatDoor
namespace Go.Proofs.YtelfnmohpjkilaaGreatDoor
open Go.RowKit Go.Sort
theorem cornersP_snoc (ts : List Tri) (k : Nat) (t : Tri) (h : ts[k]? = some t) : cornersP (ts.take (k + 1)) = corN (cornersP (ts.take k)) t 3 := by
  unfold cornersP
  rw [List.take_add_one, h, Option.toList_some, List.foldl_append]
  rfl
set_option maxRecDepth 100000 in
set_option maxHeartbeats 8000000 in
theorem corners_any (A : Option Addr) (c : Nat) (ts : List Tri) (w : World) (hs : Sl encT 9 w w.heap.size A ts) (hl : ts.length ≤ 1073741824) (hf : ∀ t ∈ ts, fitsT t) :
    Calls Tryz.prog 20 #[.slice A ts.length c] w fun e w' => ∃ A' c', e = .returned (.slice A' (cornersP ts).length c') ∧ Sl encP 3 w' w'.heap.size A' (cornersP ts) ∧ (cornersP ts).length ≤ c' ∧ Below w.heap.size w w' ∧ ∀ p ∈ cornersP ts, fitsP p := by
  obtain ⟨n, hn⟩ : ∃ n, n = ts.length := ⟨_, rfl⟩
  rw [← hn] at hl ⊢
  have HS := hide (And.intro hs (And.intro hf hn))
  clear hs hf hn
  go_enter Tryz.func20, Tryz.ntmps20
  go_wp2
  go_loopw [3, 4] (fun v iv wr => ∃ (k : Nat) (A' : Option Addr) (l c' : Nat), k ≤ n ∧ iv = .int .i64 k ∧ v = .slice A' l c' ∧ l = (cornersP (ts.take k)).length ∧ l ≤ 3 * k ∧ Sl encP 3 wr wr.heap.size A' (cornersP (ts.take k)) ∧ l ≤ c' ∧ (∀ p ∈ cornersP (ts.take k), fitsP p) ∧ Below w.heap.size w wr) (fun _ iv _ => n - (intOf iv).toNat)
  case atStart => exact ⟨0, none, 0, 0, by omega, rfl, rfl, rfl, by omega, .inl ⟨rfl, rfl⟩, Nat.le_refl _, fun p hp => absurd hp (by simp [cornersP]), Below.refl _ w⟩
  case round =>
    obtain ⟨k, A1, l1, c1, hk, rfl, rfl, hl1, hl3, hs1, hc1, hf1, hB⟩ := hrel
    have hz := hB.size
    by_cases hlt : k < n
    · obtain ⟨t, ht⟩ : ∃ t, ts[k]? = some t := ⟨_, List.getElem?_eq_getElem (by rw [← HS.out.2.2]; exact hlt)⟩
      have i1 : (k : Int) < (n : Int) := by omega
      have HK := hide (And.intro hl1 (And.intro hs1 (And.intro hf1 (And.intro hB (And.intro ht (HS.out.2.1 t (List.mem_of_getElem? ht)))))))
      clear hl1 hs1 hf1 hB ht
      go_wp2
      go_loopw [3, 5] (fun v jv wx => ∃ (j : Nat) (A' : Option Addr) (l c' : Nat), j ≤ 3 ∧ jv = .int .i64 j ∧ v = .slice A' l c' ∧ l = (corN (cornersP (ts.take k)) t j).length ∧ l ≤ 3 * k + j ∧ Sl encP 3 wx wx.heap.size A' (corN (cornersP (ts.take k)) t j) ∧ l ≤ c' ∧ (∀ p ∈ corN (cornersP (ts.take k)) t j, fitsP p) ∧ Below w.heap.size w wx) (fun _ jv _ => 3 - (intOf jv).toNat)
      case atStart => exact ⟨0, A1, l1, c1, by omega, rfl, rfl, HK.out.1, by omega, HK.out.2.1, hc1, HK.out.2.2.1, HK.out.2.2.2.1⟩
      case round =>
        obtain ⟨j, A2, l2, c2, hj, rfl, rfl, hl2, hl4, hs2, hc2, hf2, hB2⟩ := hrel
        have hz2 := hB2.size
        by_cases hlt2 : j < 3
        · have i2 : (j : Int) < 3 := by omega
          obtain ⟨b, o, hA, hb, hct⟩ := (HS.out.1.below hB2).tri HK.out.2.2.2.2.1
          subst hA
          obtain ⟨g0, g1, g2⟩ := hct.corner8 hlt2
          have hfp := corner_fits HK.out.2.2.2.2.2 j
          have hcal := with_any A2 c2 (corN (cornersP (ts.take k)) t j) (corner t j) wr hs2 (by omega) (by omega) hfp hf2
          rw [corN_succ _ _ hlt2, ← hl2] at hcal
          have hwl := withP_length (corN (cornersP (ts.take k)) t j) (corner t j)
          rw [corN_succ _ _ hlt2, ← hl2] at hwl
          have hfn : ∀ p ∈ corN (cornersP (ts.take k)) t (j + 1), fitsP p := fun p hp => by
            rw [← corN_succ _ _ hlt2] at hp
            rcases withP_mem hp with h | h
            · exact hf2 p h
            · rw [h]; exact hfp
          have HJ := hide (And.intro hcal (And.intro hwl (And.intro hfn hB2)))
          clear hct hcal hwl hfn hs2 hf2 hB2 hl2 hfp
          go_wp2_with fail
          refine HJ.out.1.mono ?_
          rintro e w3 ⟨A3, c3, rfl, hs3, hc3, hB3⟩
          obtain ⟨l3, hl3'⟩ : ∃ l3, l3 = (corN (cornersP (ts.take k)) t (j + 1)).length := ⟨_, rfl⟩
          rw [← hl3'] at hc3 ⊢
          have HR := hide (And.intro hs3 (And.intro hl3' hB3))
          clear hs3 hl3' hB3 g0 g1 g2
          go_wp2_with fail
          go_roundw
          case rel => exact ⟨j + 1, A3, l3, c3, by omega, by go_num, rfl, HR.out.2.1, by have := HJ.out.2.1; have := HR.out.2.1; omega, HR.out.1, hc3, HJ.out.2.2.1, HJ.out.2.2.2.trans (HR.out.2.2.mono hz2)⟩
          case measure => simp [intOf]; omega
        · have hj3 : j = 3 := by omega
          subst hj3
          have HJ := hide (And.intro hl2 (And.intro hs2 (And.intro hf2 hB2)))
          clear hl2 hs2 hf2 hB2
          go_wp2
          go_roundw
          case rel => exact ⟨k + 1, A2, l2, c2, by omega, by go_num, rfl, by rw [cornersP_snoc _ _ _ HK.out.2.2.2.2.1]; exact HJ.out.1, by omega, by rw [cornersP_snoc _ _ _ HK.out.2.2.2.2.1]; exact HJ.out.2.1, hc2, by rw [cornersP_snoc _ _ _ HK.out.2.2.2.2.1]; exact HJ.out.2.2.1, HJ.out.2.2.2⟩
          case measure => simp [intOf]; omega
    · have hke : k = ts.length := by rw [← HS.out.2.2]; omega
      rw [hke, List.take_length] at hl1 hs1 hf1
      have hkn : n = k := by omega
      have HE := hide (And.intro hl1 (And.intro hs1 (And.intro hf1 hB)))
      clear hl1 hs1 hf1 hB hke
      subst hkn
      go_wp2
      go_ret
      exact ⟨A1, c1, by rw [← HE.out.1]; rfl, HE.out.2.1, by rw [← HE.out.1]; exact hc1, HE.out.2.2.2, HE.out.2.2.1⟩
end Go.Proofs.YtelfnmohpjkilaaGreatDoor
namespace Go.Proofs.YtelfnmohpjkilaaGreatDoor
open Go.RowKit Go.Sort
set_option maxRecDepth 100000 in
set_option maxHeartbeats 8000000 in
theorem edges_any (A : Option Addr) (c : Nat) (ts : List Tri) (w : World) (hs : Sl encT 9 w w.heap.size A ts) (hl : ts.length ≤ 1073741824) :
    Calls Tryz.prog 53 #[.slice A ts.length c] w fun e w' => ∃ v, e = .returned v ∧ Own encE 6 62 w' w.heap.size v (edgesP ts).length (edgesP ts) ∧ Below w.heap.size w w' := by
  obtain ⟨n, hn⟩ : ∃ n, n = ts.length := ⟨_, rfl⟩
  rw [← hn] at hl ⊢
  have HS := hide (And.intro hs hn)
  clear hs hn
  go_enter Tryz.func53, Tryz.ntmps53
  go_wp2
  go_loopw [3, 4] (fun v iv wr => ∃ k : Nat, k ≤ n ∧ iv = .int .i64 k ∧ Own encE 6 62 wr w.heap.size v (3 * k) (edgesP (ts.take k)) ∧ Below w.heap.size w wr) (fun _ iv _ => n - (intOf iv).toNat)
  case atStart => exact ⟨0, by omega, rfl, Own.nil, Below.refl _ w⟩
  case round =>
    obtain ⟨k, hk, rfl, hown, hB⟩ := hrel
    obtain ⟨A1, c1, rfl⟩ := hown.form
    have hz := hB.size
    by_cases hlt : k < n
    · obtain ⟨t, ht⟩ : ∃ t, ts[k]? = some t := ⟨_, List.getElem?_eq_getElem (by rw [← HS.out.2]; exact hlt)⟩
      have i1 : (k : Int) < (n : Int) := by omega
      obtain ⟨b, o, hA, hb, g0, g1, g2, g3, g4, g5, g6, g7, g8⟩ := (HS.out.1.below hB).tri ht
      subst hA
      have HK := hide (And.intro hown (And.intro hB ht))
      have hown1 := (hown.alloc (.cells (encT t).toArray 58)).alloc (.cells (edges3 t |>.flatMap encE).toArray 62)
      clear hown hB ht
      go_wp2_with (at_builtin; refine wpList_appendS rfl _ _ _ rfl Tryz.underlying37 infoE rfl (by omega) encE_len encE_one rfl hown1 (some ⟨wr.heap.size + 1, 0, none⟩) 3 (wr.heap.size + 2) (edges3 t) rfl (Sl.of_blk encE_len (Blk.new' _ _ _ _ (by simp)) (by omega)) (by unfold maxLen; simp [edges3]; omega) (by simp [edges3]; omega) (by simp; omega) ?_; intro v2 w2 hown2 hg2 hB2 hat2)
      go_roundw
      case rel => exact ⟨k + 1, by omega, by go_num, by rw [edgesP_snoc _ _ _ HK.out.2.2]; exact hown2, ((HK.out.2.1.alloc (by omega) _).alloc (by simp; omega) _).trans hB2⟩
      case measure => simp [intOf]; omega
    · have hke : k = ts.length := by rw [← HS.out.2]; omega
      have hle := edgesP_length ts
      rw [hke, List.take_length, ← hle] at hown
      have hkn : n = k := by omega
      have HE := hide (And.intro hown (And.intro hB hle))
      clear hown hB hle hke
      subst hkn
      go_wp2
      go_ret
      exact ⟨_, by rw [show 3 * n = (edgesP ts).length by rw [HE.out.2.2, ← HS.out.2]]; rfl, HE.out.1, HE.out.2.1⟩
end Go.Proofs.YtelfnmohpjkilaaGreatDoor
namespace Go.Proofs.YtelfnmohpjkilaaGreatDoor
open Go.RowKit Go.Sort
theorem Sl.ed {w : World} {B b o : Nat} {es : List Ed} (h : Sl encE 6 w B (some ⟨b, o, none⟩) es) {i : Nat} {e : Ed} (hi : es[i]? = some e) :
    w.cell? ⟨b, o + i * 6, none⟩ = some (.int .i64 e.1.1) ∧ w.cell? ⟨b, o + i * 6 + 1, none⟩ = some (.int .i64 e.1.2.1) ∧ w.cell? ⟨b, o + i * 6 + 2, none⟩ = some (.int .i64 e.1.2.2) ∧ w.cell? ⟨b, o + i * 6 + 3, none⟩ = some (.int .i64 e.2.1) ∧ w.cell? ⟨b, o + i * 6 + 4, none⟩ = some (.int .i64 e.2.2.1) ∧ w.cell? ⟨b, o + i * 6 + 5, none⟩ = some (.int .i64 e.2.2.2) := by
  obtain ⟨b', o', ha, _, hc⟩ := h.at hi
  cases ha
  exact ⟨hc 0 _ rfl, hc 1 _ rfl, hc 2 _ rfl, hc 3 _ rfl, hc 4 _ rfl, hc 5 _ rfl⟩
theorem Blk.six {w : World} {g : Nat} {t : TypeId} {e : Ed} (h : Blk w g t (encE e).toArray) :
    w.cell? ⟨g, 0, none⟩ = some (.int .i64 e.1.1) ∧ w.cell? ⟨g, 1, none⟩ = some (.int .i64 e.1.2.1) ∧ w.cell? ⟨g, 2, none⟩ = some (.int .i64 e.1.2.2) ∧ w.cell? ⟨g, 3, none⟩ = some (.int .i64 e.2.1) ∧ w.cell? ⟨g, 4, none⟩ = some (.int .i64 e.2.2.1) ∧ w.cell? ⟨g, 5, none⟩ = some (.int .i64 e.2.2.2) :=
  ⟨h.cell 0, h.cell 1, h.cell 2, h.cell 3, h.cell 4, h.cell 5⟩
theorem cntE_snoc (l : List Ed) (e x : Ed) (k : Nat) (h : l[k]? = some x) : cntE (l.take (k + 1)) e = cntE (l.take k) e + if x = e then 1 else 0 := by
  unfold cntE
  rw [List.take_add_one, h, Option.toList_some, List.countP_append, List.countP_singleton]
  simp
set_option maxRecDepth 100000 in
set_option maxHeartbeats 8000000 in
theorem count_any (A : Option Addr) (c : Nat) (l : List Ed) (e : Ed) (w : World) (hs : Sl encE 6 w w.heap.size A l) (hl : l.length ≤ 4294967296) (he : fitsE e) (hf : ∀ x ∈ l, fitsE x) :
    Calls Tryz.prog 54 #[.slice A l.length c, vE e] w fun r w' => r = .returned (.int .i64 (cntE l e : Nat)) ∧ Below w.heap.size w w' := by
  obtain ⟨n, hn⟩ : ∃ n, n = l.length := ⟨_, rfl⟩
  rw [← hn] at hl ⊢
  have HS := hide (And.intro hs (And.intro he (And.intro hf hn)))
  clear hs he hf hn
  go_enter Tryz.func54, Tryz.ntmps54
  go_wp2
  obtain ⟨X, hX⟩ : ∃ X, X = w.alloc (.cells #[.int .i64 e.1.1, .int .i64 e.1.2.1, .int .i64 e.1.2.2, .int .i64 e.2.1, .int .i64 e.2.2.1, .int .i64 e.2.2.2] 62) := ⟨_, rfl⟩
  rw [← hX]
  have hBX : Below w.heap.size w X := by rw [hX]; exact (Below.refl _ w).alloc (Nat.le_refl _) _
  have hbx : Blk X w.heap.size 62 (encE e).toArray := by rw [hX]; exact Blk.new _ _ _
  have hzX : X.heap.size = w.heap.size + 1 := by rw [hX]; simp
  have HX := hide (And.intro hBX hbx)
  clear hBX hbx hX
  go_loopw [5, 6] (fun v iv wr => ∃ k q : Nat, k ≤ n ∧ iv = .int .i64 k ∧ v = .int .i64 (cntE (l.take k) e : Nat) ∧ cntE (l.take k) e ≤ k ∧ wr = X.drewN q) (fun _ iv _ => n - (intOf iv).toNat)
  case atStart => exact ⟨0, 0, by omega, rfl, rfl, by simp [cntE], rfl⟩
  case round =>
    obtain ⟨k, q, hk, rfl, rfl, hck, rfl⟩ := hrel
    obtain ⟨m, hm⟩ : ∃ m, m = cntE (l.take k) e := ⟨_, rfl⟩
    rw [← hm] at hck ⊢
    by_cases hlt : k < n
    · obtain ⟨x, hx⟩ : ∃ x, l[k]? = some x := ⟨_, List.getElem?_eq_getElem (by rw [← HS.out.2.2.2]; exact hlt)⟩
      have i1 : (k : Int) < (n : Int) := by omega
      obtain ⟨b, o, hA, hb, _⟩ := HS.out.1.at hx
      subst hA
      have hslX : Sl encE 6 X w.heap.size (some ⟨b, o, none⟩) l := HS.out.1.below HX.out.1
      obtain ⟨g0, g1, g2, g3, g4, g5⟩ := hslX.ed hx
      obtain ⟨y0, y1, y2, y3, y4, y5⟩ := HX.out.2.six
      have heq := eqE x e (HS.out.2.2.1 x (List.mem_of_getElem? hx)) HS.out.2.1
      have hsn := cntE_snoc l e x k hx
      rw [← hm] at hsn
      have HK := hide (And.intro hm (And.intro hx hsn))
      clear hslX hm hx hsn
      by_cases hxe : x = e
      · have hd : decide (x = e) = true := decide_eq_true hxe
        rw [hd] at heq
        have HE := hide hxe
        clear hxe hd
        go_wp2_with fail
        go_quiet (fail)
        go_wp2
        go_roundw
        case rel =>
          have h1 := HK.out.2.2
          rw [if_pos HE.out] at h1
          exact ⟨k + 1, q + nq, by omega, by go_num, by rw [h1]; go_num, by omega, rfl⟩
        case measure => simp [intOf]; omega
      · have hd : decide (x = e) = false := decide_eq_false hxe
        rw [hd] at heq
        have HE := hide hxe
        clear hxe hd
        go_wp2_with fail
        go_quiet (fail)
        go_wp2
        go_roundw
        case rel =>
          have h1 := HK.out.2.2
          rw [if_neg HE.out] at h1
          exact ⟨k + 1, q + nq, by omega, by go_num, by rw [h1]; rfl, by omega, rfl⟩
        case measure => simp [intOf]; omega
    · have hke : k = l.length := by rw [← HS.out.2.2.2]; omega
      rw [hke, List.take_length] at hm
      have hkn : n = k := by omega
      have HE := hide hm
      clear hm hke
      subst hkn
      go_wp2
      go_ret
      exact ⟨by rw [← HE.out]; rfl, below_drewN HX.out.1 _⟩
end Go.Proofs.YtelfnmohpjkilaaGreatDoor
namespace Go.Proofs.YtelfnmohpjkilaaGreatDoor
open Go.RowKit Go.Sort
theorem normE_swap (e : Ed) : normE (swapE e) = normE e := by
  unfold normE swapE
  by_cases h1 : ltP e.2 e.1 = true
  · have h2 : ltP e.1 e.2 = false := by
      cases h2 : ltP e.1 e.2 with
      | false => rfl
      | true => have := sto_P.trans _ _ _ h1 h2; rw [sto_P.irrefl] at this; cases this
    simp [h1, h2]
  · by_cases h2 : ltP e.1 e.2 = true
    · simp [h1, h2]
    · have : e.1 = e.2 := sto_P.total _ _ (by simpa using h2) (by simpa using h1)
      obtain ⟨a, b⟩ := e
      simp only at this
      subst this
      simp
theorem normE_eq {a b : Ed} : normE a = normE b ↔ a = b ∨ a = swapE b := by
  constructor
  · intro h
    rcases normE_or a with h1 | h1 <;> rcases normE_or b with h2 | h2 <;> rw [h1, h2] at h
    · exact .inl h
    · exact .inr h
    · exact .inr (by rw [← h]; rfl)
    · exact .inl (by rw [← swapE_swap a, h]; rfl)
  · rintro (rfl | rfl)
    · rfl
    · exact normE_swap b
def pairS (out : List Ed) (e : Ed) : List Ed := if cntE out e = 0 ∧ cntE out (swapE e) = 0 then out ++ [e] else out
def pairsR (es : List Ed) : List Ed := es.foldl pairS []
theorem pairs_map (es : List Ed) : (pairsR es).map normE = dedup (es.map normE) := by
  have key : ∀ (es out : List Ed), (es.foldl pairS out).map normE = (es.map normE).foldl addL (out.map normE) := by
    intro es
    induction es with
    | nil => intro out; rfl
    | cons e es ih =>
      intro out
      rw [List.foldl_cons, ih, List.map_cons, List.foldl_cons]
      congr 1
      unfold pairS addL
      have hc : normE e ∈ out.map normE ↔ ¬ (cntE out e = 0 ∧ cntE out (swapE e) = 0) := by
        rw [List.mem_map]
        constructor
        · rintro ⟨x, hx, h⟩ ⟨h1, h2⟩
          rcases normE_eq.1 h with rfl | rfl
          · have := cntE_pos.2 hx; omega
          · have := cntE_pos.2 hx; omega
        · intro h
          rcases Nat.eq_zero_or_pos (cntE out e) with h1 | h1
          · rcases Nat.eq_zero_or_pos (cntE out (swapE e)) with h2 | h2
            · exact absurd ⟨h1, h2⟩ h
            · exact ⟨_, cntE_pos.1 h2, normE_swap e⟩
          · exact ⟨_, cntE_pos.1 h1, rfl⟩
      by_cases h : cntE out e = 0 ∧ cntE out (swapE e) = 0
      · rw [if_pos h, if_neg (fun h' => hc.1 h' h), List.map_append]; rfl
      · rw [if_neg h, if_pos (hc.2 h)]
  exact key es []
theorem pairs_len (es : List Ed) : (pairsR es).length = (dedup (es.map normE)).length := by rw [← pairs_map, List.length_map]
end Go.Proofs.YtelfnmohpjkilaaGreatDoor
namespace Go.Proofs.YtelfnmohpjkilaaGreatDoor
open Go.RowKit Go.Sort
theorem pairsR_snoc (xs : List Ed) (x : Ed) : pairsR (xs ++ [x]) = pairS (pairsR xs) x := by unfold pairsR; rw [List.foldl_append]; rfl
end Go.Proofs.YtelfnmohpjkilaaGreatDoor
namespace Go.Proofs.YtelfnmohpjkilaaGreatDoor
open Go.RowKit Go.Sort
theorem corsP_len (ts : List Tri) : (corsP ts).length = 3 * ts.length := by
  rw [cors_trip, List.length_map, tripP_len]
theorem euler_bds (ts : List Tri) : (cornersP ts).length ≤ 3 * ts.length ∧ (dedup ((edgesP ts).map normE)).length ≤ 3 * ts.length := by
  refine ⟨?_, ?_⟩
  · rw [corners_len]; exact Nat.le_trans (dedup_length _) (by rw [corsP_len]; exact Nat.le_refl _)
  · exact Nat.le_trans (dedup_length _) (by rw [List.length_map, edgesP_length]; exact Nat.le_refl _)
theorem pairsR_sub {xs : List Ed} : ∀ x ∈ pairsR xs, x ∈ xs := by
  have key : ∀ (xs l : List Ed), ∀ x ∈ xs.foldl pairS l, x ∈ l ∨ x ∈ xs := by
    intro xs
    induction xs with
    | nil => intro l x hx; exact .inl hx
    | cons y xs ih =>
      intro l x hx
      rw [List.foldl_cons] at hx
      rcases ih _ x hx with h | h
      · unfold pairS at h
        split at h
        · rcases List.mem_append.1 h with h | h
          · exact .inl h
          · rw [List.mem_singleton] at h; exact .inr (by rw [h]; exact List.mem_cons_self ..)
        · exact .inl h
      · exact .inr (List.mem_cons_of_mem _ h)
  intro x hx
  rcases key xs [] x hx with h | h
  · cases h
  · exact h
set_option maxRecDepth 100000 in
set_option maxHeartbeats 16000000 in
theorem eulerR_any (A : Option Addr) (c : Nat) (ts : List Tri) (w : World) (hs : Sl encT 9 w w.heap.size A ts) (hl : ts.length ≤ 100000000) (hf : ∀ t ∈ ts, fitsT t) :
    Calls Tryz.prog 37 #[.slice A ts.length c] w fun e w' => e = .returned (.int .i64 (eulerP ts)) ∧ Below w.heap.size w w' := by
  have hed := edges_any A c ts w hs (by omega)
  have hco := fun W (hW : Below w.heap.size w W) => corners_any A c ts W ((hs.below hW).more hW.size) (by omega) hf
  have hfe := edgesP_fits hf
  have hle := edgesP_length ts
  have hbd := euler_bds ts
  have hev : eulerP ts = ((cornersP ts).length : Int) - ((pairsR (edgesP ts)).length : Int) + (ts.length : Int) := by unfold eulerP; rw [pairs_len]
  rw [← pairs_len] at hbd
  obtain ⟨E, hE⟩ : ∃ E, E = eulerP ts := ⟨_, rfl⟩
  obtain ⟨nc, hnc⟩ : ∃ n, n = (cornersP ts).length := ⟨_, rfl⟩
  obtain ⟨all, hall⟩ : ∃ all, all = edgesP ts := ⟨_, rfl⟩
  rw [← hall] at hed hfe hle hbd hev
  rw [← hnc] at hco hbd hev
  rw [← hE] at hev ⊢
  obtain ⟨n, hn⟩ : ∃ n, n = all.length := ⟨_, rfl⟩
  rw [← hn] at hle hed
  obtain ⟨tl, htl⟩ : ∃ tl, tl = ts.length := ⟨_, rfl⟩
  rw [← htl] at hed hco hle hbd hev hl ⊢
  have hnb : n ≤ 300000000 := by omega
  have hnn : nc ≤ 300000000 := by omega
  have HS := hide (And.intro hed (And.intro hfe (And.intro hn (And.intro hco hev))))
  clear hs hf hed hfe hall hn htl hco hev hE hnc hbd hle
  go_enter Tryz.func37, Tryz.ntmps37
  go_wp2_with fail
  refine HS.out.1.mono ?_
  rintro e w1 ⟨v1, rfl, hown1, hB1⟩
  obtain ⟨A1, c1, rfl⟩ := hown1.form
  have hz1 := hB1.size
  have H1 := hide (And.intro (hown1.sl encE_len (Nat.le_refl _)) hB1)
  clear hown1 hB1
  go_wp2_with fail
  go_loopw [4, 5] (fun v iv wr => ∃ (k m : Nat), k ≤ n ∧ iv = .int .i64 k ∧ m ≤ k ∧ Own encE 6 62 wr w1.heap.size v m (pairsR (all.take k)) ∧ Below w1.heap.size w1 wr) (fun _ iv _ => n - (intOf iv).toNat)
  case atStart => exact ⟨0, 0, by omega, rfl, by omega, Own.nil, Below.refl _ w1⟩
  case round =>
    obtain ⟨V0, rfl⟩ : ∃ V0, V0 = wr := ⟨_, rfl⟩
    obtain ⟨k, m, hk, rfl, hm, ho, hI⟩ := hrel
    obtain ⟨A2, c2, rfl⟩ := ho.form
    have hzr := hI.size
    by_cases hlt : k < n
    · obtain ⟨x, hx⟩ : ∃ x, all[k]? = some x := ⟨_, List.getElem?_eq_getElem (by rw [← HS.out.2.2.1]; exact hlt)⟩
      have i1 : (k : Int) < (n : Int) := by omega
      have hfx := HS.out.2.1 x (List.mem_of_getElem? hx)
      have htk : all.take (k + 1) = all.take k ++ [x] := by rw [List.take_add_one, hx]; rfl
      have hsn := pairsR_snoc (all.take k) x
      rw [← htk] at hsn
      obtain ⟨ps, hps⟩ : ∃ ps, ps = pairsR (all.take k) := ⟨_, rfl⟩
      have hfps : ∀ y ∈ ps, fitsE y := fun y hy => by rw [hps] at hy; exact HS.out.2.1 y (List.mem_of_mem_take (pairsR_sub y hy))
      rw [← hps] at ho hsn
      have hsa : Sl encE 6 V0 w1.heap.size A1 all := H1.out.1.below hI
      obtain ⟨b, o, hA, hb, _⟩ := hsa.at hx
      subst hA
      obtain ⟨g0, g1, g2, g3, g4, g5⟩ := hsa.ed hx
      obtain ⟨X, hX⟩ : ∃ X, X = V0.alloc (.cells #[.int .i64 x.1.1, .int .i64 x.1.2.1, .int .i64 x.1.2.2, .int .i64 x.2.1, .int .i64 x.2.2.1, .int .i64 x.2.2.2] 62) := ⟨_, rfl⟩
      have hBX : Below V0.heap.size V0 X := by rw [hX]; exact (Below.refl _ V0).alloc (Nat.le_refl _) _
      have hbx : Blk X V0.heap.size 62 (encE x).toArray := by rw [hX]; exact Blk.new _ _ _
      have hzX : X.heap.size = V0.heap.size + 1 := by rw [hX]; simp
      have hml : ps.length = m := ho.1.symm
      have hc1 := fun (y : Ed) (hy : fitsE y) W (hW : Below X.heap.size X W) => count_any A2 c2 ps y W ((((ho.sl encE_len (Nat.le_refl _)).below hBX).below (hW.mono (by omega))).more (by have := hW.size; omega)) (by omega) hy hfps
      rw [hml] at hc1
      obtain ⟨m1, hm1⟩ : ∃ m, m = cntE ps x := ⟨_, rfl⟩
      obtain ⟨m2, hm2⟩ : ∃ m, m = cntE ps (swapE x) := ⟨_, rfl⟩
      have hc2 := hc1 (swapE x) ⟨hfx.2, hfx.1⟩
      have hc1 := hc1 x hfx
      rw [← hm1] at hc1
      rw [← hm2] at hc2
      have hbs : pairS ps x = if m1 = 0 ∧ m2 = 0 then ps ++ [x] else ps := by unfold pairS; rw [← hm1, ← hm2]
      have HK := hide (And.intro ho (And.intro hc1 (And.intro hc2 (And.intro (hsn.trans hbs) (And.intro hBX (And.intro hbx (And.intro hX (And.intro hI hfx))))))))
      clear ho hc1 hc2 hsn hsa hbs hBX hbx hfx hx hm1 hm2 hX hI hfps hps htk hml
      go_wp2_with fail
      rw [← HK.out.2.2.2.2.2.2.1]
      obtain ⟨y0, y1, y2, y3, y4, y5⟩ := HK.out.2.2.2.2.2.1.six
      have hxl := HK.out.2.2.2.2.2.1.lt
      refine (HK.out.2.1 X (Below.refl _ X)).mono ?_
      rintro e w2 ⟨rfl, hB2⟩
      have hz2 := hB2.size
      have hb2 := HK.out.2.2.2.2.2.1.below hB2 (by omega)
      obtain ⟨u0, u1, u2, u3, u4, u5⟩ := hb2.six
      have HB2 := hide hB2
      clear hB2 y0 y1 y2 y3 y4 y5 g0 g1 g2 g3 g4 g5 hb2
      by_cases h1 : m1 = 0
      · subst h1
        have j1 : (((0 : Nat) : Int) == 0) = true := rfl
        go_wp2_with fail
        refine (HK.out.2.2.1 _ HB2.out).mono ?_
        rintro e w3 ⟨rfl, hB3⟩
        have hz3 := hB3.size
        have hB23 : Below V0.heap.size V0 w3 := HK.out.2.2.2.2.1.trans ((HB2.out.mono (by omega)).trans (hB3.mono (by omega)))
        have hb3 := (HK.out.2.2.2.2.2.1.below HB2.out (by omega)).below hB3 (by omega)
        obtain ⟨x0, x1, x2, x3, x4, x5⟩ := hb3.six
        have HB3 := hide (And.intro hB23 hb3)
        clear hB3 hB23 hb3 u0 u1 u2 u3 u4 u5
        by_cases h2 : m2 = 0
        · subst h2
          have hown3 := HK.out.1.below HB3.out.1 (Nat.le_refl _)
          have he : pairsR (all.take (k + 1)) = ps ++ [x] := by have := HK.out.2.2.2.1; simpa using this
          have H3 := hide (And.intro hown3 he)
          clear hown3 he
          go_wp2_with (at_builtin; refine wpList_append1 rfl _ _ _ rfl Tryz.underlying37 infoE rfl (by omega) encE_len encE_one rfl (H3.out.1.alloc _) w3.heap.size 1 x rfl (Blk.new _ _ _) (by unfold maxLen; omega) (by omega) (by simp; omega) ?_; intro g9 cap9 w9 hown9 hg9 hB9 hat9 hgb9 hlt9)
          refine ⟨⟨k + 1, m + 1, by omega, by push_cast; rfl, by omega, by rw [H3.out.2]; exact hown9, ?_⟩, by simp [intOf]; omega⟩
          exact ((HK.out.2.2.2.2.2.2.2.1.trans (HB3.out.1.mono (by omega))).alloc (by omega) _).trans hB9
        · have j2 : ((m2 : Int) == 0) = false := beq_eq_false_iff_ne.2 (by omega)
          have hown3 := HK.out.1.below HB3.out.1 (Nat.le_refl _)
          have he : pairsR (all.take (k + 1)) = ps := by have := HK.out.2.2.2.1; simpa [h2] using this
          have H3 := hide (And.intro hown3 he)
          clear hown3 he
          go_wp2
          go_roundw
          case rel => exact ⟨k + 1, m, by omega, by go_num, by omega, by rw [H3.out.2]; exact H3.out.1, HK.out.2.2.2.2.2.2.2.1.trans (HB3.out.1.mono (by omega))⟩
          case measure => simp [intOf]; omega
      · have j1 : ((m1 : Int) == 0) = false := beq_eq_false_iff_ne.2 (by omega)
        have hB23 : Below V0.heap.size V0 w2 := HK.out.2.2.2.2.1.trans (HB2.out.mono (by omega))
        have hown3 := HK.out.1.below hB23 (Nat.le_refl _)
        have he : pairsR (all.take (k + 1)) = ps := by have := HK.out.2.2.2.1; simpa [h1] using this
        have H3 := hide (And.intro hown3 (And.intro he hB23))
        clear hown3 he hB23
        go_wp2
        go_roundw
        case rel => exact ⟨k + 1, m, by omega, by go_num, by omega, by rw [H3.out.2.1]; exact H3.out.1, HK.out.2.2.2.2.2.2.2.1.trans (H3.out.2.2.mono (by omega))⟩
        case measure => simp [intOf]; omega
    · obtain rfl : k = n := by omega
      have i1 : ¬ (k : Int) < (k : Int) := by omega
      have hkt : all.take k = all := by rw [HS.out.2.2.1, List.take_length]
      rw [hkt] at ho
      have hev := HS.out.2.2.2.2
      rw [← ho.1] at hev
      have hBw := H1.out.2.trans (hI.mono hz1)
      have hc := HS.out.2.2.2.1 V0 hBw
      have HE := hide (And.intro hc (And.intro hev hBw))
      clear ho hkt hev hBw hc hI
      go_wp2_with (go_at_call 20; refine HE.out.1.mono ?_; rintro e W9 ⟨A9, c9, rfl, _, _, hB9, _⟩; have HB9 := hide (HE.out.2.2.trans (hB9.mono HE.out.2.2.size)); clear hB9)
      go_ret
      exact ⟨by rw [HE.out.2.1]; rfl, HB9.out⟩
end Go.Proofs.YtelfnmohpjkilaaGreatDoor
