/- Joined texts: With Cor Edge Qud Hil Hls Cub Edge2 Bord Beh Pin Chk MshA MshB ShfP RinP VoxE SanP Wd8 Wd9 WdF. -/
import Derived.Deep.RegionHeld3
import Derived.Deep.CutBlock
import Derived.Deep.DeepCutAuto
import Derived.BigQuiet
import Derived.Test.YtelfnmohpjkilaaGreatDoorCB3
import Derived.Test.YtelfnmohpjkilaaGreatDoorCB4
import Derived.Test.YtelfnmohpjkilaaGreatDoorCB5
import Derived.Test.YtelfnmohpjkilaaGreatDoorCB8
import Derived.Test.YtelfnmohpjkilaaGreatDoorCB11
import Derived.Test.YtelfnmohpjkilaaGreatDoorCB12
import Derived.Test.YtelfnmohpjkilaaGreatDoorCB13
import Derived.Test.YtelfnmohpjkilaaGreatDoorCB15
import Derived.Test.YtelfnmohpjkilaaGreatDoorCB18
import Derived.Test.YtelfnmohpjkilaaGreatDoorCB19
import Derived.Test.YtelfnmohpjkilaaGreatDoorCB20
/- ref04.with, ref04.Corners: the corners of a list, each once, in order. -/
namespace Go.Proofs.YtelfnmohpjkilaaGreatDoor
open Go.RowKit Go.Sort
theorem infoPt : (Tryz.prog.info? 41).map (fun i => (i.zero, i.size, i.bytes)) = some (some (.agg #[.int .i64 0, .int .i64 0, .int .i64 0]), 3, 24) := by kernel_rfl
/-- The place of a point among ordered ones. -/
def atP (l : List Pt) (p : Pt) : Nat := (l.takeWhile fun x => ltP x p).length
def withP (l : List Pt) (p : Pt) : List Pt := if l[atP l p]? = some p then l else l.take (atP l p) ++ (p :: l.drop (atP l p))
theorem atP_eq {l : List Pt} {p : Pt} {a : Nat} (ha : a ≤ l.length) (hlo : ∀ j q, j < a → l[j]? = some q → ltP q p = true) (hhi : ∀ q, l[a]? = some q → ltP q p = false) : a = atP l p := by
  unfold atP
  induction l generalizing a with
  | nil => simpa using ha
  | cons x l ih =>
    cases a with
    | zero =>
      have := hhi x rfl
      simp [this]
    | succ a =>
      have h0 := hlo 0 x (by omega) rfl
      rw [List.takeWhile_cons, h0, if_pos rfl, List.length_cons]
      rw [← ih (a := a) (by simpa using ha) (fun j q hj hq => hlo (j + 1) q (by omega) (by simpa using hq)) (fun q hq => hhi q (by simpa using hq))]
theorem withP_length (l : List Pt) (p : Pt) : (withP l p).length ≤ l.length + 1 := by
  unfold withP
  split
  · omega
  · simp; omega
theorem withP_mem {l : List Pt} {p q : Pt} (h : q ∈ withP l p) : q ∈ l ∨ q = p := by
  unfold withP at h
  split at h
  · exact .inl h
  · rcases List.mem_append.1 h with h | h
    · exact .inl (List.mem_of_mem_take h)
    · rcases List.mem_cons.1 h with h | h
      · exact .inr h
      · exact .inl (List.mem_of_mem_drop h)
theorem Sl.pt8 {w : World} {B b o : Nat} {ps : List Pt} (h : Sl encP 3 w B (some ⟨b, o, none⟩) ps) {i : Nat} {p : Pt} (hi : ps[i]? = some p) :
    w.cell? ⟨b, o + i * 3, none⟩ = some (.int .i64 p.1) ∧ w.cell? ⟨b, o + i * 3 + 1, none⟩ = some (.int .i64 p.2.1) ∧ w.cell? ⟨b, o + i * 3 + 2, none⟩ = some (.int .i64 p.2.2) := by
  obtain ⟨b', o', ha, _, hc⟩ := h.at hi
  cases ha
  exact ⟨hc 0 _ rfl, hc 1 _ rfl, hc 2 _ rfl⟩
theorem Sl.take8 {α : Type} {enc : α → List Value} {k B : Nat} {w : World} {A : Option Addr} {xs : List α} (h : Sl enc k w B A xs) (a : Nat) : Sl enc k w B A (xs.take a) := by
  rcases h with ⟨rfl, h⟩ | ⟨b, o, hA, hb, hc⟩
  · exact .inl ⟨by simp, h⟩
  · refine .inr ⟨b, o, hA, hb, fun i x hx => hc i x ?_⟩
    rw [List.getElem?_take] at hx
    split at hx
    · exact hx
    · cases hx
theorem Blk.three8 {w : World} {g : Nat} {t : TypeId} {a b c : Value} (h : Blk w g t #[a, b, c]) : w.cell? ⟨g, 0, none⟩ = some a ∧ w.cell? ⟨g, 1, none⟩ = some b ∧ w.cell? ⟨g, 2, none⟩ = some c := ⟨h.cell 0, h.cell 1, h.cell 2⟩
set_option maxRecDepth 100000 in
set_option maxHeartbeats 8000000 in
theorem with_any (A : Option Addr) (c : Nat) (l : List Pt) (p : Pt) (w : World) (hs : Sl encP 3 w w.heap.size A l) (hl : l.length ≤ 4294967296) (hc : l.length ≤ c) (hp : fitsP p) (hf : ∀ q ∈ l, fitsP q) :
    Calls Tryz.prog 47 #[.slice A l.length c, vP p] w fun e w' => ∃ A' c', e = .returned (.slice A' (withP l p).length c') ∧ Sl encP 3 w' w'.heap.size A' (withP l p) ∧ (withP l p).length ≤ c' ∧ Below w.heap.size w w' := by
  obtain ⟨n, hn⟩ : ∃ n, n = l.length := ⟨_, rfl⟩
  rw [← hn] at hl hc ⊢
  have HS := hide (And.intro hs (And.intro hp (And.intro hf hn)))
  clear hs hp hf hn
  go_enter Tryz.func47, Tryz.ntmps47
  obtain ⟨X, hX⟩ : ∃ X, X = w.alloc (.cells #[.int .i64 p.1, .int .i64 p.2.1, .int .i64 p.2.2] 41) := ⟨_, rfl⟩
  have hBX : Below w.heap.size w X := by rw [hX]; exact (Below.refl _ w).alloc (Nat.le_refl _) _
  have hbx : Blk X w.heap.size 41 #[.int .i64 p.1, .int .i64 p.2.1, .int .i64 p.2.2] := by rw [hX]; exact Blk.new _ _ _
  have hzX : X.heap.size = w.heap.size + 1 := by rw [hX]; simp
  have HX := hide (And.intro hBX (And.intro hbx hX))
  clear hBX hbx hX
  go_upto_block 0 with fail
  rw [← HX.out.2.2]
  go_cut [5] (fun a wx => ∃ a' : Nat, a = .int .i64 a' ∧ a' ≤ n ∧ (∀ j q, j < a' → l[j]? = some q → ltP q p = true) ∧ (∀ q, l[a']? = some q → ltP q p = false) ∧ RB X wx)
  case first =>
    go_wp2_with fail
    go_loopw [5] (fun a wx => ∃ a' : Nat, a = .int .i64 a' ∧ a' ≤ n ∧ (∀ j q, j < a' → l[j]? = some q → ltP q p = true) ∧ RB X wx) (fun a _ => n - (intOf a).toNat)
    case atStart => exact ⟨0, rfl, Nat.zero_le _, fun j q h => absurd h (by omega), RB.refl _⟩
    case round =>
      obtain ⟨a, rfl, ha, hlo, hR⟩ := hrel
      have hbx := HX.out.2.1.below hR HX.out.2.1.lt
      have hszR := hR.size
      by_cases hla : a < n
      · obtain ⟨q, hq⟩ : ∃ q, l[a]? = some q := ⟨_, List.getElem?_eq_getElem (by rw [← HS.out.2.2.2]; exact hla)⟩
        obtain ⟨bp, op, hAp, hbp, hcq⟩ := ((HS.out.1.below HX.out.1).below (hR.mono (by omega))).at hq
        subst hAp
        have k0 := hcq 0 _ rfl
        have k1 := hcq 1 _ rfl
        have k2 := hcq 2 _ rfl
        have x0 := hbx.cell 0
        have x1 := hbx.cell 1
        have x2 := hbx.cell 2
        simp only [List.getElem?_toArray, List.getElem?_cons_zero, List.getElem?_cons_succ, Nat.add_zero] at x0 x1 x2 k0 k1 k2
        have hbpR : bp < wr.heap.size := by omega
        have hbxR := hbx.lt
        have i2 : (a : Int) < (n : Int) := by omega
        have HL := hide (And.intro hlo (And.intro hR hq))
        clear hlo hR hq hcq hbx
        cases hless : ltP q p
        · have HLS := hide hless
          go_wp2_with fail
          go_region_held3 (fun w' => w'.cell? ⟨bp, op + a * 3, none⟩ = some (.int .i64 q.1) ∧ w'.cell? ⟨bp, op + a * 3 + 1, none⟩ = some (.int .i64 q.2.1) ∧ w'.cell? ⟨bp, op + a * 3 + 2, none⟩ = some (.int .i64 q.2.2) ∧ w'.cell? ⟨w.heap.size, 0, none⟩ = some (.int .i64 p.1) ∧ w'.cell? ⟨w.heap.size, 1, none⟩ = some (.int .i64 p.2.1) ∧ w'.cell? ⟨w.heap.size, 2, none⟩ = some (.int .i64 p.2.2)) (first | go_keep | exact ⟨cell_lay hL k0, cell_lay hL k1, cell_lay hL k2, cell_lay hL x0, cell_lay hL x1, cell_lay hL x2⟩) ((go_at_call 83; refine (rless_any q p _).mono ?_; rintro e w3 ⟨rfl, hL⟩; rw [hless]))
          go_wp2_with fail
          go_meet
          case rel =>
            refine ⟨a, rfl, ha, HL.out.1, fun q' hq' => ?_, HL.out.2.1.trans _ _ _ ((below_drew wr).trans hL.below)⟩
            rw [HL.out.2.2] at hq'
            cases hq'
            exact HLS.out
        · have HLS := hide hless
          go_wp2_with fail
          go_region_held3 (fun w' => w'.cell? ⟨bp, op + a * 3, none⟩ = some (.int .i64 q.1) ∧ w'.cell? ⟨bp, op + a * 3 + 1, none⟩ = some (.int .i64 q.2.1) ∧ w'.cell? ⟨bp, op + a * 3 + 2, none⟩ = some (.int .i64 q.2.2) ∧ w'.cell? ⟨w.heap.size, 0, none⟩ = some (.int .i64 p.1) ∧ w'.cell? ⟨w.heap.size, 1, none⟩ = some (.int .i64 p.2.1) ∧ w'.cell? ⟨w.heap.size, 2, none⟩ = some (.int .i64 p.2.2)) (first | go_keep | exact ⟨cell_lay hL k0, cell_lay hL k1, cell_lay hL k2, cell_lay hL x0, cell_lay hL x1, cell_lay hL x2⟩) ((go_at_call 83; refine (rless_any q p _).mono ?_; rintro e w3 ⟨rfl, hL⟩; rw [hless]))
          go_wp2_with fail
          go_roundw
          case rel =>
            refine ⟨a + 1, by go_num, by omega, fun j q' hj hq' => ?_, HL.out.2.1.trans _ _ _ ((below_drew wr).trans hL.below)⟩
            rcases Nat.lt_or_ge j a with h | h
            · exact HL.out.1 j q' h hq'
            · have hja : j = a := by omega
              subst hja
              rw [HL.out.2.2] at hq'
              cases hq'
              exact HLS.out
          case measure => simp [intOf]; omega
      · have hae : a = n := by omega
        have HL := hide (And.intro hlo (And.intro hR hae))
        clear hlo hR hbx hae
        go_wp2_with fail
        go_meet
        case rel => exact ⟨a, rfl, ha, HL.out.1, (fun q' hq' => by rw [HL.out.2.2, HS.out.2.2.2, List.getElem?_eq_none (Nat.le_refl _)] at hq'; cases hq'), HL.out.2.1⟩
  case rest =>
    obtain ⟨a, rfl, ha, hlo, hhi, hR⟩ := hcut
    have hat : a = atP l p := atP_eq (by rw [← HS.out.2.2.2]; exact ha) hlo hhi
    have hbx := HX.out.2.1.below hR HX.out.2.1.lt
    have hszR := hR.size
    obtain ⟨x0, x1, x2⟩ := hbx.three8
    have hbw : Below w.heap.size w wc := HX.out.1.trans (hR.mono (by omega))
    have hsl : Sl encP 3 wc w.heap.size A l := HS.out.1.below hbw
    have HA := hide (And.intro hat (And.intro hbw (And.intro hsl hbx)))
    clear hat hlo hhi hR hbw hsl
    by_cases hla : a < n
    · have i2 : (a : Int) < (n : Int) := by omega
      obtain ⟨q, hq⟩ : ∃ q, l[a]? = some q := ⟨_, List.getElem?_eq_getElem (by rw [← HS.out.2.2.2]; exact hla)⟩
      have heq := eqP q p (HS.out.2.2.1 q (List.mem_of_getElem? hq)) HS.out.2.1
      obtain ⟨bp, op, hAp, hbp, hcq⟩ := HA.out.2.2.1.at hq
      subst hAp
      have hwq : withP l p = if q = p then l else l.take a ++ (p :: l.drop a) := by
        unfold withP
        rw [← HA.out.1, hq]
        simp
      obtain ⟨k0, k1, k2⟩ := HA.out.2.2.1.pt8 hq
      have hd : decide (a < n) = true := decide_eq_true hla
      have HQ := hide hwq
      clear hq hcq hwq
      by_cases hqp : q = p
      · have hdq : decide (q = p) = true := decide_eq_true hqp
        rw [hdq] at heq
        have HE := hide hqp
        clear hqp hdq
        go_wp2_with fail
        go_quiet (fail)
        go_wp2
        go_ret
        have hww : withP l p = l := by rw [HQ.out, if_pos HE.out]
        rw [hww, ← HS.out.2.2.2]
        have hbW : Below w.heap.size w (wc.drewN nq) := below_drewN HA.out.2.1 _
        exact ⟨_, c, rfl, (HS.out.1.below hbW).more hbW.size, hc, hbW⟩
      · have hdq : decide (q = p) = false := decide_eq_false hqp
        rw [hdq] at heq
        have hww : withP l p = l.take a ++ (p :: l.drop a) := by rw [HQ.out, if_neg hqp]
        have HE := hide hww
        clear hqp hdq hww
        go_wp2_with fail
        go_quiet (fail)
        obtain ⟨W, hW⟩ : ∃ W, W = wc.drewN nq := ⟨_, rfl⟩
        have hbW : Below w.heap.size w W := by rw [hW]; exact below_drewN HA.out.2.1 _
        have hslW : Sl encP 3 W w.heap.size (some ⟨bp, op, none⟩) l := HS.out.1.below hbW
        have hbxW : Blk W w.heap.size 41 #[.int .i64 p.1, .int .i64 p.2.1, .int .i64 p.2.2] := by rw [hW]; exact HA.out.2.2.2.drewN _
        have hzW := hbW.size
        have hzW1 := hbxW.lt
        have hta : (l.take a).length = a := by rw [List.length_take]; have := HS.out.2.2.2; omega
        have htd : (l.drop a).length = n - a := by rw [List.length_drop, ← HS.out.2.2.2]
        have hrunH : ∀ V : World, (Instr.slice 34 (.slice (some ⟨bp, op, none⟩) n c) none (some (.int .i64 a)) none).run Tryz.prog V = .ok (.slice (some ⟨bp, op, none⟩) a c) V := fun V => run_cutH Tryz.underlying34 Tryz.sizeOf41 ha hc V
        have hrunL : ∀ V : World, (Instr.slice 34 (.slice (some ⟨bp, op, none⟩) n c) (some (.int .i64 a)) none none).run Tryz.prog V = .ok (.slice (cutA (some ⟨bp, op, none⟩) c a 3) (n - a) (c - a)) V := fun V => run_cut Tryz.underlying34 Tryz.sizeOf41 ha V
        have hslT : Sl encP 3 W w.heap.size (some ⟨bp, op, none⟩) (l.take a) := hslW.take8 a
        have hslD : Sl encP 3 W w.heap.size (cutA (some ⟨bp, op, none⟩) c a 3) (l.drop a) := hslW.cut (by rw [← HS.out.2.2.2]; exact ha) (by rw [← HS.out.2.2.2]; exact hc)
        obtain ⟨x0', x1', x2'⟩ := hbxW.three8
        have HT := hide (And.intro hbW (And.intro hslT (And.intro hslD (And.intro hbxW (And.intro hta (And.intro htd hW))))))
        rw [← hW]
        clear hbW hslW hbxW hta htd hslT hslD hW
        go_upto_region 10 with (at_builtin; refine wpList_appendS rfl _ _ _ rfl Tryz.underlying34 infoPt rfl (by omega) encP_len encP_one rfl (Own.nil (base := W.heap.size)) (some ⟨bp, op, none⟩) c w.heap.size (l.take a) (by rw [HT.out.2.2.2.2.1]; rfl) HT.out.2.1 (by rw [HT.out.2.2.2.2.1]; unfold maxLen; omega) (by rw [HT.out.2.2.2.2.1]; omega) (Nat.le_refl _) ?_; intro v1 w1 hown1 hg1 hB1 hat1; rw [HT.out.2.2.2.2.1, Nat.zero_add, List.nil_append] at hown1; obtain ⟨A1, c1, rfl⟩ := hown1.form)
        have y0 := (hB1.cell (p := ⟨w.heap.size, 0, none⟩) hzW1).trans x0'
        have y1 := (hB1.cell (p := ⟨w.heap.size, 1, none⟩) hzW1).trans x1'
        have y2 := (hB1.cell (p := ⟨w.heap.size, 2, none⟩) hzW1).trans x2'
        have HO1 := hide (And.intro hown1 hB1)
        have hz1 := hB1.size
        have hown1' := hown1.alloc (.cells #[.int .i64 p.1, .int .i64 p.2.1, .int .i64 p.2.2] 41)
        clear hown1 hg1 hB1 hat1 x0' x1' x2'
        go_upto_region 11 with (at_builtin; refine wpList_append1 rfl _ _ _ rfl Tryz.underlying34 infoPt rfl (by omega) encP_len encP_one rfl hown1' w1.heap.size 1 p rfl (Blk.new _ _ _) (by unfold maxLen; omega) (by omega) (by simp; omega) ?_; intro g2 cap2 w2 hown2 hg2 hB2 hat2 hgb2 hlt2)
        have hB12 : Below W.heap.size W w2 := HO1.out.2.trans (((Below.refl _ w1).alloc (by omega) _).trans hB2)
        have hz2 := hB12.size
        have HO2 := hide (And.intro hown2 (And.intro hB12 (HT.out.2.2.1.below (hB12.mono hzW))))
        clear hown2 hg2 hB2 hat2 hown1' hB12 y0 y1 y2
        go_wp2_with (at_builtin; refine wpList_appendS rfl _ _ _ rfl Tryz.underlying34 infoPt rfl (by omega) encP_len encP_one rfl HO2.out.1 (cutA (some ⟨bp, op, none⟩) c a 3) (c - a) w.heap.size (l.drop a) (by rw [HT.out.2.2.2.2.2.1]; rfl) HO2.out.2.2 (by rw [HT.out.2.2.2.2.2.1]; unfold maxLen; omega) (by rw [HT.out.2.2.2.2.2.1]; omega) hz2 ?_; intro v3 w3 hown3 hg3 hB3 hat3; obtain ⟨A3, c3, rfl⟩ := hown3.form)
        go_ret
        have hlen : a + 1 + (l.drop a).length = (withP l p).length := by rw [hown3.1, HE.out]; simp
        have hfin : Below w.heap.size w w3 := HT.out.1.trans ((HO2.out.2.1.mono hzW).trans (hB3.mono hzW))
        rw [List.append_assoc, List.singleton_append, ← HE.out] at hown3
        refine ⟨A3, c3, ?_, hown3.sl encP_len (Nat.le_refl _), ?_, hfin⟩
        · rw [← hlen, List.length_drop]; rfl
        · rw [← hlen]; exact hown3.place.1
    · have hd : decide (a < n) = false := decide_eq_false hla
      have hww : withP l p = l.take a ++ (p :: l.drop a) := by
        unfold withP
        rw [← HA.out.1, List.getElem?_eq_none (by rw [← HS.out.2.2.2]; omega), if_neg (by simp)]
      have HE := hide hww
      clear hww
      go_wp2_with fail
      go_quiet (fail)
      obtain ⟨W, hW⟩ : ∃ W, W = wc.drewN nq := ⟨_, rfl⟩
      have hbW : Below w.heap.size w W := by rw [hW]; exact below_drewN HA.out.2.1 _
      have hslW : Sl encP 3 W w.heap.size A l := HS.out.1.below hbW
      have hbxW : Blk W w.heap.size 41 #[.int .i64 p.1, .int .i64 p.2.1, .int .i64 p.2.2] := by rw [hW]; exact HA.out.2.2.2.drewN _
      have hzW := hbW.size
      have hzW1 := hbxW.lt
      have hta : (l.take a).length = a := by rw [List.length_take]; have := HS.out.2.2.2; omega
      have htd : (l.drop a).length = n - a := by rw [List.length_drop, ← HS.out.2.2.2]
      have hrunH : ∀ V : World, (Instr.slice 34 (.slice A n c) none (some (.int .i64 a)) none).run Tryz.prog V = .ok (.slice A a c) V := fun V => run_cutH Tryz.underlying34 Tryz.sizeOf41 ha hc V
      have hrunL : ∀ V : World, (Instr.slice 34 (.slice A n c) (some (.int .i64 a)) none none).run Tryz.prog V = .ok (.slice (cutA A c a 3) (n - a) (c - a)) V := fun V => run_cut Tryz.underlying34 Tryz.sizeOf41 ha V
      have hslT : Sl encP 3 W w.heap.size A (l.take a) := hslW.take8 a
      have hslD : Sl encP 3 W w.heap.size (cutA A c a 3) (l.drop a) := hslW.cut (by rw [← HS.out.2.2.2]; exact ha) (by rw [← HS.out.2.2.2]; exact hc)
      obtain ⟨x0', x1', x2'⟩ := hbxW.three8
      have HT := hide (And.intro hbW (And.intro hslT (And.intro hslD (And.intro hbxW (And.intro hta (And.intro htd hW))))))
      rw [← hW]
      clear hbW hslW hbxW hta htd hslT hslD hW
      go_upto_region 10 with (at_builtin; refine wpList_appendS rfl _ _ _ rfl Tryz.underlying34 infoPt rfl (by omega) encP_len encP_one rfl (Own.nil (base := W.heap.size)) A c w.heap.size (l.take a) (by rw [HT.out.2.2.2.2.1]; rfl) HT.out.2.1 (by rw [HT.out.2.2.2.2.1]; unfold maxLen; omega) (by rw [HT.out.2.2.2.2.1]; omega) (Nat.le_refl _) ?_; intro v1 w1 hown1 hg1 hB1 hat1; rw [HT.out.2.2.2.2.1, Nat.zero_add, List.nil_append] at hown1; obtain ⟨A1, c1, rfl⟩ := hown1.form)
      have y0 := (hB1.cell (p := ⟨w.heap.size, 0, none⟩) hzW1).trans x0'
      have y1 := (hB1.cell (p := ⟨w.heap.size, 1, none⟩) hzW1).trans x1'
      have y2 := (hB1.cell (p := ⟨w.heap.size, 2, none⟩) hzW1).trans x2'
      have HO1 := hide (And.intro hown1 hB1)
      have hz1 := hB1.size
      have hown1' := hown1.alloc (.cells #[.int .i64 p.1, .int .i64 p.2.1, .int .i64 p.2.2] 41)
      clear hown1 hg1 hB1 hat1 x0' x1' x2'
      go_upto_region 11 with (at_builtin; refine wpList_append1 rfl _ _ _ rfl Tryz.underlying34 infoPt rfl (by omega) encP_len encP_one rfl hown1' w1.heap.size 1 p rfl (Blk.new _ _ _) (by unfold maxLen; omega) (by omega) (by simp; omega) ?_; intro g2 cap2 w2 hown2 hg2 hB2 hat2 hgb2 hlt2)
      have hB12 : Below W.heap.size W w2 := HO1.out.2.trans (((Below.refl _ w1).alloc (by omega) _).trans hB2)
      have hz2 := hB12.size
      have HO2 := hide (And.intro hown2 (And.intro hB12 (HT.out.2.2.1.below (hB12.mono hzW))))
      clear hown2 hg2 hB2 hat2 hown1' hB12 y0 y1 y2
      go_wp2_with (at_builtin; refine wpList_appendS rfl _ _ _ rfl Tryz.underlying34 infoPt rfl (by omega) encP_len encP_one rfl HO2.out.1 (cutA A c a 3) (c - a) w.heap.size (l.drop a) (by rw [HT.out.2.2.2.2.2.1]; rfl) HO2.out.2.2 (by rw [HT.out.2.2.2.2.2.1]; unfold maxLen; omega) (by rw [HT.out.2.2.2.2.2.1]; omega) hz2 ?_; intro v3 w3 hown3 hg3 hB3 hat3; obtain ⟨A3, c3, rfl⟩ := hown3.form)
      go_ret
      have hlen : a + 1 + (l.drop a).length = (withP l p).length := by rw [hown3.1, HE.out]; simp
      have hfin : Below w.heap.size w w3 := HT.out.1.trans ((HO2.out.2.1.mono hzW).trans (hB3.mono hzW))
      rw [List.append_assoc, List.singleton_append, ← HE.out] at hown3
      refine ⟨A3, c3, ?_, hown3.sl encP_len (Nat.le_refl _), ?_, hfin⟩
      · rw [← hlen, List.length_drop]; rfl
      · rw [← hlen]; exact hown3.place.1
end Go.Proofs.YtelfnmohpjkilaaGreatDoor
/- ref04.Corners. -/
namespace Go.Proofs.YtelfnmohpjkilaaGreatDoor
open Go.RowKit Go.Sort
def corN (l : List Pt) (t : Tri) (j : Nat) : List Pt := if j = 0 then l else if j = 1 then withP l t.1 else if j = 2 then withP (withP l t.1) t.2.1 else withP (withP (withP l t.1) t.2.1) t.2.2
theorem corN_succ (l : List Pt) (t : Tri) {j : Nat} (hj : j < 3) : withP (corN l t j) (corner t j) = corN l t (j + 1) := by
  have hc : j = 0 ∨ j = 1 ∨ j = 2 := by omega
  rcases hc with rfl | rfl | rfl <;> rfl
/-- The corners of triangles, each once, in order. -/
def cornersP (ts : List Tri) : List Pt := ts.foldl (fun l t => corN l t 3) []
theorem cornersP_snoc (ts : List Tri) (k : Nat) (t : Tri) (h : ts[k]? = some t) : cornersP (ts.take (k + 1)) = corN (cornersP (ts.take k)) t 3 := by
  unfold cornersP
  rw [List.take_add_one, h, Option.toList_some, List.foldl_append]
  rfl
theorem corner_fits {t : Tri} (h : fitsT t) (j : Nat) : fitsP (corner t j) := by
  unfold corner
  split
  · exact h.1
  · split
    · exact h.2.1
    · exact h.2.2
theorem CellsT.corner8 {w : World} {b o : Nat} {t : Tri} (h : CellsT w b o t) {j : Nat} (hj : j < 3) :
    w.cell? ⟨b, o + j * 3, none⟩ = some (.int .i64 (corner t j).1) ∧ w.cell? ⟨b, o + j * 3 + 1, none⟩ = some (.int .i64 (corner t j).2.1) ∧ w.cell? ⟨b, o + j * 3 + 2, none⟩ = some (.int .i64 (corner t j).2.2) := by
  obtain ⟨h0, h1, h2, h3, h4, h5, h6, h7, h8⟩ := h
  have hc : j = 0 ∨ j = 1 ∨ j = 2 := by omega
  rcases hc with rfl | rfl | rfl
  · exact ⟨h0, h1, h2⟩
  · exact ⟨h3, h4, h5⟩
  · exact ⟨h6, h7, h8⟩
set_option maxRecDepth 100000 in
set_option maxHeartbeats 8000000 in
theorem corners_any (A : Option Addr) (c : Nat) (ts : List Tri) (w : World) (hs : Sl encT 9 w w.heap.size A ts) (hl : ts.length ≤ 1073741824) (hf : ∀ t ∈ ts, fitsT t) :
    Calls Tryz.prog 20 #[.slice A ts.length c] w fun e w' => ∃ A' c', e = .returned (.slice A' (cornersP ts).length c') ∧ Sl encP 3 w' w'.heap.size A' (cornersP ts) ∧ (cornersP ts).length ≤ c' ∧ Below w.heap.size w w' ∧ ∀ p ∈ cornersP ts, fitsP p := by
  obtain ⟨n, hn⟩ : ∃ n, n = ts.length := ⟨_, rfl⟩
  rw [← hn] at hl ⊢
  have HS := hide (And.intro hs (And.intro hf hn))
  clear hs hf hn
  go_enter Tryz.func20, Tryz.ntmps20
  go_wp2
  go_loopw [3, 4] (fun v iv wr => ∃ (k : Nat) (A' : Option Addr) (l c' : Nat), k ≤ n ∧ iv = .int .i64 k ∧ v = .slice A' l c' ∧ l = (cornersP (ts.take k)).length ∧ l ≤ 3 * k ∧ Sl encP 3 wr wr.heap.size A' (cornersP (ts.take k)) ∧ l ≤ c' ∧ (∀ p ∈ cornersP (ts.take k), fitsP p) ∧ Below w.heap.size w wr) (fun _ iv _ => n - (intOf iv).toNat)
  case atStart => exact ⟨0, none, 0, 0, by omega, rfl, rfl, rfl, by omega, .inl ⟨rfl, rfl⟩, Nat.le_refl _, fun p hp => absurd hp (by simp [cornersP]), Below.refl _ w⟩
  case round =>
    obtain ⟨k, A1, l1, c1, hk, rfl, rfl, hl1, hl3, hs1, hc1, hf1, hB⟩ := hrel
    have hz := hB.size
    by_cases hlt : k < n
    · obtain ⟨t, ht⟩ : ∃ t, ts[k]? = some t := ⟨_, List.getElem?_eq_getElem (by rw [← HS.out.2.2]; exact hlt)⟩
      have i1 : (k : Int) < (n : Int) := by omega
      have HK := hide (And.intro hl1 (And.intro hs1 (And.intro hf1 (And.intro hB (And.intro ht (HS.out.2.1 t (List.mem_of_getElem? ht)))))))
      clear hl1 hs1 hf1 hB ht
      go_wp2
      go_loopw [3, 5] (fun v jv wx => ∃ (j : Nat) (A' : Option Addr) (l c' : Nat), j ≤ 3 ∧ jv = .int .i64 j ∧ v = .slice A' l c' ∧ l = (corN (cornersP (ts.take k)) t j).length ∧ l ≤ 3 * k + j ∧ Sl encP 3 wx wx.heap.size A' (corN (cornersP (ts.take k)) t j) ∧ l ≤ c' ∧ (∀ p ∈ corN (cornersP (ts.take k)) t j, fitsP p) ∧ Below w.heap.size w wx) (fun _ jv _ => 3 - (intOf jv).toNat)
      case atStart => exact ⟨0, A1, l1, c1, by omega, rfl, rfl, HK.out.1, by omega, HK.out.2.1, hc1, HK.out.2.2.1, HK.out.2.2.2.1⟩
      case round =>
        obtain ⟨j, A2, l2, c2, hj, rfl, rfl, hl2, hl4, hs2, hc2, hf2, hB2⟩ := hrel
        have hz2 := hB2.size
        by_cases hlt2 : j < 3
        · have i2 : (j : Int) < 3 := by omega
          obtain ⟨b, o, hA, hb, hct⟩ := (HS.out.1.below hB2).tri HK.out.2.2.2.2.1
          subst hA
          obtain ⟨g0, g1, g2⟩ := hct.corner8 hlt2
          have hfp := corner_fits HK.out.2.2.2.2.2 j
          have hcal := with_any A2 c2 (corN (cornersP (ts.take k)) t j) (corner t j) wr hs2 (by omega) (by omega) hfp hf2
          rw [corN_succ _ _ hlt2, ← hl2] at hcal
          have hwl := withP_length (corN (cornersP (ts.take k)) t j) (corner t j)
          rw [corN_succ _ _ hlt2, ← hl2] at hwl
          have hfn : ∀ p ∈ corN (cornersP (ts.take k)) t (j + 1), fitsP p := fun p hp => by
            rw [← corN_succ _ _ hlt2] at hp
            rcases withP_mem hp with h | h
            · exact hf2 p h
            · rw [h]; exact hfp
          have HJ := hide (And.intro hcal (And.intro hwl (And.intro hfn hB2)))
          clear hct hcal hwl hfn hs2 hf2 hB2 hl2 hfp
          go_wp2_with fail
          refine HJ.out.1.mono ?_
          rintro e w3 ⟨A3, c3, rfl, hs3, hc3, hB3⟩
          obtain ⟨l3, hl3'⟩ : ∃ l3, l3 = (corN (cornersP (ts.take k)) t (j + 1)).length := ⟨_, rfl⟩
          rw [← hl3'] at hc3 ⊢
          have HR := hide (And.intro hs3 (And.intro hl3' hB3))
          clear hs3 hl3' hB3 g0 g1 g2
          go_wp2_with fail
          go_roundw
          case rel => exact ⟨j + 1, A3, l3, c3, by omega, by go_num, rfl, HR.out.2.1, by have := HJ.out.2.1; have := HR.out.2.1; omega, HR.out.1, hc3, HJ.out.2.2.1, HJ.out.2.2.2.trans (HR.out.2.2.mono hz2)⟩
          case measure => simp [intOf]; omega
        · have hj3 : j = 3 := by omega
          subst hj3
          have HJ := hide (And.intro hl2 (And.intro hs2 (And.intro hf2 hB2)))
          clear hl2 hs2 hf2 hB2
          go_wp2
          go_roundw
          case rel => exact ⟨k + 1, A2, l2, c2, by omega, by go_num, rfl, by rw [cornersP_snoc _ _ _ HK.out.2.2.2.2.1]; exact HJ.out.1, by omega, by rw [cornersP_snoc _ _ _ HK.out.2.2.2.2.1]; exact HJ.out.2.1, hc2, by rw [cornersP_snoc _ _ _ HK.out.2.2.2.2.1]; exact HJ.out.2.2.1, HJ.out.2.2.2⟩
          case measure => simp [intOf]; omega
    · have hke : k = ts.length := by rw [← HS.out.2.2]; omega
      rw [hke, List.take_length] at hl1 hs1 hf1
      have hkn : n = k := by omega
      have HE := hide (And.intro hl1 (And.intro hs1 (And.intro hf1 hB)))
      clear hl1 hs1 hf1 hB hke
      subst hkn
      go_wp2
      go_ret
      exact ⟨A1, c1, by rw [← HE.out.1]; rfl, HE.out.2.1, by rw [← HE.out.1]; exact hc1, HE.out.2.2.2, HE.out.2.2.1⟩
end Go.Proofs.YtelfnmohpjkilaaGreatDoor
/- ref04.Edges, count, lessEdge. -/
namespace Go.Proofs.YtelfnmohpjkilaaGreatDoor
open Go.RowKit Go.Sort
abbrev Ed := Pt × Pt
def encE (e : Ed) : List Value := [.int .i64 e.1.1, .int .i64 e.1.2.1, .int .i64 e.1.2.2, .int .i64 e.2.1, .int .i64 e.2.2.1, .int .i64 e.2.2.2]
abbrev vE (e : Ed) : Value := .agg #[.int .i64 e.1.1, .int .i64 e.1.2.1, .int .i64 e.1.2.2, .int .i64 e.2.1, .int .i64 e.2.2.1, .int .i64 e.2.2.2]
theorem encE_len (e : Ed) : (encE e).length = 6 := rfl
theorem encE_one (e : Ed) : ∀ u ∈ encE e, u.oneCell' = true := by
  intro u hu
  simp only [encE, List.mem_cons, List.not_mem_nil, or_false] at hu
  rcases hu with rfl | rfl | rfl | rfl | rfl | rfl <;> rfl
theorem infoE : (Tryz.prog.info? 62).map (fun i => (i.zero, i.size, i.bytes)) = some (some (.agg #[.int .i64 0, .int .i64 0, .int .i64 0, .int .i64 0, .int .i64 0, .int .i64 0]), 6, 48) := by kernel_rfl
def fitsE (e : Ed) : Prop := fitsP e.1 ∧ fitsP e.2
set_option maxRecDepth 100000 in
theorem litsE (e : Ed) (he : fitsE e) : Tryz.prog.keyLits 3 62 (encE e) = some [.int .i64 e.1.1, .int .i64 e.1.2.1, .int .i64 e.1.2.2, .int .i64 e.2.1, .int .i64 e.2.2.1, .int .i64 e.2.2.2] := by
  have c : Tryz.prog.cellsOf 41 = 3 := by kernel_rfl
  have c9 : Tryz.prog.cellsOf 62 = 6 := by kernel_rfl
  have h0 := litsP e.1 he.1
  have h1 := litsP e.2 he.2
  unfold Program.keyLits
  simp [encE, Tryz.underlying62, c, c9, List.range_succ, h0, h1]
set_option maxRecDepth 100000 in
theorem eqE (a b : Ed) (ha : fitsE a) (hb : fitsE b) (w : World) : (Op.equalIn 10000 62 (vE a) (vE b)).run Tryz.prog w = .ok (decide (a = b)) w := by
  have c : Tryz.prog.cellsOf 62 = 6 := by kernel_rfl
  obtain ⟨r, hr, he⟩ := run_equalIn_deep (P := Tryz.prog) 9997 3 62 (by kernel_rfl) w 3 3 (vE a) (vE b) _ _ (by simp [Value.formed, Tryz.underlying62, c]) (by simp [Value.formed, Tryz.underlying62, c]) (litsE a ha) (litsE b hb)
  rw [hr]
  have : r = decide (a = b) := by
    rw [Bool.eq_iff_iff, he]
    obtain ⟨⟨a1, a2, a3⟩, a4, a5, a6⟩ := a
    obtain ⟨⟨b1, b2, b3⟩, b4, b5, b6⟩ := b
    simp [and_assoc]
  rw [this]
section
variable {α : Type} {enc : α → List Value} {k B : Nat}
theorem Sl.of_blk (hk : ∀ x, (enc x).length = k) {w : World} {g : Nat} {t : TypeId} {ys : List α} (h : Blk w g t (ys.flatMap enc).toArray) (hg : g < B) : Sl enc k w B (some ⟨g, 0, none⟩) ys := by
  refine .inr ⟨g, 0, rfl, hg, fun i x hi j u hu => ?_⟩
  rw [show 0 + i * k + j = i * k + j by omega, h.cell]
  have := flat_get hk ys i x hi j u hu
  simpa using this
end
/-- The edges of a triangle, of triangles. -/
def edges3 (t : Tri) : List Ed := [(t.1, t.2.1), (t.2.1, t.2.2), (t.2.2, t.1)]
def edgesP (ts : List Tri) : List Ed := ts.flatMap edges3
theorem edgesP_length (ts : List Tri) : (edgesP ts).length = 3 * ts.length := by
  unfold edgesP
  induction ts with
  | nil => rfl
  | cons t ts ih => rw [List.flatMap_cons, List.length_append, ih, List.length_cons]; simp [edges3]; omega
theorem edgesP_snoc (ts : List Tri) (k : Nat) (t : Tri) (h : ts[k]? = some t) : edgesP (ts.take (k + 1)) = edgesP (ts.take k) ++ edges3 t := by
  unfold edgesP
  rw [List.take_add_one, h, Option.toList_some, List.flatMap_append, List.flatMap_singleton]
theorem edgesP_fits {ts : List Tri} (h : ∀ t ∈ ts, fitsT t) : ∀ e ∈ edgesP ts, fitsE e := by
  intro e he
  obtain ⟨t, ht, he⟩ := List.mem_flatMap.1 he
  have hf := h t ht
  simp only [edges3, List.mem_cons, List.not_mem_nil, or_false] at he
  rcases he with rfl | rfl | rfl
  · exact ⟨hf.1, hf.2.1⟩
  · exact ⟨hf.2.1, hf.2.2⟩
  · exact ⟨hf.2.2, hf.1⟩
set_option maxRecDepth 100000 in
set_option maxHeartbeats 8000000 in
theorem edges_any (A : Option Addr) (c : Nat) (ts : List Tri) (w : World) (hs : Sl encT 9 w w.heap.size A ts) (hl : ts.length ≤ 1073741824) :
    Calls Tryz.prog 53 #[.slice A ts.length c] w fun e w' => ∃ v, e = .returned v ∧ Own encE 6 62 w' w.heap.size v (edgesP ts).length (edgesP ts) ∧ Below w.heap.size w w' := by
  obtain ⟨n, hn⟩ : ∃ n, n = ts.length := ⟨_, rfl⟩
  rw [← hn] at hl ⊢
  have HS := hide (And.intro hs hn)
  clear hs hn
  go_enter Tryz.func53, Tryz.ntmps53
  go_wp2
  go_loopw [3, 4] (fun v iv wr => ∃ k : Nat, k ≤ n ∧ iv = .int .i64 k ∧ Own encE 6 62 wr w.heap.size v (3 * k) (edgesP (ts.take k)) ∧ Below w.heap.size w wr) (fun _ iv _ => n - (intOf iv).toNat)
  case atStart => exact ⟨0, by omega, rfl, Own.nil, Below.refl _ w⟩
  case round =>
    obtain ⟨k, hk, rfl, hown, hB⟩ := hrel
    obtain ⟨A1, c1, rfl⟩ := hown.form
    have hz := hB.size
    by_cases hlt : k < n
    · obtain ⟨t, ht⟩ : ∃ t, ts[k]? = some t := ⟨_, List.getElem?_eq_getElem (by rw [← HS.out.2]; exact hlt)⟩
      have i1 : (k : Int) < (n : Int) := by omega
      obtain ⟨b, o, hA, hb, g0, g1, g2, g3, g4, g5, g6, g7, g8⟩ := (HS.out.1.below hB).tri ht
      subst hA
      have HK := hide (And.intro hown (And.intro hB ht))
      have hown1 := (hown.alloc (.cells (encT t).toArray 58)).alloc (.cells (edges3 t |>.flatMap encE).toArray 62)
      clear hown hB ht
      go_wp2_with (at_builtin; refine wpList_appendS rfl _ _ _ rfl Tryz.underlying37 infoE rfl (by omega) encE_len encE_one rfl hown1 (some ⟨wr.heap.size + 1, 0, none⟩) 3 (wr.heap.size + 2) (edges3 t) rfl (Sl.of_blk encE_len (Blk.new' _ _ _ _ (by simp)) (by omega)) (by unfold maxLen; simp [edges3]; omega) (by simp [edges3]; omega) (by simp; omega) ?_; intro v2 w2 hown2 hg2 hB2 hat2)
      go_roundw
      case rel => exact ⟨k + 1, by omega, by go_num, by rw [edgesP_snoc _ _ _ HK.out.2.2]; exact hown2, ((HK.out.2.1.alloc (by omega) _).alloc (by simp; omega) _).trans hB2⟩
      case measure => simp [intOf]; omega
    · have hke : k = ts.length := by rw [← HS.out.2]; omega
      have hle := edgesP_length ts
      rw [hke, List.take_length, ← hle] at hown
      have hkn : n = k := by omega
      have HE := hide (And.intro hown (And.intro hB hle))
      clear hown hB hle hke
      subst hkn
      go_wp2
      go_ret
      exact ⟨_, by rw [show 3 * n = (edgesP ts).length by rw [HE.out.2.2, ← HS.out.2]]; rfl, HE.out.1, HE.out.2.1⟩
end Go.Proofs.YtelfnmohpjkilaaGreatDoor
/- ref04.quad. -/
namespace Go.Proofs.YtelfnmohpjkilaaGreatDoor
open Go.RowKit Go.Sort
set_option maxRecDepth 100000 in
set_option maxHeartbeats 8000000 in
theorem quad_any (a b c d : Pt) (w : World) : Calls Tryz.prog 79 #[vP a, vP b, vP c, vP d] w fun e w' => ∃ v, e = .returned v ∧ Own encT 9 58 w' w.heap.size v 2 (quadP a b c d) ∧ Below w.heap.size w w' := by
  obtain ⟨a1, a2, a3⟩ := a
  obtain ⟨b1, b2, b3⟩ := b
  obtain ⟨c1, c2, c3⟩ := c
  obtain ⟨d1, d2, d3⟩ := d
  go_enter Tryz.func79, Tryz.ntmps79
  go_wp2
  go_ret
  refine ⟨.slice (some ⟨w.heap.size + 1 + 1 + 1 + 1, 0, none⟩) 2 2, rfl, own_lits' encT_len 58 (quadP (a1, a2, a3) (b1, b2, b3) (c1, c2, c3) (d1, d2, d3)) (by simp) (by omega) (show 2 ≤ 4294967296 by omega), ?_⟩
  exact Below.alloc (Below.alloc (Below.alloc (Below.alloc (Below.alloc (Below.refl _ w) (Nat.le_refl _) _) (by simp) _) (by simp; omega) _) (by simp; omega) _) (by simp; omega) _
end Go.Proofs.YtelfnmohpjkilaaGreatDoor
/- ref04.hill. -/
namespace Go.Proofs.YtelfnmohpjkilaaGreatDoor
open Go.RowKit Go.Sort
/-- Numbers as elements. -/
def encZ4 (x : Int) : List Value := [.int .i64 x]
theorem encZ4_len (x : Int) : (encZ4 x).length = 1 := rfl
set_option maxRecDepth 100000 in
set_option maxHeartbeats 16000000 in
theorem hill_any (x y : Nat) (hx : x ≤ 6) (hy : y ≤ 6) (A : Option Addr) (c : Nat) (ns : List Int) (w : World) (hs : ns ≠ [] → Sl encZ4 1 w w.heap.size A ns) (hl : ns.length ≤ 49) (hf : ∀ n ∈ ns, fits n) :
    Calls Tryz.prog 78 #[.int .i64 x, .int .i64 y, .int .i64 8, .slice A ns.length c] w fun e w' => ∃ p, e = .returned (vP p) ∧ fitsP p ∧ Below w.heap.size w w' := by
  obtain ⟨M, hM⟩ : ∃ M, M = ns.length := ⟨_, rfl⟩
  rw [← hM] at hl ⊢
  have HS := hide (And.intro hs (And.intro hf hM))
  clear hs hf hM
  go_enter Tryz.func78, Tryz.ntmps78
  go_upto_if 12 with fail
  obtain ⟨pb, hpb⟩ : ∃ g, g = w.heap.size := ⟨_, rfl⟩
  obtain ⟨X, hX⟩ : ∃ X, X = w.alloc (.cells #[.int .i64 0, .int .i64 0, .int .i64 0] 41) := ⟨_, rfl⟩
  rw [← hX, ← hpb]
  have hbp : Blk X pb 41 #[.int .i64 0, .int .i64 0, .int .i64 0] := by rw [hX, hpb]; exact Blk.new _ _ _
  have hBX : Below w.heap.size w X := by rw [hX]; exact (Below.refl _ w).alloc (Nat.le_refl _) _
  have HX := hide (And.intro hbp (And.intro hBX (show w.heap.size ≤ pb by omega)))
  clear hbp hBX hX hpb
  go_cut [9] (fun v wx => ∃ h : Int, v = .int .i64 h ∧ (0 ≤ h ∧ h < 64) ∧ Below X.heap.size X wx)
  case first =>
    by_cases hM0 : 0 < M
    · have i1 : (0 : Int) < (M : Int) := by omega
      obtain ⟨j, hj⟩ : ∃ j, j = (y * 7 + x) % M := ⟨_, rfl⟩
      have hjM : j < M := by rw [hj]; exact Nat.mod_lt _ hM0
      have e0 : (y : Int) * 7 + (x : Int) = ((y * 7 + x : Nat) : Int) := by omega
      have tm : ((y : Int) * 7 + (x : Int)) % (M : Int) = (j : Int) := by rw [e0, hj]; exact (Int.natCast_emod _ _).symm
      have tm2 : ((y : Int) * 7 + (x : Int)).tmod (M : Int) = (j : Int) := by rw [Int.tmod_eq_emod_of_nonneg (by omega)]; exact tm
      have hne : ns ≠ [] := fun h => by have := HS.out.2.2; rw [h] at this; simp at this; omega
      obtain ⟨q, hq⟩ : ∃ q, ns[j]? = some q := ⟨_, List.getElem?_eq_getElem (by rw [← HS.out.2.2]; exact hjM)⟩
      obtain ⟨ab, ao, hA0, hlt0, hc0⟩ := ((HS.out.1 hne).below HX.out.2.1).at hq
      have hc := hc0 0 _ rfl
      subst hA0
      have hM00 : ¬ M = 0 := by omega
      have i4 : ¬ (M : Int) = 0 := by omega
      rw [show ao + j * 1 + 0 = ao + j by omega] at hc
      have hmo := mod_any q 64 (by omega) (by omega) X
      have hmb := modC_bound q 64 (by omega)
      obtain ⟨h, hh⟩ : ∃ h, h = modC q 64 := ⟨_, rfl⟩
      rw [← hh] at hmo hmb
      have HM := hide (And.intro hmo hmb)
      clear hc0 hj hne hq e0 hmo hmb hh
      go_wp2_with (go_at_call 63; refine HM.out.1.mono ?_; rintro e W ⟨rfl, hW⟩; obtain rfl : X = W := hW.symm)
      go_meet
      case rel => exact ⟨_, rfl, HM.out.2, Below.refl _ X⟩
    · have i1 : ¬ (0 : Int) < (M : Int) := by omega
      go_wp2
      go_meet
      case rel => exact ⟨0, rfl, ⟨by omega, by omega⟩, Below.refl _ X⟩
  case rest =>
  obtain ⟨h, rfl, hh, hB⟩ := hcut
  obtain ⟨Y, rfl⟩ : ∃ W, W = wc := ⟨_, rfl⟩
  have hbY := HX.out.1.below hB HX.out.1.lt
  have f0 := hbY.frozen 0
  have f1 := hbY.frozen 1
  have f2 := hbY.frozen 2
  have c0 : Y.cell? ⟨pb, 0, none⟩ = some (.int .i64 0) := hbY.cell 0
  have c1 : Y.cell? ⟨pb, 1, none⟩ = some (.int .i64 0) := hbY.cell 1
  have c2 : Y.cell? ⟨pb, 2, none⟩ = some (.int .i64 0) := hbY.cell 2
  have hlt := hbY.lt
  have HY := hide (And.intro hbY (HX.out.2.1.trans (hB.mono HX.out.2.1.size)))
  clear hbY hB
  go_wp2
  refine ret_at (v := vP ((x : Int) * 8, (y : Int) * 8, 100 + h)) (fun W => Blk W pb 41 #[.int .i64 ((x : Int) * 8), .int .i64 ((y : Int) * 8), .int .i64 (100 + h)]) ?_ (fun W hW => ?_) rfl ⟨_, rfl, ?_, ?_⟩
  · exact HY.out.1.set3 _ _ _
  · obtain ⟨a0, a1, a2⟩ := hW.three
    simp [results, Tryz.results78, go_sem, a0, a1, a2]
  · unfold fitsP fits
    dsimp only
    omega
  · exact ((HY.out.2.setCell (p := ⟨pb, 0, none⟩) HX.out.2.2 _).setCell (p := ⟨pb, 1, none⟩) HX.out.2.2 _).setCell (p := ⟨pb, 2, none⟩) HX.out.2.2 _
end Go.Proofs.YtelfnmohpjkilaaGreatDoor
/- ref04.Hills (printed by mk_Hls.py). -/
namespace Go.Proofs.YtelfnmohpjkilaaGreatDoor
open Go.RowKit Go.Sort
theorem quad_fits {a b c d : Pt} (ha : fitsP a) (hb : fitsP b) (hc : fitsP c) (hd : fitsP d) : ∀ t ∈ quadP a b c d, fitsT t := by
  intro t ht
  simp only [quadP, List.mem_cons, List.not_mem_nil, or_false] at ht
  rcases ht with rfl | rfl
  · exact ⟨ha, hb, hc⟩
  · exact ⟨ha, hc, hd⟩
set_option maxRecDepth 100000 in
set_option maxHeartbeats 32000000 in
theorem hills_any (n0 : Nat) (A : Option Addr) (c : Nat) (ns : List Int) (w : World) (hs : ns ≠ [] → Sl encZ4 1 w w.heap.size A ns) (hl : ns.length ≤ 49) (hf : ∀ n ∈ ns, fits n) :
    Calls Tryz.prog 41 #[.int .i64 n0, .int .i64 8, .slice A ns.length c] w fun e w' => ∃ v L, e = .returned v ∧ Own encT 9 58 w' w.heap.size v L.length L ∧ L.length ≤ 72 ∧ (∀ t ∈ L, fitsT t) ∧ Below w.heap.size w w' := by
  have hmo := mod_any n0 6 (by omega) (by omega) w
  have hmb := modC_bound n0 6 (by omega)
  obtain ⟨m6, hm6⟩ : ∃ m : Nat, (m : Int) = modC n0 6 := ⟨(modC n0 6).toNat, by omega⟩
  rw [← hm6] at hmo hmb
  obtain ⟨K, hK⟩ : ∃ K, K = m6 + 1 := ⟨_, rfl⟩
  have hK6 : K ≤ 6 := by omega
  have e1 : 1 + (m6 : Int) = (K : Int) := by omega
  have hhill := fun (x y : Nat) (hx : x ≤ 6) (hy : y ≤ 6) W (hW : Below w.heap.size w W) => hill_any x y hx hy A c ns W (fun h => ((hs h).below hW).more hW.size) hl hf
  obtain ⟨M, hM⟩ : ∃ M, M = ns.length := ⟨_, rfl⟩
  simp only [← hM] at hhill ⊢
  have HH := hide hhill
  have HM := hide hmo
  clear hmo hhill hs hf hl hM hm6 hK
  go_enter Tryz.func41, Tryz.ntmps41
  go_upto_region 2 with (go_at_call 63; refine HM.out.mono ?_; rintro e W ⟨rfl, hW⟩; obtain rfl : w = W := hW.symm)
  go_wp2_with fail
  go_loopw [7, 8] (fun ov yv wr => ∃ (y m : Nat) (L : List Tri), y ≤ K ∧ yv = .int .i64 y ∧ Own encT 9 58 wr w.heap.size ov m L ∧ m ≤ 12 * y ∧ (∀ t ∈ L, fitsT t) ∧ Below w.heap.size w wr) (fun _ yv _ => K - (intOf yv).toNat)
  case atStart => exact ⟨0, 0, [], by omega, rfl, Own.nil, by omega, (fun t h => by cases h), Below.refl _ w⟩
  case round =>
    obtain ⟨y, m, L, hy, rfl, hown, hm, hfL, hB⟩ := hrel
    obtain ⟨V, rfl⟩ : ∃ x, x = wr := ⟨_, rfl⟩
    by_cases hlt : y < K
    · have i1 : (y : Int) < (K : Int) := by omega
      have HV := hide (And.intro hown (And.intro hfL hB))
      clear hown hfL hB
      go_wp2_with fail
      go_loopw [7, 9] (fun ov xv wr => ∃ (x m2 : Nat) (L : List Tri), x ≤ K ∧ xv = .int .i64 x ∧ Own encT 9 58 wr w.heap.size ov m2 L ∧ m2 ≤ 12 * y + 2 * x ∧ (∀ t ∈ L, fitsT t) ∧ Below w.heap.size w wr) (fun _ xv _ => K - (intOf xv).toNat)
      case atStart => exact ⟨0, m, L, by omega, rfl, HV.out.1, by omega, HV.out.2.1, HV.out.2.2⟩
      case round =>
        clear HV
        obtain ⟨x, m2, L2, hx, rfl, hown, hm2, hfL, hB⟩ := hrel
        obtain ⟨T0, rfl⟩ : ∃ x, x = wr := ⟨_, rfl⟩
        by_cases hlx : x < K
        · have i2 : (x : Int) < (K : Int) := by omega
          obtain ⟨x1, hx1⟩ : ∃ a, a = x + 1 := ⟨_, rfl⟩
          obtain ⟨y1, hy1⟩ : ∃ a, a = y + 1 := ⟨_, rfl⟩
          have e2 : (x : Int) + 1 = (x1 : Int) := by omega
          have e3 : (y : Int) + 1 = (y1 : Int) := by omega
          have bx1 : x1 ≤ 6 := by omega
          have by1 : y1 ≤ 6 := by omega
          clear hx1 hy1
          have HT0 := hide (And.intro hown (And.intro hfL hB))
          have HK0 := hide (show Below T0.heap.size T0 T0 ∧ True from ⟨Below.refl _ _, trivial⟩)
          clear hown hfL hB
          go_upto_region 10 with (go_at_call 78; refine (HH.out x y (by omega) (by omega) T0 (HT0.out.2.2.trans (HK0.out.1.mono HT0.out.2.2.size))).mono ?_; rintro e u0 ⟨⟨a1, a2, a3⟩, rfl, hfpa, hBa⟩; have HC0 := hide (And.intro hfpa hBa); clear hfpa hBa)
          obtain ⟨ga, hga⟩ : ∃ g, g = u0.heap.size := ⟨_, rfl⟩
          obtain ⟨T1, hT1⟩ : ∃ W, W = u0.alloc (.cells #[.int .i64 a1, .int .i64 a2, .int .i64 a3] 41) := ⟨_, rfl⟩
          rw [← hT1, ← hga]
          have hBn : Below T0.heap.size T0 T1 := by rw [hT1]; exact HC0.out.2.alloc HC0.out.2.size _
          have hbn : Blk T1 ga 41 #[.int .i64 a1, .int .i64 a2, .int .i64 a3] := by rw [hT1, hga]; exact Blk.new _ _ _
          have HK1 := hide (And.intro (HK0.out.1.trans (hBn.mono HK0.out.1.size)) (And.intro hbn trivial))
          clear hBn hbn hT1 hga 
          go_upto_region 11 with (go_at_call 78; refine (HH.out x1 y bx1 (by omega) T1 (HT0.out.2.2.trans (HK1.out.1.mono HT0.out.2.2.size))).mono ?_; rintro e u1 ⟨⟨b1, b2, b3⟩, rfl, hfpb, hBb⟩; have HC1 := hide (And.intro hfpb hBb); clear hfpb hBb)
          obtain ⟨gb, hgb⟩ : ∃ g, g = u1.heap.size := ⟨_, rfl⟩
          obtain ⟨T2, hT2⟩ : ∃ W, W = u1.alloc (.cells #[.int .i64 b1, .int .i64 b2, .int .i64 b3] 41) := ⟨_, rfl⟩
          rw [← hT2, ← hgb]
          have hBn : Below T1.heap.size T1 T2 := by rw [hT2]; exact HC1.out.2.alloc HC1.out.2.size _
          have hbn : Blk T2 gb 41 #[.int .i64 b1, .int .i64 b2, .int .i64 b3] := by rw [hT2, hgb]; exact Blk.new _ _ _
          have hba := HK1.out.2.1.below hBn HK1.out.2.1.lt
          have HK2 := hide (And.intro (HK1.out.1.trans (hBn.mono HK1.out.1.size)) (And.intro hba (And.intro hbn trivial)))
          clear hBn hbn hT2 hgb hba
          go_upto_region 12 with (go_at_call 78; refine (HH.out x1 y1 bx1 by1 T2 (HT0.out.2.2.trans (HK2.out.1.mono HT0.out.2.2.size))).mono ?_; rintro e u2 ⟨⟨c1, c2, c3⟩, rfl, hfpc, hBc⟩; have HC2 := hide (And.intro hfpc hBc); clear hfpc hBc)
          obtain ⟨gc, hgc⟩ : ∃ g, g = u2.heap.size := ⟨_, rfl⟩
          obtain ⟨T3, hT3⟩ : ∃ W, W = u2.alloc (.cells #[.int .i64 c1, .int .i64 c2, .int .i64 c3] 41) := ⟨_, rfl⟩
          rw [← hT3, ← hgc]
          have hBn : Below T2.heap.size T2 T3 := by rw [hT3]; exact HC2.out.2.alloc HC2.out.2.size _
          have hbn : Blk T3 gc 41 #[.int .i64 c1, .int .i64 c2, .int .i64 c3] := by rw [hT3, hgc]; exact Blk.new _ _ _
          have hba := HK2.out.2.1.below hBn HK2.out.2.1.lt
          have hbb := HK2.out.2.2.1.below hBn HK2.out.2.2.1.lt
          have HK3 := hide (And.intro (HK2.out.1.trans (hBn.mono HK2.out.1.size)) (And.intro hba (And.intro hbb (And.intro hbn trivial))))
          clear hBn hbn hT3 hgc hba hbb
          go_upto_region 13 with (go_at_call 78; refine (HH.out x y1 (by omega) by1 T3 (HT0.out.2.2.trans (HK3.out.1.mono HT0.out.2.2.size))).mono ?_; rintro e u3 ⟨⟨d1, d2, d3⟩, rfl, hfpd, hBd⟩; have HC3 := hide (And.intro hfpd hBd); clear hfpd hBd)
          obtain ⟨gd, hgd⟩ : ∃ g, g = u3.heap.size := ⟨_, rfl⟩
          obtain ⟨T4, hT4⟩ : ∃ W, W = u3.alloc (.cells #[.int .i64 d1, .int .i64 d2, .int .i64 d3] 41) := ⟨_, rfl⟩
          rw [← hT4, ← hgd]
          have hBn : Below T3.heap.size T3 T4 := by rw [hT4]; exact HC3.out.2.alloc HC3.out.2.size _
          have hbn : Blk T4 gd 41 #[.int .i64 d1, .int .i64 d2, .int .i64 d3] := by rw [hT4, hgd]; exact Blk.new _ _ _
          have hba := HK3.out.2.1.below hBn HK3.out.2.1.lt
          have hbb := HK3.out.2.2.1.below hBn HK3.out.2.2.1.lt
          have hbc := HK3.out.2.2.2.1.below hBn HK3.out.2.2.2.1.lt
          have HK4 := hide (And.intro (HK3.out.1.trans (hBn.mono HK3.out.1.size)) (And.intro hba (And.intro hbb (And.intro hbc (And.intro hbn trivial)))))
          clear hBn hbn hT4 hgd hba hbb hbc
          have la0 : T4.cell? ⟨ga, 0, none⟩ = some (.int .i64 a1) := HK4.out.2.1.cell 0
          have la1 : T4.cell? ⟨ga, 1, none⟩ = some (.int .i64 a2) := HK4.out.2.1.cell 1
          have la2 : T4.cell? ⟨ga, 2, none⟩ = some (.int .i64 a3) := HK4.out.2.1.cell 2
          have lb0 : T4.cell? ⟨gb, 0, none⟩ = some (.int .i64 b1) := HK4.out.2.2.1.cell 0
          have lb1 : T4.cell? ⟨gb, 1, none⟩ = some (.int .i64 b2) := HK4.out.2.2.1.cell 1
          have lb2 : T4.cell? ⟨gb, 2, none⟩ = some (.int .i64 b3) := HK4.out.2.2.1.cell 2
          have lc0 : T4.cell? ⟨gc, 0, none⟩ = some (.int .i64 c1) := HK4.out.2.2.2.1.cell 0
          have lc1 : T4.cell? ⟨gc, 1, none⟩ = some (.int .i64 c2) := HK4.out.2.2.2.1.cell 1
          have lc2 : T4.cell? ⟨gc, 2, none⟩ = some (.int .i64 c3) := HK4.out.2.2.2.1.cell 2
          have ld0 : T4.cell? ⟨gd, 0, none⟩ = some (.int .i64 d1) := HK4.out.2.2.2.2.1.cell 0
          have ld1 : T4.cell? ⟨gd, 1, none⟩ = some (.int .i64 d2) := HK4.out.2.2.2.2.1.cell 1
          have ld2 : T4.cell? ⟨gd, 2, none⟩ = some (.int .i64 d3) := HK4.out.2.2.2.2.1.cell 2
          have hz := HK4.out.1.size
          have hzw := HT0.out.2.2.size
          have hO4 := HT0.out.1.below HK4.out.1 (Nat.le_refl _)
          have hB4 := HT0.out.2.2.trans (HK4.out.1.mono hzw)
          have hfq := quad_fits HC0.out.1 HC1.out.1 HC2.out.1 HC3.out.1
          have H4 := hide (And.intro hO4 (And.intro hB4 hfq))
          have hlta := HK4.out.2.1.lt
          have hltb := HK4.out.2.2.1.lt
          have hltc := HK4.out.2.2.2.1.lt
          have hltd := HK4.out.2.2.2.2.1.lt
          clear hO4 hB4 hfq HC0 HC1 HC2 HC3 HK0 HK1 HK2 HK3 HK4
          go_wp2_with (first | (at_builtin; refine wpList_appendS rfl _ _ _ rfl Tryz.underlying28 infoT rfl (by omega) encT_len encT_one rfl (H4.out.1.below H5.out.2 (Nat.le_refl _)) A5 c5 u5.heap.size (quadP ((a1, a2, a3)) ((b1, b2, b3)) ((c1, c2, c3)) ((d1, d2, d3))) rfl (H5.out.1.sl encT_len (Nat.le_refl _)) (by unfold maxLen; simp [quadP]; omega) (by simp [quadP]; omega) (by have := H5.out.2.size; have := H4.out.2.1.size; omega) ?_; intro v6 w6 ho6 hg6 hB6 hat6; have H6 := hide (And.intro ho6 (H4.out.2.1.trans ((H5.out.2.mono H4.out.2.1.size).trans hB6))); clear ho6 hg6 hB6 hat6) | (go_at_call 79; refine (quad_any ((a1, a2, a3)) ((b1, b2, b3)) ((c1, c2, c3)) ((d1, d2, d3)) T4).mono ?_; rintro e u5 ⟨v5, rfl, ho, hB⟩; obtain ⟨A5, c5, rfl⟩ := ho.form; have H5 := hide (And.intro ho hB); clear ho hB))
          go_roundw
          case rel => exact ⟨x + 1, m2 + 2, L2 ++ quadP ((a1, a2, a3)) ((b1, b2, b3)) ((c1, c2, c3)) ((d1, d2, d3)), by omega, by go_num, H6.out.1, by omega, (fun t ht => by
            rcases List.mem_append.1 ht with h | h
            · exact HT0.out.2.1 t h
            · exact H4.out.2.2 t h), H6.out.2⟩
          case measure => (simp [intOf]; try omega)
        · obtain rfl : x = K := by omega
          have i2 : ¬ (x : Int) < (x : Int) := by omega
          have HT0 := hide (And.intro hown (And.intro hfL hB))
          clear hown hfL hB
          go_wp2
          go_roundw
          case rel => exact ⟨y + 1, m2, L2, by omega, by go_num, HT0.out.1, by omega, HT0.out.2.1, HT0.out.2.2⟩
          case measure => (simp [intOf]; try omega)
    · obtain rfl : y = K := by omega
      have i1 : ¬ (y : Int) < (y : Int) := by omega
      have hml := hown.1
      have HV := hide (And.intro hown (And.intro hfL hB))
      clear hown hfL hB
      go_wp2
      go_ret
      exact ⟨_, by trivial, L, by rw [← hml]; exact HV.out.1, by omega, (fun a a1 b a2 a3 b1 a4 a5 b2 h => HV.out.2.1 _ h), HV.out.2.2⟩
end Go.Proofs.YtelfnmohpjkilaaGreatDoor
/- ref04.cube (printed by mk_Cub.py). -/
namespace Go.Proofs.YtelfnmohpjkilaaGreatDoor
open Go.RowKit Go.Sort
/-- The first k of a cube's corners, the others at the origin. -/
def crn (p : Pt) (s : Int) (k i : Nat) : Pt := if i < k then cor8 p s i else (0, 0, 0)
def crnA (p : Pt) (s : Int) (k : Nat) : Array Value := ([0, 1, 2, 3, 4, 5, 6, 7].flatMap fun i => encP (crn p s k i)).toArray
theorem crnA_zero (p : Pt) (s : Int) : crnA p s 0 = #[.int .i64 0, .int .i64 0, .int .i64 0, .int .i64 0, .int .i64 0, .int .i64 0, .int .i64 0, .int .i64 0, .int .i64 0, .int .i64 0, .int .i64 0, .int .i64 0, .int .i64 0, .int .i64 0, .int .i64 0, .int .i64 0, .int .i64 0, .int .i64 0, .int .i64 0, .int .i64 0, .int .i64 0, .int .i64 0, .int .i64 0, .int .i64 0] := rfl
def cubeR (p : Pt) (s : Int) : Prop := (fits p.1 ∧ fits (p.1 + s)) ∧ (fits p.2.1 ∧ fits (p.2.1 + s)) ∧ (fits p.2.2 ∧ fits (p.2.2 + s)) ∧ fits s
set_option maxRecDepth 100000 in
set_option maxHeartbeats 32000000 in
theorem cube_any (p : Pt) (s : Int) (w : World) (hr : cubeR p s) : Calls Tryz.prog 77 #[vP p, .int .i64 s] w fun e w' => ∃ v, e = .returned v ∧ Own encT 9 58 w' w.heap.size v 12 (cubeP (cor8 p s)) ∧ Below w.heap.size w w' := by
  obtain ⟨x, y, z⟩ := p
  obtain ⟨⟨hx, hx1⟩, ⟨hy, hy1⟩, ⟨hz, hz1⟩, hs⟩ := hr
  dsimp only at hx hx1 hy hy1 hz hz1
  have x0 : IntKind.i64.wrap x = x := IntWalk.i64_in _ (by unfold fits at hx; omega)
  have x1 : IntKind.i64.wrap (x + s) = x + s := IntWalk.i64_in _ (by unfold fits at hx1; omega)
  have y0 : IntKind.i64.wrap y = y := IntWalk.i64_in _ (by unfold fits at hy; omega)
  have y1 : IntKind.i64.wrap (y + s) = y + s := IntWalk.i64_in _ (by unfold fits at hy1; omega)
  have z0 : IntKind.i64.wrap z = z := IntWalk.i64_in _ (by unfold fits at hz; omega)
  have z1 : IntKind.i64.wrap (z + s) = z + s := IntWalk.i64_in _ (by unfold fits at hz1; omega)
  have s0 : IntKind.i64.wrap s = s := IntWalk.i64_in _ (by unfold fits at hs; omega)
  have HW := hide (And.intro x0 (And.intro x1 (And.intro y0 (And.intro y1 (And.intro z0 (And.intro z1 s0))))))
  clear x0 x1 y0 y1 z0 z1 s0 hx hx1 hy hy1 hz hz1 hs
  go_enter Tryz.func77, Tryz.ntmps77
  go_wp2_with fail
  obtain ⟨pb, hpb⟩ : ∃ b, b = w.heap.size := ⟨_, rfl⟩
  obtain ⟨cb, hcb⟩ : ∃ b, b = w.heap.size + 1 := ⟨_, rfl⟩
  rw [← hcb]
  obtain ⟨X, hX⟩ : ∃ X, X = (w.alloc (.cells #[.int .i64 x, .int .i64 y, .int .i64 z] 41)).alloc (.cells (crnA (x, y, z) s 0) 134) := ⟨_, rfl⟩
  have hX' := hX
  rw [crnA_zero] at hX'
  rw [← hX', ← hpb]
  have hbp : Blk X pb 41 #[.int .i64 x, .int .i64 y, .int .i64 z] := by rw [hX, hpb]; exact (Blk.new _ _ _).alloc _
  have hbc : Blk X cb 134 (crnA (x, y, z) s 0) := by rw [hX]; exact Blk.new' _ _ _ _ (by rw [hcb]; simp)
  have hBX : Below w.heap.size w X := by rw [hX]; exact ((Below.refl _ w).alloc (Nat.le_refl _) _).alloc (by simp) _
  have HX := hide (And.intro hbp (And.intro hbc (And.intro hBX (And.intro (show w.heap.size ≤ pb by omega) (And.intro (show w.heap.size ≤ cb by omega) (show pb ≠ cb by omega))))))
  clear hbp hbc hBX hX hX' hpb hcb
  go_loopw [6] (fun kv wr => ∃ k : Nat, k ≤ 8 ∧ kv = .int .i64 k ∧ Blk wr pb 41 #[.int .i64 x, .int .i64 y, .int .i64 z] ∧ Blk wr cb 134 (crnA (x, y, z) s k) ∧ Below w.heap.size w wr) (fun kv _ => 8 - (intOf kv).toNat)
  case atStart => exact ⟨0, by omega, rfl, HX.out.1, HX.out.2.1, HX.out.2.2.1⟩
  case round =>
    obtain ⟨k, hk, rfl, hbp, hbc, hB⟩ := hrel
    obtain ⟨R, rfl⟩ : ∃ x, x = wr := ⟨_, rfl⟩
    have hlp := hbp.lt
    have hlc := hbc.lt
    have p0 : R.cell? ⟨pb, 0, none⟩ = some (.int .i64 x) := hbp.cell 0
    have p1 : R.cell? ⟨pb, 1, none⟩ = some (.int .i64 y) := hbp.cell 1
    have p2 : R.cell? ⟨pb, 2, none⟩ = some (.int .i64 z) := hbp.cell 2
    by_cases hk0 : k = 0
    · subst hk0
      have i2 : ((0 : Nat) : Int) < 8 := by omega
      have f0 := hbc.frozen 0
      have c0 : R.cell? ⟨cb, 0, none⟩ = some (.int .i64 0) := hbc.cell 0
      have f1 := hbc.frozen 1
      have c1 : R.cell? ⟨cb, 1, none⟩ = some (.int .i64 0) := hbc.cell 1
      have f2 := hbc.frozen 2
      have c2 : R.cell? ⟨cb, 2, none⟩ = some (.int .i64 0) := hbc.cell 2
      have HR := hide (And.intro hbp (And.intro hbc hB))
      clear hbp hbc hB
      have ⟨x0, x1, y0, y1, z0, z1, s0⟩ := HW.out
      go_wp2
      go_roundw
      case rel =>
        refine ⟨1, by omega, by go_num, ?_, ?_, ?_⟩
        · exact HR.out.1.far3 (g' := cb) HX.out.2.2.2.2.2 _ _ _
        · have h8 := ((HR.out.2.1.set_ 0 (.int .i64 (x))).set_ 1 (.int .i64 (y))).set_ 2 (.int .i64 (z))
          rw [show (((crnA (x, y, z) s 0).setIfInBounds 0 (.int .i64 (x))).setIfInBounds 1 (.int .i64 (y))).setIfInBounds 2 (.int .i64 (z)) = crnA (x, y, z) s 1 by simp [crnA, crn, cor8, encP]] at h8
          exact h8
        · exact ((HR.out.2.2.setCell (p := ⟨cb, 0, none⟩) HX.out.2.2.2.2.1 _).setCell (p := ⟨cb, 1, none⟩) HX.out.2.2.2.2.1 _).setCell (p := ⟨cb, 2, none⟩) HX.out.2.2.2.2.1 _
      case measure => (simp [intOf]; try omega)
    by_cases hk1 : k = 1
    · subst hk1
      have i2 : ((1 : Nat) : Int) < 8 := by omega
      have f0 := hbc.frozen 3
      have c0 : R.cell? ⟨cb, 3, none⟩ = some (.int .i64 0) := hbc.cell 3
      have f1 := hbc.frozen 4
      have c1 : R.cell? ⟨cb, 4, none⟩ = some (.int .i64 0) := hbc.cell 4
      have f2 := hbc.frozen 5
      have c2 : R.cell? ⟨cb, 5, none⟩ = some (.int .i64 0) := hbc.cell 5
      have HR := hide (And.intro hbp (And.intro hbc hB))
      clear hbp hbc hB
      have ⟨x0, x1, y0, y1, z0, z1, s0⟩ := HW.out
      go_wp2
      go_roundw
      case rel =>
        refine ⟨2, by omega, by go_num, ?_, ?_, ?_⟩
        · exact ((HR.out.1.far (p := ⟨cb, 3, none⟩) HX.out.2.2.2.2.2 _).far (p := ⟨cb, 4, none⟩) HX.out.2.2.2.2.2 _).far (p := ⟨cb, 5, none⟩) HX.out.2.2.2.2.2 _
        · have h8 := ((HR.out.2.1.set_ 3 (.int .i64 (x + s))).set_ 4 (.int .i64 (y))).set_ 5 (.int .i64 (z))
          rw [show (((crnA (x, y, z) s 1).setIfInBounds 3 (.int .i64 (x + s))).setIfInBounds 4 (.int .i64 (y))).setIfInBounds 5 (.int .i64 (z)) = crnA (x, y, z) s 2 by simp [crnA, crn, cor8, encP]] at h8
          exact h8
        · exact ((HR.out.2.2.setCell (p := ⟨cb, 3, none⟩) HX.out.2.2.2.2.1 _).setCell (p := ⟨cb, 4, none⟩) HX.out.2.2.2.2.1 _).setCell (p := ⟨cb, 5, none⟩) HX.out.2.2.2.2.1 _
      case measure => (simp [intOf]; try omega)
    by_cases hk2 : k = 2
    · subst hk2
      have i2 : ((2 : Nat) : Int) < 8 := by omega
      have f0 := hbc.frozen 6
      have c0 : R.cell? ⟨cb, 6, none⟩ = some (.int .i64 0) := hbc.cell 6
      have f1 := hbc.frozen 7
      have c1 : R.cell? ⟨cb, 7, none⟩ = some (.int .i64 0) := hbc.cell 7
      have f2 := hbc.frozen 8
      have c2 : R.cell? ⟨cb, 8, none⟩ = some (.int .i64 0) := hbc.cell 8
      have HR := hide (And.intro hbp (And.intro hbc hB))
      clear hbp hbc hB
      have ⟨x0, x1, y0, y1, z0, z1, s0⟩ := HW.out
      go_wp2
      go_roundw
      case rel =>
        refine ⟨3, by omega, by go_num, ?_, ?_, ?_⟩
        · exact ((HR.out.1.far (p := ⟨cb, 6, none⟩) HX.out.2.2.2.2.2 _).far (p := ⟨cb, 7, none⟩) HX.out.2.2.2.2.2 _).far (p := ⟨cb, 8, none⟩) HX.out.2.2.2.2.2 _
        · have h8 := ((HR.out.2.1.set_ 6 (.int .i64 (x))).set_ 7 (.int .i64 (y + s))).set_ 8 (.int .i64 (z))
          rw [show (((crnA (x, y, z) s 2).setIfInBounds 6 (.int .i64 (x))).setIfInBounds 7 (.int .i64 (y + s))).setIfInBounds 8 (.int .i64 (z)) = crnA (x, y, z) s 3 by simp [crnA, crn, cor8, encP]] at h8
          exact h8
        · exact ((HR.out.2.2.setCell (p := ⟨cb, 6, none⟩) HX.out.2.2.2.2.1 _).setCell (p := ⟨cb, 7, none⟩) HX.out.2.2.2.2.1 _).setCell (p := ⟨cb, 8, none⟩) HX.out.2.2.2.2.1 _
      case measure => (simp [intOf]; try omega)
    by_cases hk3 : k = 3
    · subst hk3
      have i2 : ((3 : Nat) : Int) < 8 := by omega
      have f0 := hbc.frozen 9
      have c0 : R.cell? ⟨cb, 9, none⟩ = some (.int .i64 0) := hbc.cell 9
      have f1 := hbc.frozen 10
      have c1 : R.cell? ⟨cb, 10, none⟩ = some (.int .i64 0) := hbc.cell 10
      have f2 := hbc.frozen 11
      have c2 : R.cell? ⟨cb, 11, none⟩ = some (.int .i64 0) := hbc.cell 11
      have HR := hide (And.intro hbp (And.intro hbc hB))
      clear hbp hbc hB
      have ⟨x0, x1, y0, y1, z0, z1, s0⟩ := HW.out
      go_wp2
      go_roundw
      case rel =>
        refine ⟨4, by omega, by go_num, ?_, ?_, ?_⟩
        · exact ((HR.out.1.far (p := ⟨cb, 9, none⟩) HX.out.2.2.2.2.2 _).far (p := ⟨cb, 10, none⟩) HX.out.2.2.2.2.2 _).far (p := ⟨cb, 11, none⟩) HX.out.2.2.2.2.2 _
        · have h8 := ((HR.out.2.1.set_ 9 (.int .i64 (x + s))).set_ 10 (.int .i64 (y + s))).set_ 11 (.int .i64 (z))
          rw [show (((crnA (x, y, z) s 3).setIfInBounds 9 (.int .i64 (x + s))).setIfInBounds 10 (.int .i64 (y + s))).setIfInBounds 11 (.int .i64 (z)) = crnA (x, y, z) s 4 by simp [crnA, crn, cor8, encP]] at h8
          exact h8
        · exact ((HR.out.2.2.setCell (p := ⟨cb, 9, none⟩) HX.out.2.2.2.2.1 _).setCell (p := ⟨cb, 10, none⟩) HX.out.2.2.2.2.1 _).setCell (p := ⟨cb, 11, none⟩) HX.out.2.2.2.2.1 _
      case measure => (simp [intOf]; try omega)
    by_cases hk4 : k = 4
    · subst hk4
      have i2 : ((4 : Nat) : Int) < 8 := by omega
      have f0 := hbc.frozen 12
      have c0 : R.cell? ⟨cb, 12, none⟩ = some (.int .i64 0) := hbc.cell 12
      have f1 := hbc.frozen 13
      have c1 : R.cell? ⟨cb, 13, none⟩ = some (.int .i64 0) := hbc.cell 13
      have f2 := hbc.frozen 14
      have c2 : R.cell? ⟨cb, 14, none⟩ = some (.int .i64 0) := hbc.cell 14
      have HR := hide (And.intro hbp (And.intro hbc hB))
      clear hbp hbc hB
      have ⟨x0, x1, y0, y1, z0, z1, s0⟩ := HW.out
      go_wp2
      go_roundw
      case rel =>
        refine ⟨5, by omega, by go_num, ?_, ?_, ?_⟩
        · exact ((HR.out.1.far (p := ⟨cb, 12, none⟩) HX.out.2.2.2.2.2 _).far (p := ⟨cb, 13, none⟩) HX.out.2.2.2.2.2 _).far (p := ⟨cb, 14, none⟩) HX.out.2.2.2.2.2 _
        · have h8 := ((HR.out.2.1.set_ 12 (.int .i64 (x))).set_ 13 (.int .i64 (y))).set_ 14 (.int .i64 (z + s))
          rw [show (((crnA (x, y, z) s 4).setIfInBounds 12 (.int .i64 (x))).setIfInBounds 13 (.int .i64 (y))).setIfInBounds 14 (.int .i64 (z + s)) = crnA (x, y, z) s 5 by simp [crnA, crn, cor8, encP]] at h8
          exact h8
        · exact ((HR.out.2.2.setCell (p := ⟨cb, 12, none⟩) HX.out.2.2.2.2.1 _).setCell (p := ⟨cb, 13, none⟩) HX.out.2.2.2.2.1 _).setCell (p := ⟨cb, 14, none⟩) HX.out.2.2.2.2.1 _
      case measure => (simp [intOf]; try omega)
    by_cases hk5 : k = 5
    · subst hk5
      have i2 : ((5 : Nat) : Int) < 8 := by omega
      have f0 := hbc.frozen 15
      have c0 : R.cell? ⟨cb, 15, none⟩ = some (.int .i64 0) := hbc.cell 15
      have f1 := hbc.frozen 16
      have c1 : R.cell? ⟨cb, 16, none⟩ = some (.int .i64 0) := hbc.cell 16
      have f2 := hbc.frozen 17
      have c2 : R.cell? ⟨cb, 17, none⟩ = some (.int .i64 0) := hbc.cell 17
      have HR := hide (And.intro hbp (And.intro hbc hB))
      clear hbp hbc hB
      have ⟨x0, x1, y0, y1, z0, z1, s0⟩ := HW.out
      go_wp2
      go_roundw
      case rel =>
        refine ⟨6, by omega, by go_num, ?_, ?_, ?_⟩
        · exact ((HR.out.1.far (p := ⟨cb, 15, none⟩) HX.out.2.2.2.2.2 _).far (p := ⟨cb, 16, none⟩) HX.out.2.2.2.2.2 _).far (p := ⟨cb, 17, none⟩) HX.out.2.2.2.2.2 _
        · have h8 := ((HR.out.2.1.set_ 15 (.int .i64 (x + s))).set_ 16 (.int .i64 (y))).set_ 17 (.int .i64 (z + s))
          rw [show (((crnA (x, y, z) s 5).setIfInBounds 15 (.int .i64 (x + s))).setIfInBounds 16 (.int .i64 (y))).setIfInBounds 17 (.int .i64 (z + s)) = crnA (x, y, z) s 6 by simp [crnA, crn, cor8, encP]] at h8
          exact h8
        · exact ((HR.out.2.2.setCell (p := ⟨cb, 15, none⟩) HX.out.2.2.2.2.1 _).setCell (p := ⟨cb, 16, none⟩) HX.out.2.2.2.2.1 _).setCell (p := ⟨cb, 17, none⟩) HX.out.2.2.2.2.1 _
      case measure => (simp [intOf]; try omega)
    by_cases hk6 : k = 6
    · subst hk6
      have i2 : ((6 : Nat) : Int) < 8 := by omega
      have f0 := hbc.frozen 18
      have c0 : R.cell? ⟨cb, 18, none⟩ = some (.int .i64 0) := hbc.cell 18
      have f1 := hbc.frozen 19
      have c1 : R.cell? ⟨cb, 19, none⟩ = some (.int .i64 0) := hbc.cell 19
      have f2 := hbc.frozen 20
      have c2 : R.cell? ⟨cb, 20, none⟩ = some (.int .i64 0) := hbc.cell 20
      have HR := hide (And.intro hbp (And.intro hbc hB))
      clear hbp hbc hB
      have ⟨x0, x1, y0, y1, z0, z1, s0⟩ := HW.out
      go_wp2
      go_roundw
      case rel =>
        refine ⟨7, by omega, by go_num, ?_, ?_, ?_⟩
        · exact ((HR.out.1.far (p := ⟨cb, 18, none⟩) HX.out.2.2.2.2.2 _).far (p := ⟨cb, 19, none⟩) HX.out.2.2.2.2.2 _).far (p := ⟨cb, 20, none⟩) HX.out.2.2.2.2.2 _
        · have h8 := ((HR.out.2.1.set_ 18 (.int .i64 (x))).set_ 19 (.int .i64 (y + s))).set_ 20 (.int .i64 (z + s))
          rw [show (((crnA (x, y, z) s 6).setIfInBounds 18 (.int .i64 (x))).setIfInBounds 19 (.int .i64 (y + s))).setIfInBounds 20 (.int .i64 (z + s)) = crnA (x, y, z) s 7 by simp [crnA, crn, cor8, encP]] at h8
          exact h8
        · exact ((HR.out.2.2.setCell (p := ⟨cb, 18, none⟩) HX.out.2.2.2.2.1 _).setCell (p := ⟨cb, 19, none⟩) HX.out.2.2.2.2.1 _).setCell (p := ⟨cb, 20, none⟩) HX.out.2.2.2.2.1 _
      case measure => (simp [intOf]; try omega)
    by_cases hk7 : k = 7
    · subst hk7
      have i2 : ((7 : Nat) : Int) < 8 := by omega
      have f0 := hbc.frozen 21
      have c0 : R.cell? ⟨cb, 21, none⟩ = some (.int .i64 0) := hbc.cell 21
      have f1 := hbc.frozen 22
      have c1 : R.cell? ⟨cb, 22, none⟩ = some (.int .i64 0) := hbc.cell 22
      have f2 := hbc.frozen 23
      have c2 : R.cell? ⟨cb, 23, none⟩ = some (.int .i64 0) := hbc.cell 23
      have HR := hide (And.intro hbp (And.intro hbc hB))
      clear hbp hbc hB
      have ⟨x0, x1, y0, y1, z0, z1, s0⟩ := HW.out
      go_wp2
      go_roundw
      case rel =>
        refine ⟨8, by omega, by go_num, ?_, ?_, ?_⟩
        · exact ((HR.out.1.far (p := ⟨cb, 21, none⟩) HX.out.2.2.2.2.2 _).far (p := ⟨cb, 22, none⟩) HX.out.2.2.2.2.2 _).far (p := ⟨cb, 23, none⟩) HX.out.2.2.2.2.2 _
        · have h8 := ((HR.out.2.1.set_ 21 (.int .i64 (x + s))).set_ 22 (.int .i64 (y + s))).set_ 23 (.int .i64 (z + s))
          rw [show (((crnA (x, y, z) s 7).setIfInBounds 21 (.int .i64 (x + s))).setIfInBounds 22 (.int .i64 (y + s))).setIfInBounds 23 (.int .i64 (z + s)) = crnA (x, y, z) s 8 by simp [crnA, crn, cor8, encP]] at h8
          exact h8
        · exact ((HR.out.2.2.setCell (p := ⟨cb, 21, none⟩) HX.out.2.2.2.2.1 _).setCell (p := ⟨cb, 22, none⟩) HX.out.2.2.2.2.1 _).setCell (p := ⟨cb, 23, none⟩) HX.out.2.2.2.2.1 _
      case measure => (simp [intOf]; try omega)
    obtain rfl : k = 8 := by omega
    have i2 : ¬ ((8 : Nat) : Int) < 8 := by omega
    have hall : ∀ W : World, Blk W cb 134 (crnA (x, y, z) s 8) → W.cell? ⟨cb, 0, none⟩ = some (.int .i64 (cor8 (x, y, z) s 0).1) ∧ W.cell? ⟨cb, 1, none⟩ = some (.int .i64 (cor8 (x, y, z) s 0).2.1) ∧ W.cell? ⟨cb, 2, none⟩ = some (.int .i64 (cor8 (x, y, z) s 0).2.2) ∧ W.cell? ⟨cb, 3, none⟩ = some (.int .i64 (cor8 (x, y, z) s 1).1) ∧ W.cell? ⟨cb, 4, none⟩ = some (.int .i64 (cor8 (x, y, z) s 1).2.1) ∧ W.cell? ⟨cb, 5, none⟩ = some (.int .i64 (cor8 (x, y, z) s 1).2.2) ∧ W.cell? ⟨cb, 6, none⟩ = some (.int .i64 (cor8 (x, y, z) s 2).1) ∧ W.cell? ⟨cb, 7, none⟩ = some (.int .i64 (cor8 (x, y, z) s 2).2.1) ∧ W.cell? ⟨cb, 8, none⟩ = some (.int .i64 (cor8 (x, y, z) s 2).2.2) ∧ W.cell? ⟨cb, 9, none⟩ = some (.int .i64 (cor8 (x, y, z) s 3).1) ∧ W.cell? ⟨cb, 10, none⟩ = some (.int .i64 (cor8 (x, y, z) s 3).2.1) ∧ W.cell? ⟨cb, 11, none⟩ = some (.int .i64 (cor8 (x, y, z) s 3).2.2) ∧ W.cell? ⟨cb, 12, none⟩ = some (.int .i64 (cor8 (x, y, z) s 4).1) ∧ W.cell? ⟨cb, 13, none⟩ = some (.int .i64 (cor8 (x, y, z) s 4).2.1) ∧ W.cell? ⟨cb, 14, none⟩ = some (.int .i64 (cor8 (x, y, z) s 4).2.2) ∧ W.cell? ⟨cb, 15, none⟩ = some (.int .i64 (cor8 (x, y, z) s 5).1) ∧ W.cell? ⟨cb, 16, none⟩ = some (.int .i64 (cor8 (x, y, z) s 5).2.1) ∧ W.cell? ⟨cb, 17, none⟩ = some (.int .i64 (cor8 (x, y, z) s 5).2.2) ∧ W.cell? ⟨cb, 18, none⟩ = some (.int .i64 (cor8 (x, y, z) s 6).1) ∧ W.cell? ⟨cb, 19, none⟩ = some (.int .i64 (cor8 (x, y, z) s 6).2.1) ∧ W.cell? ⟨cb, 20, none⟩ = some (.int .i64 (cor8 (x, y, z) s 6).2.2) ∧ W.cell? ⟨cb, 21, none⟩ = some (.int .i64 (cor8 (x, y, z) s 7).1) ∧ W.cell? ⟨cb, 22, none⟩ = some (.int .i64 (cor8 (x, y, z) s 7).2.1) ∧ W.cell? ⟨cb, 23, none⟩ = some (.int .i64 (cor8 (x, y, z) s 7).2.2) := fun W h => ⟨h.cell 0, h.cell 1, h.cell 2, h.cell 3, h.cell 4, h.cell 5, h.cell 6, h.cell 7, h.cell 8, h.cell 9, h.cell 10, h.cell 11, h.cell 12, h.cell 13, h.cell 14, h.cell 15, h.cell 16, h.cell 17, h.cell 18, h.cell 19, h.cell 20, h.cell 21, h.cell 22, h.cell 23⟩
    obtain ⟨q0, q1, q2, q3, q4, q5, q6, q7, hq⟩ : ∃ q0 q1 q2 q3 q4 q5 q6 q7 : Pt, q0 = cor8 (x, y, z) s 0 ∧ q1 = cor8 (x, y, z) s 1 ∧ q2 = cor8 (x, y, z) s 2 ∧ q3 = cor8 (x, y, z) s 3 ∧ q4 = cor8 (x, y, z) s 4 ∧ q5 = cor8 (x, y, z) s 5 ∧ q6 = cor8 (x, y, z) s 6 ∧ q7 = cor8 (x, y, z) s 7 := ⟨_, _, _, _, _, _, _, _, rfl, rfl, rfl, rfl, rfl, rfl, rfl, rfl⟩
    have hcu : cubeP (cor8 (x, y, z) s) = quadP q0 q2 q3 q1 ++ (quadP q4 q5 q7 q6 ++ (quadP q0 q1 q5 q4 ++ (quadP q2 q6 q7 q3 ++ (quadP q0 q4 q6 q2 ++ quadP q1 q3 q7 q5)))) := by obtain ⟨rfl, rfl, rfl, rfl, rfl, rfl, rfl, rfl⟩ := hq; rfl
    have HCU := hide hcu
    rw [← hq.1, ← hq.2.1, ← hq.2.2.1, ← hq.2.2.2.1, ← hq.2.2.2.2.1, ← hq.2.2.2.2.2.1, ← hq.2.2.2.2.2.2.1, ← hq.2.2.2.2.2.2.2] at hall
    have HA := hide hall
    clear hall hcu hq p0 p1 p2 hlp
    have HB0 := hide hB
    have H0 := hide (And.intro hbc (Below.refl R.heap.size R))
    have HL := hide hlc
    clear hbc hB hbp hlc
    obtain ⟨R0, rfl⟩ : ∃ x, x = R := ⟨_, rfl⟩
    have ⟨g0, g1, g2, g3, g4, g5, g6, g7, g8, g9, g10, g11, g12, g13, g14, g15, g16, g17, g18, g19, g20, g21, g22, g23⟩ := HA.out R0 H0.out.1
    go_upto_region 7 with (go_at_call 79; refine (quad_any q0 q2 q3 q1 R0).mono ?_; rintro e u0 ⟨v0, rfl, ho, hB⟩; obtain ⟨A10, c10, rfl⟩ := ho.form; have HC0 := hide (And.intro (H0.out.1.below hB H0.out.1.lt) (And.intro (H0.out.2.trans (hB.mono H0.out.2.size)) (And.intro ho hB))); clear ho hB)
    obtain ⟨R1, rfl⟩ : ∃ x, x = u0 := ⟨_, rfl⟩
    have H1 := hide (And.intro HC0.out.1 HC0.out.2.1)
    have K1 := hide (show Own encT 9 58 R1 R0.heap.size (.slice A10 2 c10) 2 (quadP q0 q2 q3 q1) from HC0.out.2.2.1)
    clear HC0 g0 g1 g2 g3 g4 g5 g6 g7 g8 g9 g10 g11 g12 g13 g14 g15 g16 g17 g18 g19 g20 g21 g22 g23
    obtain ⟨B1, d1, hBd⟩ : ∃ B d, B = A10 ∧ d = c10 := ⟨_, _, rfl, rfl⟩
    obtain ⟨rfl, rfl⟩ := hBd
    have ⟨g0, g1, g2, g3, g4, g5, g6, g7, g8, g9, g10, g11, g12, g13, g14, g15, g16, g17, g18, g19, g20, g21, g22, g23⟩ := HA.out R1 H1.out.1
    go_upto_region 8 with (first | (at_builtin; refine wpList_appendS rfl _ _ _ rfl Tryz.underlying28 infoT rfl (by omega) encT_len encT_one rfl (K1.out.below HC1.out.2.2.2 (Nat.le_refl _)) A11 c11 u1.heap.size (quadP q4 q5 q7 q6) rfl (HC1.out.2.2.1.sl encT_len (Nat.le_refl _)) (by unfold maxLen; simp [quadP]) (by simp [quadP]) HC1.out.2.1.size ?_; intro w2 R2 hown hg hBa hat; obtain ⟨B2, d2, rfl⟩ := hown.form; have K2 := hide (show Own encT 9 58 R2 R0.heap.size (.slice B2 4 d2) 4 (quadP q0 q2 q3 q1 ++ quadP q4 q5 q7 q6) from hown); have H2 := hide (And.intro (HC1.out.1.below hBa HL.out) (HC1.out.2.1.trans hBa)); clear hown hg hBa hat HC1) | (go_at_call 79; refine (quad_any q4 q5 q7 q6 R1).mono ?_; rintro e u1 ⟨v1, rfl, ho, hB⟩; obtain ⟨A11, c11, rfl⟩ := ho.form; have HC1 := hide (And.intro (H1.out.1.below hB H1.out.1.lt) (And.intro (H1.out.2.trans (hB.mono H1.out.2.size)) (And.intro ho hB))); clear ho hB))
    clear g0 g1 g2 g3 g4 g5 g6 g7 g8 g9 g10 g11 g12 g13 g14 g15 g16 g17 g18 g19 g20 g21 g22 g23
    have ⟨g0, g1, g2, g3, g4, g5, g6, g7, g8, g9, g10, g11, g12, g13, g14, g15, g16, g17, g18, g19, g20, g21, g22, g23⟩ := HA.out R2 H2.out.1
    go_upto_region 9 with (first | (at_builtin; refine wpList_appendS rfl _ _ _ rfl Tryz.underlying28 infoT rfl (by omega) encT_len encT_one rfl (K2.out.below HC2.out.2.2.2 (Nat.le_refl _)) A12 c12 u2.heap.size (quadP q0 q1 q5 q4) rfl (HC2.out.2.2.1.sl encT_len (Nat.le_refl _)) (by unfold maxLen; simp [quadP]) (by simp [quadP]) HC2.out.2.1.size ?_; intro w3 R3 hown hg hBa hat; obtain ⟨B3, d3, rfl⟩ := hown.form; have K3 := hide (show Own encT 9 58 R3 R0.heap.size (.slice B3 6 d3) 6 (quadP q0 q2 q3 q1 ++ quadP q4 q5 q7 q6 ++ quadP q0 q1 q5 q4) from hown); have H3 := hide (And.intro (HC2.out.1.below hBa HL.out) (HC2.out.2.1.trans hBa)); clear hown hg hBa hat HC2) | (go_at_call 79; refine (quad_any q0 q1 q5 q4 R2).mono ?_; rintro e u2 ⟨v2, rfl, ho, hB⟩; obtain ⟨A12, c12, rfl⟩ := ho.form; have HC2 := hide (And.intro (H2.out.1.below hB H2.out.1.lt) (And.intro (H2.out.2.trans (hB.mono H2.out.2.size)) (And.intro ho hB))); clear ho hB))
    clear g0 g1 g2 g3 g4 g5 g6 g7 g8 g9 g10 g11 g12 g13 g14 g15 g16 g17 g18 g19 g20 g21 g22 g23
    have ⟨g0, g1, g2, g3, g4, g5, g6, g7, g8, g9, g10, g11, g12, g13, g14, g15, g16, g17, g18, g19, g20, g21, g22, g23⟩ := HA.out R3 H3.out.1
    go_upto_region 10 with (first | (at_builtin; refine wpList_appendS rfl _ _ _ rfl Tryz.underlying28 infoT rfl (by omega) encT_len encT_one rfl (K3.out.below HC3.out.2.2.2 (Nat.le_refl _)) A13 c13 u3.heap.size (quadP q2 q6 q7 q3) rfl (HC3.out.2.2.1.sl encT_len (Nat.le_refl _)) (by unfold maxLen; simp [quadP]) (by simp [quadP]) HC3.out.2.1.size ?_; intro w4 R4 hown hg hBa hat; obtain ⟨B4, d4, rfl⟩ := hown.form; have K4 := hide (show Own encT 9 58 R4 R0.heap.size (.slice B4 8 d4) 8 (quadP q0 q2 q3 q1 ++ quadP q4 q5 q7 q6 ++ quadP q0 q1 q5 q4 ++ quadP q2 q6 q7 q3) from hown); have H4 := hide (And.intro (HC3.out.1.below hBa HL.out) (HC3.out.2.1.trans hBa)); clear hown hg hBa hat HC3) | (go_at_call 79; refine (quad_any q2 q6 q7 q3 R3).mono ?_; rintro e u3 ⟨v3, rfl, ho, hB⟩; obtain ⟨A13, c13, rfl⟩ := ho.form; have HC3 := hide (And.intro (H3.out.1.below hB H3.out.1.lt) (And.intro (H3.out.2.trans (hB.mono H3.out.2.size)) (And.intro ho hB))); clear ho hB))
    clear g0 g1 g2 g3 g4 g5 g6 g7 g8 g9 g10 g11 g12 g13 g14 g15 g16 g17 g18 g19 g20 g21 g22 g23
    have ⟨g0, g1, g2, g3, g4, g5, g6, g7, g8, g9, g10, g11, g12, g13, g14, g15, g16, g17, g18, g19, g20, g21, g22, g23⟩ := HA.out R4 H4.out.1
    go_upto_region 11 with (first | (at_builtin; refine wpList_appendS rfl _ _ _ rfl Tryz.underlying28 infoT rfl (by omega) encT_len encT_one rfl (K4.out.below HC4.out.2.2.2 (Nat.le_refl _)) A14 c14 u4.heap.size (quadP q0 q4 q6 q2) rfl (HC4.out.2.2.1.sl encT_len (Nat.le_refl _)) (by unfold maxLen; simp [quadP]) (by simp [quadP]) HC4.out.2.1.size ?_; intro w5 R5 hown hg hBa hat; obtain ⟨B5, d5, rfl⟩ := hown.form; have K5 := hide (show Own encT 9 58 R5 R0.heap.size (.slice B5 10 d5) 10 (quadP q0 q2 q3 q1 ++ quadP q4 q5 q7 q6 ++ quadP q0 q1 q5 q4 ++ quadP q2 q6 q7 q3 ++ quadP q0 q4 q6 q2) from hown); have H5 := hide (And.intro (HC4.out.1.below hBa HL.out) (HC4.out.2.1.trans hBa)); clear hown hg hBa hat HC4) | (go_at_call 79; refine (quad_any q0 q4 q6 q2 R4).mono ?_; rintro e u4 ⟨v4, rfl, ho, hB⟩; obtain ⟨A14, c14, rfl⟩ := ho.form; have HC4 := hide (And.intro (H4.out.1.below hB H4.out.1.lt) (And.intro (H4.out.2.trans (hB.mono H4.out.2.size)) (And.intro ho hB))); clear ho hB))
    clear g0 g1 g2 g3 g4 g5 g6 g7 g8 g9 g10 g11 g12 g13 g14 g15 g16 g17 g18 g19 g20 g21 g22 g23
    have ⟨g0, g1, g2, g3, g4, g5, g6, g7, g8, g9, g10, g11, g12, g13, g14, g15, g16, g17, g18, g19, g20, g21, g22, g23⟩ := HA.out R5 H5.out.1
    go_wp2_with (first | (at_builtin; refine wpList_appendS rfl _ _ _ rfl Tryz.underlying28 infoT rfl (by omega) encT_len encT_one rfl (K5.out.below HC5.out.2.2.2 (Nat.le_refl _)) A15 c15 u5.heap.size (quadP q1 q3 q7 q5) rfl (HC5.out.2.2.1.sl encT_len (Nat.le_refl _)) (by unfold maxLen; simp [quadP]) (by simp [quadP]) HC5.out.2.1.size ?_; intro w6 R6 hown hg hBa hat; obtain ⟨B6, d6, rfl⟩ := hown.form; have K6 := hide (show Own encT 9 58 R6 R0.heap.size (.slice B6 12 d6) 12 (quadP q0 q2 q3 q1 ++ quadP q4 q5 q7 q6 ++ quadP q0 q1 q5 q4 ++ quadP q2 q6 q7 q3 ++ quadP q0 q4 q6 q2 ++ quadP q1 q3 q7 q5) from hown); have H6 := hide (And.intro (HC5.out.1.below hBa HL.out) (HC5.out.2.1.trans hBa)); clear hown hg hBa hat HC5) | (go_at_call 79; refine (quad_any q1 q3 q7 q5 R5).mono ?_; rintro e u5 ⟨v5, rfl, ho, hB⟩; obtain ⟨A15, c15, rfl⟩ := ho.form; have HC5 := hide (And.intro (H5.out.1.below hB H5.out.1.lt) (And.intro (H5.out.2.trans (hB.mono H5.out.2.size)) (And.intro ho hB))); clear ho hB))
    go_ret
    rw [HCU.out]
    exact ⟨_, rfl, K6.out.base_le HB0.out.size, HB0.out.trans (H6.out.2.mono HB0.out.size)⟩
end Go.Proofs.YtelfnmohpjkilaaGreatDoor
/- ref04.count, lessEdge. -/
namespace Go.Proofs.YtelfnmohpjkilaaGreatDoor
open Go.RowKit Go.Sort
theorem Sl.ed {w : World} {B b o : Nat} {es : List Ed} (h : Sl encE 6 w B (some ⟨b, o, none⟩) es) {i : Nat} {e : Ed} (hi : es[i]? = some e) :
    w.cell? ⟨b, o + i * 6, none⟩ = some (.int .i64 e.1.1) ∧ w.cell? ⟨b, o + i * 6 + 1, none⟩ = some (.int .i64 e.1.2.1) ∧ w.cell? ⟨b, o + i * 6 + 2, none⟩ = some (.int .i64 e.1.2.2) ∧ w.cell? ⟨b, o + i * 6 + 3, none⟩ = some (.int .i64 e.2.1) ∧ w.cell? ⟨b, o + i * 6 + 4, none⟩ = some (.int .i64 e.2.2.1) ∧ w.cell? ⟨b, o + i * 6 + 5, none⟩ = some (.int .i64 e.2.2.2) := by
  obtain ⟨b', o', ha, _, hc⟩ := h.at hi
  cases ha
  exact ⟨hc 0 _ rfl, hc 1 _ rfl, hc 2 _ rfl, hc 3 _ rfl, hc 4 _ rfl, hc 5 _ rfl⟩
theorem Blk.six {w : World} {g : Nat} {t : TypeId} {e : Ed} (h : Blk w g t (encE e).toArray) :
    w.cell? ⟨g, 0, none⟩ = some (.int .i64 e.1.1) ∧ w.cell? ⟨g, 1, none⟩ = some (.int .i64 e.1.2.1) ∧ w.cell? ⟨g, 2, none⟩ = some (.int .i64 e.1.2.2) ∧ w.cell? ⟨g, 3, none⟩ = some (.int .i64 e.2.1) ∧ w.cell? ⟨g, 4, none⟩ = some (.int .i64 e.2.2.1) ∧ w.cell? ⟨g, 5, none⟩ = some (.int .i64 e.2.2.2) :=
  ⟨h.cell 0, h.cell 1, h.cell 2, h.cell 3, h.cell 4, h.cell 5⟩
def cntE (l : List Ed) (e : Ed) : Nat := l.countP fun x => decide (x = e)
theorem cntE_le (l : List Ed) (e : Ed) : cntE l e ≤ l.length := List.countP_le_length
theorem cntE_snoc (l : List Ed) (e x : Ed) (k : Nat) (h : l[k]? = some x) : cntE (l.take (k + 1)) e = cntE (l.take k) e + if x = e then 1 else 0 := by
  unfold cntE
  rw [List.take_add_one, h, Option.toList_some, List.countP_append, List.countP_singleton]
  simp
set_option maxRecDepth 100000 in
set_option maxHeartbeats 8000000 in
theorem count_any (A : Option Addr) (c : Nat) (l : List Ed) (e : Ed) (w : World) (hs : Sl encE 6 w w.heap.size A l) (hl : l.length ≤ 4294967296) (he : fitsE e) (hf : ∀ x ∈ l, fitsE x) :
    Calls Tryz.prog 54 #[.slice A l.length c, vE e] w fun r w' => r = .returned (.int .i64 (cntE l e : Nat)) ∧ Below w.heap.size w w' := by
  obtain ⟨n, hn⟩ : ∃ n, n = l.length := ⟨_, rfl⟩
  rw [← hn] at hl ⊢
  have HS := hide (And.intro hs (And.intro he (And.intro hf hn)))
  clear hs he hf hn
  go_enter Tryz.func54, Tryz.ntmps54
  go_wp2
  obtain ⟨X, hX⟩ : ∃ X, X = w.alloc (.cells #[.int .i64 e.1.1, .int .i64 e.1.2.1, .int .i64 e.1.2.2, .int .i64 e.2.1, .int .i64 e.2.2.1, .int .i64 e.2.2.2] 62) := ⟨_, rfl⟩
  rw [← hX]
  have hBX : Below w.heap.size w X := by rw [hX]; exact (Below.refl _ w).alloc (Nat.le_refl _) _
  have hbx : Blk X w.heap.size 62 (encE e).toArray := by rw [hX]; exact Blk.new _ _ _
  have hzX : X.heap.size = w.heap.size + 1 := by rw [hX]; simp
  have HX := hide (And.intro hBX hbx)
  clear hBX hbx hX
  go_loopw [5, 6] (fun v iv wr => ∃ k q : Nat, k ≤ n ∧ iv = .int .i64 k ∧ v = .int .i64 (cntE (l.take k) e : Nat) ∧ cntE (l.take k) e ≤ k ∧ wr = X.drewN q) (fun _ iv _ => n - (intOf iv).toNat)
  case atStart => exact ⟨0, 0, by omega, rfl, rfl, by simp [cntE], rfl⟩
  case round =>
    obtain ⟨k, q, hk, rfl, rfl, hck, rfl⟩ := hrel
    obtain ⟨m, hm⟩ : ∃ m, m = cntE (l.take k) e := ⟨_, rfl⟩
    rw [← hm] at hck ⊢
    by_cases hlt : k < n
    · obtain ⟨x, hx⟩ : ∃ x, l[k]? = some x := ⟨_, List.getElem?_eq_getElem (by rw [← HS.out.2.2.2]; exact hlt)⟩
      have i1 : (k : Int) < (n : Int) := by omega
      obtain ⟨b, o, hA, hb, _⟩ := HS.out.1.at hx
      subst hA
      have hslX : Sl encE 6 X w.heap.size (some ⟨b, o, none⟩) l := HS.out.1.below HX.out.1
      obtain ⟨g0, g1, g2, g3, g4, g5⟩ := hslX.ed hx
      obtain ⟨y0, y1, y2, y3, y4, y5⟩ := HX.out.2.six
      have heq := eqE x e (HS.out.2.2.1 x (List.mem_of_getElem? hx)) HS.out.2.1
      have hsn := cntE_snoc l e x k hx
      rw [← hm] at hsn
      have HK := hide (And.intro hm (And.intro hx hsn))
      clear hslX hm hx hsn
      by_cases hxe : x = e
      · have hd : decide (x = e) = true := decide_eq_true hxe
        rw [hd] at heq
        have HE := hide hxe
        clear hxe hd
        go_wp2_with fail
        go_quiet (fail)
        go_wp2
        go_roundw
        case rel =>
          have h1 := HK.out.2.2
          rw [if_pos HE.out] at h1
          exact ⟨k + 1, q + nq, by omega, by go_num, by rw [h1]; go_num, by omega, rfl⟩
        case measure => simp [intOf]; omega
      · have hd : decide (x = e) = false := decide_eq_false hxe
        rw [hd] at heq
        have HE := hide hxe
        clear hxe hd
        go_wp2_with fail
        go_quiet (fail)
        go_wp2
        go_roundw
        case rel =>
          have h1 := HK.out.2.2
          rw [if_neg HE.out] at h1
          exact ⟨k + 1, q + nq, by omega, by go_num, by rw [h1]; rfl, by omega, rfl⟩
        case measure => simp [intOf]; omega
    · have hke : k = l.length := by rw [← HS.out.2.2.2]; omega
      rw [hke, List.take_length] at hm
      have hkn : n = k := by omega
      have HE := hide hm
      clear hm hke
      subst hkn
      go_wp2
      go_ret
      exact ⟨by rw [← HE.out]; rfl, below_drewN HX.out.1 _⟩
def ltE (a b : Ed) : Bool := if a.1 = b.1 then ltP a.2 b.2 else ltP a.1 b.1
set_option maxRecDepth 100000 in
set_option maxHeartbeats 8000000 in
theorem lessEdge_any (a b : Ed) (w : World) (ha : fitsE a) (hb : fitsE b) :
    Calls Tryz.prog 55 #[vE a, vE b] w fun r w' => r = .returned (.bool (ltE a b)) ∧ Lay w w' := by
  have heq := eqP a.1 b.1 ha.1 hb.1
  have hlt : ltE a b = if a.1 = b.1 then ltP a.2 b.2 else ltP a.1 b.1 := rfl
  clear ha hb
  by_cases he : a.1 = b.1
  · have hd : decide (a.1 = b.1) = true := decide_eq_true he
    rw [hd] at heq
    rw [if_pos he] at hlt
    rw [hlt]
    clear he hd hlt
    go_enter Tryz.func55, Tryz.ntmps55
    go_wp2_with (go_at_call 83; refine (rless_any a.2 b.2 _).mono ?_; rintro e w3 ⟨rfl, hL⟩)
    go_ret
    exact ⟨rfl, (((Lay.refl _).alloc _).alloc _).trans hL⟩
  · have hd : decide (a.1 = b.1) = false := decide_eq_false he
    rw [hd] at heq
    rw [if_neg he] at hlt
    rw [hlt]
    clear he hd hlt
    go_enter Tryz.func55, Tryz.ntmps55
    go_wp2_with (go_at_call 83; refine (rless_any a.1 b.1 _).mono ?_; rintro e w3 ⟨rfl, hL⟩)
    go_ret
    exact ⟨rfl, (((Lay.refl _).alloc _).alloc _).trans hL⟩
end Go.Proofs.YtelfnmohpjkilaaGreatDoor
/- ref04.Border. -/
namespace Go.Proofs.YtelfnmohpjkilaaGreatDoor
open Go.RowKit Go.Sort
def atE (l : List Ed) (e : Ed) : Nat := (l.takeWhile fun x => ltE x e).length
def insE (l : List Ed) (e : Ed) : List Ed := l.take (atE l e) ++ (e :: l.drop (atE l e))
theorem atE_eq {l : List Ed} {p : Ed} {a : Nat} (ha : a ≤ l.length) (hlo : ∀ j q, j < a → l[j]? = some q → ltE q p = true) (hhi : ∀ q, l[a]? = some q → ltE q p = false) : a = atE l p := by
  unfold atE
  induction l generalizing a with
  | nil => simpa using ha
  | cons x l ih =>
    cases a with
    | zero =>
      have := hhi x rfl
      simp [this]
    | succ a =>
      have h0 := hlo 0 x (by omega) rfl
      rw [List.takeWhile_cons, h0, if_pos rfl, List.length_cons]
      rw [← ih (a := a) (by simpa using ha) (fun j q hj hq => hlo (j + 1) q (by omega) (by simpa using hq)) (fun q hq => hhi q (by simpa using hq))]
def swapE (e : Ed) : Ed := (e.2, e.1)
def bordS (all out : List Ed) (e : Ed) : List Ed := if 0 < cntE all (swapE e) ∨ 0 < cntE out e then out else insE out e
def bordP (all : List Ed) : List Ed := all.foldl (bordS all) []
def borderP (ts : List Tri) : List Ed := bordP (edgesP ts)
theorem insE_length (l : List Ed) (e : Ed) : (insE l e).length = l.length + 1 := by
  unfold insE
  rw [List.length_append, List.length_cons, List.length_take, List.length_drop]
  have : atE l e ≤ l.length := by unfold atE; exact (List.takeWhile_prefix _).length_le
  omega
theorem insE_mem {l : List Ed} {e x : Ed} (h : x ∈ insE l e) : x ∈ l ∨ x = e := by
  unfold insE at h
  rcases List.mem_append.1 h with h | h
  · exact .inl (List.mem_of_mem_take h)
  · rcases List.mem_cons.1 h with h | h
    · exact .inr h
    · exact .inl (List.mem_of_mem_drop h)
theorem bord_snoc (all : List Ed) (k : Nat) (e : Ed) (h : all[k]? = some e) : (all.take (k + 1)).foldl (bordS all) [] = bordS all ((all.take k).foldl (bordS all) []) e := by
  rw [List.take_add_one, h, Option.toList_some, List.foldl_append]
  rfl
/-- What the outer loop has. -/
structure BdS (w0 : Nat) (w wr : World) (ab : Nat) (all out : List Ed) (A' : Option Addr) (lo c' : Nat) : Prop where
  len : lo = out.length
  sl : Sl encE 6 wr wr.heap.size A' out
  cap : lo ≤ c'
  fit : ∀ x ∈ out, fitsE x
  bel : Below w0 w wr
  big : ab ≤ wr.heap.size
theorem BdS.step {w0 : Nat} {w wr w2 : World} {ab : Nat} {all out : List Ed} {A' : Option Addr} {lo c' : Nat} (h : BdS w0 w wr ab all out A' lo c') (hB : Below wr.heap.size wr w2) (h0 : w0 ≤ ab := by omega) : BdS w0 w w2 ab all out A' lo c' :=
  ⟨h.len, (h.sl.below hB).more hB.size, h.cap, h.fit, h.bel.trans (hB.mono (by have := h.big; omega)), by have := h.big; have := hB.size; omega⟩
set_option maxRecDepth 100000 in
set_option maxHeartbeats 8000000 in
theorem border_any (A : Option Addr) (c : Nat) (ts : List Tri) (w : World) (hs : Sl encT 9 w w.heap.size A ts) (hl : ts.length ≤ 1073741824) (hf : ∀ t ∈ ts, fitsT t) :
    Calls Tryz.prog 23 #[.slice A ts.length c] w fun e w' => ∃ A' c', e = .returned (.slice A' (borderP ts).length c') ∧ Sl encE 6 w' w'.heap.size A' (borderP ts) ∧ (borderP ts).length ≤ c' ∧ Below w.heap.size w w' := by
  have hed := edges_any A c ts w hs hl
  have hfe := edgesP_fits hf
  have hle := edgesP_length ts
  obtain ⟨all, hall⟩ : ∃ all, all = edgesP ts := ⟨_, rfl⟩
  have hbp : borderP ts = all.foldl (bordS all) [] := by unfold borderP bordP; rw [hall]
  rw [← hall] at hed hfe hle
  obtain ⟨B, hB⟩ : ∃ B, B = borderP ts := ⟨_, rfl⟩
  rw [← hB] at hbp ⊢
  obtain ⟨n, hn⟩ : ∃ n, n = all.length := ⟨_, rfl⟩
  rw [← hn] at hle hed
  have hnb : n ≤ 3221225472 := by omega
  obtain ⟨tl, htl⟩ : ∃ tl, tl = ts.length := ⟨_, rfl⟩
  rw [← htl] at hed ⊢
  have HS := hide (And.intro hed (And.intro hfe (And.intro hbp hn)))
  clear hs hf hed hfe hbp hall hB hle hn htl hl
  go_enter Tryz.func23, Tryz.ntmps23
  go_wp2_with fail
  refine HS.out.1.mono ?_
  rintro e w1 ⟨v1, rfl, hown1, hB1⟩
  obtain ⟨A1, c1, rfl⟩ := hown1.form
  have hz1 := hB1.size
  have H1 := hide (And.intro (hown1.sl encE_len (Nat.le_refl _)) hB1)
  clear hown1 hB1
  go_wp2
  go_loopw [4, 5] (fun v iv wr => ∃ (k : Nat) (A' : Option Addr) (lo c' : Nat), k ≤ n ∧ iv = .int .i64 k ∧ v = .slice A' lo c' ∧ lo ≤ k ∧ BdS w1.heap.size w1 wr w1.heap.size all ((all.take k).foldl (bordS all) []) A' lo c') (fun _ iv _ => n - (intOf iv).toNat)
  case atStart => exact ⟨0, none, 0, 0, by omega, rfl, rfl, by omega, ⟨rfl, .inl ⟨rfl, rfl⟩, Nat.le_refl _, fun x hx => absurd hx (by simp), Below.refl _ w1, Nat.le_refl _⟩⟩
  case round =>
    obtain ⟨V0, rfl⟩ : ∃ V0, V0 = wr := ⟨_, rfl⟩
    obtain ⟨k, A2, lo, c2, hk, rfl, rfl, hlo, hI⟩ := hrel
    obtain ⟨out, hout⟩ : ∃ out, out = (all.take k).foldl (bordS all) [] := ⟨_, rfl⟩
    rw [← hout] at hI
    have hzr := hI.big
    by_cases hlt : k < n
    · obtain ⟨x, hx⟩ : ∃ x, all[k]? = some x := ⟨_, List.getElem?_eq_getElem (by rw [← HS.out.2.2.2]; exact hlt)⟩
      have i1 : (k : Int) < (n : Int) := by omega
      have hfx := HS.out.2.1 x (List.mem_of_getElem? hx)
      have hsn := bord_snoc all k x hx
      rw [← hout] at hsn
      have hsa : Sl encE 6 V0 w1.heap.size A1 all := H1.out.1.below hI.bel
      obtain ⟨b, o, hA, hb, _⟩ := hsa.at hx
      subst hA
      obtain ⟨g0, g1, g2, g3, g4, g5⟩ := hsa.ed hx
      obtain ⟨X, hX⟩ : ∃ X, X = V0.alloc (.cells #[.int .i64 x.1.1, .int .i64 x.1.2.1, .int .i64 x.1.2.2, .int .i64 x.2.1, .int .i64 x.2.2.1, .int .i64 x.2.2.2] 62) := ⟨_, rfl⟩
      have hBX : Below V0.heap.size V0 X := by rw [hX]; exact (Below.refl _ V0).alloc (Nat.le_refl _) _
      have hbx : Blk X V0.heap.size 62 (encE x).toArray := by rw [hX]; exact Blk.new _ _ _
      have hzX : X.heap.size = V0.heap.size + 1 := by rw [hX]; simp
      have hc1 := count_any (some ⟨b, o, none⟩) c1 all (swapE x) X ((hsa.below (hBX.mono hzr)).more (by omega)) (by rw [← HS.out.2.2.2]; omega) ⟨hfx.2, hfx.1⟩ HS.out.2.1
      have hc2 := fun W (hW : Below X.heap.size X W) => count_any A2 c2 out x W (((hI.sl.below hBX).below (hW.mono (by omega))).more (by have := hW.size; omega)) (by rw [← hI.len]; omega) hfx hI.fit
      rw [← HS.out.2.2.2] at hc1
      rw [← hI.len] at hc2
      obtain ⟨m1, hm1⟩ : ∃ m, m = cntE all (swapE x) := ⟨_, rfl⟩
      obtain ⟨m2, hm2⟩ : ∃ m, m = cntE out x := ⟨_, rfl⟩
      rw [← hm1] at hc1
      rw [← hm2] at hc2
      have hbs : bordS all out x = if 0 < m1 ∨ 0 < m2 then out else insE out x := by unfold bordS; rw [← hm1, ← hm2]
      have HK := hide (And.intro hI (And.intro hc1 (And.intro hc2 (And.intro (hsn.trans hbs) (And.intro hBX (And.intro hbx (And.intro hX hfx)))))))
      clear hI hc1 hc2 hsn hsa hbs hBX hbx hfx hx hm1 hm2 hX
      go_wp2_with fail
      rw [← HK.out.2.2.2.2.2.2.1]
      obtain ⟨y0, y1, y2, y3, y4, y5⟩ := HK.out.2.2.2.2.2.1.six
      refine HK.out.2.1.mono ?_
      rintro e w2 ⟨rfl, hB2⟩
      have hz2 := hB2.size
      obtain ⟨u0, u1, u2, u3, u4, u5⟩ := (HK.out.2.2.2.2.2.1.below hB2 (by omega)).six
      have HB2 := hide hB2
      clear hB2 y0 y1 y2 y3 y4 y5 g0 g1 g2 g3 g4 g5
      by_cases h1 : 0 < m1
      · have j1 : (0 : Int) < (m1 : Int) := by omega
        go_wp2
        go_roundw
        case rel =>
          refine ⟨k + 1, A2, lo, c2, by omega, by go_num, rfl, by omega, ?_⟩
          have he := HK.out.2.2.2.1
          rw [if_pos (.inl h1)] at he
          rw [he]
          exact HK.out.1.step (HK.out.2.2.2.2.1.trans (HB2.out.mono (by omega)))
        case measure => simp [intOf]; omega
      · have h10 : m1 = 0 := by omega
        subst h10
        go_wp2_with fail
        refine (HK.out.2.2.1 _ HB2.out).mono ?_
        rintro e w3 ⟨rfl, hB3⟩
        have hz3 := hB3.size
        have hB23 : Below V0.heap.size V0 w3 := HK.out.2.2.2.2.1.trans ((HB2.out.mono (by omega)).trans (hB3.mono (by omega)))
        have hb3 := (HK.out.2.2.2.2.2.1.below HB2.out (by omega)).below hB3 (by omega)
        obtain ⟨x0, x1, x2, x3, x4, x5⟩ := hb3.six
        have HB3 := hide (And.intro hB23 hb3)
        clear hB3 hB23 hb3 u0 u1 u2 u3 u4 u5
        by_cases h2 : 0 < m2
        · have j2 : (0 : Int) < (m2 : Int) := by omega
          go_wp2
          go_roundw
          case rel =>
            refine ⟨k + 1, A2, lo, c2, by omega, by go_num, rfl, by omega, ?_⟩
            have he := HK.out.2.2.2.1
            rw [if_pos (.inr h2)] at he
            rw [he]
            exact HK.out.1.step HB3.out.1
          case measure => simp [intOf]; omega
        · have h20 : m2 = 0 := by omega
          subst h20
          have hI3 := HK.out.1.step HB3.out.1
          have he := HK.out.2.2.2.1
          rw [if_neg (by omega)] at he
          have H3 := hide (And.intro hI3 he)
          clear hI3 he h1 h2
          go_upto_block 2 with fail
          go_cut [7] (fun a wx => ∃ a' : Nat, a = .int .i64 a' ∧ a' ≤ lo ∧ (∀ j q, j < a' → out[j]? = some q → ltE q x = true) ∧ (∀ q, out[a']? = some q → ltE q x = false) ∧ RB w3 wx)
          case first =>
            go_wp2_with fail
            go_loopw [7] (fun a wx => ∃ a' : Nat, a = .int .i64 a' ∧ a' ≤ lo ∧ (∀ j q, j < a' → out[j]? = some q → ltE q x = true) ∧ RB w3 wx) (fun a _ => lo - (intOf a).toNat)
            case atStart => exact ⟨0, rfl, Nat.zero_le _, fun j q h => absurd h (by omega), RB.refl _⟩
            case round =>
              obtain ⟨a, rfl, ha, hlt3, hR⟩ := hrel
              have hszR := hR.size
              have hbx := HB3.out.2.below hR HB3.out.2.lt
              by_cases hla : a < lo
              · obtain ⟨q, hq⟩ : ∃ q, out[a]? = some q := ⟨_, List.getElem?_eq_getElem (by rw [← H3.out.1.len]; exact hla)⟩
                have hfq := H3.out.1.fit q (List.mem_of_getElem? hq)
                obtain ⟨bp, op, hAp, hbp, _⟩ := (H3.out.1.sl.below hR).at hq
                subst hAp
                obtain ⟨k0, k1, k2, k3, k4, k5⟩ := (H3.out.1.sl.below hR).ed hq
                obtain ⟨x0, x1, x2, x3, x4, x5⟩ := hbx.six
                have hbpR : bp < wr.heap.size := by omega
                have hbxR := hbx.lt
                have i2 : (a : Int) < (lo : Int) := by omega
                have HL := hide (And.intro hlt3 (And.intro hR hq))
                clear hlt3 hR hq hbx
                cases hless : ltE q x
                · have HLS := hide hless
                  go_wp2_with fail
                  go_region_held3 (fun w' => w'.cell? ⟨bp, op + a * 6, none⟩ = some (.int .i64 q.1.1) ∧ w'.cell? ⟨bp, op + a * 6 + 1, none⟩ = some (.int .i64 q.1.2.1) ∧ w'.cell? ⟨bp, op + a * 6 + 2, none⟩ = some (.int .i64 q.1.2.2) ∧ w'.cell? ⟨bp, op + a * 6 + 3, none⟩ = some (.int .i64 q.2.1) ∧ w'.cell? ⟨bp, op + a * 6 + 4, none⟩ = some (.int .i64 q.2.2.1) ∧ w'.cell? ⟨bp, op + a * 6 + 5, none⟩ = some (.int .i64 q.2.2.2) ∧ w'.cell? ⟨V0.heap.size, 0, none⟩ = some (.int .i64 x.1.1) ∧ w'.cell? ⟨V0.heap.size, 1, none⟩ = some (.int .i64 x.1.2.1) ∧ w'.cell? ⟨V0.heap.size, 2, none⟩ = some (.int .i64 x.1.2.2) ∧ w'.cell? ⟨V0.heap.size, 3, none⟩ = some (.int .i64 x.2.1) ∧ w'.cell? ⟨V0.heap.size, 4, none⟩ = some (.int .i64 x.2.2.1) ∧ w'.cell? ⟨V0.heap.size, 5, none⟩ = some (.int .i64 x.2.2.2)) (first | go_keep | exact ⟨cell_lay hL k0, cell_lay hL k1, cell_lay hL k2, cell_lay hL k3, cell_lay hL k4, cell_lay hL k5, cell_lay hL x0, cell_lay hL x1, cell_lay hL x2, cell_lay hL x3, cell_lay hL x4, cell_lay hL x5⟩) ((go_at_call 55; refine (lessEdge_any q x _ hfq HK.out.2.2.2.2.2.2.2).mono ?_; rintro e w3 ⟨rfl, hL⟩; rw [hless]))
                  go_wp2_with fail
                  go_meet
                  case rel =>
                    refine ⟨a, rfl, ha, HL.out.1, fun q' hq' => ?_, HL.out.2.1.trans _ _ _ ((below_drew wr).trans hL.below)⟩
                    rw [HL.out.2.2] at hq'
                    cases hq'
                    exact HLS.out
                · have HLS := hide hless
                  go_wp2_with fail
                  go_region_held3 (fun w' => w'.cell? ⟨bp, op + a * 6, none⟩ = some (.int .i64 q.1.1) ∧ w'.cell? ⟨bp, op + a * 6 + 1, none⟩ = some (.int .i64 q.1.2.1) ∧ w'.cell? ⟨bp, op + a * 6 + 2, none⟩ = some (.int .i64 q.1.2.2) ∧ w'.cell? ⟨bp, op + a * 6 + 3, none⟩ = some (.int .i64 q.2.1) ∧ w'.cell? ⟨bp, op + a * 6 + 4, none⟩ = some (.int .i64 q.2.2.1) ∧ w'.cell? ⟨bp, op + a * 6 + 5, none⟩ = some (.int .i64 q.2.2.2) ∧ w'.cell? ⟨V0.heap.size, 0, none⟩ = some (.int .i64 x.1.1) ∧ w'.cell? ⟨V0.heap.size, 1, none⟩ = some (.int .i64 x.1.2.1) ∧ w'.cell? ⟨V0.heap.size, 2, none⟩ = some (.int .i64 x.1.2.2) ∧ w'.cell? ⟨V0.heap.size, 3, none⟩ = some (.int .i64 x.2.1) ∧ w'.cell? ⟨V0.heap.size, 4, none⟩ = some (.int .i64 x.2.2.1) ∧ w'.cell? ⟨V0.heap.size, 5, none⟩ = some (.int .i64 x.2.2.2)) (first | go_keep | exact ⟨cell_lay hL k0, cell_lay hL k1, cell_lay hL k2, cell_lay hL k3, cell_lay hL k4, cell_lay hL k5, cell_lay hL x0, cell_lay hL x1, cell_lay hL x2, cell_lay hL x3, cell_lay hL x4, cell_lay hL x5⟩) ((go_at_call 55; refine (lessEdge_any q x _ hfq HK.out.2.2.2.2.2.2.2).mono ?_; rintro e w3 ⟨rfl, hL⟩; rw [hless]))
                  go_wp2_with fail
                  go_roundw
                  case rel =>
                    refine ⟨a + 1, by go_num, by omega, fun j q' hj hq' => ?_, HL.out.2.1.trans _ _ _ ((below_drew wr).trans hL.below)⟩
                    rcases Nat.lt_or_ge j a with h | h
                    · exact HL.out.1 j q' h hq'
                    · have hja : j = a := by omega
                      subst hja
                      rw [HL.out.2.2] at hq'
                      cases hq'
                      exact HLS.out
                  case measure => simp [intOf]; omega
              · have hae : a = lo := by omega
                have HL := hide (And.intro hlt3 (And.intro hR hae))
                clear hlt3 hR hbx hae
                go_wp2_with fail
                go_meet
                case rel => exact ⟨a, rfl, ha, HL.out.1, (fun q' hq' => by rw [HL.out.2.2, H3.out.1.len, List.getElem?_eq_none (Nat.le_refl _)] at hq'; cases hq'), HL.out.2.1⟩
          case rest =>
            obtain ⟨a, rfl, ha, hlo', hhi, hR⟩ := hcut
            have hat : a = atE out x := atE_eq (by rw [← H3.out.1.len]; exact ha) hlo' hhi
            have hI4 := H3.out.1.step hR
            have hb4 := HB3.out.2.below hR HB3.out.2.lt
            have hzc := hR.size
            obtain ⟨x0', x1', x2', x3', x4', x5'⟩ := hb4.six
            obtain ⟨W, hW⟩ : ∃ W, W = wc := ⟨_, rfl⟩
            rw [← hW] at hI4 hb4 hzc hR x0' x1' x2' x3' x4' x5' ⊢
            have hzW1 := hb4.lt
            have hzW2 := hI4.big
            have hc2 := hI4.cap
            have hln := hI4.len
            have hta : (out.take a).length = a := by rw [List.length_take]; omega
            have htd : (out.drop a).length = lo - a := by rw [List.length_drop, ← hln]
            have hrunH : ∀ V : World, (Instr.slice 37 (.slice A2 lo c2) none (some (.int .i64 a)) none).run Tryz.prog V = .ok (.slice A2 a c2) V := fun V => run_cutH Tryz.underlying37 Tryz.sizeOf62 ha hc2 V
            have hrunL : ∀ V : World, (Instr.slice 37 (.slice A2 lo c2) (some (.int .i64 a)) none none).run Tryz.prog V = .ok (.slice (cutA A2 c2 a 6) (lo - a) (c2 - a)) V := fun V => run_cut Tryz.underlying37 Tryz.sizeOf62 ha V
            have hslT : Sl encE 6 W W.heap.size A2 (out.take a) := hI4.sl.take8 a
            have hslD : Sl encE 6 W W.heap.size (cutA A2 c2 a 6) (out.drop a) := hI4.sl.cut (by rw [← hln]; exact ha) (by rw [← hln]; exact hc2)
            have HT := hide (And.intro hslT (And.intro hslD (And.intro hta (And.intro htd (And.intro hI4 (And.intro hb4 (And.intro hat hln)))))))
            clear hI4 hb4 hslT hslD hta htd hR hlo' hhi hat hW hln
            go_upto_region 15 with (at_builtin; refine wpList_appendS rfl _ _ _ rfl Tryz.underlying37 infoE rfl (by omega) encE_len encE_one rfl (Own.nil (base := W.heap.size)) A2 c2 W.heap.size (out.take a) (by rw [HT.out.2.2.1]; rfl) HT.out.1 (by rw [HT.out.2.2.1]; unfold maxLen; omega) (by rw [HT.out.2.2.1]; omega) (Nat.le_refl _) ?_; intro v1 w4 hown4 hg1 hB4 hat1; rw [HT.out.2.2.1, Nat.zero_add, List.nil_append] at hown4; obtain ⟨A4, c4, rfl⟩ := hown4.form)
            have y0 := (hB4.cell (p := ⟨V0.heap.size, 0, none⟩) hzW1).trans x0'
            have y1 := (hB4.cell (p := ⟨V0.heap.size, 1, none⟩) hzW1).trans x1'
            have y2 := (hB4.cell (p := ⟨V0.heap.size, 2, none⟩) hzW1).trans x2'
            have y3 := (hB4.cell (p := ⟨V0.heap.size, 3, none⟩) hzW1).trans x3'
            have y4 := (hB4.cell (p := ⟨V0.heap.size, 4, none⟩) hzW1).trans x4'
            have y5 := (hB4.cell (p := ⟨V0.heap.size, 5, none⟩) hzW1).trans x5'
            have HO1 := hide (And.intro hown4 hB4)
            have hz4 := hB4.size
            have hown4' := hown4.alloc (.cells #[.int .i64 x.1.1, .int .i64 x.1.2.1, .int .i64 x.1.2.2, .int .i64 x.2.1, .int .i64 x.2.2.1, .int .i64 x.2.2.2] 62)
            clear hown4 hg1 hB4 hat1 x0' x1' x2' x3' x4' x5'
            go_upto_region 16 with (at_builtin; refine wpList_append1 rfl _ _ _ rfl Tryz.underlying37 infoE rfl (by omega) encE_len encE_one rfl hown4' w4.heap.size 1 x rfl (Blk.new _ _ _) (by unfold maxLen; omega) (by omega) (by simp; omega) ?_; intro g2' cap2 w5 hown5 hg2' hB5 hat2 hgb2 hlt2)
            have hB15 : Below W.heap.size W w5 := HO1.out.2.trans (((Below.refl _ w4).alloc (by omega) _).trans hB5)
            have hz5 := hB15.size
            have HO2 := hide (And.intro hown5 (And.intro hB15 ((HT.out.2.1.below hB15))))
            clear hown5 hg2' hB5 hat2 hown4' hB15 y0 y1 y2 y3 y4 y5
            go_wp2_with (at_builtin; refine wpList_appendS rfl _ _ _ rfl Tryz.underlying37 infoE rfl (by omega) encE_len encE_one rfl HO2.out.1 (cutA A2 c2 a 6) (c2 - a) W.heap.size (out.drop a) (by rw [HT.out.2.2.2.1]; rfl) HO2.out.2.2 (by rw [HT.out.2.2.2.1]; unfold maxLen; omega) (by rw [HT.out.2.2.2.1]; omega) hz5 ?_; intro v6 w6 hown6 hg6 hB6 hat6; obtain ⟨A6, c6, rfl⟩ := hown6.form)
            go_roundw
            case rel =>
              have hln := HT.out.2.2.2.2.2.2.2
              rw [List.append_assoc, List.singleton_append, HT.out.2.2.2.1] at hown6
              have hins : out.take a ++ (x :: out.drop a) = insE out x := by unfold insE; rw [← HT.out.2.2.2.2.2.2.1]
              rw [hins] at hown6
              refine ⟨k + 1, A6, _, c6, by omega, by go_num, rfl, ?_, ?_⟩
              · rw [← hout, ← hln]; omega
              · rw [← hout, ← hln, H3.out.2]
                have hB6' : Below w1.heap.size w1 w6 := HT.out.2.2.2.2.1.bel.trans ((HO2.out.2.1.mono (by omega)).trans (hB6.mono (by omega)))
                refine ⟨hown6.1, hown6.sl encE_len (Nat.le_refl _), hown6.place.1, fun y hy => ?_, hB6', hB6'.size⟩
                rcases insE_mem hy with h | h
                · exact HT.out.2.2.2.2.1.fit y h
                · rw [h]; exact HK.out.2.2.2.2.2.2.2
            case measure => simp [intOf]; omega
    · have hke : k = all.length := by rw [← HS.out.2.2.2]; omega
      rw [hke, List.take_length, ← HS.out.2.2.1] at hout
      have hkn : n = k := by omega
      rw [hout] at hI
      have HE := hide hI
      clear hI hout hke
      subst hkn
      go_wp2
      go_ret
      exact ⟨A2, c2, by rw [← HE.out.len]; rfl, HE.out.sl, by rw [← HE.out.len]; exact HE.out.cap, H1.out.2.trans (HE.out.bel.mono hz1)⟩
end Go.Proofs.YtelfnmohpjkilaaGreatDoor
/- ref04.behind (printed by mk_Beh.py). -/
namespace Go.Proofs.YtelfnmohpjkilaaGreatDoor
open Go.RowKit Go.Sort
def behK (t : Tri) (p q : Pt) : Option Pt := if t.1 = p ∧ t.2.1 = q then some t.2.2 else if t.2.1 = p ∧ t.2.2 = q then some t.1 else if t.2.2 = p ∧ t.1 = q then some t.2.1 else none
/-- The corner behind the edge from p to q. -/
def behP (l : List Tri) (p q : Pt) : Option Pt := l.findSome? fun t => behK t p q
theorem behK_at {t : Tri} {p q : Pt} (j : Nat) (hj : j < 3) (h1 : corner t j = p) (h2 : corner t ((j + 1) % 3) = q) (hn : ∀ i, i < j → ¬(corner t i = p ∧ corner t ((i + 1) % 3) = q)) : behK t p q = some (corner t ((j + 2) % 3)) := by
  unfold behK
  have hc : j = 0 ∨ j = 1 ∨ j = 2 := by omega
  rcases hc with rfl | rfl | rfl
  · exact if_pos ⟨h1, h2⟩
  · exact (if_neg (hn 0 (by omega))).trans (if_pos ⟨h1, h2⟩)
  · exact (if_neg (hn 0 (by omega))).trans ((if_neg (hn 1 (by omega))).trans (if_pos ⟨h1, h2⟩))
theorem behK_none {t : Tri} {p q : Pt} (hn : ∀ i, i < 3 → ¬(corner t i = p ∧ corner t ((i + 1) % 3) = q)) : behK t p q = none := by
  unfold behK
  exact (if_neg (hn 0 (by omega))).trans ((if_neg (hn 1 (by omega))).trans (if_neg (hn 2 (by omega))))
theorem noJ_succ {t : Tri} {p q : Pt} {j : Nat} (hn : ∀ i, i < j → ¬(corner t i = p ∧ corner t ((i + 1) % 3) = q)) (h : ¬(corner t j = p ∧ corner t ((j + 1) % 3) = q)) : ∀ i, i < j + 1 → ¬(corner t i = p ∧ corner t ((i + 1) % 3) = q) := fun i hi => by
  rcases Nat.lt_or_ge i j with h1 | h1
  · exact hn i h1
  · have e : i = j := by omega
    rw [e]; exact h
theorem findSome_take {α β : Type} (f : α → Option β) (l : List α) (k : Nat) (x : α) (h : l[k]? = some x) : (l.take (k + 1)).findSome? f = ((l.take k).findSome? f).or (f x) := by
  rw [List.take_add_one, h, Option.toList_some, List.findSome?_append]
  simp [List.findSome?_cons]
  cases f x <;> rfl
theorem bh_some {l : List Tri} {p q r : Pt} {k : Nat} {t : Tri} (h : l[k]? = some t) (hn : behP (l.take k) p q = none) (hb : behK t p q = some r) : behP l p q = some r := by
  have h1 : behP (l.take (k + 1)) p q = some r := by
    unfold behP at hn ⊢
    rw [findSome_take _ _ _ _ h, hn, hb]; rfl
  unfold behP at h1 ⊢
  rw [← List.take_append_drop (k + 1) l, List.findSome?_append, h1]
  rfl
/-- Where the boxes lie. -/
structure BhX (w X : World) (p q : Pt) : Prop where
  bel : Below w.heap.size w X
  bp : Blk X w.heap.size 41 #[.int .i64 p.1, .int .i64 p.2.1, .int .i64 p.2.2]
  bq : Blk X (w.heap.size + 1) 41 #[.int .i64 q.1, .int .i64 q.2.1, .int .i64 q.2.2]
  br : Blk X (w.heap.size + 1 + 1) 41 #[.int .i64 0, .int .i64 0, .int .i64 0]
theorem beh_ret {w X : World} {p q r : Pt} {b : Bool} {fn : Func} {R : Ending → World → Prop} {a : Act} {w' : World} (hd : a.defers = []) (h : BhX w X p q) (m : Nat)
    (hr : ∀ Z : World, Z.cell? ⟨w.heap.size + 1 + 1, 0, none⟩ = some (.int .i64 r.1) → Z.cell? ⟨w.heap.size + 1 + 1, 1, none⟩ = some (.int .i64 r.2.1) → Z.cell? ⟨w.heap.size + 1 + 1, 2, none⟩ = some (.int .i64 r.2.2) → (results fn a.tmps).run Tryz.prog Z = .ok (.tuple #[vP r, .bool b]) Z)
    (hw : w' = ((((X.drewN m).setCell ⟨w.heap.size + 1 + 1, 0, none⟩ (.int .i64 r.1)).setCell ⟨w.heap.size + 1 + 1, 1, none⟩ (.int .i64 r.2.1)).setCell ⟨w.heap.size + 1 + 1, 2, none⟩ (.int .i64 r.2.2)))
    (hR : ∀ W, Below w.heap.size w W → R (.returned (.tuple #[vP r, .bool b])) W) : bodyPost Tryz.prog fn R .ret a w' := by
  subst hw
  obtain ⟨z0, z1, z2⟩ := ((h.br.drewN m).set3 (.int .i64 r.1) (.int .i64 r.2.1) (.int .i64 r.2.2)).three8
  exact bodyPost_ret (hr _ z0 z1 z2) hd (hR _ ((((below_drewN h.bel m).setCell (by dsimp only; omega) _).setCell (by dsimp only; omega) _).setCell (by dsimp only; omega) _))
set_option maxRecDepth 100000 in
set_option maxHeartbeats 16000000 in
theorem behind_any (A : Option Addr) (c : Nat) (l : List Tri) (p q : Pt) (w : World) (hs : Sl encT 9 w w.heap.size A l) (hl : l.length ≤ 4294967296) (hp : fitsP p) (hq : fitsP q) (hf : ∀ t ∈ l, fitsT t) :
    Calls Tryz.prog 103 #[.slice A l.length c, vP p, vP q] w fun e w' => e = .returned (.tuple #[vP ((behP l p q).getD p), .bool (behP l p q).isSome]) ∧ Below w.heap.size w w' := by
  obtain ⟨n, hn⟩ : ∃ n, n = l.length := ⟨_, rfl⟩
  rw [← hn] at hl ⊢
  have HS := hide (And.intro hs (And.intro hn (And.intro hf trivial)))
  have HP := hide (And.intro hp (And.intro hq trivial))
  clear hs hn hf hp hq
  go_enter Tryz.func103, Tryz.ntmps103
  go_wp2_with fail
  obtain ⟨X, hX⟩ : ∃ X, X = ((w.alloc (.cells #[.int .i64 p.1, .int .i64 p.2.1, .int .i64 p.2.2] 41)).alloc (.cells #[.int .i64 q.1, .int .i64 q.2.1, .int .i64 q.2.2] 41)).alloc (.cells #[.int .i64 0, .int .i64 0, .int .i64 0] 41) := ⟨_, rfl⟩
  rw [← hX]
  have hBX : BhX w X p q := by
    rw [hX]
    refine ⟨(((Below.refl _ w).alloc (Nat.le_refl _) _).alloc (by simp) _).alloc (by simp; omega) _, ((Blk.new _ _ _).alloc _).alloc _, (Blk.new' _ _ _ _ (by simp)).alloc _, Blk.new' _ _ _ _ (by simp)⟩
  have hslX : Sl encT 9 X w.heap.size A l := HS.out.1.below hBX.bel
  have hzX : X.heap.size = w.heap.size + 3 := by rw [hX]; simp
  have HX := hide (And.intro hBX (And.intro hslX trivial))
  clear hX hBX hslX
  go_loopw [8] (fun iv wr => ∃ k m : Nat, k ≤ n ∧ iv = .int .i64 k ∧ behP (l.take k) p q = none ∧ wr = X.drewN m) (fun iv _ => n - (intOf iv).toNat)
  case atStart => exact ⟨0, 0, by omega, rfl, rfl, rfl⟩
  case round =>
    obtain ⟨k, m0, hk, rfl, hno, rfl⟩ := hrel
    by_cases hlt : k < n
    · obtain ⟨t, ht⟩ : ∃ t, l[k]? = some t := ⟨_, List.getElem?_eq_getElem (by rw [← HS.out.2.1]; exact hlt)⟩
      have i1 : (k : Int) < (n : Int) := by omega
      obtain ⟨b, o, hA, hb, hct⟩ := HX.out.2.1.tri ht
      subst hA
      have HK := hide (And.intro ht hno)
      have HC := hide hct
      clear ht hno hct
      go_wp2
      go_loopw [9] (fun iv wr => ∃ j m : Nat, j ≤ 3 ∧ iv = .int .i64 j ∧ (∀ i, i < j → ¬(corner t i = p ∧ corner t ((i + 1) % 3) = q)) ∧ wr = X.drewN m) (fun iv _ => 3 - (intOf iv).toNat)
      case atStart => exact ⟨0, m0, by omega, rfl, fun i hi => absurd hi (by omega), rfl⟩
      case round =>
        obtain ⟨j, m, hj, rfl, hnj, rfl⟩ := hrel
        have HJ := hide hnj
        clear hnj
        have hc : j = 0 ∨ j = 1 ∨ j = 2 ∨ j = 3 := by omega
        obtain ⟨g0, g1, g2, g3, g4, g5, g6, g7, g8⟩ := HC.out
        obtain ⟨x0, x1, x2⟩ := HX.out.1.bp.three8
        obtain ⟨y0, y1, y2⟩ := HX.out.1.bq.three8
        rcases hc with rfl | rfl | rfl | rfl
        · have e1 := eqP t.1 p (HS.out.2.2.1 t (List.mem_of_getElem? HK.out.1)).1 HP.out.1
          have e2 := eqP t.2.1 q (HS.out.2.2.1 t (List.mem_of_getElem? HK.out.1)).2.1 HP.out.2.1
          by_cases h1 : t.1 = p
          · have d1 : decide (t.1 = p) = true := decide_eq_true h1
            rw [d1] at e1
            by_cases h2 : t.2.1 = q
            · have d2 : decide (t.2.1 = q) = true := decide_eq_true h2
              rw [d2] at e2
              have hb : behK t p q = some t.2.2 := behK_at 0 (by omega) h1 h2 HJ.out
              have HB := hide (bh_some HK.out.1 HK.out.2 hb)
              clear h1 h2 d1 d2 hb
              go_wp2_with fail
              go_quiet (fail)
              have hr := HX.out.1.br.drewN (m + nq)
              obtain ⟨r0, r1, r2⟩ := hr.three8
              have f0 := hr.frozen 0
              have f1 := hr.frozen 1
              have f2 := hr.frozen 2
              go_wp2
              refine beh_ret (r := t.2.2) (b := true) rfl HX.out.1 (m + nq) ?_ rfl ?_
              · intro Z z0 z1 z2; simp [results, Tryz.results103, go_sem, z0, z1, z2]
              · intro W hW; exact ⟨by rw [HB.out]; rfl, hW⟩
            · have d2 : decide (t.2.1 = q) = false := decide_eq_false h2
              rw [d2] at e2
              have HN := hide (show ∀ i, i < 0 + 1 → ¬(corner t i = p ∧ corner t ((i + 1) % 3) = q) from noJ_succ HJ.out (fun h => h2 h.2))
              clear h1 h2 d1 d2
              go_wp2_with fail
              go_quiet (fail)
              go_wp2
              go_roundw
              case rel => exact ⟨0 + 1, m + nq, by omega, by go_num, HN.out, rfl⟩
              case measure => (simp [intOf] <;> omega)
          · have d1 : decide (t.1 = p) = false := decide_eq_false h1
            rw [d1] at e1
            have HN := hide (show ∀ i, i < 0 + 1 → ¬(corner t i = p ∧ corner t ((i + 1) % 3) = q) from noJ_succ HJ.out (fun h => h1 h.1))
            clear h1 d1
            go_wp2_with fail
            go_quiet (fail)
            go_wp2
            go_roundw
            case rel => exact ⟨0 + 1, m + nq, by omega, by go_num, HN.out, rfl⟩
            case measure => (simp [intOf] <;> omega)
        · have e1 := eqP t.2.1 p (HS.out.2.2.1 t (List.mem_of_getElem? HK.out.1)).2.1 HP.out.1
          have e2 := eqP t.2.2 q (HS.out.2.2.1 t (List.mem_of_getElem? HK.out.1)).2.2 HP.out.2.1
          by_cases h1 : t.2.1 = p
          · have d1 : decide (t.2.1 = p) = true := decide_eq_true h1
            rw [d1] at e1
            by_cases h2 : t.2.2 = q
            · have d2 : decide (t.2.2 = q) = true := decide_eq_true h2
              rw [d2] at e2
              have hb : behK t p q = some t.1 := behK_at 1 (by omega) h1 h2 HJ.out
              have HB := hide (bh_some HK.out.1 HK.out.2 hb)
              clear h1 h2 d1 d2 hb
              go_wp2_with fail
              go_quiet (fail)
              have hr := HX.out.1.br.drewN (m + nq)
              obtain ⟨r0, r1, r2⟩ := hr.three8
              have f0 := hr.frozen 0
              have f1 := hr.frozen 1
              have f2 := hr.frozen 2
              go_wp2
              refine beh_ret (r := t.1) (b := true) rfl HX.out.1 (m + nq) ?_ rfl ?_
              · intro Z z0 z1 z2; simp [results, Tryz.results103, go_sem, z0, z1, z2]
              · intro W hW; exact ⟨by rw [HB.out]; rfl, hW⟩
            · have d2 : decide (t.2.2 = q) = false := decide_eq_false h2
              rw [d2] at e2
              have HN := hide (show ∀ i, i < 1 + 1 → ¬(corner t i = p ∧ corner t ((i + 1) % 3) = q) from noJ_succ HJ.out (fun h => h2 h.2))
              clear h1 h2 d1 d2
              go_wp2_with fail
              go_quiet (fail)
              go_wp2
              go_roundw
              case rel => exact ⟨1 + 1, m + nq, by omega, by go_num, HN.out, rfl⟩
              case measure => (simp [intOf] <;> omega)
          · have d1 : decide (t.2.1 = p) = false := decide_eq_false h1
            rw [d1] at e1
            have HN := hide (show ∀ i, i < 1 + 1 → ¬(corner t i = p ∧ corner t ((i + 1) % 3) = q) from noJ_succ HJ.out (fun h => h1 h.1))
            clear h1 d1
            go_wp2_with fail
            go_quiet (fail)
            go_wp2
            go_roundw
            case rel => exact ⟨1 + 1, m + nq, by omega, by go_num, HN.out, rfl⟩
            case measure => (simp [intOf] <;> omega)
        · have e1 := eqP t.2.2 p (HS.out.2.2.1 t (List.mem_of_getElem? HK.out.1)).2.2 HP.out.1
          have e2 := eqP t.1 q (HS.out.2.2.1 t (List.mem_of_getElem? HK.out.1)).1 HP.out.2.1
          by_cases h1 : t.2.2 = p
          · have d1 : decide (t.2.2 = p) = true := decide_eq_true h1
            rw [d1] at e1
            by_cases h2 : t.1 = q
            · have d2 : decide (t.1 = q) = true := decide_eq_true h2
              rw [d2] at e2
              have hb : behK t p q = some t.2.1 := behK_at 2 (by omega) h1 h2 HJ.out
              have HB := hide (bh_some HK.out.1 HK.out.2 hb)
              clear h1 h2 d1 d2 hb
              go_wp2_with fail
              go_quiet (fail)
              have hr := HX.out.1.br.drewN (m + nq)
              obtain ⟨r0, r1, r2⟩ := hr.three8
              have f0 := hr.frozen 0
              have f1 := hr.frozen 1
              have f2 := hr.frozen 2
              go_wp2
              refine beh_ret (r := t.2.1) (b := true) rfl HX.out.1 (m + nq) ?_ rfl ?_
              · intro Z z0 z1 z2; simp [results, Tryz.results103, go_sem, z0, z1, z2]
              · intro W hW; exact ⟨by rw [HB.out]; rfl, hW⟩
            · have d2 : decide (t.1 = q) = false := decide_eq_false h2
              rw [d2] at e2
              have HN := hide (show ∀ i, i < 2 + 1 → ¬(corner t i = p ∧ corner t ((i + 1) % 3) = q) from noJ_succ HJ.out (fun h => h2 h.2))
              clear h1 h2 d1 d2
              go_wp2_with fail
              go_quiet (fail)
              go_wp2
              go_roundw
              case rel => exact ⟨2 + 1, m + nq, by omega, by go_num, HN.out, rfl⟩
              case measure => (simp [intOf] <;> omega)
          · have d1 : decide (t.2.2 = p) = false := decide_eq_false h1
            rw [d1] at e1
            have HN := hide (show ∀ i, i < 2 + 1 → ¬(corner t i = p ∧ corner t ((i + 1) % 3) = q) from noJ_succ HJ.out (fun h => h1 h.1))
            clear h1 d1
            go_wp2_with fail
            go_quiet (fail)
            go_wp2
            go_roundw
            case rel => exact ⟨2 + 1, m + nq, by omega, by go_num, HN.out, rfl⟩
            case measure => (simp [intOf] <;> omega)
        · have hb := behK_none HJ.out
          have hn1 : behP (l.take (k + 1)) p q = none := by
            have h1 := HK.out.2
            unfold behP at h1 ⊢
            rw [findSome_take _ _ _ _ HK.out.1, h1, hb]; rfl
          have HN := hide hn1
          clear hb hn1 g0 g1 g2 g3 g4 g5 g6 g7 g8
          go_wp2
          go_roundw
          case rel => exact ⟨k + 1, m, by omega, by go_num, HN.out, rfl⟩
          case measure => simp [intOf]; omega
    · have hke : k = l.length := by rw [← HS.out.2.1]; omega
      rw [hke, List.take_length] at hno
      have hkn : n = k := by omega
      have HE := hide hno
      clear hno hke
      subst hkn
      obtain ⟨x0, x1, x2⟩ := HX.out.1.bp.three8
      obtain ⟨r0, r1, r2⟩ := HX.out.1.br.three8
      have f0 := HX.out.1.br.frozen 0
      have f1 := HX.out.1.br.frozen 1
      have f2 := HX.out.1.br.frozen 2
      go_wp2
      refine beh_ret (r := p) (b := false) rfl HX.out.1 m0 ?_ rfl ?_
      · intro Z z0 z1 z2
        simp [results, Tryz.results103, go_sem, z0, z1, z2]
      · intro W hW
        exact ⟨by rw [HE.out]; rfl, hW⟩
end Go.Proofs.YtelfnmohpjkilaaGreatDoor
/- ref04.pinched (printed by mk_Pin.py). -/
namespace Go.Proofs.YtelfnmohpjkilaaGreatDoor
open Go.RowKit Go.Sort
theorem own_row8 {β : Type} {encb : β → List Value} {kb : Nat} {eb : TypeId} {n base : Nat} {w : World} {v : Value} {xs : List β} {t : TypeId} (h : Own encb kb eb w base v n xs) (hte : eb ≠ t) : ∀ r, v.ownBlock = some r → r < base ∨ ∀ cs, w.heap[r]? ≠ some (.cells cs t (0, 0)) := fun r hr => by
  obtain ⟨cs, hc⟩ := h.cells r hr
  refine .inr fun cs' hc' => ?_
  rw [hc] at hc'
  cases hc'
  exact hte rfl
/-- The triangles at p, with the corner that follows there. -/
def pinN (t : Tri) (p : Pt) (j : Nat) : List (Tri × Pt) := (List.range j).flatMap fun i => if corner t i = p then [(t, corner t ((i + 1) % 3))] else []
def pinL (l : List Tri) (p : Pt) : List (Tri × Pt) := l.flatMap fun t => pinN t p 3
theorem pinN_yes (j : Nat) {t : Tri} {p : Pt} (h : corner t j = p) : pinN t p (j + 1) = pinN t p j ++ [(t, corner t ((j + 1) % 3))] := by
  unfold pinN
  rw [List.range_succ, List.flatMap_append, List.flatMap_singleton, if_pos h]
theorem pinN_no (j : Nat) {t : Tri} {p : Pt} (h : corner t j ≠ p) : pinN t p (j + 1) = pinN t p j := by
  unfold pinN
  rw [List.range_succ, List.flatMap_append, List.flatMap_singleton, if_neg h, List.append_nil]
theorem pinL_snoc (l : List Tri) (p : Pt) (k : Nat) (t : Tri) (h : l[k]? = some t) : pinL (l.take (k + 1)) p = pinL (l.take k) p ++ pinN t p 3 := by
  unfold pinL
  rw [List.take_add_one, h, Option.toList_some, List.flatMap_append, List.flatMap_singleton]
theorem pinL_fits {l : List Tri} {p : Pt} (h : ∀ t ∈ l, fitsT t) : ∀ x ∈ pinL l p, fitsT x.1 ∧ fitsP x.2 := by
  intro x hx
  obtain ⟨t, ht, hx⟩ := List.mem_flatMap.1 hx
  obtain ⟨i, _, hx⟩ := List.mem_flatMap.1 hx
  split at hx
  · rw [List.mem_singleton.1 hx]
    exact ⟨h t ht, corner_fits (h t ht) _⟩
  · cases hx
/-- Round the corner, from one start. -/
def runP (mine : List Tri) (p s : Pt) : Nat → Pt → Bool
  | 0, _ => false
  | f + 1, x => match behP mine p x with
    | none => false
    | some y => if y = s then true else runP mine p s f y
def pinchedP (l : List Tri) (p : Pt) : Bool := ((pinL l p).map (·.2)).any fun s => runP ((pinL l p).map (·.1)) p s ((pinL l p).length - 1) s
theorem CellsT.below8 {w w' : World} {b o n : Nat} {t : Tri} (h : CellsT w b o t) (hB : Below n w w') (hb : b < n) : CellsT w' b o t := by
  obtain ⟨h0, h1, h2, h3, h4, h5, h6, h7, h8⟩ := h
  exact ⟨(hB.cell (p := ⟨b, _, none⟩) hb).trans h0, (hB.cell (p := ⟨b, _, none⟩) hb).trans h1, (hB.cell (p := ⟨b, _, none⟩) hb).trans h2, (hB.cell (p := ⟨b, _, none⟩) hb).trans h3, (hB.cell (p := ⟨b, _, none⟩) hb).trans h4, (hB.cell (p := ⟨b, _, none⟩) hb).trans h5, (hB.cell (p := ⟨b, _, none⟩) hb).trans h6, (hB.cell (p := ⟨b, _, none⟩) hb).trans h7, (hB.cell (p := ⟨b, _, none⟩) hb).trans h8⟩
theorem behP_fits {l : List Tri} (h : ∀ t ∈ l, fitsT t) {p q r : Pt} (hb : behP l p q = some r) : fitsP r := by
  unfold behP at hb
  obtain ⟨t, ht, hr⟩ := List.exists_of_findSome?_eq_some hb
  have hf := h t ht
  unfold behK at hr
  split at hr
  · cases hr; exact hf.2.2
  · split at hr
    · cases hr; exact hf.1
    · split at hr
      · cases hr; exact hf.2.1
      · cases hr
set_option maxRecDepth 100000 in
set_option maxHeartbeats 16000000 in
theorem pinched_any (A : Option Addr) (c : Nat) (l : List Tri) (p : Pt) (w : World) (hs : Sl encT 9 w w.heap.size A l) (hl : l.length ≤ 1073741824) (hp : fitsP p) (hf : ∀ t ∈ l, fitsT t) :
    Calls Tryz.prog 81 #[.slice A l.length c, vP p] w fun e w' => e = .returned (.bool (pinchedP l p)) ∧ Below w.heap.size w w' := by
  obtain ⟨n, hn⟩ : ∃ n, n = l.length := ⟨_, rfl⟩
  rw [← hn] at hl ⊢
  have HS := hide (And.intro hs (And.intro hn (And.intro hf trivial)))
  have HP := hide (And.intro hp trivial)
  clear hs hn hf hp
  go_enter Tryz.func81, Tryz.ntmps81
  go_wp2_with fail
  obtain ⟨X, hX⟩ : ∃ X, X = w.alloc (.cells #[.int .i64 p.1, .int .i64 p.2.1, .int .i64 p.2.2] 41) := ⟨_, rfl⟩
  rw [← hX]
  have hBX : Below w.heap.size w X := by rw [hX]; exact (Below.refl _ w).alloc (Nat.le_refl _) _
  have hbX : Blk X w.heap.size 41 #[.int .i64 p.1, .int .i64 p.2.1, .int .i64 p.2.2] := by rw [hX]; exact Blk.new _ _ _
  have hzX : X.heap.size = w.heap.size + 1 := by rw [hX]; simp
  have hzX0 : w.heap.size ≤ X.heap.size := by omega
  have HX := hide (And.intro hBX (And.intro hbX (HS.out.1.below hBX)))
  clear hX hBX hbX
  go_loopw [5, 6, 7] (fun v1 v2 iv wr => ∃ (k m : Nat) (L : List (Tri × Pt)), k ≤ n ∧ iv = .int .i64 k ∧ m ≤ 3 * k ∧ L = pinL (l.take k) p ∧ Own encT 9 58 wr X.heap.size v1 m (L.map (·.1)) ∧ Own encP 3 41 wr X.heap.size v2 m (L.map (·.2)) ∧ Below X.heap.size X wr) (fun _ _ iv _ => n - (intOf iv).toNat)
  case atStart => exact ⟨0, 0, [], by omega, rfl, by omega, rfl, Own.nil, Own.nil, Below.refl _ X⟩
  case round =>
    obtain ⟨k, m0, L0, hk, rfl, hm0, hL0, hown1, hown2, hB⟩ := hrel
    obtain ⟨A10, c10, rfl⟩ := hown1.form
    obtain ⟨A20, c20, rfl⟩ := hown2.form
    by_cases hlt : k < n
    · obtain ⟨t, ht⟩ : ∃ t, l[k]? = some t := ⟨_, List.getElem?_eq_getElem (by rw [← HS.out.2.1]; exact hlt)⟩
      have i1 : (k : Int) < (n : Int) := by omega
      obtain ⟨b, o, hA, hbb, hct⟩ := HX.out.2.2.tri ht
      subst hA
      have HK := hide (And.intro ht (HS.out.2.2.1 t (List.mem_of_getElem? ht)))
      have HL := hide (And.intro hL0 (And.intro hown1 (And.intro hown2 hB)))
      have HC := hide hct
      clear ht hct hL0 hown1 hown2 hB
      go_wp2
      go_loopw [5, 6, 8] (fun v1 v2 iv wr => ∃ (j m : Nat) (L : List (Tri × Pt)), j ≤ 3 ∧ iv = .int .i64 j ∧ m ≤ 3 * k + j ∧ L = L0 ++ pinN t p j ∧ Own encT 9 58 wr X.heap.size v1 m (L.map (·.1)) ∧ Own encP 3 41 wr X.heap.size v2 m (L.map (·.2)) ∧ Below X.heap.size X wr) (fun _ _ iv _ => 3 - (intOf iv).toNat)
      case atStart => exact ⟨0, m0, L0, by omega, rfl, by omega, by simp [pinN], HL.out.2.1, HL.out.2.2.1, HL.out.2.2.2⟩
      case round =>
        obtain ⟨j, m, L, hj, rfl, hm, hL, ho1, ho2, hB⟩ := hrel
        obtain ⟨A1, c1, rfl⟩ := ho1.form
        obtain ⟨A2, c2, rfl⟩ := ho2.form
        have hBC := HC.out.below8 (hB.mono hzX0) hbb
        obtain ⟨x0, x1, x2⟩ := (HX.out.2.1.below hB (by omega)).three8
        have HJ := hide (And.intro ho1 (And.intro ho2 (And.intro hL hB)))
        obtain ⟨g0, g1, g2, g3, g4, g5, g6, g7, g8⟩ := hBC
        clear hL ho1 ho2 hB
        have hc : j = 0 ∨ j = 1 ∨ j = 2 ∨ j = 3 := by omega
        rcases hc with rfl | rfl | rfl | rfl
        · have e1 := eqP t.1 p HK.out.2.1 HP.out.1
          by_cases h1 : t.1 = p
          · have d1 : decide (t.1 = p) = true := decide_eq_true h1
            rw [d1] at e1
            have hsn := pinN_yes 0 (t := t) (p := p) h1
            have HN := hide hsn
            clear h1 d1 hsn
            go_upto_region 9 with fail
            go_quiet (fail)
            obtain ⟨W, hW⟩ : ∃ W, W = wr.drewN nq := ⟨_, rfl⟩
            have hBW : Below X.heap.size X W := by rw [hW]; exact below_drewN HJ.out.2.2.2 nq
            have ho1 : Own encT 9 58 W X.heap.size (.slice A1 m c1) m (L.map (·.1)) := by rw [hW]; exact HJ.out.1
            have ho2 : Own encP 3 41 W X.heap.size (.slice A2 m c2) m (L.map (·.2)) := by rw [hW]; exact HJ.out.2.1
            have hcW := HC.out.below8 (hBW.mono hzX0)
            obtain ⟨q0, q1, q2, q3, q4, q5, q6, q7, q8⟩ := hcW hbb
            have hzW := hBW.size
            have HW := hide (And.intro hBW (And.intro ho1 ho2))
            rw [← hW]
            clear hBW hcW hW g0 g1 g2 g3 g4 g5 g6 g7 g8 x0 x1 x2 e1
            have ho1' := ho1.alloc (.cells (encT t).toArray 58)
            go_upto_region 11 with (at_builtin; refine wpList_append1 rfl _ _ _ rfl Tryz.underlying28 infoT rfl (by omega) encT_len encT_one rfl ho1' W.heap.size 1 t rfl (Blk.new _ _ _) (by unfold maxLen; omega) (by omega) (by simp; omega) ?_; intro g4' cap4 w4 hown4 hg4 hB4 hat4 hgb4 hlt4)
            have ho2' := ((HW.out.2.2.alloc (.cells (encT t).toArray 58)).step hg4 (own_row8 ho1' (by decide)))
            have hBw4 : Below X.heap.size X w4 := (HW.out.1.alloc hzW _).trans hB4
            have hcw4 := HC.out.below8 (hBw4.mono hzX0)
            obtain ⟨g0, g1, g2, g3, g4, g5, g6, g7, g8⟩ := hcw4 hbb
            have hz4 := hBw4.size
            have H4 := hide (And.intro hown4 (And.intro ho2' hBw4))
            clear hown4 hg4 hB4 hat4 ho2' ho1' ho1 ho2 hcw4 hBw4 q0 q1 q2 q3 q4 q5 q6 q7 q8
            have ho2' := H4.out.2.1.alloc (.cells (encP t.2.1).toArray 41)
            go_wp2_with (at_builtin; refine wpList_append1 rfl _ _ _ rfl Tryz.underlying34 infoPt rfl (by omega) encP_len encP_one rfl ho2' w4.heap.size 1 t.2.1 rfl (Blk.new _ _ _) (by unfold maxLen; omega) (by omega) (by simp; omega) ?_; intro g5' cap5 w5 hown5 hg5 hB5 hat5 hgb5 hlt5)
            go_roundw
            case rel =>
              have ho1'' := (H4.out.1.alloc (.cells (encP t.2.1).toArray 41)).step hg5 (own_row8 ho2' (by decide))
              refine ⟨0 + 1, m + 1, L ++ [(t, t.2.1)], by omega, by go_num, by omega, by rw [HN.out, ← List.append_assoc, ← HJ.out.2.2.1]; rfl, ?_, ?_, (H4.out.2.2.alloc hz4 _).trans hB5⟩
              · rw [List.map_append]; exact ho1''
              · rw [List.map_append]; exact hown5
            case measure => (simp [intOf] <;> omega)
          · have d1 : decide (t.1 = p) = false := decide_eq_false h1
            rw [d1] at e1
            have hsn := pinN_no 0 (t := t) (p := p) h1
            have HN := hide hsn
            clear h1 d1 hsn
            go_upto_region 9 with fail
            go_quiet (fail)
            clear g0 g1 g2 g3 g4 g5 g6 g7 g8 e1
            go_wp2
            go_roundw
            case rel => exact ⟨0 + 1, m, L, by omega, by go_num, by omega, by rw [HN.out]; exact HJ.out.2.2.1, HJ.out.1, HJ.out.2.1, below_drewN HJ.out.2.2.2 nq⟩
            case measure => (simp [intOf] <;> omega)
        · have e1 := eqP t.2.1 p HK.out.2.2.1 HP.out.1
          by_cases h1 : t.2.1 = p
          · have d1 : decide (t.2.1 = p) = true := decide_eq_true h1
            rw [d1] at e1
            have hsn := pinN_yes 1 (t := t) (p := p) h1
            have HN := hide hsn
            clear h1 d1 hsn
            go_upto_region 9 with fail
            go_quiet (fail)
            obtain ⟨W, hW⟩ : ∃ W, W = wr.drewN nq := ⟨_, rfl⟩
            have hBW : Below X.heap.size X W := by rw [hW]; exact below_drewN HJ.out.2.2.2 nq
            have ho1 : Own encT 9 58 W X.heap.size (.slice A1 m c1) m (L.map (·.1)) := by rw [hW]; exact HJ.out.1
            have ho2 : Own encP 3 41 W X.heap.size (.slice A2 m c2) m (L.map (·.2)) := by rw [hW]; exact HJ.out.2.1
            have hcW := HC.out.below8 (hBW.mono hzX0)
            obtain ⟨q0, q1, q2, q3, q4, q5, q6, q7, q8⟩ := hcW hbb
            have hzW := hBW.size
            have HW := hide (And.intro hBW (And.intro ho1 ho2))
            rw [← hW]
            clear hBW hcW hW g0 g1 g2 g3 g4 g5 g6 g7 g8 x0 x1 x2 e1
            have ho1' := ho1.alloc (.cells (encT t).toArray 58)
            go_upto_region 11 with (at_builtin; refine wpList_append1 rfl _ _ _ rfl Tryz.underlying28 infoT rfl (by omega) encT_len encT_one rfl ho1' W.heap.size 1 t rfl (Blk.new _ _ _) (by unfold maxLen; omega) (by omega) (by simp; omega) ?_; intro g4' cap4 w4 hown4 hg4 hB4 hat4 hgb4 hlt4)
            have ho2' := ((HW.out.2.2.alloc (.cells (encT t).toArray 58)).step hg4 (own_row8 ho1' (by decide)))
            have hBw4 : Below X.heap.size X w4 := (HW.out.1.alloc hzW _).trans hB4
            have hcw4 := HC.out.below8 (hBw4.mono hzX0)
            obtain ⟨g0, g1, g2, g3, g4, g5, g6, g7, g8⟩ := hcw4 hbb
            have hz4 := hBw4.size
            have H4 := hide (And.intro hown4 (And.intro ho2' hBw4))
            clear hown4 hg4 hB4 hat4 ho2' ho1' ho1 ho2 hcw4 hBw4 q0 q1 q2 q3 q4 q5 q6 q7 q8
            have ho2' := H4.out.2.1.alloc (.cells (encP t.2.2).toArray 41)
            go_wp2_with (at_builtin; refine wpList_append1 rfl _ _ _ rfl Tryz.underlying34 infoPt rfl (by omega) encP_len encP_one rfl ho2' w4.heap.size 1 t.2.2 rfl (Blk.new _ _ _) (by unfold maxLen; omega) (by omega) (by simp; omega) ?_; intro g5' cap5 w5 hown5 hg5 hB5 hat5 hgb5 hlt5)
            go_roundw
            case rel =>
              have ho1'' := (H4.out.1.alloc (.cells (encP t.2.2).toArray 41)).step hg5 (own_row8 ho2' (by decide))
              refine ⟨1 + 1, m + 1, L ++ [(t, t.2.2)], by omega, by go_num, by omega, by rw [HN.out, ← List.append_assoc, ← HJ.out.2.2.1]; rfl, ?_, ?_, (H4.out.2.2.alloc hz4 _).trans hB5⟩
              · rw [List.map_append]; exact ho1''
              · rw [List.map_append]; exact hown5
            case measure => (simp [intOf] <;> omega)
          · have d1 : decide (t.2.1 = p) = false := decide_eq_false h1
            rw [d1] at e1
            have hsn := pinN_no 1 (t := t) (p := p) h1
            have HN := hide hsn
            clear h1 d1 hsn
            go_upto_region 9 with fail
            go_quiet (fail)
            clear g0 g1 g2 g3 g4 g5 g6 g7 g8 e1
            go_wp2
            go_roundw
            case rel => exact ⟨1 + 1, m, L, by omega, by go_num, by omega, by rw [HN.out]; exact HJ.out.2.2.1, HJ.out.1, HJ.out.2.1, below_drewN HJ.out.2.2.2 nq⟩
            case measure => (simp [intOf] <;> omega)
        · have e1 := eqP t.2.2 p HK.out.2.2.2 HP.out.1
          by_cases h1 : t.2.2 = p
          · have d1 : decide (t.2.2 = p) = true := decide_eq_true h1
            rw [d1] at e1
            have hsn := pinN_yes 2 (t := t) (p := p) h1
            have HN := hide hsn
            clear h1 d1 hsn
            go_upto_region 9 with fail
            go_quiet (fail)
            obtain ⟨W, hW⟩ : ∃ W, W = wr.drewN nq := ⟨_, rfl⟩
            have hBW : Below X.heap.size X W := by rw [hW]; exact below_drewN HJ.out.2.2.2 nq
            have ho1 : Own encT 9 58 W X.heap.size (.slice A1 m c1) m (L.map (·.1)) := by rw [hW]; exact HJ.out.1
            have ho2 : Own encP 3 41 W X.heap.size (.slice A2 m c2) m (L.map (·.2)) := by rw [hW]; exact HJ.out.2.1
            have hcW := HC.out.below8 (hBW.mono hzX0)
            obtain ⟨q0, q1, q2, q3, q4, q5, q6, q7, q8⟩ := hcW hbb
            have hzW := hBW.size
            have HW := hide (And.intro hBW (And.intro ho1 ho2))
            rw [← hW]
            clear hBW hcW hW g0 g1 g2 g3 g4 g5 g6 g7 g8 x0 x1 x2 e1
            have ho1' := ho1.alloc (.cells (encT t).toArray 58)
            go_upto_region 11 with (at_builtin; refine wpList_append1 rfl _ _ _ rfl Tryz.underlying28 infoT rfl (by omega) encT_len encT_one rfl ho1' W.heap.size 1 t rfl (Blk.new _ _ _) (by unfold maxLen; omega) (by omega) (by simp; omega) ?_; intro g4' cap4 w4 hown4 hg4 hB4 hat4 hgb4 hlt4)
            have ho2' := ((HW.out.2.2.alloc (.cells (encT t).toArray 58)).step hg4 (own_row8 ho1' (by decide)))
            have hBw4 : Below X.heap.size X w4 := (HW.out.1.alloc hzW _).trans hB4
            have hcw4 := HC.out.below8 (hBw4.mono hzX0)
            obtain ⟨g0, g1, g2, g3, g4, g5, g6, g7, g8⟩ := hcw4 hbb
            have hz4 := hBw4.size
            have H4 := hide (And.intro hown4 (And.intro ho2' hBw4))
            clear hown4 hg4 hB4 hat4 ho2' ho1' ho1 ho2 hcw4 hBw4 q0 q1 q2 q3 q4 q5 q6 q7 q8
            have ho2' := H4.out.2.1.alloc (.cells (encP t.1).toArray 41)
            go_wp2_with (at_builtin; refine wpList_append1 rfl _ _ _ rfl Tryz.underlying34 infoPt rfl (by omega) encP_len encP_one rfl ho2' w4.heap.size 1 t.1 rfl (Blk.new _ _ _) (by unfold maxLen; omega) (by omega) (by simp; omega) ?_; intro g5' cap5 w5 hown5 hg5 hB5 hat5 hgb5 hlt5)
            go_roundw
            case rel =>
              have ho1'' := (H4.out.1.alloc (.cells (encP t.1).toArray 41)).step hg5 (own_row8 ho2' (by decide))
              refine ⟨2 + 1, m + 1, L ++ [(t, t.1)], by omega, by go_num, by omega, by rw [HN.out, ← List.append_assoc, ← HJ.out.2.2.1]; rfl, ?_, ?_, (H4.out.2.2.alloc hz4 _).trans hB5⟩
              · rw [List.map_append]; exact ho1''
              · rw [List.map_append]; exact hown5
            case measure => (simp [intOf] <;> omega)
          · have d1 : decide (t.2.2 = p) = false := decide_eq_false h1
            rw [d1] at e1
            have hsn := pinN_no 2 (t := t) (p := p) h1
            have HN := hide hsn
            clear h1 d1 hsn
            go_upto_region 9 with fail
            go_quiet (fail)
            clear g0 g1 g2 g3 g4 g5 g6 g7 g8 e1
            go_wp2
            go_roundw
            case rel => exact ⟨2 + 1, m, L, by omega, by go_num, by omega, by rw [HN.out]; exact HJ.out.2.2.1, HJ.out.1, HJ.out.2.1, below_drewN HJ.out.2.2.2 nq⟩
            case measure => (simp [intOf] <;> omega)
        · have hsn := pinL_snoc l p k t HK.out.1
          rw [← HL.out.1] at hsn
          have HN := hide hsn
          clear hsn g0 g1 g2 g3 g4 g5 g6 g7 g8
          go_wp2
          go_roundw
          case rel => exact ⟨k + 1, m, L, by omega, by go_num, by omega, by rw [HN.out]; exact HJ.out.2.2.1, HJ.out.1, HJ.out.2.1, HJ.out.2.2.2⟩
          case measure => simp [intOf]; omega
    · have hke : k = l.length := by rw [← HS.out.2.1]; omega
      rw [hke, List.take_length] at hL0
      have hkn : n = k := by omega
      have hfl := pinL_fits (p := p) HS.out.2.2.1
      rw [← hL0] at hfl
      have hpp : pinchedP l p = (L0.map (·.2)).any fun s => runP (L0.map (·.1)) p s (m0 - 1) s := by
        have h1 := hown1.1
        rw [List.length_map] at h1
        unfold pinchedP
        rw [← hL0, h1]
      have HE := hide (And.intro hpp (And.intro hown1 (And.intro hown2 (And.intro hB hfl))))
      clear hL0 hke hown1 hown2 hB hfl hpp
      subst hkn
      obtain ⟨V, rfl⟩ : ∃ V, V = wr := ⟨_, rfl⟩
      obtain ⟨M, hM⟩ : ∃ M, M = L0.map (·.1) := ⟨_, rfl⟩
      obtain ⟨S, hS⟩ : ∃ S, S = L0.map (·.2) := ⟨_, rfl⟩
      rw [← hM, ← hS] at HE
      have hMf : ∀ u ∈ M, fitsT u := fun u hu => by
        rw [hM] at hu
        obtain ⟨y, hy, rfl⟩ := List.mem_map.1 hu
        exact (HE.out.2.2.2.2 y hy).1
      have hSf : ∀ u ∈ S, fitsP u := fun u hu => by
        rw [hS] at hu
        obtain ⟨y, hy, rfl⟩ := List.mem_map.1 hu
        exact (HE.out.2.2.2.2 y hy).2
      have hzV := HE.out.2.2.2.1.size
      have hSl := HE.out.2.2.1.1
      have hMl := HE.out.2.1.1
      have HF := hide (And.intro hMf (And.intro hSf (And.intro hSl (And.intro hMl trivial))))
      have hslM : Sl encT 9 V V.heap.size A10 M := HE.out.2.1.sl encT_len (Nat.le_refl _)
      have hslS : Sl encP 3 V V.heap.size A20 S := HE.out.2.2.1.sl encP_len (Nat.le_refl _)
      have hbp : Blk V w.heap.size 41 #[.int .i64 p.1, .int .i64 p.2.1, .int .i64 p.2.2] := HX.out.2.1.below HE.out.2.2.2.1 (by omega)
      have HV := hide (And.intro hslM (And.intro hslS (And.intro hbp trivial)))
      clear hMf hSf hSl hMl hM hS hslM hslS hbp
      go_wp2
      go_loopw [9] (fun iv wx => ∃ k : Nat, k ≤ m0 ∧ iv = .int .i64 k ∧ (∀ i s, i < k → S[i]? = some s → runP M p s (m0 - 1) s = false) ∧ Below V.heap.size V wx) (fun iv _ => m0 - (intOf iv).toNat)
      case atStart => exact ⟨0, by omega, rfl, fun i s hi => absurd hi (by omega), Below.refl _ V⟩
      case round =>
        obtain ⟨k, hk, rfl, hno, hB⟩ := hrel
        obtain ⟨V1, rfl⟩ : ∃ V1, V1 = wr := ⟨_, rfl⟩
        have hzV1 := hB.size
        by_cases hlt : k < m0
        · obtain ⟨s, hs⟩ : ∃ s, S[k]? = some s := ⟨_, List.getElem?_eq_getElem (by rw [← HF.out.2.2.1]; exact hlt)⟩
          have i1 : (k : Int) < (m0 : Int) := by omega
          have hfs := HF.out.2.1 s (List.mem_of_getElem? hs)
          obtain ⟨b2, o2, hA2, hb2, _⟩ := HV.out.2.1.at hs
          subst hA2
          obtain ⟨g0, g1, g2⟩ := (HV.out.2.1.below hB).pt8 hs
          have HK := hide (And.intro hs (And.intro hno (And.intro hB hfs)))
          clear hs hno hB hfs
          go_wp2
          obtain ⟨Y, hY⟩ : ∃ Y, Y = V1.alloc (.cells #[.int .i64 s.1, .int .i64 s.2.1, .int .i64 s.2.2] 41) := ⟨_, rfl⟩
          rw [← hY]
          have hBY : Below V1.heap.size V1 Y := by rw [hY]; exact (Below.refl _ V1).alloc (Nat.le_refl _) _
          have hbY : Blk Y V1.heap.size 41 #[.int .i64 s.1, .int .i64 s.2.1, .int .i64 s.2.2] := by rw [hY]; exact Blk.new _ _ _
          have HY := hide (And.intro hBY hbY)
          clear hBY hbY hY g0 g1 g2
          go_loopw [11] (fun zv wx => ∃ (z : Nat) (x : Pt), 1 ≤ z ∧ z ≤ m0 ∧ zv = .int .i64 z ∧ runP M p s (m0 - 1) s = runP M p s (m0 - z) x ∧ fitsP x ∧ Blk wx V1.heap.size 41 #[.int .i64 x.1, .int .i64 x.2.1, .int .i64 x.2.2] ∧ Below V1.heap.size V1 wx) (fun zv _ => m0 - (intOf zv).toNat)
          case atStart => exact ⟨1, s, by omega, by omega, rfl, rfl, HK.out.2.2.2, HY.out.2, HY.out.1⟩
          case round =>
            obtain ⟨z, x, hz1, hz, rfl, hrun, hfx, hbx, hBz⟩ := hrel
            have hzr := hBz.size
            have hzb := hbx.lt
            obtain ⟨x0, x1, x2⟩ := hbx.three8
            obtain ⟨y0, y1, y2⟩ := ((HV.out.2.2.1.below HK.out.2.2.1 (by omega)).below hBz (by omega)).three8
            by_cases hlz : z < m0
            · have i2 : (z : Int) < (m0 : Int) := by omega
              have hcal := behind_any A10 c10 M p x wr (((HV.out.1.below HK.out.2.2.1).below (hBz.mono hzV1)).more (by omega)) (by rw [← HF.out.2.2.2.1]; omega) HP.out.1 hfx HF.out.1
              rw [← HF.out.2.2.2.1] at hcal
              have HZ := hide (And.intro hrun (And.intro hfx (And.intro hbx (And.intro hBz hcal))))
              clear hrun hfx hbx hBz hcal
              have hrs : runP M p s (m0 - z) x = match behP M p x with | none => false | some y => if y = s then true else runP M p s (m0 - (z + 1)) y := by
                rw [show m0 - z = (m0 - (z + 1)) + 1 by omega]; rfl
              go_wp2_with fail
              refine HZ.out.2.2.2.2.mono ?_
              rintro e w5 ⟨rfl, hB5⟩
              have hz5 := hB5.size
              have hb5 := HZ.out.2.2.1.below hB5 hzb
              cases hbeh : behP M p x with
              | none =>
                rw [hbeh] at hrs
                have HR := hide (HZ.out.1.trans hrs)
                have HB5 := hide hB5
                clear hrs hbeh hB5 hb5
                go_wp2
                go_roundw
                case rel =>
                  refine ⟨k + 1, by omega, by go_num, fun i s' hi hs' => ?_, HK.out.2.2.1.trans ((HZ.out.2.2.2.1.mono hzV1).trans ((HB5.out.mono (by omega)).alloc (by omega) _))⟩
                  rcases Nat.lt_or_ge i k with h | h
                  · exact HK.out.2.1 i s' h hs'
                  · have e : i = k := by omega
                    subst e
                    rw [HK.out.1] at hs'
                    cases hs'
                    exact HR.out
                case measure => simp [intOf]; omega
              | some y =>
                rw [hbeh] at hrs
                have hfy : fitsP y := behP_fits HF.out.1 hbeh
                obtain ⟨u0, u1, u2⟩ := hb5.three8
                have f0 := hb5.frozen 0
                have f1 := hb5.frozen 1
                have f2 := hb5.frozen 2
                have hne : w5.heap.size ≠ V1.heap.size := by omega
                have hlt5 : V1.heap.size < w5.heap.size := by omega
                have HR := hide (And.intro (HZ.out.1.trans hrs) (And.intro hfy (And.intro hb5 hB5)))
                clear hrs hbeh hB5 hb5 hfy x0 x1 x2 y0 y1 y2
                go_upto_region 22 with fail
                obtain ⟨W, hW⟩ : ∃ W, W = (((w5.setCell ⟨V1.heap.size, 0, none⟩ (.int .i64 y.1)).setCell ⟨V1.heap.size, 1, none⟩ (.int .i64 y.2.1)).setCell ⟨V1.heap.size, 2, none⟩ (.int .i64 y.2.2)).alloc (.cells #[.int .i64 y.1, .int .i64 y.2.1, .int .i64 y.2.2] 41) := ⟨_, rfl⟩
                rw [← hW]
                have hBW : Below V1.heap.size V1 W := by
                  rw [hW]
                  exact ((((HZ.out.2.2.2.1.trans (HR.out.2.2.2.mono hzr)).setCell (by dsimp only; omega) _).setCell (by dsimp only; omega) _).setCell (by dsimp only; omega) _).alloc (by simp [World.setCell]; omega) _
                have hbW : Blk W V1.heap.size 41 #[.int .i64 y.1, .int .i64 y.2.1, .int .i64 y.2.2] := by rw [hW]; exact (HR.out.2.2.1.set3 _ _ _).alloc _
                have hsW : Sl encP 3 W V.heap.size (some ⟨b2, o2, none⟩) S := (HV.out.2.1.below HK.out.2.2.1).below (hBW.mono hzV1)
                obtain ⟨x0, x1, x2⟩ := hbW.three8
                obtain ⟨g0, g1, g2⟩ := hsW.pt8 HK.out.1
                have heq := eqP y s HR.out.2.1 HK.out.2.2.2
                have HW := hide (And.intro hBW hbW)
                clear hW hBW hbW hsW u0 u1 u2 f0 f1 f2
                by_cases hys : y = s
                · have hd : decide (y = s) = true := decide_eq_true hys
                  rw [hd] at heq
                  have hres : pinchedP l p = true := by
                    rw [HE.out.1, List.any_eq_true]
                    refine ⟨s, List.mem_of_getElem? HK.out.1, ?_⟩
                    rw [HR.out.1]
                    simp [hys]
                  have HG := hide hres
                  clear hys hd hres
                  go_quiet (fail)
                  go_wp2
                  go_ret
                  exact ⟨by rw [HG.out]; rfl, below_drewN (HX.out.1.trans ((HE.out.2.2.2.1.mono hzX0).trans ((HK.out.2.2.1.mono (by omega)).trans (HW.out.1.mono (by omega))))) _⟩
                · have hd : decide (y = s) = false := decide_eq_false hys
                  rw [hd] at heq
                  have hrn : runP M p s (m0 - 1) s = runP M p s (m0 - (z + 1)) y := by
                    rw [HR.out.1]
                    simp [hys]
                  have HG := hide hrn
                  clear hys hd hrn
                  go_quiet (fail)
                  go_wp2
                  go_roundw
                  case rel => exact ⟨z + 1, y, by omega, by omega, by go_num, HG.out, HR.out.2.1, HW.out.2.drewN _, below_drewN HW.out.1 _⟩
                  case measure => simp [intOf]; omega
            · have hze : z = m0 := by omega
              subst hze
              rw [Nat.sub_self] at hrun
              have HR := hide (And.intro hrun hBz)
              clear hrun hfx hbx hBz
              go_wp2
              go_roundw
              case rel =>
                refine ⟨k + 1, by omega, by go_num, fun i s' hi hs' => ?_, HK.out.2.2.1.trans (HR.out.2.mono hzV1)⟩
                rcases Nat.lt_or_ge i k with h | h
                · exact HK.out.2.1 i s' h hs'
                · have e : i = k := by omega
                  subst e
                  rw [HK.out.1] at hs'
                  cases hs'
                  exact HR.out.1
              case measure => simp [intOf]; omega
        · have hke : k = m0 := by omega
          have hall : pinchedP l p = false := by
            rw [HE.out.1, List.any_eq_false]
            intro s hs
            obtain ⟨i, hi⟩ := List.mem_iff_getElem?.1 hs
            have hil : i < S.length := (List.getElem?_eq_some_iff.1 hi).1
            rw [hno i s (by rw [hke, HF.out.2.2.1]; exact hil) hi]
            simp
          have HR := hide (And.intro hall hB)
          clear hno hall hB
          subst hke
          go_wp2
          go_ret
          exact ⟨by rw [HR.out.1]; rfl, HX.out.1.trans ((HE.out.2.2.2.1.mono hzX0).trans (HR.out.2.mono (by omega)))⟩
end Go.Proofs.YtelfnmohpjkilaaGreatDoor
/- ref04.check, Check. -/
namespace Go.Proofs.YtelfnmohpjkilaaGreatDoor
open Go.RowKit Go.Sort
def flatT (t : Tri) : Bool := decide (t.1 = t.2.1) || decide (t.2.1 = t.2.2) || decide (t.2.2 = t.1)
def twiceE (l : List Ed) (e : Ed) : Bool := decide (1 < cntE l e)
def checkP (l : List Tri) (op : Bool) : Int := if l.any flatT = true then 20 else if (edgesP l).any (twiceE (edgesP l)) = true then 21 else if (!op && decide (0 < (borderP l).length)) = true then 22 else if (cornersP l).any (pinchedP l) = true then 23 else 0
theorem any_none {α : Type} {f : α → Bool} {l : List α} {n k : Nat} (hn : n = l.length) (hk : n ≤ k) (h : ∀ i x, i < k → l[i]? = some x → f x = false) : l.any f = false := by
  rw [List.any_eq_false]
  intro x hx
  obtain ⟨i, hi⟩ := List.mem_iff_getElem?.1 hx
  have hil : i < l.length := (List.getElem?_eq_some_iff.1 hi).1
  rw [h i x (by omega) hi]
  simp
theorem any_some {α : Type} {f : α → Bool} {l : List α} {k : Nat} {x : α} (h : l[k]? = some x) (hf : f x = true) : l.any f = true := List.any_eq_true.2 ⟨x, List.mem_of_getElem? h, hf⟩
theorem none_succ {α : Type} {f : α → Bool} {l : List α} {k : Nat} {x : α} (hk : l[k]? = some x) (h : ∀ i x, i < k → l[i]? = some x → f x = false) (hf : f x = false) : ∀ i x, i < k + 1 → l[i]? = some x → f x = false := fun i y hi hy => by
  rcases Nat.lt_or_ge i k with h1 | h1
  · exact h i y h1 hy
  · have e : i = k := by omega
    subst e
    rw [hk] at hy
    cases hy
    exact hf
theorem corN_le (l : List Pt) (t : Tri) : (corN l t 3).length ≤ l.length + 3 := by
  have h1 := withP_length l t.1
  have h2 := withP_length (withP l t.1) t.2.1
  have h3 := withP_length (withP (withP l t.1) t.2.1) t.2.2
  show (withP (withP (withP l t.1) t.2.1) t.2.2).length ≤ _
  omega
theorem cornersP_le (ts : List Tri) : (cornersP ts).length ≤ 3 * ts.length := by
  have key : ∀ (us : List Tri) (l : List Pt), (us.foldl (fun l t => corN l t 3) l).length ≤ l.length + 3 * us.length := by
    intro us
    induction us with
    | nil => intro l; simp
    | cons t us ih =>
      intro l
      have h1 := ih (corN l t 3)
      have h2 := corN_le l t
      rw [List.foldl_cons, List.length_cons]
      omega
  have := key ts []
  unfold cornersP
  simpa using this
set_option maxRecDepth 100000 in
set_option maxHeartbeats 16000000 in
theorem check_any (A : Option Addr) (c : Nat) (l : List Tri) (op : Bool) (w : World) (hs : Sl encT 9 w w.heap.size A l) (hl : l.length ≤ 1073741824) (hf : ∀ t ∈ l, fitsT t) :
    Calls Tryz.prog 43 #[.slice A l.length c, .bool op] w fun e w' => e = .returned (.int .i64 (checkP l op)) ∧ Below w.heap.size w w' := by
  obtain ⟨n, hn⟩ : ∃ n, n = l.length := ⟨_, rfl⟩
  have hed := fun W (hW : Below w.heap.size w W) => edges_any A c l W ((hs.below hW).more hW.size) hl
  have hbo := fun W (hW : Below w.heap.size w W) => border_any A c l W ((hs.below hW).more hW.size) hl hf
  have hco := fun W (hW : Below w.heap.size w W) => corners_any A c l W ((hs.below hW).more hW.size) hl hf
  have hpi := fun W (hW : Below w.heap.size w W) (p : Pt) (hp : fitsP p) => pinched_any A c l p W ((hs.below hW).more hW.size) hl hp hf
  have hqb := cornersP_le l
  have hfe := edgesP_fits hf
  have hle := edgesP_length l
  obtain ⟨E, hE⟩ : ∃ E, E = edgesP l := ⟨_, rfl⟩
  obtain ⟨B, hB⟩ : ∃ B, B = borderP l := ⟨_, rfl⟩
  obtain ⟨Q, hQ⟩ : ∃ Q, Q = cornersP l := ⟨_, rfl⟩
  obtain ⟨R, hR⟩ : ∃ R, R = checkP l op := ⟨_, rfl⟩
  have hRe : R = if l.any flatT = true then 20 else if E.any (twiceE E) = true then 21 else if (!op && decide (0 < B.length)) = true then 22 else if Q.any (pinchedP l) = true then 23 else 0 := by rw [hR, hE, hB, hQ]; rfl
  rw [← hE] at hed hfe hle
  rw [← hB] at hbo
  rw [← hQ] at hco hqb
  rw [← hR]
  rw [← hn] at hl hed hbo hco hpi hle hqb ⊢
  obtain ⟨el, hel⟩ : ∃ el, el = E.length := ⟨_, rfl⟩
  rw [← hel] at hed hle
  have HS := hide (And.intro hs (And.intro hn (And.intro hf (And.intro hfe (And.intro hel hRe)))))
  have HC := hide (And.intro hed (And.intro hbo (And.intro hco (And.intro hpi (show Q.length ≤ 3221225472 by omega)))))
  have hel3 : el ≤ 3221225472 := by omega
  clear hs hn hf hfe hel hRe hed hbo hco hpi hqb hE hB hQ hR hle
  go_enter Tryz.func43, Tryz.ntmps43
  go_wp2
  go_loopw [5] (fun iv wr => ∃ k q : Nat, k ≤ n ∧ iv = .int .i64 k ∧ (∀ i t, i < k → l[i]? = some t → flatT t = false) ∧ wr = w.drewN q) (fun iv _ => n - (intOf iv).toNat)
  case atStart => exact ⟨0, 0, by omega, rfl, fun i t hi => absurd hi (by omega), rfl⟩
  case round =>
    obtain ⟨k, q, hk, rfl, hno, rfl⟩ := hrel
    by_cases hlt : k < n
    · obtain ⟨t, ht⟩ : ∃ t, l[k]? = some t := ⟨_, List.getElem?_eq_getElem (by rw [← HS.out.2.1]; exact hlt)⟩
      have i1 : (k : Int) < (n : Int) := by omega
      obtain ⟨b, o, hA, hbb, g0, g1, g2, g3, g4, g5, g6, g7, g8⟩ := HS.out.1.tri ht
      subst hA
      have hft := HS.out.2.2.1 t (List.mem_of_getElem? ht)
      have e1 := eqP t.1 t.2.1 hft.1 hft.2.1
      have e2 := eqP t.2.1 t.2.2 hft.2.1 hft.2.2
      have e3 := eqP t.2.2 t.1 hft.2.2 hft.1
      have hfl : flatT t = (decide (t.1 = t.2.1) || decide (t.2.1 = t.2.2) || decide (t.2.2 = t.1)) := rfl
      have HK := hide (And.intro ht hno)
      clear ht hno hft
      by_cases h1 : t.1 = t.2.1
      · have d1 : decide (t.1 = t.2.1) = true := decide_eq_true h1
        rw [d1] at e1
        have hx : flatT t = true := by rw [hfl, d1]; rfl
        have HX := hide (any_some HK.out.1 hx)
        clear h1 d1 hfl hx e2 e3
        go_wp2_with fail
        go_quiet (fail)
        go_wp2
        go_ret
        exact ⟨by rw [HS.out.2.2.2.2.2, if_pos HX.out]; rfl, below_drewN (below_drewN (Below.refl _ w) q) nq⟩
      · have d1 : decide (t.1 = t.2.1) = false := decide_eq_false h1
        rw [d1] at e1
        by_cases h2 : t.2.1 = t.2.2
        · have d2 : decide (t.2.1 = t.2.2) = true := decide_eq_true h2
          rw [d2] at e2
          have hx : flatT t = true := by rw [hfl, d1, d2]; rfl
          have HX := hide (any_some HK.out.1 hx)
          clear h1 d1 h2 d2 hfl hx e3
          go_wp2_with fail
          go_quiet (fail)
          go_wp2
          go_ret
          exact ⟨by rw [HS.out.2.2.2.2.2, if_pos HX.out]; rfl, below_drewN (below_drewN (Below.refl _ w) q) nq⟩
        · have d2 : decide (t.2.1 = t.2.2) = false := decide_eq_false h2
          rw [d2] at e2
          by_cases h3 : t.2.2 = t.1
          · have d3 : decide (t.2.2 = t.1) = true := decide_eq_true h3
            rw [d3] at e3
            have hx : flatT t = true := by rw [hfl, d1, d2, d3]; rfl
            have HX := hide (any_some HK.out.1 hx)
            clear h1 d1 h2 d2 h3 d3 hfl hx
            go_wp2_with fail
            go_quiet (fail)
            go_wp2
            go_ret
            exact ⟨by rw [HS.out.2.2.2.2.2, if_pos HX.out]; rfl, below_drewN (below_drewN (Below.refl _ w) q) nq⟩
          · have d3 : decide (t.2.2 = t.1) = false := decide_eq_false h3
            rw [d3] at e3
            have hx : flatT t = false := by rw [hfl, d1, d2, d3]; rfl
            have HX := hide (none_succ HK.out.1 HK.out.2 hx)
            clear h1 d1 h2 d2 h3 d3 hfl hx
            go_wp2_with fail
            go_quiet (fail)
            go_wp2
            go_roundw
            case rel => exact ⟨k + 1, q + nq, by omega, by go_num, HX.out, rfl⟩
            case measure => simp [intOf]; omega
    · have hnone := any_none HS.out.2.1 (by omega : n ≤ k) hno
      have hRe := HS.out.2.2.2.2.2
      rw [if_neg (by rw [hnone]; simp)] at hRe
      have HR := hide hRe
      clear hno hnone hRe
      have hB0 : Below w.heap.size w (w.drewN q) := below_drewN (Below.refl _ w) q
      obtain ⟨w0, hw0⟩ : ∃ w0, w0 = w.drewN q := ⟨_, rfl⟩
      rw [← hw0] at hB0 ⊢
      clear hw0
      have hz0 := hB0.size
      go_wp2_with fail
      refine (HC.out.1 w0 hB0).mono ?_
      rintro e w1 ⟨v1, rfl, hown1, hB1⟩
      obtain ⟨A1, c1, rfl⟩ := hown1.form
      have hB01 : Below w.heap.size w w1 := hB0.trans (hB1.mono hz0)
      have hz1 := hB01.size
      have H1 := hide (And.intro (hown1.sl encE_len (Nat.le_refl _)) hB01)
      clear hown1 hB1 hB01 hB0
      go_wp2
      go_loopw [7] (fun iv wr => ∃ k : Nat, k ≤ el ∧ iv = .int .i64 k ∧ (∀ i x, i < k → E[i]? = some x → twiceE E x = false) ∧ Below w1.heap.size w1 wr) (fun iv _ => el - (intOf iv).toNat)
      case atStart => exact ⟨0, by omega, rfl, fun i t hi => absurd hi (by omega), Below.refl _ w1⟩
      case round =>
        obtain ⟨k2, hk2, rfl, hno, hB⟩ := hrel
        have hzr := hB.size
        by_cases hlt2 : k2 < el
        · obtain ⟨x, hx⟩ : ∃ x, E[k2]? = some x := ⟨_, List.getElem?_eq_getElem (by rw [← HS.out.2.2.2.2.1]; exact hlt2)⟩
          have i2 : (k2 : Int) < (el : Int) := by omega
          have hsl := H1.out.1.below hB
          obtain ⟨b, o, hA, hbb, _⟩ := hsl.at hx
          subst hA
          obtain ⟨g0, g1, g2, g3, g4, g5⟩ := hsl.ed hx
          have hcal := count_any (some ⟨b, o, none⟩) c1 E x wr (hsl.more hzr) (by rw [← HS.out.2.2.2.2.1]; omega) (HS.out.2.2.2.1 x (List.mem_of_getElem? hx)) HS.out.2.2.2.1
          rw [← HS.out.2.2.2.2.1] at hcal
          have htw : twiceE E x = decide (1 < cntE E x) := rfl
          obtain ⟨m, hm⟩ : ∃ m, m = cntE E x := ⟨_, rfl⟩
          rw [← hm] at hcal htw
          have HK := hide (And.intro hx (And.intro hno (And.intro hB hcal)))
          clear hsl hx hno hB hcal hm
          go_wp2_with fail
          refine HK.out.2.2.2.mono ?_
          rintro e w2 ⟨rfl, hB2⟩
          have hB12 : Below w1.heap.size w1 w2 := HK.out.2.2.1.trans (hB2.mono hzr)
          by_cases h1 : 1 < m
          · have j1 : (1 : Int) < (m : Int) := by omega
            have hx : twiceE E x = true := by rw [htw]; simp [h1]
            have HX := hide (And.intro (any_some HK.out.1 hx) hB12)
            clear htw hx hB2 hB12
            go_wp2
            go_ret
            exact ⟨by rw [HR.out, if_pos HX.out.1]; rfl, H1.out.2.trans (HX.out.2.mono hz1)⟩
          · have j1 : ¬ (1 : Int) < (m : Int) := by omega
            have hx : twiceE E x = false := by rw [htw]; simp [h1]
            have HX := hide (And.intro (none_succ HK.out.1 HK.out.2.1 hx) hB12)
            clear htw hx hB2 hB12
            go_wp2
            go_roundw
            case rel => exact ⟨k2 + 1, by omega, by go_num, HX.out.1, HX.out.2⟩
            case measure => simp [intOf]; omega
        · have hnone := any_none HS.out.2.2.2.2.1 (by omega : el ≤ k2) hno
          have hRe := HR.out
          rw [if_neg (by rw [hnone]; simp)] at hRe
          have hBw : Below w.heap.size w wr := H1.out.2.trans (hB.mono hz1)
          have HR2 := hide (And.intro hRe hBw)
          clear hno hnone hRe hBw hB
          have hzw : w.heap.size ≤ wr.heap.size := HR2.out.2.size
          cases op with
          | true =>
            have hRe := HR2.out.1
            rw [if_neg (by simp)] at hRe
            have HR3 := hide hRe
            clear hRe
            obtain ⟨V, rfl⟩ : ∃ V, V = wr := ⟨_, rfl⟩
            have HV := hide HR2.out.2
            go_wp2_with fail
            refine (HC.out.2.2.1 V HV.out).mono ?_
            rintro e w5 ⟨A5, c5, rfl, hs5, _, hB5, hf5⟩
            have hB05 : Below w.heap.size w w5 := HV.out.trans (hB5.mono HV.out.size)
            have hz5 := hB05.size
            have hqb := HC.out.2.2.2.2
            obtain ⟨ql, hql⟩ : ∃ ql, ql = Q.length := ⟨_, rfl⟩
            rw [← hql] at hqb ⊢
            have H5 := hide (And.intro hs5 (And.intro hf5 (And.intro hql hB05)))
            clear hs5 hf5 hql hB5 hB05
            go_wp2
            go_loopw [9] (fun iv wr => ∃ k : Nat, k ≤ ql ∧ iv = .int .i64 k ∧ (∀ i x, i < k → Q[i]? = some x → pinchedP l x = false) ∧ Below w5.heap.size w5 wr) (fun iv _ => ql - (intOf iv).toNat)
            case atStart => exact ⟨0, by omega, rfl, fun i t hi => absurd hi (by omega), Below.refl _ w5⟩
            case round =>
              obtain ⟨k5, hk5, rfl, hno, hB⟩ := hrel
              have hzr := hB.size
              by_cases hlt5 : k5 < ql
              · obtain ⟨x, hx⟩ : ∃ x, Q[k5]? = some x := ⟨_, List.getElem?_eq_getElem (by rw [← H5.out.2.2.1]; exact hlt5)⟩
                have i5 : (k5 : Int) < (ql : Int) := by omega
                have hsl := H5.out.1.below hB
                obtain ⟨b, o, hA, hbb, _⟩ := hsl.at hx
                subst hA
                obtain ⟨g0, g1, g2⟩ := hsl.pt8 hx
                have hcal := HC.out.2.2.2.1 wr (H5.out.2.2.2.trans (hB.mono hz5)) x (H5.out.2.1 x (List.mem_of_getElem? hx))
                have HK := hide (And.intro hx (And.intro hno (And.intro hB hcal)))
                clear hsl hx hno hB hcal
                go_wp2_with fail
                refine HK.out.2.2.2.mono ?_
                rintro e w6 ⟨rfl, hB6⟩
                have hB56 : Below w5.heap.size w5 w6 := HK.out.2.2.1.trans (hB6.mono (by omega))
                cases hp : pinchedP l x
                · have HX := hide (And.intro (none_succ HK.out.1 HK.out.2.1 hp) hB56)
                  clear hp hB6 hB56
                  go_wp2
                  go_roundw
                  case rel => exact ⟨k5 + 1, by omega, by go_num, HX.out.1, HX.out.2⟩
                  case measure => simp [intOf]; omega
                · have HX := hide (And.intro (any_some HK.out.1 hp) hB56)
                  clear hp hB6 hB56
                  go_wp2
                  go_ret
                  exact ⟨by rw [HR3.out, if_pos HX.out.1]; rfl, H5.out.2.2.2.trans (HX.out.2.mono hz5)⟩
              · have hnone := any_none H5.out.2.2.1 (by omega : ql ≤ k5) hno
                have hRf := HR3.out
                rw [if_neg (by rw [hnone]; simp)] at hRf
                have HX := hide (And.intro hRf (H5.out.2.2.2.trans (hB.mono hz5)))
                clear hno hnone hRf hB
                go_wp2
                go_ret
                exact ⟨by rw [HX.out.1]; rfl, HX.out.2⟩
          | false =>
            have hRe := HR2.out.1
            simp only [Bool.not_false, Bool.true_and, decide_eq_true_eq] at hRe
            have HRb := hide hRe
            clear hRe
            go_wp2_with fail
            refine (HC.out.2.1 wr HR2.out.2).mono ?_
            rintro e w4 ⟨A4, c4, rfl, _, _, hB4⟩
            have hB04 : Below w.heap.size w w4 := HR2.out.2.trans (hB4.mono hzw)
            obtain ⟨bl, hbl⟩ : ∃ bl, bl = B.length := ⟨_, rfl⟩
            rw [← hbl] at HRb ⊢
            by_cases h0 : 0 < bl
            · have j0 : (0 : Int) < (bl : Int) := by omega
              have hRf := HRb.out
              rw [if_pos h0] at hRf
              have HX := hide (And.intro hRf hB04)
              clear hbl hB4 hB04 hRf
              go_wp2
              go_ret
              exact ⟨by rw [HX.out.1]; rfl, HX.out.2⟩
            · have j0 : bl = 0 := by omega
              have hRf := HRb.out
              rw [if_neg h0] at hRf
              have HR3 := hide hRf
              clear hbl hRf h0
              subst j0
              have HV := hide hB04
              clear hB4 hB04
              obtain ⟨V, rfl⟩ : ∃ V, V = w4 := ⟨_, rfl⟩
              go_wp2_with fail
              refine (HC.out.2.2.1 V HV.out).mono ?_
              rintro e w5 ⟨A5, c5, rfl, hs5, _, hB5, hf5⟩
              have hB05 : Below w.heap.size w w5 := HV.out.trans (hB5.mono HV.out.size)
              have hz5 := hB05.size
              have hqb := HC.out.2.2.2.2
              obtain ⟨ql, hql⟩ : ∃ ql, ql = Q.length := ⟨_, rfl⟩
              rw [← hql] at hqb ⊢
              have H5 := hide (And.intro hs5 (And.intro hf5 (And.intro hql hB05)))
              clear hs5 hf5 hql hB5 hB05
              go_wp2
              go_loopw [9] (fun iv wr => ∃ k : Nat, k ≤ ql ∧ iv = .int .i64 k ∧ (∀ i x, i < k → Q[i]? = some x → pinchedP l x = false) ∧ Below w5.heap.size w5 wr) (fun iv _ => ql - (intOf iv).toNat)
              case atStart => exact ⟨0, by omega, rfl, fun i t hi => absurd hi (by omega), Below.refl _ w5⟩
              case round =>
                obtain ⟨k5, hk5, rfl, hno, hB⟩ := hrel
                have hzr := hB.size
                by_cases hlt5 : k5 < ql
                · obtain ⟨x, hx⟩ : ∃ x, Q[k5]? = some x := ⟨_, List.getElem?_eq_getElem (by rw [← H5.out.2.2.1]; exact hlt5)⟩
                  have i5 : (k5 : Int) < (ql : Int) := by omega
                  have hsl := H5.out.1.below hB
                  obtain ⟨b, o, hA, hbb, _⟩ := hsl.at hx
                  subst hA
                  obtain ⟨g0, g1, g2⟩ := hsl.pt8 hx
                  have hcal := HC.out.2.2.2.1 wr (H5.out.2.2.2.trans (hB.mono hz5)) x (H5.out.2.1 x (List.mem_of_getElem? hx))
                  have HK := hide (And.intro hx (And.intro hno (And.intro hB hcal)))
                  clear hsl hx hno hB hcal
                  go_wp2_with fail
                  refine HK.out.2.2.2.mono ?_
                  rintro e w6 ⟨rfl, hB6⟩
                  have hB56 : Below w5.heap.size w5 w6 := HK.out.2.2.1.trans (hB6.mono (by omega))
                  cases hp : pinchedP l x
                  · have HX := hide (And.intro (none_succ HK.out.1 HK.out.2.1 hp) hB56)
                    clear hp hB6 hB56
                    go_wp2
                    go_roundw
                    case rel => exact ⟨k5 + 1, by omega, by go_num, HX.out.1, HX.out.2⟩
                    case measure => simp [intOf]; omega
                  · have HX := hide (And.intro (any_some HK.out.1 hp) hB56)
                    clear hp hB6 hB56
                    go_wp2
                    go_ret
                    exact ⟨by rw [HR3.out, if_pos HX.out.1]; rfl, H5.out.2.2.2.trans (HX.out.2.mono hz5)⟩
                · have hnone := any_none H5.out.2.2.1 (by omega : ql ≤ k5) hno
                  have hRf := HR3.out
                  rw [if_neg (by rw [hnone]; simp)] at hRf
                  have HX := hide (And.intro hRf (H5.out.2.2.2.trans (hB.mono hz5)))
                  clear hno hnone hRf hB
                  go_wp2
                  go_ret
                  exact ⟨by rw [HX.out.1]; rfl, HX.out.2⟩
theorem Check_any (A : Option Addr) (c : Nat) (l : List Tri) (w : World) (hs : Sl encT 9 w w.heap.size A l) (hl : l.length ≤ 1073741824) (hf : ∀ t ∈ l, fitsT t) :
    Calls Tryz.prog 15 #[.slice A l.length c] w fun e w' => e = .returned (.int .i64 (checkP l false)) ∧ Below w.heap.size w w' := by
  have hcal := check_any A c l false w hs hl hf
  have HC := hide hcal
  clear hcal hs hl hf
  go_enter Tryz.func15, Tryz.ntmps15
  go_wp2_with fail
  refine HC.out.mono ?_
  rintro e w1 ⟨rfl, hB⟩
  go_wp2
  go_ret
  exact ⟨rfl, hB⟩
end Go.Proofs.YtelfnmohpjkilaaGreatDoor
/- Layer 4, plain: ordered lists; corners, borders and pairs as sets. No program. -/
namespace Go.Proofs.YtelfnmohpjkilaaGreatDoor
open Go.RowKit Go.Sort
section
variable {α : Type} {lt : α → α → Bool}
def Srt (lt : α → α → Bool) (l : List α) : Prop := l.Pairwise fun a b => lt a b = true
theorem Srt.nodup (h : STO lt) {l : List α} (hl : Srt lt l) : l.Nodup := hl.imp fun {f g} h' e => by subst e; rw [h.irrefl] at h'; cases h'
theorem srt_uniq (h : STO lt) {l m : List α} (hl : Srt lt l) (hm : Srt lt m) (hmem : ∀ x, x ∈ l ↔ x ∈ m) : l = m := by
  haveI : DecidableEq α := fun a b => Classical.propDecidable (a = b)
  exact ((List.perm_ext_iff_of_nodup (hl.nodup h) (hm.nodup h)).2 hmem).eq_of_pairwise (fun a b _ _ h1 h2 => by have := h.trans _ _ _ h1 h2; rw [h.irrefl] at this; cases this) hl hm
/-- The library's sort. -/
def sortG (lt : α → α → Bool) (l : List α) : List α := l.mergeSort fun x y => !lt y x
theorem sortG_mem {l : List α} {x : α} : x ∈ sortG lt l ↔ x ∈ l := List.mem_mergeSort
theorem sortG_length (l : List α) : (sortG lt l).length = l.length := by simp [sortG]
theorem sortG_srt (h : STO lt) {l : List α} (hl : l.Nodup) : Srt lt (sortG lt l) := by
  have hp : (sortG lt l).Perm l := List.mergeSort_perm l _
  have hs : (sortG lt l).Pairwise fun f g => (!lt g f) = true := List.pairwise_mergeSort (fun a b c h1 h2 => by
    rw [Bool.not_eq_true'] at *
    exact h.swo.ntrans _ _ _ h2 h1) (fun a b => by
    rw [Bool.or_eq_true, Bool.not_eq_true', Bool.not_eq_true']
    cases h1 : lt b a with
    | false => exact .inl rfl
    | true =>
      refine .inr ?_
      cases h2 : lt a b with
      | false => rfl
      | true => have := h.trans _ _ _ h1 h2; rw [h.irrefl] at this; cases this) l
  have hnd : (sortG lt l).Nodup := hp.nodup_iff.2 hl
  refine (hs.and hnd).imp fun {a b} hab => ?_
  have h1 : lt b a = false := by have := hab.1; rwa [Bool.not_eq_true'] at this
  cases h2 : lt a b with
  | true => rfl
  | false => exact absurd (h.total a b h2 h1) hab.2
/-- Insertion at the place that the order tells. -/
def atG (lt : α → α → Bool) (l : List α) (p : α) : Nat := (l.takeWhile fun x => lt x p).length
def insG (lt : α → α → Bool) (l : List α) (p : α) : List α := l.take (atG lt l p) ++ (p :: l.drop (atG lt l p))
theorem insG_mem {l : List α} {p q : α} : q ∈ insG lt l p ↔ q ∈ l ∨ q = p := by
  unfold insG
  rw [List.mem_append, List.mem_cons]
  have : q ∈ l ↔ q ∈ l.take (atG lt l p) ∨ q ∈ l.drop (atG lt l p) := by rw [← List.mem_append, List.take_append_drop]
  rw [this]
  constructor
  · rintro (h | h | h)
    · exact .inl (.inl h)
    · exact .inr h
    · exact .inl (.inr h)
  · rintro ((h | h) | h)
    · exact .inl h
    · exact .inr (.inr h)
    · exact .inr (.inl h)
theorem atG_cons (a : α) (l : List α) (p : α) : atG lt (a :: l) p = if lt a p = true then atG lt l p + 1 else 0 := by
  unfold atG
  rw [List.takeWhile_cons]
  split <;> rfl
theorem atG_spec : ∀ (l : List α) (p : α), (∀ x ∈ l.take (atG lt l p), lt x p = true) ∧ ∀ x, l[atG lt l p]? = some x → lt x p = false
  | [], p => ⟨by simp, by simp⟩
  | a :: l, p => by
    have ih := atG_spec l p
    rw [atG_cons]
    by_cases h : lt a p = true
    · rw [if_pos h]
      refine ⟨fun x hx => ?_, fun x hx => ?_⟩
      · rw [List.take_succ_cons] at hx
        rcases List.mem_cons.1 hx with rfl | hx
        · exact h
        · exact ih.1 x hx
      · rw [List.getElem?_cons_succ] at hx
        exact ih.2 x hx
    · rw [if_neg h]
      refine ⟨by simp, fun x hx => ?_⟩
      simp only [List.getElem?_cons_zero, Option.some.injEq] at hx
      rw [← hx]
      simpa using h
theorem insG_srt (ho : STO lt) {l : List α} (h : Srt lt l) (p : α) (hne : l[atG lt l p]? ≠ some p) : Srt lt (insG lt l p) := by
  have hlo := (atG_spec (lt := lt) l p).1
  have hhi : ∀ x ∈ l.drop (atG lt l p), lt p x = true := fun x hx => by
    obtain ⟨j, hj⟩ := List.mem_iff_getElem?.1 hx
    rw [List.getElem?_drop] at hj
    obtain ⟨hlt, ej⟩ := List.getElem?_eq_some_iff.1 hj
    have hi : atG lt l p < l.length := by omega
    have h0 : lt l[atG lt l p] p = false := (atG_spec l p).2 _ (List.getElem?_eq_getElem hi)
    have hn : l[atG lt l p] ≠ p := fun e => hne (by rw [List.getElem?_eq_getElem hi, e])
    have h1 : lt p l[atG lt l p] = true := by
      cases hb : lt p l[atG lt l p] with
      | true => rfl
      | false => exact absurd (ho.total _ _ h0 hb) hn
    rcases Nat.eq_zero_or_pos j with rfl | hj0
    · simp only [Nat.add_zero] at ej; rw [← ej]; exact h1
    · have := List.pairwise_iff_getElem.1 h (atG lt l p) (atG lt l p + j) hi hlt (by omega)
      rw [ej] at this
      exact ho.trans _ _ _ h1 this
  refine List.pairwise_append.2 ⟨h.sublist (List.take_sublist _ _), List.pairwise_cons.2 ⟨hhi, h.sublist (List.drop_sublist _ _)⟩, fun a ha b hb => ?_⟩
  rcases List.mem_cons.1 hb with rfl | hb
  · exact hlo a ha
  · exact ho.trans _ _ _ (hlo a ha) (hhi b hb)
end
/-! What is met, each once, in the order in which it is met. -/
section
variable {α : Type} [DecidableEq α]
def addL (L : List α) (x : α) : List α := if x ∈ L then L else L ++ [x]
def dedup (xs : List α) : List α := xs.foldl addL []
theorem addL_mem {L : List α} {x y : α} : y ∈ addL L x ↔ y ∈ L ∨ y = x := by
  unfold addL
  split
  · rename_i h
    constructor
    · exact .inl
    · rintro (h1 | rfl)
      · exact h1
      · exact h
  · rw [List.mem_append, List.mem_singleton]
theorem addL_nodup {L : List α} (h : L.Nodup) (x : α) : (addL L x).Nodup := by
  unfold addL
  split
  · exact h
  · rename_i hx
    rw [List.nodup_append]
    refine ⟨h, by simp, fun a ha b hb => ?_⟩
    rw [List.mem_singleton] at hb
    subst hb
    intro e
    subst e
    exact hx ha
theorem addL_length (L : List α) (x : α) : (addL L x).length ≤ L.length + 1 := by
  unfold addL
  split
  · omega
  · simp
theorem fold_addL_mem {xs L : List α} {y : α} : y ∈ xs.foldl addL L ↔ y ∈ L ∨ y ∈ xs := by
  induction xs generalizing L with
  | nil => simp
  | cons x xs ih =>
    rw [List.foldl_cons, ih, addL_mem, List.mem_cons, or_assoc]
theorem dedup_mem {xs : List α} {y : α} : y ∈ dedup xs ↔ y ∈ xs := by
  unfold dedup
  rw [fold_addL_mem]
  simp
theorem fold_addL_nodup {xs L : List α} (h : L.Nodup) : (xs.foldl addL L).Nodup := by
  induction xs generalizing L with
  | nil => exact h
  | cons x xs ih => exact ih (addL_nodup h x)
theorem dedup_nodup (xs : List α) : (dedup xs).Nodup := fold_addL_nodup List.nodup_nil
theorem dedup_snoc (xs : List α) (x : α) : dedup (xs ++ [x]) = addL (dedup xs) x := by
  unfold dedup
  rw [List.foldl_append]
  rfl
theorem dedup_length (xs : List α) : (dedup xs).length ≤ xs.length := by
  have key : ∀ (xs L : List α), (xs.foldl addL L).length ≤ L.length + xs.length := by
    intro xs
    induction xs with
    | nil => intro L; simp
    | cons x xs ih =>
      intro L
      have h1 := ih (addL L x)
      have h2 := addL_length L x
      rw [List.foldl_cons, List.length_cons]
      omega
  have := key xs []
  unfold dedup
  simpa using this
omit [DecidableEq α] in
theorem nodup_snoc {xs : List α} {x : α} : (xs ++ [x]).Nodup ↔ xs.Nodup ∧ x ∉ xs := by
  rw [List.nodup_append]
  constructor
  · rintro ⟨h1, _, h3⟩
    exact ⟨h1, fun hx => h3 x hx x (by simp) rfl⟩
  · rintro ⟨h1, h2⟩
    refine ⟨h1, by simp, fun a ha b hb e => ?_⟩
    rw [List.mem_singleton] at hb
    subst hb
    subst e
    exact h2 ha
end
/-! Corners. -/
def cors3 (t : Tri) : List Pt := [t.1, t.2.1, t.2.2]
def corsP (ts : List Tri) : List Pt := ts.flatMap cors3
theorem withP_iff4 {l : List Pt} {p q : Pt} : q ∈ withP l p ↔ q ∈ l ∨ q = p := by
  unfold withP
  split
  · rename_i h
    constructor
    · exact .inl
    · rintro (h1 | rfl)
      · exact h1
      · exact List.mem_of_getElem? h
  · exact insG_mem (lt := ltP)
theorem withP_srt {l : List Pt} (h : Srt ltP l) (p : Pt) : Srt ltP (withP l p) := by
  unfold withP
  split
  · exact h
  · rename_i hne
    exact insG_srt sto_P h p hne
theorem corners_both (ts : List Tri) : Srt ltP (cornersP ts) ∧ ∀ q, q ∈ cornersP ts ↔ q ∈ corsP ts := by
  have key : ∀ (ts : List Tri) (l : List Pt), Srt ltP l → Srt ltP (ts.foldl (fun l t => corN l t 3) l) ∧ ∀ q, q ∈ ts.foldl (fun l t => corN l t 3) l ↔ q ∈ l ∨ q ∈ corsP ts := by
    intro ts
    induction ts with
    | nil => intro l h; exact ⟨h, fun q => by simp [corsP]⟩
    | cons t ts ih =>
      intro l h
      obtain ⟨h1, h2⟩ := ih (corN l t 3) (withP_srt (withP_srt (withP_srt h _) _) _)
      refine ⟨h1, fun q => ?_⟩
      rw [List.foldl_cons, h2]
      show q ∈ withP (withP (withP l t.1) t.2.1) t.2.2 ∨ _ ↔ _
      rw [withP_iff4, withP_iff4, withP_iff4]
      unfold corsP
      rw [List.flatMap_cons, List.mem_append]
      unfold cors3
      simp only [List.mem_cons, List.not_mem_nil, or_false]
      constructor
      · rintro ((((h | h) | h) | h) | h)
        · exact .inl h
        · exact .inr (.inl (.inl h))
        · exact .inr (.inl (.inr (.inl h)))
        · exact .inr (.inl (.inr (.inr h)))
        · exact .inr (.inr h)
      · rintro (h | (h | h | h) | h)
        · exact .inl (.inl (.inl (.inl h)))
        · exact .inl (.inl (.inl (.inr h)))
        · exact .inl (.inl (.inr h))
        · exact .inl (.inr h)
        · exact .inr h
  have := key ts [] List.Pairwise.nil
  refine ⟨this.1, fun q => (this.2 q).trans (by simp)⟩
/-- The program's corners: a set, sorted. -/
theorem corners_sort {L : List Pt} {ts : List Tri} (hn : L.Nodup) (hm : ∀ q, q ∈ L ↔ q ∈ corsP ts) : sortG ltP L = cornersP ts :=
  srt_uniq sto_P (sortG_srt sto_P hn) (corners_both ts).1 fun q => by rw [sortG_mem, hm, (corners_both ts).2]
theorem corners_len (ts : List Tri) : (cornersP ts).length = (dedup (corsP ts)).length := by
  rw [← corners_sort (dedup_nodup _) (fun q => dedup_mem), sortG_length]
/-! The border. -/
theorem ltE_lex : ltE = lexB ltP ltP := by
  funext a b
  obtain ⟨a1, a2⟩ := a
  obtain ⟨b1, b2⟩ := b
  simp only [ltE, lexB]
  by_cases h1 : a1 = b1 <;> simp [h1, sto_P.irrefl]
theorem sto_E : STO ltE := by rw [ltE_lex]; exact sto_P.lex sto_P
theorem cntE_pos {l : List Ed} {e : Ed} : 0 < cntE l e ↔ e ∈ l := by
  unfold cntE
  rw [List.countP_pos_iff]
  simp
theorem border_both (ts : List Tri) : Srt ltE (borderP ts) ∧ ∀ e, e ∈ borderP ts ↔ e ∈ edgesP ts ∧ swapE e ∉ edgesP ts := by
  have key : ∀ (all : List Ed) (xs l : List Ed), Srt ltE l → Srt ltE (xs.foldl (bordS all) l) ∧ ∀ e, e ∈ xs.foldl (bordS all) l ↔ e ∈ l ∨ (e ∈ xs ∧ swapE e ∉ all) := by
    intro all xs
    induction xs with
    | nil => intro l h; exact ⟨h, fun e => by simp⟩
    | cons x xs ih =>
      intro l h
      have hb : Srt ltE (bordS all l x) ∧ ∀ e, e ∈ bordS all l x ↔ e ∈ l ∨ (e = x ∧ swapE e ∉ all) := by
        unfold bordS
        split
        · rename_i hc
          refine ⟨h, fun e => ?_⟩
          constructor
          · exact .inl
          · rintro (h1 | ⟨rfl, h1⟩)
            · exact h1
            · rcases hc with hc | hc
              · exact absurd (cntE_pos.1 hc) h1
              · exact cntE_pos.1 hc
        · rename_i hc
          have h1 : swapE x ∉ all := fun h1 => hc (.inl (cntE_pos.2 h1))
          have h2 : x ∉ l := fun h1 => hc (.inr (cntE_pos.2 h1))
          refine ⟨insG_srt sto_E h x (fun hh => h2 (List.mem_of_getElem? hh)), fun e => ?_⟩
          show e ∈ insG ltE l x ↔ _
          rw [insG_mem]
          constructor
          · rintro (h3 | rfl)
            · exact .inl h3
            · exact .inr ⟨rfl, h1⟩
          · rintro (h3 | ⟨h3, _⟩)
            · exact .inl h3
            · exact .inr h3
      obtain ⟨h1, h2⟩ := ih _ hb.1
      refine ⟨h1, fun e => ?_⟩
      rw [List.foldl_cons, h2, hb.2, List.mem_cons]
      constructor
      · rintro ((h | ⟨h, k⟩) | ⟨h, k⟩)
        · exact .inl h
        · exact .inr ⟨.inl h, k⟩
        · exact .inr ⟨.inr h, k⟩
      · rintro (h | ⟨h | h, k⟩)
        · exact .inl (.inl h)
        · exact .inl (.inr ⟨h, k⟩)
        · exact .inr ⟨h, k⟩
  have := key (edgesP ts) (edgesP ts) [] List.Pairwise.nil
  exact ⟨this.1, fun e => (this.2 e).trans (by simp)⟩
theorem border_sort {L : List Ed} {ts : List Tri} (hn : L.Nodup) (hm : ∀ e, e ∈ L ↔ e ∈ edgesP ts ∧ swapE e ∉ edgesP ts) : sortG ltE L = borderP ts :=
  srt_uniq sto_E (sortG_srt sto_E hn) (border_both ts).1 fun q => by rw [sortG_mem, hm, (border_both ts).2]
theorem cntE_count (es : List Ed) (e : Ed) : cntE es e = List.count e es := by
  unfold cntE List.count
  exact List.countP_congr fun x _ => by simp
theorem twice_iff (es : List Ed) : es.any (twiceE es) = true ↔ ¬ es.Nodup := by
  rw [List.any_eq_true]
  constructor
  · rintro ⟨e, he, h⟩ hn
    have h1 := List.nodup_iff_count.1 hn e
    have h2 : 1 < cntE es e := of_decide_eq_true h
    rw [cntE_count] at h2
    omega
  · intro hn
    have h1 : ∃ e, 1 < List.count e es := by
      exact Classical.byContradiction fun h => hn (List.nodup_iff_count.2 fun e => Nat.le_of_not_lt fun h' => h ⟨e, h'⟩)
    obtain ⟨e, he⟩ := h1
    refine ⟨e, List.count_pos_iff.1 (by omega), ?_⟩
    show decide (1 < cntE es e) = true
    rw [cntE_count]
    exact decide_eq_true he
/-! Pairs. -/
def normE (e : Ed) : Ed := if ltP e.2 e.1 = true then swapE e else e
theorem normE_swap (e : Ed) : normE (swapE e) = normE e := by
  unfold normE swapE
  by_cases h1 : ltP e.2 e.1 = true
  · have h2 : ltP e.1 e.2 = false := by
      cases h2 : ltP e.1 e.2 with
      | false => rfl
      | true => have := sto_P.trans _ _ _ h1 h2; rw [sto_P.irrefl] at this; cases this
    simp [h1, h2]
  · by_cases h2 : ltP e.1 e.2 = true
    · simp [h1, h2]
    · have : e.1 = e.2 := sto_P.total _ _ (by simpa using h2) (by simpa using h1)
      obtain ⟨a, b⟩ := e
      simp only at this
      subst this
      simp
theorem normE_or (e : Ed) : normE e = e ∨ normE e = swapE e := by
  unfold normE
  split
  · exact .inr rfl
  · exact .inl rfl
theorem swapE_swap (e : Ed) : swapE (swapE e) = e := rfl
theorem normE_eq {a b : Ed} : normE a = normE b ↔ a = b ∨ a = swapE b := by
  constructor
  · intro h
    rcases normE_or a with h1 | h1 <;> rcases normE_or b with h2 | h2 <;> rw [h1, h2] at h
    · exact .inl h
    · exact .inr h
    · exact .inr (by rw [← h]; rfl)
    · exact .inl (by rw [← swapE_swap a, h]; rfl)
  · rintro (rfl | rfl)
    · rfl
    · exact normE_swap b
def pairS (out : List Ed) (e : Ed) : List Ed := if cntE out e = 0 ∧ cntE out (swapE e) = 0 then out ++ [e] else out
def pairsR (es : List Ed) : List Ed := es.foldl pairS []
theorem pairs_map (es : List Ed) : (pairsR es).map normE = dedup (es.map normE) := by
  have key : ∀ (es out : List Ed), (es.foldl pairS out).map normE = (es.map normE).foldl addL (out.map normE) := by
    intro es
    induction es with
    | nil => intro out; rfl
    | cons e es ih =>
      intro out
      rw [List.foldl_cons, ih, List.map_cons, List.foldl_cons]
      congr 1
      unfold pairS addL
      have hc : normE e ∈ out.map normE ↔ ¬ (cntE out e = 0 ∧ cntE out (swapE e) = 0) := by
        rw [List.mem_map]
        constructor
        · rintro ⟨x, hx, h⟩ ⟨h1, h2⟩
          rcases normE_eq.1 h with rfl | rfl
          · have := cntE_pos.2 hx; omega
          · have := cntE_pos.2 hx; omega
        · intro h
          rcases Nat.eq_zero_or_pos (cntE out e) with h1 | h1
          · rcases Nat.eq_zero_or_pos (cntE out (swapE e)) with h2 | h2
            · exact absurd ⟨h1, h2⟩ h
            · exact ⟨_, cntE_pos.1 h2, normE_swap e⟩
          · exact ⟨_, cntE_pos.1 h1, rfl⟩
      by_cases h : cntE out e = 0 ∧ cntE out (swapE e) = 0
      · rw [if_pos h, if_neg (fun h' => hc.1 h' h), List.map_append]; rfl
      · rw [if_neg h, if_pos (hc.2 h)]
  exact key es []
theorem pairs_len (es : List Ed) : (pairsR es).length = (dedup (es.map normE)).length := by rw [← pairs_map, List.length_map]
/-- The Euler number. -/
def eulerP (ts : List Tri) : Int := ((cornersP ts).length : Int) - ((dedup ((edgesP ts).map normE)).length : Int) + (ts.length : Int)
end Go.Proofs.YtelfnmohpjkilaaGreatDoor
/- Layer 4, plain: what the program's check tells is what the reference tells. No program. -/
namespace Go.Proofs.YtelfnmohpjkilaaGreatDoor
open Go.RowKit Go.Sort
/-! The neighbour behind, as the program keeps it: the last one that was laid down. -/
def edJ (t : Tri) (j : Nat) : Ed := (corner t j, corner t ((j + 1) % 3))
def updE (m : Ed → Option Pt) (e : Ed) (v : Pt) : Ed → Option Pt := fun q => if q = e then some v else m q
def nxtJ (m : Ed → Option Pt) (t : Tri) : Nat → Ed → Option Pt
  | 0 => m
  | j + 1 => updE (nxtJ m t j) (edJ t j) (corner t ((j + 2) % 3))
def nxtN (l : List Tri) : Ed → Option Pt := l.foldl (fun m t => nxtJ m t 3) fun _ => none
theorem nxtN_snoc (l : List Tri) (k : Nat) (t : Tri) (h : l[k]? = some t) : nxtN (l.take (k + 1)) = nxtJ (nxtN (l.take k)) t 3 := by
  unfold nxtN
  rw [List.take_add_one, h, Option.toList_some, List.foldl_append]
  rfl
/-- How many triangles are at each corner. -/
def cntJ (t : Tri) (p : Pt) (j : Nat) : Nat := (pinN t p j).length
def cntC (l : List Tri) (p : Pt) : Nat := (pinL l p).length
theorem cntJ_succ (t : Tri) (p : Pt) (j : Nat) : cntJ t p (j + 1) = if p = corner t j then cntJ t p j + 1 else cntJ t p j := by
  unfold cntJ
  by_cases h : corner t j = p
  · rw [pinN_yes j h, if_pos h.symm]; simp
  · rw [pinN_no j h, if_neg (fun e => h e.symm)]
theorem cntC_snoc (l : List Tri) (p : Pt) (k : Nat) (t : Tri) (h : l[k]? = some t) : cntC (l.take (k + 1)) p = cntC (l.take k) p + cntJ t p 3 := by
  unfold cntC cntJ
  rw [pinL_snoc _ _ _ _ h, List.length_append]
theorem edges3_nodup {t : Tri} (h : (edges3 t).Nodup) : (t.1, t.2.1) ≠ (t.2.1, t.2.2) ∧ (t.1, t.2.1) ≠ (t.2.2, t.1) ∧ (t.2.1, t.2.2) ≠ (t.2.2, t.1) := by
  unfold edges3 at h
  simp only [List.nodup_cons, List.mem_cons, List.not_mem_nil, or_false, not_or, not_false_eq_true] at h
  exact ⟨h.1.1, h.1.2, h.2.1⟩
theorem behK_mem {t : Tri} {e : Ed} (h : e ∉ edges3 t) : behK t e.1 e.2 = none := by
  unfold edges3 at h
  simp only [List.mem_cons, List.not_mem_nil, or_false, not_or] at h
  obtain ⟨h1, h2, h3⟩ := h
  unfold behK
  rw [if_neg (fun c => h1 (Prod.ext c.1.symm c.2.symm)), if_neg (fun c => h2 (Prod.ext c.1.symm c.2.symm)), if_neg (fun c => h3 (Prod.ext c.1.symm c.2.symm))]
theorem nxtJ_beh {t : Tri} (hn : (edges3 t).Nodup) (m : Ed → Option Pt) (e : Ed) : nxtJ m t 3 e = (behK t e.1 e.2).or (m e) := by
  obtain ⟨h1, h2, h3⟩ := edges3_nodup hn
  show (if e = (t.2.2, t.1) then some t.2.1 else if e = (t.2.1, t.2.2) then some t.1 else if e = (t.1, t.2.1) then some t.2.2 else m e) = _
  unfold behK
  by_cases c1 : e = (t.1, t.2.1)
  · subst c1
    rw [if_neg h2, if_neg h1, if_pos rfl, if_pos ⟨rfl, rfl⟩]; rfl
  · rw [if_neg (fun c : t.1 = e.1 ∧ t.2.1 = e.2 => c1 (Prod.ext c.1.symm c.2.symm))]
    by_cases c2 : e = (t.2.1, t.2.2)
    · subst c2
      rw [if_neg h3, if_pos rfl, if_pos ⟨rfl, rfl⟩]; rfl
    · rw [if_neg (fun c : t.2.1 = e.1 ∧ t.2.2 = e.2 => c2 (Prod.ext c.1.symm c.2.symm))]
      by_cases c3 : e = (t.2.2, t.1)
      · subst c3
        rw [if_pos rfl, if_pos ⟨rfl, rfl⟩]; rfl
      · rw [if_neg c3, if_neg c2, if_neg c1, if_neg (fun c : t.2.2 = e.1 ∧ t.1 = e.2 => c3 (Prod.ext c.1.symm c.2.symm))]; rfl
theorem behP_snoc (l : List Tri) (t : Tri) (p q : Pt) : behP (l ++ [t]) p q = (behP l p q).or (behK t p q) := by
  unfold behP
  rw [List.findSome?_append]
  simp
theorem behP_mem {l : List Tri} {e : Ed} (h : e ∉ edgesP l) : behP l e.1 e.2 = none := by
  unfold behP
  rw [List.findSome?_eq_none_iff]
  intro t ht
  exact behK_mem fun h' => h (List.mem_flatMap.2 ⟨t, ht, h'⟩)
theorem nxtN_beh {l : List Tri} (hn : (edgesP l).Nodup) : ∀ e, nxtN l e = behP l e.1 e.2 := by
  have key : ∀ (k : Nat), k ≤ l.length → ∀ e, nxtN (l.take k) e = behP (l.take k) e.1 e.2 := by
    intro k
    induction k with
    | zero => intro _ e; rfl
    | succ k ih =>
      intro hk e
      obtain ⟨t, ht⟩ : ∃ t, l[k]? = some t := ⟨_, List.getElem?_eq_getElem hk⟩
      have hsub : (edgesP (l.take (k + 1))).Sublist (edgesP l) := by
        have h1 := List.take_append_drop (k + 1) l
        have h2 : edgesP l = edgesP (l.take (k + 1)) ++ edgesP (l.drop (k + 1)) := by
          unfold edgesP
          rw [← List.flatMap_append, h1]
        rw [h2]
        exact List.sublist_append_left _ _
      have hd := hn.sublist hsub
      rw [edgesP_snoc _ _ _ ht, List.nodup_append] at hd
      rw [nxtN_snoc _ _ _ ht, nxtJ_beh hd.2.1, ih (by omega)]
      have e1 : l.take (k + 1) = l.take k ++ [t] := by rw [List.take_add_one, ht]; rfl
      rw [e1, behP_snoc]
      by_cases hm : e ∈ edges3 t
      · have : e ∉ edgesP (l.take k) := fun h' => hd.2.2 e h' e hm rfl
        rw [behP_mem this]
        cases behK t e.1 e.2 <;> rfl
      · rw [behK_mem hm]
        cases behP (l.take k) e.1 e.2 <;> rfl
  intro e
  have := key l.length (Nat.le_refl _) e
  rwa [List.take_length] at this
theorem behP_has {l : List Tri} {e : Ed} (h : e ∈ edgesP l) : ∃ x, behP l e.1 e.2 = some x := by
  obtain ⟨t, ht, he⟩ := List.mem_flatMap.1 h
  cases hb : behP l e.1 e.2 with
  | some x => exact ⟨x, rfl⟩
  | none =>
    exfalso
    unfold behP at hb
    rw [List.findSome?_eq_none_iff] at hb
    have h1 := hb t ht
    unfold behK at h1
    simp only [edges3, List.mem_cons, List.not_mem_nil, or_false] at he
    rcases he with rfl | rfl | rfl
    · rw [if_pos ⟨rfl, rfl⟩] at h1; cases h1
    · split at h1
      · cases h1
      · rw [if_pos ⟨rfl, rfl⟩] at h1; cases h1
    · split at h1
      · cases h1
      · split at h1
        · cases h1
        · rw [if_pos ⟨rfl, rfl⟩] at h1; cases h1
/-! Among the triangles at a corner alone. -/
theorem behK_at_p {t : Tri} {p q x : Pt} (h : behK t p q = some x) : pinN t p 3 ≠ [] := by
  have hh : t.1 = p ∨ t.2.1 = p ∨ t.2.2 = p := by
    unfold behK at h
    split at h
    · rename_i c; exact .inl c.1
    · split at h
      · rename_i c; exact .inr (.inl c.1)
      · split at h
        · rename_i c; exact .inr (.inr c.1)
        · cases h
  intro hn
  have key : ∀ j, j < 3 → corner t j ≠ p := fun j hj hc => by
    have : (t, corner t ((j + 1) % 3)) ∈ pinN t p 3 := List.mem_flatMap.2 ⟨j, List.mem_range.2 hj, by rw [if_pos hc]; simp⟩
    rw [hn] at this
    cases this
  rcases hh with h | h | h
  · exact key 0 (by omega) h
  · exact key 1 (by omega) h
  · exact key 2 (by omega) h
theorem pinN_fst {t : Tri} {p : Pt} {j : Nat} : ∀ x ∈ (pinN t p j).map (·.1), x = t := by
  intro x hx
  obtain ⟨y, hy, rfl⟩ := List.mem_map.1 hx
  obtain ⟨i, _, hy⟩ := List.mem_flatMap.1 hy
  split at hy
  · rw [List.mem_singleton.1 hy]
  · cases hy
theorem findSome_rep {β : Type} (f : Tri → Option β) (t : Tri) : ∀ l : List Tri, (∀ x ∈ l, x = t) → l ≠ [] → l.findSome? f = f t
  | [], _, h => absurd rfl h
  | [x], h, _ => by
    rw [h x (by simp)]
    simp [List.findSome?]
    cases f t <;> rfl
  | x :: y :: l, h, _ => by
    rw [List.findSome?_cons, h x (by simp)]
    cases hf : f t with
    | some v => rfl
    | none => 
      have := findSome_rep f t (y :: l) (fun z hz => h z (by simp [List.mem_cons.1 hz])) (by simp)
      rw [hf] at this
      exact this
theorem behP_mine (l : List Tri) (p q : Pt) : behP ((pinL l p).map (·.1)) p q = behP l p q := by
  unfold pinL
  induction l with
  | nil => rfl
  | cons t l ih =>
    rw [List.flatMap_cons, List.map_append]
    unfold behP at *
    rw [List.findSome?_append, ih, List.findSome?_cons]
    by_cases hn : pinN t p 3 = []
    · rw [hn]
      cases hb : behK t p q with
      | none => rfl
      | some x => exact absurd hn (behK_at_p hb)
    · rw [findSome_rep (fun t => behK t p q) t _ pinN_fst (fun h => hn (List.map_eq_nil_iff.1 h))]
      cases behK t p q <;> rfl
theorem runP_O (l : List Tri) (p s : Pt) : ∀ (n : Nat) (x : Pt), runP ((pinL l p).map (·.1)) p s n x = runO (fun q => behP l p q) s n x
  | 0, x => rfl
  | n + 1, x => by
    unfold runP runO
    rw [behP_mine]
    cases behP l p x with
    | none => rfl
    | some y =>
      show (if y = s then true else runP ((pinL l p).map (·.1)) p s n y) = (decide (y = s) || runO (fun q => behP l p q) s n y)
      rw [← runP_O l p s n y]
      by_cases h : y = s
      · simp [h]
      · simp [h]
theorem pinL_iff {l : List Tri} {p s : Pt} : s ∈ (pinL l p).map (·.2) ↔ (p, s) ∈ edgesP l := by
  unfold pinL edgesP
  rw [List.map_flatMap, List.mem_flatMap, List.mem_flatMap]
  constructor
  · rintro ⟨t, ht, hs⟩
    refine ⟨t, ht, ?_⟩
    obtain ⟨y, hy, rfl⟩ := List.mem_map.1 hs
    obtain ⟨i, hi, hy⟩ := List.mem_flatMap.1 hy
    rw [List.mem_range] at hi
    split at hy
    · rename_i hc
      rw [List.mem_singleton.1 hy]
      have hc3 : i = 0 ∨ i = 1 ∨ i = 2 := by omega
      rcases hc3 with rfl | rfl | rfl <;> (subst hc; simp [edges3, corner])
    · cases hy
  · rintro ⟨t, ht, hs⟩
    refine ⟨t, ht, ?_⟩
    simp only [edges3, List.mem_cons, List.not_mem_nil, or_false, Prod.mk.injEq] at hs
    rw [List.mem_map]
    rcases hs with ⟨rfl, rfl⟩ | ⟨rfl, rfl⟩ | ⟨rfl, rfl⟩
    · exact ⟨(t, t.2.1), List.mem_flatMap.2 ⟨0, by simp, by rw [if_pos (show corner t 0 = t.1 from rfl)]; exact List.mem_singleton.2 rfl⟩, rfl⟩
    · exact ⟨(t, t.2.2), List.mem_flatMap.2 ⟨1, by simp, by rw [if_pos (show corner t 1 = t.2.1 from rfl)]; exact List.mem_singleton.2 rfl⟩, rfl⟩
    · exact ⟨(t, t.1), List.mem_flatMap.2 ⟨2, by simp, by rw [if_pos (show corner t 2 = t.2.2 from rfl)]; exact List.mem_singleton.2 rfl⟩, rfl⟩
/-- The program's ring from one edge. -/
def ringM (l : List Tri) (e : Ed) : Bool := match behP l e.1 e.2 with
  | none => false
  | some x => prgO (fun q => behP l e.1 q) e.2 (cntC l e.1) (cntC l e.1) 1 x
theorem edge_cors {l : List Tri} {e : Ed} (h : e ∈ edgesP l) : e.1 ∈ corsP l := by
  obtain ⟨t, ht, he⟩ := List.mem_flatMap.1 h
  refine List.mem_flatMap.2 ⟨t, ht, ?_⟩
  simp only [edges3, List.mem_cons, List.not_mem_nil, or_false] at he
  rcases he with rfl | rfl | rfl <;> simp [cors3]
theorem pinch_same (l : List Tri) : (cornersP l).any (pinchedP l) = (edgesP l).any (ringM l) := by
  have hr : ∀ e ∈ edgesP l, ringM l e = runP ((pinL l e.1).map (·.1)) e.1 e.2 ((pinL l e.1).length - 1) e.2 := fun e he => by
    obtain ⟨x, hx⟩ := behP_has he
    unfold ringM
    rw [hx]
    show prgO _ _ _ _ _ _ = _
    rw [ring_same (fun q => behP l e.1 q) e.2 x (cntC l e.1) (cntC l e.1) hx (Nat.le_refl _), runP_O]
    rfl
  rw [Bool.eq_iff_iff, List.any_eq_true, List.any_eq_true]
  constructor
  · rintro ⟨p, _, h⟩
    unfold pinchedP at h
    rw [List.any_eq_true] at h
    obtain ⟨s, hs, h⟩ := h
    have he : (p, s) ∈ edgesP l := pinL_iff.1 hs
    exact ⟨(p, s), he, by rw [hr _ he]; exact h⟩
  · rintro ⟨e, he, h⟩
    refine ⟨e.1, ((corners_both l).2 _).2 (edge_cors he), ?_⟩
    unfold pinchedP
    rw [List.any_eq_true]
    exact ⟨e.2, pinL_iff.2 he, by rw [← hr e he]; exact h⟩
/-- What the program's check tells. -/
theorem check_is (l : List Tri) (op : Bool) : checkP l op = if l.any flatT = true then 20 else if ¬ (edgesP l).Nodup then 21 else if (!op && decide (0 < (borderP l).length)) = true then 22 else if (edgesP l).any (ringM l) = true then 23 else 0 := by
  unfold checkP
  rw [pinch_same]
  by_cases h : (edgesP l).any (twiceE (edgesP l)) = true
  · rw [if_pos h, if_pos ((twice_iff _).1 h)]
  · rw [if_neg h, if_neg (fun h' => h ((twice_iff _).2 h'))]
end Go.Proofs.YtelfnmohpjkilaaGreatDoor
/- Layer 4, plain: what depends only on the cyclic triples of a list. No program. -/
namespace Go.Proofs.YtelfnmohpjkilaaGreatDoor
open Go.RowKit Go.Sort
def cyc3 (t : Tri) : Tri := (t.2.1, t.2.2, t.1)
def tri3 (t : Tri) : List Tri := [t, (t.2.1, t.2.2, t.1), (t.2.2, t.1, t.2.1)]
def tripP (l : List Tri) : List Tri := l.flatMap tri3
def edOf (t : Tri) : Ed := (t.1, t.2.1)
theorem tri3_cyc (t : Tri) : (tri3 (cyc3 t)).Perm (tri3 t) := by
  show [(t.2.1, t.2.2, t.1), (t.2.2, t.1, t.2.1), (t.1, t.2.1, t.2.2)].Perm [t, (t.2.1, t.2.2, t.1), (t.2.2, t.1, t.2.1)]
  exact (List.perm_append_comm (l₁ := [(t.2.1, t.2.2, t.1), (t.2.2, t.1, t.2.1)]) (l₂ := [(t.1, t.2.1, t.2.2)]))
theorem tripP_len (l : List Tri) : (tripP l).length = 3 * l.length := by
  unfold tripP
  induction l with
  | nil => rfl
  | cons t l ih => rw [List.flatMap_cons, List.length_append, ih, List.length_cons]; show 3 + _ = _; omega
theorem edges_trip (l : List Tri) : edgesP l = (tripP l).map edOf := by
  unfold edgesP tripP
  induction l with
  | nil => rfl
  | cons t l ih => rw [List.flatMap_cons, List.flatMap_cons, List.map_append, ← ih]; rfl
theorem cors_trip (l : List Tri) : corsP l = (tripP l).map (·.1) := by
  unfold corsP tripP
  induction l with
  | nil => rfl
  | cons t l ih => rw [List.flatMap_cons, List.flatMap_cons, List.map_append, ← ih]; rfl
theorem flat_trip (l : List Tri) : l.any flatT = (tripP l).any fun u => decide (u.1 = u.2.1) := by
  unfold tripP
  induction l with
  | nil => rfl
  | cons t l ih =>
    rw [List.any_cons, List.flatMap_cons, List.any_append, ← ih]
    congr 1
    simp [tri3, flatT, Bool.or_assoc]
theorem behK_of {t : Tri} {p q x : Pt} (h : behK t p q = some x) : (p, q, x) ∈ tri3 t := by
  unfold behK at h
  unfold tri3
  split at h
  · rename_i h1
    obtain ⟨rfl, rfl⟩ := h1
    injection h with h; subst h
    simp
  · split at h
    · rename_i h1
      obtain ⟨rfl, rfl⟩ := h1
      injection h with h; subst h
      simp
    · split at h
      · rename_i h1
        obtain ⟨rfl, rfl⟩ := h1
        injection h with h; subst h
        simp
      · cases h
theorem behP_of {l : List Tri} {p q x : Pt} (h : behP l p q = some x) : (p, q, x) ∈ tripP l := by
  unfold behP at h
  obtain ⟨t, ht, hb⟩ := List.exists_of_findSome?_eq_some h
  exact List.mem_flatMap.2 ⟨t, ht, behK_of hb⟩
theorem trip_one {l : List Tri} (hn : (edgesP l).Nodup) {p q x y : Pt} (hx : (p, q, x) ∈ tripP l) (hy : (p, q, y) ∈ tripP l) : x = y := by
  rw [edges_trip] at hn
  obtain ⟨i, hi⟩ := List.mem_iff_getElem?.1 hx
  obtain ⟨j, hj⟩ := List.mem_iff_getElem?.1 hy
  obtain ⟨hil, ei⟩ := List.getElem?_eq_some_iff.1 hi
  obtain ⟨hjl, ej⟩ := List.getElem?_eq_some_iff.1 hj
  have nd := List.pairwise_iff_getElem.1 hn
  rcases Nat.lt_trichotomy i j with h | h | h
  · exact absurd (by rw [List.getElem_map, List.getElem_map, ei, ej]; rfl) (nd i j (by simpa using hil) (by simpa using hjl) h)
  · subst h; rw [ei] at ej; injection ej with _ ej; injection ej
  · exact absurd (by rw [List.getElem_map, List.getElem_map, ei, ej]; rfl) (nd j i (by simpa using hjl) (by simpa using hil) h)
theorem behP_iff {l : List Tri} (hn : (edgesP l).Nodup) {p q x : Pt} : behP l p q = some x ↔ (p, q, x) ∈ tripP l := by
  constructor
  · exact behP_of
  · intro h
    have he : (p, q) ∈ edgesP l := by rw [edges_trip]; exact List.mem_map.2 ⟨_, h, rfl⟩
    obtain ⟨y, hy⟩ := behP_has he
    have hy' : behP l p q = some y := hy
    rw [hy', trip_one hn (behP_of hy') h]
theorem pinN_len (t : Tri) (p : Pt) : (pinN t p 3).length = (cors3 t).count p := by
  show ((List.range 3).flatMap fun i => if corner t i = p then [(t, corner t ((i + 1) % 3))] else []).length = [t.1, t.2.1, t.2.2].count p
  rw [show List.range 3 = [0, 1, 2] from rfl]
  simp only [List.flatMap_cons, List.flatMap_nil, List.append_nil, List.length_append, List.count_cons, List.count_nil]
  rw [show corner t 0 = t.1 from rfl, show corner t 1 = t.2.1 from rfl, show corner t 2 = t.2.2 from rfl]
  by_cases h1 : t.1 = p <;> by_cases h2 : t.2.1 = p <;> by_cases h3 : t.2.2 = p <;> simp [h1, h2, h3]
theorem cntC_count (l : List Tri) (p : Pt) : cntC l p = (corsP l).count p := by
  unfold cntC pinL corsP
  induction l with
  | nil => rfl
  | cons t l ih => rw [List.flatMap_cons, List.flatMap_cons, List.length_append, List.count_append, ← ih, pinN_len]
section
variable {s t : List Tri} (h : (tripP s).Perm (tripP t))
include h
theorem edges_perm : (edgesP s).Perm (edgesP t) := by rw [edges_trip, edges_trip]; exact h.map _
theorem cors_perm : (corsP s).Perm (corsP t) := by rw [cors_trip, cors_trip]; exact h.map _
theorem trip_length : s.length = t.length := by have := h.length_eq; rw [tripP_len, tripP_len] at this; omega
theorem flat_perm : s.any flatT = t.any flatT := by
  rw [flat_trip, flat_trip]
  exact h.any_eq
theorem behP_perm (hn : (edgesP t).Nodup) (p q : Pt) : behP s p q = behP t p q := by
  have hs : (edgesP s).Nodup := (edges_perm h).nodup_iff.2 hn
  cases ht : behP t p q with
  | some x => exact (behP_iff hs).2 (h.mem_iff.2 ((behP_iff hn).1 ht))
  | none =>
    cases hb : behP s p q with
    | none => rfl
    | some x =>
      have := (behP_iff hn).2 (h.mem_iff.1 ((behP_iff hs).1 hb))
      rw [ht] at this; cases this
theorem cntC_perm (p : Pt) : cntC s p = cntC t p := by rw [cntC_count, cntC_count]; exact (cors_perm h).count_eq p
theorem ringM_perm (hn : (edgesP t).Nodup) (e : Ed) : ringM s e = ringM t e := by
  unfold ringM
  rw [behP_perm h hn, cntC_perm h, show (fun q => behP s e.1 q) = fun q => behP t e.1 q from funext fun q => behP_perm h hn e.1 q]
theorem border_perm : borderP s = borderP t :=
  srt_uniq sto_E (border_both s).1 (border_both t).1 fun e => by
    rw [(border_both s).2, (border_both t).2, (edges_perm h).mem_iff, (edges_perm h).mem_iff]
theorem corners_perm : cornersP s = cornersP t :=
  srt_uniq sto_P (corners_both s).1 (corners_both t).1 fun q => by
    rw [(corners_both s).2, (corners_both t).2, (cors_perm h).mem_iff]
theorem check_perm (op : Bool) : checkP s op = checkP t op := by
  rw [check_is, check_is, flat_perm h, border_perm h]
  have hnd := (edges_perm h).nodup_iff
  by_cases hn : (edgesP t).Nodup
  · have hr : (edgesP s).any (ringM s) = (edgesP t).any (ringM t) := by
      rw [(edges_perm h).any_eq]
      exact congrArg _ (funext fun e => ringM_perm h hn e)
    rw [hr]
    simp only [hnd]
  · simp only [hnd]
    by_cases hf : t.any flatT = true
    · rw [if_pos hf, if_pos hf]
    · rw [if_neg hf, if_neg hf, if_pos hn, if_pos hn]
theorem dedup_len_perm : (dedup ((edgesP s).map normE)).length = (dedup ((edgesP t).map normE)).length := by
  refine List.Perm.length_eq ((List.perm_ext_iff_of_nodup (dedup_nodup _) (dedup_nodup _)).2 fun e => ?_)
  rw [dedup_mem, dedup_mem, ((edges_perm h).map normE).mem_iff]
theorem euler_perm : eulerP s = eulerP t := by
  unfold eulerP
  rw [corners_perm h, dedup_len_perm h, trip_length h]
end
end Go.Proofs.YtelfnmohpjkilaaGreatDoor
/- Layer 4, plain: rings as iterations; a list turned round; a piece of a list and the rest. No program. -/
namespace Go.Proofs.YtelfnmohpjkilaaGreatDoor
open Go.RowKit Go.Sort
def iterO (b : Pt → Option Pt) : Nat → Pt → Option Pt
  | 0, s => some s
  | k + 1, s => (b s).bind (iterO b k)
theorem runO_iff (b : Pt → Option Pt) (s : Pt) : ∀ (n : Nat) (a : Pt), runO b s n a = true ↔ ∃ k, 1 ≤ k ∧ k ≤ n ∧ iterO b k a = some s
  | 0, a => by
    constructor
    · intro h; cases h
    · rintro ⟨k, h1, h2, _⟩; omega
  | n + 1, a => by
    unfold runO
    cases hb : b a with
    | none =>
      constructor
      · intro h; cases h
      · rintro ⟨k, h1, h2, h3⟩
        obtain ⟨k, rfl⟩ : ∃ j, k = j + 1 := ⟨k - 1, by omega⟩
        unfold iterO at h3
        rw [hb] at h3; cases h3
    | some x =>
      show (decide (x = s) || runO b s n x) = true ↔ _
      rw [Bool.or_eq_true, decide_eq_true_eq, runO_iff b s n x]
      constructor
      · rintro (rfl | ⟨k, h1, h2, h3⟩)
        · exact ⟨1, by omega, by omega, by unfold iterO; rw [hb]; rfl⟩
        · exact ⟨k + 1, by omega, by omega, by unfold iterO; rw [hb]; exact h3⟩
      · rintro ⟨k, h1, h2, h3⟩
        obtain ⟨k, rfl⟩ : ∃ j, k = j + 1 := ⟨k - 1, by omega⟩
        unfold iterO at h3
        rw [hb] at h3
        change iterO b k x = some s at h3
        rcases Nat.eq_zero_or_pos k with rfl | hk
        · unfold iterO at h3
          injection h3 with h3
          exact .inl h3
        · exact .inr ⟨k, hk, by omega, h3⟩
theorem ringM_iff {l : List Tri} {e : Ed} : ringM l e = true ↔ ∃ k, 1 ≤ k ∧ k < cntC l e.1 ∧ iterO (behP l e.1) k e.2 = some e.2 := by
  unfold ringM
  cases hb : behP l e.1 e.2 with
  | none =>
    constructor
    · intro h; cases h
    · rintro ⟨k, h1, _, h3⟩
      obtain ⟨k, rfl⟩ : ∃ j, k = j + 1 := ⟨k - 1, by omega⟩
      unfold iterO at h3
      rw [hb] at h3; cases h3
  | some x =>
    show prgO (behP l e.1) e.2 (cntC l e.1) (cntC l e.1) 1 x = true ↔ _
    rw [ring_same _ _ _ _ _ hb (Nat.le_refl _), runO_iff]
    constructor
    · rintro ⟨k, h1, h2, h3⟩; exact ⟨k, h1, by omega, h3⟩
    · rintro ⟨k, h1, h2, h3⟩; exact ⟨k, h1, by omega, h3⟩
theorem iterO_add (b : Pt → Option Pt) : ∀ (i j : Nat) (s : Pt), iterO b (i + j) s = (iterO b i s).bind (iterO b j)
  | 0, j, s => by rw [Nat.zero_add]; rfl
  | i + 1, j, s => by
    rw [show i + 1 + j = (i + j) + 1 by omega]
    unfold iterO
    cases hb : b s with
    | none => rfl
    | some x => exact iterO_add b i j x
theorem iterO_mono {b c : Pt → Option Pt} (h : ∀ x y, b x = some y → c x = some y) : ∀ (k : Nat) (s r : Pt), iterO b k s = some r → iterO c k s = some r
  | 0, s, r, hk => hk
  | k + 1, s, r, hk => by
    unfold iterO at hk ⊢
    cases hb : b s with
    | none => rw [hb] at hk; cases hk
    | some x =>
      rw [hb] at hk
      rw [h _ _ hb]
      exact iterO_mono h k x r hk
/-- Backwards. -/
theorem iterO_back {b c : Pt → Option Pt} (h : ∀ x y, b x = some y → c y = some x) : ∀ (k : Nat) (s r : Pt), iterO b k s = some r → iterO c k r = some s
  | 0, s, r, hk => by unfold iterO at hk ⊢; injection hk with hk; rw [hk]
  | k + 1, s, r, hk => by
    unfold iterO at hk
    cases hb : b s with
    | none => rw [hb] at hk; cases hk
    | some x =>
      rw [hb] at hk
      have h1 := iterO_back h k x r hk
      rw [iterO_add c k 1 r, h1]
      show (c x).bind _ = _
      rw [h _ _ hb]; rfl
/-- No ring but whole ones. -/
def calmP (l : List Tri) : Prop := ∀ p s k, 1 ≤ k → iterO (behP l p) k s = some s → cntC l p ≤ k
theorem calm_iff {l : List Tri} : (edgesP l).any (ringM l) = false ↔ calmP l := by
  constructor
  · intro h p s k hk hi
    refine Classical.byContradiction fun hc => ?_
    have he : (p, s) ∈ edgesP l := by
      obtain ⟨j, rfl⟩ : ∃ j, k = j + 1 := ⟨k - 1, by omega⟩
      unfold iterO at hi
      cases hb : behP l p s with
      | none => rw [hb] at hi; cases hi
      | some x => rw [edges_trip]; exact List.mem_map.2 ⟨_, behP_of hb, rfl⟩
    have : (edgesP l).any (ringM l) = true := List.any_eq_true.2 ⟨(p, s), he, ringM_iff.2 ⟨k, hk, by show k < cntC l p; omega, hi⟩⟩
    rw [h] at this; cases this
  · intro h
    cases hb : (edgesP l).any (ringM l) with
    | false => rfl
    | true =>
      obtain ⟨e, _, he⟩ := List.any_eq_true.1 hb
      obtain ⟨k, h1, h2, h3⟩ := ringM_iff.1 he
      have := h _ _ _ h1 h3
      omega
theorem check_iff {l : List Tri} {op : Bool} : checkP l op = 0 ↔ l.any flatT = false ∧ (edgesP l).Nodup ∧ (op = true ∨ borderP l = []) ∧ calmP l := by
  rw [check_is, ← calm_iff]
  by_cases h1 : l.any flatT = true
  · rw [if_pos h1, h1]; simp
  · rw [if_neg h1]
    have h1' : l.any flatT = false := by simpa using h1
    by_cases h2 : (edgesP l).Nodup
    · rw [if_neg (fun h => h h2)]
      cases op with
      | true => by_cases h4 : (edgesP l).any (ringM l) = true <;> simp [h1', h2, h4]
      | false =>
        by_cases h3 : borderP l = []
        · by_cases h4 : (edgesP l).any (ringM l) = true <;> simp [h1', h2, h3, h4]
        · have : 0 < (borderP l).length := List.length_pos_iff.2 h3
          rw [if_pos (by simpa using this)]
          simp [h3]
    · rw [if_pos h2]; simp [h2]
/-! Turned round. -/
def flipT4 (t : Tri) : Tri := (t.2.1, t.1, t.2.2)
theorem trip_flip (l : List Tri) : (tripP (l.map flipT4)).Perm ((tripP l).map flipT4) := by
  unfold tripP
  induction l with
  | nil => exact List.Perm.refl _
  | cons t l ih =>
    rw [List.map_cons, List.flatMap_cons, List.flatMap_cons, List.map_append]
    refine List.Perm.append ?_ ih
    show [(t.2.1, t.1, t.2.2), (t.1, t.2.2, t.2.1), (t.2.2, t.2.1, t.1)].Perm [(t.2.1, t.1, t.2.2), (t.2.2, t.2.1, t.1), (t.1, t.2.2, t.2.1)]
    exact List.Perm.cons _ (List.Perm.swap _ _ _)
theorem trip_cyc {l : List Tri} {p q x : Pt} (h : (p, q, x) ∈ tripP l) : (q, x, p) ∈ tripP l := by
  obtain ⟨t, ht, hu⟩ := List.mem_flatMap.1 h
  refine List.mem_flatMap.2 ⟨t, ht, ?_⟩
  obtain ⟨a, b, c⟩ := t
  simp only [tri3, List.mem_cons, List.not_mem_nil, or_false, Prod.mk.injEq] at hu ⊢
  rcases hu with ⟨rfl, rfl, rfl⟩ | ⟨rfl, rfl, rfl⟩ | ⟨rfl, rfl, rfl⟩
  · exact .inr (.inl ⟨rfl, rfl, rfl⟩)
  · exact .inr (.inr ⟨rfl, rfl, rfl⟩)
  · exact .inl ⟨rfl, rfl, rfl⟩
theorem edges_flip (l : List Tri) : (edgesP (l.map flipT4)).Perm ((edgesP l).map swapE) := by
  rw [edges_trip, edges_trip]
  refine ((trip_flip l).map edOf).trans ?_
  rw [List.map_map, List.map_map]
  exact List.Perm.refl _
theorem cors_flip (l : List Tri) : (corsP (l.map flipT4)).Perm (corsP l) := by
  rw [cors_trip, cors_trip]
  refine ((trip_flip l).map (·.1)).trans ?_
  unfold tripP
  rw [List.map_map]
  induction l with
  | nil => exact List.Perm.refl _
  | cons t l ih =>
    rw [List.flatMap_cons, List.map_append, List.map_append]
    refine List.Perm.append ?_ ih
    show [t.2.1, t.2.2, t.1].Perm [t.1, t.2.1, t.2.2]
    exact (List.perm_append_comm (l₁ := [t.2.1, t.2.2]) (l₂ := [t.1]))
theorem nodup_map_swap {L : List Ed} : (L.map swapE).Nodup ↔ L.Nodup := by
  constructor
  · intro h
    refine (List.pairwise_map.1 h).imp fun {a b} hab e => hab (by rw [e])
  · intro h
    refine List.pairwise_map.2 (h.imp fun {a b} hab e => hab ?_)
    have := congrArg swapE e
    rwa [swapE_swap, swapE_swap] at this
theorem mem_map_swap {L : List Ed} {e : Ed} : e ∈ L.map swapE ↔ swapE e ∈ L := by
  rw [List.mem_map]
  constructor
  · rintro ⟨x, hx, rfl⟩; rwa [swapE_swap]
  · intro h; exact ⟨_, h, swapE_swap e⟩
theorem border_flip_len (l : List Tri) : (borderP (l.map flipT4)).length = (borderP l).length := by
  have h1 := ((border_both (l.map flipT4)).1).nodup sto_E
  have h2 := ((border_both l).1).nodup sto_E
  have := (List.perm_ext_iff_of_nodup h1 (nodup_map_swap.2 h2)).2 fun e => by
    rw [(border_both _).2, mem_map_swap, (border_both _).2, (edges_flip l).mem_iff, (edges_flip l).mem_iff, mem_map_swap, mem_map_swap, swapE_swap]
  have := this.length_eq
  rwa [List.length_map] at this
theorem flip_flip (l : List Tri) : (l.map flipT4).map flipT4 = l := by
  rw [List.map_map]
  induction l with
  | nil => rfl
  | cons t l ih => rw [List.map_cons, ih]; rfl
theorem calm_flip {l : List Tri} (hn : (edgesP l).Nodup) (h : calmP l) : calmP (l.map flipT4) := by
  intro p s k hk hi
  have hn' : (edgesP (l.map flipT4)).Nodup := (edges_flip l).nodup_iff.2 (nodup_map_swap.2 hn)
  have hc : cntC (l.map flipT4) p = cntC l p := by rw [cntC_count, cntC_count]; exact (cors_flip l).count_eq p
  rw [hc]
  refine h p s k hk (iterO_back (fun x y hxy => ?_) k s s hi)
  rw [behP_iff hn] 
  have h1 := (trip_flip l).mem_iff.1 (behP_of hxy)
  obtain ⟨u, hu, e⟩ := List.mem_map.1 h1
  obtain ⟨a, b, c⟩ := u
  simp only [flipT4, Prod.mk.injEq] at e
  obtain ⟨rfl, rfl, rfl⟩ := e
  exact trip_cyc hu
theorem check_flip (l : List Tri) (op : Bool) : checkP (l.map flipT4) op = checkP l op := by
  have hfl : (l.map flipT4).any flatT = l.any flatT := by
    rw [List.any_map]
    have : (flatT ∘ flipT4) = flatT := by
      funext t
      obtain ⟨a, b, c⟩ := t
      rw [Bool.eq_iff_iff]
      show flatT (b, a, c) = true ↔ flatT (a, b, c) = true
      unfold flatT
      simp only [Bool.or_eq_true, decide_eq_true_eq]
      constructor
      · rintro ((h | h) | h)
        · exact .inl (.inl h.symm)
        · exact .inr h.symm
        · exact .inl (.inr h.symm)
      · rintro ((h | h) | h)
        · exact .inl (.inl h.symm)
        · exact .inr h.symm
        · exact .inl (.inr h.symm)
    rw [this]
  have hnd : (edgesP (l.map flipT4)).Nodup ↔ (edgesP l).Nodup := (edges_flip l).nodup_iff.trans nodup_map_swap
  rw [check_is, check_is, hfl, border_flip_len]
  by_cases h1 : l.any flatT = true
  · rw [if_pos h1, if_pos h1]
  · rw [if_neg h1, if_neg h1]
    by_cases hn : (edgesP l).Nodup
    · rw [if_neg (show ¬ ¬ (edgesP (l.map flipT4)).Nodup from fun h => h (hnd.2 hn)), if_neg (show ¬ ¬ (edgesP l).Nodup from fun h => h hn)]
      have : (edgesP (l.map flipT4)).any (ringM (l.map flipT4)) = (edgesP l).any (ringM l) := by
        cases hb : (edgesP l).any (ringM l) with
        | false => exact calm_iff.2 (calm_flip hn (calm_iff.1 hb))
        | true =>
          cases hc : (edgesP (l.map flipT4)).any (ringM (l.map flipT4)) with
          | true => rfl
          | false =>
            have := calm_flip (hnd.2 hn) (calm_iff.1 hc)
            rw [flip_flip] at this
            rw [calm_iff.2 this] at hb; cases hb
      rw [this]
    · rw [if_pos hn, if_pos (show ¬ (edgesP (l.map flipT4)).Nodup from fun h => hn (hnd.1 h))]
theorem euler_flip (l : List Tri) : eulerP (l.map flipT4) = eulerP l := by
  unfold eulerP
  have h1 : cornersP (l.map flipT4) = cornersP l :=
    srt_uniq sto_P (corners_both _).1 (corners_both _).1 fun q => by rw [(corners_both _).2, (corners_both _).2, (cors_flip l).mem_iff]
  have h2 : (dedup ((edgesP (l.map flipT4)).map normE)).length = (dedup ((edgesP l).map normE)).length := by
    refine List.Perm.length_eq ((List.perm_ext_iff_of_nodup (dedup_nodup _) (dedup_nodup _)).2 fun e => ?_)
    rw [dedup_mem, dedup_mem, ((edges_flip l).map normE).mem_iff, List.map_map]
    have : normE ∘ swapE = normE := funext normE_swap
    rw [this]
  rw [h1, h2, List.length_map]
/-! A piece and the rest. -/
theorem trip_app (a b : List Tri) : tripP (a ++ b) = tripP a ++ tripP b := by unfold tripP; rw [List.flatMap_append]
theorem edges_app (a b : List Tri) : edgesP (a ++ b) = edgesP a ++ edgesP b := by unfold edgesP; rw [List.flatMap_append]
theorem cors_app (a b : List Tri) : corsP (a ++ b) = corsP a ++ corsP b := by unfold corsP; rw [List.flatMap_append]
theorem piece_check {a b : List Tri} (h : checkP (a ++ b) true = 0) : checkP a true = 0 := by
  obtain ⟨h1, h2, _, h4⟩ := check_iff.1 h
  rw [List.any_append, Bool.or_eq_false_iff] at h1
  have h2' := h2
  rw [edges_app] at h2'
  have hna : (edgesP a).Nodup := (List.nodup_append.1 h2').1
  refine check_iff.2 ⟨h1.1, hna, .inl rfl, fun p s k hk hi => ?_⟩
  have h5 := h4 p s k hk (iterO_mono (fun x y hxy => (behP_iff h2).2 (by rw [trip_app]; exact List.mem_append.2 (.inl (behP_of hxy)))) k s s hi)
  rw [cntC_count, cors_app, List.count_append] at h5
  rw [cntC_count]
  omega
theorem piece_border {a b : List Tri} (hn : (edgesP (a ++ b)).Nodup) (hc : ∀ e, e ∈ edgesP (a ++ b) → swapE e ∈ edgesP (a ++ b)) (e : Ed) : e ∈ borderP a ↔ swapE e ∈ borderP b := by
  rw [edges_app] at hn hc
  have hd := (List.nodup_append.1 hn).2.2
  rw [(border_both a).2, (border_both b).2, swapE_swap]
  constructor
  · rintro ⟨h1, h2⟩
    refine ⟨?_, fun h3 => hd e h1 e h3 rfl⟩
    rcases List.mem_append.1 (hc e (List.mem_append.2 (.inl h1))) with h | h
    · exact absurd h h2
    · exact h
  · rintro ⟨h1, h2⟩
    refine ⟨?_, fun h3 => hd _ h3 _ h1 rfl⟩
    have := hc _ (List.mem_append.2 (.inr h1))
    rw [swapE_swap] at this
    rcases List.mem_append.1 this with h | h
    · exact h
    · exact absurd h h2
theorem closed_swap {l : List Tri} (h : borderP l = []) : ∀ e, e ∈ edgesP l → swapE e ∈ edgesP l := fun e he => by
  refine Classical.byContradiction fun hc => ?_
  have := ((border_both l).2 e).2 ⟨he, hc⟩
  rw [h] at this; cases this
theorem piece_border_len {a b : List Tri} (hn : (edgesP (a ++ b)).Nodup) (hc : ∀ e, e ∈ edgesP (a ++ b) → swapE e ∈ edgesP (a ++ b)) : (borderP a).length = (borderP b).length := by
  have h1 := ((border_both a).1).nodup sto_E
  have h2 := ((border_both b).1).nodup sto_E
  have := ((List.perm_ext_iff_of_nodup h1 (nodup_map_swap.2 h2)).2 fun e => by rw [mem_map_swap, piece_border hn hc]).length_eq
  rwa [List.length_map] at this
end Go.Proofs.YtelfnmohpjkilaaGreatDoor
/- Layer 4, plain: the surface of a set of cubes has no border and no flat triangles. No program. -/
namespace Go.Proofs.YtelfnmohpjkilaaGreatDoor
open Go.RowKit Go.Sort
def sideG (n f : Nat) : List Tri := sideP (cor8 (voxC (0, 0, 0) 1 n) 1) f
/-- The other side of a direction. -/
def oppV (f : Nat) : Nat := if f % 2 = 0 then f + 1 else f - 1
def memE (e : Ed) (l : List Ed) : Bool := l.any fun x => decide (x = e)
theorem memE_iff {e : Ed} {l : List Ed} : memE e l = true ↔ e ∈ l := by unfold memE; rw [List.any_eq_true]; simp
def edgeOK (n f : Nat) (e : Ed) (g : Nat) : Bool := memE (swapE e) (edgesP (sideG n g)) && (match nbrV n g with
  | none => true
  | some m => memE (swapE e) (edgesP (sideG m f)) && (match nbrV m f with
    | none => true
    | some k => memE (swapE e) (edgesP (sideG k (oppV g))) && (decide (k < 27) && (decide (oppV g < 6) && (match nbrV n f with
      | none => false
      | some j => decide (nbrV k (oppV g) = some j))))) && decide (m < 27))
def sideOK (n f : Nat) : Bool := (edgesP (sideG n f)).all fun e => memE (swapE e) (edgesP (sideG n f)) || (List.range 6).any (edgeOK n f e)
theorem sides_ok : ((List.range 27).all fun n => (List.range 6).all fun f => sideOK n f) = true := by decide +kernel
theorem mem_voxP {b : Nat → Bool} {o : Pt} {s : Int} {n f : Nat} (hn : n < 27) (hf : f < 6) (hb : b n = true) (ho : openV b n f = true) {t : Tri} (ht : t ∈ sideP (cor8 (voxC o s n) s) f) : t ∈ voxP b o s := by
  unfold voxP voxL
  refine List.mem_flatMap.2 ⟨n, List.mem_range.2 hn, ?_⟩
  unfold voxM
  rw [if_pos hb]
  exact List.mem_flatMap.2 ⟨f, List.mem_range.2 hf, by rw [if_pos ho]; exact ht⟩
theorem edge_voxP {b : Nat → Bool} {n f : Nat} (hn : n < 27) (hf : f < 6) (hb : b n = true) (ho : openV b n f = true) {e : Ed} (he : e ∈ edgesP (sideG n f)) : e ∈ edgesP (voxP b (0, 0, 0) 1) := by
  obtain ⟨t, ht, hu⟩ := List.mem_flatMap.1 he
  exact List.mem_flatMap.2 ⟨t, mem_voxP hn hf hb ho ht, hu⟩
theorem vox_closed0 (b : Nat → Bool) : ∀ e ∈ edgesP (voxP b (0, 0, 0) 1), swapE e ∈ edgesP (voxP b (0, 0, 0) 1) := by
  intro e he
  obtain ⟨t, ht, hu⟩ := List.mem_flatMap.1 he
  obtain ⟨n, f, hn, hf, hb, ho, hs⟩ := mem_vox ht
  have hE : e ∈ edgesP (sideG n f) := List.mem_flatMap.2 ⟨t, hs, hu⟩
  have hok : sideOK n f = true := List.all_eq_true.1 (List.all_eq_true.1 sides_ok n (List.mem_range.2 hn)) f (List.mem_range.2 hf)
  have h1 := List.all_eq_true.1 hok e hE
  rw [Bool.or_eq_true, memE_iff] at h1
  rcases h1 with h1 | h1
  · exact edge_voxP hn hf hb ho h1
  · obtain ⟨g, hg, h2⟩ := List.any_eq_true.1 h1
    rw [List.mem_range] at hg
    unfold edgeOK at h2
    rw [Bool.and_eq_true, memE_iff] at h2
    obtain ⟨h3, h4⟩ := h2
    cases hm : nbrV n g with
    | none => exact edge_voxP hn hg hb (by unfold openV; rw [hm]) h3
    | some m =>
      rw [hm] at h4
      simp only [Bool.and_eq_true, memE_iff, decide_eq_true_eq] at h4
      obtain ⟨⟨h5, h6⟩, hm27⟩ := h4
      cases hbm : b m with
      | false => exact edge_voxP hn hg hb (by unfold openV; rw [hm]; simp [hbm]) h3
      | true =>
        cases hk : nbrV m f with
        | none => exact edge_voxP hm27 hf hbm (by unfold openV; rw [hk]) h5
        | some k =>
          rw [hk] at h6
          simp only [Bool.and_eq_true, memE_iff, decide_eq_true_eq] at h6
          obtain ⟨h7, hk27, hg6, h8⟩ := h6
          cases hbk : b k with
          | false => exact edge_voxP hm27 hf hbm (by unfold openV; rw [hk]; simp [hbk]) h5
          | true =>
            cases hj : nbrV n f with
            | none => rw [hj] at h8; cases h8
            | some j =>
              rw [hj] at h8
              have h8 := of_decide_eq_true h8
              have hbj : b j = false := by unfold openV at ho; rw [hj] at ho; simpa using ho
              exact edge_voxP hk27 hg6 hbk (by unfold openV; rw [h8]; simp [hbj]) h7
/-! Placed anywhere. -/
def plcP (o : Pt) (s : Int) (p : Pt) : Pt := (o.1 + p.1 * s, o.2.1 + p.2.1 * s, o.2.2 + p.2.2 * s)
def plcT (o : Pt) (s : Int) (t : Tri) : Tri := (plcP o s t.1, plcP o s t.2.1, plcP o s t.2.2)
def plcE (o : Pt) (s : Int) (e : Ed) : Ed := (plcP o s e.1, plcP o s e.2)
theorem plc_cor (o : Pt) (s : Int) (n m : Nat) : cor8 (voxC o s n) s m = plcP o s (cor8 (voxC (0, 0, 0) 1 n) 1 m) := by
  simp only [cor8, voxC, plcP, Prod.mk.injEq]
  refine ⟨?_, ?_, ?_⟩ <;> grind
theorem plc_side (o : Pt) (s : Int) (n f : Nat) : sideP (cor8 (voxC o s n) s) f = (sideG n f).map (plcT o s) := by
  rw [show cor8 (voxC o s n) s = fun m => plcP o s (cor8 (voxC (0, 0, 0) 1 n) 1 m) from funext fun m => plc_cor o s n m]
  unfold sideG sideP
  split <;> rfl
theorem plc_vox (b : Nat → Bool) (o : Pt) (s : Int) : voxP b o s = (voxP b (0, 0, 0) 1).map (plcT o s) := by
  unfold voxP voxL
  rw [List.map_flatMap]
  congr 1
  funext n
  unfold voxM
  split
  · unfold voxN
    rw [List.map_flatMap]
    congr 1
    funext f
    split
    · exact plc_side o s n f
    · rfl
  · rfl
theorem plc_edges (o : Pt) (s : Int) (l : List Tri) : edgesP (l.map (plcT o s)) = (edgesP l).map (plcE o s) := by
  unfold edgesP
  induction l with
  | nil => rfl
  | cons t l ih => rw [List.map_cons, List.flatMap_cons, List.flatMap_cons, List.map_append, ← ih]; rfl
theorem vox_closed (b : Nat → Bool) (o : Pt) (s : Int) : ∀ e ∈ edgesP (voxP b o s), swapE e ∈ edgesP (voxP b o s) := by
  rw [plc_vox, plc_edges]
  intro e he
  obtain ⟨x, hx, rfl⟩ := List.mem_map.1 he
  exact List.mem_map.2 ⟨swapE x, vox_closed0 b x hx, rfl⟩
theorem vox_border (b : Nat → Bool) (o : Pt) (s : Int) : borderP (voxP b o s) = [] := by
  refine List.eq_nil_iff_forall_not_mem.2 fun e he => ?_
  obtain ⟨h1, h2⟩ := ((border_both _).2 e).1 he
  exact h2 (vox_closed b o s e h1)
theorem plcP_inj {o : Pt} {s : Int} (hs : s ≠ 0) {p q : Pt} (h : plcP o s p = plcP o s q) : p = q := by
  have key : ∀ a x y : Int, a + x * s = a + y * s → x = y := fun a x y h => by
    have : (x - y) * s = 0 := by rw [Int.sub_mul]; omega
    rcases Int.mul_eq_zero.1 this with h | h
    · omega
    · exact absurd h hs
  obtain ⟨p1, p2, p3⟩ := p
  obtain ⟨q1, q2, q3⟩ := q
  simp only [plcP, Prod.mk.injEq] at h
  rw [key _ _ _ h.1, key _ _ _ h.2.1, key _ _ _ h.2.2]
theorem sides_dist : ((List.range 27).all fun n => (List.range 6).all fun f => (sideG n f).all fun t => !flatT t) = true := by decide +kernel
theorem vox_flat (b : Nat → Bool) (o : Pt) {s : Int} (hs : s ≠ 0) : (voxP b o s).any flatT = false := by
  rw [plc_vox, List.any_map]
  refine Bool.eq_false_iff.2 fun h => ?_
  obtain ⟨t, ht, hf⟩ := List.any_eq_true.1 h
  obtain ⟨n, f, hn, hf6, _, _, hu⟩ := mem_vox ht
  have h1 := List.all_eq_true.1 (List.all_eq_true.1 (List.all_eq_true.1 sides_dist n (List.mem_range.2 hn)) f (List.mem_range.2 hf6)) t hu
  have h2 : flatT t = true := by
    unfold flatT at h1 ⊢
    have hf : flatT (plcT o s t) = true := hf
    unfold flatT at hf
    simp only [Bool.or_eq_true, decide_eq_true_eq] at hf ⊢
    rcases hf with (h | h) | h
    · exact .inl (.inl (plcP_inj hs h))
    · exact .inl (.inr (plcP_inj hs h))
    · exact .inr (plcP_inj hs h)
  rw [h2] at h1; cases h1
theorem vox_check (b : Nat → Bool) (o : Pt) {s : Int} (hs : s ≠ 0) : checkP (voxP b o s) false = 0 ∨ checkP (voxP b o s) false = 21 ∨ checkP (voxP b o s) false = 23 := by
  rw [check_is, vox_flat b o hs, vox_border]
  rw [if_neg (by simp)]
  split
  · exact .inr (.inl rfl)
  · rw [if_neg (by simp)]
    split
    · exact .inr (.inr rfl)
    · exact .inl rfl
theorem vox_range {o : Pt} {s : Int} {B : Int} (hs0 : 0 ≤ s) (h1 : -B ≤ o.1 ∧ o.1 + 3 * s ≤ B) (h2 : -B ≤ o.2.1 ∧ o.2.1 + 3 * s ≤ B) (h3 : -B ≤ o.2.2 ∧ o.2.2 + 3 * s ≤ B) {n : Nat} (hn : n < 27) {m : Nat} (hm : m < 8) :
    (-B ≤ (cor8 (voxC o s n) s m).1 ∧ (cor8 (voxC o s n) s m).1 ≤ B) ∧ (-B ≤ (cor8 (voxC o s n) s m).2.1 ∧ (cor8 (voxC o s n) s m).2.1 ≤ B) ∧ (-B ≤ (cor8 (voxC o s n) s m).2.2 ∧ (cor8 (voxC o s n) s m).2.2 ≤ B) := by
  have key : ∀ (a : Int) (i j : Nat), i ≤ 2 → j ≤ 1 → -B ≤ a → a + 3 * s ≤ B → -B ≤ a + (i : Int) * s + (j : Int) * s ∧ a + (i : Int) * s + (j : Int) * s ≤ B := fun a i j hi hj h1 h2 => by
    have h3 : i = 0 ∨ i = 1 ∨ i = 2 := by omega
    have h4 : j = 0 ∨ j = 1 := by omega
    rcases h3 with rfl | rfl | rfl <;> rcases h4 with rfl | rfl <;> constructor <;> simp <;> omega
  exact ⟨key _ _ _ (by omega) (by omega) h1.1 h1.2, key _ _ _ (by omega) (by omega) h2.1 h2.2, key _ _ _ (by omega) (by omega) h3.1 h3.2⟩
end Go.Proofs.YtelfnmohpjkilaaGreatDoor
/- law04.sanity's constants; plain. -/
namespace Go.Proofs.YtelfnmohpjkilaaGreatDoor
def kO : Pt := (0, 0, 0)
def kX : Pt := (1, 0, 0)
def kY : Pt := (0, 1, 0)
def kZ : Pt := (0, 0, 1)
def tetP : List Tri := [(kO, kY, kX), (kO, kX, kZ), (kO, kZ, kY), (kX, kY, kZ)]
def turP : List Tri := [(kO, kY, kX), (kO, kZ, kX), (kO, kZ, kY), (kX, kY, kZ)]
def negP4 (p : Pt) : Pt := (-p.1, -p.2.1, -p.2.2)
def negT4 (t : Tri) : Tri := (negP4 t.1, negP4 t.2.2, negP4 t.2.1)
def twiP : List Tri := tetP ++ tetP.map negT4
theorem tet_check : checkP tetP false = 0 := by decide
theorem tet_euler : eulerP tetP = 2 := by decide
theorem tet3_check : checkP (tetP.take 3) false = 22 := by decide
theorem tet3_open : checkP (tetP.take 3) true = 0 := by decide
theorem tet3_border : borderP (tetP.take 3) = [(kZ, kY), (kY, kX), (kX, kZ)] := by decide
theorem tur_check : checkP turP false = 21 := by decide
theorem twi_check : checkP twiP false = 23 := by decide
theorem rot_zyo : rotT (kZ, kY, kO) = (kO, kZ, kY) := by decide
instance dec_fits (n : Int) : Decidable (fits n) := by unfold fits; infer_instance
instance dec_fitsP (p : Pt) : Decidable (fitsP p) := by unfold fitsP; infer_instance
instance dec_fitsT (t : Tri) : Decidable (fitsT t) := by unfold fitsT; infer_instance
theorem tet_fits : ∀ t ∈ tetP, fitsT t := by decide
theorem tur_fits : ∀ t ∈ turP, fitsT t := by decide
theorem twi_fits : ∀ t ∈ twiP, fitsT t := by decide
end Go.Proofs.YtelfnmohpjkilaaGreatDoor
/- Numbers as values; ref01.Neg. -/
namespace Go.Proofs.YtelfnmohpjkilaaGreatDoor
open Go.RowKit Go.Sort
/-- v stands for x. -/
def WideI (v : Value) (x : Int) : Prop := ∃ neg l, v = wvalV neg l ∧ okD l ∧ trimD l = l ∧ x = intD neg l ∧ (l = [] → neg = false)
theorem intD_abs (neg : Bool) (l : List Nat) : (intD neg l).natAbs = valD l := by
  unfold intD
  cases neg
  · rw [if_neg (by decide)]; exact Int.natAbs_natCast _
  · rw [if_pos rfl, Int.natAbs_neg]; exact Int.natAbs_natCast _
theorem wide_len {neg : Bool} {l : List Nat} (ht : trimD l = l) (h : (intD neg l).natAbs < 65536 ^ 32) : l.length ≤ 32 := by
  rw [intD_abs] at h
  by_cases hne : l = []
  · subst hne; simp
  · have h1 := val_ge ht hne
    have h2 : 65536 ^ (l.length - 1) < 65536 ^ 32 := Nat.lt_of_le_of_lt h1 h
    have h3 := (Nat.pow_lt_pow_iff_right (by omega)).1 h2
    omega
theorem wideI_sg {neg : Bool} {l : List Nat} (ho : okD l) : WideI (wvalV (sgB neg (trimD l)) (trimD l)) (intD neg l) := by
  refine ⟨_, _, rfl, trim_ok ho, trim_trim l, ?_, fun h => by rw [h]; cases neg <;> rfl⟩
  unfold intD
  rw [valD_trim]
  cases h : trimD l with
  | nil =>
    have h0 : valD l = 0 := by rw [← valD_trim, h]; rfl
    rw [h0]
    cases neg <;> rfl
  | cons d m => cases neg <;> rfl
theorem WideI.form {v : Value} {x : Int} (h : WideI v x) : ∃ b s, v = .agg #[.bool b, .string s] := by
  obtain ⟨neg, l, rfl, _⟩ := h
  exact ⟨neg, strB l, rfl⟩
/-- ref01.wide, as a number. -/
theorem wideE_any (neg : Bool) (A : Option Addr) (c : Nat) (l : List Nat) (w : World) (hs : Sl encI 1 w w.heap.size A l) (hlc : l.length ≤ c) (hok : okD l) (hl : l.length ≤ 1000000) (x : Int) (hx : x = intD neg l) :
    Calls Tryz.prog 76 #[.bool neg, .slice A l.length c] w fun e w' => ∃ b s, e = .returned (.agg #[.bool b, .string s]) ∧ WideI (.agg #[.bool b, .string s]) x ∧ Below w.heap.size w w' := by
  subst hx
  refine (wideW_any neg A c l w hs hlc hok hl).mono ?_
  rintro e w' ⟨rfl, hB⟩
  exact ⟨_, _, rfl, wideI_sg hok, hB⟩
theorem intD_not (neg : Bool) (l : List Nat) : intD (!neg) l = - intD neg l := by
  unfold intD
  cases neg <;> simp
set_option maxRecDepth 100000 in
set_option maxHeartbeats 16000000 in
theorem negW_any (v : Value) (x : Int) (hv : WideI v x) (sx : x.natAbs < 65536 ^ 32) (w : World) :
    Calls Tryz.prog 146 #[v] w fun e w' => ∃ b s, e = .returned (.agg #[.bool b, .string s]) ∧ WideI (.agg #[.bool b, .string s]) (-x) ∧ Below w.heap.size w w' := by
  obtain ⟨na, la, rfl, oa, ta, hx, _⟩ := hv
  have l8 := wide_len ta (by rw [← hx]; exact sx)
  have hdg := fun W => digitsW_any na la oa ta (by omega) W
  have hwd := fun (A : Option Addr) (c : Nat) W (hs : Sl encI 1 W W.heap.size A la) (hc : la.length ≤ c) => wideE_any (!na) A c la W hs hc oa (by omega) (-x) (by rw [intD_not, hx])
  obtain ⟨s, hs⟩ : ∃ s, s = strB la := ⟨_, rfl⟩
  have hwv : wvalV na la = .agg #[.bool na, .string s] := by rw [hs]; rfl
  rw [hwv] at hdg ⊢
  obtain ⟨L, hL⟩ : ∃ L, L = la.length := ⟨_, rfl⟩
  rw [← hL] at hdg hwd
  have HC := hide (And.intro hdg hwd)
  have HL := hide hL
  clear hdg hwd hwv hs oa ta hx sx hL l8
  go_enter Tryz.func146, Tryz.ntmps146
  go_upto_region 1 with fail
  obtain ⟨X, hX⟩ : ∃ X, X = (w.alloc (.cells #[.bool na, .string s] 46)).alloc (.cells #[.bool false, .string ⟨#[]⟩] 46) := ⟨_, rfl⟩
  rw [← hX]
  have hb : Blk X w.heap.size 46 #[.bool na, .string s] := by rw [hX]; exact (Blk.new _ _ _).alloc _
  have hr : Blk X (w.heap.size + 1) 46 #[.bool false, .string ⟨#[]⟩] := by rw [hX]; exact Blk.new' _ _ _ _ (by simp)
  have hBX : Below w.heap.size w X := by rw [hX]; exact ((Below.refl _ w).alloc (Nat.le_refl _) _).alloc (by simp) _
  have hzX : X.heap.size = w.heap.size + 2 := by rw [hX]; simp
  obtain ⟨bx, hbx⟩ : ∃ b, b = w.heap.size := ⟨_, rfl⟩
  rw [← hbx] at hb hr hzX ⊢
  have hS : ∀ W, Below X.heap.size X W → W.cell? ⟨bx, 0, none⟩ = some (.bool na) ∧ W.cell? ⟨bx, 1, none⟩ = some (.string s) := fun W hW => by
    have h2 := hb.below hW hb.lt
    exact ⟨h2.cell 0, h2.cell 1⟩
  have HS := hide hS
  have HQ := hide (hS X.drew (Below.refl _ X).drew)
  have HX := hide (And.intro hr (And.intro hBX (And.intro hzX hbx)))
  clear hS hr hBX hzX hbx hb hX
  refine wp_region_mix (fun W => W.cell? ⟨bx, 0, none⟩ = some (.bool na) ∧ W.cell? ⟨bx, 1, none⟩ = some (.string s)) [0, 1, 2, 3] [0, 1, 2, 3, 4, 5, 6] mixed_ok (by kernel_rfl) ?_
  refine wpMix_q (v := .pointer (some ⟨bx, 0, none⟩)) rfl rfl (fun _ _ _ h => h) HQ.out ⟨rfl, fun _ _ => by simp [go_sem]⟩ ?_
  refine wpMix_q (v := .bool na) rfl rfl (fun _ _ _ h => h) HQ.out ⟨rfl, fun _ h' => by simp [go_sem, h'.1]⟩ ?_
  refine wpMix_q (v := .bool (!na)) rfl rfl (fun _ _ _ h => h) HQ.out ⟨rfl, fun _ _ => by simp [go_sem]⟩ ?_
  refine wpMix_q (v := .agg #[.bool na, .string s]) rfl rfl (fun _ _ _ h => h) HQ.out ⟨rfl, fun _ h' => by simp [go_sem, h'.1, h'.2]⟩ ?_
  simp only [List.getElem_toArray, List.getElem_cons_succ, List.getElem_cons_zero]
  refine wpMix_n rfl rfl ?_
  go_wp2_with fail
  with_reducible refine (HC.out.1 X.drew).mono ?_
  rintro e w5 ⟨A5, c5, rfl, hlc, hsl, hB5⟩
  have hB5 : Below X.heap.size X w5 := (Below.refl X.heap.size X).drew.trans hB5
  have H5 := hide (And.intro hlc (And.intro hsl hB5))
  clear hlc hsl hB5
  go_wp2_with fail
  refine ⟨fun _ => HS.out w5 H5.out.2.2, ?_⟩
  refine wpMix_tail _ [_, _] (by kernel_rfl) rfl ?_
  simp only [List.getElem_toArray, List.getElem_cons_succ, List.getElem_cons_zero]
  go_wp2_with fail
  with_reducible refine (HC.out.2 A5 c5 w5 H5.out.2.1 H5.out.1).mono ?_
  rintro e w6 ⟨rb, rs, rfl, hW, hB6⟩
  have hr6 := (HX.out.1.below H5.out.2.2 HX.out.1.lt).below hB6 (by have := HX.out.1.lt; have := H5.out.2.2.size; omega)
  have hB6' := HX.out.2.1.trans ((H5.out.2.2.trans (hB6.mono H5.out.2.2.size)).mono HX.out.2.1.size)
  have r0 := hr6.cell 0
  have r1 := hr6.cell 1
  have f0 := hr6.frozen 0
  have f1 := hr6.frozen 1
  have hlt := hr6.lt
  simp only [List.getElem?_toArray, List.getElem?_cons_zero, List.getElem?_cons_succ] at r0 r1
  have hbx := HX.out.2.2.2
  have H6 := hide (And.intro hW (And.intro hB6' (And.intro hr6 hbx)))
  clear hW hB6 hB6' hr6 hbx
  go_wp2
  refine ret_at (v := .agg #[.bool rb, .string rs]) (fun W => Blk W (bx + 1) 46 #[.bool rb, .string rs]) ?_ (fun W h => ?_) rfl ⟨rb, rs, rfl, H6.out.1, ?_⟩
  · exact (H6.out.2.2.1.set_ 0 (.bool rb)).set_ 1 (.string rs)
  · have a0 := h.cell 0
    have a1 := h.cell 1
    simp only [List.getElem?_toArray, List.getElem?_cons_zero, List.getElem?_cons_succ] at a0 a1
    simp [results, Tryz.results146, go_sem, a0, a1]
  · have := H6.out.2.2.2
    exact (H6.out.2.1.setCell (by dsimp only; omega) _).setCell (by dsimp only; omega) _
end Go.Proofs.YtelfnmohpjkilaaGreatDoor
/- ref01.Add, Sub, Mul (printed by mk_Wd9.py). -/
namespace Go.Proofs.YtelfnmohpjkilaaGreatDoor
open Go.RowKit Go.Sort
theorem add_same {na nb : Bool} {a b out : List Nat} (h : na = nb) (hv : valD out = valD a + valD b) : intD na a + intD nb b = intD na out := by
  subst h; unfold intD; rw [hv]; cases na <;> simp <;> omega
theorem add_left {na nb : Bool} {a b out : List Nat} (h : na ≠ nb) (hv : valD out + valD b = valD a) : intD na a + intD nb b = intD na out := by
  unfold intD; rw [← hv]; cases na <;> cases nb <;> simp at h ⊢ <;> omega
theorem add_right {na nb : Bool} {a b out : List Nat} (h : na ≠ nb) (hv : valD out + valD a = valD b) : intD na a + intD nb b = intD nb out := by
  unfold intD; rw [← hv]; cases na <;> cases nb <;> simp at h ⊢ <;> omega
theorem mul_sign {na nb : Bool} {a b out : List Nat} (hv : valD out = valD a * valD b) : intD na a * intD nb b = intD (na != nb) out := by
  unfold intD; rw [hv, Int.natCast_mul]; cases na <;> cases nb <;> simp [Int.neg_mul, Int.mul_neg]
set_option maxRecDepth 100000 in
set_option maxHeartbeats 16000000 in
theorem mulW_any (va vb : Value) (x y : Int) (ha : WideI va x) (hb : WideI vb y) (sx : x.natAbs < 65536 ^ 32) (sy : y.natAbs < 65536 ^ 32) (w : World) :
    Calls Tryz.prog 97 #[va, vb] w fun e w' => ∃ b s, e = .returned (.agg #[.bool b, .string s]) ∧ WideI (.agg #[.bool b, .string s]) (x * y) ∧ Below w.heap.size w w' := by
  obtain ⟨na, la, rfl, oa, ta, hx, _⟩ := ha
  obtain ⟨nb, lb, rfl, ob, tb, hy, _⟩ := hb
  have la8 := wide_len ta (by rw [← hx]; exact sx)
  have lb8 := wide_len tb (by rw [← hy]; exact sy)
  have hda := fun W => digitsW_any na la oa ta (by omega) W
  have hdb := fun W => digitsW_any nb lb ob tb (by omega) W
  have htm := fun (A B : Option Addr) (c d : Nat) W (h1 : Sl encI 1 W W.heap.size A la) (h2 : Sl encI 1 W W.heap.size B lb) => timesW_any A B c d la lb W h1 h2 oa ob (by omega) (by omega)
  have hwd := fun (A : Option Addr) (c : Nat) (out : List Nat) W (hv : valD out = valD la * valD lb) (ho : okD out) (hs : Sl encI 1 W W.heap.size A out) (hc : out.length ≤ c) (hl : out.length ≤ 500001) => wideE_any (na != nb) A c out W hs hc ho (by omega) (x * y) (by rw [hx, hy, mul_sign hv])
  obtain ⟨sa, hsa⟩ : ∃ s, s = strB la := ⟨_, rfl⟩
  have hwa : wvalV na la = .agg #[.bool na, .string sa] := by rw [hsa]; rfl
  obtain ⟨sb, hsb⟩ : ∃ s, s = strB lb := ⟨_, rfl⟩
  have hwb : wvalV nb lb = .agg #[.bool nb, .string sb] := by rw [hsb]; rfl
  rw [hwa] at hda ⊢
  rw [hwb] at hdb ⊢
  obtain ⟨La, hLa⟩ : ∃ L, L = la.length := ⟨_, rfl⟩
  obtain ⟨Lb, hLb⟩ : ∃ L, L = lb.length := ⟨_, rfl⟩
  rw [← hLa] at hda htm
  rw [← hLb] at hdb htm
  have HC := hide (And.intro hda (And.intro hdb (And.intro htm hwd)))
  clear hda hdb htm hwd hwa hwb hsa hsb oa ob ta tb hx hy sx sy la8 lb8 hLa hLb
  go_enter Tryz.func97, Tryz.ntmps97
  go_upto_region 1 with fail
  obtain ⟨X, hX⟩ : ∃ X, X = ((w.alloc (.cells #[.bool na, .string sa] 46)).alloc (.cells #[.bool nb, .string sb] 46)).alloc (.cells #[.bool false, .string ⟨#[]⟩] 46) := ⟨_, rfl⟩
  rw [← hX]
  have hb0 : Blk X w.heap.size 46 #[.bool na, .string sa] := by rw [hX]; exact ((Blk.new _ _ _).alloc _).alloc _
  have hb1 : Blk X (w.heap.size + 1) 46 #[.bool nb, .string sb] := by rw [hX]; exact (Blk.new' _ _ _ _ (by simp)).alloc _
  have hr : Blk X (w.heap.size + 1 + 1) 46 #[.bool false, .string ⟨#[]⟩] := by rw [hX]; exact Blk.new' _ _ _ _ (by simp)
  have hBX : Below w.heap.size w X := by rw [hX]; exact (((Below.refl _ w).alloc (Nat.le_refl _) _).alloc (by simp) _).alloc (by simp; omega) _
  have hzX : X.heap.size = w.heap.size + 3 := by rw [hX]; simp
  obtain ⟨bx, hbx⟩ : ∃ b, b = w.heap.size := ⟨_, rfl⟩
  rw [← hbx] at hb0 hb1 hr hzX ⊢
  have hS : ∀ W, Below X.heap.size X W → (W.cell? ⟨bx, 0, none⟩ = some (.bool na) ∧ W.cell? ⟨bx, 1, none⟩ = some (.string sa)) ∧ W.cell? ⟨bx + 1, 0, none⟩ = some (.bool nb) ∧ W.cell? ⟨bx + 1, 1, none⟩ = some (.string sb) := fun W hW => by
    have h2 := hb0.below hW hb0.lt
    have h3 := hb1.below hW hb1.lt
    exact ⟨⟨h2.cell 0, h2.cell 1⟩, h3.cell 0, h3.cell 1⟩
  have HS := hide hS
  have HX := hide (And.intro hr (And.intro hBX (And.intro hzX hbx)))
  clear hS hr hBX hzX hbx hb0 hb1 hX
  have HQ := hide (HS.out X.drew (Below.refl _ X).drew)
  refine wp_region_mix (fun W => (W.cell? ⟨bx, 0, none⟩ = some (.bool na) ∧ W.cell? ⟨bx, 1, none⟩ = some (.string sa)) ∧ W.cell? ⟨bx + 1, 0, none⟩ = some (.bool nb) ∧ W.cell? ⟨bx + 1, 1, none⟩ = some (.string sb)) [0, 1, 2, 3, 4, 5, 7] [0, 1, 2, 3, 4, 5, 7, 6, 8, 9, 10, 11] mixed_ok (by kernel_rfl) ?_
  refine wpMix_q (v := .pointer (some ⟨bx, 0, none⟩)) rfl rfl (fun _ _ _ h => h) HQ.out ⟨rfl, fun _ h' => by simp [go_sem]⟩ ?_
  refine wpMix_q (v := .bool na) rfl rfl (fun _ _ _ h => h) HQ.out ⟨rfl, fun _ h' => by simp [go_sem, h'.1.1]⟩ ?_
  refine wpMix_q (v := .pointer (some ⟨bx + 1, 0, none⟩)) rfl rfl (fun _ _ _ h => h) HQ.out ⟨rfl, fun _ h' => by simp [go_sem]⟩ ?_
  refine wpMix_q (v := .bool nb) rfl rfl (fun _ _ _ h => h) HQ.out ⟨rfl, fun _ h' => by simp [go_sem, h'.2.1]⟩ ?_
  refine wpMix_q (v := .bool (na != nb)) rfl rfl (fun _ _ _ h => h) HQ.out ⟨rfl, fun _ h' => by simp [go_sem, bne]⟩ ?_
  refine wpMix_q (v := .agg #[.bool na, .string sa]) rfl rfl (fun _ _ _ h => h) HQ.out ⟨rfl, fun _ h' => by simp [go_sem, h'.1.1, h'.1.2]⟩ ?_
  simp only [List.getElem_toArray, List.getElem_cons_succ, List.getElem_cons_zero, Act.put, List.setIfInBounds_toArray, List.set_cons_succ, List.set_cons_zero]
  refine wpMix_q (v := .agg #[.bool nb, .string sb]) rfl rfl (fun _ _ _ h => h) HQ.out ⟨rfl, fun _ h' => by simp [go_sem, h'.2.1, h'.2.2]⟩ ?_
  simp only [List.getElem_toArray, List.getElem_cons_succ, List.getElem_cons_zero]
  refine wpMix_n rfl rfl ?_
  go_wp2_with fail
  with_reducible refine (HC.out.1 X.drew).mono ?_
  rintro e w5 ⟨A5, c5, rfl, hlc, hsl, hB5⟩
  have hB5 : Below X.heap.size X w5 := (Below.refl X.heap.size X).drew.trans hB5
  have H5 := hide (And.intro hlc (And.intro hsl hB5))
  clear hlc hsl hB5
  go_wp2_with fail
  refine ⟨fun _ => HS.out w5 H5.out.2.2, ?_⟩
  refine wpMix_n rfl rfl ?_
  go_wp2_with fail
  with_reducible refine (HC.out.2.1 w5).mono ?_
  rintro e w6 ⟨A6, c6, rfl, hlc, hsl, hB6⟩
  have H6 := hide (And.intro hlc (And.intro hsl (And.intro ((H5.out.2.1.below hB6).more hB6.size) (H5.out.2.2.trans (hB6.mono H5.out.2.2.size)))))
  clear hlc hsl hB6
  go_wp2_with fail
  refine ⟨fun _ => HS.out w6 H6.out.2.2.2, ?_⟩
  refine wpMix_n rfl rfl ?_
  go_wp2_with fail
  with_reducible refine (HC.out.2.2.1 A5 A6 c5 c6 w6 H6.out.2.2.1 H6.out.2.1).mono ?_
  rintro e w7 ⟨A7, c7, out, rfl, hc7, hl7, ho7, hv7, hs7, hB7⟩
  have hwd := HC.out.2.2.2 A7 c7 out w7 hv7 ho7 hs7 hc7 hl7
  obtain ⟨Lo, hLo⟩ : ∃ L, L = out.length := ⟨_, rfl⟩
  rw [← hLo] at hwd ⊢
  have H7 := hide (And.intro hwd (H6.out.2.2.2.trans (hB7.mono H6.out.2.2.2.size)))
  clear hwd hc7 hl7 ho7 hv7 hs7 hB7 hLo
  go_wp2_with fail
  refine ⟨fun _ => HS.out w7 H7.out.2, ?_⟩
  refine wpMix_tail _ [_, _] (by kernel_rfl) rfl ?_
  simp only [List.getElem_toArray, List.getElem_cons_succ, List.getElem_cons_zero]
  go_wp2_with fail
  with_reducible refine H7.out.1.mono ?_
  rintro e w8 ⟨rb, rs, rfl, hW, hB8⟩
  have hBX8 := H7.out.2.trans (hB8.mono H7.out.2.size)
  have hr6 := HX.out.1.below hBX8 HX.out.1.lt
  have hB9 := HX.out.2.1.trans (hBX8.mono HX.out.2.1.size)
  clear hB8 hBX8
  have r0 := hr6.cell 0
  have r1 := hr6.cell 1
  have f0 := hr6.frozen 0
  have f1 := hr6.frozen 1
  have hlt := hr6.lt
  simp only [List.getElem?_toArray, List.getElem?_cons_zero, List.getElem?_cons_succ] at r0 r1
  have hbx := HX.out.2.2.2
  have H9 := hide (And.intro hW (And.intro hB9 (And.intro hr6 hbx)))
  clear hW hB9 hr6 hbx
  go_wp2
  refine ret_at (v := .agg #[.bool rb, .string rs]) (fun W => Blk W (bx + 1 + 1) 46 #[.bool rb, .string rs]) ?_ (fun W h => ?_) rfl ⟨rb, rs, rfl, H9.out.1, ?_⟩
  · exact (H9.out.2.2.1.set_ 0 (.bool rb)).set_ 1 (.string rs)
  · have a0 := h.cell 0
    have a1 := h.cell 1
    simp only [List.getElem?_toArray, List.getElem?_cons_zero, List.getElem?_cons_succ] at a0 a1
    simp [results, Tryz.results97, go_sem, a0, a1]
  · have := H9.out.2.2.2
    exact (H9.out.2.1.setCell (by dsimp only; omega) _).setCell (by dsimp only; omega) _
set_option maxRecDepth 100000 in
set_option maxHeartbeats 16000000 in
theorem addW_any (va vb : Value) (x y : Int) (ha : WideI va x) (hb : WideI vb y) (sx : x.natAbs < 65536 ^ 32) (sy : y.natAbs < 65536 ^ 32) (w : World) :
    Calls Tryz.prog 61 #[va, vb] w fun e w' => ∃ b s, e = .returned (.agg #[.bool b, .string s]) ∧ WideI (.agg #[.bool b, .string s]) (x + y) ∧ Below w.heap.size w w' := by
  obtain ⟨na, la, rfl, oa, ta, hx, _⟩ := ha
  obtain ⟨nb, lb, rfl, ob, tb, hy, _⟩ := hb
  have la8 := wide_len ta (by rw [← hx]; exact sx)
  have lb8 := wide_len tb (by rw [← hy]; exact sy)
  have hda := fun W => digitsW_any na la oa ta (by omega) W
  have hdb := fun W => digitsW_any nb lb ob tb (by omega) W
  have hlt2 := val_len oa tb
  have hpl := fun (A B : Option Addr) (c d : Nat) W (h1 : Sl encI 1 W W.heap.size A la) (h2 : Sl encI 1 W W.heap.size B lb) => plusW_any A B c d la lb W h1 h2 oa ob (by omega) (by omega)
  have hcm := fun (A B : Option Addr) (c d : Nat) W (h1 : Sl encI 1 W W.heap.size A la) (h2 : Sl encI 1 W W.heap.size B lb) => compareW_any A B c d la lb W h1 h2 oa ob ta tb (by omega) (by omega)
  have hm1 := fun (A B : Option Addr) (c d : Nat) W (h1 : Sl encI 1 W W.heap.size A la) (h2 : Sl encI 1 W W.heap.size B lb) (hv : valD lb ≤ valD la) => minusW_any A B c d la lb W h1 h2 oa ob (by omega) (by rcases Nat.lt_or_ge la.length lb.length with h | h; exact absurd (val_len oa tb h) (by omega); exact h) hv
  have hm2 := fun (A B : Option Addr) (c d : Nat) W (h1 : Sl encI 1 W W.heap.size B lb) (h2 : Sl encI 1 W W.heap.size A la) (hv : valD la ≤ valD lb) => minusW_any B A d c lb la W h1 h2 ob oa (by omega) (by rcases Nat.lt_or_ge lb.length la.length with h | h; exact absurd (val_len ob ta h) (by omega); exact h) hv
  have hwd := fun (r : Bool) (A : Option Addr) (c : Nat) (out : List Nat) W (hv : x + y = intD r out) (ho : okD out) (hs : Sl encI 1 W W.heap.size A out) (hc : out.length ≤ c) (hl : out.length ≤ 500001) => wideE_any r A c out W hs hc ho (by omega) (x + y) hv
  obtain ⟨sa, hsa⟩ : ∃ s, s = strB la := ⟨_, rfl⟩
  have hwa : wvalV na la = .agg #[.bool na, .string sa] := by rw [hsa]; rfl
  obtain ⟨sb, hsb⟩ : ∃ s, s = strB lb := ⟨_, rfl⟩
  have hwb : wvalV nb lb = .agg #[.bool nb, .string sb] := by rw [hsb]; rfl
  rw [hwa] at hda ⊢
  rw [hwb] at hdb ⊢
  obtain ⟨La, hLa⟩ : ∃ L, L = la.length := ⟨_, rfl⟩
  obtain ⟨Lb, hLb⟩ : ∃ L, L = lb.length := ⟨_, rfl⟩
  rw [← hLa] at hda hpl hcm hm1 hm2
  rw [← hLb] at hdb hpl hcm hm1 hm2
  have HC := hide (And.intro hda (And.intro hdb (And.intro hpl (And.intro hcm (And.intro hm1 (And.intro hm2 hwd))))))
  have HV := hide (And.intro hx hy)
  clear hda hdb hpl hcm hm1 hm2 hwd hwa hwb hsa hsb oa ob ta tb hx hy sx sy la8 lb8 hLa hLb hlt2
  go_enter Tryz.func61, Tryz.ntmps61
  go_upto_region 1 with fail
  obtain ⟨X, hX⟩ : ∃ X, X = ((w.alloc (.cells #[.bool na, .string sa] 46)).alloc (.cells #[.bool nb, .string sb] 46)).alloc (.cells #[.bool false, .string ⟨#[]⟩] 46) := ⟨_, rfl⟩
  rw [← hX]
  have hb0 : Blk X w.heap.size 46 #[.bool na, .string sa] := by rw [hX]; exact ((Blk.new _ _ _).alloc _).alloc _
  have hb1 : Blk X (w.heap.size + 1) 46 #[.bool nb, .string sb] := by rw [hX]; exact (Blk.new' _ _ _ _ (by simp)).alloc _
  have hr : Blk X (w.heap.size + 1 + 1) 46 #[.bool false, .string ⟨#[]⟩] := by rw [hX]; exact Blk.new' _ _ _ _ (by simp)
  have hBX : Below w.heap.size w X := by rw [hX]; exact (((Below.refl _ w).alloc (Nat.le_refl _) _).alloc (by simp) _).alloc (by simp; omega) _
  have hzX : X.heap.size = w.heap.size + 3 := by rw [hX]; simp
  obtain ⟨bx, hbx⟩ : ∃ b, b = w.heap.size := ⟨_, rfl⟩
  rw [← hbx] at hb0 hb1 hr hzX ⊢
  have hS : ∀ W, Below X.heap.size X W → (W.cell? ⟨bx, 0, none⟩ = some (.bool na) ∧ W.cell? ⟨bx, 1, none⟩ = some (.string sa)) ∧ W.cell? ⟨bx + 1, 0, none⟩ = some (.bool nb) ∧ W.cell? ⟨bx + 1, 1, none⟩ = some (.string sb) := fun W hW => by
    have h2 := hb0.below hW hb0.lt
    have h3 := hb1.below hW hb1.lt
    exact ⟨⟨h2.cell 0, h2.cell 1⟩, h3.cell 0, h3.cell 1⟩
  have HS := hide hS
  have HX := hide (And.intro hr (And.intro hBX (And.intro hzX hbx)))
  clear hS hr hBX hzX hbx hb0 hb1 hX
  have hq0 := HS.out X (Below.refl _ X)
  obtain ⟨⟨q0, q1⟩, q2, q3⟩ := hq0
  go_wp2_with fail
  with_reducible refine (HC.out.1 X).mono ?_
  rintro e w5 ⟨A5, c5, rfl, hlc, hsl, hB5⟩
  have H5 := hide (And.intro hlc (And.intro hsl hB5))
  clear hlc hsl hB5 q0 q1 q2 q3
  have hq0 := HS.out w5 H5.out.2.2
  obtain ⟨⟨q0, q1⟩, q2, q3⟩ := hq0
  go_wp2_with fail
  with_reducible refine (HC.out.2.1 w5).mono ?_
  rintro e w6 ⟨A6, c6, rfl, hlc, hsl, hB6⟩
  have H6 := hide (And.intro hlc (And.intro hsl (And.intro ((H5.out.2.1.below hB6).more hB6.size) (H5.out.2.2.trans (hB6.mono H5.out.2.2.size)))))
  clear hlc hsl hB6 q0 q1 q2 q3
  have hq0 := HS.out w6 H6.out.2.2.2
  obtain ⟨⟨q0, q1⟩, q2, q3⟩ := hq0
  have HQ := hide (HS.out w6.drew H6.out.2.2.2.drew)
  by_cases hn : na = nb
  · have tn : (na == nb) = true := by simp [hn]
    have HN := hide hn
    clear hn
    go_upto_region 4 with fail
    refine wp_region_mix (fun W => (W.cell? ⟨bx, 0, none⟩ = some (.bool na) ∧ W.cell? ⟨bx, 1, none⟩ = some (.string sa)) ∧ W.cell? ⟨bx + 1, 0, none⟩ = some (.bool nb) ∧ W.cell? ⟨bx + 1, 1, none⟩ = some (.string sb)) [0, 1, 2, 3] [0, 1, 2, 3, 4, 5, 6] mixed_ok (by kernel_rfl) ?_
    refine wpMix_q (v := .pointer (some ⟨bx, 0, none⟩)) rfl rfl (fun _ _ _ h => h) HQ.out ⟨rfl, fun _ h' => by simp [go_sem]⟩ ?_
    refine wpMix_q (v := .bool na) rfl rfl (fun _ _ _ h => h) HQ.out ⟨rfl, fun _ h' => by simp [go_sem, h'.1.1]⟩ ?_
    refine wpMix_q (v := .slice A5 La c5) rfl rfl (fun _ _ _ h => h) HQ.out ⟨rfl, fun _ h' => by simp [go_sem]⟩ ?_
    refine wpMix_q (v := .slice A6 Lb c6) rfl rfl (fun _ _ _ h => h) HQ.out ⟨rfl, fun _ h' => by simp [go_sem]⟩ ?_
    simp only [List.getElem_toArray, List.getElem_cons_succ, List.getElem_cons_zero]
    refine wpMix_n rfl rfl ?_
    go_wp2_with fail
    have s1 : Sl encI 1 w6.drew w6.drew.heap.size A5 la := H6.out.2.2.1
    have s2 : Sl encI 1 w6.drew w6.drew.heap.size A6 lb := H6.out.2.1
    with_reducible refine (HC.out.2.2.1 A5 A6 c5 c6 w6.drew s1 s2).mono ?_
    clear s1 s2
    rintro e w8 ⟨A8, c8, out, rfl, hc8, hl8, ho8, hv8, hs8, hB8⟩
    have hB8 : Below w6.heap.size w6 w8 := (Below.refl w6.heap.size w6).drew.trans hB8
    have hwd := HC.out.2.2.2.2.2.2 na A8 c8 out w8 (by rw [HV.out.1, HV.out.2]; exact add_same HN.out hv8) ho8 hs8 hc8 hl8
    obtain ⟨Lo, hLo⟩ : ∃ L, L = out.length := ⟨_, rfl⟩
    rw [← hLo] at hwd ⊢
    have H8 := hide (And.intro hwd (H6.out.2.2.2.trans (hB8.mono H6.out.2.2.2.size)))
    clear hwd hc8 hl8 ho8 hv8 hs8 hB8 hLo
    go_wp2_with fail
    refine ⟨fun _ => HS.out w8 H8.out.2, ?_⟩
    refine wpMix_tail _ [_, _] (by kernel_rfl) rfl ?_
    simp only [List.getElem_toArray, List.getElem_cons_succ, List.getElem_cons_zero]
    go_wp2_with fail
    with_reducible refine H8.out.1.mono ?_
    rintro e w9 ⟨rb, rs, rfl, hW, hB9⟩
    have hBX8 := H8.out.2.trans (hB9.mono H8.out.2.size)
    have hr6 := HX.out.1.below hBX8 HX.out.1.lt
    have hB9 := HX.out.2.1.trans (hBX8.mono HX.out.2.1.size)
    clear hBX8
    have r0 := hr6.cell 0
    have r1 := hr6.cell 1
    have f0 := hr6.frozen 0
    have f1 := hr6.frozen 1
    have hlt := hr6.lt
    simp only [List.getElem?_toArray, List.getElem?_cons_zero, List.getElem?_cons_succ] at r0 r1
    have hbx := HX.out.2.2.2
    have H9 := hide (And.intro hW (And.intro hB9 (And.intro hr6 hbx)))
    clear hW hB9 hr6 hbx
    go_wp2
    refine ret_at (v := .agg #[.bool rb, .string rs]) (fun W => Blk W (bx + 1 + 1) 46 #[.bool rb, .string rs]) ?_ (fun W h => ?_) rfl ⟨rb, rs, rfl, H9.out.1, ?_⟩
    · exact (H9.out.2.2.1.set_ 0 (.bool rb)).set_ 1 (.string rs)
    · have a0 := h.cell 0
      have a1 := h.cell 1
      simp only [List.getElem?_toArray, List.getElem?_cons_zero, List.getElem?_cons_succ] at a0 a1
      simp [results, Tryz.results61, go_sem, a0, a1]
    · have := H9.out.2.2.2
      exact (H9.out.2.1.setCell (by dsimp only; omega) _).setCell (by dsimp only; omega) _
  · have tn : (na == nb) = false := by simp [hn]
    have HN := hide hn
    clear hn
    go_wp2_with fail
    with_reducible refine (HC.out.2.2.2.1 A5 A6 c5 c6 w6 H6.out.2.2.1 H6.out.2.1).mono ?_
    rintro e w7 ⟨r, rfl, hr0, hB7⟩
    have H7 := hide (And.intro hr0 (And.intro ((H6.out.2.2.1.below hB7).more hB7.size) (And.intro ((H6.out.2.1.below hB7).more hB7.size) (H6.out.2.2.2.trans (hB7.mono H6.out.2.2.2.size)))))
    clear hr0 hB7 q0 q1 q2 q3 HQ
    have HQ := hide (HS.out w7.drew H7.out.2.2.2.drew)
    by_cases hc0 : (0 : Int) ≤ r
    · have HV0 := hide (H7.out.1.1 hc0)
      go_upto_region 6 with fail
      refine wp_region_mix (fun W => (W.cell? ⟨bx, 0, none⟩ = some (.bool na) ∧ W.cell? ⟨bx, 1, none⟩ = some (.string sa)) ∧ W.cell? ⟨bx + 1, 0, none⟩ = some (.bool nb) ∧ W.cell? ⟨bx + 1, 1, none⟩ = some (.string sb)) [0, 1, 2, 3] [0, 1, 2, 3, 4, 5, 6] mixed_ok (by kernel_rfl) ?_
      refine wpMix_q (v := .pointer (some ⟨bx, 0, none⟩)) rfl rfl (fun _ _ _ h => h) HQ.out ⟨rfl, fun _ h' => by simp [go_sem]⟩ ?_
      refine wpMix_q (v := .bool na) rfl rfl (fun _ _ _ h => h) HQ.out ⟨rfl, fun _ h' => by simp [go_sem, h'.1.1]⟩ ?_
      refine wpMix_q (v := .slice A5 La c5) rfl rfl (fun _ _ _ h => h) HQ.out ⟨rfl, fun _ h' => by simp [go_sem]⟩ ?_
      refine wpMix_q (v := .slice A6 Lb c6) rfl rfl (fun _ _ _ h => h) HQ.out ⟨rfl, fun _ h' => by simp [go_sem]⟩ ?_
      simp only [List.getElem_toArray, List.getElem_cons_succ, List.getElem_cons_zero]
      refine wpMix_n rfl rfl ?_
      go_wp2_with fail
      have s1 : Sl encI 1 w7.drew w7.drew.heap.size A5 la := H7.out.2.1
      have s2 : Sl encI 1 w7.drew w7.drew.heap.size A6 lb := H7.out.2.2.1
      with_reducible refine (HC.out.2.2.2.2.1 A5 A6 c5 c6 w7.drew s1 s2 HV0.out).mono ?_
      clear s1 s2
      rintro e w8 ⟨A8, c8, out, rfl, hc8, hl8, ho8, hv8, hs8, hB8⟩
      have hB8 : Below w7.heap.size w7 w8 := (Below.refl w7.heap.size w7).drew.trans hB8
      have hwd := HC.out.2.2.2.2.2.2 na A8 c8 out w8 (by rw [HV.out.1, HV.out.2]; exact add_left HN.out hv8) ho8 hs8 hc8 hl8
      obtain ⟨Lo, hLo⟩ : ∃ L, L = out.length := ⟨_, rfl⟩
      rw [← hLo] at hwd ⊢
      have H8 := hide (And.intro hwd (H7.out.2.2.2.trans (hB8.mono H7.out.2.2.2.size)))
      clear hwd hc8 hl8 ho8 hv8 hs8 hB8 hLo
      go_wp2_with fail
      refine ⟨fun _ => HS.out w8 H8.out.2, ?_⟩
      refine wpMix_tail _ [_, _] (by kernel_rfl) rfl ?_
      simp only [List.getElem_toArray, List.getElem_cons_succ, List.getElem_cons_zero]
      go_wp2_with fail
      with_reducible refine H8.out.1.mono ?_
      rintro e w9 ⟨rb, rs, rfl, hW, hB9⟩
      have hBX8 := H8.out.2.trans (hB9.mono H8.out.2.size)
      have hr6 := HX.out.1.below hBX8 HX.out.1.lt
      have hB9 := HX.out.2.1.trans (hBX8.mono HX.out.2.1.size)
      clear hBX8
      have r0 := hr6.cell 0
      have r1 := hr6.cell 1
      have f0 := hr6.frozen 0
      have f1 := hr6.frozen 1
      have hlt := hr6.lt
      simp only [List.getElem?_toArray, List.getElem?_cons_zero, List.getElem?_cons_succ] at r0 r1
      have hbx := HX.out.2.2.2
      have H9 := hide (And.intro hW (And.intro hB9 (And.intro hr6 hbx)))
      clear hW hB9 hr6 hbx
      go_wp2
      refine ret_at (v := .agg #[.bool rb, .string rs]) (fun W => Blk W (bx + 1 + 1) 46 #[.bool rb, .string rs]) ?_ (fun W h => ?_) rfl ⟨rb, rs, rfl, H9.out.1, ?_⟩
      · exact (H9.out.2.2.1.set_ 0 (.bool rb)).set_ 1 (.string rs)
      · have a0 := h.cell 0
        have a1 := h.cell 1
        simp only [List.getElem?_toArray, List.getElem?_cons_zero, List.getElem?_cons_succ] at a0 a1
        simp [results, Tryz.results61, go_sem, a0, a1]
      · have := H9.out.2.2.2
        exact (H9.out.2.1.setCell (by dsimp only; omega) _).setCell (by dsimp only; omega) _
    · have HV0 := hide (show valD la ≤ valD lb by have := mt H7.out.1.2 hc0; omega)
      go_upto_region 7 with fail
      refine wp_region_mix (fun W => (W.cell? ⟨bx, 0, none⟩ = some (.bool na) ∧ W.cell? ⟨bx, 1, none⟩ = some (.string sa)) ∧ W.cell? ⟨bx + 1, 0, none⟩ = some (.bool nb) ∧ W.cell? ⟨bx + 1, 1, none⟩ = some (.string sb)) [0, 1, 2, 3] [0, 1, 2, 3, 4, 5, 6] mixed_ok (by kernel_rfl) ?_
      refine wpMix_q (v := .pointer (some ⟨bx + 1, 0, none⟩)) rfl rfl (fun _ _ _ h => h) HQ.out ⟨rfl, fun _ h' => by simp [go_sem]⟩ ?_
      refine wpMix_q (v := .bool nb) rfl rfl (fun _ _ _ h => h) HQ.out ⟨rfl, fun _ h' => by simp [go_sem, h'.2.1]⟩ ?_
      refine wpMix_q (v := .slice A6 Lb c6) rfl rfl (fun _ _ _ h => h) HQ.out ⟨rfl, fun _ h' => by simp [go_sem]⟩ ?_
      refine wpMix_q (v := .slice A5 La c5) rfl rfl (fun _ _ _ h => h) HQ.out ⟨rfl, fun _ h' => by simp [go_sem]⟩ ?_
      simp only [List.getElem_toArray, List.getElem_cons_succ, List.getElem_cons_zero]
      refine wpMix_n rfl rfl ?_
      go_wp2_with fail
      have s1 : Sl encI 1 w7.drew w7.drew.heap.size A6 lb := H7.out.2.2.1
      have s2 : Sl encI 1 w7.drew w7.drew.heap.size A5 la := H7.out.2.1
      with_reducible refine (HC.out.2.2.2.2.2.1 A5 A6 c5 c6 w7.drew s1 s2 HV0.out).mono ?_
      clear s1 s2
      rintro e w8 ⟨A8, c8, out, rfl, hc8, hl8, ho8, hv8, hs8, hB8⟩
      have hB8 : Below w7.heap.size w7 w8 := (Below.refl w7.heap.size w7).drew.trans hB8
      have hwd := HC.out.2.2.2.2.2.2 nb A8 c8 out w8 (by rw [HV.out.1, HV.out.2]; exact add_right HN.out hv8) ho8 hs8 hc8 hl8
      obtain ⟨Lo, hLo⟩ : ∃ L, L = out.length := ⟨_, rfl⟩
      rw [← hLo] at hwd ⊢
      have H8 := hide (And.intro hwd (H7.out.2.2.2.trans (hB8.mono H7.out.2.2.2.size)))
      clear hwd hc8 hl8 ho8 hv8 hs8 hB8 hLo
      go_wp2_with fail
      refine ⟨fun _ => HS.out w8 H8.out.2, ?_⟩
      refine wpMix_tail _ [_, _] (by kernel_rfl) rfl ?_
      simp only [List.getElem_toArray, List.getElem_cons_succ, List.getElem_cons_zero]
      go_wp2_with fail
      with_reducible refine H8.out.1.mono ?_
      rintro e w9 ⟨rb, rs, rfl, hW, hB9⟩
      have hBX8 := H8.out.2.trans (hB9.mono H8.out.2.size)
      have hr6 := HX.out.1.below hBX8 HX.out.1.lt
      have hB9 := HX.out.2.1.trans (hBX8.mono HX.out.2.1.size)
      clear hBX8
      have r0 := hr6.cell 0
      have r1 := hr6.cell 1
      have f0 := hr6.frozen 0
      have f1 := hr6.frozen 1
      have hlt := hr6.lt
      simp only [List.getElem?_toArray, List.getElem?_cons_zero, List.getElem?_cons_succ] at r0 r1
      have hbx := HX.out.2.2.2
      have H9 := hide (And.intro hW (And.intro hB9 (And.intro hr6 hbx)))
      clear hW hB9 hr6 hbx
      go_wp2
      refine ret_at (v := .agg #[.bool rb, .string rs]) (fun W => Blk W (bx + 1 + 1) 46 #[.bool rb, .string rs]) ?_ (fun W h => ?_) rfl ⟨rb, rs, rfl, H9.out.1, ?_⟩
      · exact (H9.out.2.2.1.set_ 0 (.bool rb)).set_ 1 (.string rs)
      · have a0 := h.cell 0
        have a1 := h.cell 1
        simp only [List.getElem?_toArray, List.getElem?_cons_zero, List.getElem?_cons_succ] at a0 a1
        simp [results, Tryz.results61, go_sem, a0, a1]
      · have := H9.out.2.2.2
        exact (H9.out.2.1.setCell (by dsimp only; omega) _).setCell (by dsimp only; omega) _
set_option maxRecDepth 100000 in
set_option maxHeartbeats 16000000 in
theorem subW_any (va vb : Value) (x y : Int) (ha : WideI va x) (hb : WideI vb y) (sx : x.natAbs < 65536 ^ 32) (sy : y.natAbs < 65536 ^ 32) (w : World) :
    Calls Tryz.prog 109 #[va, vb] w fun e w' => ∃ b s, e = .returned (.agg #[.bool b, .string s]) ∧ WideI (.agg #[.bool b, .string s]) (x - y) ∧ Below w.heap.size w w' := by
  have hng := fun W => negW_any vb y hb sy W
  have had := fun b s (hv : WideI (.agg #[.bool b, .string s]) (-y)) W => addW_any va (.agg #[.bool b, .string s]) x (-y) ha hv sx (by rw [Int.natAbs_neg]; exact sy) W
  rw [show x + -y = x - y by omega] at had
  obtain ⟨na, sa, rfl⟩ := ha.form
  obtain ⟨nb, sb, rfl⟩ := hb.form
  have HC := hide (And.intro hng had)
  clear hng had ha hb sx sy
  go_enter Tryz.func109, Tryz.ntmps109
  go_upto_region 1 with fail
  obtain ⟨X, hX⟩ : ∃ X, X = ((w.alloc (.cells #[.bool na, .string sa] 46)).alloc (.cells #[.bool nb, .string sb] 46)).alloc (.cells #[.bool false, .string ⟨#[]⟩] 46) := ⟨_, rfl⟩
  rw [← hX]
  have hb0 : Blk X w.heap.size 46 #[.bool na, .string sa] := by rw [hX]; exact ((Blk.new _ _ _).alloc _).alloc _
  have hb1 : Blk X (w.heap.size + 1) 46 #[.bool nb, .string sb] := by rw [hX]; exact (Blk.new' _ _ _ _ (by simp)).alloc _
  have hr : Blk X (w.heap.size + 1 + 1) 46 #[.bool false, .string ⟨#[]⟩] := by rw [hX]; exact Blk.new' _ _ _ _ (by simp)
  have hBX : Below w.heap.size w X := by rw [hX]; exact (((Below.refl _ w).alloc (Nat.le_refl _) _).alloc (by simp) _).alloc (by simp; omega) _
  have hzX : X.heap.size = w.heap.size + 3 := by rw [hX]; simp
  obtain ⟨bx, hbx⟩ : ∃ b, b = w.heap.size := ⟨_, rfl⟩
  rw [← hbx] at hb0 hb1 hr hzX ⊢
  have hS : ∀ W, Below X.heap.size X W → (W.cell? ⟨bx, 0, none⟩ = some (.bool na) ∧ W.cell? ⟨bx, 1, none⟩ = some (.string sa)) ∧ W.cell? ⟨bx + 1, 0, none⟩ = some (.bool nb) ∧ W.cell? ⟨bx + 1, 1, none⟩ = some (.string sb) := fun W hW => by
    have h2 := hb0.below hW hb0.lt
    have h3 := hb1.below hW hb1.lt
    exact ⟨⟨h2.cell 0, h2.cell 1⟩, h3.cell 0, h3.cell 1⟩
  have HS := hide hS
  have HX := hide (And.intro hr (And.intro hBX (And.intro hzX hbx)))
  clear hS hr hBX hzX hbx hb0 hb1 hX
  have HQ := hide (HS.out X.drew (Below.refl _ X).drew)
  refine wp_region_mix (fun W => (W.cell? ⟨bx, 0, none⟩ = some (.bool na) ∧ W.cell? ⟨bx, 1, none⟩ = some (.string sa)) ∧ W.cell? ⟨bx + 1, 0, none⟩ = some (.bool nb) ∧ W.cell? ⟨bx + 1, 1, none⟩ = some (.string sb)) [0, 1] [0, 1, 2, 3, 4] mixed_ok (by kernel_rfl) ?_
  refine wpMix_q (v := .agg #[.bool na, .string sa]) rfl rfl (fun _ _ _ h => h) HQ.out ⟨rfl, fun _ h' => by simp [go_sem, h'.1.1, h'.1.2]⟩ ?_
  refine wpMix_q (v := .agg #[.bool nb, .string sb]) rfl rfl (fun _ _ _ h => h) HQ.out ⟨rfl, fun _ h' => by simp [go_sem, h'.2.1, h'.2.2]⟩ ?_
  simp only [List.getElem_toArray, List.getElem_cons_succ, List.getElem_cons_zero]
  refine wpMix_n rfl rfl ?_
  go_wp2_with fail
  with_reducible refine (HC.out.1 X.drew).mono ?_
  rintro e w5 ⟨nb5, sb5, rfl, hW5, hB5⟩
  have hB5 : Below X.heap.size X w5 := (Below.refl X.heap.size X).drew.trans hB5
  have H5 := hide (And.intro hW5 hB5)
  clear hW5 hB5
  go_wp2_with fail
  refine ⟨fun _ => HS.out w5 H5.out.2, ?_⟩
  refine wpMix_tail _ [_, _] (by kernel_rfl) rfl ?_
  simp only [List.getElem_toArray, List.getElem_cons_succ, List.getElem_cons_zero]
  go_wp2_with fail
  with_reducible refine (HC.out.2 nb5 sb5 H5.out.1 w5).mono ?_
  rintro e w8 ⟨rb, rs, rfl, hW, hB8⟩
  have hBX8 := H5.out.2.trans (hB8.mono H5.out.2.size)
  have hr6 := HX.out.1.below hBX8 HX.out.1.lt
  have hB9 := HX.out.2.1.trans (hBX8.mono HX.out.2.1.size)
  clear hB8 hBX8
  have r0 := hr6.cell 0
  have r1 := hr6.cell 1
  have f0 := hr6.frozen 0
  have f1 := hr6.frozen 1
  have hlt := hr6.lt
  simp only [List.getElem?_toArray, List.getElem?_cons_zero, List.getElem?_cons_succ] at r0 r1
  have hbx := HX.out.2.2.2
  have H9 := hide (And.intro hW (And.intro hB9 (And.intro hr6 hbx)))
  clear hW hB9 hr6 hbx
  go_wp2
  refine ret_at (v := .agg #[.bool rb, .string rs]) (fun W => Blk W (bx + 1 + 1) 46 #[.bool rb, .string rs]) ?_ (fun W h => ?_) rfl ⟨rb, rs, rfl, H9.out.1, ?_⟩
  · exact (H9.out.2.2.1.set_ 0 (.bool rb)).set_ 1 (.string rs)
  · have a0 := h.cell 0
    have a1 := h.cell 1
    simp only [List.getElem?_toArray, List.getElem?_cons_zero, List.getElem?_cons_succ] at a0 a1
    simp [results, Tryz.results109, go_sem, a0, a1]
  · have := H9.out.2.2.2
    exact (H9.out.2.1.setCell (by dsimp only; omega) _).setCell (by dsimp only; omega) _
end Go.Proofs.YtelfnmohpjkilaaGreatDoor
/- ref01.From. -/
namespace Go.Proofs.YtelfnmohpjkilaaGreatDoor
open Go.RowKit Go.Sort
theorem u64_small {a : Int} (h0 : 0 ≤ a) (h1 : a < 1099511627776) : IntKind.u64.wrap a = a := by
  have e : IntKind.u64.wrap a = a % 18446744073709551616 := by simp [IntKind.wrap, IntKind.bits, IntKind.signed]
  rw [e]
  omega
theorem pow_few {k m v n : Nat} (h : v + 65536 ^ k * m = n) (hm : 0 < m) (hn : n < 1099511627776) : k ≤ 2 := by
  rcases Nat.lt_or_ge 2 k with hk | hk
  · have h1 : 65536 ^ 3 ≤ 65536 ^ k := Nat.pow_le_pow_right (by omega) (by omega)
    have h2 : 65536 ^ k * 1 ≤ 65536 ^ k * m := Nat.mul_le_mul_left _ hm
    omega
  · exact hk
theorem from_step {out : List Nat} {k m n : Nat} (hl : out.length = k) (h : valD out + 65536 ^ k * m = n) : valD (out ++ [m % 65536]) + 65536 ^ (k + 1) * (m / 65536) = n := by
  have e : 65536 ^ k * (m % 65536) + 65536 ^ (k + 1) * (m / 65536) = 65536 ^ k * m := by
    rw [Nat.pow_succ, Nat.mul_assoc, ← Nat.mul_add, Nat.mod_add_div]
  rw [valD_snoc, hl]
  omega
set_option maxRecDepth 100000 in
set_option maxHeartbeats 16000000 in
theorem fromW_any (n : Nat) (hn : n < 1099511627776) (w : World) :
    Calls Tryz.prog 38 #[.int .i64 n] w fun e w' => ∃ b s, e = .returned (.agg #[.bool b, .string s]) ∧ WideI (.agg #[.bool b, .string s]) (n : Int) ∧ Below w.heap.size w w' := by
  have i0 : ¬ (n : Int) < 0 := by omega
  have iu : IntKind.u64.wrap (n : Int) = (n : Int) := u64_small (by omega) (by omega)
  go_enter Tryz.func38, Tryz.ntmps38
  go_upto_region 1 with fail
  obtain ⟨X, hX⟩ : ∃ X, X = w.alloc (.cells #[.bool false, .string ⟨#[]⟩] 46) := ⟨_, rfl⟩
  rw [← hX]
  have hb : Blk X w.heap.size 46 #[.bool false, .string ⟨#[]⟩] := by rw [hX]; exact Blk.new _ _ _
  have hBX : Below w.heap.size w X := by rw [hX]; exact (Below.refl _ w).alloc (Nat.le_refl _) _
  obtain ⟨bx, hbx⟩ : ∃ b, b = w.heap.size := ⟨_, rfl⟩
  rw [← hbx] at hb ⊢
  have HX := hide (And.intro hb (And.intro hBX hbx))
  clear hb hBX hbx hX
  go_wp2
  go_loopw [3, 4] (fun ov mv wr => ∃ (k m : Nat) (out : List Nat), mv = .int .u64 m ∧ Own encI 1 3 wr X.heap.size ov k out ∧ okD out ∧ valD out + 65536 ^ k * m = n ∧ k ≤ 3 ∧ Below X.heap.size X wr) (fun _ mv _ => (intOf mv).toNat)
  case atStart => exact ⟨0, n, [], rfl, Own.nil, (fun x hx => by cases hx), by simp [valD], by omega, Below.refl _ X⟩
  case round =>
    obtain ⟨k, m, out, rfl, hown, hok, hval, hk, hB⟩ := hrel
    obtain ⟨V, rfl⟩ : ∃ V, V = wr := ⟨_, rfl⟩
    obtain ⟨A1, c1, rfl⟩ := hown.form
    have hzr := hB.size
    by_cases hm0 : m = 0
    · subst hm0
      have i1 : ¬ (0 : Int) < ((0 : Nat) : Int) := by omega
      rw [Nat.mul_zero, Nat.add_zero] at hval
      have hwd := wideE_any false A1 c1 out V (hown.sl encI_len (Nat.le_refl _)) (by rw [← hown.1]; exact hown.place.1) hok (by rw [← hown.1]; omega) (n : Int) (by rw [← hval]; rfl)
      rw [← hown.1] at hwd
      have hr := HX.out.1.below hB HX.out.1.lt
      have H5 := hide (And.intro hwd (And.intro hr (HX.out.2.1.trans (hB.mono HX.out.2.1.size))))
      clear hwd hr hval hown hok hB i1
      go_wp2_with fail
      rw [decide_eq_false (show ¬ (n : Int) < 0 by omega)]
      with_reducible refine H5.out.1.mono ?_
      rintro e w8 ⟨rb, rs, rfl, hW, hB8⟩
      have hr6 := H5.out.2.1.below hB8 H5.out.2.1.lt
      have hB9 := H5.out.2.2.trans (hB8.mono H5.out.2.2.size)
      have r0 := hr6.cell 0
      have r1 := hr6.cell 1
      have f0 := hr6.frozen 0
      have f1 := hr6.frozen 1
      have hlt := hr6.lt
      simp only [List.getElem?_toArray, List.getElem?_cons_zero, List.getElem?_cons_succ] at r0 r1
      have hbx := HX.out.2.2
      have H9 := hide (And.intro hW (And.intro hB9 (And.intro hr6 hbx)))
      clear hW hB9 hr6 hbx hB8
      go_wp2
      refine ret_at (v := .agg #[.bool rb, .string rs]) (fun W => Blk W bx 46 #[.bool rb, .string rs]) ?_ (fun W h => ?_) rfl ⟨rb, rs, rfl, H9.out.1, ?_⟩
      · exact (H9.out.2.2.1.set_ 0 (.bool rb)).set_ 1 (.string rs)
      · have a0 := h.cell 0
        have a1 := h.cell 1
        simp only [List.getElem?_toArray, List.getElem?_cons_zero, List.getElem?_cons_succ] at a0 a1
        simp [results, Tryz.results38, go_sem, a0, a1]
      · have := H9.out.2.2.2
        exact (H9.out.2.1.setCell (by dsimp only; omega) _).setCell (by dsimp only; omega) _
    · have i1 : (0 : Int) < (m : Int) := by omega
      have hk2 := pow_few hval (by omega) hn
      have hst := from_step hown.1.symm hval
      have hmn : m ≤ n := by
        have h2 : 1 * m ≤ 65536 ^ k * m := Nat.mul_le_mul_right _ (Nat.pow_pos (by omega))
        omega
      obtain ⟨r, hr⟩ : ∃ r, r = m % 65536 := ⟨_, rfl⟩
      obtain ⟨q, hq⟩ : ∃ q, q = m / 65536 := ⟨_, rfl⟩
      rw [← hr, ← hq] at hst
      have t1 : (m : Int) % 65536 = (r : Int) := by omega
      have t2 : (m : Int) / 65536 = (q : Int) := by omega
      have hr6 : r < 65536 := by omega
      have hqm : q < m := by omega
      have ur : IntKind.u64.wrap (r : Int) = (r : Int) := u64_small (by omega) (by omega)
      have uq : IntKind.u64.wrap (q : Int) = (q : Int) := u64_small (by omega) (by omega)
      have HT := hide (And.intro hst (And.intro hok (And.intro hr6 (And.intro hk2 (And.intro hqm hB)))))
      have HO := hide (hown.alloc (.cells (encI r).toArray 3))
      clear hst hok hr hq hk2 hk hB hown hval hm0 hmn hqm
      go_wp2_with (at_builtin; refine wpList_append1 rfl _ _ _ rfl Tryz.underlying23 infoI1 rfl (by omega) encI_len encI_one rfl HO.out V.heap.size 1 r rfl (Blk.new _ _ _) (by unfold maxLen; have := HT.out.2.2.2.1; omega) (by have := HT.out.2.2.2.1; omega) (by simp; omega) ?_; intro g cap w7 hown7 hg7 hB7 hat7 hgb7 hlt7)
      go_roundw
      case rel =>
        obtain ⟨hst, hok, hr6, hk2, hqm, hB⟩ := HT.out
        exact ⟨k + 1, q, out ++ [r], rfl, hown7, okD_snoc hok hr6, hst, by omega, (hB.alloc hzr _).trans hB7⟩
      case measure => have := HT.out.2.2.2.2.1; (simp [intOf]; try omega)
end Go.Proofs.YtelfnmohpjkilaaGreatDoor
