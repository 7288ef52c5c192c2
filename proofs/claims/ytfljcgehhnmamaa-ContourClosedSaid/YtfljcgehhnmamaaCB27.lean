/- Joined texts: With Cor Edge Edge2 Bord Beh Pin Chk. -/
import Derived.Deep.RegionHeld3
import Derived.Deep.CutBlock
import Derived.Deep.DeepCutAuto
import Derived.BigQuiet
import Derived.Test.YtfljcgehhnmamaaCB3
import Derived.Test.YtfljcgehhnmamaaCB8
import Derived.Test.YtfljcgehhnmamaaCB9
import Derived.Test.YtfljcgehhnmamaaCB10
import Derived.Test.YtfljcgehhnmamaaCB20
import Derived.Test.YtfljcgehhnmamaaCB25
/- ref04.with, ref04.Corners: the corners of a list, each once, in order. -/
namespace Go.Proofs.Ytfljcgehhnmamaa
open Go.RowKit Go.Sort
theorem infoPt : (Try.prog.info? 38).map (fun i => (i.zero, i.size, i.bytes)) = some (some (.agg #[.int .i64 0, .int .i64 0, .int .i64 0]), 3, 24) := by kernel_rfl
/-- The place of a point among ordered ones. -/
def atP (l : List Pt) (p : Pt) : Nat := (l.takeWhile fun x => ltP x p).length
def withP (l : List Pt) (p : Pt) : List Pt := if l[atP l p]? = some p then l else l.take (atP l p) ++ (p :: l.drop (atP l p))
theorem atP_eq {l : List Pt} {p : Pt} {a : Nat} (ha : a ≤ l.length) (hlo : ∀ j q, j < a → l[j]? = some q → ltP q p = true) (hhi : ∀ q, l[a]? = some q → ltP q p = false) : a = atP l p := by
  unfold atP
  induction l generalizing a with
  | nil => simpa using ha
  | cons x l ih =>
    cases a with
    | zero =>
      have := hhi x rfl
      simp [this]
    | succ a =>
      have h0 := hlo 0 x (by omega) rfl
      rw [List.takeWhile_cons, h0, if_pos rfl, List.length_cons]
      rw [← ih (a := a) (by simpa using ha) (fun j q hj hq => hlo (j + 1) q (by omega) (by simpa using hq)) (fun q hq => hhi q (by simpa using hq))]
theorem withP_length (l : List Pt) (p : Pt) : (withP l p).length ≤ l.length + 1 := by
  unfold withP
  split
  · omega
  · simp; omega
theorem withP_mem {l : List Pt} {p q : Pt} (h : q ∈ withP l p) : q ∈ l ∨ q = p := by
  unfold withP at h
  split at h
  · exact .inl h
  · rcases List.mem_append.1 h with h | h
    · exact .inl (List.mem_of_mem_take h)
    · rcases List.mem_cons.1 h with h | h
      · exact .inr h
      · exact .inl (List.mem_of_mem_drop h)
theorem Sl.pt8 {w : World} {B b o : Nat} {ps : List Pt} (h : Sl encP 3 w B (some ⟨b, o, none⟩) ps) {i : Nat} {p : Pt} (hi : ps[i]? = some p) :
    w.cell? ⟨b, o + i * 3, none⟩ = some (.int .i64 p.1) ∧ w.cell? ⟨b, o + i * 3 + 1, none⟩ = some (.int .i64 p.2.1) ∧ w.cell? ⟨b, o + i * 3 + 2, none⟩ = some (.int .i64 p.2.2) := by
  obtain ⟨b', o', ha, _, hc⟩ := h.at hi
  cases ha
  exact ⟨hc 0 _ rfl, hc 1 _ rfl, hc 2 _ rfl⟩
theorem Sl.take8 {α : Type} {enc : α → List Value} {k B : Nat} {w : World} {A : Option Addr} {xs : List α} (h : Sl enc k w B A xs) (a : Nat) : Sl enc k w B A (xs.take a) := by
  rcases h with ⟨rfl, h⟩ | ⟨b, o, hA, hb, hc⟩
  · exact .inl ⟨by simp, h⟩
  · refine .inr ⟨b, o, hA, hb, fun i x hx => hc i x ?_⟩
    rw [List.getElem?_take] at hx
    split at hx
    · exact hx
    · cases hx
theorem Blk.three8 {w : World} {g : Nat} {t : TypeId} {a b c : Value} (h : Blk w g t #[a, b, c]) : w.cell? ⟨g, 0, none⟩ = some a ∧ w.cell? ⟨g, 1, none⟩ = some b ∧ w.cell? ⟨g, 2, none⟩ = some c := ⟨h.cell 0, h.cell 1, h.cell 2⟩
set_option maxRecDepth 100000 in
set_option maxHeartbeats 8000000 in
theorem with_any (A : Option Addr) (c : Nat) (l : List Pt) (p : Pt) (w : World) (hs : Sl encP 3 w w.heap.size A l) (hl : l.length ≤ 4294967296) (hc : l.length ≤ c) (hp : fitsP p) (hf : ∀ q ∈ l, fitsP q) :
    Calls Try.prog 38 #[.slice A l.length c, vP p] w fun e w' => ∃ A' c', e = .returned (.slice A' (withP l p).length c') ∧ Sl encP 3 w' w'.heap.size A' (withP l p) ∧ (withP l p).length ≤ c' ∧ Below w.heap.size w w' := by
  obtain ⟨n, hn⟩ : ∃ n, n = l.length := ⟨_, rfl⟩
  rw [← hn] at hl hc ⊢
  have HS := hide (And.intro hs (And.intro hp (And.intro hf hn)))
  clear hs hp hf hn
  go_enter Try.func38, Try.ntmps38
  obtain ⟨X, hX⟩ : ∃ X, X = w.alloc (.cells #[.int .i64 p.1, .int .i64 p.2.1, .int .i64 p.2.2] 38) := ⟨_, rfl⟩
  have hBX : Below w.heap.size w X := by rw [hX]; exact (Below.refl _ w).alloc (Nat.le_refl _) _
  have hbx : Blk X w.heap.size 38 #[.int .i64 p.1, .int .i64 p.2.1, .int .i64 p.2.2] := by rw [hX]; exact Blk.new _ _ _
  have hzX : X.heap.size = w.heap.size + 1 := by rw [hX]; simp
  have HX := hide (And.intro hBX (And.intro hbx hX))
  clear hBX hbx hX
  go_upto_block 0 with fail
  rw [← HX.out.2.2]
  go_cut [5] (fun a wx => ∃ a' : Nat, a = .int .i64 a' ∧ a' ≤ n ∧ (∀ j q, j < a' → l[j]? = some q → ltP q p = true) ∧ (∀ q, l[a']? = some q → ltP q p = false) ∧ RB X wx)
  case first =>
    go_wp2_with fail
    go_loopw [5] (fun a wx => ∃ a' : Nat, a = .int .i64 a' ∧ a' ≤ n ∧ (∀ j q, j < a' → l[j]? = some q → ltP q p = true) ∧ RB X wx) (fun a _ => n - (intOf a).toNat)
    case atStart => exact ⟨0, rfl, Nat.zero_le _, fun j q h => absurd h (by omega), RB.refl _⟩
    case round =>
      obtain ⟨a, rfl, ha, hlo, hR⟩ := hrel
      have hbx := HX.out.2.1.below hR HX.out.2.1.lt
      have hszR := hR.size
      by_cases hla : a < n
      · obtain ⟨q, hq⟩ : ∃ q, l[a]? = some q := ⟨_, List.getElem?_eq_getElem (by rw [← HS.out.2.2.2]; exact hla)⟩
        obtain ⟨bp, op, hAp, hbp, hcq⟩ := ((HS.out.1.below HX.out.1).below (hR.mono (by omega))).at hq
        subst hAp
        have k0 := hcq 0 _ rfl
        have k1 := hcq 1 _ rfl
        have k2 := hcq 2 _ rfl
        have x0 := hbx.cell 0
        have x1 := hbx.cell 1
        have x2 := hbx.cell 2
        simp only [List.getElem?_toArray, List.getElem?_cons_zero, List.getElem?_cons_succ, Nat.add_zero] at x0 x1 x2 k0 k1 k2
        have hbpR : bp < wr.heap.size := by omega
        have hbxR := hbx.lt
        have i2 : (a : Int) < (n : Int) := by omega
        have HL := hide (And.intro hlo (And.intro hR hq))
        clear hlo hR hq hcq hbx
        cases hless : ltP q p
        · have HLS := hide hless
          go_wp2_with fail
          go_region_held3 (fun w' => w'.cell? ⟨bp, op + a * 3, none⟩ = some (.int .i64 q.1) ∧ w'.cell? ⟨bp, op + a * 3 + 1, none⟩ = some (.int .i64 q.2.1) ∧ w'.cell? ⟨bp, op + a * 3 + 2, none⟩ = some (.int .i64 q.2.2) ∧ w'.cell? ⟨w.heap.size, 0, none⟩ = some (.int .i64 p.1) ∧ w'.cell? ⟨w.heap.size, 1, none⟩ = some (.int .i64 p.2.1) ∧ w'.cell? ⟨w.heap.size, 2, none⟩ = some (.int .i64 p.2.2)) (first | go_keep | exact ⟨cell_lay hL k0, cell_lay hL k1, cell_lay hL k2, cell_lay hL x0, cell_lay hL x1, cell_lay hL x2⟩) ((go_at_call 64; refine (rless_any q p _).mono ?_; rintro e w3 ⟨rfl, hL⟩; rw [hless]))
          go_wp2_with fail
          go_meet
          case rel =>
            refine ⟨a, rfl, ha, HL.out.1, fun q' hq' => ?_, HL.out.2.1.trans _ _ _ ((below_drew wr).trans hL.below)⟩
            rw [HL.out.2.2] at hq'
            cases hq'
            exact HLS.out
        · have HLS := hide hless
          go_wp2_with fail
          go_region_held3 (fun w' => w'.cell? ⟨bp, op + a * 3, none⟩ = some (.int .i64 q.1) ∧ w'.cell? ⟨bp, op + a * 3 + 1, none⟩ = some (.int .i64 q.2.1) ∧ w'.cell? ⟨bp, op + a * 3 + 2, none⟩ = some (.int .i64 q.2.2) ∧ w'.cell? ⟨w.heap.size, 0, none⟩ = some (.int .i64 p.1) ∧ w'.cell? ⟨w.heap.size, 1, none⟩ = some (.int .i64 p.2.1) ∧ w'.cell? ⟨w.heap.size, 2, none⟩ = some (.int .i64 p.2.2)) (first | go_keep | exact ⟨cell_lay hL k0, cell_lay hL k1, cell_lay hL k2, cell_lay hL x0, cell_lay hL x1, cell_lay hL x2⟩) ((go_at_call 64; refine (rless_any q p _).mono ?_; rintro e w3 ⟨rfl, hL⟩; rw [hless]))
          go_wp2_with fail
          go_roundw
          case rel =>
            refine ⟨a + 1, by go_num, by omega, fun j q' hj hq' => ?_, HL.out.2.1.trans _ _ _ ((below_drew wr).trans hL.below)⟩
            rcases Nat.lt_or_ge j a with h | h
            · exact HL.out.1 j q' h hq'
            · have hja : j = a := by omega
              subst hja
              rw [HL.out.2.2] at hq'
              cases hq'
              exact HLS.out
          case measure => simp [intOf]; omega
      · have hae : a = n := by omega
        have HL := hide (And.intro hlo (And.intro hR hae))
        clear hlo hR hbx hae
        go_wp2_with fail
        go_meet
        case rel => exact ⟨a, rfl, ha, HL.out.1, (fun q' hq' => by rw [HL.out.2.2, HS.out.2.2.2, List.getElem?_eq_none (Nat.le_refl _)] at hq'; cases hq'), HL.out.2.1⟩
  case rest =>
    obtain ⟨a, rfl, ha, hlo, hhi, hR⟩ := hcut
    have hat : a = atP l p := atP_eq (by rw [← HS.out.2.2.2]; exact ha) hlo hhi
    have hbx := HX.out.2.1.below hR HX.out.2.1.lt
    have hszR := hR.size
    obtain ⟨x0, x1, x2⟩ := hbx.three8
    have hbw : Below w.heap.size w wc := HX.out.1.trans (hR.mono (by omega))
    have hsl : Sl encP 3 wc w.heap.size A l := HS.out.1.below hbw
    have HA := hide (And.intro hat (And.intro hbw (And.intro hsl hbx)))
    clear hat hlo hhi hR hbw hsl
    by_cases hla : a < n
    · have i2 : (a : Int) < (n : Int) := by omega
      obtain ⟨q, hq⟩ : ∃ q, l[a]? = some q := ⟨_, List.getElem?_eq_getElem (by rw [← HS.out.2.2.2]; exact hla)⟩
      have heq := eqP q p (HS.out.2.2.1 q (List.mem_of_getElem? hq)) HS.out.2.1
      obtain ⟨bp, op, hAp, hbp, hcq⟩ := HA.out.2.2.1.at hq
      subst hAp
      have hwq : withP l p = if q = p then l else l.take a ++ (p :: l.drop a) := by
        unfold withP
        rw [← HA.out.1, hq]
        simp
      obtain ⟨k0, k1, k2⟩ := HA.out.2.2.1.pt8 hq
      have hd : decide (a < n) = true := decide_eq_true hla
      have HQ := hide hwq
      clear hq hcq hwq
      by_cases hqp : q = p
      · have hdq : decide (q = p) = true := decide_eq_true hqp
        rw [hdq] at heq
        have HE := hide hqp
        clear hqp hdq
        go_wp2_with fail
        go_quiet (fail)
        go_wp2
        go_ret
        have hww : withP l p = l := by rw [HQ.out, if_pos HE.out]
        rw [hww, ← HS.out.2.2.2]
        have hbW : Below w.heap.size w (wc.drewN nq) := below_drewN HA.out.2.1 _
        exact ⟨_, c, rfl, (HS.out.1.below hbW).more hbW.size, hc, hbW⟩
      · have hdq : decide (q = p) = false := decide_eq_false hqp
        rw [hdq] at heq
        have hww : withP l p = l.take a ++ (p :: l.drop a) := by rw [HQ.out, if_neg hqp]
        have HE := hide hww
        clear hqp hdq hww
        go_wp2_with fail
        go_quiet (fail)
        obtain ⟨W, hW⟩ : ∃ W, W = wc.drewN nq := ⟨_, rfl⟩
        have hbW : Below w.heap.size w W := by rw [hW]; exact below_drewN HA.out.2.1 _
        have hslW : Sl encP 3 W w.heap.size (some ⟨bp, op, none⟩) l := HS.out.1.below hbW
        have hbxW : Blk W w.heap.size 38 #[.int .i64 p.1, .int .i64 p.2.1, .int .i64 p.2.2] := by rw [hW]; exact HA.out.2.2.2.drewN _
        have hzW := hbW.size
        have hzW1 := hbxW.lt
        have hta : (l.take a).length = a := by rw [List.length_take]; have := HS.out.2.2.2; omega
        have htd : (l.drop a).length = n - a := by rw [List.length_drop, ← HS.out.2.2.2]
        have hrunH : ∀ V : World, (Instr.slice 45 (.slice (some ⟨bp, op, none⟩) n c) none (some (.int .i64 a)) none).run Try.prog V = .ok (.slice (some ⟨bp, op, none⟩) a c) V := fun V => run_cutH Try.underlying45 Try.sizeOf38 ha hc V
        have hrunL : ∀ V : World, (Instr.slice 45 (.slice (some ⟨bp, op, none⟩) n c) (some (.int .i64 a)) none none).run Try.prog V = .ok (.slice (cutA (some ⟨bp, op, none⟩) c a 3) (n - a) (c - a)) V := fun V => run_cut Try.underlying45 Try.sizeOf38 ha V
        have hslT : Sl encP 3 W w.heap.size (some ⟨bp, op, none⟩) (l.take a) := hslW.take8 a
        have hslD : Sl encP 3 W w.heap.size (cutA (some ⟨bp, op, none⟩) c a 3) (l.drop a) := hslW.cut (by rw [← HS.out.2.2.2]; exact ha) (by rw [← HS.out.2.2.2]; exact hc)
        obtain ⟨x0', x1', x2'⟩ := hbxW.three8
        have HT := hide (And.intro hbW (And.intro hslT (And.intro hslD (And.intro hbxW (And.intro hta (And.intro htd hW))))))
        rw [← hW]
        clear hbW hslW hbxW hta htd hslT hslD hW
        go_upto_region 10 with (at_builtin; refine wpList_appendS rfl _ _ _ rfl Try.underlying45 infoPt rfl (by omega) encP_len encP_one rfl (Own.nil (base := W.heap.size)) (some ⟨bp, op, none⟩) c w.heap.size (l.take a) (by rw [HT.out.2.2.2.2.1]; rfl) HT.out.2.1 (by rw [HT.out.2.2.2.2.1]; unfold maxLen; omega) (by rw [HT.out.2.2.2.2.1]; omega) (Nat.le_refl _) ?_; intro v1 w1 hown1 hg1 hB1 hat1; rw [HT.out.2.2.2.2.1, Nat.zero_add, List.nil_append] at hown1; obtain ⟨A1, c1, rfl⟩ := hown1.form)
        have y0 := (hB1.cell (p := ⟨w.heap.size, 0, none⟩) hzW1).trans x0'
        have y1 := (hB1.cell (p := ⟨w.heap.size, 1, none⟩) hzW1).trans x1'
        have y2 := (hB1.cell (p := ⟨w.heap.size, 2, none⟩) hzW1).trans x2'
        have HO1 := hide (And.intro hown1 hB1)
        have hz1 := hB1.size
        have hown1' := hown1.alloc (.cells #[.int .i64 p.1, .int .i64 p.2.1, .int .i64 p.2.2] 38)
        clear hown1 hg1 hB1 hat1 x0' x1' x2'
        go_upto_region 11 with (at_builtin; refine wpList_append1 rfl _ _ _ rfl Try.underlying45 infoPt rfl (by omega) encP_len encP_one rfl hown1' w1.heap.size 1 p rfl (Blk.new _ _ _) (by unfold maxLen; omega) (by omega) (by simp; omega) ?_; intro g2 cap2 w2 hown2 hg2 hB2 hat2 hgb2 hlt2)
        have hB12 : Below W.heap.size W w2 := HO1.out.2.trans (((Below.refl _ w1).alloc (by omega) _).trans hB2)
        have hz2 := hB12.size
        have HO2 := hide (And.intro hown2 (And.intro hB12 (HT.out.2.2.1.below (hB12.mono hzW))))
        clear hown2 hg2 hB2 hat2 hown1' hB12 y0 y1 y2
        go_wp2_with (at_builtin; refine wpList_appendS rfl _ _ _ rfl Try.underlying45 infoPt rfl (by omega) encP_len encP_one rfl HO2.out.1 (cutA (some ⟨bp, op, none⟩) c a 3) (c - a) w.heap.size (l.drop a) (by rw [HT.out.2.2.2.2.2.1]; rfl) HO2.out.2.2 (by rw [HT.out.2.2.2.2.2.1]; unfold maxLen; omega) (by rw [HT.out.2.2.2.2.2.1]; omega) hz2 ?_; intro v3 w3 hown3 hg3 hB3 hat3; obtain ⟨A3, c3, rfl⟩ := hown3.form)
        go_ret
        have hlen : a + 1 + (l.drop a).length = (withP l p).length := by rw [hown3.1, HE.out]; simp
        have hfin : Below w.heap.size w w3 := HT.out.1.trans ((HO2.out.2.1.mono hzW).trans (hB3.mono hzW))
        rw [List.append_assoc, List.singleton_append, ← HE.out] at hown3
        refine ⟨A3, c3, ?_, hown3.sl encP_len (Nat.le_refl _), ?_, hfin⟩
        · rw [← hlen, List.length_drop]; rfl
        · rw [← hlen]; exact hown3.place.1
    · have hd : decide (a < n) = false := decide_eq_false hla
      have hww : withP l p = l.take a ++ (p :: l.drop a) := by
        unfold withP
        rw [← HA.out.1, List.getElem?_eq_none (by rw [← HS.out.2.2.2]; omega), if_neg (by simp)]
      have HE := hide hww
      clear hww
      go_wp2_with fail
      go_quiet (fail)
      obtain ⟨W, hW⟩ : ∃ W, W = wc.drewN nq := ⟨_, rfl⟩
      have hbW : Below w.heap.size w W := by rw [hW]; exact below_drewN HA.out.2.1 _
      have hslW : Sl encP 3 W w.heap.size A l := HS.out.1.below hbW
      have hbxW : Blk W w.heap.size 38 #[.int .i64 p.1, .int .i64 p.2.1, .int .i64 p.2.2] := by rw [hW]; exact HA.out.2.2.2.drewN _
      have hzW := hbW.size
      have hzW1 := hbxW.lt
      have hta : (l.take a).length = a := by rw [List.length_take]; have := HS.out.2.2.2; omega
      have htd : (l.drop a).length = n - a := by rw [List.length_drop, ← HS.out.2.2.2]
      have hrunH : ∀ V : World, (Instr.slice 45 (.slice A n c) none (some (.int .i64 a)) none).run Try.prog V = .ok (.slice A a c) V := fun V => run_cutH Try.underlying45 Try.sizeOf38 ha hc V
      have hrunL : ∀ V : World, (Instr.slice 45 (.slice A n c) (some (.int .i64 a)) none none).run Try.prog V = .ok (.slice (cutA A c a 3) (n - a) (c - a)) V := fun V => run_cut Try.underlying45 Try.sizeOf38 ha V
      have hslT : Sl encP 3 W w.heap.size A (l.take a) := hslW.take8 a
      have hslD : Sl encP 3 W w.heap.size (cutA A c a 3) (l.drop a) := hslW.cut (by rw [← HS.out.2.2.2]; exact ha) (by rw [← HS.out.2.2.2]; exact hc)
      obtain ⟨x0', x1', x2'⟩ := hbxW.three8
      have HT := hide (And.intro hbW (And.intro hslT (And.intro hslD (And.intro hbxW (And.intro hta (And.intro htd hW))))))
      rw [← hW]
      clear hbW hslW hbxW hta htd hslT hslD hW
      go_upto_region 10 with (at_builtin; refine wpList_appendS rfl _ _ _ rfl Try.underlying45 infoPt rfl (by omega) encP_len encP_one rfl (Own.nil (base := W.heap.size)) A c w.heap.size (l.take a) (by rw [HT.out.2.2.2.2.1]; rfl) HT.out.2.1 (by rw [HT.out.2.2.2.2.1]; unfold maxLen; omega) (by rw [HT.out.2.2.2.2.1]; omega) (Nat.le_refl _) ?_; intro v1 w1 hown1 hg1 hB1 hat1; rw [HT.out.2.2.2.2.1, Nat.zero_add, List.nil_append] at hown1; obtain ⟨A1, c1, rfl⟩ := hown1.form)
      have y0 := (hB1.cell (p := ⟨w.heap.size, 0, none⟩) hzW1).trans x0'
      have y1 := (hB1.cell (p := ⟨w.heap.size, 1, none⟩) hzW1).trans x1'
      have y2 := (hB1.cell (p := ⟨w.heap.size, 2, none⟩) hzW1).trans x2'
      have HO1 := hide (And.intro hown1 hB1)
      have hz1 := hB1.size
      have hown1' := hown1.alloc (.cells #[.int .i64 p.1, .int .i64 p.2.1, .int .i64 p.2.2] 38)
      clear hown1 hg1 hB1 hat1 x0' x1' x2'
      go_upto_region 11 with (at_builtin; refine wpList_append1 rfl _ _ _ rfl Try.underlying45 infoPt rfl (by omega) encP_len encP_one rfl hown1' w1.heap.size 1 p rfl (Blk.new _ _ _) (by unfold maxLen; omega) (by omega) (by simp; omega) ?_; intro g2 cap2 w2 hown2 hg2 hB2 hat2 hgb2 hlt2)
      have hB12 : Below W.heap.size W w2 := HO1.out.2.trans (((Below.refl _ w1).alloc (by omega) _).trans hB2)
      have hz2 := hB12.size
      have HO2 := hide (And.intro hown2 (And.intro hB12 (HT.out.2.2.1.below (hB12.mono hzW))))
      clear hown2 hg2 hB2 hat2 hown1' hB12 y0 y1 y2
      go_wp2_with (at_builtin; refine wpList_appendS rfl _ _ _ rfl Try.underlying45 infoPt rfl (by omega) encP_len encP_one rfl HO2.out.1 (cutA A c a 3) (c - a) w.heap.size (l.drop a) (by rw [HT.out.2.2.2.2.2.1]; rfl) HO2.out.2.2 (by rw [HT.out.2.2.2.2.2.1]; unfold maxLen; omega) (by rw [HT.out.2.2.2.2.2.1]; omega) hz2 ?_; intro v3 w3 hown3 hg3 hB3 hat3; obtain ⟨A3, c3, rfl⟩ := hown3.form)
      go_ret
      have hlen : a + 1 + (l.drop a).length = (withP l p).length := by rw [hown3.1, HE.out]; simp
      have hfin : Below w.heap.size w w3 := HT.out.1.trans ((HO2.out.2.1.mono hzW).trans (hB3.mono hzW))
      rw [List.append_assoc, List.singleton_append, ← HE.out] at hown3
      refine ⟨A3, c3, ?_, hown3.sl encP_len (Nat.le_refl _), ?_, hfin⟩
      · rw [← hlen, List.length_drop]; rfl
      · rw [← hlen]; exact hown3.place.1
end Go.Proofs.Ytfljcgehhnmamaa
/- ref04.Corners. -/
namespace Go.Proofs.Ytfljcgehhnmamaa
open Go.RowKit Go.Sort
def corN (l : List Pt) (t : Tri) (j : Nat) : List Pt := if j = 0 then l else if j = 1 then withP l t.1 else if j = 2 then withP (withP l t.1) t.2.1 else withP (withP (withP l t.1) t.2.1) t.2.2
theorem corN_succ (l : List Pt) (t : Tri) {j : Nat} (hj : j < 3) : withP (corN l t j) (corner t j) = corN l t (j + 1) := by
  have hc : j = 0 ∨ j = 1 ∨ j = 2 := by omega
  rcases hc with rfl | rfl | rfl <;> rfl
/-- The corners of triangles, each once, in order. -/
def cornersP (ts : List Tri) : List Pt := ts.foldl (fun l t => corN l t 3) []
theorem cornersP_snoc (ts : List Tri) (k : Nat) (t : Tri) (h : ts[k]? = some t) : cornersP (ts.take (k + 1)) = corN (cornersP (ts.take k)) t 3 := by
  unfold cornersP
  rw [List.take_add_one, h, Option.toList_some, List.foldl_append]
  rfl
theorem corner_fits {t : Tri} (h : fitsT t) (j : Nat) : fitsP (corner t j) := by
  unfold corner
  split
  · exact h.1
  · split
    · exact h.2.1
    · exact h.2.2
theorem CellsT.corner8 {w : World} {b o : Nat} {t : Tri} (h : CellsT w b o t) {j : Nat} (hj : j < 3) :
    w.cell? ⟨b, o + j * 3, none⟩ = some (.int .i64 (corner t j).1) ∧ w.cell? ⟨b, o + j * 3 + 1, none⟩ = some (.int .i64 (corner t j).2.1) ∧ w.cell? ⟨b, o + j * 3 + 2, none⟩ = some (.int .i64 (corner t j).2.2) := by
  obtain ⟨h0, h1, h2, h3, h4, h5, h6, h7, h8⟩ := h
  have hc : j = 0 ∨ j = 1 ∨ j = 2 := by omega
  rcases hc with rfl | rfl | rfl
  · exact ⟨h0, h1, h2⟩
  · exact ⟨h3, h4, h5⟩
  · exact ⟨h6, h7, h8⟩
set_option maxRecDepth 100000 in
set_option maxHeartbeats 8000000 in
theorem corners_any (A : Option Addr) (c : Nat) (ts : List Tri) (w : World) (hs : Sl encT 9 w w.heap.size A ts) (hl : ts.length ≤ 1073741824) (hf : ∀ t ∈ ts, fitsT t) :
    Calls Try.prog 21 #[.slice A ts.length c] w fun e w' => ∃ A' c', e = .returned (.slice A' (cornersP ts).length c') ∧ Sl encP 3 w' w'.heap.size A' (cornersP ts) ∧ (cornersP ts).length ≤ c' ∧ Below w.heap.size w w' ∧ ∀ p ∈ cornersP ts, fitsP p := by
  obtain ⟨n, hn⟩ : ∃ n, n = ts.length := ⟨_, rfl⟩
  rw [← hn] at hl ⊢
  have HS := hide (And.intro hs (And.intro hf hn))
  clear hs hf hn
  go_enter Try.func21, Try.ntmps21
  go_wp2
  go_loopw [3, 4] (fun v iv wr => ∃ (k : Nat) (A' : Option Addr) (l c' : Nat), k ≤ n ∧ iv = .int .i64 k ∧ v = .slice A' l c' ∧ l = (cornersP (ts.take k)).length ∧ l ≤ 3 * k ∧ Sl encP 3 wr wr.heap.size A' (cornersP (ts.take k)) ∧ l ≤ c' ∧ (∀ p ∈ cornersP (ts.take k), fitsP p) ∧ Below w.heap.size w wr) (fun _ iv _ => n - (intOf iv).toNat)
  case atStart => exact ⟨0, none, 0, 0, by omega, rfl, rfl, rfl, by omega, .inl ⟨rfl, rfl⟩, Nat.le_refl _, fun p hp => absurd hp (by simp [cornersP]), Below.refl _ w⟩
  case round =>
    obtain ⟨k, A1, l1, c1, hk, rfl, rfl, hl1, hl3, hs1, hc1, hf1, hB⟩ := hrel
    have hz := hB.size
    by_cases hlt : k < n
    · obtain ⟨t, ht⟩ : ∃ t, ts[k]? = some t := ⟨_, List.getElem?_eq_getElem (by rw [← HS.out.2.2]; exact hlt)⟩
      have i1 : (k : Int) < (n : Int) := by omega
      have HK := hide (And.intro hl1 (And.intro hs1 (And.intro hf1 (And.intro hB (And.intro ht (HS.out.2.1 t (List.mem_of_getElem? ht)))))))
      clear hl1 hs1 hf1 hB ht
      go_wp2
      go_loopw [3, 5] (fun v jv wx => ∃ (j : Nat) (A' : Option Addr) (l c' : Nat), j ≤ 3 ∧ jv = .int .i64 j ∧ v = .slice A' l c' ∧ l = (corN (cornersP (ts.take k)) t j).length ∧ l ≤ 3 * k + j ∧ Sl encP 3 wx wx.heap.size A' (corN (cornersP (ts.take k)) t j) ∧ l ≤ c' ∧ (∀ p ∈ corN (cornersP (ts.take k)) t j, fitsP p) ∧ Below w.heap.size w wx) (fun _ jv _ => 3 - (intOf jv).toNat)
      case atStart => exact ⟨0, A1, l1, c1, by omega, rfl, rfl, HK.out.1, by omega, HK.out.2.1, hc1, HK.out.2.2.1, HK.out.2.2.2.1⟩
      case round =>
        obtain ⟨j, A2, l2, c2, hj, rfl, rfl, hl2, hl4, hs2, hc2, hf2, hB2⟩ := hrel
        have hz2 := hB2.size
        by_cases hlt2 : j < 3
        · have i2 : (j : Int) < 3 := by omega
          obtain ⟨b, o, hA, hb, hct⟩ := (HS.out.1.below hB2).tri HK.out.2.2.2.2.1
          subst hA
          obtain ⟨g0, g1, g2⟩ := hct.corner8 hlt2
          have hfp := corner_fits HK.out.2.2.2.2.2 j
          have hcal := with_any A2 c2 (corN (cornersP (ts.take k)) t j) (corner t j) wr hs2 (by omega) (by omega) hfp hf2
          rw [corN_succ _ _ hlt2, ← hl2] at hcal
          have hwl := withP_length (corN (cornersP (ts.take k)) t j) (corner t j)
          rw [corN_succ _ _ hlt2, ← hl2] at hwl
          have hfn : ∀ p ∈ corN (cornersP (ts.take k)) t (j + 1), fitsP p := fun p hp => by
            rw [← corN_succ _ _ hlt2] at hp
            rcases withP_mem hp with h | h
            · exact hf2 p h
            · rw [h]; exact hfp
          have HJ := hide (And.intro hcal (And.intro hwl (And.intro hfn hB2)))
          clear hct hcal hwl hfn hs2 hf2 hB2 hl2 hfp
          go_wp2_with fail
          refine HJ.out.1.mono ?_
          rintro e w3 ⟨A3, c3, rfl, hs3, hc3, hB3⟩
          obtain ⟨l3, hl3'⟩ : ∃ l3, l3 = (corN (cornersP (ts.take k)) t (j + 1)).length := ⟨_, rfl⟩
          rw [← hl3'] at hc3 ⊢
          have HR := hide (And.intro hs3 (And.intro hl3' hB3))
          clear hs3 hl3' hB3 g0 g1 g2
          go_wp2_with fail
          go_roundw
          case rel => exact ⟨j + 1, A3, l3, c3, by omega, by go_num, rfl, HR.out.2.1, by have := HJ.out.2.1; have := HR.out.2.1; omega, HR.out.1, hc3, HJ.out.2.2.1, HJ.out.2.2.2.trans (HR.out.2.2.mono hz2)⟩
          case measure => simp [intOf]; omega
        · have hj3 : j = 3 := by omega
          subst hj3
          have HJ := hide (And.intro hl2 (And.intro hs2 (And.intro hf2 hB2)))
          clear hl2 hs2 hf2 hB2
          go_wp2
          go_roundw
          case rel => exact ⟨k + 1, A2, l2, c2, by omega, by go_num, rfl, by rw [cornersP_snoc _ _ _ HK.out.2.2.2.2.1]; exact HJ.out.1, by omega, by rw [cornersP_snoc _ _ _ HK.out.2.2.2.2.1]; exact HJ.out.2.1, hc2, by rw [cornersP_snoc _ _ _ HK.out.2.2.2.2.1]; exact HJ.out.2.2.1, HJ.out.2.2.2⟩
          case measure => simp [intOf]; omega
    · have hke : k = ts.length := by rw [← HS.out.2.2]; omega
      rw [hke, List.take_length] at hl1 hs1 hf1
      have hkn : n = k := by omega
      have HE := hide (And.intro hl1 (And.intro hs1 (And.intro hf1 hB)))
      clear hl1 hs1 hf1 hB hke
      subst hkn
      go_wp2
      go_ret
      exact ⟨A1, c1, by rw [← HE.out.1]; rfl, HE.out.2.1, by rw [← HE.out.1]; exact hc1, HE.out.2.2.2, HE.out.2.2.1⟩
end Go.Proofs.Ytfljcgehhnmamaa
/- ref04.Edges, count, lessEdge. -/
namespace Go.Proofs.Ytfljcgehhnmamaa
open Go.RowKit Go.Sort
abbrev Ed := Pt × Pt
def encE (e : Ed) : List Value := [.int .i64 e.1.1, .int .i64 e.1.2.1, .int .i64 e.1.2.2, .int .i64 e.2.1, .int .i64 e.2.2.1, .int .i64 e.2.2.2]
abbrev vE (e : Ed) : Value := .agg #[.int .i64 e.1.1, .int .i64 e.1.2.1, .int .i64 e.1.2.2, .int .i64 e.2.1, .int .i64 e.2.2.1, .int .i64 e.2.2.2]
theorem encE_len (e : Ed) : (encE e).length = 6 := rfl
theorem encE_one (e : Ed) : ∀ u ∈ encE e, u.oneCell' = true := by
  intro u hu
  simp only [encE, List.mem_cons, List.not_mem_nil, or_false] at hu
  rcases hu with rfl | rfl | rfl | rfl | rfl | rfl <;> rfl
theorem infoE : (Try.prog.info? 99).map (fun i => (i.zero, i.size, i.bytes)) = some (some (.agg #[.int .i64 0, .int .i64 0, .int .i64 0, .int .i64 0, .int .i64 0, .int .i64 0]), 6, 48) := by kernel_rfl
def fitsE (e : Ed) : Prop := fitsP e.1 ∧ fitsP e.2
set_option maxRecDepth 100000 in
theorem litsE (e : Ed) (he : fitsE e) : Try.prog.keyLits 3 99 (encE e) = some [.int .i64 e.1.1, .int .i64 e.1.2.1, .int .i64 e.1.2.2, .int .i64 e.2.1, .int .i64 e.2.2.1, .int .i64 e.2.2.2] := by
  have c : Try.prog.cellsOf 38 = 3 := by kernel_rfl
  have c9 : Try.prog.cellsOf 99 = 6 := by kernel_rfl
  have h0 := litsP e.1 he.1
  have h1 := litsP e.2 he.2
  unfold Program.keyLits
  simp [encE, Try.underlying99, c, c9, List.range_succ, h0, h1]
set_option maxRecDepth 100000 in
theorem eqE (a b : Ed) (ha : fitsE a) (hb : fitsE b) (w : World) : (Op.equalIn 10000 99 (vE a) (vE b)).run Try.prog w = .ok (decide (a = b)) w := by
  have c : Try.prog.cellsOf 99 = 6 := by kernel_rfl
  obtain ⟨r, hr, he⟩ := run_equalIn_deep (P := Try.prog) 9997 3 99 (by kernel_rfl) w 3 3 (vE a) (vE b) _ _ (by simp [Value.formed, Try.underlying99, c]) (by simp [Value.formed, Try.underlying99, c]) (litsE a ha) (litsE b hb)
  rw [hr]
  have : r = decide (a = b) := by
    rw [Bool.eq_iff_iff, he]
    obtain ⟨⟨a1, a2, a3⟩, a4, a5, a6⟩ := a
    obtain ⟨⟨b1, b2, b3⟩, b4, b5, b6⟩ := b
    simp [and_assoc]
  rw [this]
section
variable {α : Type} {enc : α → List Value} {k B : Nat}
theorem Sl.of_blk (hk : ∀ x, (enc x).length = k) {w : World} {g : Nat} {t : TypeId} {ys : List α} (h : Blk w g t (ys.flatMap enc).toArray) (hg : g < B) : Sl enc k w B (some ⟨g, 0, none⟩) ys := by
  refine .inr ⟨g, 0, rfl, hg, fun i x hi j u hu => ?_⟩
  rw [show 0 + i * k + j = i * k + j by omega, h.cell]
  have := flat_get hk ys i x hi j u hu
  simpa using this
end
/-- The edges of a triangle, of triangles. -/
def edges3 (t : Tri) : List Ed := [(t.1, t.2.1), (t.2.1, t.2.2), (t.2.2, t.1)]
def edgesP (ts : List Tri) : List Ed := ts.flatMap edges3
theorem edgesP_length (ts : List Tri) : (edgesP ts).length = 3 * ts.length := by
  unfold edgesP
  induction ts with
  | nil => rfl
  | cons t ts ih => rw [List.flatMap_cons, List.length_append, ih, List.length_cons]; simp [edges3]; omega
theorem edgesP_snoc (ts : List Tri) (k : Nat) (t : Tri) (h : ts[k]? = some t) : edgesP (ts.take (k + 1)) = edgesP (ts.take k) ++ edges3 t := by
  unfold edgesP
  rw [List.take_add_one, h, Option.toList_some, List.flatMap_append, List.flatMap_singleton]
theorem edgesP_fits {ts : List Tri} (h : ∀ t ∈ ts, fitsT t) : ∀ e ∈ edgesP ts, fitsE e := by
  intro e he
  obtain ⟨t, ht, he⟩ := List.mem_flatMap.1 he
  have hf := h t ht
  simp only [edges3, List.mem_cons, List.not_mem_nil, or_false] at he
  rcases he with rfl | rfl | rfl
  · exact ⟨hf.1, hf.2.1⟩
  · exact ⟨hf.2.1, hf.2.2⟩
  · exact ⟨hf.2.2, hf.1⟩
set_option maxRecDepth 100000 in
set_option maxHeartbeats 8000000 in
theorem edges_any (A : Option Addr) (c : Nat) (ts : List Tri) (w : World) (hs : Sl encT 9 w w.heap.size A ts) (hl : ts.length ≤ 1073741824) :
    Calls Try.prog 53 #[.slice A ts.length c] w fun e w' => ∃ v, e = .returned v ∧ Own encE 6 99 w' w.heap.size v (edgesP ts).length (edgesP ts) ∧ Below w.heap.size w w' := by
  obtain ⟨n, hn⟩ : ∃ n, n = ts.length := ⟨_, rfl⟩
  rw [← hn] at hl ⊢
  have HS := hide (And.intro hs hn)
  clear hs hn
  go_enter Try.func53, Try.ntmps53
  go_wp2
  go_loopw [3, 4] (fun v iv wr => ∃ k : Nat, k ≤ n ∧ iv = .int .i64 k ∧ Own encE 6 99 wr w.heap.size v (3 * k) (edgesP (ts.take k)) ∧ Below w.heap.size w wr) (fun _ iv _ => n - (intOf iv).toNat)
  case atStart => exact ⟨0, by omega, rfl, Own.nil, Below.refl _ w⟩
  case round =>
    obtain ⟨k, hk, rfl, hown, hB⟩ := hrel
    obtain ⟨A1, c1, rfl⟩ := hown.form
    have hz := hB.size
    by_cases hlt : k < n
    · obtain ⟨t, ht⟩ : ∃ t, ts[k]? = some t := ⟨_, List.getElem?_eq_getElem (by rw [← HS.out.2]; exact hlt)⟩
      have i1 : (k : Int) < (n : Int) := by omega
      obtain ⟨b, o, hA, hb, g0, g1, g2, g3, g4, g5, g6, g7, g8⟩ := (HS.out.1.below hB).tri ht
      subst hA
      have HK := hide (And.intro hown (And.intro hB ht))
      have hown1 := (hown.alloc (.cells (encT t).toArray 40)).alloc (.cells (edges3 t |>.flatMap encE).toArray 99)
      clear hown hB ht
      go_wp2_with (at_builtin; refine wpList_appendS rfl _ _ _ rfl Try.underlying96 infoE rfl (by omega) encE_len encE_one rfl hown1 (some ⟨wr.heap.size + 1, 0, none⟩) 3 (wr.heap.size + 2) (edges3 t) rfl (Sl.of_blk encE_len (Blk.new' _ _ _ _ (by simp)) (by omega)) (by unfold maxLen; simp [edges3]; omega) (by simp [edges3]; omega) (by simp; omega) ?_; intro v2 w2 hown2 hg2 hB2 hat2)
      go_roundw
      case rel => exact ⟨k + 1, by omega, by go_num, by rw [edgesP_snoc _ _ _ HK.out.2.2]; exact hown2, ((HK.out.2.1.alloc (by omega) _).alloc (by simp; omega) _).trans hB2⟩
      case measure => simp [intOf]; omega
    · have hke : k = ts.length := by rw [← HS.out.2]; omega
      have hle := edgesP_length ts
      rw [hke, List.take_length, ← hle] at hown
      have hkn : n = k := by omega
      have HE := hide (And.intro hown (And.intro hB hle))
      clear hown hB hle hke
      subst hkn
      go_wp2
      go_ret
      exact ⟨_, by rw [show 3 * n = (edgesP ts).length by rw [HE.out.2.2, ← HS.out.2]]; rfl, HE.out.1, HE.out.2.1⟩
end Go.Proofs.Ytfljcgehhnmamaa
/- ref04.count, lessEdge. -/
namespace Go.Proofs.Ytfljcgehhnmamaa
open Go.RowKit Go.Sort
theorem Sl.ed {w : World} {B b o : Nat} {es : List Ed} (h : Sl encE 6 w B (some ⟨b, o, none⟩) es) {i : Nat} {e : Ed} (hi : es[i]? = some e) :
    w.cell? ⟨b, o + i * 6, none⟩ = some (.int .i64 e.1.1) ∧ w.cell? ⟨b, o + i * 6 + 1, none⟩ = some (.int .i64 e.1.2.1) ∧ w.cell? ⟨b, o + i * 6 + 2, none⟩ = some (.int .i64 e.1.2.2) ∧ w.cell? ⟨b, o + i * 6 + 3, none⟩ = some (.int .i64 e.2.1) ∧ w.cell? ⟨b, o + i * 6 + 4, none⟩ = some (.int .i64 e.2.2.1) ∧ w.cell? ⟨b, o + i * 6 + 5, none⟩ = some (.int .i64 e.2.2.2) := by
  obtain ⟨b', o', ha, _, hc⟩ := h.at hi
  cases ha
  exact ⟨hc 0 _ rfl, hc 1 _ rfl, hc 2 _ rfl, hc 3 _ rfl, hc 4 _ rfl, hc 5 _ rfl⟩
theorem Blk.six {w : World} {g : Nat} {t : TypeId} {e : Ed} (h : Blk w g t (encE e).toArray) :
    w.cell? ⟨g, 0, none⟩ = some (.int .i64 e.1.1) ∧ w.cell? ⟨g, 1, none⟩ = some (.int .i64 e.1.2.1) ∧ w.cell? ⟨g, 2, none⟩ = some (.int .i64 e.1.2.2) ∧ w.cell? ⟨g, 3, none⟩ = some (.int .i64 e.2.1) ∧ w.cell? ⟨g, 4, none⟩ = some (.int .i64 e.2.2.1) ∧ w.cell? ⟨g, 5, none⟩ = some (.int .i64 e.2.2.2) :=
  ⟨h.cell 0, h.cell 1, h.cell 2, h.cell 3, h.cell 4, h.cell 5⟩
def cntE (l : List Ed) (e : Ed) : Nat := l.countP fun x => decide (x = e)
theorem cntE_le (l : List Ed) (e : Ed) : cntE l e ≤ l.length := List.countP_le_length
theorem cntE_snoc (l : List Ed) (e x : Ed) (k : Nat) (h : l[k]? = some x) : cntE (l.take (k + 1)) e = cntE (l.take k) e + if x = e then 1 else 0 := by
  unfold cntE
  rw [List.take_add_one, h, Option.toList_some, List.countP_append, List.countP_singleton]
  simp
set_option maxRecDepth 100000 in
set_option maxHeartbeats 8000000 in
theorem count_any (A : Option Addr) (c : Nat) (l : List Ed) (e : Ed) (w : World) (hs : Sl encE 6 w w.heap.size A l) (hl : l.length ≤ 4294967296) (he : fitsE e) (hf : ∀ x ∈ l, fitsE x) :
    Calls Try.prog 54 #[.slice A l.length c, vE e] w fun r w' => r = .returned (.int .i64 (cntE l e : Nat)) ∧ Below w.heap.size w w' := by
  obtain ⟨n, hn⟩ : ∃ n, n = l.length := ⟨_, rfl⟩
  rw [← hn] at hl ⊢
  have HS := hide (And.intro hs (And.intro he (And.intro hf hn)))
  clear hs he hf hn
  go_enter Try.func54, Try.ntmps54
  go_wp2
  obtain ⟨X, hX⟩ : ∃ X, X = w.alloc (.cells #[.int .i64 e.1.1, .int .i64 e.1.2.1, .int .i64 e.1.2.2, .int .i64 e.2.1, .int .i64 e.2.2.1, .int .i64 e.2.2.2] 99) := ⟨_, rfl⟩
  rw [← hX]
  have hBX : Below w.heap.size w X := by rw [hX]; exact (Below.refl _ w).alloc (Nat.le_refl _) _
  have hbx : Blk X w.heap.size 99 (encE e).toArray := by rw [hX]; exact Blk.new _ _ _
  have hzX : X.heap.size = w.heap.size + 1 := by rw [hX]; simp
  have HX := hide (And.intro hBX hbx)
  clear hBX hbx hX
  go_loopw [5, 6] (fun v iv wr => ∃ k q : Nat, k ≤ n ∧ iv = .int .i64 k ∧ v = .int .i64 (cntE (l.take k) e : Nat) ∧ cntE (l.take k) e ≤ k ∧ wr = X.drewN q) (fun _ iv _ => n - (intOf iv).toNat)
  case atStart => exact ⟨0, 0, by omega, rfl, rfl, by simp [cntE], rfl⟩
  case round =>
    obtain ⟨k, q, hk, rfl, rfl, hck, rfl⟩ := hrel
    obtain ⟨m, hm⟩ : ∃ m, m = cntE (l.take k) e := ⟨_, rfl⟩
    rw [← hm] at hck ⊢
    by_cases hlt : k < n
    · obtain ⟨x, hx⟩ : ∃ x, l[k]? = some x := ⟨_, List.getElem?_eq_getElem (by rw [← HS.out.2.2.2]; exact hlt)⟩
      have i1 : (k : Int) < (n : Int) := by omega
      obtain ⟨b, o, hA, hb, _⟩ := HS.out.1.at hx
      subst hA
      have hslX : Sl encE 6 X w.heap.size (some ⟨b, o, none⟩) l := HS.out.1.below HX.out.1
      obtain ⟨g0, g1, g2, g3, g4, g5⟩ := hslX.ed hx
      obtain ⟨y0, y1, y2, y3, y4, y5⟩ := HX.out.2.six
      have heq := eqE x e (HS.out.2.2.1 x (List.mem_of_getElem? hx)) HS.out.2.1
      have hsn := cntE_snoc l e x k hx
      rw [← hm] at hsn
      have HK := hide (And.intro hm (And.intro hx hsn))
      clear hslX hm hx hsn
      by_cases hxe : x = e
      · have hd : decide (x = e) = true := decide_eq_true hxe
        rw [hd] at heq
        have HE := hide hxe
        clear hxe hd
        go_wp2_with fail
        go_quiet (fail)
        go_wp2
        go_roundw
        case rel =>
          have h1 := HK.out.2.2
          rw [if_pos HE.out] at h1
          exact ⟨k + 1, q + nq, by omega, by go_num, by rw [h1]; go_num, by omega, rfl⟩
        case measure => simp [intOf]; omega
      · have hd : decide (x = e) = false := decide_eq_false hxe
        rw [hd] at heq
        have HE := hide hxe
        clear hxe hd
        go_wp2_with fail
        go_quiet (fail)
        go_wp2
        go_roundw
        case rel =>
          have h1 := HK.out.2.2
          rw [if_neg HE.out] at h1
          exact ⟨k + 1, q + nq, by omega, by go_num, by rw [h1]; rfl, by omega, rfl⟩
        case measure => simp [intOf]; omega
    · have hke : k = l.length := by rw [← HS.out.2.2.2]; omega
      rw [hke, List.take_length] at hm
      have hkn : n = k := by omega
      have HE := hide hm
      clear hm hke
      subst hkn
      go_wp2
      go_ret
      exact ⟨by rw [← HE.out]; rfl, below_drewN HX.out.1 _⟩
def ltE (a b : Ed) : Bool := if a.1 = b.1 then ltP a.2 b.2 else ltP a.1 b.1
set_option maxRecDepth 100000 in
set_option maxHeartbeats 8000000 in
theorem lessEdge_any (a b : Ed) (w : World) (ha : fitsE a) (hb : fitsE b) :
    Calls Try.prog 80 #[vE a, vE b] w fun r w' => r = .returned (.bool (ltE a b)) ∧ Lay w w' := by
  have heq := eqP a.1 b.1 ha.1 hb.1
  have hlt : ltE a b = if a.1 = b.1 then ltP a.2 b.2 else ltP a.1 b.1 := rfl
  clear ha hb
  by_cases he : a.1 = b.1
  · have hd : decide (a.1 = b.1) = true := decide_eq_true he
    rw [hd] at heq
    rw [if_pos he] at hlt
    rw [hlt]
    clear he hd hlt
    go_enter Try.func80, Try.ntmps80
    go_wp2_with (go_at_call 64; refine (rless_any a.2 b.2 _).mono ?_; rintro e w3 ⟨rfl, hL⟩)
    go_ret
    exact ⟨rfl, (((Lay.refl _).alloc _).alloc _).trans hL⟩
  · have hd : decide (a.1 = b.1) = false := decide_eq_false he
    rw [hd] at heq
    rw [if_neg he] at hlt
    rw [hlt]
    clear he hd hlt
    go_enter Try.func80, Try.ntmps80
    go_wp2_with (go_at_call 64; refine (rless_any a.1 b.1 _).mono ?_; rintro e w3 ⟨rfl, hL⟩)
    go_ret
    exact ⟨rfl, (((Lay.refl _).alloc _).alloc _).trans hL⟩
end Go.Proofs.Ytfljcgehhnmamaa
/- ref04.Border. -/
namespace Go.Proofs.Ytfljcgehhnmamaa
open Go.RowKit Go.Sort
def atE (l : List Ed) (e : Ed) : Nat := (l.takeWhile fun x => ltE x e).length
def insE (l : List Ed) (e : Ed) : List Ed := l.take (atE l e) ++ (e :: l.drop (atE l e))
theorem atE_eq {l : List Ed} {p : Ed} {a : Nat} (ha : a ≤ l.length) (hlo : ∀ j q, j < a → l[j]? = some q → ltE q p = true) (hhi : ∀ q, l[a]? = some q → ltE q p = false) : a = atE l p := by
  unfold atE
  induction l generalizing a with
  | nil => simpa using ha
  | cons x l ih =>
    cases a with
    | zero =>
      have := hhi x rfl
      simp [this]
    | succ a =>
      have h0 := hlo 0 x (by omega) rfl
      rw [List.takeWhile_cons, h0, if_pos rfl, List.length_cons]
      rw [← ih (a := a) (by simpa using ha) (fun j q hj hq => hlo (j + 1) q (by omega) (by simpa using hq)) (fun q hq => hhi q (by simpa using hq))]
def swapE (e : Ed) : Ed := (e.2, e.1)
def bordS (all out : List Ed) (e : Ed) : List Ed := if 0 < cntE all (swapE e) ∨ 0 < cntE out e then out else insE out e
def bordP (all : List Ed) : List Ed := all.foldl (bordS all) []
def borderP (ts : List Tri) : List Ed := bordP (edgesP ts)
theorem insE_length (l : List Ed) (e : Ed) : (insE l e).length = l.length + 1 := by
  unfold insE
  rw [List.length_append, List.length_cons, List.length_take, List.length_drop]
  have : atE l e ≤ l.length := by unfold atE; exact (List.takeWhile_prefix _).length_le
  omega
theorem insE_mem {l : List Ed} {e x : Ed} (h : x ∈ insE l e) : x ∈ l ∨ x = e := by
  unfold insE at h
  rcases List.mem_append.1 h with h | h
  · exact .inl (List.mem_of_mem_take h)
  · rcases List.mem_cons.1 h with h | h
    · exact .inr h
    · exact .inl (List.mem_of_mem_drop h)
theorem bord_snoc (all : List Ed) (k : Nat) (e : Ed) (h : all[k]? = some e) : (all.take (k + 1)).foldl (bordS all) [] = bordS all ((all.take k).foldl (bordS all) []) e := by
  rw [List.take_add_one, h, Option.toList_some, List.foldl_append]
  rfl
/-- What the outer loop has. -/
structure BdS (w0 : Nat) (w wr : World) (ab : Nat) (all out : List Ed) (A' : Option Addr) (lo c' : Nat) : Prop where
  len : lo = out.length
  sl : Sl encE 6 wr wr.heap.size A' out
  cap : lo ≤ c'
  fit : ∀ x ∈ out, fitsE x
  bel : Below w0 w wr
  big : ab ≤ wr.heap.size
theorem BdS.step {w0 : Nat} {w wr w2 : World} {ab : Nat} {all out : List Ed} {A' : Option Addr} {lo c' : Nat} (h : BdS w0 w wr ab all out A' lo c') (hB : Below wr.heap.size wr w2) (h0 : w0 ≤ ab := by omega) : BdS w0 w w2 ab all out A' lo c' :=
  ⟨h.len, (h.sl.below hB).more hB.size, h.cap, h.fit, h.bel.trans (hB.mono (by have := h.big; omega)), by have := h.big; have := hB.size; omega⟩
set_option maxRecDepth 100000 in
set_option maxHeartbeats 8000000 in
theorem border_any (A : Option Addr) (c : Nat) (ts : List Tri) (w : World) (hs : Sl encT 9 w w.heap.size A ts) (hl : ts.length ≤ 1073741824) (hf : ∀ t ∈ ts, fitsT t) :
    Calls Try.prog 55 #[.slice A ts.length c] w fun e w' => ∃ A' c', e = .returned (.slice A' (borderP ts).length c') ∧ Sl encE 6 w' w'.heap.size A' (borderP ts) ∧ (borderP ts).length ≤ c' ∧ Below w.heap.size w w' := by
  have hed := edges_any A c ts w hs hl
  have hfe := edgesP_fits hf
  have hle := edgesP_length ts
  obtain ⟨all, hall⟩ : ∃ all, all = edgesP ts := ⟨_, rfl⟩
  have hbp : borderP ts = all.foldl (bordS all) [] := by unfold borderP bordP; rw [hall]
  rw [← hall] at hed hfe hle
  obtain ⟨B, hB⟩ : ∃ B, B = borderP ts := ⟨_, rfl⟩
  rw [← hB] at hbp ⊢
  obtain ⟨n, hn⟩ : ∃ n, n = all.length := ⟨_, rfl⟩
  rw [← hn] at hle hed
  have hnb : n ≤ 3221225472 := by omega
  obtain ⟨tl, htl⟩ : ∃ tl, tl = ts.length := ⟨_, rfl⟩
  rw [← htl] at hed ⊢
  have HS := hide (And.intro hed (And.intro hfe (And.intro hbp hn)))
  clear hs hf hed hfe hbp hall hB hle hn htl hl
  go_enter Try.func55, Try.ntmps55
  go_wp2_with fail
  refine HS.out.1.mono ?_
  rintro e w1 ⟨v1, rfl, hown1, hB1⟩
  obtain ⟨A1, c1, rfl⟩ := hown1.form
  have hz1 := hB1.size
  have H1 := hide (And.intro (hown1.sl encE_len (Nat.le_refl _)) hB1)
  clear hown1 hB1
  go_wp2
  go_loopw [4, 5] (fun v iv wr => ∃ (k : Nat) (A' : Option Addr) (lo c' : Nat), k ≤ n ∧ iv = .int .i64 k ∧ v = .slice A' lo c' ∧ lo ≤ k ∧ BdS w1.heap.size w1 wr w1.heap.size all ((all.take k).foldl (bordS all) []) A' lo c') (fun _ iv _ => n - (intOf iv).toNat)
  case atStart => exact ⟨0, none, 0, 0, by omega, rfl, rfl, by omega, ⟨rfl, .inl ⟨rfl, rfl⟩, Nat.le_refl _, fun x hx => absurd hx (by simp), Below.refl _ w1, Nat.le_refl _⟩⟩
  case round =>
    obtain ⟨V0, rfl⟩ : ∃ V0, V0 = wr := ⟨_, rfl⟩
    obtain ⟨k, A2, lo, c2, hk, rfl, rfl, hlo, hI⟩ := hrel
    obtain ⟨out, hout⟩ : ∃ out, out = (all.take k).foldl (bordS all) [] := ⟨_, rfl⟩
    rw [← hout] at hI
    have hzr := hI.big
    by_cases hlt : k < n
    · obtain ⟨x, hx⟩ : ∃ x, all[k]? = some x := ⟨_, List.getElem?_eq_getElem (by rw [← HS.out.2.2.2]; exact hlt)⟩
      have i1 : (k : Int) < (n : Int) := by omega
      have hfx := HS.out.2.1 x (List.mem_of_getElem? hx)
      have hsn := bord_snoc all k x hx
      rw [← hout] at hsn
      have hsa : Sl encE 6 V0 w1.heap.size A1 all := H1.out.1.below hI.bel
      obtain ⟨b, o, hA, hb, _⟩ := hsa.at hx
      subst hA
      obtain ⟨g0, g1, g2, g3, g4, g5⟩ := hsa.ed hx
      obtain ⟨X, hX⟩ : ∃ X, X = V0.alloc (.cells #[.int .i64 x.1.1, .int .i64 x.1.2.1, .int .i64 x.1.2.2, .int .i64 x.2.1, .int .i64 x.2.2.1, .int .i64 x.2.2.2] 99) := ⟨_, rfl⟩
      have hBX : Below V0.heap.size V0 X := by rw [hX]; exact (Below.refl _ V0).alloc (Nat.le_refl _) _
      have hbx : Blk X V0.heap.size 99 (encE x).toArray := by rw [hX]; exact Blk.new _ _ _
      have hzX : X.heap.size = V0.heap.size + 1 := by rw [hX]; simp
      have hc1 := count_any (some ⟨b, o, none⟩) c1 all (swapE x) X ((hsa.below (hBX.mono hzr)).more (by omega)) (by rw [← HS.out.2.2.2]; omega) ⟨hfx.2, hfx.1⟩ HS.out.2.1
      have hc2 := fun W (hW : Below X.heap.size X W) => count_any A2 c2 out x W (((hI.sl.below hBX).below (hW.mono (by omega))).more (by have := hW.size; omega)) (by rw [← hI.len]; omega) hfx hI.fit
      rw [← HS.out.2.2.2] at hc1
      rw [← hI.len] at hc2
      obtain ⟨m1, hm1⟩ : ∃ m, m = cntE all (swapE x) := ⟨_, rfl⟩
      obtain ⟨m2, hm2⟩ : ∃ m, m = cntE out x := ⟨_, rfl⟩
      rw [← hm1] at hc1
      rw [← hm2] at hc2
      have hbs : bordS all out x = if 0 < m1 ∨ 0 < m2 then out else insE out x := by unfold bordS; rw [← hm1, ← hm2]
      have HK := hide (And.intro hI (And.intro hc1 (And.intro hc2 (And.intro (hsn.trans hbs) (And.intro hBX (And.intro hbx (And.intro hX hfx)))))))
      clear hI hc1 hc2 hsn hsa hbs hBX hbx hfx hx hm1 hm2 hX
      go_wp2_with fail
      rw [← HK.out.2.2.2.2.2.2.1]
      obtain ⟨y0, y1, y2, y3, y4, y5⟩ := HK.out.2.2.2.2.2.1.six
      refine HK.out.2.1.mono ?_
      rintro e w2 ⟨rfl, hB2⟩
      have hz2 := hB2.size
      obtain ⟨u0, u1, u2, u3, u4, u5⟩ := (HK.out.2.2.2.2.2.1.below hB2 (by omega)).six
      have HB2 := hide hB2
      clear hB2 y0 y1 y2 y3 y4 y5 g0 g1 g2 g3 g4 g5
      by_cases h1 : 0 < m1
      · have j1 : (0 : Int) < (m1 : Int) := by omega
        go_wp2
        go_roundw
        case rel =>
          refine ⟨k + 1, A2, lo, c2, by omega, by go_num, rfl, by omega, ?_⟩
          have he := HK.out.2.2.2.1
          rw [if_pos (.inl h1)] at he
          rw [he]
          exact HK.out.1.step (HK.out.2.2.2.2.1.trans (HB2.out.mono (by omega)))
        case measure => simp [intOf]; omega
      · have h10 : m1 = 0 := by omega
        subst h10
        go_wp2_with fail
        refine (HK.out.2.2.1 _ HB2.out).mono ?_
        rintro e w3 ⟨rfl, hB3⟩
        have hz3 := hB3.size
        have hB23 : Below V0.heap.size V0 w3 := HK.out.2.2.2.2.1.trans ((HB2.out.mono (by omega)).trans (hB3.mono (by omega)))
        have hb3 := (HK.out.2.2.2.2.2.1.below HB2.out (by omega)).below hB3 (by omega)
        obtain ⟨x0, x1, x2, x3, x4, x5⟩ := hb3.six
        have HB3 := hide (And.intro hB23 hb3)
        clear hB3 hB23 hb3 u0 u1 u2 u3 u4 u5
        by_cases h2 : 0 < m2
        · have j2 : (0 : Int) < (m2 : Int) := by omega
          go_wp2
          go_roundw
          case rel =>
            refine ⟨k + 1, A2, lo, c2, by omega, by go_num, rfl, by omega, ?_⟩
            have he := HK.out.2.2.2.1
            rw [if_pos (.inr h2)] at he
            rw [he]
            exact HK.out.1.step HB3.out.1
          case measure => simp [intOf]; omega
        · have h20 : m2 = 0 := by omega
          subst h20
          have hI3 := HK.out.1.step HB3.out.1
          have he := HK.out.2.2.2.1
          rw [if_neg (by omega)] at he
          have H3 := hide (And.intro hI3 he)
          clear hI3 he h1 h2
          go_upto_block 2 with fail
          go_cut [7] (fun a wx => ∃ a' : Nat, a = .int .i64 a' ∧ a' ≤ lo ∧ (∀ j q, j < a' → out[j]? = some q → ltE q x = true) ∧ (∀ q, out[a']? = some q → ltE q x = false) ∧ RB w3 wx)
          case first =>
            go_wp2_with fail
            go_loopw [7] (fun a wx => ∃ a' : Nat, a = .int .i64 a' ∧ a' ≤ lo ∧ (∀ j q, j < a' → out[j]? = some q → ltE q x = true) ∧ RB w3 wx) (fun a _ => lo - (intOf a).toNat)
            case atStart => exact ⟨0, rfl, Nat.zero_le _, fun j q h => absurd h (by omega), RB.refl _⟩
            case round =>
              obtain ⟨a, rfl, ha, hlt3, hR⟩ := hrel
              have hszR := hR.size
              have hbx := HB3.out.2.below hR HB3.out.2.lt
              by_cases hla : a < lo
              · obtain ⟨q, hq⟩ : ∃ q, out[a]? = some q := ⟨_, List.getElem?_eq_getElem (by rw [← H3.out.1.len]; exact hla)⟩
                have hfq := H3.out.1.fit q (List.mem_of_getElem? hq)
                obtain ⟨bp, op, hAp, hbp, _⟩ := (H3.out.1.sl.below hR).at hq
                subst hAp
                obtain ⟨k0, k1, k2, k3, k4, k5⟩ := (H3.out.1.sl.below hR).ed hq
                obtain ⟨x0, x1, x2, x3, x4, x5⟩ := hbx.six
                have hbpR : bp < wr.heap.size := by omega
                have hbxR := hbx.lt
                have i2 : (a : Int) < (lo : Int) := by omega
                have HL := hide (And.intro hlt3 (And.intro hR hq))
                clear hlt3 hR hq hbx
                cases hless : ltE q x
                · have HLS := hide hless
                  go_wp2_with fail
                  go_region_held3 (fun w' => w'.cell? ⟨bp, op + a * 6, none⟩ = some (.int .i64 q.1.1) ∧ w'.cell? ⟨bp, op + a * 6 + 1, none⟩ = some (.int .i64 q.1.2.1) ∧ w'.cell? ⟨bp, op + a * 6 + 2, none⟩ = some (.int .i64 q.1.2.2) ∧ w'.cell? ⟨bp, op + a * 6 + 3, none⟩ = some (.int .i64 q.2.1) ∧ w'.cell? ⟨bp, op + a * 6 + 4, none⟩ = some (.int .i64 q.2.2.1) ∧ w'.cell? ⟨bp, op + a * 6 + 5, none⟩ = some (.int .i64 q.2.2.2) ∧ w'.cell? ⟨V0.heap.size, 0, none⟩ = some (.int .i64 x.1.1) ∧ w'.cell? ⟨V0.heap.size, 1, none⟩ = some (.int .i64 x.1.2.1) ∧ w'.cell? ⟨V0.heap.size, 2, none⟩ = some (.int .i64 x.1.2.2) ∧ w'.cell? ⟨V0.heap.size, 3, none⟩ = some (.int .i64 x.2.1) ∧ w'.cell? ⟨V0.heap.size, 4, none⟩ = some (.int .i64 x.2.2.1) ∧ w'.cell? ⟨V0.heap.size, 5, none⟩ = some (.int .i64 x.2.2.2)) (first | go_keep | exact ⟨cell_lay hL k0, cell_lay hL k1, cell_lay hL k2, cell_lay hL k3, cell_lay hL k4, cell_lay hL k5, cell_lay hL x0, cell_lay hL x1, cell_lay hL x2, cell_lay hL x3, cell_lay hL x4, cell_lay hL x5⟩) ((go_at_call 80; refine (lessEdge_any q x _ hfq HK.out.2.2.2.2.2.2.2).mono ?_; rintro e w3 ⟨rfl, hL⟩; rw [hless]))
                  go_wp2_with fail
                  go_meet
                  case rel =>
                    refine ⟨a, rfl, ha, HL.out.1, fun q' hq' => ?_, HL.out.2.1.trans _ _ _ ((below_drew wr).trans hL.below)⟩
                    rw [HL.out.2.2] at hq'
                    cases hq'
                    exact HLS.out
                · have HLS := hide hless
                  go_wp2_with fail
                  go_region_held3 (fun w' => w'.cell? ⟨bp, op + a * 6, none⟩ = some (.int .i64 q.1.1) ∧ w'.cell? ⟨bp, op + a * 6 + 1, none⟩ = some (.int .i64 q.1.2.1) ∧ w'.cell? ⟨bp, op + a * 6 + 2, none⟩ = some (.int .i64 q.1.2.2) ∧ w'.cell? ⟨bp, op + a * 6 + 3, none⟩ = some (.int .i64 q.2.1) ∧ w'.cell? ⟨bp, op + a * 6 + 4, none⟩ = some (.int .i64 q.2.2.1) ∧ w'.cell? ⟨bp, op + a * 6 + 5, none⟩ = some (.int .i64 q.2.2.2) ∧ w'.cell? ⟨V0.heap.size, 0, none⟩ = some (.int .i64 x.1.1) ∧ w'.cell? ⟨V0.heap.size, 1, none⟩ = some (.int .i64 x.1.2.1) ∧ w'.cell? ⟨V0.heap.size, 2, none⟩ = some (.int .i64 x.1.2.2) ∧ w'.cell? ⟨V0.heap.size, 3, none⟩ = some (.int .i64 x.2.1) ∧ w'.cell? ⟨V0.heap.size, 4, none⟩ = some (.int .i64 x.2.2.1) ∧ w'.cell? ⟨V0.heap.size, 5, none⟩ = some (.int .i64 x.2.2.2)) (first | go_keep | exact ⟨cell_lay hL k0, cell_lay hL k1, cell_lay hL k2, cell_lay hL k3, cell_lay hL k4, cell_lay hL k5, cell_lay hL x0, cell_lay hL x1, cell_lay hL x2, cell_lay hL x3, cell_lay hL x4, cell_lay hL x5⟩) ((go_at_call 80; refine (lessEdge_any q x _ hfq HK.out.2.2.2.2.2.2.2).mono ?_; rintro e w3 ⟨rfl, hL⟩; rw [hless]))
                  go_wp2_with fail
                  go_roundw
                  case rel =>
                    refine ⟨a + 1, by go_num, by omega, fun j q' hj hq' => ?_, HL.out.2.1.trans _ _ _ ((below_drew wr).trans hL.below)⟩
                    rcases Nat.lt_or_ge j a with h | h
                    · exact HL.out.1 j q' h hq'
                    · have hja : j = a := by omega
                      subst hja
                      rw [HL.out.2.2] at hq'
                      cases hq'
                      exact HLS.out
                  case measure => simp [intOf]; omega
              · have hae : a = lo := by omega
                have HL := hide (And.intro hlt3 (And.intro hR hae))
                clear hlt3 hR hbx hae
                go_wp2_with fail
                go_meet
                case rel => exact ⟨a, rfl, ha, HL.out.1, (fun q' hq' => by rw [HL.out.2.2, H3.out.1.len, List.getElem?_eq_none (Nat.le_refl _)] at hq'; cases hq'), HL.out.2.1⟩
          case rest =>
            obtain ⟨a, rfl, ha, hlo', hhi, hR⟩ := hcut
            have hat : a = atE out x := atE_eq (by rw [← H3.out.1.len]; exact ha) hlo' hhi
            have hI4 := H3.out.1.step hR
            have hb4 := HB3.out.2.below hR HB3.out.2.lt
            have hzc := hR.size
            obtain ⟨x0', x1', x2', x3', x4', x5'⟩ := hb4.six
            obtain ⟨W, hW⟩ : ∃ W, W = wc := ⟨_, rfl⟩
            rw [← hW] at hI4 hb4 hzc hR x0' x1' x2' x3' x4' x5' ⊢
            have hzW1 := hb4.lt
            have hzW2 := hI4.big
            have hc2 := hI4.cap
            have hln := hI4.len
            have hta : (out.take a).length = a := by rw [List.length_take]; omega
            have htd : (out.drop a).length = lo - a := by rw [List.length_drop, ← hln]
            have hrunH : ∀ V : World, (Instr.slice 96 (.slice A2 lo c2) none (some (.int .i64 a)) none).run Try.prog V = .ok (.slice A2 a c2) V := fun V => run_cutH Try.underlying96 Try.sizeOf99 ha hc2 V
            have hrunL : ∀ V : World, (Instr.slice 96 (.slice A2 lo c2) (some (.int .i64 a)) none none).run Try.prog V = .ok (.slice (cutA A2 c2 a 6) (lo - a) (c2 - a)) V := fun V => run_cut Try.underlying96 Try.sizeOf99 ha V
            have hslT : Sl encE 6 W W.heap.size A2 (out.take a) := hI4.sl.take8 a
            have hslD : Sl encE 6 W W.heap.size (cutA A2 c2 a 6) (out.drop a) := hI4.sl.cut (by rw [← hln]; exact ha) (by rw [← hln]; exact hc2)
            have HT := hide (And.intro hslT (And.intro hslD (And.intro hta (And.intro htd (And.intro hI4 (And.intro hb4 (And.intro hat hln)))))))
            clear hI4 hb4 hslT hslD hta htd hR hlo' hhi hat hW hln
            go_upto_region 15 with (at_builtin; refine wpList_appendS rfl _ _ _ rfl Try.underlying96 infoE rfl (by omega) encE_len encE_one rfl (Own.nil (base := W.heap.size)) A2 c2 W.heap.size (out.take a) (by rw [HT.out.2.2.1]; rfl) HT.out.1 (by rw [HT.out.2.2.1]; unfold maxLen; omega) (by rw [HT.out.2.2.1]; omega) (Nat.le_refl _) ?_; intro v1 w4 hown4 hg1 hB4 hat1; rw [HT.out.2.2.1, Nat.zero_add, List.nil_append] at hown4; obtain ⟨A4, c4, rfl⟩ := hown4.form)
            have y0 := (hB4.cell (p := ⟨V0.heap.size, 0, none⟩) hzW1).trans x0'
            have y1 := (hB4.cell (p := ⟨V0.heap.size, 1, none⟩) hzW1).trans x1'
            have y2 := (hB4.cell (p := ⟨V0.heap.size, 2, none⟩) hzW1).trans x2'
            have y3 := (hB4.cell (p := ⟨V0.heap.size, 3, none⟩) hzW1).trans x3'
            have y4 := (hB4.cell (p := ⟨V0.heap.size, 4, none⟩) hzW1).trans x4'
            have y5 := (hB4.cell (p := ⟨V0.heap.size, 5, none⟩) hzW1).trans x5'
            have HO1 := hide (And.intro hown4 hB4)
            have hz4 := hB4.size
            have hown4' := hown4.alloc (.cells #[.int .i64 x.1.1, .int .i64 x.1.2.1, .int .i64 x.1.2.2, .int .i64 x.2.1, .int .i64 x.2.2.1, .int .i64 x.2.2.2] 99)
            clear hown4 hg1 hB4 hat1 x0' x1' x2' x3' x4' x5'
            go_upto_region 16 with (at_builtin; refine wpList_append1 rfl _ _ _ rfl Try.underlying96 infoE rfl (by omega) encE_len encE_one rfl hown4' w4.heap.size 1 x rfl (Blk.new _ _ _) (by unfold maxLen; omega) (by omega) (by simp; omega) ?_; intro g2' cap2 w5 hown5 hg2' hB5 hat2 hgb2 hlt2)
            have hB15 : Below W.heap.size W w5 := HO1.out.2.trans (((Below.refl _ w4).alloc (by omega) _).trans hB5)
            have hz5 := hB15.size
            have HO2 := hide (And.intro hown5 (And.intro hB15 ((HT.out.2.1.below hB15))))
            clear hown5 hg2' hB5 hat2 hown4' hB15 y0 y1 y2 y3 y4 y5
            go_wp2_with (at_builtin; refine wpList_appendS rfl _ _ _ rfl Try.underlying96 infoE rfl (by omega) encE_len encE_one rfl HO2.out.1 (cutA A2 c2 a 6) (c2 - a) W.heap.size (out.drop a) (by rw [HT.out.2.2.2.1]; rfl) HO2.out.2.2 (by rw [HT.out.2.2.2.1]; unfold maxLen; omega) (by rw [HT.out.2.2.2.1]; omega) hz5 ?_; intro v6 w6 hown6 hg6 hB6 hat6; obtain ⟨A6, c6, rfl⟩ := hown6.form)
            go_roundw
            case rel =>
              have hln := HT.out.2.2.2.2.2.2.2
              rw [List.append_assoc, List.singleton_append, HT.out.2.2.2.1] at hown6
              have hins : out.take a ++ (x :: out.drop a) = insE out x := by unfold insE; rw [← HT.out.2.2.2.2.2.2.1]
              rw [hins] at hown6
              refine ⟨k + 1, A6, _, c6, by omega, by go_num, rfl, ?_, ?_⟩
              · rw [← hout, ← hln]; omega
              · rw [← hout, ← hln, H3.out.2]
                have hB6' : Below w1.heap.size w1 w6 := HT.out.2.2.2.2.1.bel.trans ((HO2.out.2.1.mono (by omega)).trans (hB6.mono (by omega)))
                refine ⟨hown6.1, hown6.sl encE_len (Nat.le_refl _), hown6.place.1, fun y hy => ?_, hB6', hB6'.size⟩
                rcases insE_mem hy with h | h
                · exact HT.out.2.2.2.2.1.fit y h
                · rw [h]; exact HK.out.2.2.2.2.2.2.2
            case measure => simp [intOf]; omega
    · have hke : k = all.length := by rw [← HS.out.2.2.2]; omega
      rw [hke, List.take_length, ← HS.out.2.2.1] at hout
      have hkn : n = k := by omega
      rw [hout] at hI
      have HE := hide hI
      clear hI hout hke
      subst hkn
      go_wp2
      go_ret
      exact ⟨A2, c2, by rw [← HE.out.len]; rfl, HE.out.sl, by rw [← HE.out.len]; exact HE.out.cap, H1.out.2.trans (HE.out.bel.mono hz1)⟩
end Go.Proofs.Ytfljcgehhnmamaa
/- ref04.behind (printed by mk_Beh.py). -/
namespace Go.Proofs.Ytfljcgehhnmamaa
open Go.RowKit Go.Sort
def behK (t : Tri) (p q : Pt) : Option Pt := if t.1 = p ∧ t.2.1 = q then some t.2.2 else if t.2.1 = p ∧ t.2.2 = q then some t.1 else if t.2.2 = p ∧ t.1 = q then some t.2.1 else none
/-- The corner behind the edge from p to q. -/
def behP (l : List Tri) (p q : Pt) : Option Pt := l.findSome? fun t => behK t p q
theorem behK_at {t : Tri} {p q : Pt} (j : Nat) (hj : j < 3) (h1 : corner t j = p) (h2 : corner t ((j + 1) % 3) = q) (hn : ∀ i, i < j → ¬(corner t i = p ∧ corner t ((i + 1) % 3) = q)) : behK t p q = some (corner t ((j + 2) % 3)) := by
  unfold behK
  have hc : j = 0 ∨ j = 1 ∨ j = 2 := by omega
  rcases hc with rfl | rfl | rfl
  · exact if_pos ⟨h1, h2⟩
  · exact (if_neg (hn 0 (by omega))).trans (if_pos ⟨h1, h2⟩)
  · exact (if_neg (hn 0 (by omega))).trans ((if_neg (hn 1 (by omega))).trans (if_pos ⟨h1, h2⟩))
theorem behK_none {t : Tri} {p q : Pt} (hn : ∀ i, i < 3 → ¬(corner t i = p ∧ corner t ((i + 1) % 3) = q)) : behK t p q = none := by
  unfold behK
  exact (if_neg (hn 0 (by omega))).trans ((if_neg (hn 1 (by omega))).trans (if_neg (hn 2 (by omega))))
theorem noJ_succ {t : Tri} {p q : Pt} {j : Nat} (hn : ∀ i, i < j → ¬(corner t i = p ∧ corner t ((i + 1) % 3) = q)) (h : ¬(corner t j = p ∧ corner t ((j + 1) % 3) = q)) : ∀ i, i < j + 1 → ¬(corner t i = p ∧ corner t ((i + 1) % 3) = q) := fun i hi => by
  rcases Nat.lt_or_ge i j with h1 | h1
  · exact hn i h1
  · have e : i = j := by omega
    rw [e]; exact h
theorem findSome_take {α β : Type} (f : α → Option β) (l : List α) (k : Nat) (x : α) (h : l[k]? = some x) : (l.take (k + 1)).findSome? f = ((l.take k).findSome? f).or (f x) := by
  rw [List.take_add_one, h, Option.toList_some, List.findSome?_append]
  simp [List.findSome?_cons]
  cases f x <;> rfl
theorem bh_some {l : List Tri} {p q r : Pt} {k : Nat} {t : Tri} (h : l[k]? = some t) (hn : behP (l.take k) p q = none) (hb : behK t p q = some r) : behP l p q = some r := by
  have h1 : behP (l.take (k + 1)) p q = some r := by
    unfold behP at hn ⊢
    rw [findSome_take _ _ _ _ h, hn, hb]; rfl
  unfold behP at h1 ⊢
  rw [← List.take_append_drop (k + 1) l, List.findSome?_append, h1]
  rfl
/-- Where the boxes lie. -/
structure BhX (w X : World) (p q : Pt) : Prop where
  bel : Below w.heap.size w X
  bp : Blk X w.heap.size 38 #[.int .i64 p.1, .int .i64 p.2.1, .int .i64 p.2.2]
  bq : Blk X (w.heap.size + 1) 38 #[.int .i64 q.1, .int .i64 q.2.1, .int .i64 q.2.2]
  br : Blk X (w.heap.size + 1 + 1) 38 #[.int .i64 0, .int .i64 0, .int .i64 0]
theorem beh_ret {w X : World} {p q r : Pt} {b : Bool} {fn : Func} {R : Ending → World → Prop} {a : Act} {w' : World} (hd : a.defers = []) (h : BhX w X p q) (m : Nat)
    (hr : ∀ Z : World, Z.cell? ⟨w.heap.size + 1 + 1, 0, none⟩ = some (.int .i64 r.1) → Z.cell? ⟨w.heap.size + 1 + 1, 1, none⟩ = some (.int .i64 r.2.1) → Z.cell? ⟨w.heap.size + 1 + 1, 2, none⟩ = some (.int .i64 r.2.2) → (results fn a.tmps).run Try.prog Z = .ok (.tuple #[vP r, .bool b]) Z)
    (hw : w' = ((((X.drewN m).setCell ⟨w.heap.size + 1 + 1, 0, none⟩ (.int .i64 r.1)).setCell ⟨w.heap.size + 1 + 1, 1, none⟩ (.int .i64 r.2.1)).setCell ⟨w.heap.size + 1 + 1, 2, none⟩ (.int .i64 r.2.2)))
    (hR : ∀ W, Below w.heap.size w W → R (.returned (.tuple #[vP r, .bool b])) W) : bodyPost Try.prog fn R .ret a w' := by
  subst hw
  obtain ⟨z0, z1, z2⟩ := ((h.br.drewN m).set3 (.int .i64 r.1) (.int .i64 r.2.1) (.int .i64 r.2.2)).three8
  exact bodyPost_ret (hr _ z0 z1 z2) hd (hR _ ((((below_drewN h.bel m).setCell (by dsimp only; omega) _).setCell (by dsimp only; omega) _).setCell (by dsimp only; omega) _))
set_option maxRecDepth 100000 in
set_option maxHeartbeats 16000000 in
theorem behind_any (A : Option Addr) (c : Nat) (l : List Tri) (p q : Pt) (w : World) (hs : Sl encT 9 w w.heap.size A l) (hl : l.length ≤ 4294967296) (hp : fitsP p) (hq : fitsP q) (hf : ∀ t ∈ l, fitsT t) :
    Calls Try.prog 81 #[.slice A l.length c, vP p, vP q] w fun e w' => e = .returned (.tuple #[vP ((behP l p q).getD p), .bool (behP l p q).isSome]) ∧ Below w.heap.size w w' := by
  obtain ⟨n, hn⟩ : ∃ n, n = l.length := ⟨_, rfl⟩
  rw [← hn] at hl ⊢
  have HS := hide (And.intro hs (And.intro hn (And.intro hf trivial)))
  have HP := hide (And.intro hp (And.intro hq trivial))
  clear hs hn hf hp hq
  go_enter Try.func81, Try.ntmps81
  go_wp2_with fail
  obtain ⟨X, hX⟩ : ∃ X, X = ((w.alloc (.cells #[.int .i64 p.1, .int .i64 p.2.1, .int .i64 p.2.2] 38)).alloc (.cells #[.int .i64 q.1, .int .i64 q.2.1, .int .i64 q.2.2] 38)).alloc (.cells #[.int .i64 0, .int .i64 0, .int .i64 0] 38) := ⟨_, rfl⟩
  rw [← hX]
  have hBX : BhX w X p q := by
    rw [hX]
    refine ⟨(((Below.refl _ w).alloc (Nat.le_refl _) _).alloc (by simp) _).alloc (by simp; omega) _, ((Blk.new _ _ _).alloc _).alloc _, (Blk.new' _ _ _ _ (by simp)).alloc _, Blk.new' _ _ _ _ (by simp)⟩
  have hslX : Sl encT 9 X w.heap.size A l := HS.out.1.below hBX.bel
  have hzX : X.heap.size = w.heap.size + 3 := by rw [hX]; simp
  have HX := hide (And.intro hBX (And.intro hslX trivial))
  clear hX hBX hslX
  go_loopw [8] (fun iv wr => ∃ k m : Nat, k ≤ n ∧ iv = .int .i64 k ∧ behP (l.take k) p q = none ∧ wr = X.drewN m) (fun iv _ => n - (intOf iv).toNat)
  case atStart => exact ⟨0, 0, by omega, rfl, rfl, rfl⟩
  case round =>
    obtain ⟨k, m0, hk, rfl, hno, rfl⟩ := hrel
    by_cases hlt : k < n
    · obtain ⟨t, ht⟩ : ∃ t, l[k]? = some t := ⟨_, List.getElem?_eq_getElem (by rw [← HS.out.2.1]; exact hlt)⟩
      have i1 : (k : Int) < (n : Int) := by omega
      obtain ⟨b, o, hA, hb, hct⟩ := HX.out.2.1.tri ht
      subst hA
      have HK := hide (And.intro ht hno)
      have HC := hide hct
      clear ht hno hct
      go_wp2
      go_loopw [9] (fun iv wr => ∃ j m : Nat, j ≤ 3 ∧ iv = .int .i64 j ∧ (∀ i, i < j → ¬(corner t i = p ∧ corner t ((i + 1) % 3) = q)) ∧ wr = X.drewN m) (fun iv _ => 3 - (intOf iv).toNat)
      case atStart => exact ⟨0, m0, by omega, rfl, fun i hi => absurd hi (by omega), rfl⟩
      case round =>
        obtain ⟨j, m, hj, rfl, hnj, rfl⟩ := hrel
        have HJ := hide hnj
        clear hnj
        have hc : j = 0 ∨ j = 1 ∨ j = 2 ∨ j = 3 := by omega
        obtain ⟨g0, g1, g2, g3, g4, g5, g6, g7, g8⟩ := HC.out
        obtain ⟨x0, x1, x2⟩ := HX.out.1.bp.three8
        obtain ⟨y0, y1, y2⟩ := HX.out.1.bq.three8
        rcases hc with rfl | rfl | rfl | rfl
        · have e1 := eqP t.1 p (HS.out.2.2.1 t (List.mem_of_getElem? HK.out.1)).1 HP.out.1
          have e2 := eqP t.2.1 q (HS.out.2.2.1 t (List.mem_of_getElem? HK.out.1)).2.1 HP.out.2.1
          by_cases h1 : t.1 = p
          · have d1 : decide (t.1 = p) = true := decide_eq_true h1
            rw [d1] at e1
            by_cases h2 : t.2.1 = q
            · have d2 : decide (t.2.1 = q) = true := decide_eq_true h2
              rw [d2] at e2
              have hb : behK t p q = some t.2.2 := behK_at 0 (by omega) h1 h2 HJ.out
              have HB := hide (bh_some HK.out.1 HK.out.2 hb)
              clear h1 h2 d1 d2 hb
              go_wp2_with fail
              go_quiet (fail)
              have hr := HX.out.1.br.drewN (m + nq)
              obtain ⟨r0, r1, r2⟩ := hr.three8
              have f0 := hr.frozen 0
              have f1 := hr.frozen 1
              have f2 := hr.frozen 2
              go_wp2
              refine beh_ret (r := t.2.2) (b := true) rfl HX.out.1 (m + nq) ?_ rfl ?_
              · intro Z z0 z1 z2; simp [results, Try.results81, go_sem, z0, z1, z2]
              · intro W hW; exact ⟨by rw [HB.out]; rfl, hW⟩
            · have d2 : decide (t.2.1 = q) = false := decide_eq_false h2
              rw [d2] at e2
              have HN := hide (show ∀ i, i < 0 + 1 → ¬(corner t i = p ∧ corner t ((i + 1) % 3) = q) from noJ_succ HJ.out (fun h => h2 h.2))
              clear h1 h2 d1 d2
              go_wp2_with fail
              go_quiet (fail)
              go_wp2
              go_roundw
              case rel => exact ⟨0 + 1, m + nq, by omega, by go_num, HN.out, rfl⟩
              case measure => (simp [intOf] <;> omega)
          · have d1 : decide (t.1 = p) = false := decide_eq_false h1
            rw [d1] at e1
            have HN := hide (show ∀ i, i < 0 + 1 → ¬(corner t i = p ∧ corner t ((i + 1) % 3) = q) from noJ_succ HJ.out (fun h => h1 h.1))
            clear h1 d1
            go_wp2_with fail
            go_quiet (fail)
            go_wp2
            go_roundw
            case rel => exact ⟨0 + 1, m + nq, by omega, by go_num, HN.out, rfl⟩
            case measure => (simp [intOf] <;> omega)
        · have e1 := eqP t.2.1 p (HS.out.2.2.1 t (List.mem_of_getElem? HK.out.1)).2.1 HP.out.1
          have e2 := eqP t.2.2 q (HS.out.2.2.1 t (List.mem_of_getElem? HK.out.1)).2.2 HP.out.2.1
          by_cases h1 : t.2.1 = p
          · have d1 : decide (t.2.1 = p) = true := decide_eq_true h1
            rw [d1] at e1
            by_cases h2 : t.2.2 = q
            · have d2 : decide (t.2.2 = q) = true := decide_eq_true h2
              rw [d2] at e2
              have hb : behK t p q = some t.1 := behK_at 1 (by omega) h1 h2 HJ.out
              have HB := hide (bh_some HK.out.1 HK.out.2 hb)
              clear h1 h2 d1 d2 hb
              go_wp2_with fail
              go_quiet (fail)
              have hr := HX.out.1.br.drewN (m + nq)
              obtain ⟨r0, r1, r2⟩ := hr.three8
              have f0 := hr.frozen 0
              have f1 := hr.frozen 1
              have f2 := hr.frozen 2
              go_wp2
              refine beh_ret (r := t.1) (b := true) rfl HX.out.1 (m + nq) ?_ rfl ?_
              · intro Z z0 z1 z2; simp [results, Try.results81, go_sem, z0, z1, z2]
              · intro W hW; exact ⟨by rw [HB.out]; rfl, hW⟩
            · have d2 : decide (t.2.2 = q) = false := decide_eq_false h2
              rw [d2] at e2
              have HN := hide (show ∀ i, i < 1 + 1 → ¬(corner t i = p ∧ corner t ((i + 1) % 3) = q) from noJ_succ HJ.out (fun h => h2 h.2))
              clear h1 h2 d1 d2
              go_wp2_with fail
              go_quiet (fail)
              go_wp2
              go_roundw
              case rel => exact ⟨1 + 1, m + nq, by omega, by go_num, HN.out, rfl⟩
              case measure => (simp [intOf] <;> omega)
          · have d1 : decide (t.2.1 = p) = false := decide_eq_false h1
            rw [d1] at e1
            have HN := hide (show ∀ i, i < 1 + 1 → ¬(corner t i = p ∧ corner t ((i + 1) % 3) = q) from noJ_succ HJ.out (fun h => h1 h.1))
            clear h1 d1
            go_wp2_with fail
            go_quiet (fail)
            go_wp2
            go_roundw
            case rel => exact ⟨1 + 1, m + nq, by omega, by go_num, HN.out, rfl⟩
            case measure => (simp [intOf] <;> omega)
        · have e1 := eqP t.2.2 p (HS.out.2.2.1 t (List.mem_of_getElem? HK.out.1)).2.2 HP.out.1
          have e2 := eqP t.1 q (HS.out.2.2.1 t (List.mem_of_getElem? HK.out.1)).1 HP.out.2.1
          by_cases h1 : t.2.2 = p
          · have d1 : decide (t.2.2 = p) = true := decide_eq_true h1
            rw [d1] at e1
            by_cases h2 : t.1 = q
            · have d2 : decide (t.1 = q) = true := decide_eq_true h2
              rw [d2] at e2
              have hb : behK t p q = some t.2.1 := behK_at 2 (by omega) h1 h2 HJ.out
              have HB := hide (bh_some HK.out.1 HK.out.2 hb)
              clear h1 h2 d1 d2 hb
              go_wp2_with fail
              go_quiet (fail)
              have hr := HX.out.1.br.drewN (m + nq)
              obtain ⟨r0, r1, r2⟩ := hr.three8
              have f0 := hr.frozen 0
              have f1 := hr.frozen 1
              have f2 := hr.frozen 2
              go_wp2
              refine beh_ret (r := t.2.1) (b := true) rfl HX.out.1 (m + nq) ?_ rfl ?_
              · intro Z z0 z1 z2; simp [results, Try.results81, go_sem, z0, z1, z2]
              · intro W hW; exact ⟨by rw [HB.out]; rfl, hW⟩
            · have d2 : decide (t.1 = q) = false := decide_eq_false h2
              rw [d2] at e2
              have HN := hide (show ∀ i, i < 2 + 1 → ¬(corner t i = p ∧ corner t ((i + 1) % 3) = q) from noJ_succ HJ.out (fun h => h2 h.2))
              clear h1 h2 d1 d2
              go_wp2_with fail
              go_quiet (fail)
              go_wp2
              go_roundw
              case rel => exact ⟨2 + 1, m + nq, by omega, by go_num, HN.out, rfl⟩
              case measure => (simp [intOf] <;> omega)
          · have d1 : decide (t.2.2 = p) = false := decide_eq_false h1
            rw [d1] at e1
            have HN := hide (show ∀ i, i < 2 + 1 → ¬(corner t i = p ∧ corner t ((i + 1) % 3) = q) from noJ_succ HJ.out (fun h => h1 h.1))
            clear h1 d1
            go_wp2_with fail
            go_quiet (fail)
            go_wp2
            go_roundw
            case rel => exact ⟨2 + 1, m + nq, by omega, by go_num, HN.out, rfl⟩
            case measure => (simp [intOf] <;> omega)
        · have hb := behK_none HJ.out
          have hn1 : behP (l.take (k + 1)) p q = none := by
            have h1 := HK.out.2
            unfold behP at h1 ⊢
            rw [findSome_take _ _ _ _ HK.out.1, h1, hb]; rfl
          have HN := hide hn1
          clear hb hn1 g0 g1 g2 g3 g4 g5 g6 g7 g8
          go_wp2
          go_roundw
          case rel => exact ⟨k + 1, m, by omega, by go_num, HN.out, rfl⟩
          case measure => simp [intOf]; omega
    · have hke : k = l.length := by rw [← HS.out.2.1]; omega
      rw [hke, List.take_length] at hno
      have hkn : n = k := by omega
      have HE := hide hno
      clear hno hke
      subst hkn
      obtain ⟨x0, x1, x2⟩ := HX.out.1.bp.three8
      obtain ⟨r0, r1, r2⟩ := HX.out.1.br.three8
      have f0 := HX.out.1.br.frozen 0
      have f1 := HX.out.1.br.frozen 1
      have f2 := HX.out.1.br.frozen 2
      go_wp2
      refine beh_ret (r := p) (b := false) rfl HX.out.1 m0 ?_ rfl ?_
      · intro Z z0 z1 z2
        simp [results, Try.results81, go_sem, z0, z1, z2]
      · intro W hW
        exact ⟨by rw [HE.out]; rfl, hW⟩
end Go.Proofs.Ytfljcgehhnmamaa
/- ref04.pinched (printed by mk_Pin.py). -/
namespace Go.Proofs.Ytfljcgehhnmamaa
open Go.RowKit Go.Sort
theorem own_row8 {β : Type} {encb : β → List Value} {kb : Nat} {eb : TypeId} {n base : Nat} {w : World} {v : Value} {xs : List β} {t : TypeId} (h : Own encb kb eb w base v n xs) (hte : eb ≠ t) : ∀ r, v.ownBlock = some r → r < base ∨ ∀ cs, w.heap[r]? ≠ some (.cells cs t (0, 0)) := fun r hr => by
  obtain ⟨cs, hc⟩ := h.cells r hr
  refine .inr fun cs' hc' => ?_
  rw [hc] at hc'
  cases hc'
  exact hte rfl
/-- The triangles at p, with the corner that follows there. -/
def pinN (t : Tri) (p : Pt) (j : Nat) : List (Tri × Pt) := (List.range j).flatMap fun i => if corner t i = p then [(t, corner t ((i + 1) % 3))] else []
def pinL (l : List Tri) (p : Pt) : List (Tri × Pt) := l.flatMap fun t => pinN t p 3
theorem pinN_yes (j : Nat) {t : Tri} {p : Pt} (h : corner t j = p) : pinN t p (j + 1) = pinN t p j ++ [(t, corner t ((j + 1) % 3))] := by
  unfold pinN
  rw [List.range_succ, List.flatMap_append, List.flatMap_singleton, if_pos h]
theorem pinN_no (j : Nat) {t : Tri} {p : Pt} (h : corner t j ≠ p) : pinN t p (j + 1) = pinN t p j := by
  unfold pinN
  rw [List.range_succ, List.flatMap_append, List.flatMap_singleton, if_neg h, List.append_nil]
theorem pinL_snoc (l : List Tri) (p : Pt) (k : Nat) (t : Tri) (h : l[k]? = some t) : pinL (l.take (k + 1)) p = pinL (l.take k) p ++ pinN t p 3 := by
  unfold pinL
  rw [List.take_add_one, h, Option.toList_some, List.flatMap_append, List.flatMap_singleton]
theorem pinL_fits {l : List Tri} {p : Pt} (h : ∀ t ∈ l, fitsT t) : ∀ x ∈ pinL l p, fitsT x.1 ∧ fitsP x.2 := by
  intro x hx
  obtain ⟨t, ht, hx⟩ := List.mem_flatMap.1 hx
  obtain ⟨i, _, hx⟩ := List.mem_flatMap.1 hx
  split at hx
  · rw [List.mem_singleton.1 hx]
    exact ⟨h t ht, corner_fits (h t ht) _⟩
  · cases hx
/-- Round the corner, from one start. -/
def runP (mine : List Tri) (p s : Pt) : Nat → Pt → Bool
  | 0, _ => false
  | f + 1, x => match behP mine p x with
    | none => false
    | some y => if y = s then true else runP mine p s f y
def pinchedP (l : List Tri) (p : Pt) : Bool := ((pinL l p).map (·.2)).any fun s => runP ((pinL l p).map (·.1)) p s ((pinL l p).length - 1) s
theorem CellsT.below8 {w w' : World} {b o n : Nat} {t : Tri} (h : CellsT w b o t) (hB : Below n w w') (hb : b < n) : CellsT w' b o t := by
  obtain ⟨h0, h1, h2, h3, h4, h5, h6, h7, h8⟩ := h
  exact ⟨(hB.cell (p := ⟨b, _, none⟩) hb).trans h0, (hB.cell (p := ⟨b, _, none⟩) hb).trans h1, (hB.cell (p := ⟨b, _, none⟩) hb).trans h2, (hB.cell (p := ⟨b, _, none⟩) hb).trans h3, (hB.cell (p := ⟨b, _, none⟩) hb).trans h4, (hB.cell (p := ⟨b, _, none⟩) hb).trans h5, (hB.cell (p := ⟨b, _, none⟩) hb).trans h6, (hB.cell (p := ⟨b, _, none⟩) hb).trans h7, (hB.cell (p := ⟨b, _, none⟩) hb).trans h8⟩
theorem behP_fits {l : List Tri} (h : ∀ t ∈ l, fitsT t) {p q r : Pt} (hb : behP l p q = some r) : fitsP r := by
  unfold behP at hb
  obtain ⟨t, ht, hr⟩ := List.exists_of_findSome?_eq_some hb
  have hf := h t ht
  unfold behK at hr
  split at hr
  · cases hr; exact hf.2.2
  · split at hr
    · cases hr; exact hf.1
    · split at hr
      · cases hr; exact hf.2.1
      · cases hr
set_option maxRecDepth 100000 in
set_option maxHeartbeats 16000000 in
theorem pinched_any (A : Option Addr) (c : Nat) (l : List Tri) (p : Pt) (w : World) (hs : Sl encT 9 w w.heap.size A l) (hl : l.length ≤ 1073741824) (hp : fitsP p) (hf : ∀ t ∈ l, fitsT t) :
    Calls Try.prog 56 #[.slice A l.length c, vP p] w fun e w' => e = .returned (.bool (pinchedP l p)) ∧ Below w.heap.size w w' := by
  obtain ⟨n, hn⟩ : ∃ n, n = l.length := ⟨_, rfl⟩
  rw [← hn] at hl ⊢
  have HS := hide (And.intro hs (And.intro hn (And.intro hf trivial)))
  have HP := hide (And.intro hp trivial)
  clear hs hn hf hp
  go_enter Try.func56, Try.ntmps56
  go_wp2_with fail
  obtain ⟨X, hX⟩ : ∃ X, X = w.alloc (.cells #[.int .i64 p.1, .int .i64 p.2.1, .int .i64 p.2.2] 38) := ⟨_, rfl⟩
  rw [← hX]
  have hBX : Below w.heap.size w X := by rw [hX]; exact (Below.refl _ w).alloc (Nat.le_refl _) _
  have hbX : Blk X w.heap.size 38 #[.int .i64 p.1, .int .i64 p.2.1, .int .i64 p.2.2] := by rw [hX]; exact Blk.new _ _ _
  have hzX : X.heap.size = w.heap.size + 1 := by rw [hX]; simp
  have hzX0 : w.heap.size ≤ X.heap.size := by omega
  have HX := hide (And.intro hBX (And.intro hbX (HS.out.1.below hBX)))
  clear hX hBX hbX
  go_loopw [5, 6, 7] (fun v1 v2 iv wr => ∃ (k m : Nat) (L : List (Tri × Pt)), k ≤ n ∧ iv = .int .i64 k ∧ m ≤ 3 * k ∧ L = pinL (l.take k) p ∧ Own encT 9 40 wr X.heap.size v1 m (L.map (·.1)) ∧ Own encP 3 38 wr X.heap.size v2 m (L.map (·.2)) ∧ Below X.heap.size X wr) (fun _ _ iv _ => n - (intOf iv).toNat)
  case atStart => exact ⟨0, 0, [], by omega, rfl, by omega, rfl, Own.nil, Own.nil, Below.refl _ X⟩
  case round =>
    obtain ⟨k, m0, L0, hk, rfl, hm0, hL0, hown1, hown2, hB⟩ := hrel
    obtain ⟨A10, c10, rfl⟩ := hown1.form
    obtain ⟨A20, c20, rfl⟩ := hown2.form
    by_cases hlt : k < n
    · obtain ⟨t, ht⟩ : ∃ t, l[k]? = some t := ⟨_, List.getElem?_eq_getElem (by rw [← HS.out.2.1]; exact hlt)⟩
      have i1 : (k : Int) < (n : Int) := by omega
      obtain ⟨b, o, hA, hbb, hct⟩ := HX.out.2.2.tri ht
      subst hA
      have HK := hide (And.intro ht (HS.out.2.2.1 t (List.mem_of_getElem? ht)))
      have HL := hide (And.intro hL0 (And.intro hown1 (And.intro hown2 hB)))
      have HC := hide hct
      clear ht hct hL0 hown1 hown2 hB
      go_wp2
      go_loopw [5, 6, 8] (fun v1 v2 iv wr => ∃ (j m : Nat) (L : List (Tri × Pt)), j ≤ 3 ∧ iv = .int .i64 j ∧ m ≤ 3 * k + j ∧ L = L0 ++ pinN t p j ∧ Own encT 9 40 wr X.heap.size v1 m (L.map (·.1)) ∧ Own encP 3 38 wr X.heap.size v2 m (L.map (·.2)) ∧ Below X.heap.size X wr) (fun _ _ iv _ => 3 - (intOf iv).toNat)
      case atStart => exact ⟨0, m0, L0, by omega, rfl, by omega, by simp [pinN], HL.out.2.1, HL.out.2.2.1, HL.out.2.2.2⟩
      case round =>
        obtain ⟨j, m, L, hj, rfl, hm, hL, ho1, ho2, hB⟩ := hrel
        obtain ⟨A1, c1, rfl⟩ := ho1.form
        obtain ⟨A2, c2, rfl⟩ := ho2.form
        have hBC := HC.out.below8 (hB.mono hzX0) hbb
        obtain ⟨x0, x1, x2⟩ := (HX.out.2.1.below hB (by omega)).three8
        have HJ := hide (And.intro ho1 (And.intro ho2 (And.intro hL hB)))
        obtain ⟨g0, g1, g2, g3, g4, g5, g6, g7, g8⟩ := hBC
        clear hL ho1 ho2 hB
        have hc : j = 0 ∨ j = 1 ∨ j = 2 ∨ j = 3 := by omega
        rcases hc with rfl | rfl | rfl | rfl
        · have e1 := eqP t.1 p HK.out.2.1 HP.out.1
          by_cases h1 : t.1 = p
          · have d1 : decide (t.1 = p) = true := decide_eq_true h1
            rw [d1] at e1
            have hsn := pinN_yes 0 (t := t) (p := p) h1
            have HN := hide hsn
            clear h1 d1 hsn
            go_upto_region 9 with fail
            go_quiet (fail)
            obtain ⟨W, hW⟩ : ∃ W, W = wr.drewN nq := ⟨_, rfl⟩
            have hBW : Below X.heap.size X W := by rw [hW]; exact below_drewN HJ.out.2.2.2 nq
            have ho1 : Own encT 9 40 W X.heap.size (.slice A1 m c1) m (L.map (·.1)) := by rw [hW]; exact HJ.out.1
            have ho2 : Own encP 3 38 W X.heap.size (.slice A2 m c2) m (L.map (·.2)) := by rw [hW]; exact HJ.out.2.1
            have hcW := HC.out.below8 (hBW.mono hzX0)
            obtain ⟨q0, q1, q2, q3, q4, q5, q6, q7, q8⟩ := hcW hbb
            have hzW := hBW.size
            have HW := hide (And.intro hBW (And.intro ho1 ho2))
            rw [← hW]
            clear hBW hcW hW g0 g1 g2 g3 g4 g5 g6 g7 g8 x0 x1 x2 e1
            have ho1' := ho1.alloc (.cells (encT t).toArray 40)
            go_upto_region 11 with (at_builtin; refine wpList_append1 rfl _ _ _ rfl Try.underlying29 infoT rfl (by omega) encT_len encT_one rfl ho1' W.heap.size 1 t rfl (Blk.new _ _ _) (by unfold maxLen; omega) (by omega) (by simp; omega) ?_; intro g4' cap4 w4 hown4 hg4 hB4 hat4 hgb4 hlt4)
            have ho2' := ((HW.out.2.2.alloc (.cells (encT t).toArray 40)).step hg4 (own_row8 ho1' (by decide)))
            have hBw4 : Below X.heap.size X w4 := (HW.out.1.alloc hzW _).trans hB4
            have hcw4 := HC.out.below8 (hBw4.mono hzX0)
            obtain ⟨g0, g1, g2, g3, g4, g5, g6, g7, g8⟩ := hcw4 hbb
            have hz4 := hBw4.size
            have H4 := hide (And.intro hown4 (And.intro ho2' hBw4))
            clear hown4 hg4 hB4 hat4 ho2' ho1' ho1 ho2 hcw4 hBw4 q0 q1 q2 q3 q4 q5 q6 q7 q8
            have ho2' := H4.out.2.1.alloc (.cells (encP t.2.1).toArray 38)
            go_wp2_with (at_builtin; refine wpList_append1 rfl _ _ _ rfl Try.underlying45 infoPt rfl (by omega) encP_len encP_one rfl ho2' w4.heap.size 1 t.2.1 rfl (Blk.new _ _ _) (by unfold maxLen; omega) (by omega) (by simp; omega) ?_; intro g5' cap5 w5 hown5 hg5 hB5 hat5 hgb5 hlt5)
            go_roundw
            case rel =>
              have ho1'' := (H4.out.1.alloc (.cells (encP t.2.1).toArray 38)).step hg5 (own_row8 ho2' (by decide))
              refine ⟨0 + 1, m + 1, L ++ [(t, t.2.1)], by omega, by go_num, by omega, by rw [HN.out, ← List.append_assoc, ← HJ.out.2.2.1]; rfl, ?_, ?_, (H4.out.2.2.alloc hz4 _).trans hB5⟩
              · rw [List.map_append]; exact ho1''
              · rw [List.map_append]; exact hown5
            case measure => (simp [intOf] <;> omega)
          · have d1 : decide (t.1 = p) = false := decide_eq_false h1
            rw [d1] at e1
            have hsn := pinN_no 0 (t := t) (p := p) h1
            have HN := hide hsn
            clear h1 d1 hsn
            go_upto_region 9 with fail
            go_quiet (fail)
            clear g0 g1 g2 g3 g4 g5 g6 g7 g8 e1
            go_wp2
            go_roundw
            case rel => exact ⟨0 + 1, m, L, by omega, by go_num, by omega, by rw [HN.out]; exact HJ.out.2.2.1, HJ.out.1, HJ.out.2.1, below_drewN HJ.out.2.2.2 nq⟩
            case measure => (simp [intOf] <;> omega)
        · have e1 := eqP t.2.1 p HK.out.2.2.1 HP.out.1
          by_cases h1 : t.2.1 = p
          · have d1 : decide (t.2.1 = p) = true := decide_eq_true h1
            rw [d1] at e1
            have hsn := pinN_yes 1 (t := t) (p := p) h1
            have HN := hide hsn
            clear h1 d1 hsn
            go_upto_region 9 with fail
            go_quiet (fail)
            obtain ⟨W, hW⟩ : ∃ W, W = wr.drewN nq := ⟨_, rfl⟩
            have hBW : Below X.heap.size X W := by rw [hW]; exact below_drewN HJ.out.2.2.2 nq
            have ho1 : Own encT 9 40 W X.heap.size (.slice A1 m c1) m (L.map (·.1)) := by rw [hW]; exact HJ.out.1
            have ho2 : Own encP 3 38 W X.heap.size (.slice A2 m c2) m (L.map (·.2)) := by rw [hW]; exact HJ.out.2.1
            have hcW := HC.out.below8 (hBW.mono hzX0)
            obtain ⟨q0, q1, q2, q3, q4, q5, q6, q7, q8⟩ := hcW hbb
            have hzW := hBW.size
            have HW := hide (And.intro hBW (And.intro ho1 ho2))
            rw [← hW]
            clear hBW hcW hW g0 g1 g2 g3 g4 g5 g6 g7 g8 x0 x1 x2 e1
            have ho1' := ho1.alloc (.cells (encT t).toArray 40)
            go_upto_region 11 with (at_builtin; refine wpList_append1 rfl _ _ _ rfl Try.underlying29 infoT rfl (by omega) encT_len encT_one rfl ho1' W.heap.size 1 t rfl (Blk.new _ _ _) (by unfold maxLen; omega) (by omega) (by simp; omega) ?_; intro g4' cap4 w4 hown4 hg4 hB4 hat4 hgb4 hlt4)
            have ho2' := ((HW.out.2.2.alloc (.cells (encT t).toArray 40)).step hg4 (own_row8 ho1' (by decide)))
            have hBw4 : Below X.heap.size X w4 := (HW.out.1.alloc hzW _).trans hB4
            have hcw4 := HC.out.below8 (hBw4.mono hzX0)
            obtain ⟨g0, g1, g2, g3, g4, g5, g6, g7, g8⟩ := hcw4 hbb
            have hz4 := hBw4.size
            have H4 := hide (And.intro hown4 (And.intro ho2' hBw4))
            clear hown4 hg4 hB4 hat4 ho2' ho1' ho1 ho2 hcw4 hBw4 q0 q1 q2 q3 q4 q5 q6 q7 q8
            have ho2' := H4.out.2.1.alloc (.cells (encP t.2.2).toArray 38)
            go_wp2_with (at_builtin; refine wpList_append1 rfl _ _ _ rfl Try.underlying45 infoPt rfl (by omega) encP_len encP_one rfl ho2' w4.heap.size 1 t.2.2 rfl (Blk.new _ _ _) (by unfold maxLen; omega) (by omega) (by simp; omega) ?_; intro g5' cap5 w5 hown5 hg5 hB5 hat5 hgb5 hlt5)
            go_roundw
            case rel =>
              have ho1'' := (H4.out.1.alloc (.cells (encP t.2.2).toArray 38)).step hg5 (own_row8 ho2' (by decide))
              refine ⟨1 + 1, m + 1, L ++ [(t, t.2.2)], by omega, by go_num, by omega, by rw [HN.out, ← List.append_assoc, ← HJ.out.2.2.1]; rfl, ?_, ?_, (H4.out.2.2.alloc hz4 _).trans hB5⟩
              · rw [List.map_append]; exact ho1''
              · rw [List.map_append]; exact hown5
            case measure => (simp [intOf] <;> omega)
          · have d1 : decide (t.2.1 = p) = false := decide_eq_false h1
            rw [d1] at e1
            have hsn := pinN_no 1 (t := t) (p := p) h1
            have HN := hide hsn
            clear h1 d1 hsn
            go_upto_region 9 with fail
            go_quiet (fail)
            clear g0 g1 g2 g3 g4 g5 g6 g7 g8 e1
            go_wp2
            go_roundw
            case rel => exact ⟨1 + 1, m, L, by omega, by go_num, by omega, by rw [HN.out]; exact HJ.out.2.2.1, HJ.out.1, HJ.out.2.1, below_drewN HJ.out.2.2.2 nq⟩
            case measure => (simp [intOf] <;> omega)
        · have e1 := eqP t.2.2 p HK.out.2.2.2 HP.out.1
          by_cases h1 : t.2.2 = p
          · have d1 : decide (t.2.2 = p) = true := decide_eq_true h1
            rw [d1] at e1
            have hsn := pinN_yes 2 (t := t) (p := p) h1
            have HN := hide hsn
            clear h1 d1 hsn
            go_upto_region 9 with fail
            go_quiet (fail)
            obtain ⟨W, hW⟩ : ∃ W, W = wr.drewN nq := ⟨_, rfl⟩
            have hBW : Below X.heap.size X W := by rw [hW]; exact below_drewN HJ.out.2.2.2 nq
            have ho1 : Own encT 9 40 W X.heap.size (.slice A1 m c1) m (L.map (·.1)) := by rw [hW]; exact HJ.out.1
            have ho2 : Own encP 3 38 W X.heap.size (.slice A2 m c2) m (L.map (·.2)) := by rw [hW]; exact HJ.out.2.1
            have hcW := HC.out.below8 (hBW.mono hzX0)
            obtain ⟨q0, q1, q2, q3, q4, q5, q6, q7, q8⟩ := hcW hbb
            have hzW := hBW.size
            have HW := hide (And.intro hBW (And.intro ho1 ho2))
            rw [← hW]
            clear hBW hcW hW g0 g1 g2 g3 g4 g5 g6 g7 g8 x0 x1 x2 e1
            have ho1' := ho1.alloc (.cells (encT t).toArray 40)
            go_upto_region 11 with (at_builtin; refine wpList_append1 rfl _ _ _ rfl Try.underlying29 infoT rfl (by omega) encT_len encT_one rfl ho1' W.heap.size 1 t rfl (Blk.new _ _ _) (by unfold maxLen; omega) (by omega) (by simp; omega) ?_; intro g4' cap4 w4 hown4 hg4 hB4 hat4 hgb4 hlt4)
            have ho2' := ((HW.out.2.2.alloc (.cells (encT t).toArray 40)).step hg4 (own_row8 ho1' (by decide)))
            have hBw4 : Below X.heap.size X w4 := (HW.out.1.alloc hzW _).trans hB4
            have hcw4 := HC.out.below8 (hBw4.mono hzX0)
            obtain ⟨g0, g1, g2, g3, g4, g5, g6, g7, g8⟩ := hcw4 hbb
            have hz4 := hBw4.size
            have H4 := hide (And.intro hown4 (And.intro ho2' hBw4))
            clear hown4 hg4 hB4 hat4 ho2' ho1' ho1 ho2 hcw4 hBw4 q0 q1 q2 q3 q4 q5 q6 q7 q8
            have ho2' := H4.out.2.1.alloc (.cells (encP t.1).toArray 38)
            go_wp2_with (at_builtin; refine wpList_append1 rfl _ _ _ rfl Try.underlying45 infoPt rfl (by omega) encP_len encP_one rfl ho2' w4.heap.size 1 t.1 rfl (Blk.new _ _ _) (by unfold maxLen; omega) (by omega) (by simp; omega) ?_; intro g5' cap5 w5 hown5 hg5 hB5 hat5 hgb5 hlt5)
            go_roundw
            case rel =>
              have ho1'' := (H4.out.1.alloc (.cells (encP t.1).toArray 38)).step hg5 (own_row8 ho2' (by decide))
              refine ⟨2 + 1, m + 1, L ++ [(t, t.1)], by omega, by go_num, by omega, by rw [HN.out, ← List.append_assoc, ← HJ.out.2.2.1]; rfl, ?_, ?_, (H4.out.2.2.alloc hz4 _).trans hB5⟩
              · rw [List.map_append]; exact ho1''
              · rw [List.map_append]; exact hown5
            case measure => (simp [intOf] <;> omega)
          · have d1 : decide (t.2.2 = p) = false := decide_eq_false h1
            rw [d1] at e1
            have hsn := pinN_no 2 (t := t) (p := p) h1
            have HN := hide hsn
            clear h1 d1 hsn
            go_upto_region 9 with fail
            go_quiet (fail)
            clear g0 g1 g2 g3 g4 g5 g6 g7 g8 e1
            go_wp2
            go_roundw
            case rel => exact ⟨2 + 1, m, L, by omega, by go_num, by omega, by rw [HN.out]; exact HJ.out.2.2.1, HJ.out.1, HJ.out.2.1, below_drewN HJ.out.2.2.2 nq⟩
            case measure => (simp [intOf] <;> omega)
        · have hsn := pinL_snoc l p k t HK.out.1
          rw [← HL.out.1] at hsn
          have HN := hide hsn
          clear hsn g0 g1 g2 g3 g4 g5 g6 g7 g8
          go_wp2
          go_roundw
          case rel => exact ⟨k + 1, m, L, by omega, by go_num, by omega, by rw [HN.out]; exact HJ.out.2.2.1, HJ.out.1, HJ.out.2.1, HJ.out.2.2.2⟩
          case measure => simp [intOf]; omega
    · have hke : k = l.length := by rw [← HS.out.2.1]; omega
      rw [hke, List.take_length] at hL0
      have hkn : n = k := by omega
      have hfl := pinL_fits (p := p) HS.out.2.2.1
      rw [← hL0] at hfl
      have hpp : pinchedP l p = (L0.map (·.2)).any fun s => runP (L0.map (·.1)) p s (m0 - 1) s := by
        have h1 := hown1.1
        rw [List.length_map] at h1
        unfold pinchedP
        rw [← hL0, h1]
      have HE := hide (And.intro hpp (And.intro hown1 (And.intro hown2 (And.intro hB hfl))))
      clear hL0 hke hown1 hown2 hB hfl hpp
      subst hkn
      obtain ⟨V, rfl⟩ : ∃ V, V = wr := ⟨_, rfl⟩
      obtain ⟨M, hM⟩ : ∃ M, M = L0.map (·.1) := ⟨_, rfl⟩
      obtain ⟨S, hS⟩ : ∃ S, S = L0.map (·.2) := ⟨_, rfl⟩
      rw [← hM, ← hS] at HE
      have hMf : ∀ u ∈ M, fitsT u := fun u hu => by
        rw [hM] at hu
        obtain ⟨y, hy, rfl⟩ := List.mem_map.1 hu
        exact (HE.out.2.2.2.2 y hy).1
      have hSf : ∀ u ∈ S, fitsP u := fun u hu => by
        rw [hS] at hu
        obtain ⟨y, hy, rfl⟩ := List.mem_map.1 hu
        exact (HE.out.2.2.2.2 y hy).2
      have hzV := HE.out.2.2.2.1.size
      have hSl := HE.out.2.2.1.1
      have hMl := HE.out.2.1.1
      have HF := hide (And.intro hMf (And.intro hSf (And.intro hSl (And.intro hMl trivial))))
      have hslM : Sl encT 9 V V.heap.size A10 M := HE.out.2.1.sl encT_len (Nat.le_refl _)
      have hslS : Sl encP 3 V V.heap.size A20 S := HE.out.2.2.1.sl encP_len (Nat.le_refl _)
      have hbp : Blk V w.heap.size 38 #[.int .i64 p.1, .int .i64 p.2.1, .int .i64 p.2.2] := HX.out.2.1.below HE.out.2.2.2.1 (by omega)
      have HV := hide (And.intro hslM (And.intro hslS (And.intro hbp trivial)))
      clear hMf hSf hSl hMl hM hS hslM hslS hbp
      go_wp2
      go_loopw [9] (fun iv wx => ∃ k : Nat, k ≤ m0 ∧ iv = .int .i64 k ∧ (∀ i s, i < k → S[i]? = some s → runP M p s (m0 - 1) s = false) ∧ Below V.heap.size V wx) (fun iv _ => m0 - (intOf iv).toNat)
      case atStart => exact ⟨0, by omega, rfl, fun i s hi => absurd hi (by omega), Below.refl _ V⟩
      case round =>
        obtain ⟨k, hk, rfl, hno, hB⟩ := hrel
        obtain ⟨V1, rfl⟩ : ∃ V1, V1 = wr := ⟨_, rfl⟩
        have hzV1 := hB.size
        by_cases hlt : k < m0
        · obtain ⟨s, hs⟩ : ∃ s, S[k]? = some s := ⟨_, List.getElem?_eq_getElem (by rw [← HF.out.2.2.1]; exact hlt)⟩
          have i1 : (k : Int) < (m0 : Int) := by omega
          have hfs := HF.out.2.1 s (List.mem_of_getElem? hs)
          obtain ⟨b2, o2, hA2, hb2, _⟩ := HV.out.2.1.at hs
          subst hA2
          obtain ⟨g0, g1, g2⟩ := (HV.out.2.1.below hB).pt8 hs
          have HK := hide (And.intro hs (And.intro hno (And.intro hB hfs)))
          clear hs hno hB hfs
          go_wp2
          obtain ⟨Y, hY⟩ : ∃ Y, Y = V1.alloc (.cells #[.int .i64 s.1, .int .i64 s.2.1, .int .i64 s.2.2] 38) := ⟨_, rfl⟩
          rw [← hY]
          have hBY : Below V1.heap.size V1 Y := by rw [hY]; exact (Below.refl _ V1).alloc (Nat.le_refl _) _
          have hbY : Blk Y V1.heap.size 38 #[.int .i64 s.1, .int .i64 s.2.1, .int .i64 s.2.2] := by rw [hY]; exact Blk.new _ _ _
          have HY := hide (And.intro hBY hbY)
          clear hBY hbY hY g0 g1 g2
          go_loopw [11] (fun zv wx => ∃ (z : Nat) (x : Pt), 1 ≤ z ∧ z ≤ m0 ∧ zv = .int .i64 z ∧ runP M p s (m0 - 1) s = runP M p s (m0 - z) x ∧ fitsP x ∧ Blk wx V1.heap.size 38 #[.int .i64 x.1, .int .i64 x.2.1, .int .i64 x.2.2] ∧ Below V1.heap.size V1 wx) (fun zv _ => m0 - (intOf zv).toNat)
          case atStart => exact ⟨1, s, by omega, by omega, rfl, rfl, HK.out.2.2.2, HY.out.2, HY.out.1⟩
          case round =>
            obtain ⟨z, x, hz1, hz, rfl, hrun, hfx, hbx, hBz⟩ := hrel
            have hzr := hBz.size
            have hzb := hbx.lt
            obtain ⟨x0, x1, x2⟩ := hbx.three8
            obtain ⟨y0, y1, y2⟩ := ((HV.out.2.2.1.below HK.out.2.2.1 (by omega)).below hBz (by omega)).three8
            by_cases hlz : z < m0
            · have i2 : (z : Int) < (m0 : Int) := by omega
              have hcal := behind_any A10 c10 M p x wr (((HV.out.1.below HK.out.2.2.1).below (hBz.mono hzV1)).more (by omega)) (by rw [← HF.out.2.2.2.1]; omega) HP.out.1 hfx HF.out.1
              rw [← HF.out.2.2.2.1] at hcal
              have HZ := hide (And.intro hrun (And.intro hfx (And.intro hbx (And.intro hBz hcal))))
              clear hrun hfx hbx hBz hcal
              have hrs : runP M p s (m0 - z) x = match behP M p x with | none => false | some y => if y = s then true else runP M p s (m0 - (z + 1)) y := by
                rw [show m0 - z = (m0 - (z + 1)) + 1 by omega]; rfl
              go_wp2_with fail
              refine HZ.out.2.2.2.2.mono ?_
              rintro e w5 ⟨rfl, hB5⟩
              have hz5 := hB5.size
              have hb5 := HZ.out.2.2.1.below hB5 hzb
              cases hbeh : behP M p x with
              | none =>
                rw [hbeh] at hrs
                have HR := hide (HZ.out.1.trans hrs)
                have HB5 := hide hB5
                clear hrs hbeh hB5 hb5
                go_wp2
                go_roundw
                case rel =>
                  refine ⟨k + 1, by omega, by go_num, fun i s' hi hs' => ?_, HK.out.2.2.1.trans ((HZ.out.2.2.2.1.mono hzV1).trans ((HB5.out.mono (by omega)).alloc (by omega) _))⟩
                  rcases Nat.lt_or_ge i k with h | h
                  · exact HK.out.2.1 i s' h hs'
                  · have e : i = k := by omega
                    subst e
                    rw [HK.out.1] at hs'
                    cases hs'
                    exact HR.out
                case measure => simp [intOf]; omega
              | some y =>
                rw [hbeh] at hrs
                have hfy : fitsP y := behP_fits HF.out.1 hbeh
                obtain ⟨u0, u1, u2⟩ := hb5.three8
                have f0 := hb5.frozen 0
                have f1 := hb5.frozen 1
                have f2 := hb5.frozen 2
                have hne : w5.heap.size ≠ V1.heap.size := by omega
                have hlt5 : V1.heap.size < w5.heap.size := by omega
                have HR := hide (And.intro (HZ.out.1.trans hrs) (And.intro hfy (And.intro hb5 hB5)))
                clear hrs hbeh hB5 hb5 hfy x0 x1 x2 y0 y1 y2
                go_upto_region 22 with fail
                obtain ⟨W, hW⟩ : ∃ W, W = (((w5.setCell ⟨V1.heap.size, 0, none⟩ (.int .i64 y.1)).setCell ⟨V1.heap.size, 1, none⟩ (.int .i64 y.2.1)).setCell ⟨V1.heap.size, 2, none⟩ (.int .i64 y.2.2)).alloc (.cells #[.int .i64 y.1, .int .i64 y.2.1, .int .i64 y.2.2] 38) := ⟨_, rfl⟩
                rw [← hW]
                have hBW : Below V1.heap.size V1 W := by
                  rw [hW]
                  exact ((((HZ.out.2.2.2.1.trans (HR.out.2.2.2.mono hzr)).setCell (by dsimp only; omega) _).setCell (by dsimp only; omega) _).setCell (by dsimp only; omega) _).alloc (by simp [World.setCell]; omega) _
                have hbW : Blk W V1.heap.size 38 #[.int .i64 y.1, .int .i64 y.2.1, .int .i64 y.2.2] := by rw [hW]; exact (HR.out.2.2.1.set3 _ _ _).alloc _
                have hsW : Sl encP 3 W V.heap.size (some ⟨b2, o2, none⟩) S := (HV.out.2.1.below HK.out.2.2.1).below (hBW.mono hzV1)
                obtain ⟨x0, x1, x2⟩ := hbW.three8
                obtain ⟨g0, g1, g2⟩ := hsW.pt8 HK.out.1
                have heq := eqP y s HR.out.2.1 HK.out.2.2.2
                have HW := hide (And.intro hBW hbW)
                clear hW hBW hbW hsW u0 u1 u2 f0 f1 f2
                by_cases hys : y = s
                · have hd : decide (y = s) = true := decide_eq_true hys
                  rw [hd] at heq
                  have hres : pinchedP l p = true := by
                    rw [HE.out.1, List.any_eq_true]
                    refine ⟨s, List.mem_of_getElem? HK.out.1, ?_⟩
                    rw [HR.out.1]
                    simp [hys]
                  have HG := hide hres
                  clear hys hd hres
                  go_quiet (fail)
                  go_wp2
                  go_ret
                  exact ⟨by rw [HG.out]; rfl, below_drewN (HX.out.1.trans ((HE.out.2.2.2.1.mono hzX0).trans ((HK.out.2.2.1.mono (by omega)).trans (HW.out.1.mono (by omega))))) _⟩
                · have hd : decide (y = s) = false := decide_eq_false hys
                  rw [hd] at heq
                  have hrn : runP M p s (m0 - 1) s = runP M p s (m0 - (z + 1)) y := by
                    rw [HR.out.1]
                    simp [hys]
                  have HG := hide hrn
                  clear hys hd hrn
                  go_quiet (fail)
                  go_wp2
                  go_roundw
                  case rel => exact ⟨z + 1, y, by omega, by omega, by go_num, HG.out, HR.out.2.1, HW.out.2.drewN _, below_drewN HW.out.1 _⟩
                  case measure => simp [intOf]; omega
            · have hze : z = m0 := by omega
              subst hze
              rw [Nat.sub_self] at hrun
              have HR := hide (And.intro hrun hBz)
              clear hrun hfx hbx hBz
              go_wp2
              go_roundw
              case rel =>
                refine ⟨k + 1, by omega, by go_num, fun i s' hi hs' => ?_, HK.out.2.2.1.trans (HR.out.2.mono hzV1)⟩
                rcases Nat.lt_or_ge i k with h | h
                · exact HK.out.2.1 i s' h hs'
                · have e : i = k := by omega
                  subst e
                  rw [HK.out.1] at hs'
                  cases hs'
                  exact HR.out.1
              case measure => simp [intOf]; omega
        · have hke : k = m0 := by omega
          have hall : pinchedP l p = false := by
            rw [HE.out.1, List.any_eq_false]
            intro s hs
            obtain ⟨i, hi⟩ := List.mem_iff_getElem?.1 hs
            have hil : i < S.length := (List.getElem?_eq_some_iff.1 hi).1
            rw [hno i s (by rw [hke, HF.out.2.2.1]; exact hil) hi]
            simp
          have HR := hide (And.intro hall hB)
          clear hno hall hB
          subst hke
          go_wp2
          go_ret
          exact ⟨by rw [HR.out.1]; rfl, HX.out.1.trans ((HE.out.2.2.2.1.mono hzX0).trans (HR.out.2.mono (by omega)))⟩
end Go.Proofs.Ytfljcgehhnmamaa
/- ref04.check, Check. -/
namespace Go.Proofs.Ytfljcgehhnmamaa
open Go.RowKit Go.Sort
def flatT (t : Tri) : Bool := decide (t.1 = t.2.1) || decide (t.2.1 = t.2.2) || decide (t.2.2 = t.1)
def twiceE (l : List Ed) (e : Ed) : Bool := decide (1 < cntE l e)
def checkP (l : List Tri) (op : Bool) : Int := if l.any flatT = true then 20 else if (edgesP l).any (twiceE (edgesP l)) = true then 21 else if (!op && decide (0 < (borderP l).length)) = true then 22 else if (cornersP l).any (pinchedP l) = true then 23 else 0
theorem any_none {α : Type} {f : α → Bool} {l : List α} {n k : Nat} (hn : n = l.length) (hk : n ≤ k) (h : ∀ i x, i < k → l[i]? = some x → f x = false) : l.any f = false := by
  rw [List.any_eq_false]
  intro x hx
  obtain ⟨i, hi⟩ := List.mem_iff_getElem?.1 hx
  have hil : i < l.length := (List.getElem?_eq_some_iff.1 hi).1
  rw [h i x (by omega) hi]
  simp
theorem any_some {α : Type} {f : α → Bool} {l : List α} {k : Nat} {x : α} (h : l[k]? = some x) (hf : f x = true) : l.any f = true := List.any_eq_true.2 ⟨x, List.mem_of_getElem? h, hf⟩
theorem none_succ {α : Type} {f : α → Bool} {l : List α} {k : Nat} {x : α} (hk : l[k]? = some x) (h : ∀ i x, i < k → l[i]? = some x → f x = false) (hf : f x = false) : ∀ i x, i < k + 1 → l[i]? = some x → f x = false := fun i y hi hy => by
  rcases Nat.lt_or_ge i k with h1 | h1
  · exact h i y h1 hy
  · have e : i = k := by omega
    subst e
    rw [hk] at hy
    cases hy
    exact hf
theorem corN_le (l : List Pt) (t : Tri) : (corN l t 3).length ≤ l.length + 3 := by
  have h1 := withP_length l t.1
  have h2 := withP_length (withP l t.1) t.2.1
  have h3 := withP_length (withP (withP l t.1) t.2.1) t.2.2
  show (withP (withP (withP l t.1) t.2.1) t.2.2).length ≤ _
  omega
theorem cornersP_le (ts : List Tri) : (cornersP ts).length ≤ 3 * ts.length := by
  have key : ∀ (us : List Tri) (l : List Pt), (us.foldl (fun l t => corN l t 3) l).length ≤ l.length + 3 * us.length := by
    intro us
    induction us with
    | nil => intro l; simp
    | cons t us ih =>
      intro l
      have h1 := ih (corN l t 3)
      have h2 := corN_le l t
      rw [List.foldl_cons, List.length_cons]
      omega
  have := key ts []
  unfold cornersP
  simpa using this
set_option maxRecDepth 100000 in
set_option maxHeartbeats 16000000 in
theorem check_any (A : Option Addr) (c : Nat) (l : List Tri) (op : Bool) (w : World) (hs : Sl encT 9 w w.heap.size A l) (hl : l.length ≤ 1073741824) (hf : ∀ t ∈ l, fitsT t) :
    Calls Try.prog 33 #[.slice A l.length c, .bool op] w fun e w' => e = .returned (.int .i64 (checkP l op)) ∧ Below w.heap.size w w' := by
  obtain ⟨n, hn⟩ : ∃ n, n = l.length := ⟨_, rfl⟩
  have hed := fun W (hW : Below w.heap.size w W) => edges_any A c l W ((hs.below hW).more hW.size) hl
  have hbo := fun W (hW : Below w.heap.size w W) => border_any A c l W ((hs.below hW).more hW.size) hl hf
  have hco := fun W (hW : Below w.heap.size w W) => corners_any A c l W ((hs.below hW).more hW.size) hl hf
  have hpi := fun W (hW : Below w.heap.size w W) (p : Pt) (hp : fitsP p) => pinched_any A c l p W ((hs.below hW).more hW.size) hl hp hf
  have hqb := cornersP_le l
  have hfe := edgesP_fits hf
  have hle := edgesP_length l
  obtain ⟨E, hE⟩ : ∃ E, E = edgesP l := ⟨_, rfl⟩
  obtain ⟨B, hB⟩ : ∃ B, B = borderP l := ⟨_, rfl⟩
  obtain ⟨Q, hQ⟩ : ∃ Q, Q = cornersP l := ⟨_, rfl⟩
  obtain ⟨R, hR⟩ : ∃ R, R = checkP l op := ⟨_, rfl⟩
  have hRe : R = if l.any flatT = true then 20 else if E.any (twiceE E) = true then 21 else if (!op && decide (0 < B.length)) = true then 22 else if Q.any (pinchedP l) = true then 23 else 0 := by rw [hR, hE, hB, hQ]; rfl
  rw [← hE] at hed hfe hle
  rw [← hB] at hbo
  rw [← hQ] at hco hqb
  rw [← hR]
  rw [← hn] at hl hed hbo hco hpi hle hqb ⊢
  obtain ⟨el, hel⟩ : ∃ el, el = E.length := ⟨_, rfl⟩
  rw [← hel] at hed hle
  have HS := hide (And.intro hs (And.intro hn (And.intro hf (And.intro hfe (And.intro hel hRe)))))
  have HC := hide (And.intro hed (And.intro hbo (And.intro hco (And.intro hpi (show Q.length ≤ 3221225472 by omega)))))
  have hel3 : el ≤ 3221225472 := by omega
  clear hs hn hf hfe hel hRe hed hbo hco hpi hqb hE hB hQ hR hle
  go_enter Try.func33, Try.ntmps33
  go_wp2
  go_loopw [5] (fun iv wr => ∃ k q : Nat, k ≤ n ∧ iv = .int .i64 k ∧ (∀ i t, i < k → l[i]? = some t → flatT t = false) ∧ wr = w.drewN q) (fun iv _ => n - (intOf iv).toNat)
  case atStart => exact ⟨0, 0, by omega, rfl, fun i t hi => absurd hi (by omega), rfl⟩
  case round =>
    obtain ⟨k, q, hk, rfl, hno, rfl⟩ := hrel
    by_cases hlt : k < n
    · obtain ⟨t, ht⟩ : ∃ t, l[k]? = some t := ⟨_, List.getElem?_eq_getElem (by rw [← HS.out.2.1]; exact hlt)⟩
      have i1 : (k : Int) < (n : Int) := by omega
      obtain ⟨b, o, hA, hbb, g0, g1, g2, g3, g4, g5, g6, g7, g8⟩ := HS.out.1.tri ht
      subst hA
      have hft := HS.out.2.2.1 t (List.mem_of_getElem? ht)
      have e1 := eqP t.1 t.2.1 hft.1 hft.2.1
      have e2 := eqP t.2.1 t.2.2 hft.2.1 hft.2.2
      have e3 := eqP t.2.2 t.1 hft.2.2 hft.1
      have hfl : flatT t = (decide (t.1 = t.2.1) || decide (t.2.1 = t.2.2) || decide (t.2.2 = t.1)) := rfl
      have HK := hide (And.intro ht hno)
      clear ht hno hft
      by_cases h1 : t.1 = t.2.1
      · have d1 : decide (t.1 = t.2.1) = true := decide_eq_true h1
        rw [d1] at e1
        have hx : flatT t = true := by rw [hfl, d1]; rfl
        have HX := hide (any_some HK.out.1 hx)
        clear h1 d1 hfl hx e2 e3
        go_wp2_with fail
        go_quiet (fail)
        go_wp2
        go_ret
        exact ⟨by rw [HS.out.2.2.2.2.2, if_pos HX.out]; rfl, below_drewN (below_drewN (Below.refl _ w) q) nq⟩
      · have d1 : decide (t.1 = t.2.1) = false := decide_eq_false h1
        rw [d1] at e1
        by_cases h2 : t.2.1 = t.2.2
        · have d2 : decide (t.2.1 = t.2.2) = true := decide_eq_true h2
          rw [d2] at e2
          have hx : flatT t = true := by rw [hfl, d1, d2]; rfl
          have HX := hide (any_some HK.out.1 hx)
          clear h1 d1 h2 d2 hfl hx e3
          go_wp2_with fail
          go_quiet (fail)
          go_wp2
          go_ret
          exact ⟨by rw [HS.out.2.2.2.2.2, if_pos HX.out]; rfl, below_drewN (below_drewN (Below.refl _ w) q) nq⟩
        · have d2 : decide (t.2.1 = t.2.2) = false := decide_eq_false h2
          rw [d2] at e2
          by_cases h3 : t.2.2 = t.1
          · have d3 : decide (t.2.2 = t.1) = true := decide_eq_true h3
            rw [d3] at e3
            have hx : flatT t = true := by rw [hfl, d1, d2, d3]; rfl
            have HX := hide (any_some HK.out.1 hx)
            clear h1 d1 h2 d2 h3 d3 hfl hx
            go_wp2_with fail
            go_quiet (fail)
            go_wp2
            go_ret
            exact ⟨by rw [HS.out.2.2.2.2.2, if_pos HX.out]; rfl, below_drewN (below_drewN (Below.refl _ w) q) nq⟩
          · have d3 : decide (t.2.2 = t.1) = false := decide_eq_false h3
            rw [d3] at e3
            have hx : flatT t = false := by rw [hfl, d1, d2, d3]; rfl
            have HX := hide (none_succ HK.out.1 HK.out.2 hx)
            clear h1 d1 h2 d2 h3 d3 hfl hx
            go_wp2_with fail
            go_quiet (fail)
            go_wp2
            go_roundw
            case rel => exact ⟨k + 1, q + nq, by omega, by go_num, HX.out, rfl⟩
            case measure => simp [intOf]; omega
    · have hnone := any_none HS.out.2.1 (by omega : n ≤ k) hno
      have hRe := HS.out.2.2.2.2.2
      rw [if_neg (by rw [hnone]; simp)] at hRe
      have HR := hide hRe
      clear hno hnone hRe
      have hB0 : Below w.heap.size w (w.drewN q) := below_drewN (Below.refl _ w) q
      obtain ⟨w0, hw0⟩ : ∃ w0, w0 = w.drewN q := ⟨_, rfl⟩
      rw [← hw0] at hB0 ⊢
      clear hw0
      have hz0 := hB0.size
      go_wp2_with fail
      refine (HC.out.1 w0 hB0).mono ?_
      rintro e w1 ⟨v1, rfl, hown1, hB1⟩
      obtain ⟨A1, c1, rfl⟩ := hown1.form
      have hB01 : Below w.heap.size w w1 := hB0.trans (hB1.mono hz0)
      have hz1 := hB01.size
      have H1 := hide (And.intro (hown1.sl encE_len (Nat.le_refl _)) hB01)
      clear hown1 hB1 hB01 hB0
      go_wp2
      go_loopw [7] (fun iv wr => ∃ k : Nat, k ≤ el ∧ iv = .int .i64 k ∧ (∀ i x, i < k → E[i]? = some x → twiceE E x = false) ∧ Below w1.heap.size w1 wr) (fun iv _ => el - (intOf iv).toNat)
      case atStart => exact ⟨0, by omega, rfl, fun i t hi => absurd hi (by omega), Below.refl _ w1⟩
      case round =>
        obtain ⟨k2, hk2, rfl, hno, hB⟩ := hrel
        have hzr := hB.size
        by_cases hlt2 : k2 < el
        · obtain ⟨x, hx⟩ : ∃ x, E[k2]? = some x := ⟨_, List.getElem?_eq_getElem (by rw [← HS.out.2.2.2.2.1]; exact hlt2)⟩
          have i2 : (k2 : Int) < (el : Int) := by omega
          have hsl := H1.out.1.below hB
          obtain ⟨b, o, hA, hbb, _⟩ := hsl.at hx
          subst hA
          obtain ⟨g0, g1, g2, g3, g4, g5⟩ := hsl.ed hx
          have hcal := count_any (some ⟨b, o, none⟩) c1 E x wr (hsl.more hzr) (by rw [← HS.out.2.2.2.2.1]; omega) (HS.out.2.2.2.1 x (List.mem_of_getElem? hx)) HS.out.2.2.2.1
          rw [← HS.out.2.2.2.2.1] at hcal
          have htw : twiceE E x = decide (1 < cntE E x) := rfl
          obtain ⟨m, hm⟩ : ∃ m, m = cntE E x := ⟨_, rfl⟩
          rw [← hm] at hcal htw
          have HK := hide (And.intro hx (And.intro hno (And.intro hB hcal)))
          clear hsl hx hno hB hcal hm
          go_wp2_with fail
          refine HK.out.2.2.2.mono ?_
          rintro e w2 ⟨rfl, hB2⟩
          have hB12 : Below w1.heap.size w1 w2 := HK.out.2.2.1.trans (hB2.mono hzr)
          by_cases h1 : 1 < m
          · have j1 : (1 : Int) < (m : Int) := by omega
            have hx : twiceE E x = true := by rw [htw]; simp [h1]
            have HX := hide (And.intro (any_some HK.out.1 hx) hB12)
            clear htw hx hB2 hB12
            go_wp2
            go_ret
            exact ⟨by rw [HR.out, if_pos HX.out.1]; rfl, H1.out.2.trans (HX.out.2.mono hz1)⟩
          · have j1 : ¬ (1 : Int) < (m : Int) := by omega
            have hx : twiceE E x = false := by rw [htw]; simp [h1]
            have HX := hide (And.intro (none_succ HK.out.1 HK.out.2.1 hx) hB12)
            clear htw hx hB2 hB12
            go_wp2
            go_roundw
            case rel => exact ⟨k2 + 1, by omega, by go_num, HX.out.1, HX.out.2⟩
            case measure => simp [intOf]; omega
        · have hnone := any_none HS.out.2.2.2.2.1 (by omega : el ≤ k2) hno
          have hRe := HR.out
          rw [if_neg (by rw [hnone]; simp)] at hRe
          have hBw : Below w.heap.size w wr := H1.out.2.trans (hB.mono hz1)
          have HR2 := hide (And.intro hRe hBw)
          clear hno hnone hRe hBw hB
          have hzw : w.heap.size ≤ wr.heap.size := HR2.out.2.size
          cases op with
          | true =>
            have hRe := HR2.out.1
            rw [if_neg (by simp)] at hRe
            have HR3 := hide hRe
            clear hRe
            obtain ⟨V, rfl⟩ : ∃ V, V = wr := ⟨_, rfl⟩
            have HV := hide HR2.out.2
            go_wp2_with fail
            refine (HC.out.2.2.1 V HV.out).mono ?_
            rintro e w5 ⟨A5, c5, rfl, hs5, _, hB5, hf5⟩
            have hB05 : Below w.heap.size w w5 := HV.out.trans (hB5.mono HV.out.size)
            have hz5 := hB05.size
            have hqb := HC.out.2.2.2.2
            obtain ⟨ql, hql⟩ : ∃ ql, ql = Q.length := ⟨_, rfl⟩
            rw [← hql] at hqb ⊢
            have H5 := hide (And.intro hs5 (And.intro hf5 (And.intro hql hB05)))
            clear hs5 hf5 hql hB5 hB05
            go_wp2
            go_loopw [9] (fun iv wr => ∃ k : Nat, k ≤ ql ∧ iv = .int .i64 k ∧ (∀ i x, i < k → Q[i]? = some x → pinchedP l x = false) ∧ Below w5.heap.size w5 wr) (fun iv _ => ql - (intOf iv).toNat)
            case atStart => exact ⟨0, by omega, rfl, fun i t hi => absurd hi (by omega), Below.refl _ w5⟩
            case round =>
              obtain ⟨k5, hk5, rfl, hno, hB⟩ := hrel
              have hzr := hB.size
              by_cases hlt5 : k5 < ql
              · obtain ⟨x, hx⟩ : ∃ x, Q[k5]? = some x := ⟨_, List.getElem?_eq_getElem (by rw [← H5.out.2.2.1]; exact hlt5)⟩
                have i5 : (k5 : Int) < (ql : Int) := by omega
                have hsl := H5.out.1.below hB
                obtain ⟨b, o, hA, hbb, _⟩ := hsl.at hx
                subst hA
                obtain ⟨g0, g1, g2⟩ := hsl.pt8 hx
                have hcal := HC.out.2.2.2.1 wr (H5.out.2.2.2.trans (hB.mono hz5)) x (H5.out.2.1 x (List.mem_of_getElem? hx))
                have HK := hide (And.intro hx (And.intro hno (And.intro hB hcal)))
                clear hsl hx hno hB hcal
                go_wp2_with fail
                refine HK.out.2.2.2.mono ?_
                rintro e w6 ⟨rfl, hB6⟩
                have hB56 : Below w5.heap.size w5 w6 := HK.out.2.2.1.trans (hB6.mono (by omega))
                cases hp : pinchedP l x
                · have HX := hide (And.intro (none_succ HK.out.1 HK.out.2.1 hp) hB56)
                  clear hp hB6 hB56
                  go_wp2
                  go_roundw
                  case rel => exact ⟨k5 + 1, by omega, by go_num, HX.out.1, HX.out.2⟩
                  case measure => simp [intOf]; omega
                · have HX := hide (And.intro (any_some HK.out.1 hp) hB56)
                  clear hp hB6 hB56
                  go_wp2
                  go_ret
                  exact ⟨by rw [HR3.out, if_pos HX.out.1]; rfl, H5.out.2.2.2.trans (HX.out.2.mono hz5)⟩
              · have hnone := any_none H5.out.2.2.1 (by omega : ql ≤ k5) hno
                have hRf := HR3.out
                rw [if_neg (by rw [hnone]; simp)] at hRf
                have HX := hide (And.intro hRf (H5.out.2.2.2.trans (hB.mono hz5)))
                clear hno hnone hRf hB
                go_wp2
                go_ret
                exact ⟨by rw [HX.out.1]; rfl, HX.out.2⟩
          | false =>
            have hRe := HR2.out.1
            simp only [Bool.not_false, Bool.true_and, decide_eq_true_eq] at hRe
            have HRb := hide hRe
            clear hRe
            go_wp2_with fail
            refine (HC.out.2.1 wr HR2.out.2).mono ?_
            rintro e w4 ⟨A4, c4, rfl, _, _, hB4⟩
            have hB04 : Below w.heap.size w w4 := HR2.out.2.trans (hB4.mono hzw)
            obtain ⟨bl, hbl⟩ : ∃ bl, bl = B.length := ⟨_, rfl⟩
            rw [← hbl] at HRb ⊢
            by_cases h0 : 0 < bl
            · have j0 : (0 : Int) < (bl : Int) := by omega
              have hRf := HRb.out
              rw [if_pos h0] at hRf
              have HX := hide (And.intro hRf hB04)
              clear hbl hB4 hB04 hRf
              go_wp2
              go_ret
              exact ⟨by rw [HX.out.1]; rfl, HX.out.2⟩
            · have j0 : bl = 0 := by omega
              have hRf := HRb.out
              rw [if_neg h0] at hRf
              have HR3 := hide hRf
              clear hbl hRf h0
              subst j0
              have HV := hide hB04
              clear hB4 hB04
              obtain ⟨V, rfl⟩ : ∃ V, V = w4 := ⟨_, rfl⟩
              go_wp2_with fail
              refine (HC.out.2.2.1 V HV.out).mono ?_
              rintro e w5 ⟨A5, c5, rfl, hs5, _, hB5, hf5⟩
              have hB05 : Below w.heap.size w w5 := HV.out.trans (hB5.mono HV.out.size)
              have hz5 := hB05.size
              have hqb := HC.out.2.2.2.2
              obtain ⟨ql, hql⟩ : ∃ ql, ql = Q.length := ⟨_, rfl⟩
              rw [← hql] at hqb ⊢
              have H5 := hide (And.intro hs5 (And.intro hf5 (And.intro hql hB05)))
              clear hs5 hf5 hql hB5 hB05
              go_wp2
              go_loopw [9] (fun iv wr => ∃ k : Nat, k ≤ ql ∧ iv = .int .i64 k ∧ (∀ i x, i < k → Q[i]? = some x → pinchedP l x = false) ∧ Below w5.heap.size w5 wr) (fun iv _ => ql - (intOf iv).toNat)
              case atStart => exact ⟨0, by omega, rfl, fun i t hi => absurd hi (by omega), Below.refl _ w5⟩
              case round =>
                obtain ⟨k5, hk5, rfl, hno, hB⟩ := hrel
                have hzr := hB.size
                by_cases hlt5 : k5 < ql
                · obtain ⟨x, hx⟩ : ∃ x, Q[k5]? = some x := ⟨_, List.getElem?_eq_getElem (by rw [← H5.out.2.2.1]; exact hlt5)⟩
                  have i5 : (k5 : Int) < (ql : Int) := by omega
                  have hsl := H5.out.1.below hB
                  obtain ⟨b, o, hA, hbb, _⟩ := hsl.at hx
                  subst hA
                  obtain ⟨g0, g1, g2⟩ := hsl.pt8 hx
                  have hcal := HC.out.2.2.2.1 wr (H5.out.2.2.2.trans (hB.mono hz5)) x (H5.out.2.1 x (List.mem_of_getElem? hx))
                  have HK := hide (And.intro hx (And.intro hno (And.intro hB hcal)))
                  clear hsl hx hno hB hcal
                  go_wp2_with fail
                  refine HK.out.2.2.2.mono ?_
                  rintro e w6 ⟨rfl, hB6⟩
                  have hB56 : Below w5.heap.size w5 w6 := HK.out.2.2.1.trans (hB6.mono (by omega))
                  cases hp : pinchedP l x
                  · have HX := hide (And.intro (none_succ HK.out.1 HK.out.2.1 hp) hB56)
                    clear hp hB6 hB56
                    go_wp2
                    go_roundw
                    case rel => exact ⟨k5 + 1, by omega, by go_num, HX.out.1, HX.out.2⟩
                    case measure => simp [intOf]; omega
                  · have HX := hide (And.intro (any_some HK.out.1 hp) hB56)
                    clear hp hB6 hB56
                    go_wp2
                    go_ret
                    exact ⟨by rw [HR3.out, if_pos HX.out.1]; rfl, H5.out.2.2.2.trans (HX.out.2.mono hz5)⟩
                · have hnone := any_none H5.out.2.2.1 (by omega : ql ≤ k5) hno
                  have hRf := HR3.out
                  rw [if_neg (by rw [hnone]; simp)] at hRf
                  have HX := hide (And.intro hRf (H5.out.2.2.2.trans (hB.mono hz5)))
                  clear hno hnone hRf hB
                  go_wp2
                  go_ret
                  exact ⟨by rw [HX.out.1]; rfl, HX.out.2⟩
theorem Check_any (A : Option Addr) (c : Nat) (l : List Tri) (w : World) (hs : Sl encT 9 w w.heap.size A l) (hl : l.length ≤ 1073741824) (hf : ∀ t ∈ l, fitsT t) :
    Calls Try.prog 18 #[.slice A l.length c] w fun e w' => e = .returned (.int .i64 (checkP l false)) ∧ Below w.heap.size w w' := by
  have hcal := check_any A c l false w hs hl hf
  have HC := hide hcal
  clear hcal hs hl hf
  go_enter Try.func18, Try.ntmps18
  go_wp2_with fail
  refine HC.out.mono ?_
  rintro e w1 ⟨rfl, hB⟩
  go_wp2
  go_ret
  exact ⟨rfl, hB⟩
end Go.Proofs.Ytfljcgehhnmamaa
