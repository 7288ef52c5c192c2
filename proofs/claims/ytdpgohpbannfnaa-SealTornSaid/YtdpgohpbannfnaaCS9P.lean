/- ref07.component. -/
import Derived.Test.YtdpgohpbannfnaaCB2
import Derived.Test.YtdpgohpbannfnaaCS9O
import Derived.Test.YtdpgohpbannfnaaCS9N
namespace Go.Proofs.Ytdpgohpbannfnaa
open Go.RowKit Go.Sort Go.WideMaps Go.Maps
/-- The marks missing in a row of memory. -/
def noV (v : Value) : Bool := match v with | .bool false => true | _ => false
def noW (w : World) (g : Nat) : Nat := match w.heap[g]? with | some (.cells cs _ _) => cs.toList.countP noV | _ => 0
theorem noW_row {w : World} {g : Nat} {F : List Bool} (h : RowB w g F) : noW w g = noN F := by
  unfold RowB Blk at h
  unfold noW
  rw [h]
  show (F.map Value.bool).countP noV = noN F
  rw [List.countP_map]
  unfold noN
  congr 1
  funext b
  cases b <;> rfl
def grV (v : Value) : Nat := match v with | .bool true => 1 | _ => 0
theorem mark_first {l : List EF} {f0 : EF} (h : l[0]? = some f0) : MarkP l f0 ((List.replicate l.length false).set 0 true) := by
  cases l with
  | nil => simp at h
  | cons a t =>
    simp at h
    subst h
    exact mark_start
/-- A pass under way. -/
def GrowP (l : List EF) (F G : List Bool) (b : Bool) (i : Nat) : Prop := (b = true ∧ noN G < noN F) ∨ (b = false ∧ G = F ∧ passP l F i)
def RowQ (l : List EF) (F G : List Bool) (b : Bool) (i k : Nat) : Prop := (b = true ∧ noN G < noN F) ∨ (b = false ∧ G = F ∧ passP l F i ∧ rowP l F i k)
theorem GrowP.pass {l : List EF} {F G : List Bool} {b : Bool} (h : GrowP l F G b l.length) : b = false → passP l G l.length := by
  intro hb
  rcases h with h | h
  · rw [h.1] at hb; cases hb
  · rw [h.2.1]; exact h.2.2
theorem RowQ.all {l : List EF} {F G : List Bool} {b : Bool} {i : Nat} (h : RowQ l F G b i l.length) : GrowP l F G b (i + 1) := by
  rcases h with h | ⟨h1, h2, h3, h4⟩
  · exact .inl h
  · exact .inr ⟨h1, h2, h3.row h4⟩
theorem RowQ.got {l : List EF} {F G : List Bool} {b : Bool} {i k : Nat} (h : RowQ l F G b i k) (hi : G[i]? = some true) : GrowP l F G b (i + 1) := by
  rcases h with h | ⟨h1, h2, h3, h4⟩
  · exact .inl h
  · subst h2
    exact .inr ⟨h1, rfl, h3.row (rowP.done hi _)⟩
theorem RowQ.next {l : List EF} {F G : List Bool} {b : Bool} {i k : Nat} (h : RowQ l F G b i k) {f g : EF} (hf : l[i]? = some f) (hg : l[k]? = some g) (hn : ¬ (G[k]? = some true ∧ touch f g = true)) : RowQ l F G b i (k + 1) := by
  rcases h with h | ⟨h1, h2, h3, h4⟩
  · exact .inl h
  · subst h2
    exact .inr ⟨h1, rfl, h3, h4.next hf hg hn⟩
theorem RowQ.met {l : List EF} {F G : List Bool} {b : Bool} {i k k' : Nat} (h : RowQ l F G b i k) (hi : G[i]? = some false) : RowQ l F (G.set i true) true i k' := by
  have h1 := noN_set hi
  rcases h with h | ⟨_, h2, _, _⟩
  · exact .inl ⟨rfl, by omega⟩
  · subst h2
    exact .inl ⟨rfl, by omega⟩
theorem own_apart {α : Type} {enc : α → List Value} {k : Nat} {e : TypeId} {V W U : World} {base m gp : Nat} {pv rv : Value} {ys : List α} (hr : Own enc k e V base rv m ys) (hVW : Below V.heap.size V W) (hg : W.grownBy U pv.ownBlock) (hat : pv.ownBlock = some gp ∨ gp = W.heap.size) (hap : pv.ownBlock = none ∨ pv.ownBlock ≠ rv.ownBlock) : Own enc k e U base rv m ys ∧ some gp ≠ rv.ownBlock := by
  refine ⟨(hr.below hVW (Nat.le_refl _)).kept hg ?_, ?_⟩
  · rcases hap with h | h
    · rw [h]
      cases hv : rv.ownBlock with
      | none => exact .inl rfl
      | some b => exact .inr (by simp)
    · exact .inr fun e => h e.symm
  · intro e
    rcases hat with h | h
    · rcases hap with h2 | h2
      · rw [h2] at h; cases h
      · exact h2 (h.trans e)
    · have h1 := (hr.blk gp e.symm).2
      have h2 := hVW.size
      omega
theorem ap_symm {p r : Option Nat} (h : p = none ∨ p ≠ r) : r = none ∨ r ≠ p := by
  cases r with
  | none => exact .inl rfl
  | some b =>
    rcases h with h | h
    · rw [h]; exact .inr (by simp)
    · exact .inr fun e => h e.symm
/-- The state of the marks. -/
structure CmpR (w wr : World) (l : List EF) (f0 : EF) (F : List Bool) : Prop where
  mark : MarkP l f0 F
  row : RowB wr w.heap.size F
  bel : Below w.heap.size w wr
theorem CmpR.on {w wr W : World} {l : List EF} {f0 : EF} {F : List Bool} (h : CmpR w wr l f0 F) (hb : Below wr.heap.size wr W) : CmpR w W l f0 F := ⟨h.mark, h.row.on hb, h.bel.trans (hb.mono h.bel.size)⟩
set_option maxRecDepth 100000 in
set_option maxHeartbeats 32000000 in
theorem component7_any (A : Option Addr) (c : Nat) (l : List EF) (f0 : EF) (w : World) (hsl : Sl encF 4 w w.heap.size A l) (h0 : l[0]? = some f0) (hnd : l.Nodup) (ht : ∀ f ∈ l, tinyF f) (hl : l.length ≤ 100000) :
    Calls Try.prog 39 #[.slice A l.length c] w fun e w' => ∃ v1 v2, e = .returned (.tuple #[v1, v2]) ∧ Own encF 4 45 w' w.heap.size v1 (compF l f0).length (compF l f0) ∧ Own encF 4 45 w' w.heap.size v2 (restF l f0).length (restF l f0) ∧ Below w.heap.size w w' := by
  have hl0 : 0 < l.length := (List.getElem?_eq_some_iff.1 h0).1
  have hms := mark_first h0
  obtain ⟨M, hM⟩ : ∃ M, M = l.length := ⟨_, rfl⟩
  rw [← hM] at hl hl0 hms ⊢
  have hmk := mk_bl7 M (by omega)
  obtain ⟨ZN, hZN⟩ : ∃ Z, Z = ((List.replicate M false).map Value.bool).toArray := ⟨_, rfl⟩
  rw [← hZN] at hmk
  have HZN := hide hZN
  clear hZN
  have H0 := hide (And.intro hsl (And.intro h0 (And.intro hnd (And.intro ht hM))))
  have HM := hide hms
  clear hsl h0 hnd ht hM hms
  go_enter Try.func39, Try.ntmps39
  go_upto_region 2 with fail
  obtain ⟨X, hX⟩ : ∃ X, X = w.alloc (.cells ZN 4) := ⟨_, rfl⟩
  rw [← hX]
  have hr : RowB X w.heap.size (List.replicate M false) := by rw [hX, HZN.out]; exact Blk.new _ _ _
  have hB : Below w.heap.size w X := by rw [hX]; exact (Below.refl _ w).alloc (Nat.le_refl _) _
  have e0 := hr.cell (i := 0) (b := false) (by rw [List.getElem?_replicate, if_pos hl0])
  have z0 := hr.frozen 0
  have KX := hide (And.intro hr hB)
  clear hr hB hX hmk
  go_upto_region 3 with fail
  obtain ⟨X1, hX1⟩ : ∃ X1, X1 = X.setCell ⟨w.heap.size, 0, none⟩ (.bool true) := ⟨_, rfl⟩
  rw [← hX1]
  have K1 := hide (show CmpR w X1 l f0 ((List.replicate M false).set 0 true) by rw [hX1]; exact ⟨HM.out, KX.out.1.set 0 true, KX.out.2.setCell (Nat.le_refl _) _⟩)
  clear hX1 e0 z0 KX HM
  go_wp2_with fail
  go_loopw [5] (fun gv wr => ∃ (b : Bool) (F : List Bool), gv = .bool b ∧ CmpR w wr l f0 F ∧ (b = false → passP l F l.length)) (fun gv wr => 2 * noW wr w.heap.size + grV gv)
  case atStart => exact ⟨true, _, rfl, K1.out, fun h => by cases h⟩
  case round =>
    obtain ⟨V, rfl⟩ : ∃ V, V = wr := ⟨_, rfl⟩
    obtain ⟨b, F, rfl, hC, hp⟩ := hrel
    cases b with
    | true =>
      have HV := hide hC
      clear hC hp
      have hno := noW_row HV.out.row
      have HNo := hide hno
      clear hno
      go_wp2_with fail
      go_loopw [5, 6] (fun gv iv wr => ∃ (i : Nat) (b : Bool) (G : List Bool), i ≤ M ∧ iv = .int .i64 i ∧ gv = .bool b ∧ CmpR w wr l f0 G ∧ GrowP l F G b i) (fun _ iv _ => M - (intOf iv).toNat)
      case atStart => exact ⟨0, false, F, by omega, rfl, rfl, HV.out, .inr ⟨rfl, rfl, fun j k f g hj => by omega⟩⟩
      case round =>
        obtain ⟨V1, rfl⟩ : ∃ V1, V1 = wr := ⟨_, rfl⟩
        obtain ⟨i, b, G, hi, rfl, rfl, hC, hg⟩ := hrel
        have HV1 := hide (And.intro hC hg)
        clear hC hg
        by_cases hiM : i < M
        · have i1 : (i : Int) < (M : Int) := by omega
          obtain ⟨f, hf⟩ : ∃ f, l[i]? = some f := ⟨_, List.getElem?_eq_getElem (by rw [← H0.out.2.2.2.2]; exact hiM)⟩
          have HF := hide (And.intro hf (H0.out.2.2.2.1 f (List.mem_of_getElem? hf)))
          clear hf
          go_wp2_with fail
          go_loopw [5, 7] (fun gv kv wr => ∃ (k : Nat) (b : Bool) (G : List Bool), k ≤ M ∧ kv = .int .i64 k ∧ gv = .bool b ∧ CmpR w wr l f0 G ∧ RowQ l F G b i k) (fun _ kv _ => M - (intOf kv).toNat)
          case atStart => exact ⟨0, b, G, by omega, rfl, rfl, HV1.out.1, HV1.out.2.imp id fun ⟨h1, h2, h3⟩ => ⟨h1, h2, h3, fun j f g hj => by omega⟩⟩
          case round =>
            clear HV1
            obtain ⟨V2, rfl⟩ : ∃ V2, V2 = wr := ⟨_, rfl⟩
            obtain ⟨k, b2, G2, hk, rfl, rfl, hC, hq⟩ := hrel
            have HV2 := hide (And.intro hC hq)
            clear hC hq
            by_cases hkM : k < M
            · have k1 : (k : Int) < (M : Int) := by omega
              obtain ⟨g, hg⟩ : ∃ g, l[k]? = some g := ⟨_, List.getElem?_eq_getElem (by rw [← H0.out.2.2.2.2]; exact hkM)⟩
              have HG := hide (And.intro hg (H0.out.2.2.2.1 g (List.mem_of_getElem? hg)))
              have hlen : G2.length = M := by rw [HV2.out.1.mark.len, H0.out.2.2.2.2]
              obtain ⟨bi, hbi⟩ : ∃ bi, G2[i]? = some bi := ⟨_, List.getElem?_eq_getElem (by rw [hlen]; exact hiM)⟩
              obtain ⟨bk, hbk⟩ : ∃ bk, G2[k]? = some bk := ⟨_, List.getElem?_eq_getElem (by rw [hlen]; exact hkM)⟩
              have ei := HV2.out.1.row.cell hbi
              have ek := HV2.out.1.row.cell hbk
              have zi := HV2.out.1.row.frozen i
              clear hg hlen
              cases bi with
              | true =>
                have hgr := HV2.out.2.got hbi
                have HQ := hide (And.intro hgr HV2.out.1)
                clear hbi hbk hgr
                go_wp2_with fail
                go_roundw
                case rel => exact ⟨i + 1, b2, G2, by omega, by go_num, rfl, HQ.out.2, HQ.out.1⟩
                case measure => simp [intOf]; omega
              | false =>
                cases bk with
                | false =>
                  have hnx := HV2.out.2.next HF.out.1 HG.out.1 (fun h => by rw [hbk] at h; cases h.1)
                  have HQ := hide (And.intro hnx HV2.out.1)
                  clear hbi hbk hnx
                  go_wp2_with fail
                  go_quiet (fail)
                  go_wp2_with fail
                  go_roundw
                  case rel => exact ⟨k + 1, b2, G2, by omega, by go_num, rfl, HQ.out.2.on (below_drewN (Below.refl _ V2) nq), HQ.out.1⟩
                  case measure => simp [intOf]; omega
                | true =>
                  obtain ⟨tb, oo, hA, htb, g0, g1, g2, g3⟩ := ((H0.out.1.below HV2.out.1.bel).more HV2.out.1.bel.size).four HF.out.1
                  obtain ⟨tb2, oo2, hA2, htb2, g4, g5, g6, g7⟩ := ((H0.out.1.below HV2.out.1.bel).more HV2.out.1.bel.size).four HG.out.1
                  subst hA
                  injection hA2 with hA2
                  injection hA2 with hA2 hA3
                  subst hA2 hA3
                  have htc := touch7_any f g HF.out.2 HG.out.2
                  obtain ⟨fa, fx, fy, fz⟩ := f
                  obtain ⟨ga, gx, gy, gz⟩ := g
                  dsimp only at g0 g1 g2 g3 g4 g5 g6 g7
                  have HB := hide (And.intro hbi hbk)
                  have HT := hide htc
                  clear hbi hbk htc htb htb2
                  go_wp2_with fail
                  have hS0 : V2.drew = V2.drew := rfl
                  refine wp_region_mix (fun W => W = V2.drew) [0, 1, 2, 3, 4, 5, 6, 7, 8, 9, 10, 11, 12] [0, 1, 2, 3, 4, 5, 6, 7, 8, 9, 10, 11, 12, 13, 14] mixed_ok (by kernel_rfl) ?_
                  refine wpMix_q (v := .slice (some ⟨w.heap.size, 0, none⟩) M M) rfl rfl (fun _ _ _ h => h) hS0 ⟨rfl, fun _ _ => by simp [go_sem]⟩ ?_
                  refine wpMix_q (v := .int .i64 k) rfl rfl (fun _ _ _ h => h) hS0 ⟨rfl, fun _ _ => by simp [go_sem]⟩ ?_
                  refine wpMix_q (v := .pointer (some ⟨w.heap.size, k, none⟩)) rfl rfl (fun _ _ _ h => h) hS0 ⟨rfl, fun _ _ => by simp [go_sem, k1]⟩ ?_
                  refine wpMix_q (v := .bool true) rfl rfl (fun _ _ _ h => h) hS0 ⟨rfl, fun _ h' => by subst h'; simp [go_sem, ek]⟩ ?_
                  refine wpMix_q (v := .bool true) rfl rfl (fun _ _ _ h => h) hS0 ⟨rfl, fun _ _ => by simp [go_sem]⟩ ?_
                  try simp only [List.getElem_toArray, List.getElem_cons_succ, List.getElem_cons_zero, Act.put, List.setIfInBounds_toArray, List.set_cons_succ, List.set_cons_zero]
                  refine wpMix_q (v := .slice (some ⟨tb, oo, none⟩) M c) rfl rfl (fun _ _ _ h => h) hS0 ⟨rfl, fun _ _ => by simp [go_sem]⟩ ?_
                  refine wpMix_q (v := .int .i64 i) rfl rfl (fun _ _ _ h => h) hS0 ⟨rfl, fun _ _ => by simp [go_sem]⟩ ?_
                  refine wpMix_q (v := .pointer (some ⟨tb, oo + i * 4, none⟩)) rfl rfl (fun _ _ _ h => h) hS0 ⟨rfl, fun _ _ => by simp [go_sem, i1]⟩ ?_
                  refine wpMix_q (v := .agg #[.int .i64 fa, .int .i64 fx, .int .i64 fy, .int .i64 fz]) rfl rfl (fun _ _ _ h => h) hS0 ⟨rfl, fun _ h' => by subst h'; simp [go_sem, g0, g1, g2, g3]⟩ ?_
                  refine wpMix_q (v := .slice (some ⟨tb, oo, none⟩) M c) rfl rfl (fun _ _ _ h => h) hS0 ⟨rfl, fun _ _ => by simp [go_sem]⟩ ?_
                  try simp only [List.getElem_toArray, List.getElem_cons_succ, List.getElem_cons_zero, Act.put, List.setIfInBounds_toArray, List.set_cons_succ, List.set_cons_zero]
                  refine wpMix_q (v := .int .i64 k) rfl rfl (fun _ _ _ h => h) hS0 ⟨rfl, fun _ _ => by simp [go_sem]⟩ ?_
                  refine wpMix_q (v := .pointer (some ⟨tb, oo + k * 4, none⟩)) rfl rfl (fun _ _ _ h => h) hS0 ⟨rfl, fun _ _ => by simp [go_sem, k1]⟩ ?_
                  refine wpMix_q (v := .agg #[.int .i64 ga, .int .i64 gx, .int .i64 gy, .int .i64 gz]) rfl rfl (fun _ _ _ h => h) hS0 ⟨rfl, fun _ h' => by subst h'; simp [go_sem, g4, g5, g6, g7]⟩ ?_
                  refine wpMix_tail _ [_, _] (by kernel_rfl) rfl ?_
                  simp only [List.getElem_toArray, List.getElem_cons_succ, List.getElem_cons_zero]
                  go_wp2_with fail
                  refine (HT.out V2.drew).mono ?_
                  rintro e w5 ⟨rfl, hB5⟩
                  have hC5 := HV2.out.1.on ((Below.refl V2.heap.size V2).drew.trans hB5)
                  clear ei ek zi g0 g1 g2 g3 g4 g5 g6 g7 hS0
                  have ei := hC5.row.cell HB.out.1
                  have zi := hC5.row.frozen i
                  have H5 := hide hC5
                  clear hB5 hC5
                  cases htv : touch (fa, fx, fy, fz) (ga, gx, gy, gz) with
                  | false =>
                    have hnx := HV2.out.2.next HF.out.1 HG.out.1 (fun h => by rw [htv] at h; cases h.2)
                    have HQ := hide hnx
                    clear hnx htv
                    go_wp2_with fail
                    go_roundw
                    case rel => exact ⟨k + 1, b2, G2, by omega, by go_num, rfl, H5.out, HQ.out⟩
                    case measure => simp [intOf]; omega
                  | true =>
                    have hmt := HV2.out.2.met (k' := k + 1) HB.out.1
                    have hmk := H5.out.mark.grow HF.out.1 HG.out.1 HB.out.2 htv
                    have HQ := hide (And.intro hmt hmk)
                    clear hmt hmk htv
                    go_wp2_with fail
                    go_roundw
                    case rel => exact ⟨k + 1, true, G2.set i true, by omega, by go_num, rfl, ⟨HQ.out.2, H5.out.row.set i true, H5.out.bel.setCell (Nat.le_refl _) _⟩, HQ.out.1⟩
                    case measure => simp [intOf]; omega
            · have k1 : ¬ (k : Int) < (M : Int) := by omega
              have hk2 : k = l.length := by rw [← H0.out.2.2.2.2]; omega
              have hall := HV2.out.2
              rw [hk2] at hall
              have HQ := hide (And.intro hall.all HV2.out.1)
              clear hall hk2
              go_wp2_with fail
              go_roundw
              case rel => exact ⟨i + 1, b2, G2, by omega, by go_num, rfl, HQ.out.2, HQ.out.1⟩
              case measure => simp [intOf]; omega
        · have i1 : ¬ (i : Int) < (M : Int) := by omega
          have hi2 : i = l.length := by rw [← H0.out.2.2.2.2]; omega
          have hgr := HV1.out.2
          rw [hi2] at hgr
          have HQ := hide (And.intro hgr HV1.out.1)
          clear hgr hi2 HV1
          go_wp2_with fail
          go_roundw
          case rel => exact ⟨b, G, rfl, HQ.out.2, GrowP.pass HQ.out.1⟩
          case measure =>
            rw [noW_row HQ.out.2.row, HNo.out]
            rcases HQ.out.1 with h | h
            · rw [h.1]; simp [grV]; omega
            · rw [h.1, h.2.1]; simp [grV]
    | false =>
      have HV := hide (And.intro hC (mark_done H0.out.2.2.1 hC.mark H0.out.2.1 (hp rfl)))
      clear hC hp
      go_wp2_with fail
      go_loopw [8, 9, 10] (fun pv rv iv wr => ∃ i : Nat, i ≤ M ∧ iv = .int .i64 i ∧ CmpR w wr l f0 F ∧ Own encF 4 45 wr (w.heap.size + 1) pv (pTake l f0 i).length (pTake l f0 i) ∧ Own encF 4 45 wr (w.heap.size + 1) rv (rTake l f0 i).length (rTake l f0 i) ∧ (pv.ownBlock = none ∨ pv.ownBlock ≠ rv.ownBlock)) (fun _ _ iv _ => M - (intOf iv).toNat)
      case atStart => exact ⟨0, by omega, rfl, HV.out.1, Own.nil, Own.nil, .inl rfl⟩
      case round =>
        obtain ⟨V1, rfl⟩ : ∃ V1, V1 = wr := ⟨_, rfl⟩
        obtain ⟨i, hi, rfl, hC, ho1, ho2, hap⟩ := hrel
        have hVs : w.heap.size < V1.heap.size := Blk.lt hC.row
        by_cases hiM : i < M
        · have i1 : (i : Int) < (M : Int) := by omega
          obtain ⟨f, hf⟩ : ∃ f, l[i]? = some f := ⟨_, List.getElem?_eq_getElem (by rw [← H0.out.2.2.2.2]; exact hiM)⟩
          have hFi := HV.out.2 i f hf
          have ei := hC.row.cell hFi
          have hps := pTake_step (f0 := f0) hf
          have hrs := rTake_step (f0 := f0) hf
          obtain ⟨tb, oo, hA, htb, g0, g1, g2, g3⟩ := ((H0.out.1.below hC.bel).more hC.bel.size).four hf
          subst hA
          obtain ⟨P1, hP1⟩ : ∃ P, P = pTake l f0 i := ⟨_, rfl⟩
          obtain ⟨R1, hR1⟩ : ∃ R, R = rTake l f0 i := ⟨_, rfl⟩
          obtain ⟨np, hnp⟩ : ∃ n, n = P1.length := ⟨_, rfl⟩
          obtain ⟨nr, hnr⟩ : ∃ n, n = R1.length := ⟨_, rfl⟩
          have hp8 := pTake_len l f0 i
          have hr8 := rTake_len l f0 i
          rw [← hP1, ← hnp] at ho1 hp8
          rw [← hR1, ← hnr] at ho2 hr8
          rw [← hP1] at hps
          rw [← hR1] at hrs
          obtain ⟨fa, fx, fy, fz⟩ := f
          dsimp only at g0 g1 g2 g3
          have HO := hide (And.intro hC (And.intro ho1 (And.intro ho2 (And.intro hap (And.intro hP1 (And.intro hR1 (And.intro hnp hnr)))))))
          clear hf hFi hC ho1 ho2 hap hP1 hR1 hnp hnr htb
          cases hcb : connB l f0 (fa, fx, fy, fz) with
          | true =>
            rw [hcb] at ei
            rw [if_pos hcb] at hps hrs
            have HS := hide (And.intro hps hrs)
            clear hps hrs hcb
            go_wp2_with (at_builtin; refine wpList_append1 rfl _ _ _ rfl Try.underlying38 infoFc rfl (by omega) encF_len encF_one rfl (HO.out.2.1.alloc _) V1.heap.size 1 (fa, (fx, fy, fz)) rfl (Blk.new _ _ _) (by unfold maxLen; omega) (by omega) (by simp; omega) ?_; intro gp cap U7 ho7 hg7 hB7 hat7 hgb7 hlt7)
            go_roundw
            case rel =>
              have hA1 : Below (w.heap.size + 1) V1 (V1.alloc (.cells #[.int .i64 fa, .int .i64 fx, .int .i64 fy, .int .i64 fz] 45)) := (Below.refl _ V1).alloc (by omega) _
              have hbA := hA1.trans hB7
              obtain ⟨hk1, hk2⟩ := own_apart HO.out.2.2.1 ((Below.refl V1.heap.size V1).alloc (Nat.le_refl _) _) hg7 hat7 HO.out.2.2.2.1
              refine ⟨i + 1, by omega, by go_num, ⟨HO.out.1.mark, HO.out.1.row.below hbA (by omega), HO.out.1.bel.trans (hbA.mono (by omega))⟩, ?_, ?_, .inr hk2⟩
              · rw [HS.out.1, List.length_append, ← HO.out.2.2.2.2.2.2.1]; exact ho7
              · rw [HS.out.2, ← HO.out.2.2.2.2.2.2.2]; exact hk1
            case measure => simp [intOf]; omega
          | false =>
            rw [hcb] at ei
            rw [if_neg (by rw [hcb]; simp)] at hps hrs
            have HS := hide (And.intro hps hrs)
            clear hps hrs hcb
            go_wp2_with (at_builtin; refine wpList_append1 rfl _ _ _ rfl Try.underlying38 infoFc rfl (by omega) encF_len encF_one rfl (HO.out.2.2.1.alloc _) V1.heap.size 1 (fa, (fx, fy, fz)) rfl (Blk.new _ _ _) (by unfold maxLen; omega) (by omega) (by simp; omega) ?_; intro gp cap U7 ho7 hg7 hB7 hat7 hgb7 hlt7)
            go_roundw
            case rel =>
              have hA1 : Below (w.heap.size + 1) V1 (V1.alloc (.cells #[.int .i64 fa, .int .i64 fx, .int .i64 fy, .int .i64 fz] 45)) := (Below.refl _ V1).alloc (by omega) _
              have hbA := hA1.trans hB7
              obtain ⟨hk1, hk2⟩ := own_apart HO.out.2.1 ((Below.refl V1.heap.size V1).alloc (Nat.le_refl _) _) hg7 hat7 (ap_symm HO.out.2.2.2.1)
              refine ⟨i + 1, by omega, by go_num, ⟨HO.out.1.mark, HO.out.1.row.below hbA (by omega), HO.out.1.bel.trans (hbA.mono (by omega))⟩, ?_, ?_, .inr fun e => hk2 e.symm⟩
              · rw [HS.out.1, ← HO.out.2.2.2.2.2.2.1]; exact hk1
              · rw [HS.out.2, List.length_append, ← HO.out.2.2.2.2.2.2.2]; exact ho7
            case measure => simp [intOf]; omega
        · have i1 : ¬ (i : Int) < (M : Int) := by omega
          have hi2 : i = l.length := by rw [← H0.out.2.2.2.2]; omega
          rw [hi2, pTake_end] at ho1
          rw [hi2, rTake_end] at ho2
          have HO := hide (And.intro (ho1.lower (Nat.le_succ _)) (And.intro (ho2.lower (Nat.le_succ _)) hC.bel))
          clear ho1 ho2 hC hap hi2
          go_wp2_with fail
          go_ret2
          exact ⟨_, _, rfl, HO.out⟩
end Go.Proofs.Ytdpgohpbannfnaa
