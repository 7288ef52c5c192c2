/- Joined texts: S7I S7J S7K S7L. -/
import Derived.Test.YtdpgohpbannfnaaCB12
/- (*seal.sealer).patch (printed by mk_S7I.py). -/
namespace Go.Proofs.Ytdpgohpbannfnaa
open Go.RowKit Go.Sort Go.WideMaps Go.Maps
theorem flat_snoc (n : Int) (d : Nat) (l : List EF) (f : EF) : (l ++ [f]).flatMap (patF n d) = l.flatMap (patF n d) ++ patF n d f := by rw [List.flatMap_append, List.flatMap_singleton]
theorem rowE_succ (d : Nat) (f : EF) (low : Int) (m : Nat) : rowE d f low (m + 1) = rowE d f low m ++ [(3 - dirA d - f.1, set3 f.2 (dirA d) (low + m))] := by
  unfold rowE
  rw [List.range_succ, List.map_append]
  rfl
set_option maxRecDepth 100000 in
set_option maxHeartbeats 16000000 in
theorem patch7_0 (bs mb n : Nat) (A : Option Addr) (c : Nat) (part : List EF) (w : World) (hb : Blk w bs 72 #[.int .i64 n, .map (some mb)]) (hs : Sl encF 4 w w.heap.size A part) (hg : ∀ f ∈ part, grdF n f) (hn : n ≤ 256) (hl : part.length ≤ 1000000) :
    Calls Try.prog 32 #[.pointer (some ⟨bs, 0, none⟩), .slice A part.length c, .int .i64 0] w fun e w' => ∃ pb k, e = .returned (.map (some pb)) ∧ SetM w' pb k (patE n 0 part) ∧ k ≤ 300 * part.length ∧ w.heap.size ≤ pb ∧ Below w.heap.size w w' := by
  have hlb := hb.lt
  have hmm := @run_makeMap Try.prog
  obtain ⟨M, hM⟩ : ∃ M, M = part.length := ⟨_, rfl⟩
  rw [← hM] at hl ⊢
  have HC := hide (And.intro hb (And.intro hs (And.intro hg hM)))
  clear hb hs hg hM
  go_enter Try.func32, Try.ntmps32
  go_upto_region 3 with fail
  obtain ⟨X, hX⟩ : ∃ X, X = w.alloc (.map #[] 0) := ⟨_, rfl⟩
  rw [← hX]
  have hSX : SetM X w.heap.size 0 (togsE noE ((part.take 0).flatMap (patF n 0))) := by
    rw [hX]
    exact MapK.made Try.prog 70 vF fitsF w
  have hBX : Below w.heap.size w X := by rw [hX]; exact (Below.refl _ w).alloc (Nat.le_refl _) _
  have HX := hide (And.intro hSX hBX)
  clear hX hSX hBX hmm
  go_wp2_with fail
  go_loopw [20] (fun iv wr => ∃ (k q : Nat), k ≤ M ∧ iv = .int .i64 k ∧ SetM wr w.heap.size q (togsE noE ((part.take k).flatMap (patF n 0))) ∧ q ≤ 300 * k ∧ Below w.heap.size w wr) (fun iv _ => M - (intOf iv).toNat)
  case atStart => exact ⟨0, 0, by omega, rfl, HX.out.1, by omega, HX.out.2⟩
  case round =>
    obtain ⟨k, q, hk, rfl, hS, hq, hB⟩ := hrel
    obtain ⟨V, rfl⟩ : ∃ V, V = wr := ⟨_, rfl⟩
    by_cases hkM : k < M
    · have i1 : (k : Int) < (M : Int) := by omega
      obtain ⟨f, hf⟩ : ∃ f, part[k]? = some f := ⟨_, List.getElem?_eq_getElem (by rw [← HC.out.2.2.2]; exact hkM)⟩
      have hgf := HC.out.2.2.1 f (List.mem_of_getElem? hf)
      have htk : part.take (k + 1) = part.take k ++ [f] := by rw [List.take_add_one, hf]; rfl
      have hfs := flat_snoc n 0 (part.take k) f
      rw [← htk] at hfs
      obtain ⟨tb, oo, hA, _, g0, g1, g2, g3⟩ := (HC.out.2.1.below hB).four hf
      subst hA
      have hpb := hS.lt
      have hbV := HC.out.1.below hB hlb
      have HV := hide (And.intro hS (And.intro hq (And.intro hB (And.intro hfs (And.intro hgf (And.intro hpb hbV))))))
      clear hS hq hB hfs hf htk hpb hbV
      obtain ⟨⟨gf0, gf1⟩, ⟨gf2, gf3, gf4⟩, ⟨gf5, gf6, gf7⟩, gf8⟩ := hgf
      clear gf8
      by_cases hfa : f.1 = 0
      · have hpf : patF n 0 f = [] := by unfold patF; rw [if_pos (by rw [hfa]; rfl)]
        have hbe : (f.1 == 0) = true := by rw [hfa]; rfl
        have hfs := HV.out.2.2.2.1
        rw [hpf, List.append_nil] at hfs
        have HF := hide (And.intro hfs hfa)
        clear hfs hfa hpf
        go_upto_region 6 with fail
        obtain ⟨Y, hY⟩ : ∃ Y, Y = V.alloc (.cells #[.int .i64 f.1, .int .i64 f.2.1, .int .i64 f.2.2.1, .int .i64 f.2.2.2] 45) := ⟨_, rfl⟩
        rw [← hY]
        have hfY : Blk Y V.heap.size 45 #[.int .i64 f.1, .int .i64 f.2.1, .int .i64 f.2.2.1, .int .i64 f.2.2.2] := by rw [hY]; exact Blk.new _ _ _
        have hBY : Below V.heap.size V Y := by rw [hY]; exact (Below.refl _ V).alloc (Nat.le_refl _) _
        obtain ⟨d0, d1, d2, d3⟩ := hfY.four
        have HY := hide (And.intro (HV.out.1.below hBY HV.out.2.2.2.2.2.1) (HV.out.2.2.1.trans (hBY.mono HV.out.2.2.1.size)))
        clear hY hfY hBY g0 g1 g2 g3
        go_wp2
        go_roundw
        case rel => exact ⟨k + 1, q, by omega, by go_num, by rw [HF.out.1]; exact HY.out.1, by have := HV.out.2.1; omega, HY.out.2⟩
        case measure => simp [intOf]; omega
      · have hbe : (f.1 == 0) = false := by rw [beq_eq_false_iff_ne]; exact hfa
        have hlt : f.2.1 < n := (grdF_cmp HV.out.2.2.2.2.1 (a := 0) (by omega) hfa).2
        obtain ⟨LN, hLN⟩ : ∃ LN : Nat, (LN : Int) = f.2.1 + 1 - 0 := ⟨(f.2.1 + 1 - 0).toNat, by omega⟩
        have hpf : patF n 0 f = rowE 0 f 0 LN := by
          unfold patF
          rw [if_neg (by intro h; exact hfa h)]
          show rowE 0 f 0 (f.2.1 + 1 - 0).toNat = _
          congr 1
          omega
        have hfs := HV.out.2.2.2.1
        rw [hpf] at hfs
        have HF := hide (And.intro hfs hfa)
        clear hfs hpf hfa
        go_upto_region 6 with fail
        obtain ⟨Y, hY⟩ : ∃ Y, Y = V.alloc (.cells #[.int .i64 f.1, .int .i64 f.2.1, .int .i64 f.2.2.1, .int .i64 f.2.2.2] 45) := ⟨_, rfl⟩
        rw [← hY]
        have hfY : Blk Y V.heap.size 45 #[.int .i64 f.1, .int .i64 f.2.1, .int .i64 f.2.2.1, .int .i64 f.2.2.2] := by rw [hY]; exact Blk.new _ _ _
        have hBY : Below V.heap.size V Y := by rw [hY]; exact (Below.refl _ V).alloc (Nat.le_refl _) _
        obtain ⟨d0, d1, d2, d3⟩ := hfY.four
        have HY := hide (And.intro hfY hBY)
        clear hY hfY hBY g0 g1 g2 g3
        go_wp2_with fail
        refine (from7_any f Y).mono ?_
        rintro r w5 ⟨rfl, hL5⟩
        have hB5 := hL5.below
        have hlt5 : V.heap.size < w5.heap.size := Nat.lt_of_lt_of_le HY.out.1.lt hB5.size
        have H5 := hide (And.intro (HY.out.1.below hB5 HY.out.1.lt) (HY.out.2.trans (hB5.mono HY.out.2.size)))
        clear hL5 hB5 d0 d1 d2 d3
        go_upto_region 8 with fail
        obtain ⟨Z, hZ⟩ : ∃ Z, Z = w5.alloc (.cells #[.int .i64 f.2.1, .int .i64 f.2.2.1, .int .i64 f.2.2.2] 68) := ⟨_, rfl⟩
        rw [← hZ]
        have hpZ : Blk Z w5.heap.size 68 #[.int .i64 f.2.1, .int .i64 f.2.2.1, .int .i64 f.2.2.2] := by rw [hZ]; exact Blk.new _ _ _
        have hB5Z : Below w5.heap.size w5 Z := by rw [hZ]; exact (Below.refl _ w5).alloc (Nat.le_refl _) _
        have hfZ := H5.out.1.below hB5Z H5.out.1.lt
        have hBZ := H5.out.2.trans (hB5Z.mono H5.out.2.size)
        have hbZ := HV.out.2.2.2.2.2.2.below hBZ HV.out.2.2.2.2.2.2.lt
        obtain ⟨b0, b1⟩ : Z.cell? ⟨bs, 0, none⟩ = some (.int .i64 n) ∧ Z.cell? ⟨bs, 1, none⟩ = some (.map (some mb)) := ⟨hbZ.cell 0, hbZ.cell 1⟩
        obtain ⟨e0, e1, e2⟩ := hpZ.three
        have HZ := hide (And.intro hpZ (And.intro hfZ hBZ))
        clear hZ hpZ hB5Z hfZ hBZ hbZ
        go_quiet (fail)
        go_wp2_with fail
        obtain ⟨R, hR⟩ : ∃ R, R = Z.drewN nq := ⟨_, rfl⟩
        rw [← hR]
        have hZR : Below Z.heap.size Z R := by rw [hR]; exact below_drewN (Below.refl _ Z) nq
        have hpR := HZ.out.1.below hZR HZ.out.1.lt
        have hfR := HZ.out.2.1.below hZR HZ.out.2.1.lt
        have hVR := HZ.out.2.2.trans (hZR.mono HZ.out.2.2.size)
        have hSR := HV.out.1.below hVR HV.out.2.2.2.2.2.1
        have hBR := HV.out.2.2.1.trans (hVR.mono HV.out.2.2.1.size)
        have HR := hide (And.intro hpR (And.intro hfR (And.intro hSR (And.intro hBR hVR))))
        clear hZR hpR hfR hSR hBR hVR hR b0 b1 e0 e1 e2
        go_loopw [14] (fun xv wr => ∃ (i q' : Nat) (u : Int), i ≤ LN ∧ xv = .int .i64 (i : Int) ∧ Blk wr w5.heap.size 68 #[.int .i64 u, .int .i64 f.2.2.1, .int .i64 f.2.2.2] ∧ Blk wr V.heap.size 45 #[.int .i64 f.1, .int .i64 f.2.1, .int .i64 f.2.2.1, .int .i64 f.2.2.2] ∧ SetM wr w.heap.size q' (togsE noE ((part.take k).flatMap (patF n 0) ++ rowE 0 f 0 i)) ∧ q' ≤ q + i ∧ Below w.heap.size w wr) (fun xv _ => (f.2.1 + 1 - intOf xv).toNat)
        case atStart => exact ⟨0, q, f.2.1, by omega, by simp, HR.out.1, HR.out.2.1, by show SetM _ _ _ (togsE noE (_ ++ [])); rw [List.append_nil]; exact HR.out.2.2.1, by omega, HR.out.2.2.2.1⟩
        case round =>
          obtain ⟨i, q', u, hi, rfl, hp, hfb, hS, hq', hB⟩ := hrel
          obtain ⟨V2, rfl⟩ : ∃ V, V = wr := ⟨_, rfl⟩
          by_cases hiL : i < LN
          · have j1 : (i : Int) ≤ f.2.1 := by omega
            have fz := hp.frozen 0
            obtain ⟨r0, r1, r2⟩ := hp.three
            have hpl := hp.lt
            have h3 : f.1 = 0 ∨ f.1 = 1 ∨ f.1 = 2 := by omega
            have HP := hide (And.intro hp (And.intro hfb (And.intro hS (And.intro hq' hB))))
            clear hp hfb hS hq' hB
            go_upto_region 15 with fail
            obtain ⟨T, hT⟩ : ∃ T, T = V2.setCell ⟨w5.heap.size, 0, none⟩ (.int .i64 (i : Int)) := ⟨_, rfl⟩
            rw [← hT]
            have hpT : Blk T w5.heap.size 68 #[.int .i64 (i : Int), .int .i64 f.2.2.1, .int .i64 f.2.2.2] := by rw [hT]; exact HP.out.1.set_ 0 _
            have hne : V.heap.size ≠ w5.heap.size := by omega
            have hfT : Blk T V.heap.size 45 #[.int .i64 f.1, .int .i64 f.2.1, .int .i64 f.2.2.1, .int .i64 f.2.2.2] := by rw [hT]; exact HP.out.2.1.far hne _
            have hw5 : w.heap.size < w5.heap.size := by have := HV.out.2.2.2.2.2.1; omega
            have hBV2 : Below w5.heap.size V2 T := by rw [hT]; exact (Below.refl w5.heap.size V2).setCell (p := ⟨w5.heap.size, 0, none⟩) (Nat.le_refl _) _
            have hST := HP.out.2.2.1.below hBV2 hw5
            have hBT : Below w.heap.size w T := by rw [hT]; exact HP.out.2.2.2.2.setCell (by dsimp only; omega) _
            clear fz r0 r1 r2
            obtain ⟨e0, e1, e2⟩ := hpT.three
            have d0 : T.cell? ⟨V.heap.size, 0, none⟩ = some (.int .i64 f.1) := hfT.cell 0
            have htg := toggle7_any w.heap.size q' _ (3 - 0 - f.1, ((i : Int), f.2.2.1, f.2.2.2)) T hST (by unfold fitsF fitsP fits; dsimp only; omega) (by have := HP.out.2.2.2.1; have := HV.out.2.1; unfold maxLen; omega)
            have HT := hide (And.intro hpT (And.intro hfT (And.intro hBT htg)))
            clear hT hpT hfT hBV2 hST hBT htg
            go_wp2_with fail
            refine HT.out.2.2.2.mono ?_
            rintro r w6 ⟨rfl, hS6, hg6⟩
            have hp6 := HT.out.1.grown hg6 (fun e => by injection e with e; omega)
            have hf6 := HT.out.2.1.grown hg6 (fun e => by have := HV.out.2.2.2.2.2.1; injection e with e; omega)
            have hB6 := HT.out.2.2.1.trans (grown_is_below7 hg6 HT.out.2.2.1.size (Nat.le_refl _))
            have hrw : togsE noE ((part.take k).flatMap (patF n 0) ++ rowE 0 f 0 (i + 1)) = togE (togsE noE ((part.take k).flatMap (patF n 0) ++ rowE 0 f 0 i)) (3 - 0 - f.1, ((i : Int), f.2.2.1, f.2.2.2)) := by
              rw [rowE_succ, ← List.append_assoc, Int.zero_add]
              exact tog_snoc _ _
            rw [← hrw] at hS6
            have H6 := hide (And.intro hp6 (And.intro hf6 (And.intro hS6 hB6)))
            clear hp6 hf6 hS6 hB6 hg6 hrw e0 e1 e2 d0
            go_wp2
            go_roundw
            case rel => exact ⟨i + 1, q' + 1, _, by omega, by first | go_num | (congr 1; push_cast; omega), H6.out.1, H6.out.2.1, H6.out.2.2.1, by have := HP.out.2.2.2.1; omega, H6.out.2.2.2⟩
            case measure => simp [intOf]; omega
          · have j1 : ¬ (i : Int) ≤ f.2.1 := by omega
            have hie : i = LN := by omega
            rw [hie, ← HF.out.1] at hS
            have HE := hide (And.intro hS (And.intro hq' hB))
            clear hS hq' hB hp hfb hie
            go_wp2
            go_roundw
            case rel => exact ⟨k + 1, q', by omega, by go_num, HE.out.1, by have := HE.out.2.1; have := HV.out.2.1; omega, HE.out.2.2⟩
            case measure => simp [intOf]; omega
    · have i1 : ¬ (k : Int) < (M : Int) := by omega
      have hke : k = M := by omega
      rw [hke, HC.out.2.2.2, List.take_length] at hS
      have HE := hide (And.intro hS (And.intro hq hB))
      clear hS hq hB hke
      go_wp2
      go_ret
      exact ⟨_, rfl, q, HE.out.1, by have := HE.out.2.1; omega, Nat.le_refl _, HE.out.2.2⟩
set_option maxRecDepth 100000 in
set_option maxHeartbeats 16000000 in
theorem patch7_1 (bs mb n : Nat) (A : Option Addr) (c : Nat) (part : List EF) (w : World) (hb : Blk w bs 72 #[.int .i64 n, .map (some mb)]) (hs : Sl encF 4 w w.heap.size A part) (hg : ∀ f ∈ part, grdF n f) (hn : n ≤ 256) (hl : part.length ≤ 1000000) :
    Calls Try.prog 32 #[.pointer (some ⟨bs, 0, none⟩), .slice A part.length c, .int .i64 1] w fun e w' => ∃ pb k, e = .returned (.map (some pb)) ∧ SetM w' pb k (patE n 1 part) ∧ k ≤ 300 * part.length ∧ w.heap.size ≤ pb ∧ Below w.heap.size w w' := by
  have hlb := hb.lt
  have hmm := @run_makeMap Try.prog
  obtain ⟨M, hM⟩ : ∃ M, M = part.length := ⟨_, rfl⟩
  rw [← hM] at hl ⊢
  have HC := hide (And.intro hb (And.intro hs (And.intro hg hM)))
  clear hb hs hg hM
  go_enter Try.func32, Try.ntmps32
  go_upto_region 3 with fail
  obtain ⟨X, hX⟩ : ∃ X, X = w.alloc (.map #[] 0) := ⟨_, rfl⟩
  rw [← hX]
  have hSX : SetM X w.heap.size 0 (togsE noE ((part.take 0).flatMap (patF n 1))) := by
    rw [hX]
    exact MapK.made Try.prog 70 vF fitsF w
  have hBX : Below w.heap.size w X := by rw [hX]; exact (Below.refl _ w).alloc (Nat.le_refl _) _
  have HX := hide (And.intro hSX hBX)
  clear hX hSX hBX hmm
  go_wp2_with fail
  go_loopw [20] (fun iv wr => ∃ (k q : Nat), k ≤ M ∧ iv = .int .i64 k ∧ SetM wr w.heap.size q (togsE noE ((part.take k).flatMap (patF n 1))) ∧ q ≤ 300 * k ∧ Below w.heap.size w wr) (fun iv _ => M - (intOf iv).toNat)
  case atStart => exact ⟨0, 0, by omega, rfl, HX.out.1, by omega, HX.out.2⟩
  case round =>
    obtain ⟨k, q, hk, rfl, hS, hq, hB⟩ := hrel
    obtain ⟨V, rfl⟩ : ∃ V, V = wr := ⟨_, rfl⟩
    by_cases hkM : k < M
    · have i1 : (k : Int) < (M : Int) := by omega
      obtain ⟨f, hf⟩ : ∃ f, part[k]? = some f := ⟨_, List.getElem?_eq_getElem (by rw [← HC.out.2.2.2]; exact hkM)⟩
      have hgf := HC.out.2.2.1 f (List.mem_of_getElem? hf)
      have htk : part.take (k + 1) = part.take k ++ [f] := by rw [List.take_add_one, hf]; rfl
      have hfs := flat_snoc n 1 (part.take k) f
      rw [← htk] at hfs
      obtain ⟨tb, oo, hA, _, g0, g1, g2, g3⟩ := (HC.out.2.1.below hB).four hf
      subst hA
      have hpb := hS.lt
      have hbV := HC.out.1.below hB hlb
      have HV := hide (And.intro hS (And.intro hq (And.intro hB (And.intro hfs (And.intro hgf (And.intro hpb hbV))))))
      clear hS hq hB hfs hf htk hpb hbV
      obtain ⟨⟨gf0, gf1⟩, ⟨gf2, gf3, gf4⟩, ⟨gf5, gf6, gf7⟩, gf8⟩ := hgf
      clear gf8
      by_cases hfa : f.1 = 0
      · have hpf : patF n 1 f = [] := by unfold patF; rw [if_pos (by rw [hfa]; rfl)]
        have hbe : (f.1 == 0) = true := by rw [hfa]; rfl
        have hfs := HV.out.2.2.2.1
        rw [hpf, List.append_nil] at hfs
        have HF := hide (And.intro hfs hfa)
        clear hfs hfa hpf
        go_upto_region 6 with fail
        obtain ⟨Y, hY⟩ : ∃ Y, Y = V.alloc (.cells #[.int .i64 f.1, .int .i64 f.2.1, .int .i64 f.2.2.1, .int .i64 f.2.2.2] 45) := ⟨_, rfl⟩
        rw [← hY]
        have hfY : Blk Y V.heap.size 45 #[.int .i64 f.1, .int .i64 f.2.1, .int .i64 f.2.2.1, .int .i64 f.2.2.2] := by rw [hY]; exact Blk.new _ _ _
        have hBY : Below V.heap.size V Y := by rw [hY]; exact (Below.refl _ V).alloc (Nat.le_refl _) _
        obtain ⟨d0, d1, d2, d3⟩ := hfY.four
        have HY := hide (And.intro (HV.out.1.below hBY HV.out.2.2.2.2.2.1) (HV.out.2.2.1.trans (hBY.mono HV.out.2.2.1.size)))
        clear hY hfY hBY g0 g1 g2 g3
        go_wp2
        go_roundw
        case rel => exact ⟨k + 1, q, by omega, by go_num, by rw [HF.out.1]; exact HY.out.1, by have := HV.out.2.1; omega, HY.out.2⟩
        case measure => simp [intOf]; omega
      · have hbe : (f.1 == 0) = false := by rw [beq_eq_false_iff_ne]; exact hfa
        have hlt : f.2.1 < n := (grdF_cmp HV.out.2.2.2.2.1 (a := 0) (by omega) hfa).2
        obtain ⟨LN, hLN⟩ : ∃ LN : Nat, (LN : Int) = n + 1 - (f.2.1 + 1) := ⟨(n + 1 - (f.2.1 + 1)).toNat, by omega⟩
        have hpf : patF n 1 f = rowE 1 f (f.2.1 + 1) LN := by
          unfold patF
          rw [if_neg (by intro h; exact hfa h)]
          show rowE 1 f (f.2.1 + 1) (n + 1 - (f.2.1 + 1)).toNat = _
          congr 1
          omega
        have hfs := HV.out.2.2.2.1
        rw [hpf] at hfs
        have HF := hide (And.intro hfs hfa)
        clear hfs hpf hfa
        go_upto_region 6 with fail
        obtain ⟨Y, hY⟩ : ∃ Y, Y = V.alloc (.cells #[.int .i64 f.1, .int .i64 f.2.1, .int .i64 f.2.2.1, .int .i64 f.2.2.2] 45) := ⟨_, rfl⟩
        rw [← hY]
        have hfY : Blk Y V.heap.size 45 #[.int .i64 f.1, .int .i64 f.2.1, .int .i64 f.2.2.1, .int .i64 f.2.2.2] := by rw [hY]; exact Blk.new _ _ _
        have hBY : Below V.heap.size V Y := by rw [hY]; exact (Below.refl _ V).alloc (Nat.le_refl _) _
        obtain ⟨d0, d1, d2, d3⟩ := hfY.four
        have HY := hide (And.intro hfY hBY)
        clear hY hfY hBY g0 g1 g2 g3
        go_wp2_with fail
        refine (from7_any f Y).mono ?_
        rintro r w5 ⟨rfl, hL5⟩
        have hB5 := hL5.below
        have hlt5 : V.heap.size < w5.heap.size := Nat.lt_of_lt_of_le HY.out.1.lt hB5.size
        have H5 := hide (And.intro (HY.out.1.below hB5 HY.out.1.lt) (HY.out.2.trans (hB5.mono HY.out.2.size)))
        clear hL5 hB5 d0 d1 d2 d3
        go_upto_region 8 with fail
        obtain ⟨Z, hZ⟩ : ∃ Z, Z = w5.alloc (.cells #[.int .i64 f.2.1, .int .i64 f.2.2.1, .int .i64 f.2.2.2] 68) := ⟨_, rfl⟩
        rw [← hZ]
        have hpZ : Blk Z w5.heap.size 68 #[.int .i64 f.2.1, .int .i64 f.2.2.1, .int .i64 f.2.2.2] := by rw [hZ]; exact Blk.new _ _ _
        have hB5Z : Below w5.heap.size w5 Z := by rw [hZ]; exact (Below.refl _ w5).alloc (Nat.le_refl _) _
        have hfZ := H5.out.1.below hB5Z H5.out.1.lt
        have hBZ := H5.out.2.trans (hB5Z.mono H5.out.2.size)
        have hbZ := HV.out.2.2.2.2.2.2.below hBZ HV.out.2.2.2.2.2.2.lt
        obtain ⟨b0, b1⟩ : Z.cell? ⟨bs, 0, none⟩ = some (.int .i64 n) ∧ Z.cell? ⟨bs, 1, none⟩ = some (.map (some mb)) := ⟨hbZ.cell 0, hbZ.cell 1⟩
        obtain ⟨e0, e1, e2⟩ := hpZ.three
        have HZ := hide (And.intro hpZ (And.intro hfZ hBZ))
        clear hZ hpZ hB5Z hfZ hBZ hbZ
        go_quiet (fail)
        go_wp2_with fail
        obtain ⟨nq1, rfl⟩ : ∃ x, x = nq := ⟨_, rfl⟩
        go_quiet (fail)
        go_wp2_with fail
        obtain ⟨R, hR⟩ : ∃ R, R = (Z.drewN nq1).drewN nq := ⟨_, rfl⟩
        rw [← hR]
        have hZR : Below Z.heap.size Z R := by rw [hR]; exact below_drewN (below_drewN (Below.refl _ Z) _) _
        have hpR := HZ.out.1.below hZR HZ.out.1.lt
        have hfR := HZ.out.2.1.below hZR HZ.out.2.1.lt
        have hVR := HZ.out.2.2.trans (hZR.mono HZ.out.2.2.size)
        have hSR := HV.out.1.below hVR HV.out.2.2.2.2.2.1
        have hBR := HV.out.2.2.1.trans (hVR.mono HV.out.2.2.1.size)
        have HR := hide (And.intro hpR (And.intro hfR (And.intro hSR (And.intro hBR hVR))))
        clear hZR hpR hfR hSR hBR hVR hR b0 b1 e0 e1 e2
        go_loopw [14] (fun xv wr => ∃ (i q' : Nat) (u : Int), i ≤ LN ∧ xv = .int .i64 ((f.2.1 + 1) + (i : Int)) ∧ Blk wr w5.heap.size 68 #[.int .i64 u, .int .i64 f.2.2.1, .int .i64 f.2.2.2] ∧ Blk wr V.heap.size 45 #[.int .i64 f.1, .int .i64 f.2.1, .int .i64 f.2.2.1, .int .i64 f.2.2.2] ∧ SetM wr w.heap.size q' (togsE noE ((part.take k).flatMap (patF n 1) ++ rowE 1 f (f.2.1 + 1) i)) ∧ q' ≤ q + i ∧ Below w.heap.size w wr) (fun xv _ => (n + 1 - intOf xv).toNat)
        case atStart => exact ⟨0, q, f.2.1, by omega, by simp, HR.out.1, HR.out.2.1, by show SetM _ _ _ (togsE noE (_ ++ [])); rw [List.append_nil]; exact HR.out.2.2.1, by omega, HR.out.2.2.2.1⟩
        case round =>
          obtain ⟨i, q', u, hi, rfl, hp, hfb, hS, hq', hB⟩ := hrel
          obtain ⟨V2, rfl⟩ : ∃ V, V = wr := ⟨_, rfl⟩
          by_cases hiL : i < LN
          · have j1 : ((f.2.1 + 1) + (i : Int)) ≤ n := by omega
            have fz := hp.frozen 0
            obtain ⟨r0, r1, r2⟩ := hp.three
            have hpl := hp.lt
            have h3 : f.1 = 0 ∨ f.1 = 1 ∨ f.1 = 2 := by omega
            have HP := hide (And.intro hp (And.intro hfb (And.intro hS (And.intro hq' hB))))
            clear hp hfb hS hq' hB
            go_upto_region 15 with fail
            obtain ⟨T, hT⟩ : ∃ T, T = V2.setCell ⟨w5.heap.size, 0, none⟩ (.int .i64 ((f.2.1 + 1) + (i : Int))) := ⟨_, rfl⟩
            rw [← hT]
            have hpT : Blk T w5.heap.size 68 #[.int .i64 ((f.2.1 + 1) + (i : Int)), .int .i64 f.2.2.1, .int .i64 f.2.2.2] := by rw [hT]; exact HP.out.1.set_ 0 _
            have hne : V.heap.size ≠ w5.heap.size := by omega
            have hfT : Blk T V.heap.size 45 #[.int .i64 f.1, .int .i64 f.2.1, .int .i64 f.2.2.1, .int .i64 f.2.2.2] := by rw [hT]; exact HP.out.2.1.far hne _
            have hw5 : w.heap.size < w5.heap.size := by have := HV.out.2.2.2.2.2.1; omega
            have hBV2 : Below w5.heap.size V2 T := by rw [hT]; exact (Below.refl w5.heap.size V2).setCell (p := ⟨w5.heap.size, 0, none⟩) (Nat.le_refl _) _
            have hST := HP.out.2.2.1.below hBV2 hw5
            have hBT : Below w.heap.size w T := by rw [hT]; exact HP.out.2.2.2.2.setCell (by dsimp only; omega) _
            clear fz r0 r1 r2
            obtain ⟨e0, e1, e2⟩ := hpT.three
            have d0 : T.cell? ⟨V.heap.size, 0, none⟩ = some (.int .i64 f.1) := hfT.cell 0
            have htg := toggle7_any w.heap.size q' _ (3 - 0 - f.1, (((f.2.1 + 1) + (i : Int)), f.2.2.1, f.2.2.2)) T hST (by unfold fitsF fitsP fits; dsimp only; omega) (by have := HP.out.2.2.2.1; have := HV.out.2.1; unfold maxLen; omega)
            have HT := hide (And.intro hpT (And.intro hfT (And.intro hBT htg)))
            clear hT hpT hfT hBV2 hST hBT htg
            go_wp2_with fail
            refine HT.out.2.2.2.mono ?_
            rintro r w6 ⟨rfl, hS6, hg6⟩
            have hp6 := HT.out.1.grown hg6 (fun e => by injection e with e; omega)
            have hf6 := HT.out.2.1.grown hg6 (fun e => by have := HV.out.2.2.2.2.2.1; injection e with e; omega)
            have hB6 := HT.out.2.2.1.trans (grown_is_below7 hg6 HT.out.2.2.1.size (Nat.le_refl _))
            have hrw : togsE noE ((part.take k).flatMap (patF n 1) ++ rowE 1 f (f.2.1 + 1) (i + 1)) = togE (togsE noE ((part.take k).flatMap (patF n 1) ++ rowE 1 f (f.2.1 + 1) i)) (3 - 0 - f.1, (((f.2.1 + 1) + (i : Int)), f.2.2.1, f.2.2.2)) := by
              rw [rowE_succ, ← List.append_assoc]
              exact tog_snoc _ _
            rw [← hrw] at hS6
            have H6 := hide (And.intro hp6 (And.intro hf6 (And.intro hS6 hB6)))
            clear hp6 hf6 hS6 hB6 hg6 hrw e0 e1 e2 d0
            go_wp2
            go_roundw
            case rel => exact ⟨i + 1, q' + 1, _, by omega, by first | go_num | (congr 1; push_cast; omega), H6.out.1, H6.out.2.1, H6.out.2.2.1, by have := HP.out.2.2.2.1; omega, H6.out.2.2.2⟩
            case measure => simp [intOf]; omega
          · have j1 : ¬ ((f.2.1 + 1) + (i : Int)) ≤ n := by omega
            have hie : i = LN := by omega
            rw [hie, ← HF.out.1] at hS
            have HE := hide (And.intro hS (And.intro hq' hB))
            clear hS hq' hB hp hfb hie
            go_wp2
            go_roundw
            case rel => exact ⟨k + 1, q', by omega, by go_num, HE.out.1, by have := HE.out.2.1; have := HV.out.2.1; omega, HE.out.2.2⟩
            case measure => simp [intOf]; omega
    · have i1 : ¬ (k : Int) < (M : Int) := by omega
      have hke : k = M := by omega
      rw [hke, HC.out.2.2.2, List.take_length] at hS
      have HE := hide (And.intro hS (And.intro hq hB))
      clear hS hq hB hke
      go_wp2
      go_ret
      exact ⟨_, rfl, q, HE.out.1, by have := HE.out.2.1; omega, Nat.le_refl _, HE.out.2.2⟩
set_option maxRecDepth 100000 in
set_option maxHeartbeats 16000000 in
theorem patch7_2 (bs mb n : Nat) (A : Option Addr) (c : Nat) (part : List EF) (w : World) (hb : Blk w bs 72 #[.int .i64 n, .map (some mb)]) (hs : Sl encF 4 w w.heap.size A part) (hg : ∀ f ∈ part, grdF n f) (hn : n ≤ 256) (hl : part.length ≤ 1000000) :
    Calls Try.prog 32 #[.pointer (some ⟨bs, 0, none⟩), .slice A part.length c, .int .i64 2] w fun e w' => ∃ pb k, e = .returned (.map (some pb)) ∧ SetM w' pb k (patE n 2 part) ∧ k ≤ 300 * part.length ∧ w.heap.size ≤ pb ∧ Below w.heap.size w w' := by
  have hlb := hb.lt
  have hmm := @run_makeMap Try.prog
  obtain ⟨M, hM⟩ : ∃ M, M = part.length := ⟨_, rfl⟩
  rw [← hM] at hl ⊢
  have HC := hide (And.intro hb (And.intro hs (And.intro hg hM)))
  clear hb hs hg hM
  go_enter Try.func32, Try.ntmps32
  go_upto_region 3 with fail
  obtain ⟨X, hX⟩ : ∃ X, X = w.alloc (.map #[] 0) := ⟨_, rfl⟩
  rw [← hX]
  have hSX : SetM X w.heap.size 0 (togsE noE ((part.take 0).flatMap (patF n 2))) := by
    rw [hX]
    exact MapK.made Try.prog 70 vF fitsF w
  have hBX : Below w.heap.size w X := by rw [hX]; exact (Below.refl _ w).alloc (Nat.le_refl _) _
  have HX := hide (And.intro hSX hBX)
  clear hX hSX hBX hmm
  go_wp2_with fail
  go_loopw [20] (fun iv wr => ∃ (k q : Nat), k ≤ M ∧ iv = .int .i64 k ∧ SetM wr w.heap.size q (togsE noE ((part.take k).flatMap (patF n 2))) ∧ q ≤ 300 * k ∧ Below w.heap.size w wr) (fun iv _ => M - (intOf iv).toNat)
  case atStart => exact ⟨0, 0, by omega, rfl, HX.out.1, by omega, HX.out.2⟩
  case round =>
    obtain ⟨k, q, hk, rfl, hS, hq, hB⟩ := hrel
    obtain ⟨V, rfl⟩ : ∃ V, V = wr := ⟨_, rfl⟩
    by_cases hkM : k < M
    · have i1 : (k : Int) < (M : Int) := by omega
      obtain ⟨f, hf⟩ : ∃ f, part[k]? = some f := ⟨_, List.getElem?_eq_getElem (by rw [← HC.out.2.2.2]; exact hkM)⟩
      have hgf := HC.out.2.2.1 f (List.mem_of_getElem? hf)
      have htk : part.take (k + 1) = part.take k ++ [f] := by rw [List.take_add_one, hf]; rfl
      have hfs := flat_snoc n 2 (part.take k) f
      rw [← htk] at hfs
      obtain ⟨tb, oo, hA, _, g0, g1, g2, g3⟩ := (HC.out.2.1.below hB).four hf
      subst hA
      have hpb := hS.lt
      have hbV := HC.out.1.below hB hlb
      have HV := hide (And.intro hS (And.intro hq (And.intro hB (And.intro hfs (And.intro hgf (And.intro hpb hbV))))))
      clear hS hq hB hfs hf htk hpb hbV
      obtain ⟨⟨gf0, gf1⟩, ⟨gf2, gf3, gf4⟩, ⟨gf5, gf6, gf7⟩, gf8⟩ := hgf
      clear gf8
      by_cases hfa : f.1 = 1
      · have hpf : patF n 2 f = [] := by unfold patF; rw [if_pos (by rw [hfa]; rfl)]
        have hbe : (f.1 == 1) = true := by rw [hfa]; rfl
        have hfs := HV.out.2.2.2.1
        rw [hpf, List.append_nil] at hfs
        have HF := hide (And.intro hfs hfa)
        clear hfs hfa hpf
        go_upto_region 6 with fail
        obtain ⟨Y, hY⟩ : ∃ Y, Y = V.alloc (.cells #[.int .i64 f.1, .int .i64 f.2.1, .int .i64 f.2.2.1, .int .i64 f.2.2.2] 45) := ⟨_, rfl⟩
        rw [← hY]
        have hfY : Blk Y V.heap.size 45 #[.int .i64 f.1, .int .i64 f.2.1, .int .i64 f.2.2.1, .int .i64 f.2.2.2] := by rw [hY]; exact Blk.new _ _ _
        have hBY : Below V.heap.size V Y := by rw [hY]; exact (Below.refl _ V).alloc (Nat.le_refl _) _
        obtain ⟨d0, d1, d2, d3⟩ := hfY.four
        have HY := hide (And.intro (HV.out.1.below hBY HV.out.2.2.2.2.2.1) (HV.out.2.2.1.trans (hBY.mono HV.out.2.2.1.size)))
        clear hY hfY hBY g0 g1 g2 g3
        go_wp2
        go_roundw
        case rel => exact ⟨k + 1, q, by omega, by go_num, by rw [HF.out.1]; exact HY.out.1, by have := HV.out.2.1; omega, HY.out.2⟩
        case measure => simp [intOf]; omega
      · have hbe : (f.1 == 1) = false := by rw [beq_eq_false_iff_ne]; exact hfa
        have hlt : f.2.2.1 < n := (grdF_cmp HV.out.2.2.2.2.1 (a := 1) (by omega) hfa).2
        obtain ⟨LN, hLN⟩ : ∃ LN : Nat, (LN : Int) = f.2.2.1 + 1 - 0 := ⟨(f.2.2.1 + 1 - 0).toNat, by omega⟩
        have hpf : patF n 2 f = rowE 2 f 0 LN := by
          unfold patF
          rw [if_neg (by intro h; exact hfa h)]
          show rowE 2 f 0 (f.2.2.1 + 1 - 0).toNat = _
          congr 1
          omega
        have hfs := HV.out.2.2.2.1
        rw [hpf] at hfs
        have HF := hide (And.intro hfs hfa)
        clear hfs hpf hfa
        go_upto_region 6 with fail
        obtain ⟨Y, hY⟩ : ∃ Y, Y = V.alloc (.cells #[.int .i64 f.1, .int .i64 f.2.1, .int .i64 f.2.2.1, .int .i64 f.2.2.2] 45) := ⟨_, rfl⟩
        rw [← hY]
        have hfY : Blk Y V.heap.size 45 #[.int .i64 f.1, .int .i64 f.2.1, .int .i64 f.2.2.1, .int .i64 f.2.2.2] := by rw [hY]; exact Blk.new _ _ _
        have hBY : Below V.heap.size V Y := by rw [hY]; exact (Below.refl _ V).alloc (Nat.le_refl _) _
        obtain ⟨d0, d1, d2, d3⟩ := hfY.four
        have HY := hide (And.intro hfY hBY)
        clear hY hfY hBY g0 g1 g2 g3
        go_wp2_with fail
        refine (from7_any f Y).mono ?_
        rintro r w5 ⟨rfl, hL5⟩
        have hB5 := hL5.below
        have hlt5 : V.heap.size < w5.heap.size := Nat.lt_of_lt_of_le HY.out.1.lt hB5.size
        have H5 := hide (And.intro (HY.out.1.below hB5 HY.out.1.lt) (HY.out.2.trans (hB5.mono HY.out.2.size)))
        clear hL5 hB5 d0 d1 d2 d3
        go_upto_region 8 with fail
        obtain ⟨Z, hZ⟩ : ∃ Z, Z = w5.alloc (.cells #[.int .i64 f.2.1, .int .i64 f.2.2.1, .int .i64 f.2.2.2] 68) := ⟨_, rfl⟩
        rw [← hZ]
        have hpZ : Blk Z w5.heap.size 68 #[.int .i64 f.2.1, .int .i64 f.2.2.1, .int .i64 f.2.2.2] := by rw [hZ]; exact Blk.new _ _ _
        have hB5Z : Below w5.heap.size w5 Z := by rw [hZ]; exact (Below.refl _ w5).alloc (Nat.le_refl _) _
        have hfZ := H5.out.1.below hB5Z H5.out.1.lt
        have hBZ := H5.out.2.trans (hB5Z.mono H5.out.2.size)
        have hbZ := HV.out.2.2.2.2.2.2.below hBZ HV.out.2.2.2.2.2.2.lt
        obtain ⟨b0, b1⟩ : Z.cell? ⟨bs, 0, none⟩ = some (.int .i64 n) ∧ Z.cell? ⟨bs, 1, none⟩ = some (.map (some mb)) := ⟨hbZ.cell 0, hbZ.cell 1⟩
        obtain ⟨e0, e1, e2⟩ := hpZ.three
        have HZ := hide (And.intro hpZ (And.intro hfZ hBZ))
        clear hZ hpZ hB5Z hfZ hBZ hbZ
        go_quiet (fail)
        go_wp2_with fail
        obtain ⟨R, hR⟩ : ∃ R, R = Z.drewN nq := ⟨_, rfl⟩
        rw [← hR]
        have hZR : Below Z.heap.size Z R := by rw [hR]; exact below_drewN (Below.refl _ Z) nq
        have hpR := HZ.out.1.below hZR HZ.out.1.lt
        have hfR := HZ.out.2.1.below hZR HZ.out.2.1.lt
        have hVR := HZ.out.2.2.trans (hZR.mono HZ.out.2.2.size)
        have hSR := HV.out.1.below hVR HV.out.2.2.2.2.2.1
        have hBR := HV.out.2.2.1.trans (hVR.mono HV.out.2.2.1.size)
        have HR := hide (And.intro hpR (And.intro hfR (And.intro hSR (And.intro hBR hVR))))
        clear hZR hpR hfR hSR hBR hVR hR b0 b1 e0 e1 e2
        go_loopw [14] (fun xv wr => ∃ (i q' : Nat) (u : Int), i ≤ LN ∧ xv = .int .i64 (i : Int) ∧ Blk wr w5.heap.size 68 #[.int .i64 f.2.1, .int .i64 u, .int .i64 f.2.2.2] ∧ Blk wr V.heap.size 45 #[.int .i64 f.1, .int .i64 f.2.1, .int .i64 f.2.2.1, .int .i64 f.2.2.2] ∧ SetM wr w.heap.size q' (togsE noE ((part.take k).flatMap (patF n 2) ++ rowE 2 f 0 i)) ∧ q' ≤ q + i ∧ Below w.heap.size w wr) (fun xv _ => (f.2.2.1 + 1 - intOf xv).toNat)
        case atStart => exact ⟨0, q, f.2.2.1, by omega, by simp, HR.out.1, HR.out.2.1, by show SetM _ _ _ (togsE noE (_ ++ [])); rw [List.append_nil]; exact HR.out.2.2.1, by omega, HR.out.2.2.2.1⟩
        case round =>
          obtain ⟨i, q', u, hi, rfl, hp, hfb, hS, hq', hB⟩ := hrel
          obtain ⟨V2, rfl⟩ : ∃ V, V = wr := ⟨_, rfl⟩
          by_cases hiL : i < LN
          · have j1 : (i : Int) ≤ f.2.2.1 := by omega
            have fz := hp.frozen 1
            obtain ⟨r0, r1, r2⟩ := hp.three
            have hpl := hp.lt
            have h3 : f.1 = 0 ∨ f.1 = 1 ∨ f.1 = 2 := by omega
            have HP := hide (And.intro hp (And.intro hfb (And.intro hS (And.intro hq' hB))))
            clear hp hfb hS hq' hB
            go_upto_region 15 with fail
            obtain ⟨T, hT⟩ : ∃ T, T = V2.setCell ⟨w5.heap.size, 1, none⟩ (.int .i64 (i : Int)) := ⟨_, rfl⟩
            rw [← hT]
            have hpT : Blk T w5.heap.size 68 #[.int .i64 f.2.1, .int .i64 (i : Int), .int .i64 f.2.2.2] := by rw [hT]; exact HP.out.1.set_ 1 _
            have hne : V.heap.size ≠ w5.heap.size := by omega
            have hfT : Blk T V.heap.size 45 #[.int .i64 f.1, .int .i64 f.2.1, .int .i64 f.2.2.1, .int .i64 f.2.2.2] := by rw [hT]; exact HP.out.2.1.far hne _
            have hw5 : w.heap.size < w5.heap.size := by have := HV.out.2.2.2.2.2.1; omega
            have hBV2 : Below w5.heap.size V2 T := by rw [hT]; exact (Below.refl w5.heap.size V2).setCell (p := ⟨w5.heap.size, 1, none⟩) (Nat.le_refl _) _
            have hST := HP.out.2.2.1.below hBV2 hw5
            have hBT : Below w.heap.size w T := by rw [hT]; exact HP.out.2.2.2.2.setCell (by dsimp only; omega) _
            clear fz r0 r1 r2
            obtain ⟨e0, e1, e2⟩ := hpT.three
            have d0 : T.cell? ⟨V.heap.size, 0, none⟩ = some (.int .i64 f.1) := hfT.cell 0
            have htg := toggle7_any w.heap.size q' _ (3 - 1 - f.1, (f.2.1, (i : Int), f.2.2.2)) T hST (by unfold fitsF fitsP fits; dsimp only; omega) (by have := HP.out.2.2.2.1; have := HV.out.2.1; unfold maxLen; omega)
            have HT := hide (And.intro hpT (And.intro hfT (And.intro hBT htg)))
            clear hT hpT hfT hBV2 hST hBT htg
            go_wp2_with fail
            refine HT.out.2.2.2.mono ?_
            rintro r w6 ⟨rfl, hS6, hg6⟩
            have hp6 := HT.out.1.grown hg6 (fun e => by injection e with e; omega)
            have hf6 := HT.out.2.1.grown hg6 (fun e => by have := HV.out.2.2.2.2.2.1; injection e with e; omega)
            have hB6 := HT.out.2.2.1.trans (grown_is_below7 hg6 HT.out.2.2.1.size (Nat.le_refl _))
            have hrw : togsE noE ((part.take k).flatMap (patF n 2) ++ rowE 2 f 0 (i + 1)) = togE (togsE noE ((part.take k).flatMap (patF n 2) ++ rowE 2 f 0 i)) (3 - 1 - f.1, (f.2.1, (i : Int), f.2.2.2)) := by
              rw [rowE_succ, ← List.append_assoc, Int.zero_add]
              exact tog_snoc _ _
            rw [← hrw] at hS6
            have H6 := hide (And.intro hp6 (And.intro hf6 (And.intro hS6 hB6)))
            clear hp6 hf6 hS6 hB6 hg6 hrw e0 e1 e2 d0
            go_wp2
            go_roundw
            case rel => exact ⟨i + 1, q' + 1, _, by omega, by first | go_num | (congr 1; push_cast; omega), H6.out.1, H6.out.2.1, H6.out.2.2.1, by have := HP.out.2.2.2.1; omega, H6.out.2.2.2⟩
            case measure => simp [intOf]; omega
          · have j1 : ¬ (i : Int) ≤ f.2.2.1 := by omega
            have hie : i = LN := by omega
            rw [hie, ← HF.out.1] at hS
            have HE := hide (And.intro hS (And.intro hq' hB))
            clear hS hq' hB hp hfb hie
            go_wp2
            go_roundw
            case rel => exact ⟨k + 1, q', by omega, by go_num, HE.out.1, by have := HE.out.2.1; have := HV.out.2.1; omega, HE.out.2.2⟩
            case measure => simp [intOf]; omega
    · have i1 : ¬ (k : Int) < (M : Int) := by omega
      have hke : k = M := by omega
      rw [hke, HC.out.2.2.2, List.take_length] at hS
      have HE := hide (And.intro hS (And.intro hq hB))
      clear hS hq hB hke
      go_wp2
      go_ret
      exact ⟨_, rfl, q, HE.out.1, by have := HE.out.2.1; omega, Nat.le_refl _, HE.out.2.2⟩
set_option maxRecDepth 100000 in
set_option maxHeartbeats 16000000 in
theorem patch7_3 (bs mb n : Nat) (A : Option Addr) (c : Nat) (part : List EF) (w : World) (hb : Blk w bs 72 #[.int .i64 n, .map (some mb)]) (hs : Sl encF 4 w w.heap.size A part) (hg : ∀ f ∈ part, grdF n f) (hn : n ≤ 256) (hl : part.length ≤ 1000000) :
    Calls Try.prog 32 #[.pointer (some ⟨bs, 0, none⟩), .slice A part.length c, .int .i64 3] w fun e w' => ∃ pb k, e = .returned (.map (some pb)) ∧ SetM w' pb k (patE n 3 part) ∧ k ≤ 300 * part.length ∧ w.heap.size ≤ pb ∧ Below w.heap.size w w' := by
  have hlb := hb.lt
  have hmm := @run_makeMap Try.prog
  obtain ⟨M, hM⟩ : ∃ M, M = part.length := ⟨_, rfl⟩
  rw [← hM] at hl ⊢
  have HC := hide (And.intro hb (And.intro hs (And.intro hg hM)))
  clear hb hs hg hM
  go_enter Try.func32, Try.ntmps32
  go_upto_region 3 with fail
  obtain ⟨X, hX⟩ : ∃ X, X = w.alloc (.map #[] 0) := ⟨_, rfl⟩
  rw [← hX]
  have hSX : SetM X w.heap.size 0 (togsE noE ((part.take 0).flatMap (patF n 3))) := by
    rw [hX]
    exact MapK.made Try.prog 70 vF fitsF w
  have hBX : Below w.heap.size w X := by rw [hX]; exact (Below.refl _ w).alloc (Nat.le_refl _) _
  have HX := hide (And.intro hSX hBX)
  clear hX hSX hBX hmm
  go_wp2_with fail
  go_loopw [20] (fun iv wr => ∃ (k q : Nat), k ≤ M ∧ iv = .int .i64 k ∧ SetM wr w.heap.size q (togsE noE ((part.take k).flatMap (patF n 3))) ∧ q ≤ 300 * k ∧ Below w.heap.size w wr) (fun iv _ => M - (intOf iv).toNat)
  case atStart => exact ⟨0, 0, by omega, rfl, HX.out.1, by omega, HX.out.2⟩
  case round =>
    obtain ⟨k, q, hk, rfl, hS, hq, hB⟩ := hrel
    obtain ⟨V, rfl⟩ : ∃ V, V = wr := ⟨_, rfl⟩
    by_cases hkM : k < M
    · have i1 : (k : Int) < (M : Int) := by omega
      obtain ⟨f, hf⟩ : ∃ f, part[k]? = some f := ⟨_, List.getElem?_eq_getElem (by rw [← HC.out.2.2.2]; exact hkM)⟩
      have hgf := HC.out.2.2.1 f (List.mem_of_getElem? hf)
      have htk : part.take (k + 1) = part.take k ++ [f] := by rw [List.take_add_one, hf]; rfl
      have hfs := flat_snoc n 3 (part.take k) f
      rw [← htk] at hfs
      obtain ⟨tb, oo, hA, _, g0, g1, g2, g3⟩ := (HC.out.2.1.below hB).four hf
      subst hA
      have hpb := hS.lt
      have hbV := HC.out.1.below hB hlb
      have HV := hide (And.intro hS (And.intro hq (And.intro hB (And.intro hfs (And.intro hgf (And.intro hpb hbV))))))
      clear hS hq hB hfs hf htk hpb hbV
      obtain ⟨⟨gf0, gf1⟩, ⟨gf2, gf3, gf4⟩, ⟨gf5, gf6, gf7⟩, gf8⟩ := hgf
      clear gf8
      by_cases hfa : f.1 = 1
      · have hpf : patF n 3 f = [] := by unfold patF; rw [if_pos (by rw [hfa]; rfl)]
        have hbe : (f.1 == 1) = true := by rw [hfa]; rfl
        have hfs := HV.out.2.2.2.1
        rw [hpf, List.append_nil] at hfs
        have HF := hide (And.intro hfs hfa)
        clear hfs hfa hpf
        go_upto_region 6 with fail
        obtain ⟨Y, hY⟩ : ∃ Y, Y = V.alloc (.cells #[.int .i64 f.1, .int .i64 f.2.1, .int .i64 f.2.2.1, .int .i64 f.2.2.2] 45) := ⟨_, rfl⟩
        rw [← hY]
        have hfY : Blk Y V.heap.size 45 #[.int .i64 f.1, .int .i64 f.2.1, .int .i64 f.2.2.1, .int .i64 f.2.2.2] := by rw [hY]; exact Blk.new _ _ _
        have hBY : Below V.heap.size V Y := by rw [hY]; exact (Below.refl _ V).alloc (Nat.le_refl _) _
        obtain ⟨d0, d1, d2, d3⟩ := hfY.four
        have HY := hide (And.intro (HV.out.1.below hBY HV.out.2.2.2.2.2.1) (HV.out.2.2.1.trans (hBY.mono HV.out.2.2.1.size)))
        clear hY hfY hBY g0 g1 g2 g3
        go_wp2
        go_roundw
        case rel => exact ⟨k + 1, q, by omega, by go_num, by rw [HF.out.1]; exact HY.out.1, by have := HV.out.2.1; omega, HY.out.2⟩
        case measure => simp [intOf]; omega
      · have hbe : (f.1 == 1) = false := by rw [beq_eq_false_iff_ne]; exact hfa
        have hlt : f.2.2.1 < n := (grdF_cmp HV.out.2.2.2.2.1 (a := 1) (by omega) hfa).2
        obtain ⟨LN, hLN⟩ : ∃ LN : Nat, (LN : Int) = n + 1 - (f.2.2.1 + 1) := ⟨(n + 1 - (f.2.2.1 + 1)).toNat, by omega⟩
        have hpf : patF n 3 f = rowE 3 f (f.2.2.1 + 1) LN := by
          unfold patF
          rw [if_neg (by intro h; exact hfa h)]
          show rowE 3 f (f.2.2.1 + 1) (n + 1 - (f.2.2.1 + 1)).toNat = _
          congr 1
          omega
        have hfs := HV.out.2.2.2.1
        rw [hpf] at hfs
        have HF := hide (And.intro hfs hfa)
        clear hfs hpf hfa
        go_upto_region 6 with fail
        obtain ⟨Y, hY⟩ : ∃ Y, Y = V.alloc (.cells #[.int .i64 f.1, .int .i64 f.2.1, .int .i64 f.2.2.1, .int .i64 f.2.2.2] 45) := ⟨_, rfl⟩
        rw [← hY]
        have hfY : Blk Y V.heap.size 45 #[.int .i64 f.1, .int .i64 f.2.1, .int .i64 f.2.2.1, .int .i64 f.2.2.2] := by rw [hY]; exact Blk.new _ _ _
        have hBY : Below V.heap.size V Y := by rw [hY]; exact (Below.refl _ V).alloc (Nat.le_refl _) _
        obtain ⟨d0, d1, d2, d3⟩ := hfY.four
        have HY := hide (And.intro hfY hBY)
        clear hY hfY hBY g0 g1 g2 g3
        go_wp2_with fail
        refine (from7_any f Y).mono ?_
        rintro r w5 ⟨rfl, hL5⟩
        have hB5 := hL5.below
        have hlt5 : V.heap.size < w5.heap.size := Nat.lt_of_lt_of_le HY.out.1.lt hB5.size
        have H5 := hide (And.intro (HY.out.1.below hB5 HY.out.1.lt) (HY.out.2.trans (hB5.mono HY.out.2.size)))
        clear hL5 hB5 d0 d1 d2 d3
        go_upto_region 8 with fail
        obtain ⟨Z, hZ⟩ : ∃ Z, Z = w5.alloc (.cells #[.int .i64 f.2.1, .int .i64 f.2.2.1, .int .i64 f.2.2.2] 68) := ⟨_, rfl⟩
        rw [← hZ]
        have hpZ : Blk Z w5.heap.size 68 #[.int .i64 f.2.1, .int .i64 f.2.2.1, .int .i64 f.2.2.2] := by rw [hZ]; exact Blk.new _ _ _
        have hB5Z : Below w5.heap.size w5 Z := by rw [hZ]; exact (Below.refl _ w5).alloc (Nat.le_refl _) _
        have hfZ := H5.out.1.below hB5Z H5.out.1.lt
        have hBZ := H5.out.2.trans (hB5Z.mono H5.out.2.size)
        have hbZ := HV.out.2.2.2.2.2.2.below hBZ HV.out.2.2.2.2.2.2.lt
        obtain ⟨b0, b1⟩ : Z.cell? ⟨bs, 0, none⟩ = some (.int .i64 n) ∧ Z.cell? ⟨bs, 1, none⟩ = some (.map (some mb)) := ⟨hbZ.cell 0, hbZ.cell 1⟩
        obtain ⟨e0, e1, e2⟩ := hpZ.three
        have HZ := hide (And.intro hpZ (And.intro hfZ hBZ))
        clear hZ hpZ hB5Z hfZ hBZ hbZ
        go_quiet (fail)
        go_wp2_with fail
        obtain ⟨nq1, rfl⟩ : ∃ x, x = nq := ⟨_, rfl⟩
        go_quiet (fail)
        go_wp2_with fail
        obtain ⟨R, hR⟩ : ∃ R, R = (Z.drewN nq1).drewN nq := ⟨_, rfl⟩
        rw [← hR]
        have hZR : Below Z.heap.size Z R := by rw [hR]; exact below_drewN (below_drewN (Below.refl _ Z) _) _
        have hpR := HZ.out.1.below hZR HZ.out.1.lt
        have hfR := HZ.out.2.1.below hZR HZ.out.2.1.lt
        have hVR := HZ.out.2.2.trans (hZR.mono HZ.out.2.2.size)
        have hSR := HV.out.1.below hVR HV.out.2.2.2.2.2.1
        have hBR := HV.out.2.2.1.trans (hVR.mono HV.out.2.2.1.size)
        have HR := hide (And.intro hpR (And.intro hfR (And.intro hSR (And.intro hBR hVR))))
        clear hZR hpR hfR hSR hBR hVR hR b0 b1 e0 e1 e2
        go_loopw [14] (fun xv wr => ∃ (i q' : Nat) (u : Int), i ≤ LN ∧ xv = .int .i64 ((f.2.2.1 + 1) + (i : Int)) ∧ Blk wr w5.heap.size 68 #[.int .i64 f.2.1, .int .i64 u, .int .i64 f.2.2.2] ∧ Blk wr V.heap.size 45 #[.int .i64 f.1, .int .i64 f.2.1, .int .i64 f.2.2.1, .int .i64 f.2.2.2] ∧ SetM wr w.heap.size q' (togsE noE ((part.take k).flatMap (patF n 3) ++ rowE 3 f (f.2.2.1 + 1) i)) ∧ q' ≤ q + i ∧ Below w.heap.size w wr) (fun xv _ => (n + 1 - intOf xv).toNat)
        case atStart => exact ⟨0, q, f.2.2.1, by omega, by simp, HR.out.1, HR.out.2.1, by show SetM _ _ _ (togsE noE (_ ++ [])); rw [List.append_nil]; exact HR.out.2.2.1, by omega, HR.out.2.2.2.1⟩
        case round =>
          obtain ⟨i, q', u, hi, rfl, hp, hfb, hS, hq', hB⟩ := hrel
          obtain ⟨V2, rfl⟩ : ∃ V, V = wr := ⟨_, rfl⟩
          by_cases hiL : i < LN
          · have j1 : ((f.2.2.1 + 1) + (i : Int)) ≤ n := by omega
            have fz := hp.frozen 1
            obtain ⟨r0, r1, r2⟩ := hp.three
            have hpl := hp.lt
            have h3 : f.1 = 0 ∨ f.1 = 1 ∨ f.1 = 2 := by omega
            have HP := hide (And.intro hp (And.intro hfb (And.intro hS (And.intro hq' hB))))
            clear hp hfb hS hq' hB
            go_upto_region 15 with fail
            obtain ⟨T, hT⟩ : ∃ T, T = V2.setCell ⟨w5.heap.size, 1, none⟩ (.int .i64 ((f.2.2.1 + 1) + (i : Int))) := ⟨_, rfl⟩
            rw [← hT]
            have hpT : Blk T w5.heap.size 68 #[.int .i64 f.2.1, .int .i64 ((f.2.2.1 + 1) + (i : Int)), .int .i64 f.2.2.2] := by rw [hT]; exact HP.out.1.set_ 1 _
            have hne : V.heap.size ≠ w5.heap.size := by omega
            have hfT : Blk T V.heap.size 45 #[.int .i64 f.1, .int .i64 f.2.1, .int .i64 f.2.2.1, .int .i64 f.2.2.2] := by rw [hT]; exact HP.out.2.1.far hne _
            have hw5 : w.heap.size < w5.heap.size := by have := HV.out.2.2.2.2.2.1; omega
            have hBV2 : Below w5.heap.size V2 T := by rw [hT]; exact (Below.refl w5.heap.size V2).setCell (p := ⟨w5.heap.size, 1, none⟩) (Nat.le_refl _) _
            have hST := HP.out.2.2.1.below hBV2 hw5
            have hBT : Below w.heap.size w T := by rw [hT]; exact HP.out.2.2.2.2.setCell (by dsimp only; omega) _
            clear fz r0 r1 r2
            obtain ⟨e0, e1, e2⟩ := hpT.three
            have d0 : T.cell? ⟨V.heap.size, 0, none⟩ = some (.int .i64 f.1) := hfT.cell 0
            have htg := toggle7_any w.heap.size q' _ (3 - 1 - f.1, (f.2.1, ((f.2.2.1 + 1) + (i : Int)), f.2.2.2)) T hST (by unfold fitsF fitsP fits; dsimp only; omega) (by have := HP.out.2.2.2.1; have := HV.out.2.1; unfold maxLen; omega)
            have HT := hide (And.intro hpT (And.intro hfT (And.intro hBT htg)))
            clear hT hpT hfT hBV2 hST hBT htg
            go_wp2_with fail
            refine HT.out.2.2.2.mono ?_
            rintro r w6 ⟨rfl, hS6, hg6⟩
            have hp6 := HT.out.1.grown hg6 (fun e => by injection e with e; omega)
            have hf6 := HT.out.2.1.grown hg6 (fun e => by have := HV.out.2.2.2.2.2.1; injection e with e; omega)
            have hB6 := HT.out.2.2.1.trans (grown_is_below7 hg6 HT.out.2.2.1.size (Nat.le_refl _))
            have hrw : togsE noE ((part.take k).flatMap (patF n 3) ++ rowE 3 f (f.2.2.1 + 1) (i + 1)) = togE (togsE noE ((part.take k).flatMap (patF n 3) ++ rowE 3 f (f.2.2.1 + 1) i)) (3 - 1 - f.1, (f.2.1, ((f.2.2.1 + 1) + (i : Int)), f.2.2.2)) := by
              rw [rowE_succ, ← List.append_assoc]
              exact tog_snoc _ _
            rw [← hrw] at hS6
            have H6 := hide (And.intro hp6 (And.intro hf6 (And.intro hS6 hB6)))
            clear hp6 hf6 hS6 hB6 hg6 hrw e0 e1 e2 d0
            go_wp2
            go_roundw
            case rel => exact ⟨i + 1, q' + 1, _, by omega, by first | go_num | (congr 1; push_cast; omega), H6.out.1, H6.out.2.1, H6.out.2.2.1, by have := HP.out.2.2.2.1; omega, H6.out.2.2.2⟩
            case measure => simp [intOf]; omega
          · have j1 : ¬ ((f.2.2.1 + 1) + (i : Int)) ≤ n := by omega
            have hie : i = LN := by omega
            rw [hie, ← HF.out.1] at hS
            have HE := hide (And.intro hS (And.intro hq' hB))
            clear hS hq' hB hp hfb hie
            go_wp2
            go_roundw
            case rel => exact ⟨k + 1, q', by omega, by go_num, HE.out.1, by have := HE.out.2.1; have := HV.out.2.1; omega, HE.out.2.2⟩
            case measure => simp [intOf]; omega
    · have i1 : ¬ (k : Int) < (M : Int) := by omega
      have hke : k = M := by omega
      rw [hke, HC.out.2.2.2, List.take_length] at hS
      have HE := hide (And.intro hS (And.intro hq hB))
      clear hS hq hB hke
      go_wp2
      go_ret
      exact ⟨_, rfl, q, HE.out.1, by have := HE.out.2.1; omega, Nat.le_refl _, HE.out.2.2⟩
set_option maxRecDepth 100000 in
set_option maxHeartbeats 16000000 in
theorem patch7_4 (bs mb n : Nat) (A : Option Addr) (c : Nat) (part : List EF) (w : World) (hb : Blk w bs 72 #[.int .i64 n, .map (some mb)]) (hs : Sl encF 4 w w.heap.size A part) (hg : ∀ f ∈ part, grdF n f) (hn : n ≤ 256) (hl : part.length ≤ 1000000) :
    Calls Try.prog 32 #[.pointer (some ⟨bs, 0, none⟩), .slice A part.length c, .int .i64 4] w fun e w' => ∃ pb k, e = .returned (.map (some pb)) ∧ SetM w' pb k (patE n 4 part) ∧ k ≤ 300 * part.length ∧ w.heap.size ≤ pb ∧ Below w.heap.size w w' := by
  have hlb := hb.lt
  have hmm := @run_makeMap Try.prog
  obtain ⟨M, hM⟩ : ∃ M, M = part.length := ⟨_, rfl⟩
  rw [← hM] at hl ⊢
  have HC := hide (And.intro hb (And.intro hs (And.intro hg hM)))
  clear hb hs hg hM
  go_enter Try.func32, Try.ntmps32
  go_upto_region 3 with fail
  obtain ⟨X, hX⟩ : ∃ X, X = w.alloc (.map #[] 0) := ⟨_, rfl⟩
  rw [← hX]
  have hSX : SetM X w.heap.size 0 (togsE noE ((part.take 0).flatMap (patF n 4))) := by
    rw [hX]
    exact MapK.made Try.prog 70 vF fitsF w
  have hBX : Below w.heap.size w X := by rw [hX]; exact (Below.refl _ w).alloc (Nat.le_refl _) _
  have HX := hide (And.intro hSX hBX)
  clear hX hSX hBX hmm
  go_wp2_with fail
  go_loopw [20] (fun iv wr => ∃ (k q : Nat), k ≤ M ∧ iv = .int .i64 k ∧ SetM wr w.heap.size q (togsE noE ((part.take k).flatMap (patF n 4))) ∧ q ≤ 300 * k ∧ Below w.heap.size w wr) (fun iv _ => M - (intOf iv).toNat)
  case atStart => exact ⟨0, 0, by omega, rfl, HX.out.1, by omega, HX.out.2⟩
  case round =>
    obtain ⟨k, q, hk, rfl, hS, hq, hB⟩ := hrel
    obtain ⟨V, rfl⟩ : ∃ V, V = wr := ⟨_, rfl⟩
    by_cases hkM : k < M
    · have i1 : (k : Int) < (M : Int) := by omega
      obtain ⟨f, hf⟩ : ∃ f, part[k]? = some f := ⟨_, List.getElem?_eq_getElem (by rw [← HC.out.2.2.2]; exact hkM)⟩
      have hgf := HC.out.2.2.1 f (List.mem_of_getElem? hf)
      have htk : part.take (k + 1) = part.take k ++ [f] := by rw [List.take_add_one, hf]; rfl
      have hfs := flat_snoc n 4 (part.take k) f
      rw [← htk] at hfs
      obtain ⟨tb, oo, hA, _, g0, g1, g2, g3⟩ := (HC.out.2.1.below hB).four hf
      subst hA
      have hpb := hS.lt
      have hbV := HC.out.1.below hB hlb
      have HV := hide (And.intro hS (And.intro hq (And.intro hB (And.intro hfs (And.intro hgf (And.intro hpb hbV))))))
      clear hS hq hB hfs hf htk hpb hbV
      obtain ⟨⟨gf0, gf1⟩, ⟨gf2, gf3, gf4⟩, ⟨gf5, gf6, gf7⟩, gf8⟩ := hgf
      clear gf8
      by_cases hfa : f.1 = 2
      · have hpf : patF n 4 f = [] := by unfold patF; rw [if_pos (by rw [hfa]; rfl)]
        have hbe : (f.1 == 2) = true := by rw [hfa]; rfl
        have hfs := HV.out.2.2.2.1
        rw [hpf, List.append_nil] at hfs
        have HF := hide (And.intro hfs hfa)
        clear hfs hfa hpf
        go_upto_region 6 with fail
        obtain ⟨Y, hY⟩ : ∃ Y, Y = V.alloc (.cells #[.int .i64 f.1, .int .i64 f.2.1, .int .i64 f.2.2.1, .int .i64 f.2.2.2] 45) := ⟨_, rfl⟩
        rw [← hY]
        have hfY : Blk Y V.heap.size 45 #[.int .i64 f.1, .int .i64 f.2.1, .int .i64 f.2.2.1, .int .i64 f.2.2.2] := by rw [hY]; exact Blk.new _ _ _
        have hBY : Below V.heap.size V Y := by rw [hY]; exact (Below.refl _ V).alloc (Nat.le_refl _) _
        obtain ⟨d0, d1, d2, d3⟩ := hfY.four
        have HY := hide (And.intro (HV.out.1.below hBY HV.out.2.2.2.2.2.1) (HV.out.2.2.1.trans (hBY.mono HV.out.2.2.1.size)))
        clear hY hfY hBY g0 g1 g2 g3
        go_wp2
        go_roundw
        case rel => exact ⟨k + 1, q, by omega, by go_num, by rw [HF.out.1]; exact HY.out.1, by have := HV.out.2.1; omega, HY.out.2⟩
        case measure => simp [intOf]; omega
      · have hbe : (f.1 == 2) = false := by rw [beq_eq_false_iff_ne]; exact hfa
        have hlt : f.2.2.2 < n := (grdF_cmp HV.out.2.2.2.2.1 (a := 2) (by omega) hfa).2
        obtain ⟨LN, hLN⟩ : ∃ LN : Nat, (LN : Int) = f.2.2.2 + 1 - 0 := ⟨(f.2.2.2 + 1 - 0).toNat, by omega⟩
        have hpf : patF n 4 f = rowE 4 f 0 LN := by
          unfold patF
          rw [if_neg (by intro h; exact hfa h)]
          show rowE 4 f 0 (f.2.2.2 + 1 - 0).toNat = _
          congr 1
          omega
        have hfs := HV.out.2.2.2.1
        rw [hpf] at hfs
        have HF := hide (And.intro hfs hfa)
        clear hfs hpf hfa
        go_upto_region 6 with fail
        obtain ⟨Y, hY⟩ : ∃ Y, Y = V.alloc (.cells #[.int .i64 f.1, .int .i64 f.2.1, .int .i64 f.2.2.1, .int .i64 f.2.2.2] 45) := ⟨_, rfl⟩
        rw [← hY]
        have hfY : Blk Y V.heap.size 45 #[.int .i64 f.1, .int .i64 f.2.1, .int .i64 f.2.2.1, .int .i64 f.2.2.2] := by rw [hY]; exact Blk.new _ _ _
        have hBY : Below V.heap.size V Y := by rw [hY]; exact (Below.refl _ V).alloc (Nat.le_refl _) _
        obtain ⟨d0, d1, d2, d3⟩ := hfY.four
        have HY := hide (And.intro hfY hBY)
        clear hY hfY hBY g0 g1 g2 g3
        go_wp2_with fail
        refine (from7_any f Y).mono ?_
        rintro r w5 ⟨rfl, hL5⟩
        have hB5 := hL5.below
        have hlt5 : V.heap.size < w5.heap.size := Nat.lt_of_lt_of_le HY.out.1.lt hB5.size
        have H5 := hide (And.intro (HY.out.1.below hB5 HY.out.1.lt) (HY.out.2.trans (hB5.mono HY.out.2.size)))
        clear hL5 hB5 d0 d1 d2 d3
        go_upto_region 8 with fail
        obtain ⟨Z, hZ⟩ : ∃ Z, Z = w5.alloc (.cells #[.int .i64 f.2.1, .int .i64 f.2.2.1, .int .i64 f.2.2.2] 68) := ⟨_, rfl⟩
        rw [← hZ]
        have hpZ : Blk Z w5.heap.size 68 #[.int .i64 f.2.1, .int .i64 f.2.2.1, .int .i64 f.2.2.2] := by rw [hZ]; exact Blk.new _ _ _
        have hB5Z : Below w5.heap.size w5 Z := by rw [hZ]; exact (Below.refl _ w5).alloc (Nat.le_refl _) _
        have hfZ := H5.out.1.below hB5Z H5.out.1.lt
        have hBZ := H5.out.2.trans (hB5Z.mono H5.out.2.size)
        have hbZ := HV.out.2.2.2.2.2.2.below hBZ HV.out.2.2.2.2.2.2.lt
        obtain ⟨b0, b1⟩ : Z.cell? ⟨bs, 0, none⟩ = some (.int .i64 n) ∧ Z.cell? ⟨bs, 1, none⟩ = some (.map (some mb)) := ⟨hbZ.cell 0, hbZ.cell 1⟩
        obtain ⟨e0, e1, e2⟩ := hpZ.three
        have HZ := hide (And.intro hpZ (And.intro hfZ hBZ))
        clear hZ hpZ hB5Z hfZ hBZ hbZ
        go_quiet (fail)
        go_wp2_with fail
        obtain ⟨R, hR⟩ : ∃ R, R = Z.drewN nq := ⟨_, rfl⟩
        rw [← hR]
        have hZR : Below Z.heap.size Z R := by rw [hR]; exact below_drewN (Below.refl _ Z) nq
        have hpR := HZ.out.1.below hZR HZ.out.1.lt
        have hfR := HZ.out.2.1.below hZR HZ.out.2.1.lt
        have hVR := HZ.out.2.2.trans (hZR.mono HZ.out.2.2.size)
        have hSR := HV.out.1.below hVR HV.out.2.2.2.2.2.1
        have hBR := HV.out.2.2.1.trans (hVR.mono HV.out.2.2.1.size)
        have HR := hide (And.intro hpR (And.intro hfR (And.intro hSR (And.intro hBR hVR))))
        clear hZR hpR hfR hSR hBR hVR hR b0 b1 e0 e1 e2
        go_loopw [14] (fun xv wr => ∃ (i q' : Nat) (u : Int), i ≤ LN ∧ xv = .int .i64 (i : Int) ∧ Blk wr w5.heap.size 68 #[.int .i64 f.2.1, .int .i64 f.2.2.1, .int .i64 u] ∧ Blk wr V.heap.size 45 #[.int .i64 f.1, .int .i64 f.2.1, .int .i64 f.2.2.1, .int .i64 f.2.2.2] ∧ SetM wr w.heap.size q' (togsE noE ((part.take k).flatMap (patF n 4) ++ rowE 4 f 0 i)) ∧ q' ≤ q + i ∧ Below w.heap.size w wr) (fun xv _ => (f.2.2.2 + 1 - intOf xv).toNat)
        case atStart => exact ⟨0, q, f.2.2.2, by omega, by simp, HR.out.1, HR.out.2.1, by show SetM _ _ _ (togsE noE (_ ++ [])); rw [List.append_nil]; exact HR.out.2.2.1, by omega, HR.out.2.2.2.1⟩
        case round =>
          obtain ⟨i, q', u, hi, rfl, hp, hfb, hS, hq', hB⟩ := hrel
          obtain ⟨V2, rfl⟩ : ∃ V, V = wr := ⟨_, rfl⟩
          by_cases hiL : i < LN
          · have j1 : (i : Int) ≤ f.2.2.2 := by omega
            have fz := hp.frozen 2
            obtain ⟨r0, r1, r2⟩ := hp.three
            have hpl := hp.lt
            have h3 : f.1 = 0 ∨ f.1 = 1 ∨ f.1 = 2 := by omega
            have HP := hide (And.intro hp (And.intro hfb (And.intro hS (And.intro hq' hB))))
            clear hp hfb hS hq' hB
            go_upto_region 15 with fail
            obtain ⟨T, hT⟩ : ∃ T, T = V2.setCell ⟨w5.heap.size, 2, none⟩ (.int .i64 (i : Int)) := ⟨_, rfl⟩
            rw [← hT]
            have hpT : Blk T w5.heap.size 68 #[.int .i64 f.2.1, .int .i64 f.2.2.1, .int .i64 (i : Int)] := by rw [hT]; exact HP.out.1.set_ 2 _
            have hne : V.heap.size ≠ w5.heap.size := by omega
            have hfT : Blk T V.heap.size 45 #[.int .i64 f.1, .int .i64 f.2.1, .int .i64 f.2.2.1, .int .i64 f.2.2.2] := by rw [hT]; exact HP.out.2.1.far hne _
            have hw5 : w.heap.size < w5.heap.size := by have := HV.out.2.2.2.2.2.1; omega
            have hBV2 : Below w5.heap.size V2 T := by rw [hT]; exact (Below.refl w5.heap.size V2).setCell (p := ⟨w5.heap.size, 2, none⟩) (Nat.le_refl _) _
            have hST := HP.out.2.2.1.below hBV2 hw5
            have hBT : Below w.heap.size w T := by rw [hT]; exact HP.out.2.2.2.2.setCell (by dsimp only; omega) _
            clear fz r0 r1 r2
            obtain ⟨e0, e1, e2⟩ := hpT.three
            have d0 : T.cell? ⟨V.heap.size, 0, none⟩ = some (.int .i64 f.1) := hfT.cell 0
            have htg := toggle7_any w.heap.size q' _ (3 - 2 - f.1, (f.2.1, f.2.2.1, (i : Int))) T hST (by unfold fitsF fitsP fits; dsimp only; omega) (by have := HP.out.2.2.2.1; have := HV.out.2.1; unfold maxLen; omega)
            have HT := hide (And.intro hpT (And.intro hfT (And.intro hBT htg)))
            clear hT hpT hfT hBV2 hST hBT htg
            go_wp2_with fail
            refine HT.out.2.2.2.mono ?_
            rintro r w6 ⟨rfl, hS6, hg6⟩
            have hp6 := HT.out.1.grown hg6 (fun e => by injection e with e; omega)
            have hf6 := HT.out.2.1.grown hg6 (fun e => by have := HV.out.2.2.2.2.2.1; injection e with e; omega)
            have hB6 := HT.out.2.2.1.trans (grown_is_below7 hg6 HT.out.2.2.1.size (Nat.le_refl _))
            have hrw : togsE noE ((part.take k).flatMap (patF n 4) ++ rowE 4 f 0 (i + 1)) = togE (togsE noE ((part.take k).flatMap (patF n 4) ++ rowE 4 f 0 i)) (3 - 2 - f.1, (f.2.1, f.2.2.1, (i : Int))) := by
              rw [rowE_succ, ← List.append_assoc, Int.zero_add]
              exact tog_snoc _ _
            rw [← hrw] at hS6
            have H6 := hide (And.intro hp6 (And.intro hf6 (And.intro hS6 hB6)))
            clear hp6 hf6 hS6 hB6 hg6 hrw e0 e1 e2 d0
            go_wp2
            go_roundw
            case rel => exact ⟨i + 1, q' + 1, _, by omega, by first | go_num | (congr 1; push_cast; omega), H6.out.1, H6.out.2.1, H6.out.2.2.1, by have := HP.out.2.2.2.1; omega, H6.out.2.2.2⟩
            case measure => simp [intOf]; omega
          · have j1 : ¬ (i : Int) ≤ f.2.2.2 := by omega
            have hie : i = LN := by omega
            rw [hie, ← HF.out.1] at hS
            have HE := hide (And.intro hS (And.intro hq' hB))
            clear hS hq' hB hp hfb hie
            go_wp2
            go_roundw
            case rel => exact ⟨k + 1, q', by omega, by go_num, HE.out.1, by have := HE.out.2.1; have := HV.out.2.1; omega, HE.out.2.2⟩
            case measure => simp [intOf]; omega
    · have i1 : ¬ (k : Int) < (M : Int) := by omega
      have hke : k = M := by omega
      rw [hke, HC.out.2.2.2, List.take_length] at hS
      have HE := hide (And.intro hS (And.intro hq hB))
      clear hS hq hB hke
      go_wp2
      go_ret
      exact ⟨_, rfl, q, HE.out.1, by have := HE.out.2.1; omega, Nat.le_refl _, HE.out.2.2⟩
set_option maxRecDepth 100000 in
set_option maxHeartbeats 16000000 in
theorem patch7_5 (bs mb n : Nat) (A : Option Addr) (c : Nat) (part : List EF) (w : World) (hb : Blk w bs 72 #[.int .i64 n, .map (some mb)]) (hs : Sl encF 4 w w.heap.size A part) (hg : ∀ f ∈ part, grdF n f) (hn : n ≤ 256) (hl : part.length ≤ 1000000) :
    Calls Try.prog 32 #[.pointer (some ⟨bs, 0, none⟩), .slice A part.length c, .int .i64 5] w fun e w' => ∃ pb k, e = .returned (.map (some pb)) ∧ SetM w' pb k (patE n 5 part) ∧ k ≤ 300 * part.length ∧ w.heap.size ≤ pb ∧ Below w.heap.size w w' := by
  have hlb := hb.lt
  have hmm := @run_makeMap Try.prog
  obtain ⟨M, hM⟩ : ∃ M, M = part.length := ⟨_, rfl⟩
  rw [← hM] at hl ⊢
  have HC := hide (And.intro hb (And.intro hs (And.intro hg hM)))
  clear hb hs hg hM
  go_enter Try.func32, Try.ntmps32
  go_upto_region 3 with fail
  obtain ⟨X, hX⟩ : ∃ X, X = w.alloc (.map #[] 0) := ⟨_, rfl⟩
  rw [← hX]
  have hSX : SetM X w.heap.size 0 (togsE noE ((part.take 0).flatMap (patF n 5))) := by
    rw [hX]
    exact MapK.made Try.prog 70 vF fitsF w
  have hBX : Below w.heap.size w X := by rw [hX]; exact (Below.refl _ w).alloc (Nat.le_refl _) _
  have HX := hide (And.intro hSX hBX)
  clear hX hSX hBX hmm
  go_wp2_with fail
  go_loopw [20] (fun iv wr => ∃ (k q : Nat), k ≤ M ∧ iv = .int .i64 k ∧ SetM wr w.heap.size q (togsE noE ((part.take k).flatMap (patF n 5))) ∧ q ≤ 300 * k ∧ Below w.heap.size w wr) (fun iv _ => M - (intOf iv).toNat)
  case atStart => exact ⟨0, 0, by omega, rfl, HX.out.1, by omega, HX.out.2⟩
  case round =>
    obtain ⟨k, q, hk, rfl, hS, hq, hB⟩ := hrel
    obtain ⟨V, rfl⟩ : ∃ V, V = wr := ⟨_, rfl⟩
    by_cases hkM : k < M
    · have i1 : (k : Int) < (M : Int) := by omega
      obtain ⟨f, hf⟩ : ∃ f, part[k]? = some f := ⟨_, List.getElem?_eq_getElem (by rw [← HC.out.2.2.2]; exact hkM)⟩
      have hgf := HC.out.2.2.1 f (List.mem_of_getElem? hf)
      have htk : part.take (k + 1) = part.take k ++ [f] := by rw [List.take_add_one, hf]; rfl
      have hfs := flat_snoc n 5 (part.take k) f
      rw [← htk] at hfs
      obtain ⟨tb, oo, hA, _, g0, g1, g2, g3⟩ := (HC.out.2.1.below hB).four hf
      subst hA
      have hpb := hS.lt
      have hbV := HC.out.1.below hB hlb
      have HV := hide (And.intro hS (And.intro hq (And.intro hB (And.intro hfs (And.intro hgf (And.intro hpb hbV))))))
      clear hS hq hB hfs hf htk hpb hbV
      obtain ⟨⟨gf0, gf1⟩, ⟨gf2, gf3, gf4⟩, ⟨gf5, gf6, gf7⟩, gf8⟩ := hgf
      clear gf8
      by_cases hfa : f.1 = 2
      · have hpf : patF n 5 f = [] := by unfold patF; rw [if_pos (by rw [hfa]; rfl)]
        have hbe : (f.1 == 2) = true := by rw [hfa]; rfl
        have hfs := HV.out.2.2.2.1
        rw [hpf, List.append_nil] at hfs
        have HF := hide (And.intro hfs hfa)
        clear hfs hfa hpf
        go_upto_region 6 with fail
        obtain ⟨Y, hY⟩ : ∃ Y, Y = V.alloc (.cells #[.int .i64 f.1, .int .i64 f.2.1, .int .i64 f.2.2.1, .int .i64 f.2.2.2] 45) := ⟨_, rfl⟩
        rw [← hY]
        have hfY : Blk Y V.heap.size 45 #[.int .i64 f.1, .int .i64 f.2.1, .int .i64 f.2.2.1, .int .i64 f.2.2.2] := by rw [hY]; exact Blk.new _ _ _
        have hBY : Below V.heap.size V Y := by rw [hY]; exact (Below.refl _ V).alloc (Nat.le_refl _) _
        obtain ⟨d0, d1, d2, d3⟩ := hfY.four
        have HY := hide (And.intro (HV.out.1.below hBY HV.out.2.2.2.2.2.1) (HV.out.2.2.1.trans (hBY.mono HV.out.2.2.1.size)))
        clear hY hfY hBY g0 g1 g2 g3
        go_wp2
        go_roundw
        case rel => exact ⟨k + 1, q, by omega, by go_num, by rw [HF.out.1]; exact HY.out.1, by have := HV.out.2.1; omega, HY.out.2⟩
        case measure => simp [intOf]; omega
      · have hbe : (f.1 == 2) = false := by rw [beq_eq_false_iff_ne]; exact hfa
        have hlt : f.2.2.2 < n := (grdF_cmp HV.out.2.2.2.2.1 (a := 2) (by omega) hfa).2
        obtain ⟨LN, hLN⟩ : ∃ LN : Nat, (LN : Int) = n + 1 - (f.2.2.2 + 1) := ⟨(n + 1 - (f.2.2.2 + 1)).toNat, by omega⟩
        have hpf : patF n 5 f = rowE 5 f (f.2.2.2 + 1) LN := by
          unfold patF
          rw [if_neg (by intro h; exact hfa h)]
          show rowE 5 f (f.2.2.2 + 1) (n + 1 - (f.2.2.2 + 1)).toNat = _
          congr 1
          omega
        have hfs := HV.out.2.2.2.1
        rw [hpf] at hfs
        have HF := hide (And.intro hfs hfa)
        clear hfs hpf hfa
        go_upto_region 6 with fail
        obtain ⟨Y, hY⟩ : ∃ Y, Y = V.alloc (.cells #[.int .i64 f.1, .int .i64 f.2.1, .int .i64 f.2.2.1, .int .i64 f.2.2.2] 45) := ⟨_, rfl⟩
        rw [← hY]
        have hfY : Blk Y V.heap.size 45 #[.int .i64 f.1, .int .i64 f.2.1, .int .i64 f.2.2.1, .int .i64 f.2.2.2] := by rw [hY]; exact Blk.new _ _ _
        have hBY : Below V.heap.size V Y := by rw [hY]; exact (Below.refl _ V).alloc (Nat.le_refl _) _
        obtain ⟨d0, d1, d2, d3⟩ := hfY.four
        have HY := hide (And.intro hfY hBY)
        clear hY hfY hBY g0 g1 g2 g3
        go_wp2_with fail
        refine (from7_any f Y).mono ?_
        rintro r w5 ⟨rfl, hL5⟩
        have hB5 := hL5.below
        have hlt5 : V.heap.size < w5.heap.size := Nat.lt_of_lt_of_le HY.out.1.lt hB5.size
        have H5 := hide (And.intro (HY.out.1.below hB5 HY.out.1.lt) (HY.out.2.trans (hB5.mono HY.out.2.size)))
        clear hL5 hB5 d0 d1 d2 d3
        go_upto_region 8 with fail
        obtain ⟨Z, hZ⟩ : ∃ Z, Z = w5.alloc (.cells #[.int .i64 f.2.1, .int .i64 f.2.2.1, .int .i64 f.2.2.2] 68) := ⟨_, rfl⟩
        rw [← hZ]
        have hpZ : Blk Z w5.heap.size 68 #[.int .i64 f.2.1, .int .i64 f.2.2.1, .int .i64 f.2.2.2] := by rw [hZ]; exact Blk.new _ _ _
        have hB5Z : Below w5.heap.size w5 Z := by rw [hZ]; exact (Below.refl _ w5).alloc (Nat.le_refl _) _
        have hfZ := H5.out.1.below hB5Z H5.out.1.lt
        have hBZ := H5.out.2.trans (hB5Z.mono H5.out.2.size)
        have hbZ := HV.out.2.2.2.2.2.2.below hBZ HV.out.2.2.2.2.2.2.lt
        obtain ⟨b0, b1⟩ : Z.cell? ⟨bs, 0, none⟩ = some (.int .i64 n) ∧ Z.cell? ⟨bs, 1, none⟩ = some (.map (some mb)) := ⟨hbZ.cell 0, hbZ.cell 1⟩
        obtain ⟨e0, e1, e2⟩ := hpZ.three
        have HZ := hide (And.intro hpZ (And.intro hfZ hBZ))
        clear hZ hpZ hB5Z hfZ hBZ hbZ
        go_quiet (fail)
        go_wp2_with fail
        obtain ⟨nq1, rfl⟩ : ∃ x, x = nq := ⟨_, rfl⟩
        go_quiet (fail)
        go_wp2_with fail
        obtain ⟨R, hR⟩ : ∃ R, R = (Z.drewN nq1).drewN nq := ⟨_, rfl⟩
        rw [← hR]
        have hZR : Below Z.heap.size Z R := by rw [hR]; exact below_drewN (below_drewN (Below.refl _ Z) _) _
        have hpR := HZ.out.1.below hZR HZ.out.1.lt
        have hfR := HZ.out.2.1.below hZR HZ.out.2.1.lt
        have hVR := HZ.out.2.2.trans (hZR.mono HZ.out.2.2.size)
        have hSR := HV.out.1.below hVR HV.out.2.2.2.2.2.1
        have hBR := HV.out.2.2.1.trans (hVR.mono HV.out.2.2.1.size)
        have HR := hide (And.intro hpR (And.intro hfR (And.intro hSR (And.intro hBR hVR))))
        clear hZR hpR hfR hSR hBR hVR hR b0 b1 e0 e1 e2
        go_loopw [14] (fun xv wr => ∃ (i q' : Nat) (u : Int), i ≤ LN ∧ xv = .int .i64 ((f.2.2.2 + 1) + (i : Int)) ∧ Blk wr w5.heap.size 68 #[.int .i64 f.2.1, .int .i64 f.2.2.1, .int .i64 u] ∧ Blk wr V.heap.size 45 #[.int .i64 f.1, .int .i64 f.2.1, .int .i64 f.2.2.1, .int .i64 f.2.2.2] ∧ SetM wr w.heap.size q' (togsE noE ((part.take k).flatMap (patF n 5) ++ rowE 5 f (f.2.2.2 + 1) i)) ∧ q' ≤ q + i ∧ Below w.heap.size w wr) (fun xv _ => (n + 1 - intOf xv).toNat)
        case atStart => exact ⟨0, q, f.2.2.2, by omega, by simp, HR.out.1, HR.out.2.1, by show SetM _ _ _ (togsE noE (_ ++ [])); rw [List.append_nil]; exact HR.out.2.2.1, by omega, HR.out.2.2.2.1⟩
        case round =>
          obtain ⟨i, q', u, hi, rfl, hp, hfb, hS, hq', hB⟩ := hrel
          obtain ⟨V2, rfl⟩ : ∃ V, V = wr := ⟨_, rfl⟩
          by_cases hiL : i < LN
          · have j1 : ((f.2.2.2 + 1) + (i : Int)) ≤ n := by omega
            have fz := hp.frozen 2
            obtain ⟨r0, r1, r2⟩ := hp.three
            have hpl := hp.lt
            have h3 : f.1 = 0 ∨ f.1 = 1 ∨ f.1 = 2 := by omega
            have HP := hide (And.intro hp (And.intro hfb (And.intro hS (And.intro hq' hB))))
            clear hp hfb hS hq' hB
            go_upto_region 15 with fail
            obtain ⟨T, hT⟩ : ∃ T, T = V2.setCell ⟨w5.heap.size, 2, none⟩ (.int .i64 ((f.2.2.2 + 1) + (i : Int))) := ⟨_, rfl⟩
            rw [← hT]
            have hpT : Blk T w5.heap.size 68 #[.int .i64 f.2.1, .int .i64 f.2.2.1, .int .i64 ((f.2.2.2 + 1) + (i : Int))] := by rw [hT]; exact HP.out.1.set_ 2 _
            have hne : V.heap.size ≠ w5.heap.size := by omega
            have hfT : Blk T V.heap.size 45 #[.int .i64 f.1, .int .i64 f.2.1, .int .i64 f.2.2.1, .int .i64 f.2.2.2] := by rw [hT]; exact HP.out.2.1.far hne _
            have hw5 : w.heap.size < w5.heap.size := by have := HV.out.2.2.2.2.2.1; omega
            have hBV2 : Below w5.heap.size V2 T := by rw [hT]; exact (Below.refl w5.heap.size V2).setCell (p := ⟨w5.heap.size, 2, none⟩) (Nat.le_refl _) _
            have hST := HP.out.2.2.1.below hBV2 hw5
            have hBT : Below w.heap.size w T := by rw [hT]; exact HP.out.2.2.2.2.setCell (by dsimp only; omega) _
            clear fz r0 r1 r2
            obtain ⟨e0, e1, e2⟩ := hpT.three
            have d0 : T.cell? ⟨V.heap.size, 0, none⟩ = some (.int .i64 f.1) := hfT.cell 0
            have htg := toggle7_any w.heap.size q' _ (3 - 2 - f.1, (f.2.1, f.2.2.1, ((f.2.2.2 + 1) + (i : Int)))) T hST (by unfold fitsF fitsP fits; dsimp only; omega) (by have := HP.out.2.2.2.1; have := HV.out.2.1; unfold maxLen; omega)
            have HT := hide (And.intro hpT (And.intro hfT (And.intro hBT htg)))
            clear hT hpT hfT hBV2 hST hBT htg
            go_wp2_with fail
            refine HT.out.2.2.2.mono ?_
            rintro r w6 ⟨rfl, hS6, hg6⟩
            have hp6 := HT.out.1.grown hg6 (fun e => by injection e with e; omega)
            have hf6 := HT.out.2.1.grown hg6 (fun e => by have := HV.out.2.2.2.2.2.1; injection e with e; omega)
            have hB6 := HT.out.2.2.1.trans (grown_is_below7 hg6 HT.out.2.2.1.size (Nat.le_refl _))
            have hrw : togsE noE ((part.take k).flatMap (patF n 5) ++ rowE 5 f (f.2.2.2 + 1) (i + 1)) = togE (togsE noE ((part.take k).flatMap (patF n 5) ++ rowE 5 f (f.2.2.2 + 1) i)) (3 - 2 - f.1, (f.2.1, f.2.2.1, ((f.2.2.2 + 1) + (i : Int)))) := by
              rw [rowE_succ, ← List.append_assoc]
              exact tog_snoc _ _
            rw [← hrw] at hS6
            have H6 := hide (And.intro hp6 (And.intro hf6 (And.intro hS6 hB6)))
            clear hp6 hf6 hS6 hB6 hg6 hrw e0 e1 e2 d0
            go_wp2
            go_roundw
            case rel => exact ⟨i + 1, q' + 1, _, by omega, by first | go_num | (congr 1; push_cast; omega), H6.out.1, H6.out.2.1, H6.out.2.2.1, by have := HP.out.2.2.2.1; omega, H6.out.2.2.2⟩
            case measure => simp [intOf]; omega
          · have j1 : ¬ ((f.2.2.2 + 1) + (i : Int)) ≤ n := by omega
            have hie : i = LN := by omega
            rw [hie, ← HF.out.1] at hS
            have HE := hide (And.intro hS (And.intro hq' hB))
            clear hS hq' hB hp hfb hie
            go_wp2
            go_roundw
            case rel => exact ⟨k + 1, q', by omega, by go_num, HE.out.1, by have := HE.out.2.1; have := HV.out.2.1; omega, HE.out.2.2⟩
            case measure => simp [intOf]; omega
    · have i1 : ¬ (k : Int) < (M : Int) := by omega
      have hke : k = M := by omega
      rw [hke, HC.out.2.2.2, List.take_length] at hS
      have HE := hide (And.intro hS (And.intro hq hB))
      clear hS hq hB hke
      go_wp2
      go_ret
      exact ⟨_, rfl, q, HE.out.1, by have := HE.out.2.1; omega, Nat.le_refl _, HE.out.2.2⟩
end Go.Proofs.Ytdpgohpbannfnaa
/- seal: a patch in any direction, its size, the least one. -/
namespace Go.Proofs.Ytdpgohpbannfnaa
open Go.RowKit Go.Sort Go.WideMaps Go.Maps
theorem patch7_any (d : Nat) (hd : d < 6) (bs mb n : Nat) (A : Option Addr) (c : Nat) (part : List EF) (w : World) (hb : Blk w bs 72 #[.int .i64 n, .map (some mb)]) (hs : Sl encF 4 w w.heap.size A part) (hg : ∀ f ∈ part, grdF n f) (hn : n ≤ 256) (hl : part.length ≤ 1000000) :
    Calls Try.prog 32 #[.pointer (some ⟨bs, 0, none⟩), .slice A part.length c, .int .i64 d] w fun e w' => ∃ pb k, e = .returned (.map (some pb)) ∧ SetM w' pb k (patE n d part) ∧ k ≤ 300 * part.length ∧ w.heap.size ≤ pb ∧ Below w.heap.size w w' := by
  have hc : d = 0 ∨ d = 1 ∨ d = 2 ∨ d = 3 ∨ d = 4 ∨ d = 5 := by omega
  rcases hc with rfl | rfl | rfl | rfl | rfl | rfl
  · exact patch7_0 bs mb n A c part w hb hs hg hn hl
  · exact patch7_1 bs mb n A c part w hb hs hg hn hl
  · exact patch7_2 bs mb n A c part w hb hs hg hn hl
  · exact patch7_3 bs mb n A c part w hb hs hg hn hl
  · exact patch7_4 bs mb n A c part w hb hs hg hn hl
  · exact patch7_5 bs mb n A c part w hb hs hg hn hl
/-- A patch's edges are edges of the grid. -/
theorem pat_all {n d : Nat} {part : List EF} (hg : ∀ f ∈ part, grdF n f) (hd : d < 6) : ∀ e, patE n d part e = true → e ∈ allE (n + 1) := by
  intro e he
  obtain ⟨f, hf, h⟩ := List.mem_flatMap.1 (togsE_mem he)
  have hgf := hg f hf
  unfold patF at h
  split at h
  · cases h
  · rename_i hne
    obtain ⟨h1, ⟨i, hi, h2⟩, h3⟩ := rowE_mem.1 h
    have ha := dirA_ax hd
    have hc := grdF_cmp hgf ha hne
    have hlow : 0 ≤ lowD d f + i ∧ lowD d f + i ≤ n := by
      unfold lowD at *
      unfold highD at hi
      split
      · rename_i ho; rw [if_pos ho, if_pos ho] at hi; omega
      · rename_i ho; rw [if_neg ho, if_neg ho] at hi; omega
    rw [← h2] at hlow
    obtain ⟨g0, ⟨g1, g2, g3⟩, ⟨g4, g5, g6⟩, _⟩ := hgf
    obtain ⟨t, x, y, z⟩ := e
    refine allE_mem.2 ?_
    dsimp only at *
    have e1 := congrArg (fun p : Pt => p.1) h3
    have e2 := congrArg (fun p : Pt => p.2.1) h3
    have e3 := congrArg (fun p : Pt => p.2.2) h3
    unfold set3 at e1 e2 e3
    unfold cmp3 at hlow
    clear hi h2
    generalize dirA d = a at *
    rcases ha with rfl | rfl | rfl <;> (simp at e1 e2 e3 hlow; omega)
theorem cntE_few (n : Nat) (hn : n ≤ 256) (E : EF → Bool) : cntE (n + 1) E ≤ 60000000 := by
  unfold cntE
  refine Nat.le_trans List.countP_le_length ?_
  rw [allE_length]
  have h1 : (n + 1) * (n + 1) ≤ 257 * 257 := Nat.mul_le_mul (by omega) (by omega)
  have h2 : (n + 1) * (n + 1) * (n + 1) ≤ 257 * 257 * 257 := Nat.mul_le_mul h1 (by omega)
  omega
set_option maxRecDepth 100000 in
set_option maxHeartbeats 4000000 in
theorem size7_any (pb k n : Nat) (E : EF → Bool) (w : World) (hS : SetM w pb k E) (hE : ∀ e, E e = true → e ∈ allE (n + 1)) (hn : n ≤ 256) :
    Calls Try.prog 34 #[.map (some pb)] w fun e w' => e = .returned (.int .i64 (cntE (n + 1) E : Nat)) ∧ w' = w := by
  have hlen := MapK.len kfE7 (t := 63) (e := 4) (show MapK Try.prog 70 vF fitsF w pb k (setV E) from hS) Try.underlying63 ((allE (n + 1)).filter E) ((allE_nodup _).filter _) (fun p hp => by
    have h := allE_mem.1 (List.mem_filter.1 hp).1
    unfold fitsF fitsP fits
    omega) (fun p _ => by
    unfold setV
    rw [List.mem_filter]
    cases hp : E p with
    | true => simp [hE p hp]
    | false => simp) 3
  rw [← List.countP_eq_length_filter] at hlen
  have HE := hide (show cntE (n + 1) E = (allE (n + 1)).countP E from rfl)
  rw [← HE.out] at hlen
  obtain ⟨m, hm⟩ : ∃ m, m = cntE (n + 1) E := ⟨_, rfl⟩
  rw [← hm] at hlen ⊢
  clear hS hE hm HE
  go_enter Try.func34, Try.ntmps34
  go_wp2
  go_ret
  exact ⟨rfl, rfl⟩
end Go.Proofs.Ytdpgohpbannfnaa
/- seal.least at sets. -/
namespace Go.Proofs.Ytdpgohpbannfnaa
open Go.RowKit Go.Sort Go.WideMaps Go.Maps
def encM (pb : Nat) : List Value := [.map (some pb)]
theorem encM_len (pb : Nat) : (encM pb).length = 1 := rfl
theorem encM_one (pb : Nat) : ∀ u ∈ encM pb, u.oneCell' = true := by
  intro u hu
  simp only [encM, List.mem_singleton] at hu
  subst hu
  rfl
theorem Sl.map1 {w : World} {B : Nat} {A : Option Addr} {ps : List Nat} (h : Sl encM 1 w B A ps) {i : Nat} {p : Nat} (hi : ps[i]? = some p) :
    ∃ b o, A = some ⟨b, o, none⟩ ∧ b < B ∧ w.cell? ⟨b, o + i, none⟩ = some (.map (some p)) := by
  obtain ⟨b, o, ha, hb, hc⟩ := h.at hi
  have := hc 0 _ rfl
  rw [Nat.mul_one, Nat.add_zero] at this
  exact ⟨b, o, ha, hb, this⟩
/-- The best among the first k. -/
def bestK (z : Nat → Nat) (k : Nat) : Nat := if k = 0 then 0 else bestN z (k - 1)
theorem bestK_succ (z : Nat → Nat) (k : Nat) : bestK z (k + 1) = if z k < z (bestK z k) then k else bestK z k := by
  unfold bestK
  cases k with
  | zero => simp [bestN]
  | succ k => simp [bestN]
theorem bestK_le (z : Nat → Nat) (k : Nat) (hk : k ≤ 6) : bestK z k < 6 := by
  unfold bestK
  split
  · omega
  · have := bestN_le z (k - 1); omega
set_option maxRecDepth 100000 in
set_option maxHeartbeats 16000000 in
theorem least7_any (n : Nat) (hn : n ≤ 256) (A : Option Addr) (c : Nat) (ps : List Nat) (T : Nat → EF → Bool) (w : World) (hs : Sl encM 1 w w.heap.size A ps) (hT : ∀ d, d < 6 → ∃ pb k, ps[d]? = some pb ∧ SetM w pb k (T d) ∧ ∀ e, T d e = true → e ∈ allE (n + 1)) :
    Calls Try.prog 33 #[.slice A 6 c, .func (.func 34) #[] #[]] w fun e w' => ∃ pb q, ps[bestN (fun d => cntE (n + 1) (T d)) 5]? = some pb ∧ e = .returned (.tuple #[.int .i64 (bestN (fun d => cntE (n + 1) (T d)) 5 : Nat), .map (some pb)]) ∧ w' = w.drewN q := by
  obtain ⟨z, hz⟩ : ∃ z, z = fun d => cntE (n + 1) (T d) := ⟨_, rfl⟩
  rw [← hz]
  have hget : ∀ d, d < 6 → ∃ pb b o, ps[d]? = some pb ∧ A = some ⟨b, o, none⟩ ∧ w.cell? ⟨b, o + d, none⟩ = some (.map (some pb)) ∧ ∀ q, Calls Try.prog 34 #[.map (some pb)] (w.drewN q) fun e w' => e = .returned (.int .i64 (z d : Nat)) ∧ w' = w.drewN q := fun d hd => by
    obtain ⟨pb, k, h1, h2, h3⟩ := hT d hd
    obtain ⟨b, o, ha, _, hc⟩ := hs.map1 h1
    refine ⟨pb, b, o, h1, ha, hc, fun q => ?_⟩
    rw [hz]
    exact size7_any pb k n (T d) (w.drewN q) (h2.below (below_drewN (Below.refl (w.heap.size + pb + 1) w) q) (by omega)) h3 hn
  obtain ⟨pb0, tb, oo, _, hA, _⟩ := hget 0 (by omega)
  subst hA
  have HG := hide hget
  clear hget hs hT hz
  go_enter Try.func33, Try.ntmps33
  go_wp2_with fail
  go_loopw [6, 10] (fun bv iv wr => ∃ k q : Nat, k ≤ 6 ∧ iv = .int .i64 k ∧ bv = .int .i64 (bestK z k : Nat) ∧ wr = w.drewN q) (fun _ iv _ => 6 - (intOf iv).toNat)
  case atStart => exact ⟨0, 0, by omega, rfl, rfl, rfl⟩
  case round =>
    obtain ⟨k, q, hk, rfl, rfl, rfl⟩ := hrel
    by_cases hk6 : k < 6
    · have i1 : (k : Int) < 6 := by omega
      have hbl := bestK_le z k hk
      have hsu := bestK_succ z k
      obtain ⟨bk, hbk⟩ : ∃ b, b = bestK z k := ⟨_, rfl⟩
      rw [← hbk] at hbl hsu ⊢
      obtain ⟨p1, b1, o1, _, e1, g1, c1⟩ := HG.out k hk6
      obtain ⟨p2, b2, o2, _, e2, g2, c2⟩ := HG.out bk hbl
      injection e1 with e1
      injection e1 with e1a e1b
      subst e1a e1b
      injection e2 with e2
      injection e2 with e2a e2b
      subst e2a e2b
      have i2 : (bk : Int) < 6 := by omega
      have HC1 := hide c1
      have HC2 := hide c2
      have HS := hide hsu
      clear c1 c2 hsu hbk
      obtain ⟨z1, hz1⟩ : ∃ x, x = z k := ⟨_, rfl⟩
      obtain ⟨z2, hz2⟩ : ∃ x, x = z bk := ⟨_, rfl⟩
      rw [← hz1, ← hz2] at HS
      rw [← hz1] at HC1
      rw [← hz2] at HC2
      clear hz1 hz2
      obtain ⟨V, hV⟩ : ∃ V, V = w.drewN q := ⟨_, rfl⟩
      rw [← hV]
      have g1' : V.cell? ⟨tb, oo + k, none⟩ = some (.map (some p1)) := by rw [hV]; exact g1
      have g2' : V.cell? ⟨tb, oo + bk, none⟩ = some (.map (some p2)) := by rw [hV]; exact g2
      have d1 : ∀ x, Calls Try.prog 34 #[.map (some p1)] (V.drewN x) fun e w' => e = .returned (.int .i64 (z1 : Nat)) ∧ w' = V.drewN x := fun x => by
        rw [hV, World.drewN_drewN]
        exact HC1.out (q + x)
      have d2 : ∀ x, Calls Try.prog 34 #[.map (some p2)] (V.drewN x) fun e w' => e = .returned (.int .i64 (z2 : Nat)) ∧ w' = V.drewN x := fun x => by
        rw [hV, World.drewN_drewN]
        exact HC2.out (q + x)
      have HD1 := hide d1
      have HD2 := hide d2
      have HVq := hide hV
      clear g1 g2 hV d1 d2
      go_upto_region 5 with fail
      go_quiet ((go_at_call 34; first | exact Calls.quiet_of_same (unhide HD1 _) | exact Calls.quiet_of_same (unhide HD2 _)))
      by_cases hlt : z1 < z2
      · have i3 : (z1 : Int) < (z2 : Int) := by omega
        have hb : bestK z (k + 1) = k := by rw [HS.out, if_pos hlt]
        have HB := hide hb
        clear hb
        go_wp2
        go_roundw
        case rel => exact ⟨k + 1, q + nq, by omega, by go_num, by rw [HB.out], by rw [HVq.out, World.drewN_drewN]⟩
        case measure => simp [intOf]; omega
      · have i3 : ¬ (z1 : Int) < (z2 : Int) := by omega
        have hb : bestK z (k + 1) = bk := by rw [HS.out, if_neg hlt]
        have HB := hide hb
        clear hb
        go_wp2
        go_roundw
        case rel => exact ⟨k + 1, q + nq, by omega, by go_num, by rw [HB.out], by rw [HVq.out, World.drewN_drewN]⟩
        case measure => simp [intOf]; omega
    · have hke : k = 6 := by omega
      subst hke
      have hb6 : bestK z 6 = bestN z 5 := rfl
      have hbl := bestK_le z 6 (by omega)
      rw [hb6] at hbl
      rw [hb6]
      obtain ⟨bk, hbk⟩ : ∃ b, b = bestN z 5 := ⟨_, rfl⟩
      rw [← hbk] at hbl ⊢
      obtain ⟨p2, b2, o2, h2, e2, g2, _⟩ := HG.out bk hbl
      injection e2 with e2
      injection e2 with e2a e2b
      subst e2a e2b
      have i2 : (bk : Int) < 6 := by omega
      rw [hbk] at h2
      have HH := hide (And.intro h2 hbk)
      obtain ⟨V, hV⟩ : ∃ V, V = w.drewN q := ⟨_, rfl⟩
      rw [← hV]
      have g2' : V.cell? ⟨tb, oo + bk, none⟩ = some (.map (some p2)) := by rw [hV]; exact g2
      have HVq := hide hV
      clear h2 hbk hb6 g2 hV
      rw [show ((6 : Nat) : Int) = 6 from rfl]
      go_upto_region 8 with fail
      go_quiet (fail)
      go_wp2_with fail
      go_ret2
      exact ⟨_, HH.out.1, by rw [← HH.out.2]; rfl, q + nq, by rw [HVq.out, World.drewN_drewN]⟩
end Go.Proofs.Ytdpgohpbannfnaa
/- seal: the number of a vertex (inside's closure), slices.Min and Max at three numbers. -/
namespace Go.Proofs.Ytdpgohpbannfnaa
open Go.RowKit Go.Sort Go.WideMaps Go.Maps
set_option maxRecDepth 100000 in
set_option maxHeartbeats 4000000 in
theorem at7c_any (gs s x y z : Nat) (hs : s ≤ 257) (hx : x < s) (hy : y < s) (hz : z < s) (w : World) (hg : w.cell? ⟨gs, 0, none⟩ = some (.int .i64 s)) :
    Calls Try.prog 48 #[.agg #[.int .i64 x, .int .i64 y, .int .i64 z], .pointer (some ⟨gs, 0, none⟩)] w fun e w' => e = .returned (.int .i64 (((z * s + y) * s + x : Nat) : Int)) ∧ Lay w w' := by
  obtain ⟨p1, hp1⟩ : ∃ p, p = z * s := ⟨_, rfl⟩
  have b1 : p1 ≤ 257 * 257 := by rw [hp1]; exact Nat.mul_le_mul (by omega) hs
  obtain ⟨p2, hp2⟩ : ∃ p, p = (p1 + y) * s := ⟨_, rfl⟩
  have b2 : p2 ≤ (257 * 257 + 257) * 257 := by rw [hp2]; exact Nat.mul_le_mul (by omega) hs
  have e1 : (z : Int) * (s : Int) = (p1 : Int) := by rw [hp1]; push_cast; rfl
  have e2 : ((p1 : Int) + (y : Int)) * (s : Int) = (p2 : Int) := by rw [hp2]; push_cast; rfl
  have hlg := World.block_lt_of_cell? w _ hg
  rw [← hp1, ← hp2]
  push_cast
  have HH := hide (And.intro hp1 hp2)
  clear hp1 hp2
  go_enter Try.func48, Try.ntmps48
  go_upto_region 1 with fail
  obtain ⟨X, hX⟩ : ∃ X, X = w.alloc (.cells #[.int .i64 x, .int .i64 y, .int .i64 z] 68) := ⟨_, rfl⟩
  rw [← hX]
  have hp : Blk X w.heap.size 68 #[.int .i64 x, .int .i64 y, .int .i64 z] := by rw [hX]; exact Blk.new _ _ _
  have hL : Lay w X := by rw [hX]; exact (Lay.refl _).alloc _
  have hgX : X.cell? ⟨gs, 0, none⟩ = some (.int .i64 s) := (hL.below.cell hlg).trans hg
  obtain ⟨a0, a1, a2⟩ := hp.three
  have HL := hide hL
  clear hX hp hL hg
  go_wp2
  go_ret
  exact ⟨rfl, HL.out⟩
def MinR (w : World) (x y z : Int) (e : Ending) (w' : World) : Prop := ∃ m : Int, e = .returned (.int .i64 m) ∧ (m ≤ x ∧ m ≤ y ∧ m ≤ z ∧ (m = x ∨ m = y ∨ m = z)) ∧ w' = w
def MaxR (w : World) (x y z : Int) (e : Ending) (w' : World) : Prop := ∃ m : Int, e = .returned (.int .i64 m) ∧ (x ≤ m ∧ y ≤ m ∧ z ≤ m ∧ (m = x ∨ m = y ∨ m = z)) ∧ w' = w
set_option maxRecDepth 100000 in
set_option maxHeartbeats 4000000 in
theorem min7_any (b c : Nat) (x y z : Int) (w : World) (h0 : w.cell? ⟨b, 0, none⟩ = some (vi x)) (h1 : w.cell? ⟨b, 1, none⟩ = some (vi y)) (h2 : w.cell? ⟨b, 2, none⟩ = some (vi z)) :
    Calls Try.prog 49 #[.slice (some ⟨b, 0, none⟩) 3 c] w (MinR w x y z) := by
  by_cases q1 : x ≤ y
  · by_cases q2 : x ≤ z
    · go_enter Try.func49, Try.ntmps49
      go_wp2
      go_rounds 4
      all_goals (go_ret; exact ⟨_, rfl, by omega, rfl⟩)
    · go_enter Try.func49, Try.ntmps49
      go_wp2
      go_rounds 4
      all_goals (go_ret; exact ⟨_, rfl, by omega, rfl⟩)
  · by_cases q2 : y ≤ z
    · go_enter Try.func49, Try.ntmps49
      go_wp2
      go_rounds 4
      all_goals (go_ret; exact ⟨_, rfl, by omega, rfl⟩)
    · go_enter Try.func49, Try.ntmps49
      go_wp2
      go_rounds 4
      all_goals (go_ret; exact ⟨_, rfl, by omega, rfl⟩)
set_option maxRecDepth 100000 in
set_option maxHeartbeats 4000000 in
theorem max7_any (b c : Nat) (x y z : Int) (w : World) (h0 : w.cell? ⟨b, 0, none⟩ = some (vi x)) (h1 : w.cell? ⟨b, 1, none⟩ = some (vi y)) (h2 : w.cell? ⟨b, 2, none⟩ = some (vi z)) :
    Calls Try.prog 50 #[.slice (some ⟨b, 0, none⟩) 3 c] w (MaxR w x y z) := by
  by_cases q1 : y ≤ x
  · by_cases q2 : z ≤ x
    · go_enter Try.func50, Try.ntmps50
      go_wp2
      go_rounds 4
      all_goals (go_ret; exact ⟨_, rfl, by omega, rfl⟩)
    · go_enter Try.func50, Try.ntmps50
      go_wp2
      go_rounds 4
      all_goals (go_ret; exact ⟨_, rfl, by omega, rfl⟩)
  · by_cases q2 : z ≤ y
    · go_enter Try.func50, Try.ntmps50
      go_wp2
      go_rounds 4
      all_goals (go_ret; exact ⟨_, rfl, by omega, rfl⟩)
    · go_enter Try.func50, Try.ntmps50
      go_wp2
      go_rounds 4
      all_goals (go_ret; exact ⟨_, rfl, by omega, rfl⟩)
end Go.Proofs.Ytdpgohpbannfnaa
