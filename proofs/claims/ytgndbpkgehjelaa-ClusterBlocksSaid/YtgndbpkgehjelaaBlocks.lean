/- ClusterBlocks: the walk. -/
import Derived.Test.YtgndbpkgehjelaaSan
import Derived.Test.YtgndbpkgehjelaaBlk13
namespace Go.Proofs.Ytgndbpkgehjelaa
open Go.RowKit
set_option maxRecDepth 100000 in
set_option maxHeartbeats 8000000 in
theorem blocks_walk (a b : Tri) (n : Int) (ha : fitsT a) (hb : fitsT b) (hn : fits n) (w : World) :
    Calls Try.prog 3 #[vT a, vT b, .int .i64 n] w fun e w' => e = .returned (.bool true) ∧ Below w.heap.size w w' := by
  go_enter Try.func3, Try.ntmps3
  go_wp2_with fail
  refine (sanity_any _).mono ?_
  rintro e w1 ⟨rfl, hB1⟩
  have hbA : Blk w1 w.heap.size 24 (encT a).toArray := ((Blk.new w 24 (encT a).toArray).alloc _).below hB1 (by simp; omega)
  have hbB : Blk w1 (w.heap.size + 1) 24 (encT b).toArray := (Blk.new' (w.alloc (.cells (encT a).toArray 24)) 24 (encT b).toArray (w.heap.size + 1) (by simp)).below hB1 (by simp)
  have hR1 : RB w w1 := ((RB.alloc w _).trans _ _ _ (RB.alloc _ _)).trans _ _ _ hB1
  have hlt0 := hbA.lt
  have hlt1 := hbB.lt
  have C := cells9z hbA
  have t0 := C.1
  have t1 := C.2.1
  have t2 := C.2.2.1
  have t3 := C.2.2.2.1
  have t4 := C.2.2.2.2.1
  have t5 := C.2.2.2.2.2.1
  have t6 := C.2.2.2.2.2.2.1
  have t7 := C.2.2.2.2.2.2.2.1
  have t8 := C.2.2.2.2.2.2.2.2
  have D := cells9z hbB
  have s0 := D.1
  have s1 := D.2.1
  have s2 := D.2.2.1
  have s3 := D.2.2.2.1
  have s4 := D.2.2.2.2.1
  have s5 := D.2.2.2.2.2.1
  have s6 := D.2.2.2.2.2.2.1
  have s7 := D.2.2.2.2.2.2.2.1
  have s8 := D.2.2.2.2.2.2.2.2
  clear C D
  have H := hide (And.intro hR1 (And.intro ha (And.intro hb hn)))
  clear hR1 hB1 hbA hbB ha hb hn
  go_wp2
  obtain ⟨V1, hV1⟩ : ∃ V1, V1 = w1.alloc (.cells #[.int .i64 a.1.1, .int .i64 a.1.2.1, .int .i64 a.1.2.2, .int .i64 a.2.1.1, .int .i64 a.2.1.2.1, .int .i64 a.2.1.2.2, .int .i64 a.2.2.1, .int .i64 a.2.2.2.1, .int .i64 a.2.2.2.2] 26) := ⟨_, rfl⟩
  rw [← hV1]
  have hz1 : V1.heap.size = w1.heap.size + 1 := by rw [hV1]; simp
  have sA1 : Sl encT 9 V1 V1.heap.size (some ⟨w1.heap.size, 0, none⟩) [a] := by rw [hV1]; exact Sl.ofBlk encT_len (Blk.new w1 26 (encT a).toArray) rfl
  have rB1 : RB w1 V1 := by rw [hV1]; exact RB.alloc _ _
  obtain ⟨V2, hV2⟩ : ∃ V2, V2 = V1.alloc (.cells #[.int .i64 a.1.1, .int .i64 a.1.2.1, .int .i64 a.1.2.2, .int .i64 a.2.1.1, .int .i64 a.2.1.2.1, .int .i64 a.2.1.2.2, .int .i64 a.2.2.1, .int .i64 a.2.2.2.1, .int .i64 a.2.2.2.2, .int .i64 b.1.1, .int .i64 b.1.2.1, .int .i64 b.1.2.2, .int .i64 b.2.1.1, .int .i64 b.2.1.2.1, .int .i64 b.2.1.2.2, .int .i64 b.2.2.1, .int .i64 b.2.2.2.1, .int .i64 b.2.2.2.2] 26) := ⟨_, rfl⟩
  rw [← hV2]
  have hz2 : V2.heap.size = w1.heap.size + 1 + 1 := by rw [hV2]; simp [hz1]
  have sB2 : Sl encT 9 V2 V2.heap.size (some ⟨w1.heap.size + 1, 0, none⟩) [a, b] := by rw [hV2, ← hz1]; exact Sl.ofBlk encT_len (Blk.new V1 26 (encT a ++ encT b).toArray) rfl
  have rB2 : RB V1 V2 := by rw [hV2]; exact RB.alloc _ _
  have sA2 : Sl encT 9 V2 V2.heap.size (some ⟨w1.heap.size, 0, none⟩) [a] := (sA1.below rB2).more rB2.size
  obtain ⟨V, hV⟩ : ∃ V, V = V2.alloc (.cells #[.slice none 0 0, .slice (some ⟨w1.heap.size, 0, none⟩) 1 1, .slice (some ⟨w1.heap.size + 1, 0, none⟩) 2 2] 27) := ⟨_, rfl⟩
  rw [← hV]
  have rB3 : RB V2 V := by rw [hV]; exact RB.alloc _ _
  have hL : LstE encT 9 V V.heap.size (some ⟨w1.heap.size + 1 + 1, 0, none⟩) [[], [a], [a, b]] := by
    refine LstE.ofBlk (hs := [(none, 0, 0), (some ⟨w1.heap.size, 0, none⟩, 1, 1), (some ⟨w1.heap.size + 1, 0, none⟩, 2, 2)]) (cs := #[.slice none 0 0, .slice (some ⟨w1.heap.size, 0, none⟩) 1 1, .slice (some ⟨w1.heap.size + 1, 0, none⟩) 2 2]) (t := 27) rfl ?_ rfl ⟨rfl, Sl.nil, rfl, (sA2.below rB3).more rB3.size, rfl, (sB2.below rB3).more rB3.size, trivial⟩
    rw [hV, ← hz2]; exact Blk.new _ _ _
  have rV : RB w V := (((H.out.1.trans _ _ _ rB1).trans _ _ _ rB2).trans _ _ _ rB3)
  have HV := hide (And.intro rV hL)
  clear hV1 hV2 hV hz1 hz2 sA1 rB1 sB2 rB2 sA2 rB3 hL rV t0 t1 t2 t3 t4 t5 t6 t7 t8 s0 s1 s2 s3 s4 s5 s6 s7 s8
  go_loopw [22] (fun i wr => ∃ k : Nat, k ≤ 3 ∧ i = .int .i64 k ∧ RB V wr) (fun i _ => 3 - (intOf i).toNat)
  case atStart => exact ⟨0, by omega, rfl, RB.refl _⟩
  case round =>
    obtain ⟨k, hk, rfl, hR⟩ := hrel
    by_cases hlt : k < 3
    · obtain ⟨p, hp⟩ : ∃ p, ([[], [a], [a, b]] : List (List Tri))[k]? = some p := ⟨_, List.getElem?_eq_getElem (by simpa using hlt)⟩
      have hfp : ∀ t ∈ p, fitsT t := by
        have hc : k = 0 ∨ k = 1 ∨ k = 2 := by omega
        rcases hc with rfl | rfl | rfl <;> (simp at hp; subst hp; simp [H.out.2.1, H.out.2.2.1])
      have hlp : p.length ≤ 2 := by
        have hc : k = 0 ∨ k = 1 ∨ k = 2 := by omega
        rcases hc with rfl | rfl | rfl <;> (simp at hp; subst hp; simp)
      obtain ⟨bb, o, A', c', hA, hbb, hcell, hsl⟩ := (HV.out.2.below hR).at hp
      injection hA with hA
      injection hA with hA1 hA2
      subst hA1 hA2
      rw [Nat.zero_add] at hcell
      have i1 : (k : Int) < 3 := by omega
      have HP := hide (And.intro hfp (And.intro hlp (And.intro hsl (And.intro hR hbb))))
      clear hfp hlp hsl hR hbb hp
      go_wp2
      obtain ⟨R, hRw⟩ : ∃ R, R = wr := ⟨_, rfl⟩
      rw [← hRw] at HP ⊢
      clear hRw hcell
      go_loopw [28] (fun i wr => ∃ j : Nat, j ≤ 2 ∧ i = .int .i64 j ∧ RB R wr ∧ Blk wr R.heap.size 4 #[.bool false, .bool true]) (fun i _ => 2 - (intOf i).toNat)
      case atStart => exact ⟨0, by omega, rfl, RB.alloc _ _, Blk.new _ _ _⟩
      case round =>
        obtain ⟨j, hj, rfl, hRj, hbj⟩ := hrel
        by_cases hlj : j < 2
        · obtain ⟨sh, hsh⟩ : ∃ sh : Bool, wr.cell? ⟨R.heap.size, j, none⟩ = some (.bool sh) := by
            have hc : j = 0 ∨ j = 1 := by omega
            rcases hc with rfl | rfl
            · exact ⟨false, hbj.cell 0⟩
            · exact ⟨true, hbj.cell 1⟩
          have j1 : (j : Int) < 2 := by omega
          have HJ := hide (And.intro hRj hbj)
          clear hRj hbj
          go_wp2_with fail
          refine (mod_any n 44 (by omega) (by omega) _).mono ?_
          rintro e w2 ⟨rfl, rfl⟩
          have hmb := modC_bound n 44 (by omega)
          have hwm : wrap64 (modC n 44 - 2) = modC n 44 - 2 := by unfold wrap64; omega
          go_wp2
          obtain ⟨T, hT⟩ : ∃ T, T = w2 := ⟨_, rfl⟩
          rw [← hT] at HJ ⊢
          clear hT
          go_loopw [38] (fun i wr => ∃ m : Nat, m ≤ 2 ∧ i = .int .i64 m ∧ RB T wr ∧ Blk wr T.heap.size 3 #[.int .i64 n, .int .i64 (modC n 44 - 2)]) (fun i _ => 2 - (intOf i).toNat)
          case atStart => exact ⟨0, by omega, rfl, RB.alloc _ _, Blk.new _ _ _⟩
          case round =>
            obtain ⟨m, hm, rfl, hRm, hbm⟩ := hrel
            by_cases hlm : m < 2
            · obtain ⟨x, hx⟩ : ∃ x : Int, wr.cell? ⟨T.heap.size, m, none⟩ = some (.int .i64 x) := by
                have hc : m = 0 ∨ m = 1 := by omega
                rcases hc with rfl | rfl
                · exact ⟨_, hbm.cell 0⟩
                · exact ⟨_, hbm.cell 1⟩
              have m1 : (m : Int) < 2 := by omega
              have rT : RB R wr := HJ.out.1.trans _ _ _ hRm
              have hsP : Sl encT 9 wr wr.heap.size A' p := (HP.out.2.2.1.below (Below.mono rT HP.out.2.2.2.1.size)).more (by have h1 := rT.size; have h2 := HP.out.2.2.2.1.size; omega)
              have HM := hide (And.intro hRm (And.intro hbm hsP))
              clear hRm hbm rT hsP
              go_wp2_with fail
              refine (Block_any A' c' p x sh wr HM.out.2.2 (by have := HP.out.2.1; unfold maxLen; omega) (fitsP_anc HP.out.1)).mono ?_
              rintro e w3 ⟨rfl, hB3⟩
              have HB3 := hide hB3
              clear hB3
              go_wp2_with fail
              refine (Block13_any A' c' p x sh w3 ((HM.out.2.2.below HB3.out).more HB3.out.size) (by have := HP.out.2.1; omega) (fitsP_anc HP.out.1)).mono ?_
              rintro e w4 ⟨rfl, hB4⟩
              have hfb : fitsP (blockP p x sh) := fitsP_block HP.out.1 _ _
              have hq : ∀ V, (Op.equalIn 10000 23 (vP (blockP p x sh)) (vP (blockP p x sh))).run Try.prog V = .ok true V := fun V => by
                rw [eqP _ _ hfb hfb]; simp
              have r34 : RB wr w4 := RB.trans _ _ _ HB3.out hB4
              have HR := hide r34
              clear hfb r34 hB4
              go_wp2
              go_roundw
              case rel => exact ⟨m + 1, by omega, by go_num, HM.out.1.trans _ _ _ HR.out, HM.out.2.1.below HR.out HM.out.2.1.lt⟩
              case measure => simp [intOf]; omega
            · have hm2 : m = 2 := by omega
              subst hm2
              have HM := hide (And.intro hRm hbm)
              clear hRm hbm
              go_wp2
              go_roundw
              case rel => exact ⟨j + 1, by omega, by go_num, HJ.out.1.trans _ _ _ HM.out.1, HJ.out.2.below HM.out.1 HJ.out.2.lt⟩
              case measure => simp [intOf]; omega
        · have hj2 : j = 2 := by omega
          subst hj2
          have HJ := hide (And.intro hRj hbj)
          clear hRj hbj
          go_wp2
          go_roundw
          case rel => exact ⟨k + 1, by omega, by go_num, HP.out.2.2.2.1.trans _ _ _ HJ.out.1⟩
          case measure => simp [intOf]; omega
    · have hk3 : k = 3 := by omega
      subst hk3
      have HR := hide hR
      clear hR
      go_wp2
      go_ret
      exact ⟨rfl, HV.out.1.trans _ _ _ HR.out⟩
end Go.Proofs.Ytgndbpkgehjelaa
