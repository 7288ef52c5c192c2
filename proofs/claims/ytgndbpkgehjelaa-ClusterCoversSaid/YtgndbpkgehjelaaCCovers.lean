/- ClusterCovers: the walk. -/
import Derived.Deep.RegionHeld3
import Derived.IntWalk
import Derived.Test.YtgndbpkgehjelaaCSplits
import Derived.Test.YtgndbpkgehjelaaCFinestW
import Derived.Test.YtgndbpkgehjelaaCCoversLaw
namespace Go.Proofs.Ytgndbpkgehjelaa
open Go.RowKit Go.Sort
theorem grown_below {w0 A B : World} {row : Option Nat} {n : Nat} (h0 : w0.grownBy A row) (h : Below n A B) (hn : w0.heap.size ≤ n) : w0.grownBy B row :=
  ⟨h.os.trans h0.os, h.tape.trans h0.tape, h.output.trans h0.output, Nat.le_trans h0.size h.size, fun k hk hne => (h.block k (by omega)).trans (h0.block k hk hne)⟩
theorem grown_set {w0 A : World} {r i : Nat} {v : Value} (h0 : w0.grownBy A (some r)) : w0.grownBy (A.setCell ⟨r, i, none⟩ v) (some r) :=
  ⟨h0.os, h0.tape, h0.output, Nat.le_trans h0.size (KeepsWalks.setCell A _ v).size, fun k hk hne => (Below.heap_setCell A ⟨r, i, none⟩ v k (fun e => hne (by rw [e]))).trans (h0.block k hk hne)⟩
theorem grown_one (A : World) (r i : Nat) (v : Value) : A.grownBy (A.setCell ⟨r, i, none⟩ v) (some r) := grown_set (World.grownBy.refl A _)
set_option maxRecDepth 100000 in
set_option maxHeartbeats 16000000 in
theorem covers_walk (A : Option Addr) (c : Nat) (ns : List Tri) (n m : Nat) (w : World) (hs : ns ≠ [] → Sl encT 9 w w.heap.size A ns) (hl : ns.length ≤ 9223372036854775807) (hn : n < 256) (hm : m < 256) :
    Calls Try.prog 9 #[.slice A ns.length c, .int .u8 n, .int .u8 m] w fun e w' => e = .returned (.bool true) ∧ Below w.heap.size w w' := by
  have H := hide hs
  clear hs
  obtain ⟨b9, hb9⟩ : ∃ b9 : Int, b9 = (n : Int) % 9 := ⟨_, rfl⟩
  have hb9' : (n : Int) % 9 = b9 := hb9.symm
  obtain ⟨m9, hm9⟩ : ∃ m9 : Int, m9 = (m : Int) % 9 := ⟨_, rfl⟩
  have hm9' : (m : Int) % 9 = m9 := hm9.symm
  obtain ⟨mx, hmx⟩ : ∃ mx : Nat, max m9 1 = (mx : Int) ∧ (max m9 1).toNat = mx := ⟨(max m9 1).toNat, by omega, rfl⟩
  have hmax := hmx.1
  have hm8 : m9 ≤ 8 ∧ mx ≤ 8 := by omega
  have HB := hide (And.intro hb9 (And.intro hm9 hmx))
  clear hb9 hm9 hmx
  go_enter Try.func9, Try.ntmps9
  go_wp2_with fail
  refine (sanity_any _).mono ?_
  rintro e w1 ⟨rfl, hB1⟩
  have H1 := hide hB1
  clear hB1
  go_wp2_with fail
  with_reducible refine (soup_any A c ns w1 (fun hne => ((H.out hne).below H1.out).more H1.out.size) hl).mono ?_
  rintro e w2 ⟨u, rfl, hown, hB2⟩
  have hft := fits_soup ns
  have hTl := soupL_length ns
  obtain ⟨T, hT⟩ : ∃ T, T = soupL ns := ⟨_, rfl⟩
  rw [← hT] at hown hft hTl
  obtain ⟨A2, c2, rfl⟩ := hown.form
  have H2 := hide (And.intro (hown.sl encT_len (Nat.le_refl _)) (And.intro hft (H1.out.trans (hB2.mono H1.out.size))))
  clear hft hB2 hown hT
  go_wp2_with fail
  obtain ⟨V2, hV2⟩ : ∃ V2, V2 = w2.alloc (.cells #[.int .i64 0, .int .i64 0, .int .i64 0] 23) := ⟨_, rfl⟩
  rw [← hV2]
  have hbx : Blk V2 w2.heap.size 23 #[.int .i64 0, .int .i64 0, .int .i64 0] := by rw [hV2]; exact Blk.new _ _ _
  have hR2 : Below w2.heap.size w2 V2 := by rw [hV2]; exact RB.alloc _ _
  have HV := hide (And.intro hbx hR2)
  clear hbx hR2 hV2
  with_reducible refine (finest_any A2 c2 b9 m9 T V2 ((H2.out.1.below HV.out.2).more HV.out.2.size) (by omega) H2.out.2.1 (by omega)).mono ?_
  rintro e w3 ⟨v3, rfl, hp3, hB3⟩
  obtain ⟨A3, c3, rfl, hc3, hl3⟩ := hp3.lst encT_len
  have hF := finestT_facts (b := b9) (most := m9) hTl H2.out.2.1
  have hP : ∀ x ∈ finestT b9 m9 T, (∀ t ∈ x, keyF b9 t = blkOf b9 x) ∧ 0 < x.length ∧ x.length ≤ mx := fun x hx => by
    have := finest_piece hx
    rw [HB.out.2.2.2] at this
    exact this
  have hnx : ∀ (k : Nat) (x y : List Tri), (finestT b9 m9 T)[k]? = some x → (finestT b9 m9 T)[k + 1]? = some y → ltP (blkOf b9 y) (blkOf b9 x) = false := fun k x y hx hy => finest_next hx hy
  have hcov := finest_covers b9 m9 T
  obtain ⟨F, hFe⟩ : ∃ F, F = finestT b9 m9 T := ⟨_, rfl⟩
  rw [← hFe] at hp3 hl3 hF hP hnx hcov ⊢
  have hFl := hF.1
  have hbx3 := HV.out.1.below hB3 HV.out.1.lt
  have hB23 : Below w2.heap.size w2 w3 := HV.out.2.trans (hB3.mono HV.out.2.size)
  have hsT3 := H2.out.1.below hB23
  have H3 := hide (And.intro hp3 (And.intro hF (And.intro hP (And.intro hnx (And.intro hcov (And.intro hbx3 (And.intro hB23 hsT3)))))))
  clear hl3 hF hP hnx hcov hbx3 hB3 hp3 hc3 hFe hB23 hsT3
  go_wp2
  go_loopw [10, 33] (fun av i wr => ∃ (k : Nat) (D : List Tri) (lp : Pt), k ≤ F.length ∧ i = .int .i64 k ∧ D = (F.take k).flatten ∧ D.length ≤ 40 * k ∧ Own encT 9 26 wr w3.heap.size av D.length D ∧ Blk wr w2.heap.size 23 #[.int .i64 lp.1, .int .i64 lp.2.1, .int .i64 lp.2.2] ∧ (∀ x, 0 < k → F[k - 1]? = some x → lp = blkOf b9 x) ∧
    w3.grownBy wr (some w2.heap.size) ∧ Below w2.heap.size w2 wr) (fun _ i _ => F.length - (intOf i).toNat)
  case atStart => exact ⟨0, [], (0, 0, 0), by omega, rfl, rfl, by simp, Own.nil, H3.out.2.2.2.2.2.1, fun _ h => absurd h (by omega), World.grownBy.refl _ _, H3.out.2.2.2.2.2.2.1⟩
  case round =>
    obtain ⟨k, D, lp, hk, rfl, hD, hDl, hown, hbx, hlast, hgr, hB⟩ := hrel
    have hsz := hgr.size
    have hpc : Pcs encT 9 26 27 wr V2.heap.size (.slice A3 F.length c3) F := H3.out.1.step hgr (fun r e => by injection e with e; have := HV.out.1.lt; omega)
    obtain ⟨Aa, ca, rfl⟩ := hown.form
    by_cases hlt : k < F.length
    · obtain ⟨p, hp⟩ : ∃ p, F[k]? = some p := ⟨_, List.getElem?_eq_getElem hlt⟩
      obtain ⟨ss, hss, hpp⟩ := hpc
      obtain ⟨A', c', hsk, hop⟩ := hpp k p hp
      have hslp := hop.sl encT_len (Nat.le_refl wr.heap.size)
      have hcap := hop.place.1
      obtain ⟨b3, o3, hA3, _, hc0⟩ := (hss.sl encS_len (Nat.le_refl wr.heap.size)).at hsk
      subst hA3
      have h0 := hc0 0 _ rfl
      rw [Nat.mul_one, Nat.add_zero] at h0
      obtain ⟨hkey, hpos, hle⟩ := H3.out.2.2.1 p (List.mem_of_getElem? hp)
      have hfp := H3.out.2.1.2.2 p (List.mem_of_getElem? hp)
      have i1 : (k : Int) < (F.length : Int) := by omega
      have d1 : ((p.length : Int) == 0) = false := by simp; exact List.length_pos_iff.1 hpos
      have d2 : decide (mx < p.length) = false := decide_eq_false (by omega)
      have r1 : ∀ V : World, (Instr.slice 27 (.slice A' p.length c') none (some (.int .i64 1)) none).run Try.prog V = .ok (.slice A' 1 c') V := fun V => run_cutH (i := 1) Try.underlying27 Try.sizeOf26 hpos hcap V
      have hl1 : (p.take 1).length = 1 := by rw [List.length_take]; omega
      have hcal := Block_any A' c' (p.take 1) b9 false wr (hslp.take 1) (by rw [hl1]; unfold maxLen; omega) (fitsP_anc (fun t ht => hfp t (List.mem_of_mem_take ht)))
      rw [hl1] at hcal
      obtain ⟨q, hq⟩ : ∃ q, q = blkOf b9 p := ⟨_, rfl⟩
      have hqe : blockP (p.take 1) b9 false = q := hq.symm
      rw [hqe] at hcal
      have hfq : fitsP q := by rw [hq]; exact fitsP_block (fun t ht => hfp t (List.mem_of_mem_take ht)) _ _
      have HR := hide (And.intro hcal (And.intro (And.intro hss hpp) (And.intro hop (And.intro hslp (And.intro hkey (And.intro hfp (And.intro hfq (And.intro hown (And.intro hbx (And.intro hlast (And.intro hB (And.intro hD hp))))))))))))
      have HQ := hide (And.intro hq hgr)
      clear hgr
      clear hq hcal hss hpp hop hslp hkey hfp hfq hown hbx hlast hB hD hp hsk hc0 hl1 hqe hcap
      go_wp2_with fail
      with_reducible refine HR.out.1.mono ?_
      rintro e w5 ⟨rfl, hB5⟩
      have HB5 := hide hB5
      clear hB5 r1 h0
      go_wp2_with fail
      obtain ⟨W6, hW6⟩ : ∃ W6, W6 = w5.alloc (.cells #[.int .i64 q.1, .int .i64 q.2.1, .int .i64 q.2.2] 23) := ⟨_, rfl⟩
      rw [← hW6]
      have hb6 : Blk W6 w5.heap.size 23 #[.int .i64 q.1, .int .i64 q.2.1, .int .i64 q.2.2] := by rw [hW6]; exact Blk.new _ _ _
      have hB6 : Below wr.heap.size wr W6 := by rw [hW6]; exact HB5.out.alloc HB5.out.size _
      have hz6 : W6.heap.size = w5.heap.size + 1 := by rw [hW6]; simp
      have H6 := hide (And.intro hb6 (And.intro hB6 (HR.out.2.2.2.1.below hB6)))
      have HZ := hide (And.intro hz6 HB5.out.size)
      obtain ⟨R0, hR0⟩ : ∃ R0, R0 = wr := ⟨_, rfl⟩
      rw [← hR0] at HR H6 HZ hsz HQ
      clear hb6 hB6 hz6 hW6 HB5 hR0
      go_loopw [55] (fun i wr => ∃ j : Nat, j ≤ p.length ∧ i = .int .i64 j ∧ RB W6 wr) (fun i _ => p.length - (intOf i).toNat)
      case atStart => exact ⟨0, by omega, rfl, RB.refl _⟩
      case round =>
        obtain ⟨j, hj, rfl, hRj⟩ := hrel
        by_cases hlj : j < p.length
        · obtain ⟨s, hsj⟩ : ∃ s, p[j]? = some s := ⟨_, List.getElem?_eq_getElem hlj⟩
          have hfs := HR.out.2.2.2.2.2.1 s (List.mem_of_getElem? hsj)
          have hks := HR.out.2.2.2.2.1 s (List.mem_of_getElem? hsj)
          rw [← HQ.out.1] at hks
          have hz56 := HZ.out.1
          have hzR := HZ.out.2
          obtain ⟨bt, ot, hA, hbt, g0, g1, g2, g3, g4, g5, g6, g7, g8⟩ := (H6.out.2.2.below (hRj.mono (by omega))).tri hsj
          cases hA
          have i2 : (j : Int) < (p.length : Int) := by omega
          have hzW := hRj.size
          obtain ⟨R, hRe⟩ : ∃ R, R = wr := ⟨_, rfl⟩
          obtain ⟨X0, hX0⟩ : ∃ X0, X0 = R.alloc (.cells #[.int .i64 s.1.1, .int .i64 s.1.2.1, .int .i64 s.1.2.2, .int .i64 s.2.1.1, .int .i64 s.2.1.2.1, .int .i64 s.2.1.2.2, .int .i64 s.2.2.1, .int .i64 s.2.2.2.1, .int .i64 s.2.2.2.2] 26) := ⟨_, rfl⟩
          have hbT : Blk X0 R.heap.size 26 (encT s).toArray := by rw [hX0]; exact Blk.new _ _ _
          have hBX : Below R.heap.size R X0 := by rw [hX0]; exact (Below.refl _ R).alloc (Nat.le_refl _) _
          rw [← hRe] at g0 g1 g2 g3 g4 g5 g6 g7 g8 hzW hRj
          have hb6 := (H6.out.1.below hRj (by omega)).below hBX (by omega)
          have hzX : X0.heap.size = R.heap.size + 1 := by rw [hX0]; simp
          have e0 := hbT.cell 0
          have e1 := hbT.cell 1
          have e2 := hbT.cell 2
          have e3 := hbT.cell 3
          have e4 := hbT.cell 4
          have e5 := hbT.cell 5
          have e6 := hbT.cell 6
          have e7 := hbT.cell 7
          have e8 := hbT.cell 8
          have q0 := hb6.cell 0
          have q1 := hb6.cell 1
          have q2 := hb6.cell 2
          simp only [encT, List.getElem?_toArray, List.getElem?_cons_zero, List.getElem?_cons_succ] at e0 e1 e2 e3 e4 e5 e6 e7 e8 q0 q1 q2
          have hcal : Calls Try.prog 14 #[.slice (some ⟨R.heap.size + 1, 0, none⟩) 1 1, .int .i64 b9, .bool false] (X0.alloc (.cells #[.int .i64 s.1.1, .int .i64 s.1.2.1, .int .i64 s.1.2.2, .int .i64 s.2.1.1, .int .i64 s.2.1.2.1, .int .i64 s.2.1.2.2, .int .i64 s.2.2.1, .int .i64 s.2.2.2.1, .int .i64 s.2.2.2.2] 26)).drew fun e w' => e = .returned (vP q) ∧ Below (X0.alloc (.cells #[.int .i64 s.1.1, .int .i64 s.1.2.1, .int .i64 s.1.2.2, .int .i64 s.2.1.1, .int .i64 s.2.1.2.1, .int .i64 s.2.1.2.2, .int .i64 s.2.2.1, .int .i64 s.2.2.2.1, .int .i64 s.2.2.2.2] 26)).drew.heap.size (X0.alloc (.cells #[.int .i64 s.1.1, .int .i64 s.1.2.1, .int .i64 s.1.2.2, .int .i64 s.2.1.1, .int .i64 s.2.1.2.1, .int .i64 s.2.1.2.2, .int .i64 s.2.2.1, .int .i64 s.2.2.2.1, .int .i64 s.2.2.2.2] 26)).drew w' := by
            rw [← hks]
            exact Block_any _ _ [s] b9 false _ (Sl.one (Blk.new' _ _ _ _ hzX.symm).drew (by simp [World.drew]; omega)) (by unfold maxLen; simp) (fitsP_anc (fun u hu => by simp at hu; subst hu; exact hfs))
          have heq : ∀ W : World, (Op.equalIn 10000 23 (vP q) (vP q)).run Try.prog W = .ok true W := fun W => by
            rw [eqP _ _ HR.out.2.2.2.2.2.2.1 HR.out.2.2.2.2.2.2.1]; simp
          have hBY : Below R.heap.size R (X0.alloc (.cells #[.int .i64 s.1.1, .int .i64 s.1.2.1, .int .i64 s.1.2.2, .int .i64 s.2.1.1, .int .i64 s.2.1.2.1, .int .i64 s.2.1.2.2, .int .i64 s.2.2.1, .int .i64 s.2.2.2.1, .int .i64 s.2.2.2.2] 26)).drew := (hBX.alloc (by omega) _).drew
          have hzY : R.heap.size ≤ (X0.alloc (.cells #[.int .i64 s.1.1, .int .i64 s.1.2.1, .int .i64 s.1.2.2, .int .i64 s.2.1.1, .int .i64 s.2.1.2.1, .int .i64 s.2.1.2.2, .int .i64 s.2.2.1, .int .i64 s.2.2.2.1, .int .i64 s.2.2.2.2] 26)).drew.heap.size := hBY.size
          have hwb : IntKind.i64.wrap ((n : Int).tmod 9) = b9 := by
            have h1 : (n : Int).tmod 9 = (n : Int) % 9 := Int.tmod_eq_emod_of_nonneg (by omega)
            rw [h1, HB.out.1]
            exact IntWalk.i64_in _ (by omega)
          have hnx0 : w5.heap.size < X0.heap.size := by omega
          have hSX : ∀ W, Below X0.heap.size X0 W → W.cell? ⟨R.heap.size, 0, none⟩ = some (.int .i64 s.1.1) ∧ W.cell? ⟨R.heap.size, 1, none⟩ = some (.int .i64 s.1.2.1) ∧ W.cell? ⟨R.heap.size, 2, none⟩ = some (.int .i64 s.1.2.2) ∧ W.cell? ⟨R.heap.size, 3, none⟩ = some (.int .i64 s.2.1.1) ∧ W.cell? ⟨R.heap.size, 4, none⟩ = some (.int .i64 s.2.1.2.1) ∧ W.cell? ⟨R.heap.size, 5, none⟩ = some (.int .i64 s.2.1.2.2) ∧ W.cell? ⟨R.heap.size, 6, none⟩ = some (.int .i64 s.2.2.1) ∧ W.cell? ⟨R.heap.size, 7, none⟩ = some (.int .i64 s.2.2.2.1) ∧ W.cell? ⟨R.heap.size, 8, none⟩ = some (.int .i64 s.2.2.2.2) ∧ W.cell? ⟨w5.heap.size, 0, none⟩ = some (.int .i64 q.1) ∧ W.cell? ⟨w5.heap.size, 1, none⟩ = some (.int .i64 q.2.1) ∧ W.cell? ⟨w5.heap.size, 2, none⟩ = some (.int .i64 q.2.2) := fun W hW =>
            ⟨(hW.cell (p := ⟨_, _, none⟩) (by simp; omega)).trans e0, (hW.cell (p := ⟨_, _, none⟩) (by simp; omega)).trans e1, (hW.cell (p := ⟨_, _, none⟩) (by simp; omega)).trans e2, (hW.cell (p := ⟨_, _, none⟩) (by simp; omega)).trans e3, (hW.cell (p := ⟨_, _, none⟩) (by simp; omega)).trans e4, (hW.cell (p := ⟨_, _, none⟩) (by simp; omega)).trans e5, (hW.cell (p := ⟨_, _, none⟩) (by simp; omega)).trans e6, (hW.cell (p := ⟨_, _, none⟩) (by simp; omega)).trans e7, (hW.cell (p := ⟨_, _, none⟩) (by simp; omega)).trans e8, (hW.cell (p := ⟨_, _, none⟩) (by simp; omega)).trans q0, (hW.cell (p := ⟨_, _, none⟩) (by simp; omega)).trans q1, (hW.cell (p := ⟨_, _, none⟩) (by simp; omega)).trans q2⟩
          have hAl : Below X0.heap.size X0 (X0.alloc (.cells #[.int .i64 s.1.1, .int .i64 s.1.2.1, .int .i64 s.1.2.2, .int .i64 s.2.1.1, .int .i64 s.2.1.2.1, .int .i64 s.2.1.2.2, .int .i64 s.2.2.1, .int .i64 s.2.2.2.1, .int .i64 s.2.2.2.2] 26)).drew := ((Below.refl _ X0).alloc (Nat.le_refl _) _).drew
          have HX := hide (And.intro hSX hAl)
          clear hSX hAl
          have HI := hide (And.intro hRj (And.intro hBY hzY))
          have HC := hide hcal
          clear hcal hbT hBX hb6 hRj hBY hzY hks hfs hsj HZ
          subst hRe
          go_wp2_with fail
          rw [← hX0]
          clear hX0 g0 g1 g2 g3 g4 g5 g6 g7 g8
          go_region_held3 (fun w' => w'.cell? ⟨R.heap.size, 0, none⟩ = some (.int .i64 s.1.1) ∧ w'.cell? ⟨R.heap.size, 1, none⟩ = some (.int .i64 s.1.2.1) ∧ w'.cell? ⟨R.heap.size, 2, none⟩ = some (.int .i64 s.1.2.2) ∧ w'.cell? ⟨R.heap.size, 3, none⟩ = some (.int .i64 s.2.1.1) ∧ w'.cell? ⟨R.heap.size, 4, none⟩ = some (.int .i64 s.2.1.2.1) ∧ w'.cell? ⟨R.heap.size, 5, none⟩ = some (.int .i64 s.2.1.2.2) ∧ w'.cell? ⟨R.heap.size, 6, none⟩ = some (.int .i64 s.2.2.1) ∧ w'.cell? ⟨R.heap.size, 7, none⟩ = some (.int .i64 s.2.2.2.1) ∧ w'.cell? ⟨R.heap.size, 8, none⟩ = some (.int .i64 s.2.2.2.2) ∧ w'.cell? ⟨w5.heap.size, 0, none⟩ = some (.int .i64 q.1) ∧ w'.cell? ⟨w5.heap.size, 1, none⟩ = some (.int .i64 q.2.1) ∧ w'.cell? ⟨w5.heap.size, 2, none⟩ = some (.int .i64 q.2.2)) (first | go_keep | exact HX.out.1 _ hA) (first | (go_at_call 14; (with_reducible refine HC.out.mono ?_); rintro e wB ⟨rfl, hB'⟩; have hA := HX.out.2.trans (hB'.mono HX.out.2.size)))
          have hRB := HI.out.2.1.trans (hB'.mono HI.out.2.2)
          have hRw : Below W6.heap.size W6 R := HI.out.1
          have HJ := hide (hRw.trans (hRB.mono hzW))
          clear hRw
          clear hA hB' hRB
          go_wp2
          go_roundw
          case rel => exact ⟨j + 1, by omega, by go_num, HJ.out⟩
          case measure => simp [intOf]; omega
        · have hje : j = p.length := by omega
          subst hje
          have hz56 := HZ.out.1
          have hzR := HZ.out.2
          have hBr : Below R0.heap.size R0 wr := H6.out.2.1.trans (hRj.mono H6.out.2.1.size)
          have hbq := H6.out.1.below hRj (by omega)
          have hw23 : w2.heap.size < w3.heap.size := by have := HV.out.1.lt; have := H3.out.2.2.2.2.2.1.lt; omega
          have hbl := HR.out.2.2.2.2.2.2.2.2.1.below hBr (by omega)
          obtain ⟨gp, capp, hvp, hgp, _⟩ := HR.out.2.2.1.at (List.length_pos_iff.1 hpos)
          obtain rfl : A' = some ⟨gp, 0, none⟩ := by injection hvp
          have hslr : Sl encT 9 wr R0.heap.size (some ⟨gp, 0, none⟩) p := H6.out.2.2.below (hRj.mono (by omega))
          have hwV := HV.out.1.lt
          have hG3 : wr.grownBy (((wr.setCell ⟨w2.heap.size, 0, none⟩ (.int .i64 q.1)).setCell ⟨w2.heap.size, 1, none⟩ (.int .i64 q.2.1)).setCell ⟨w2.heap.size, 2, none⟩ (.int .i64 q.2.2)) (some w2.heap.size) := grown_set (grown_set (grown_one wr _ _ _))
          have hownr := (HR.out.2.2.2.2.2.2.2.1.below hBr (Nat.le_refl _)).step hG3 (fun r hr => by injection hr with hr; exact .inl (by omega))
          have hslG := hslr.grown hG3 hBr.size (fun e => by injection e with e; omega)
          have hb3 := hbl.set3 (.int .i64 q.1) (.int .i64 q.2.1) (.int .i64 q.2.2)
          have hgr3 : w3.grownBy (((wr.setCell ⟨w2.heap.size, 0, none⟩ (.int .i64 q.1)).setCell ⟨w2.heap.size, 1, none⟩ (.int .i64 q.2.1)).setCell ⟨w2.heap.size, 2, none⟩ (.int .i64 q.2.2)) (some w2.heap.size) := grown_set (grown_set (grown_set (grown_below HQ.out.2 hBr hsz)))
          have hz2R := HR.out.2.2.2.2.2.2.2.2.2.2.1.size
          have hB3 : Below w2.heap.size w2 (((wr.setCell ⟨w2.heap.size, 0, none⟩ (.int .i64 q.1)).setCell ⟨w2.heap.size, 1, none⟩ (.int .i64 q.2.1)).setCell ⟨w2.heap.size, 2, none⟩ (.int .i64 q.2.2)) := (((HR.out.2.2.2.2.2.2.2.2.2.2.1.trans (hBr.mono hz2R)).setCell (Nat.le_refl _) _).setCell (Nat.le_refl _) _).setCell (Nat.le_refl _) _
          have hzb : w3.heap.size ≤ (((wr.setCell ⟨w2.heap.size, 0, none⟩ (.int .i64 q.1)).setCell ⟨w2.heap.size, 1, none⟩ (.int .i64 q.2.1)).setCell ⟨w2.heap.size, 2, none⟩ (.int .i64 q.2.2)).heap.size := hgr3.size
          have q0 := hbq.cell 0
          have q1 := hbq.cell 1
          have q2 := hbq.cell 2
          have l0 := hbl.cell 0
          have l1 := hbl.cell 1
          have l2 := hbl.cell 2
          have f0 := hbl.frozen 0
          have f1 := hbl.frozen 1
          have f2 := hbl.frozen 2
          simp only [List.getElem?_toArray, List.getElem?_cons_zero, List.getElem?_cons_succ] at q0 q1 q2 l0 l1 l2
          have hqe := HQ.out.1
          have hcase : decide (0 < k) = false ∨ (decide (0 < k) = true ∧ decide (q.1 < lp.1) = false ∧ ((q.1 == lp.1) = false ∨ ((q.1 == lp.1) = true ∧ decide (q.2.1 < lp.2.1) = false ∧ ((q.2.1 == lp.2.1) = false ∨ ((q.2.1 == lp.2.1) = true ∧ decide (q.2.2 < lp.2.2) = false))))) := by
            by_cases hk0 : 0 < k
            · obtain ⟨x, hx⟩ : ∃ x, F[k - 1]? = some x := ⟨_, List.getElem?_eq_getElem (by omega)⟩
              have e1 := HR.out.2.2.2.2.2.2.2.2.2.1 x hk0 hx
              have hn := H3.out.2.2.2.1 (k - 1) x p hx (by rw [show k - 1 + 1 = k by omega]; exact HR.out.2.2.2.2.2.2.2.2.2.2.2.2)
              rw [← e1, ← hqe] at hn
              obtain ⟨n1, n2, n3⟩ := not_ltP hn
              refine .inr ⟨decide_eq_true hk0, decide_eq_false n1, ?_⟩
              by_cases c1 : q.1 = lp.1
              · refine .inr ⟨beq_iff_eq.2 c1, decide_eq_false (n2 c1), ?_⟩
                by_cases c2 : q.2.1 = lp.2.1
                · exact .inr ⟨beq_iff_eq.2 c2, decide_eq_false (n3 c1 c2)⟩
                · exact .inl (beq_eq_false_iff_ne.2 c2)
              · exact .inl (beq_eq_false_iff_ne.2 c1)
            · exact .inl (decide_eq_false hk0)
          have HF := hide (And.intro hownr (And.intro hslG (And.intro hb3 (And.intro hgr3 (And.intro hB3 (And.intro hzb hqe))))))
          clear hownr hslG hb3 hgr3 hB3 hzb hqe hslr hG3 hBr hbq hbl hRj
          rcases hcase with d1 | ⟨d1, d2, e1 | ⟨e1, d3, e2 | ⟨e2, d4⟩⟩⟩
          all_goals
            go_wp2_with (at_builtin; refine wpList_appendS rfl _ _ _ rfl Try.underlying27 infoT rfl (by omega) encT_len encT_one rfl HF.out.1 (some ⟨gp, 0, none⟩) c' R0.heap.size p rfl HF.out.2.1 (by unfold maxLen; omega) (by omega) HF.out.2.2.2.2.2.1 ?_; intro v7 w7 hown7 hg7 hB7 hat7)
            go_roundw
            case rel =>
              refine ⟨k + 1, D ++ p, q, by omega, by go_num, ?_, by rw [List.length_append]; omega, by rw [List.length_append]; exact hown7, HF.out.2.2.1.below hB7 hw23, fun x _ hx => ?_, grown_row HF.out.2.2.2.1 hg7 (fun r hr => (HF.out.1.blk r hr).1), HF.out.2.2.2.2.1.trans (hB7.mono (by omega))⟩
              · rw [List.take_add_one, HR.out.2.2.2.2.2.2.2.2.2.2.2.2, List.flatten_append, ← HR.out.2.2.2.2.2.2.2.2.2.2.2.1]
                simp
              · have hx2 : F[k]? = some x := hx
                rw [HR.out.2.2.2.2.2.2.2.2.2.2.2.2] at hx2
                cases hx2
                exact HF.out.2.2.2.2.2.2
            case measure => simp [intOf]; omega
    · have hke : k = F.length := by omega
      subst hke
      rw [List.take_length] at hD
      have hsD : Sl encT 9 wr wr.heap.size Aa D := hown.sl encT_len (Nat.le_refl _)
      have hsT : Sl encT 9 wr wr.heap.size A2 T := (H2.out.1.below hB).more hB.size
      have hfD : ∀ t ∈ D, fitsT t := fun t ht => by
        rw [hD] at ht
        obtain ⟨x, hx, ht⟩ := List.mem_flatten.1 ht
        exact H3.out.2.1.2.2 x hx t ht
      have hcv := H3.out.2.2.2.2.1
      rw [← hD] at hcv
      have hsame := same04_any Aa A2 ca c2 D T wr hsD hsT (by omega) (by omega) hfD H2.out.2.1
      rw [decide_eq_true hcv] at hsame
      have HE := hide (And.intro hsame hB)
      clear hsame hB hsD hsT hfD hcv hown hbx hlast hpc hD hDl
      go_wp2_with fail
      with_reducible refine HE.out.1.mono ?_
      rintro e w5 ⟨rfl, hB5⟩
      go_wp2
      go_ret
      exact ⟨rfl, (H2.out.2.2.trans (HE.out.2.mono H2.out.2.2.size)).trans (hB5.mono (by have := H2.out.2.2.size; have := HE.out.2.size; omega))⟩
end Go.Proofs.Ytgndbpkgehjelaa
