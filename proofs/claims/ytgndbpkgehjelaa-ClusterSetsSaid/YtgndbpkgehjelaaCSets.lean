/- ClusterSets: the walk. -/
import Derived.IntWalk
import Derived.StillTailTactics
import Derived.Deep.MidRow
import Derived.Test.YtgndbpkgehjelaaCB17
import Derived.Test.YtgndbpkgehjelaaCB26
import Derived.Test.YtgndbpkgehjelaaCSplits
import Derived.Test.YtgndbpkgehjelaaCSetW
import Derived.Test.YtgndbpkgehjelaaCFinestW
import Derived.Test.YtgndbpkgehjelaaCSetsAct
namespace Go.Proofs.Ytgndbpkgehjelaa
open Go.RowKit Go.Sort
def distB (t : Tri) : Bool := decide (t.1 ≠ t.2.1) && decide (t.2.1 ≠ t.2.2) && decide (t.2.2 ≠ t.1)
theorem distB_iff (t : Tri) : distB t = true ↔ distT t := by simp [distB, distT, and_assoc]
theorem filter_snoc {α : Type} (p : α → Bool) (xs : List α) (k : Nat) (x : α) (h : xs[k]? = some x) : (xs.take (k + 1)).filter p = (xs.take k).filter p ++ if p x then [x] else [] := by
  rw [List.take_add_one, h, Option.toList_some, List.filter_append]
  congr 1
  cases hp : p x <;> simp [hp]
def cycN (t : Tri) (n : Nat) : Tri := (corner t (n % 3), corner t ((n + 1) % 3), corner t ((n + 2) % 3))
theorem cycN_0 (z : Tri) (n : Nat) (h : n % 3 = 0) : cycN z n = z := by
  unfold cycN
  rw [h, show (n + 1) % 3 = 1 by omega, show (n + 2) % 3 = 2 by omega]
  rfl
theorem cycN_1 (z : Tri) (n : Nat) (h : n % 3 = 1) : cycN z n = (z.2.1, z.2.2, z.1) := by
  unfold cycN
  rw [h, show (n + 1) % 3 = 2 by omega, show (n + 2) % 3 = 0 by omega]
  rfl
theorem cycN_2 (z : Tri) (n : Nat) (h : n % 3 = 2) : cycN z n = (z.2.2, z.1, z.2.1) := by
  unfold cycN
  rw [h, show (n + 1) % 3 = 0 by omega, show (n + 2) % 3 = 1 by omega]
  rfl
theorem cycN_law (t : Tri) (n : Nat) (h : distT t) (hf : fitsT t) : distT (cycN t n) ∧ fitsT (cycN t n) ∧ rotT (cycN t n) = rotT t := by
  have hc : n % 3 = 0 ∨ n % 3 = 1 ∨ n % 3 = 2 := by omega
  rcases hc with h0 | h0 | h0
  · have e : cycN t n = t := by
      unfold cycN
      rw [h0, show (n + 1) % 3 = 1 by omega, show (n + 2) % 3 = 2 by omega]
      rfl
    rw [e]; exact ⟨h, hf, rfl⟩
  · have e : cycN t n = cycT t := by
      unfold cycN
      rw [h0, show (n + 1) % 3 = 2 by omega, show (n + 2) % 3 = 0 by omega]
      rfl
    rw [e]; exact ⟨distT_cyc h, ⟨hf.2.1, hf.2.2, hf.1⟩, rotT_cyc h⟩
  · have e : cycN t n = cycT (cycT t) := by
      unfold cycN
      rw [h0, show (n + 1) % 3 = 0 by omega, show (n + 2) % 3 = 1 by omega]
      rfl
    rw [e]; exact ⟨distT_cyc (distT_cyc h), ⟨hf.2.2, hf.1, hf.2.1⟩, by rw [rotT_cyc (distT_cyc h), rotT_cyc h]⟩
/-- One round of the shuffle. -/
theorem setCells_eq (w : World) (g o : Nat) (vs : List Value) : w.setCells g o vs = setW w g o vs := by
  induction vs generalizing w o with
  | nil => rfl
  | cons v vs ih => exact ih _ _
theorem own_there {α : Type} {enc : α → List Value} {k : Nat} {e : TypeId} {w : World} {base n cap g i : Nat} {xs : List α} {x : α} (hk : ∀ x, (enc x).length = k) (h : Own enc k e w base (.slice (some ⟨g, 0, none⟩) n cap) n xs) (hx : xs[i]? = some x) : w.there g (i * k) k := by
  intro j hj
  obtain ⟨b, o, e1, _, hc⟩ := (h.sl hk (Nat.le_refl w.heap.size)).at hx
  cases e1
  have hu : (enc x)[j]? = some ((enc x)[j]'(by rw [hk]; exact hj)) := List.getElem?_eq_getElem _
  have h1 := hc j _ hu
  rw [Nat.zero_add] at h1
  obtain ⟨cs, hcs⟩ := h.cells g rfl
  exact ⟨by rw [h1]; rfl, Blk.frozen hcs _⟩
theorem setW_tri (w : World) (g o : Nat) (y : Tri) : setW w g o (encT y) = (((((((((w.setCell ⟨g, o, none⟩ (.int .i64 y.1.1)).setCell ⟨g, o + 1, none⟩ (.int .i64 y.1.2.1)).setCell ⟨g, o + 2, none⟩ (.int .i64 y.1.2.2)).setCell ⟨g, o + 3, none⟩ (.int .i64 y.2.1.1)).setCell ⟨g, o + 4, none⟩ (.int .i64 y.2.1.2.1)).setCell ⟨g, o + 5, none⟩ (.int .i64 y.2.1.2.2)).setCell ⟨g, o + 6, none⟩ (.int .i64 y.2.2.1)).setCell ⟨g, o + 7, none⟩ (.int .i64 y.2.2.2.1)).setCell ⟨g, o + 8, none⟩ (.int .i64 y.2.2.2.2)) := rfl
theorem swap_perm {L : List Tri} {k j : Nat} (hk : k < L.length) (hj : j < L.length) : ((L.set k L[j]).set j L[k]).Perm L := by
  refine List.perm_iff_count.2 fun x => ?_
  by_cases hkj : k = j
  · subst hkj
    simp
  · rw [List.count_set (by simpa using hj), List.count_set hk, List.getElem_set_ne hkj]
    have h1 : L[k] ∈ L := List.getElem_mem hk
    have h2 : L[j] ∈ L := List.getElem_mem hj
    have c1 := List.count_pos_iff.2 h1
    have c2 := List.count_pos_iff.2 h2
    by_cases e1 : L[k] = x <;> by_cases e2 : L[j] = x <;> simp [e1, e2] <;> (try subst e1) <;> (try subst e2) <;> omega
/-- One round of the shuffle. -/
theorem shuffle_law {L T : List Tri} {k j n : Nat} {x y : Tri} (hk : L[k]? = some x) (hj : L[j]? = some y) (hp : (L.map rotT).Perm (T.map rotT)) (hd : ∀ t ∈ L, distT t ∧ fitsT t) :
    let M := ((L.set k y).set j x)
    ∀ z, M[k]? = some z → ((M.set k (cycN z n)).map rotT).Perm (T.map rotT) ∧ ∀ t ∈ M.set k (cycN z n), distT t ∧ fitsT t := by
  intro M z hz
  have hkl := (List.getElem?_eq_some_iff.1 hk).1
  have hjl := (List.getElem?_eq_some_iff.1 hj).1
  have hM : M.Perm L := by
    show ((L.set k y).set j x).Perm L
    have ex := (List.getElem?_eq_some_iff.1 hk).2
    have ey := (List.getElem?_eq_some_iff.1 hj).2
    rw [← ex, ← ey]
    exact swap_perm hkl hjl
  have hdM : ∀ t ∈ M, distT t ∧ fitsT t := fun t ht => hd t (hM.mem_iff.1 ht)
  have hzM := hdM z (List.mem_of_getElem? hz)
  have hl := cycN_law z n hzM.1 hzM.2
  refine ⟨?_, fun t ht => ?_⟩
  · have : (M.set k (cycN z n)).map rotT = M.map rotT := by
      rw [List.map_set, hl.2.2]
      apply List.ext_getElem?
      intro i
      rw [List.getElem?_set]
      split
      · rename_i h
        subst h
        rw [List.getElem?_map, hz]
        have := (List.getElem?_eq_some_iff.1 hz).1
        simp [this]
      · rfl
    rw [this]
    exact (hM.map rotT).trans hp
  · rcases List.mem_or_eq_of_mem_set ht with h | rfl
    · exact hdM t h
    · exact ⟨hl.1, hl.2.1⟩
set_option maxRecDepth 100000 in
set_option maxHeartbeats 16000000 in
theorem sets_walk (A : Option Addr) (c : Nat) (ns : List Tri) (B : Option Addr) (d : Nat) (ord : List Nat) (n : Nat) (w : World) (hs : ns ≠ [] → Sl encT 9 w w.heap.size A ns) (hl : ns.length ≤ 9223372036854775807)
    (hcs : ord ≠ [] → Sl encB 1 w w.heap.size B ord) (hcb : ∀ x ∈ ord, x < 256) (hcl : ord.length ≤ 9223372036854775807) (hn : n < 256) :
    Calls Try.prog 7 #[.slice A ns.length c, .slice B ord.length d, .int .u8 n] w fun e w' => e = .returned (.bool true) ∧ Below w.heap.size w w' := by
  have H := hide (And.intro hs (And.intro hcs hcb))
  clear hs hcs hcb
  go_enter Try.func7, Try.ntmps7
  go_wp2_with fail
  refine (sanity_any _).mono ?_
  rintro e w1 ⟨rfl, hB1⟩
  have H1 := hide hB1
  clear hB1
  go_wp2_with fail
  with_reducible refine (soup_any A c ns w1 (fun hne => ((H.out.1 hne).below H1.out).more H1.out.size) hl).mono ?_
  rintro e w2 ⟨u, rfl, hown, hB2⟩
  have hft := fits_soup ns
  have hTl := soupL_length ns
  obtain ⟨T, hT⟩ : ∃ T, T = soupL ns := ⟨_, rfl⟩
  rw [← hT] at hown hft hTl
  obtain ⟨A2, c2, rfl⟩ := hown.form
  have H2 := hide (And.intro (hown.sl encT_len (Nat.le_refl _)) (And.intro hft (H1.out.trans (hB2.mono H1.out.size))))
  clear hft hB2 hown hT
  go_wp2
  go_loopw [8, 19] (fun tv i wr => ∃ (k : Nat) (D : List Tri), k ≤ T.length ∧ i = .int .i64 k ∧ D = (T.take k).filter distB ∧ D.length ≤ k ∧ Own encT 9 26 wr w2.heap.size tv D.length D ∧ Below w2.heap.size w2 wr) (fun _ i _ => T.length - (intOf i).toNat)
  case atStart => exact ⟨0, [], by omega, rfl, rfl, by simp, Own.nil, Below.refl _ w2⟩
  case round =>
    obtain ⟨k, D, hk, rfl, hD, hDl, hown, hB⟩ := hrel
    obtain ⟨Ad, cd, rfl⟩ := hown.form
    have hszB := hB.size
    by_cases hlt : k < T.length
    · obtain ⟨s, hsk⟩ : ∃ s, T[k]? = some s := ⟨_, List.getElem?_eq_getElem hlt⟩
      have hfs := H2.out.2.1 s (List.mem_of_getElem? hsk)
      obtain ⟨b, o, hA, hb, g0, g1, g2, g3, g4, g5, g6, g7, g8⟩ := (H2.out.1.below hB).tri hsk
      subst hA
      have q01 := eqP s.1 s.2.1 hfs.1 hfs.2.1
      have q12 := eqP s.2.1 s.2.2 hfs.2.1 hfs.2.2
      have q20 := eqP s.2.2 s.1 hfs.2.2 hfs.1
      have i1 : (k : Int) < (T.length : Int) := by omega
      have hsn := filter_snoc distB T k s hsk
      have HR := hide (And.intro hown (And.intro hB (And.intro hD (And.intro hsn (And.intro hsk hfs)))))
      clear hown hB hD hsn hsk hfs
      by_cases h01 : s.1 = s.2.1
      · have he : s.1 = s.2.1 := h01
        have e01 : decide (s.1 = s.2.1) = true := decide_eq_true h01
        rw [e01] at q01
        clear h01 e01 q12 q20
        have HE := hide he
        clear he
        go_wp2
        go_roundw
        case rel =>
          refine ⟨k + 1, D, by omega, by go_num, ?_, by omega, HR.out.1.alloc _, HR.out.2.1.alloc hszB _⟩
          rw [HR.out.2.2.2.1, ← HR.out.2.2.1, if_neg (by simp [distB, HE.out]), List.append_nil]
        case measure => simp [intOf]; omega
      · have e01 : decide (s.1 = s.2.1) = false := decide_eq_false h01
        rw [e01] at q01
        by_cases h12 : s.2.1 = s.2.2
        · have he : s.2.1 = s.2.2 := h12
          have e12 : decide (s.2.1 = s.2.2) = true := decide_eq_true h12
          rw [e12] at q12
          clear h01 h12 e12 e01 q20
          have HE := hide he
          clear he
          go_wp2
          go_roundw
          case rel =>
            refine ⟨k + 1, D, by omega, by go_num, ?_, by omega, HR.out.1.alloc _, HR.out.2.1.alloc hszB _⟩
            rw [HR.out.2.2.2.1, ← HR.out.2.2.1, if_neg (by simp [distB, HE.out]), List.append_nil]
          case measure => simp [intOf]; omega
        · have e12 : decide (s.2.1 = s.2.2) = false := decide_eq_false h12
          rw [e12] at q12
          by_cases h20 : s.2.2 = s.1
          · have he : s.2.2 = s.1 := h20
            have e20 : decide (s.2.2 = s.1) = true := decide_eq_true h20
            rw [e20] at q20
            clear h01 h12 h20 e01 e12 e20
            have HE := hide he
            clear he
            go_wp2
            go_roundw
            case rel =>
              refine ⟨k + 1, D, by omega, by go_num, ?_, by omega, HR.out.1.alloc _, HR.out.2.1.alloc hszB _⟩
              rw [HR.out.2.2.2.1, ← HR.out.2.2.1, if_neg (by simp [distB, HE.out]), List.append_nil]
            case measure => simp [intOf]; omega
          · have e20 : decide (s.2.2 = s.1) = false := decide_eq_false h20
            rw [e20] at q20
            have hdist : distB s = true := by simp [distB, h01, h12, h20]
            have HE := hide hdist
            have hown2 := (HR.out.1.alloc (.cells (encT s).toArray 26)).alloc (.cells (encT s).toArray 26)
            clear h01 h12 h20 e01 e12 e20 hdist
            go_wp2_with (at_builtin; refine wpList_append1 rfl _ _ _ rfl Try.underlying27 infoT rfl (by omega) encT_len encT_one rfl hown2 (wr.heap.size + 1) 1 s rfl (Blk.new' _ _ _ _ (by simp)) (by unfold maxLen; omega) (by omega) (by simp; omega) ?_; intro g cap w5 hown5 hg5 hB5 hat5 hgb5 hlt5)
            go_roundw
            case rel =>
              refine ⟨k + 1, D ++ [s], by omega, by go_num, ?_, by simp; omega, by rw [List.length_append]; exact hown5, ((HR.out.2.1.alloc hszB _).alloc (by simp; omega) _).trans hB5⟩
              rw [HR.out.2.2.2.1, ← HR.out.2.2.1, if_pos HE.out]
            case measure => simp [intOf]; omega
    · have hke : k = T.length := by omega
      subst hke
      rw [List.take_length] at hD
      have hDd : ∀ t ∈ D, distT t ∧ fitsT t := fun t ht => by
        rw [hD] at ht
        have := List.mem_filter.1 ht
        exact ⟨(distB_iff t).1 this.2, H2.out.2.1 t this.1⟩
      have hsD : Sl encT 9 wr wr.heap.size Ad D := hown.sl encT_len (Nat.le_refl _)
      have hlit : Own encT 9 26 (wr.alloc (.cells #[] 26)) wr.heap.size (.slice (some ⟨wr.heap.size, 0, none⟩) 0 0) 0 ([] : List Tri) :=
        ⟨rfl, by simpa using World.ownsRow_lit (e := 26) (size := 9) wr #[] 0 (Nat.le_refl _) (by unfold maxLen; omega) (by simp)⟩
      have hsD2 : Sl encT 9 (wr.alloc (.cells #[] 26)) wr.heap.size Ad D := hsD.below ((Below.refl _ wr).alloc (Nat.le_refl _) _)
      have HR := hide (And.intro hsD (And.intro (H2.out.2.2.trans (hB.mono H2.out.2.2.size)) (And.intro hDd (And.intro hsD2 hlit))))
      clear hsD hB hDd hD hown hsD2 hlit hlt
      go_wp2_with (at_builtin; refine wpList_appendS rfl _ _ _ rfl Try.underlying27 infoT rfl (by omega) encT_len encT_one rfl HR.out.2.2.2.2 Ad cd wr.heap.size D rfl HR.out.2.2.2.1 (by unfold maxLen; omega) (by omega) (by simp) ?_; intro v3 w3 hown3 hg3 hB3 hat3; rw [Nat.zero_add, List.nil_append] at hown3; obtain ⟨As, cs, rfl⟩ := hown3.form; have hfl := hB3.size)
      have hRW : Below wr.heap.size wr w3 := ((Below.refl _ wr).alloc (Nat.le_refl _) _).trans hB3
      obtain ⟨M, hM⟩ : ∃ M, M = D.length := ⟨_, rfl⟩
      rw [← hM] at hown3 ⊢
      have H3 := hide (And.intro hown3 (And.intro hRW hM))
      clear hown3 hB3 hg3 hat3 hRW hfl
      have hM40 : M ≤ 40 := by omega
      clear hM
      obtain ⟨R, hRR⟩ : ∃ R, R = wr := ⟨_, rfl⟩
      rw [← hRR] at H3 HR
      clear hRR
      go_loopw [12] (fun i wx => ∃ (k : Nat) (L : List Tri), 1 ≤ k ∧ k ≤ M + 1 ∧ i = .int .i64 k ∧ Own encT 9 26 wx R.heap.size (.slice As M cs) M L ∧ (L.map rotT).Perm (D.map rotT) ∧ (∀ t ∈ L, distT t ∧ fitsT t) ∧ Below R.heap.size R wx) (fun i _ => M + 1 - (intOf i).toNat)
      case atStart => exact ⟨1, D, by omega, by omega, rfl, H3.out.1, .refl _, HR.out.2.2.1, H3.out.2.1⟩
      case round =>
        obtain ⟨k, L, hk1, hkM, rfl, hownL, hperm, hLd, hBx⟩ := hrel
        by_cases hgo : k < M ∧ 0 < ord.length
        · obtain ⟨hkM2, ho⟩ := hgo
          obtain ⟨r, hr⟩ : ∃ r, r = k % ord.length := ⟨_, rfl⟩
          have hrl : r < ord.length := by rw [hr]; exact Nat.mod_lt _ ho
          have hmod : (k : Int) % (ord.length : Int) = (r : Int) := by rw [hr]; exact (Int.natCast_emod k ord.length).symm
          obtain ⟨x, hx⟩ : ∃ x, ord[r]? = some x := ⟨_, List.getElem?_eq_getElem hrl⟩
          have hxb := H.out.2.2 x (List.mem_of_getElem? hx)
          have hBw : Below w.heap.size w wr := HR.out.2.1.trans (hBx.mono HR.out.2.1.size)
          obtain ⟨bo, oo, hBo, hbo, hcx⟩ := ((H.out.2.1 (fun e => by rw [e] at hx; simp at hx)).below hBw).at hx
          subst hBo
          have hx0 := hcx 0 _ rfl
          rw [Nat.mul_one, Nat.add_zero] at hx0
          obtain ⟨j, hj⟩ : ∃ j, j = x % (k + 1) := ⟨_, rfl⟩
          have hjk : j ≤ k := by rw [hj]; have := Nat.mod_lt x (show 0 < k + 1 by omega); omega
          have hmodj : (x : Int) % ((k : Int) + 1) = (j : Int) := by rw [hj]; exact (Int.natCast_emod x (k + 1)).symm
          obtain ⟨g, cap0, hv, hgb, hgl⟩ := hownL.at (by intro e; rw [e] at hownL; have := hownL.1; simp at this; omega)
          obtain rfl : As = some ⟨g, 0, none⟩ := by injection hv
          have hML := hownL.1
          obtain ⟨tk, htk⟩ : ∃ t, L[k]? = some t := ⟨_, List.getElem?_eq_getElem (by omega)⟩
          obtain ⟨tj, htj⟩ : ∃ t, L[j]? = some t := ⟨_, List.getElem?_eq_getElem (by omega)⟩
          obtain ⟨b1, o1, e1, _, k0, k1, k2, k3, k4, k5, k6, k7, k8⟩ := (hownL.sl encT_len (Nat.le_refl _)).tri htk
          cases e1
          obtain ⟨b1, o1, e1, _, j0, j1, j2, j3, j4, j5, j6, j7, j8⟩ := (hownL.sl encT_len (Nat.le_refl _)).tri htj
          cases e1
          simp only [Nat.zero_add] at k0 k1 k2 k3 k4 k5 k6 k7 k8 j0 j1 j2 j3 j4 j5 j6 j7 j8
          have i1 : (k : Int) < (M : Int) := by omega
          have i2 : (j : Int) < (M : Int) := by omega
          have i3 : (r : Int) < (ord.length : Int) := by omega
          have d1 : decide (k < M) = true := decide_eq_true hkM2
          have d2 : decide ((0 : Int) < (ord.length : Int)) = true := decide_eq_true (by omega)
          obtain ⟨csb, hcsb⟩ := hownL.cells g rfl
          have hfz := fun i => Blk.frozen hcsb i
          have HL := hide (And.intro hownL (And.intro hperm (And.intro hLd (And.intro hBx (And.intro htk (And.intro htj hML))))))
          have HZ := hide hfz
          clear hownL hperm hLd hBx htk htj hML hv hcx hx hBw hr hrl hcsb hfz hj
          go_wp2_with fail
          rw [hmodj]
          have hsz9 : (Try.prog.info? 26).map (·.size) = some 9 := by kernel_rfl
          have hthere : ∀ (W : World) (i : Nat) (t : Tri), Own encT 9 26 W R.heap.size (.slice (some ⟨g, 0, none⟩) M cs) M L → True := fun _ _ _ _ => trivial
          clear hthere
          obtain ⟨W1, hW1⟩ : ∃ W1, W1 = wr.drew.setCells g (k * 9) (encT tj) := ⟨_, rfl⟩
          have hO1 : Own encT 9 26 W1 R.heap.size (.slice (some ⟨g, 0, none⟩) M cs) M (L.set k tj) := by
            rw [hW1, setCells_eq]
            exact Own.setW encT_len (show Own encT 9 26 wr.drew R.heap.size _ M L from HL.out.1) (List.getElem?_eq_some_iff.1 HL.out.2.2.2.2.1).1 tj
          obtain ⟨W2, hW2⟩ : ∃ W2, W2 = W1.setCells g (j * 9) (encT tk) := ⟨_, rfl⟩
          have hO2 : Own encT 9 26 W2 R.heap.size (.slice (some ⟨g, 0, none⟩) M cs) M ((L.set k tj).set j tk) := by
            rw [hW2, setCells_eq]
            exact Own.setW encT_len hO1 (by rw [List.length_set]; exact (List.getElem?_eq_some_iff.1 HL.out.2.2.2.2.2.1).1) tk
          have ht1 : wr.drew.there g (k * 9) 9 := own_there encT_len (show Own encT 9 26 wr.drew R.heap.size _ M L from HL.out.1) HL.out.2.2.2.2.1
          have ht2 : W1.there g (j * 9) 9 := by
            have hj1 : ∃ t, (L.set k tj)[j]? = some t := ⟨_, List.getElem?_eq_getElem (by rw [List.length_set]; exact (List.getElem?_eq_some_iff.1 HL.out.2.2.2.2.2.1).1)⟩
            obtain ⟨t, ht⟩ := hj1
            exact own_there encT_len hO1 ht
          have HST := hide (And.intro ht1 (And.intro ht2 (And.intro hW1 (And.intro hW2 hsz9))))
          have hB2 : Below R.heap.size R W2 := by
            rw [hW2, hW1, setCells_eq, setCells_eq]
            exact setW_below hgb _ _ _ (setW_below hgb _ _ _ (below_drewN HL.out.2.2.2.1 1))
          have HW := hide (And.intro hO2 hB2)
          clear hmodj hmod hx0 hW1 hW2 hO1 hO2 hB2 hsz9 ht1 ht2
          have hstart := SwI.start wr.drew W1 W2 (swEx (.slice (some ⟨g, 0, none⟩) M cs) (.int .i64 k) (.int .i64 j) (.pointer (some ⟨g, k * 9, none⟩)) (.pointer (some ⟨g, j * 9, none⟩)) (vT tk) (vT tj))
          refine wp_region_inv (rs := [0, 1, 2, 3, 4, 5, 6, 7, 8, 9, 10, 11, 12, 13, 14, 15]) (ms := [0, 0, 0, 0, 0, 0, 48, 112, 0, 0, 768, 1792, 4083, 8179, 16383, 32767]) (ds := [(0, 73), (1, 74), (2, 75), (3, 76), (4, 77), (5, 78), (6, 79), (7, 80), (8, 81), (9, 82), (10, 83), (11, 84), (12, 85), (14, 86)]) (SwI wr.drew W1 W2 (swEx (.slice (some ⟨g, 0, none⟩) M cs) (.int .i64 k) (.int .i64 j) (.pointer (some ⟨g, k * 9, none⟩)) (.pointer (some ⟨g, j * 9, none⟩)) (vT tk) (vT tj))) mixed_ok (by kernel_rfl) hstart ⟨?s0, ?s1, ?s2, ?s3, ?s4, ?s5, ?s6, ?s7, ?s8, ?s9, ?s10, ?s11, ?s12, ?s13, ?s14, ?s15, trivial⟩ ?e
          case s0 =>
            intro L vals V hLi hL hI
            have HI := hide hI
            clear hI
            refine wpOp_of_list rfl ?_
            rw [sets_act15]
            go_wp2
            exact ⟨by trivial, HI.out.quiet 0 (by decide) (by decide) rfl⟩
          case s1 =>
            intro L vals V hLi hL hI
            have HI := hide hI
            clear hI
            refine wpOp_of_list rfl ?_
            rw [sets_act15]
            go_wp2
            exact ⟨by trivial, HI.out.quiet 1 (by decide) (by decide) rfl⟩
          case s2 =>
            intro L vals V hLi hL hI
            have HI := hide hI
            clear hI
            refine wpOp_of_list rfl ?_
            rw [sets_act15]
            go_wp2
            exact ⟨by trivial, HI.out.quiet 2 (by decide) (by decide) rfl⟩
          case s3 =>
            intro L vals V hLi hL hI
            have HI := hide hI
            clear hI
            refine wpOp_of_list rfl ?_
            rw [sets_act15]
            go_wp2
            exact ⟨by trivial, HI.out.quiet 3 (by decide) (by decide) rfl⟩
          case s4 =>
            intro L vals V hLi hL hI
            have HI := hide hI
            clear hI
            refine wpOp_of_list rfl ?_
            rw [sets_act15]
            go_wp2
            exact ⟨by trivial, HI.out.quiet 4 (by decide) (by decide) rfl⟩
          case s5 =>
            intro L vals V hLi hL hI
            have HI := hide hI
            clear hI
            refine wpOp_of_list rfl ?_
            rw [sets_act15]
            go_wp2
            exact ⟨by trivial, HI.out.quiet 5 (by decide) (by decide) rfl⟩
          case s6 =>
            intro L vals V hLi hL hI
            have hv4 : vals 4 = .slice (some ⟨g, 0, none⟩) M cs := hI.v 4 (by decide) (by decide) (hL 4 rfl)
            have hv5 : vals 5 = .int .i64 j := hI.v 5 (by decide) (by decide) (hL 5 rfl)
            have HI := hide hI
            clear hI
            refine wpOp_of_list rfl ?_
            rw [sets_act15]
            simp only [hv4, hv5]
            go_wp2
            exact ⟨by trivial, HI.out.quiet 6 (by decide) (by decide) rfl⟩
          case s7 =>
            intro L vals V hLi hL hI
            have hv6 : vals 6 = .pointer (some ⟨g, j * 9, none⟩) := hI.v 6 (by decide) (by decide) (hL 6 rfl)
            obtain rfl : V = wr.drew := hI.w0 (by cases h : L 13 with
              | false => rfl
              | true => have h' := (hI.c h).1; rw [hLi] at h'; cases h')
            have HI := hide hI
            clear hI
            refine wpOp_of_list rfl ?_
            rw [sets_act15]
            simp only [hv6]
            go_wp2
            exact ⟨by trivial, HI.out.quiet 7 (by decide) (by decide) rfl⟩
          case s8 =>
            intro L vals V hLi hL hI
            have HI := hide hI
            clear hI
            refine wpOp_of_list rfl ?_
            rw [sets_act15]
            go_wp2
            exact ⟨by trivial, HI.out.quiet 8 (by decide) (by decide) rfl⟩
          case s9 =>
            intro L vals V hLi hL hI
            have HI := hide hI
            clear hI
            refine wpOp_of_list rfl ?_
            rw [sets_act15]
            go_wp2
            exact ⟨by trivial, HI.out.quiet 9 (by decide) (by decide) rfl⟩
          case s10 =>
            intro L vals V hLi hL hI
            have hv8 : vals 8 = .slice (some ⟨g, 0, none⟩) M cs := hI.v 8 (by decide) (by decide) (hL 8 rfl)
            have hv9 : vals 9 = .int .i64 k := hI.v 9 (by decide) (by decide) (hL 9 rfl)
            have HI := hide hI
            clear hI
            refine wpOp_of_list rfl ?_
            rw [sets_act15]
            simp only [hv8, hv9]
            go_wp2
            exact ⟨by trivial, HI.out.quiet 10 (by decide) (by decide) rfl⟩
          case s11 =>
            intro L vals V hLi hL hI
            have hv10 : vals 10 = .pointer (some ⟨g, k * 9, none⟩) := hI.v 10 (by decide) (by decide) (hL 10 rfl)
            obtain rfl : V = wr.drew := hI.w0 (by cases h : L 13 with
              | false => rfl
              | true => have h' := (hI.c h).2; rw [hLi] at h'; cases h')
            have HI := hide hI
            clear hI
            refine wpOp_of_list rfl ?_
            rw [sets_act15]
            simp only [hv10]
            go_wp2
            exact ⟨by trivial, HI.out.quiet 11 (by decide) (by decide) rfl⟩
          case s12 =>
            intro L vals V hLi hL hI
            have hv0 : vals 0 = .slice (some ⟨g, 0, none⟩) M cs := hI.v 0 (by decide) (by decide) (hL 0 rfl)
            have hv1 : vals 1 = .int .i64 k := hI.v 1 (by decide) (by decide) (hL 1 rfl)
            have HI := hide hI
            clear hI
            refine wpOp_of_list rfl ?_
            rw [sets_act15]
            simp only [hv0, hv1]
            go_wp2
            exact ⟨by trivial, HI.out.quiet 12 (by decide) (by decide) rfl⟩
          case s13 =>
            intro L vals V hLi hL hI
            have hv7 : vals 7 = vT tj := hI.v 7 (by decide) (by decide) (hL 7 rfl)
            have hv12 : vals 12 = .pointer (some ⟨g, k * 9, none⟩) := hI.v 12 (by decide) (by decide) (hL 12 rfl)
            obtain rfl : V = wr.drew := hI.w0 hLi
            have h7 := hL 7 rfl
            have h11 := hL 11 rfl
            have HI := hide hI
            clear hI
            refine wpOp_of_list (o := { dst := none, op := Op.store 26 (Operand.tmp 85) (Operand.tmp 80), type := 0, pos := "law.go:123", after := #[{ on := 12, ground := Ground.data }, { on := 7, ground := Ground.data }, { on := 0, ground := Ground.phase }, { on := 1, ground := Ground.phase }, { on := 2, ground := Ground.textOnly Departure.lateStores }, { on := 3, ground := Ground.textOnly Departure.lateStores }, { on := 4, ground := Ground.phase }, { on := 5, ground := Ground.phase }, { on := 6, ground := Ground.phase }, { on := 7, ground := Ground.phase }, { on := 8, ground := Ground.textOnly Departure.lateStores }, { on := 9, ground := Ground.textOnly Departure.lateStores }, { on := 10, ground := Ground.textOnly Departure.lateStoresUnsure }, { on := 11, ground := Ground.phase }], guard := none }) rfl ?_
            rw [sets_act15]
            simp only [hv7, hv12]
            refine wpList_store_mid rfl 26 _ _ rfl g (k * 9) (encT tj).toArray rfl rfl HST.out.1 HST.out.2.2.2.2 (all_oneCell_toArray (encT_one tj)) ?_
            change wpList _ _ _ _ _ (wr.drew.setCells g (k * 9) (encT tj))
            rw [← HST.out.2.2.1]
            exact ⟨rfl, HI.out.st1 hLi h7 h11 _⟩
          case s14 =>
            intro L vals V hLi hL hI
            have hv2 : vals 2 = .slice (some ⟨g, 0, none⟩) M cs := hI.v 2 (by decide) (by decide) (hL 2 rfl)
            have hv3 : vals 3 = .int .i64 j := hI.v 3 (by decide) (by decide) (hL 3 rfl)
            have HI := hide hI
            clear hI
            refine wpOp_of_list rfl ?_
            rw [sets_act15]
            simp only [hv2, hv3]
            go_wp2
            exact ⟨by trivial, HI.out.quiet 14 (by decide) (by decide) rfl⟩
          case s15 =>
            intro L vals V hLi hL hI
            have hv11 : vals 11 = vT tk := hI.v 11 (by decide) (by decide) (hL 11 rfl)
            have hv14 : vals 14 = .pointer (some ⟨g, j * 9, none⟩) := hI.v 14 (by decide) (by decide) (hL 14 rfl)
            obtain rfl : W1 = V := (hI.w1 (hL 13 rfl) hLi).symm
            have h13 := hL 13 rfl
            have HI := hide hI
            clear hI
            refine wpOp_of_list (o := { dst := none, op := Op.store 26 (Operand.tmp 86) (Operand.tmp 84), type := 0, pos := "law.go:123", after := #[{ on := 14, ground := Ground.data }, { on := 11, ground := Ground.data }, { on := 13, ground := Ground.chain }, { on := 0, ground := Ground.phase }, { on := 1, ground := Ground.phase }, { on := 2, ground := Ground.phase }, { on := 3, ground := Ground.phase }, { on := 4, ground := Ground.phase }, { on := 5, ground := Ground.phase }, { on := 6, ground := Ground.phase }, { on := 7, ground := Ground.phase }, { on := 8, ground := Ground.phase }, { on := 9, ground := Ground.phase }, { on := 10, ground := Ground.phase }, { on := 11, ground := Ground.phase }, { on := 12, ground := Ground.phase }, { on := 13, ground := Ground.phase }], guard := none }) rfl ?_
            rw [sets_act15]
            simp only [hv11, hv14]
            refine wpList_store_mid rfl 26 _ _ rfl g (j * 9) (encT tk).toArray rfl rfl HST.out.2.1 HST.out.2.2.2.2 (all_oneCell_toArray (encT_one tk)) ?_
            have e2 : W1.setCells g (j * 9) (encT tk).toArray.toList = W2 := HST.out.2.2.2.1.symm
            rw [e2]
            exact ⟨rfl, HI.out.st2 h13 _⟩
          case e =>
            intro LL vals V hL hI
            obtain rfl : W2 = V := (hI.w2 (hL 15 (by decide))).symm
            rw [sets_act15]
            clear hI hL
            obtain ⟨z, hz⟩ : ∃ z, ((L.set k tj).set j tk)[k]? = some z := ⟨_, List.getElem?_eq_getElem (by rw [List.length_set, List.length_set]; exact (List.getElem?_eq_some_iff.1 HL.out.2.2.2.2.1).1)⟩
            obtain ⟨b1, o1, e1, _, z0, z1, z2, z3, z4, z5, z6, z7, z8⟩ := (HW.out.1.sl encT_len (Nat.le_refl _)).tri hz
            cases e1
            simp only [Nat.zero_add] at z0 z1 z2 z3 z4 z5 z6 z7 z8
            have hlaw := shuffle_law (n := x) HL.out.2.2.2.2.1 HL.out.2.2.2.2.2.1 HL.out.2.1 HL.out.2.2.1 z hz
            have hth : W2.drew.there g (k * 9) 9 := own_there encT_len (show Own encT 9 26 W2.drew R.heap.size _ M _ from HW.out.1) hz
            have hset : ∀ y : Tri, Own encT 9 26 (setW W2 g (k * 9) (encT y)).drew R.heap.size (.slice (some ⟨g, 0, none⟩) M cs) M (((L.set k tj).set j tk).set k y) := fun y =>
              (Own.setW encT_len HW.out.1 (List.getElem?_eq_some_iff.1 hz).1 y).drew
            have hbel : ∀ y : Tri, Below R.heap.size R (setW W2 g (k * 9) (encT y)).drew := fun y => below_drewN (setW_below hgb _ _ _ HW.out.2) 1
            have HY := hide (And.intro hlaw (And.intro hth (And.intro hset (And.intro hbel HST.out.2.2.2.2))))
            obtain ⟨csz, hcsz⟩ := HW.out.1.cells g rfl
            have y0 := Blk.frozen hcsz (k * 9)
            have y1 := Blk.frozen hcsz (k * 9 + 1)
            have y2 := Blk.frozen hcsz (k * 9 + 2)
            have y3 := Blk.frozen hcsz (k * 9 + 3)
            have y4 := Blk.frozen hcsz (k * 9 + 4)
            have y5 := Blk.frozen hcsz (k * 9 + 5)
            have y6 := Blk.frozen hcsz (k * 9 + 6)
            have y7 := Blk.frozen hcsz (k * 9 + 7)
            have y8 := Blk.frozen hcsz (k * 9 + 8)
            clear hlaw hth hset hbel hz hcsz
            have p1 : IntKind.i64.wrap ((x : Int) + 1) = (x : Int) + 1 := IntWalk.i64_in _ (by omega)
            have p2 : IntKind.i64.wrap ((x : Int) + 2) = (x : Int) + 2 := IntWalk.i64_in _ (by omega)
            have hr3 : x % 3 = 0 ∨ x % 3 = 1 ∨ x % 3 = 2 := by omega
            rcases hr3 with hr3 | hr3 | hr3
            · have m0 : (x : Int).tmod 3 = 0 := by
                have h1 : (x : Int).tmod 3 = (x : Int) % 3 := Int.tmod_eq_emod_of_nonneg (by omega)
                rw [h1]; omega
              have m1 : ((x : Int) + 1).tmod 3 = 1 := by
                have h1 : ((x : Int) + 1).tmod 3 = ((x : Int) + 1) % 3 := Int.tmod_eq_emod_of_nonneg (by omega)
                rw [h1]; omega
              have m2 : ((x : Int) + 2).tmod 3 = 2 := by
                have h1 : ((x : Int) + 2).tmod 3 = ((x : Int) + 2) % 3 := Int.tmod_eq_emod_of_nonneg (by omega)
                rw [h1]; omega
              have hy : cycN z x = z := cycN_0 z x hr3
              have HC := hide (And.intro hy hr3)
              clear hy hr3
              go_wp2_with fail
              go_still_tail 26, (by kernel_rfl)
              change wpList _ _ _ _ _ W2.drew
              clear m0 m1 m2 p1 p2
              go_wp2
              go_roundw
              case rel =>
                have hlaw := HY.out.1
                rw [HC.out.1] at hlaw
                have hO := HY.out.2.2.1 z
                have hBl := HY.out.2.2.2.1 z
                rw [setW_tri] at hO hBl
                exact ⟨k + 1, ((L.set k tj).set j tk).set k z, by omega, by omega, by go_num, hO, hlaw.1, hlaw.2, hBl⟩
              case measure => simp [intOf]; omega
            · have m0 : (x : Int).tmod 3 = 1 := by
                have h1 : (x : Int).tmod 3 = (x : Int) % 3 := Int.tmod_eq_emod_of_nonneg (by omega)
                rw [h1]; omega
              have m1 : ((x : Int) + 1).tmod 3 = 2 := by
                have h1 : ((x : Int) + 1).tmod 3 = ((x : Int) + 1) % 3 := Int.tmod_eq_emod_of_nonneg (by omega)
                rw [h1]; omega
              have m2 : ((x : Int) + 2).tmod 3 = 0 := by
                have h1 : ((x : Int) + 2).tmod 3 = ((x : Int) + 2) % 3 := Int.tmod_eq_emod_of_nonneg (by omega)
                rw [h1]; omega
              have hy : cycN z x = (z.2.1, z.2.2, z.1) := cycN_1 z x hr3
              have HC := hide (And.intro hy hr3)
              clear hy hr3
              go_wp2_with fail
              go_still_tail 26, (by kernel_rfl)
              change wpList _ _ _ _ _ W2.drew
              clear m0 m1 m2 p1 p2
              go_wp2
              go_roundw
              case rel =>
                have hlaw := HY.out.1
                rw [HC.out.1] at hlaw
                have hO := HY.out.2.2.1 ((z.2.1, z.2.2, z.1) : Tri)
                have hBl := HY.out.2.2.2.1 ((z.2.1, z.2.2, z.1) : Tri)
                rw [setW_tri] at hO hBl
                exact ⟨k + 1, ((L.set k tj).set j tk).set k ((z.2.1, z.2.2, z.1) : Tri), by omega, by omega, by go_num, hO, hlaw.1, hlaw.2, hBl⟩
              case measure => simp [intOf]; omega
            · have m0 : (x : Int).tmod 3 = 2 := by
                have h1 : (x : Int).tmod 3 = (x : Int) % 3 := Int.tmod_eq_emod_of_nonneg (by omega)
                rw [h1]; omega
              have m1 : ((x : Int) + 1).tmod 3 = 0 := by
                have h1 : ((x : Int) + 1).tmod 3 = ((x : Int) + 1) % 3 := Int.tmod_eq_emod_of_nonneg (by omega)
                rw [h1]; omega
              have m2 : ((x : Int) + 2).tmod 3 = 1 := by
                have h1 : ((x : Int) + 2).tmod 3 = ((x : Int) + 2) % 3 := Int.tmod_eq_emod_of_nonneg (by omega)
                rw [h1]; omega
              have hy : cycN z x = (z.2.2, z.1, z.2.1) := cycN_2 z x hr3
              have HC := hide (And.intro hy hr3)
              clear hy hr3
              go_wp2_with fail
              go_still_tail 26, (by kernel_rfl)
              change wpList _ _ _ _ _ W2.drew
              clear m0 m1 m2 p1 p2
              go_wp2
              go_roundw
              case rel =>
                have hlaw := HY.out.1
                rw [HC.out.1] at hlaw
                have hO := HY.out.2.2.1 ((z.2.2, z.1, z.2.1) : Tri)
                have hBl := HY.out.2.2.2.1 ((z.2.2, z.1, z.2.1) : Tri)
                rw [setW_tri] at hO hBl
                exact ⟨k + 1, ((L.set k tj).set j tk).set k ((z.2.2, z.1, z.2.1) : Tri), by omega, by omega, by go_num, hO, hlaw.1, hlaw.2, hBl⟩
              case measure => simp [intOf]; omega
        · have hcase : decide (k < M) = false ∨ (decide (k < M) = true ∧ ord = []) := by
            by_cases h1 : k < M
            · exact .inr ⟨decide_eq_true h1, List.eq_nil_of_length_eq_zero (by omega)⟩
            · exact .inl (decide_eq_false h1)
          have hfin : finestT ((n : Int) % 9) 4 L = finestT ((n : Int) % 9) 4 D := finest_set hperm
          have hsL : Sl encT 9 wr wr.heap.size As L := hownL.sl encT_len (Nat.le_refl _)
          have hML := hownL.1
          have hDM := H3.out.2.2
          have hsD : Sl encT 9 wr wr.heap.size Ad D := (HR.out.1.below hBx).more hBx.size
          have HE := hide (And.intro hfin (And.intro hsL (And.intro hsD (And.intro hLd (And.intro (HR.out.2.1.trans (hBx.mono HR.out.2.1.size)) hML)))))
          have hDl2 : D.length = M := hDM.symm
          clear hfin hsL hsD hLd hBx hownL hperm hML hDM hgo
          obtain ⟨b9, hb9⟩ : ∃ b9 : Int, b9 = (n : Int) % 9 := ⟨_, rfl⟩
          have hb9' : (n : Int) % 9 = b9 := hb9.symm
          have hcal1 := finest_any As cs b9 4 L wr HE.out.2.1 (by have := HE.out.2.2.2.2.2; omega) (fun t ht => (HE.out.2.2.2.1 t ht).2) (by omega)
          rw [← HE.out.2.2.2.2.2] at hcal1
          have HC1 := hide hcal1
          have HDl := hide hDl2
          clear hcal1 hDl2 hb9
          rcases hcase with h1 | ⟨h1, h2⟩
          · go_wp2_with fail
            with_reducible refine HC1.out.mono ?_
            rintro e w4 ⟨v4, rfl, hp4, hB4⟩
            obtain ⟨A4, c4, rfl, hc4, hl4⟩ := hp4.lst encT_len
            have hcal2 := finest_any Ad cd b9 4 D w4 ((HE.out.2.2.1.below hB4).more hB4.size) (by have := HDl.out; omega) (fun t ht => (HR.out.2.2.1 t ht).2) (by omega)
            rw [HDl.out] at hcal2
            have H4 := hide (And.intro hl4 (And.intro hB4 hcal2))
            clear hl4 hB4 hp4 hc4 hcal2
            go_wp2_with fail
            with_reducible refine H4.out.2.2.mono ?_
            rintro e w5 ⟨v5, rfl, hp5, hB5⟩
            obtain ⟨A5, c5, rfl, hc5, hl5⟩ := hp5.lst encT_len
            have hF1 := finestT_facts (b := b9) (most := 4) (ts := L) (by have := HE.out.2.2.2.2.2; omega) (fun t ht => (HE.out.2.2.2.1 t ht).2)
            have hF2 := finestT_facts (b := b9) (most := 4) (ts := D) (by have := HDl.out; omega) (fun t ht => (HR.out.2.2.1 t ht).2)
            have hsame := same_any A4 A5 c4 c5 (finestT b9 4 L) (finestT b9 4 D) w5 w4.heap.size w5.heap.size (H4.out.1.below hB5) hl5 (by omega) (by omega)
              (fun p hp => by have := hF1.2.1 p hp; omega) (fun p hp => by have := hF2.2.1 p hp; omega) hF1.2.2 hF2.2.2
            have hfe := HE.out.1
            rw [hb9'] at hfe
            rw [decide_eq_true hfe] at hsame
            have H5 := hide (And.intro hsame hB5)
            clear hsame hB5 hl5 hp5 hc5 hF1 hF2 hfe
            go_wp2_with fail
            with_reducible refine H5.out.1.mono ?_
            rintro e w6 ⟨rfl, nn, rfl⟩
            go_wp2
            go_ret
            have z1 := HE.out.2.2.2.2.1.size
            have z2 := H4.out.2.1.size
            exact ⟨rfl, below_drewN ((HE.out.2.2.2.2.1.trans (H4.out.2.1.mono z1)).trans (H5.out.2.mono (by omega))) nn⟩
          · subst h2
            go_wp2_with fail
            with_reducible refine HC1.out.mono ?_
            rintro e w4 ⟨v4, rfl, hp4, hB4⟩
            obtain ⟨A4, c4, rfl, hc4, hl4⟩ := hp4.lst encT_len
            have hcal2 := finest_any Ad cd b9 4 D w4 ((HE.out.2.2.1.below hB4).more hB4.size) (by have := HDl.out; omega) (fun t ht => (HR.out.2.2.1 t ht).2) (by omega)
            rw [HDl.out] at hcal2
            have H4 := hide (And.intro hl4 (And.intro hB4 hcal2))
            clear hl4 hB4 hp4 hc4 hcal2
            go_wp2_with fail
            with_reducible refine H4.out.2.2.mono ?_
            rintro e w5 ⟨v5, rfl, hp5, hB5⟩
            obtain ⟨A5, c5, rfl, hc5, hl5⟩ := hp5.lst encT_len
            have hF1 := finestT_facts (b := b9) (most := 4) (ts := L) (by have := HE.out.2.2.2.2.2; omega) (fun t ht => (HE.out.2.2.2.1 t ht).2)
            have hF2 := finestT_facts (b := b9) (most := 4) (ts := D) (by have := HDl.out; omega) (fun t ht => (HR.out.2.2.1 t ht).2)
            have hsame := same_any A4 A5 c4 c5 (finestT b9 4 L) (finestT b9 4 D) w5 w4.heap.size w5.heap.size (H4.out.1.below hB5) hl5 (by omega) (by omega)
              (fun p hp => by have := hF1.2.1 p hp; omega) (fun p hp => by have := hF2.2.1 p hp; omega) hF1.2.2 hF2.2.2
            have hfe := HE.out.1
            rw [hb9'] at hfe
            rw [decide_eq_true hfe] at hsame
            have H5 := hide (And.intro hsame hB5)
            clear hsame hB5 hl5 hp5 hc5 hF1 hF2 hfe
            go_wp2_with fail
            with_reducible refine H5.out.1.mono ?_
            rintro e w6 ⟨rfl, nn, rfl⟩
            go_wp2
            go_ret
            have z1 := HE.out.2.2.2.2.1.size
            have z2 := H4.out.2.1.size
            exact ⟨rfl, below_drewN ((HE.out.2.2.2.2.1.trans (H4.out.2.1.mono z1)).trans (H5.out.2.mono (by omega))) nn⟩
end Go.Proofs.Ytgndbpkgehjelaa
