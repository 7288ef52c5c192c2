/- Joined texts: S7X S7Y. -/
import Derived.Test.YtdpgohpbannfnaaCB12
import Derived.Test.YtdpgohpbannfnaaCB13
import Derived.Test.YtdpgohpbannfnaaCB14
import Derived.Test.YtdpgohpbannfnaaCB15
/- Words for seal.Seal. -/
namespace Go.Proofs.Ytdpgohpbannfnaa
open Go.RowKit Go.Sort Go.WideMaps Go.Maps
theorem len_faces : ∀ xs : List EF, (xs.flatMap facesE).length = 4 * xs.length
  | [] => rfl
  | x :: xs => by
    rw [List.flatMap_cons, List.length_append, len_faces xs, List.length_cons]
    show 4 + _ = _
    omega
theorem inn_ax {n : Int} {e : EF} (h : innE n e = true) : 0 ≤ e.1 ∧ e.1 < 3 := by
  unfold innE at h
  simp only [Bool.and_eq_true, decide_eq_true_eq] at h
  exact h.1
/-- Each odd face has a given edge: there are few. -/
theorem odd_few (n : Nat) (l : List EF) : (oddL (givE n l) (n + 1)).length ≤ 4 * l.length := by
  have h := (oddL_nodup (givE n l) (n + 1)).length_le_of_subset (l₂ := (l.filter (innE n)).flatMap facesE) fun f hf => by
    obtain ⟨h1, h2⟩ := (oddL_mem2 (giv_inn n l)).1 hf
    have h3 := par_face (L := l.filter (innE n)) (fun e he => inn_ax (List.mem_filter.1 he).2) h1
    exact togsE_mem (h3.trans h2)
  rw [len_faces] at h
  have := List.length_filter_le (innE n) l
  omega
theorem grd_mid {n : Nat} (hn : n ≤ 256) {f : EF} (h : grdF n f) : (f.1 = 0 ∨ f.1 = 1 ∨ f.1 = 2) ∧ midP7 f.2 := by
  unfold grdF at h
  unfold midP7 midI
  omega
theorem part_facts {n : Nat} {E : EF → Bool} {P : List EF} (hP : P ∈ partsF (oddL E (n + 1))) : (∀ f ∈ P, grdF n f) ∧ P ≠ [] ∧ P.length ≤ (oddL E (n + 1)).length := by
  obtain ⟨f, hf, rfl⟩ := parts_class hP
  refine ⟨fun g hg => (oddL_mem.1 (compF_mem.1 hg).1).1, fun h => ?_, List.length_filter_le _ _⟩
  have := compF_self hf
  rw [h] at this
  cases this
theorem parts_few (l : List EF) : (partsF l).length ≤ l.length := by
  unfold partsF
  rw [List.length_map]
  exact List.length_filter_le _ _
/-! Patches in memory. -/
def encPch (p : Pch) : List Value := [.int .i64 p.1.1, .int .i64 p.1.2.1, .int .i64 p.1.2.2.1, .int .i64 p.1.2.2.2, .int .i64 p.2.1, .int .i64 p.2.2]
theorem encPch_len (p : Pch) : (encPch p).length = 6 := rfl
theorem encPch_one (p : Pch) : ∀ u ∈ encPch p, u.oneCell' = true := by
  intro u hu
  simp only [encPch, List.mem_cons, List.not_mem_nil, or_false] at hu
  rcases hu with rfl | rfl | rfl | rfl | rfl | rfl <;> rfl
theorem infoPch : (Try.prog.info? 47).map (fun i => (i.zero, i.size, i.bytes)) = some (some (.agg #[.int .i64 0, .int .i64 0, .int .i64 0, .int .i64 0, .int .i64 0, .int .i64 0]), 6, 48) := by kernel_rfl
theorem infoM7 : (Try.prog.info? 63).map (fun i => (i.zero, i.size, i.bytes)) = some (some (.map none), 1, 8) := by kernel_rfl
theorem set_own_ne {α : Type} {enc : α → List Value} {k : Nat} {e : TypeId} {w : World} {base n pb c : Nat} {v : Value} {xs : List α} {E : EF → Bool} (hb : SetM w pb c E) (ho : Own enc k e w base v n xs) : some pb ≠ v.ownBlock := fun e' => by
  obtain ⟨cs', hc⟩ := ho.cells pb e'.symm
  obtain ⟨o, h1, h2⟩ := hb.obj
  rw [hc] at h1
  cases h1
  cases h2
theorem SetM.kept {w w' : World} {pb c : Nat} {E : EF → Bool} {row : Option Nat} (h : SetM w pb c E) (hg : w.grownBy w' row) (hne : some pb ≠ row) : SetM w' pb c E := MapK.kept h hg hne
set_option maxRecDepth 100000 in
theorem SetM.len {w : World} {pb k n : Nat} {E : EF → Bool} (hS : SetM w pb k E) (hE : ∀ e, E e = true → e ∈ allE (n + 1)) (hn : n ≤ 256) (ty : TypeId) : (Builtin.len_ #[63] ty #[.map (some pb)]).run Try.prog w = .ok (.int .i64 (cntE (n + 1) E : Nat)) w := by
  have hlen := MapK.len kfE7 (t := 63) (e := 4) (show MapK Try.prog 70 vF fitsF w pb k (setV E) from hS) Try.underlying63 ((allE (n + 1)).filter E) ((allE_nodup _).filter _) (fun p hp => by
    have h := allE_mem.1 (List.mem_filter.1 hp).1
    unfold fitsF fitsP fits
    omega) (fun p _ => by
    unfold setV
    rw [List.mem_filter]
    cases hp : E p with
    | true => simp [hE p hp]
    | false => simp) ty
  rw [← List.countP_eq_length_filter] at hlen
  exact hlen
/-- Under way: the sealer, the components, the patches, the result's box. -/
structure SlS (w wr : World) (bs mb bc n cnt : Nat) (E : EF → Bool) (pv ov : Value) (ps : List (List EF)) (k : Nat) : Prop where
  slr : SealM wr bs mb n cnt E
  parts : Pcs encF 4 45 38 wr bc pv ps
  out : Own encPch 6 47 wr bc ov k ((ps.take k).map (pchP n))
  box : Blk wr w.heap.size 32 #[.int .i64 0, .slice none 0 0]
  bel : Below w.heap.size w wr
  lo : w.heap.size < bs ∧ w.heap.size < mb ∧ bs < bc ∧ mb < bc ∧ bc ≤ wr.heap.size
section
variable {w wr W : World} {bs mb bc n cnt : Nat} {E : EF → Bool} {pv ov : Value} {ps : List (List EF)} {k : Nat}
theorem SlS.below (h : SlS w wr bs mb bc n cnt E pv ov ps k) (hb : Below wr.heap.size wr W) : SlS w W bs mb bc n cnt E pv ov ps k :=
  ⟨h.slr.below hb h.slr.box.lt h.slr.set.lt, h.parts.below hb (Nat.le_refl _), h.out.below hb (Nat.le_refl _), h.box.below hb h.box.lt, h.bel.trans (hb.mono h.bel.size), h.lo.1, h.lo.2.1, h.lo.2.2.1, h.lo.2.2.2.1, Nat.le_trans h.lo.2.2.2.2 hb.size⟩
theorem SlS.turn {cnt' : Nat} {E' : EF → Bool} (h : SlS w wr bs mb bc n cnt E pv ov ps k) (hs : SetM W mb cnt' E') (hg : wr.grownBy W (some mb)) : SlS w W bs mb bc n cnt' E' pv ov ps k := by
  have hl := h.lo
  have hr : ∀ r, some mb = some r → r < bc := fun r e => by cases e; exact hl.2.2.2.1
  exact ⟨h.slr.turn hs hg, h.parts.step hg fun r e => .inl (hr r e), h.out.step hg fun r e => .inl (hr r e), h.box.grown hg (fun e => by injection e with e; omega), h.bel.grown hg h.bel.size (fun r e => by cases e; omega), hl.1, hl.2.1, hl.2.2.1, hl.2.2.2.1, Nat.le_trans hl.2.2.2.2 hg.size⟩
end
/-- Once all edges of the patch are toggled. -/
theorem togs_all {E T : EF → Bool} {L : List EF} (hn : L.Nodup) (hL : ∀ e, e ∈ L ↔ T e = true) : togsE E L = xorE E T := by
  rw [togsE_xor]
  congr 1
  funext e
  rw [togsE_nodup hn, Bool.eq_iff_iff, decide_eq_true_eq]
  exact hL e
theorem sealN_snoc (n : Nat) (E : EF → Bool) (ps : List (List EF)) (P : List EF) : sealN n E (ps ++ [P]) = xorE (sealN n E ps) (patE n (dirP n P) P) := by unfold sealN; rw [List.foldl_append]; rfl
end Go.Proofs.Ytdpgohpbannfnaa
/- seal.Seal. -/
namespace Go.Proofs.Ytdpgohpbannfnaa
open Go.RowKit Go.Sort Go.WideMaps Go.Maps
set_option maxRecDepth 100000 in
set_option maxHeartbeats 8000000 in
theorem Seal7_bad (L : Int) (hL : ¬ (1 ≤ L ∧ L ≤ 8)) (A : Option Addr) (m c : Nat) (w : World) :
    Calls Try.prog 17 #[.slice A m c, .int .i64 L] w fun e w' => e = .returned (.tuple #[.agg #[.int .i64 0, .slice none 0 0], .slice none 0 0]) ∧ Below w.heap.size w w' := by
  go_enter Try.func17, Try.ntmps17
  go_wp2_with fail
  refine (begin7_bad L hL A m c _).mono ?_
  rintro e w1 ⟨rfl, rfl⟩
  go_wp2
  refine ret_at (v := .tuple #[.agg #[.int .i64 0, .slice none 0 0], .slice none 0 0]) (fun W => Blk W w.heap.size 32 #[.int .i64 0, .slice none 0 0]) (Blk.new _ _ _) (fun W h => ?_) rfl ⟨rfl, (Below.refl _ w).alloc (Nat.le_refl _) _⟩
  have a0 := h.cell 0
  have a1 := h.cell 1
  simp at a0 a1
  simp [results, Try.results17, go_sem, a0, a1]
set_option maxRecDepth 100000 in
set_option maxHeartbeats 32000000 in
theorem Seal7_any (L : Nat) (h1 : 1 ≤ L) (h8 : L ≤ 8) (A : Option Addr) (c : Nat) (l : List EF) (w : World) (hs : Sl encF 4 w w.heap.size A l) (hl : l.length ≤ 100000) (hf : ∀ e ∈ l, fitsF e) :
    Calls Try.prog 17 #[.slice A l.length c, .int .i64 L] w fun e w' => ∃ gi pv, e = .returned (.tuple #[.agg #[.int .i64 L, .slice (some ⟨gi, 0, none⟩) ((2 ^ L + 1) * (2 ^ L + 1) * (2 ^ L + 1)) ((2 ^ L + 1) * (2 ^ L + 1) * (2 ^ L + 1))], pv]) ∧
      RowB w' gi (fldP (2 ^ L) l) ∧ w.heap.size ≤ gi ∧ Own encPch 6 47 w' w.heap.size pv (pchsP (2 ^ L) l).length (pchsP (2 ^ L) l) ∧ Below w.heap.size w w' := by
  have hn256 := pow_small h8
  have hn1 : 1 ≤ 2 ^ L := Nat.one_le_two_pow
  obtain ⟨M, hM⟩ : ∃ M, M = l.length := ⟨_, rfl⟩
  have hbg := fun (W : World) (hB : Below w.heap.size w W) => begin7_any L h1 h8 A c l W ((hs.below hB).more hB.size) (by omega) hf
  have hfew := odd_few (2 ^ L) l
  rw [← hM] at hbg hl hfew ⊢
  obtain ⟨n, hn⟩ : ∃ n, n = 2 ^ L := ⟨_, rfl⟩
  rw [← hn] at hbg hfew hn256 hn1 ⊢
  obtain ⟨E, hE⟩ : ∃ E, E = givE (n : Int) l := ⟨_, rfl⟩
  have hEi := giv_inn n l
  rw [← hE] at hbg hfew hEi
  have H0 := hide (And.intro hbg (And.intro hfew (And.intro hEi (And.intro hE hM))))
  obtain ⟨m, hm⟩ : ∃ m, m = (n + 1) * (n + 1) * (n + 1) := ⟨_, rfl⟩
  rw [← hm]
  have Hm := hide hm
  clear hm
  clear hbg hfew hEi hE hM hs hf hn
  go_enter Try.func17, Try.ntmps17
  go_upto_region 1 with fail
  obtain ⟨X, hX⟩ : ∃ X, X = w.alloc (.cells #[.int .i64 0, .slice none 0 0] 32) := ⟨_, rfl⟩
  rw [← hX]
  have hBX : Below w.heap.size w X := by rw [hX]; exact (Below.refl _ w).alloc (Nat.le_refl _) _
  have hbX : Blk X w.heap.size 32 #[.int .i64 0, .slice none 0 0] := by rw [hX]; exact Blk.new _ _ _
  have HX := hide (And.intro hBX hbX)
  clear hX hBX hbX
  go_wp2_with fail
  refine (H0.out.1 X HX.out.1).mono ?_
  rintro e w1 ⟨bs, mb, rfl, hS, hB, hb1, hb2⟩
  have hod := odd7_any bs mb n M E w1 hn256 hS H0.out.2.2.1 (by omega)
  have H1 := hide (And.intro hod (And.intro hB (And.intro hS (And.intro hb1 hb2))))
  clear hod hB hS hb1 hb2
  go_upto_region 5 with fail
  go_wp2_with fail
  refine H1.out.1.mono ?_
  rintro e w2 ⟨v, rfl, hown, hB2⟩
  obtain ⟨A2, c2, rfl⟩ := hown.form
  have hcm := comps7_any A2 c2 (oddL E (n + 1)) w2 (hown.sl encF_len (Nat.le_refl _)) (by have := H0.out.2.1; omega) (fun f hf => grd_mid hn256 (oddL_mem.1 hf).1) (oddL_sorted E (n + 1))
  have hof := H0.out.2.1
  obtain ⟨ol, hol⟩ : ∃ x, x = (oddL E (n + 1)).length := ⟨_, rfl⟩
  rw [← hol] at hcm hof ⊢
  have H2 := hide (And.intro hcm (And.intro hB2 hol))
  clear hcm hown hB2 hol
  go_wp2_with fail
  refine H2.out.1.mono ?_
  rintro e w3 ⟨pv, rfl, hP, hB3⟩
  obtain ⟨A3, c3, rfl⟩ := hP.form
  have hpf := parts_few (oddL E (n + 1))
  rw [← H2.out.2.2] at hpf
  have hpfa := fun P (h : P ∈ partsF (oddL E (n + 1))) => part_facts h
  rw [← H2.out.2.2] at hpfa
  have hsl : SlS w w3 bs mb w2.heap.size n M E (.slice A3 (partsF (oddL E (n + 1))).length c3) (.slice none 0 0) (partsF (oddL E (n + 1))) 0 := by
    have hs := H1.out.2.2.1
    have hsm := hs.set.lt
    have hsb := hs.box.lt
    have hB1 := H1.out.2.1
    have hX := HX.out.2.lt
    have h12 := H2.out.2.1
    have b2 := (hs.below h12 hsb hsm).below hB3 (Nat.lt_of_lt_of_le hsb h12.size) (Nat.lt_of_lt_of_le hsm h12.size)
    have hx1 := (HX.out.2.below hB1 hX).below (h12.mono (Nat.le_refl _)) (Nat.lt_of_lt_of_le hX hB1.size)
    refine ⟨b2, hP, Own.nil, hx1.below hB3 (Nat.lt_of_lt_of_le hX (Nat.le_trans hB1.size h12.size)), ?_, ?_⟩
    · exact ((HX.out.1.trans (hB1.mono HX.out.1.size)).trans (h12.mono (Nat.le_trans HX.out.1.size hB1.size))).trans (hB3.mono (Nat.le_trans (Nat.le_trans HX.out.1.size hB1.size) h12.size))
    · have := h12.size
      have := H1.out.2.2.2.1
      have := H1.out.2.2.2.2
      exact ⟨by omega, by omega, by omega, by omega, hB3.size⟩
  obtain ⟨ps, hps⟩ : ∃ ps, ps = partsF (oddL E (n + 1)) := ⟨_, rfl⟩
  rw [← hps] at hsl hpf hpfa ⊢
  obtain ⟨K, hK⟩ : ∃ K, K = ps.length := ⟨_, rfl⟩
  rw [← hK] at hsl hpf ⊢
  have H3 := hide (And.intro hsl (And.intro hpfa (And.intro hps hK)))
  clear hP hB3 hsl hpfa hps hK
  go_wp2_with fail
  go_loopw [8, 29] (fun ov iv wr => ∃ (k cnt : Nat), k ≤ K ∧ iv = .int .i64 k ∧ cnt ≤ 100000 + k * 120000000 ∧ SlS w wr bs mb w2.heap.size n cnt (sealN n E (ps.take k)) (.slice A3 K c3) ov ps k) (fun _ iv _ => K - (intOf iv).toNat)
  case atStart => exact ⟨0, M, by omega, rfl, by omega, H3.out.1⟩
  case round =>
    obtain ⟨k, cnt, hk, rfl, hct, hS⟩ := hrel
    obtain ⟨V, rfl⟩ : ∃ V, V = wr := ⟨_, rfl⟩
    by_cases hkK : k < K
    · have i1 : (k : Int) < (K : Int) := by omega
      obtain ⟨P, hPk⟩ : ∃ P, ps[k]? = some P := ⟨_, List.getElem?_eq_getElem (by rw [← H3.out.2.2.2]; exact hkK)⟩
      obtain ⟨hPg, hPn, hPl⟩ := H3.out.2.1 P (List.mem_of_getElem? hPk)
      obtain ⟨ss, hos, hpp⟩ := hS.parts
      rw [← H3.out.2.2.2] at hos
      obtain ⟨PA, pc, hsk, hO⟩ := hpp k P hPk
      obtain ⟨pb0, cap0, hv0, hbc0, _⟩ := hO.at hPn
      injection hv0 with hPA hx1 hcap
      subst hPA
      subst hcap
      clear hx1
      obtain ⟨tb, oo, hA3, _, hcl⟩ := (hos.sl encS_len (Nat.le_refl _)).at hsk
      subst hA3
      have hcl := hcl 0 _ rfl
      rw [Nat.mul_one, Nat.add_zero] at hcl
      have hPs := hO.sl encF_len (Nat.le_refl _)
      have hlo := hS.lo
      have hPl4 : P.length ≤ 400000 := by omega
      have hpat := fun d (hd : d < 6) (W : World) (hW : Below V.heap.size V W) => patch7_any d hd bs mb n (some ⟨pb0, 0, none⟩) pc P W (hS.slr.box.below hW hS.slr.box.lt) ((hPs.below hW).more hW.size) hPg hn256 (by omega)
      have hall := fun d (hd : d < 6) => pat_all (n := n) hPg hd
      obtain ⟨f0, P', hP0⟩ : ∃ f0 P', P = f0 :: P' := by
        cases P with
        | nil => exact absurd rfl hPn
        | cons a b => exact ⟨a, b, rfl⟩
      have hP1 : P[0]? = some f0 := by rw [hP0]; rfl
      have hPh : P.headD (0, 0, 0, 0) = f0 := by rw [hP0]; rfl
      have hp0 : 0 < P.length := by rw [hP0]; simp
      obtain ⟨pl, hpl⟩ : ∃ x, x = P.length := ⟨_, rfl⟩
      rw [← hpl] at hpat hcl hPl4 hp0
      have HV := hide (And.intro hpat (And.intro hall (And.intro hS (And.intro hPk (And.intro hPs (And.intro hP1 (And.intro hPh hpl)))))))
      clear hpat hall hS hPk hPs hP0 hP1 hPh hpl hPg hPn hPl hos hpp hsk hO
      go_wp2_with fail
      clear hcl
      go_loopw [11, 33] (fun lv dv wr => ∃ (d : Nat) (qs : List Nat), d ≤ 6 ∧ dv = .int .i64 d ∧ Own encM 1 63 wr V.heap.size lv d qs ∧ (∀ j, j < d → ∃ pb kk, qs[j]? = some pb ∧ SetM wr pb kk (patE n j P) ∧ kk ≤ 300 * pl ∧ V.heap.size ≤ pb) ∧ Below V.heap.size V wr) (fun _ dv _ => 6 - (intOf dv).toNat)
      case atStart => exact ⟨0, [], by omega, rfl, Own.nil, fun j hj => by omega, Below.refl _ _⟩
      case round =>
        obtain ⟨d, qs, hd, rfl, hown, hsets, hB⟩ := hrel
        obtain ⟨W, rfl⟩ : ∃ W, W = wr := ⟨_, rfl⟩
        obtain ⟨lA, lc, rfl⟩ := hown.form
        by_cases hd6 : d < 6
        · have i2 : (d : Int) < 6 := by omega
          have HE := hide (And.intro hown (And.intro hsets hB))
          have hzW := hB.size
          clear hown hsets hB
          go_wp2_with fail
          refine (HV.out.1 d hd6 W HE.out.2.2).mono ?_
          rintro e w5 ⟨pb, kk, rfl, hsM, hkk, hpb, hB5⟩
          have hz5 := hB5.size
          have hown5 := (HE.out.1.below hB5 (Nat.le_refl _)).alloc (.cells #[.map (some pb)] 63)
          have hnew := (Below.refl w5.heap.size w5).alloc (Nat.le_refl _) (.cells #[.map (some pb)] 63)
          have HF := hide (And.intro hown5 (And.intro (hsM.below hnew hsM.lt) (And.intro hkk (And.intro hpb (And.intro hB5 hnew)))))
          clear hown5 hsM hkk hpb hB5 hnew
          go_wp2_with (at_builtin; refine wpList_append1 rfl _ _ _ rfl Try.underlying61 infoM7 rfl (by omega) encM_len encM_one rfl HF.out.1 w5.heap.size 1 pb rfl (Blk.new _ _ _) (by unfold maxLen; omega) (by omega) (by simp; omega) ?_; intro g9 cap9 w9 hown9 hg9 hB9 hat9 hgb9 hlt9)
          refine ⟨⟨d + 1, qs ++ [pb], by omega, by push_cast; rfl, hown9, fun j hj => ?_, ?_⟩, by simp [intOf]; omega⟩
          · by_cases hjd : j < d
            · obtain ⟨pb', kk', h1, h2, h3, h4⟩ := HE.out.2.1 j hjd
              have h5 := (h2.below HF.out.2.2.2.2.1 h2.lt).below HF.out.2.2.2.2.2 (Nat.lt_of_lt_of_le h2.lt hz5)
              refine ⟨pb', kk', ?_, h5.kept hg9 (set_own_ne h5 HF.out.1), h3, h4⟩
              rw [List.getElem?_append_left (by rw [← HE.out.1.1]; exact hjd)]
              exact h1
            · have hje : j = d := by omega
              subst hje
              refine ⟨pb, kk, ?_, HF.out.2.1.kept hg9 (set_own_ne HF.out.2.1 HF.out.1), HF.out.2.2.1, by have := HF.out.2.2.2.1; omega⟩
              rw [HE.out.1.1]
              simp
          · exact ((HE.out.2.2.trans (HF.out.2.2.2.2.1.mono hzW)).alloc (by omega) _).trans (hB9.mono (by omega))
        · have i2 : ¬ (d : Int) < 6 := by omega
          have hde : d = 6 := by omega
          subst hde
          have hle := least7_any n hn256 lA lc qs (fun d => patE n d P) W (hown.sl encM_len (Nat.le_refl _)) (fun d hd => by obtain ⟨pb, kk, h1, h2, _⟩ := hsets d hd; exact ⟨pb, kk, h1, h2, HV.out.2.1 d hd⟩)
          have HE := hide (And.intro hle (And.intro hsets hB))
          clear hle hsets hB hown hd hd6
          rw [show ((6 : Nat) : Int) = 6 from rfl] at *
          go_wp2_with fail
          refine HE.out.1.mono ?_
          rintro e w5 ⟨pb, q, hq, rfl, hw5⟩
          have hdb : bestN (fun d => cntE (n + 1) (patE n d P)) 5 = dirP n P := rfl
          rw [hdb] at hq ⊢
          have hd6 : dirP n P < 6 := by have := bestN_le (fun d => cntE (n + 1) (patE n d P)) 5; rw [hdb] at this; omega
          obtain ⟨pb', kk, h1, hsM, hkk, hpb⟩ := HE.out.2.1 _ hd6
          rw [hq] at h1
          cases h1
          have hBW5 : Below V.heap.size V w5 := by rw [hw5]; exact below_drewN HE.out.2.2 q
          have hsM5 : SetM w5 pb kk (patE n (dirP n P) P) := by rw [hw5]; exact hsM.below (below_drewN (Below.refl (W.heap.size + pb + 1) W) q) (by omega)
          have hall := HV.out.2.1 _ hd6
          have hcz : cntE (n + 1) (patE n (dirP n P) P) = sizD n P (dirP n P) := rfl
          have hpch : pchP n P = (f0, dirP n P, cntE (n + 1) (patE n (dirP n P) P)) := by unfold pchP; rw [HV.out.2.2.2.2.2.2.1]; rfl
          have hsn := sealN_snoc n E (ps.take k) P
          obtain ⟨dr, hdr⟩ : ∃ d, d = dirP n P := ⟨_, rfl⟩
          rw [← hdr] at hsM5 hall hpch hsn ⊢
          obtain ⟨T, hT⟩ : ∃ T, T = patE n dr P := ⟨_, rfl⟩
          rw [← hT] at hsM5 hall hpch hsn
          obtain ⟨w6, c0, hrun, hrg, hg6, hz6, hc0⟩ := MapK.range_le kfE7 (t := 63) (e := 4) (show MapK Try.prog 70 vF fitsF w5 pb kk (setV T) from hsM5) Try.underlying63
          have hS5 := HV.out.2.2.1.below hBW5
          have hpb5 := hsM5.lt
          have hpV := hpb
          have HF := hide (And.intro hrg (And.intro hg6 (And.intro hz6 (And.intro hc0 (And.intro hkk (And.intro hall (And.intro hpch (And.intro hsn (And.intro hS5 (And.intro hpb5 (And.intro hsM5 (And.intro hBW5 hpb))))))))))))
          clear hrg hg6 hz6 hc0 hkk hall hpch hsn hS5 hpb5 hsM5 hT hdr hcz hdb hd6 hsM hBW5 hq hw5 hpb
          go_wp2_with fail
          go_loopw [15] (fun _ wr => ∃ (left : EF → Bool) (c : Nat) (D : List EF) (cnt' : Nat), RngK Try.prog 70 vF fitsF wr pb w5.heap.size kk (setV T) left c ∧ SetM wr mb cnt' (togsE (sealN n E (ps.take k)) D) ∧ D.Nodup ∧ (∀ e, e ∈ D ↔ T e = true ∧ left e = false) ∧ cnt' ≤ cnt + D.length ∧ D.length + c ≤ c0 ∧ w5.grownBy wr (some mb)) (fun _ wr => wr.rangeLeft pb w5.heap.size)
          case atStart =>
            refine ⟨_, c0, [], cnt, HF.out.1, ?_, List.nodup_nil, fun e => ?_, by simp, by simp, ?_⟩
            · exact HF.out.2.2.2.2.2.2.2.2.1.slr.set.below (below_of_grown_none HF.out.2.1 (Nat.le_refl _)) HF.out.2.2.2.2.2.2.2.2.1.slr.set.lt
            · constructor
              · intro h; cases h
              · rintro ⟨h1, h2⟩
                unfold setV at h2
                rw [if_pos h1] at h2
                cases h2
            · exact ⟨HF.out.2.1.os, HF.out.2.1.tape, HF.out.2.1.output, HF.out.2.1.size, fun i hi _ => HF.out.2.1.block i hi (by simp)⟩
          case round =>
            obtain ⟨left, c, D, cnt', hrg, hM, hDn, hDm, hDc, hDl, hG⟩ := hrel
            obtain ⟨V7, rfl⟩ : ∃ V, V = wr := ⟨_, rfl⟩
            rcases hrg.next kfE7 0 with ⟨hc00, hdone, hrunN⟩ | ⟨e, v, w8, c', hok, hleft, hm, hrunN, hr8, hlt8, hg8, hz8, hent⟩
            · have hDT : ∀ x, x ∈ D ↔ T x = true := fun x => by
                rw [hDm]
                refine ⟨fun h => h.1, fun h => ⟨h, hdone x ?_⟩⟩
                have hx := allE_mem.1 (HF.out.2.2.2.2.2.1 x h)
                unfold fitsF fitsP fits
                omega
              have hS9 := HF.out.2.2.2.2.2.2.2.2.1.turn hM hG
              rw [togs_all hDn hDT] at hS9
              have hP9 : Sl encF 4 V7 w5.heap.size (some ⟨pb0, 0, none⟩) P := ((HV.out.2.2.2.2.1.below HF.out.2.2.2.2.2.2.2.2.2.2.2.1).more HF.out.2.2.2.2.2.2.2.2.2.2.2.1.size).grown hG (Nat.le_refl _) (fun e => by injection e with e; omega)
              obtain ⟨b', o', hbo, _, g0, g1, g2, g3⟩ := hP9.four HV.out.2.2.2.2.2.1
              injection hbo with hbo
              injection hbo with e1 e2 _
              subst e1 e2
              have hMp : SetM V7 pb kk T := hrg.map
              have hS0 : (fun W : World => (W.cell? ⟨pb0, 0, none⟩ = some (.int .i64 f0.1) ∧ W.cell? ⟨pb0, 1, none⟩ = some (.int .i64 f0.2.1) ∧ W.cell? ⟨pb0, 2, none⟩ = some (.int .i64 f0.2.2.1) ∧ W.cell? ⟨pb0, 3, none⟩ = some (.int .i64 f0.2.2.2)) ∧ SetM W pb kk T) V7.drew := ⟨⟨g0, g1, g2, g3⟩, hMp.below (Below.refl (V7.heap.size + pb + 1) V7).drew (by omega)⟩
              have hlen := hS0.2.len HF.out.2.2.2.2.2.1 hn256
              obtain ⟨cz, hcz⟩ : ∃ x, x = cntE (n + 1) T := ⟨_, rfl⟩
              have hpch := HF.out.2.2.2.2.2.2.1
              rw [← hcz] at hlen hpch
              have hp0' : (0 : Int) < (pl : Int) := by omega
              have hpz : ¬ pl = 0 := by omega
              have hDk : D.length ≤ 120000000 := by have := HF.out.2.2.2.1; have := HF.out.2.2.2.2.1; omega
              have hz7 := hS9.lo.2.2.2.2
              have hz57 := hG.size
              have HS0 := hide hS0
              have H9 := hide (And.intro hS9 (And.intro hpch (And.intro hDc hDk)))
              clear hrg hM hDn hDm hDc hDl hG hdone hDT hS9 hP9 g0 g1 g2 g3 hMp hS0 hcz hpch hDk hrun
              go_upto_region 19 with fail
              clear hrunN
              refine wp_region_mix (fun W => (W.cell? ⟨pb0, 0, none⟩ = some (.int .i64 f0.1) ∧ W.cell? ⟨pb0, 1, none⟩ = some (.int .i64 f0.2.1) ∧ W.cell? ⟨pb0, 2, none⟩ = some (.int .i64 f0.2.2.1) ∧ W.cell? ⟨pb0, 3, none⟩ = some (.int .i64 f0.2.2.2)) ∧ SetM W pb kk T) [0, 1, 2, 3, 4] [0, 1, 2, 3, 4, 5, 6, 7, 8, 9, 10] mixed_ok (by kernel_rfl) ?_
              refine wpMix_q (v := u8) rfl rfl (fun _ _ _ h => h) HS0.out ⟨rfl, fun _ h' => by simp [go_sem]⟩ ?_
              refine wpMix_q (v := .slice (some ⟨pb0, 0, none⟩) pl pc) rfl rfl (fun _ _ _ h => h) HS0.out ⟨rfl, fun _ h' => by simp [go_sem]⟩ ?_
              refine wpMix_q (v := .pointer (some ⟨pb0, 0, none⟩)) rfl rfl (fun _ _ _ h => h) HS0.out ⟨rfl, fun _ h' => by simp [go_sem, hpz]⟩ ?_
              refine wpMix_q (v := vF f0) rfl rfl (fun _ _ _ h => h) HS0.out ⟨rfl, fun _ h' => by obtain ⟨⟨a0, a1, a2, a3⟩, _⟩ := h'; simp [go_sem, a0, a1, a2, a3]⟩ ?_
              refine wpMix_q (v := .int .i64 dr) rfl rfl (fun _ _ _ h => h) HS0.out ⟨rfl, fun _ h' => by simp [go_sem]⟩ ?_
              simp only [List.getElem_toArray, List.getElem_cons_succ, List.getElem_cons_zero, Act.put, List.setIfInBounds_toArray, List.set_cons_succ, List.set_cons_zero]
              refine wpMix_n rfl rfl ?_
              go_wp2_with fail
              refine ⟨fun _ => HS0.out, ?_⟩
              refine wpMix_n rfl rfl ?_
              go_wp2_with fail
              refine ⟨fun _ => HS0.out, ?_⟩
              refine wpMix_n rfl rfl ?_
              go_wp2_with fail
              refine ⟨fun _ => HS0.out, ?_⟩
              refine wpMix_n rfl rfl ?_
              go_wp2_with fail
              have hBa : Below V7.heap.size V7 ((V7.alloc (.cells (encPch (f0, dr, cz)).toArray 47)).drew) := ((Below.refl _ V7).alloc (Nat.le_refl _) _).drew
              have hba : Blk ((V7.alloc (.cells (encPch (f0, dr, cz)).toArray 47)).drew) V7.heap.size 47 (encPch (f0, dr, cz)).toArray := (Blk.new V7 _ _).drew
              obtain ⟨X9, hX9⟩ : ∃ X, X = (V7.alloc (.cells (encPch (f0, dr, cz)).toArray 47)).drew := ⟨_, rfl⟩
              have hX9' : (V7.alloc (.cells #[.int .i64 f0.1, .int .i64 f0.2.1, .int .i64 f0.2.2.1, .int .i64 f0.2.2.2, .int .i64 dr, .int .i64 cz] 47)).drew = X9 := hX9.symm
              rw [← hX9] at hBa hba
              rw [hX9']
              have hS9 := H9.out.1.below hBa
              have hzX := hS9.lo.2.2.2.2
              have HX9 := hide (And.intro hBa (And.intro hba hS9))
              clear hX9 hX9' hBa hba hS9
              refine ⟨fun _ => ⟨?_, ?_⟩, ?_⟩
              · have h := HS0.out.1
                have hp : pb0 < V7.heap.size := by omega
                exact ⟨(HX9.out.1.cell (p := ⟨pb0, 0, none⟩) hp).trans h.1, (HX9.out.1.cell (p := ⟨pb0, 1, none⟩) hp).trans h.2.1, (HX9.out.1.cell (p := ⟨pb0, 2, none⟩) hp).trans h.2.2.1, (HX9.out.1.cell (p := ⟨pb0, 3, none⟩) hp).trans h.2.2.2⟩
              · exact HS0.out.2.below (w := V7.drew) (B := V7.heap.size) ⟨HX9.out.1.os, HX9.out.1.tape, HX9.out.1.output, HX9.out.1.size, HX9.out.1.block⟩ HS0.out.2.lt
              refine wpMix_n rfl rfl ?_
              refine wpList_append1 rfl _ _ _ rfl Try.underlying35 infoPch rfl (by omega) encPch_len encPch_one rfl HX9.out.2.2.out V7.heap.size 1 (f0, dr, cz) rfl HX9.out.2.1 (by unfold maxLen; omega) (by omega) hzX ?_
              intro g9 cap9 w9 hown9 hg9 hB9 hat9 hgb9 hlt9
              have hg9' : X9.grownBy w9 u8.ownBlock := hg9
              have hS9 := HX9.out.2.2
              have hlo9 := hS9.lo
              have hne : ∀ r, r < w2.heap.size → some r ≠ u8.ownBlock := fun r hr e => by have := (hS9.out.blk _ e.symm).1; omega
              have htk : ps.take (k + 1) = ps.take k ++ [P] := by rw [List.take_add_one, HV.out.2.2.2.1]; rfl
              have hS10 : SlS w w9 bs mb w2.heap.size n cnt' (sealN n E (ps.take (k + 1))) (.slice (some ⟨tb, oo, none⟩) K c3) (.slice (some ⟨g9, 0, none⟩) (k + 1) cap9) ps (k + 1) := by
                rw [htk, HF.out.2.2.2.2.2.2.2.1]
                refine ⟨⟨hS9.slr.box.grown hg9' (hne _ hlo9.2.2.1), hS9.slr.set.kept hg9' (hne _ hlo9.2.2.2.1)⟩, hS9.parts.apart hg9' (own_rowT hS9.out (by decide)) (own_rowT hS9.out (by decide)), ?_, hS9.box.grown hg9' (hne _ (by omega)), hS9.bel.grown hg9' hS9.bel.size (fun r hr => by have := (hS9.out.blk r hr).1; omega), hlo9.1, hlo9.2.1, hlo9.2.2.1, hlo9.2.2.2.1, Nat.le_trans hlo9.2.2.2.2 hg9'.size⟩
                rw [htk, List.map_append, List.map_singleton, H9.out.2.1]
                exact hown9
              have hcn : cnt' ≤ 100000 + (k + 1) * 120000000 := by have := H9.out.2.2.1; have := H9.out.2.2.2; omega
              have HN := hide (And.intro hS10 hcn)
              clear hown9 hg9 hB9 hat9 hg9' hS9 hlo9 hne htk hS10 hcn
              go_wp2_with fail
              refine ⟨fun h => absurd (h.symm.trans (show _ = false by kernel_rfl)) (by simp), ?_⟩
              refine wpMix_n rfl rfl ?_
              go_wp2_with fail
              refine ⟨fun h => absurd (h.symm.trans (show _ = false by kernel_rfl)) (by simp), ?_⟩
              refine wpMix_nil ?_
              go_wp2
              go_roundw
              case rel => exact ⟨k + 1, cnt', by omega, by go_num, HN.out.2, HN.out.1⟩
              case measure => simp [intOf]; omega
            · have hTe : T e = true := by
                cases h : T e with
                | true => rfl
                | false => unfold setV at hm; rw [h] at hm; cases hm
              have hv : v = .bool true := by unfold setV at hm; rw [if_pos hTe] at hm; cases hm; rfl
              subst hv
              have hS7 := HF.out.2.2.2.2.2.2.2.2.1.turn hM hG
              have hlo7 := hS7.lo
              have hpb5 := HF.out.2.2.2.2.2.2.2.2.2.1
              have hmb5 := HF.out.2.2.2.2.2.2.2.2.1.lo
              have hb8 := hS7.slr.box.grown hg8 (fun e => by injection e with e; omega)
              have hM8 := hM.kept hg8 (fun e => by injection e with e; omega)
              obtain ⟨Y, hY⟩ : ∃ Y, Y = w8.alloc (.cells #[.int .i64 e.1, .int .i64 e.2.1, .int .i64 e.2.2.1, .int .i64 e.2.2.2] 70) := ⟨_, rfl⟩
              have hBY : Below w8.heap.size w8 Y := by rw [hY]; exact (Below.refl _ w8).alloc (Nat.le_refl _) _
              have heY : Blk Y w8.heap.size 70 #[.int .i64 e.1, .int .i64 e.2.1, .int .i64 e.2.2.1, .int .i64 e.2.2.2] := by rw [hY]; exact Blk.new _ _ _
              have hbY := hb8.below hBY hb8.lt
              have hMY : SetM Y.drew mb cnt' (togsE (sealN n E (ps.take k)) D) := hM8.below hBY.drew hM8.lt
              have hrY := hr8.below hBY.drew (Nat.le_refl _)
              have hGY := ((grown_row hG hg8 (fun r hr => by injection hr with hr; omega)).trans (World.grownBy_alloc w8 (.cells #[.int .i64 e.1, .int .i64 e.2.1, .int .i64 e.2.2.1, .int .i64 e.2.2.2] 70) (some mb)))
              rw [← hY] at hGY
              have hml := hrg.left_eq
              have hcb : cnt' < maxLen := by have := HF.out.2.2.2.1; have := HF.out.2.2.2.2.1; unfold maxLen; omega
              have htg := toggle7_any mb cnt' (togsE (sealN n E (ps.take k)) D) e Y.drew hMY hok hcb
              obtain ⟨b0, b1⟩ : Y.cell? ⟨bs, 0, none⟩ = some (.int .i64 n) ∧ Y.cell? ⟨bs, 1, none⟩ = some (.map (some mb)) := ⟨hbY.cell 0, hbY.cell 1⟩
              obtain ⟨a0, a1, a2, a3⟩ := heY.four
              have HT := hide (And.intro htg (And.intro hrY (And.intro hGY (And.intro hml (And.intro hDn (And.intro hDm (And.intro hDc (And.intro hDl (And.intro hleft (And.intro hTe (And.intro hlt8 (And.intro hpb5 (And.intro hmb5 hok)))))))))))))
              clear htg hrY hGY hml hDn hDm hDc hDl hleft hTe hrg hM hG hS7 hlo7 hb8 hM8 hBY heY hbY hMY hr8 hlt8 hg8 hz8 hm hrun hcb hpb5 hmb5 hok
              go_upto_region 18 with fail
              rw [← hY]
              clear hY hrunN hent
              go_still_tail 5, (by kernel_rfl)
              change wpList _ _ _ _ _ Y.drew
              go_wp2_with fail
              refine HT.out.1.mono ?_
              rintro r w9 ⟨rfl, hM9, hg9⟩
              have hr9 := HT.out.2.1.kept hg9 (fun e => by injection e with e; have := HT.out.2.2.2.2.2.2.2.2.2.2.2.2.1.2.2.2.1; omega) (fun e => by injection e with e; have := HT.out.2.2.2.2.2.2.2.2.2.2.2.2.1.2.2.2; omega)
              have hG9 := HT.out.2.2.1.trans (show Y.grownBy w9 (some mb) from ⟨hg9.os, hg9.tape, hg9.output, hg9.size, hg9.block⟩)
              have HN := hide (And.intro hM9 (And.intro hr9 hG9))
              clear hM9 hr9 hG9 hg9
              go_wp2
              go_roundw
              case rel =>
                refine ⟨_, c', D ++ [e], cnt' + 1, HN.out.2.1, ?_, ?_, fun x => ?_, ?_, ?_, HN.out.2.2⟩
                · rw [togsE_append]; exact HN.out.1
                · refine List.nodup_append.2 ⟨HT.out.2.2.2.2.1, by simp, fun a ha b hb => ?_⟩
                  rw [List.mem_singleton.1 hb]
                  rintro rfl
                  have := ((HT.out.2.2.2.2.2.1 a).1 ha).2
                  rw [HT.out.2.2.2.2.2.2.2.2.1] at this
                  cases this
                · rw [List.mem_append, List.mem_singleton, HT.out.2.2.2.2.2.1 x]
                  by_cases hx : x = e
                  · subst hx
                    simp [HT.out.2.2.2.2.2.2.2.2.2.1]
                  · simp [hx]
                · rw [List.length_append, List.length_singleton]; have := HT.out.2.2.2.2.2.2.1; omega
                · rw [List.length_append, List.length_singleton]; have := HT.out.2.2.2.2.2.2.2.1; have := HT.out.2.2.2.2.2.2.2.2.2.2.1; omega
              case measure => rw [HN.out.2.1.left_eq, HT.out.2.2.2.1]; exact HT.out.2.2.2.2.2.2.2.2.2.2.1
    · have i1 : ¬ (k : Int) < (K : Int) := by omega
      have hke : k = K := by omega
      subst hke
      rw [show ps.take k = ps by rw [H3.out.2.2.2, List.take_length]] at hS
      have hins := inside7_any bs mb n cnt (sealN n E ps) V hn1 hn256 hS.slr
      rw [← Hm.out] at hins
      have HE := hide (And.intro hins hS)
      clear hins hS hct hk hkK
      go_wp2_with fail
      refine HE.out.1.mono ?_
      rintro e w4 ⟨gi, rfl, hrow, hgi, hB4⟩
      have hS4 := HE.out.2.below hB4
      have hfl : strL (sealN n E ps) n m m = fldP n l := by
        have h := strL_end (E := endE n l) (n := n) (fun x y z hx hy hz => end_ways n l hx hy hz)
        rw [← Hm.out] at h
        have h2 : endE n l = sealN n E ps := by unfold endE oddP; rw [← H0.out.2.2.2.1, H3.out.2.2.1]
        rw [h2] at h
        rw [h]
        unfold fldP
        rw [h2, ← Hm.out]
      have hpc : ps.map (pchP n) = pchsP n l := by unfold pchsP oddP; rw [← H0.out.2.2.2.1, H3.out.2.2.1]
      have hkl : k = (pchsP n l).length := by rw [← hpc, List.length_map]; exact H3.out.2.2.2
      have hout := hS4.out
      rw [show ps.take k = ps by rw [H3.out.2.2.2, List.take_length], hpc] at hout
      rw [hfl] at hrow
      have z0 := hS4.box.frozen 0
      have z1 := hS4.box.frozen 1
      obtain ⟨y0, y1⟩ : w4.cell? ⟨w.heap.size, 0, none⟩ = some (.int .i64 0) ∧ w4.cell? ⟨w.heap.size, 1, none⟩ = some (.slice none 0 0) := ⟨hS4.box.cell 0, hS4.box.cell 1⟩
      have hwV := HE.out.2.bel.size
      have hlo := hS4.lo
      have hwl : w.heap.size < V.heap.size := HE.out.2.box.lt
      have HF := hide (And.intro hrow (And.intro hout (And.intro hS4 (And.intro hkl (And.intro hlo (And.intro hgi (And.intro hwl hwV)))))))
      clear hrow hout hS4 hfl hpc hkl hB4 hlo hgi hwl hwV
      go_wp2
      refine ret_at (v := .tuple #[.agg #[.int .i64 L, .slice (some ⟨gi, 0, none⟩) m m], u8]) (fun W => Blk W w.heap.size 32 #[.int .i64 L, .slice (some ⟨gi, 0, none⟩) m m]) ?_ (fun W h => ?_) rfl ⟨gi, u8, rfl, ?_, ?_, ?_, ?_⟩
      · exact ((HF.out.2.2.1.box.set_ 0 _).set_ 1 _)
      · have a0 := h.cell 0
        have a1 := h.cell 1
        simp at a0 a1
        simp [results, Try.results17, go_sem, a0, a1]
      · have := HF.out.2.2.2.2.2.1
        have := HF.out.2.2.2.2.2.2.1
        exact Blk.far (Blk.far HF.out.1 (by dsimp only; omega) _) (by dsimp only; omega) _
      · have := HF.out.2.2.2.2.2.1
        have := HF.out.2.2.2.2.2.2.2
        omega
      · rw [← HF.out.2.2.2.1]
        have hlt := HF.out.2.2.2.2.1
        have h1 := (HF.out.2.1.step (grown_set7 w4 w.heap.size 0 (.int .i64 L)) (fun r hr => .inl (by injection hr with hr; omega))).step (grown_set7 _ w.heap.size 1 (.slice (some ⟨gi, 0, none⟩) m m)) (fun r hr => .inl (by injection hr with hr; omega))
        exact h1.base_le (by omega)
      · exact (HF.out.2.2.1.bel.setCell (Nat.le_refl _) _).setCell (Nat.le_refl _) _
end Go.Proofs.Ytdpgohpbannfnaa
