/- ClusterLocal: the closure and the walk. -/
import Derived.Deep.RegionHeld3
import Derived.IntWalk
import Derived.Test.YtgndbpkgehjelaaCB2
import Derived.Test.YtgndbpkgehjelaaCB26
import Derived.Test.YtgndbpkgehjelaaCSplits
import Derived.Test.YtgndbpkgehjelaaCFinestW
import Derived.Test.YtgndbpkgehjelaaCWeak
import Derived.Test.YtgndbpkgehjelaaCMapK
namespace Go.Proofs.Ytgndbpkgehjelaa
open Go.RowKit Go.Sort
theorem kfPt : KeyFit Try.prog 23 vP fitsP := ⟨keyedPt, key_some, fun _ _ => vP_inj⟩
theorem untouched_snoc (b : Int) (touched : Pt → Bool) (ps : List (List Tri)) (k : Nat) (p : List Tri) (h : ps[k]? = some p) : untouchedT b touched (ps.take (k + 1)) = untouchedT b touched (ps.take k) ++ if decide (0 < p.length) && !touched (blockP (p.take 1) b false) then [p] else [] := by
  unfold untouchedT
  rw [List.take_add_one, h, Option.toList_some, List.filter_append]
  congr 1
  cases hp : (decide (0 < p.length) && !touched (blockP (p.take 1) b false)) <;> simp [hp]
/-- What has been collected. -/
def Coll (w : World) (base : Nat) (wr : World) (v : Value) (us : List (List Tri)) : Prop :=
  ∃ hs : List Hdr, Own encS 1 27 wr base v us.length hs ∧ ∀ (i : Nat) (p : List Tri), us[i]? = some p → ∃ A' c', hs[i]? = some (A', p.length, c') ∧ Sl encT 9 w w.heap.size A' p
theorem Coll.snoc {w wr : World} {base : Nat} {v : Value} {us : List (List Tri)} {hs : List Hdr} {p : List Tri} {A' : Option Addr} {c' : Nat} (ho : Own encS 1 27 wr base v (us.length + 1) (hs ++ [(A', p.length, c')])) (hl : us.length = hs.length)
    (hc : ∀ (i : Nat) (p : List Tri), us[i]? = some p → ∃ A' c', hs[i]? = some (A', p.length, c') ∧ Sl encT 9 w w.heap.size A' p) (hp : Sl encT 9 w w.heap.size A' p) : Coll w base wr v (us ++ [p]) := by
  refine ⟨hs ++ [(A', p.length, c')], by rw [List.length_append]; exact ho, fun i q hi => ?_⟩
  by_cases hlt : i < us.length
  · rw [List.getElem?_append_left hlt] at hi
    obtain ⟨A2, c2, h1, h2⟩ := hc i q hi
    exact ⟨A2, c2, by rw [List.getElem?_append_left (by omega)]; exact h1, h2⟩
  · have hi2 : i = us.length := by
      have := (List.getElem?_eq_some_iff.1 hi).1
      simp at this; omega
    subst hi2
    simp at hi
    subst hi
    exact ⟨A', c', by rw [hl]; simp, hp⟩
set_option maxRecDepth 100000 in
set_option maxHeartbeats 16000000 in
theorem local1_any (A : Option Addr) (c : Nat) (ps : List (List Tri)) (b : Int) (touched : Pt → Bool) (m : Pt → Option Value) (bm bb mb n base : Nat) (w : World) (hs : Pcs encT 9 26 27 w base (.slice A ps.length c) ps)
    (hl : ps.length ≤ 1048576) (hp : ∀ p ∈ ps, 0 < p.length ∧ p.length ≤ 4294967296 ∧ ∀ t ∈ p, fitsT t)
    (hcm : w.cell? ⟨bm, 0, none⟩ = some (.map (some mb))) (hcb : w.cell? ⟨bb, 0, none⟩ = some (.int .i64 b)) (hbm : bm < w.heap.size) (hbb : bb < w.heap.size)
    (hm : MapK Try.prog 23 vP fitsP w mb n m) (hmt : ∀ q, (m q).getD (.bool false) = .bool (touched q)) :
    Calls Try.prog 28 #[.slice A ps.length c, .pointer (some ⟨bm, 0, none⟩), .pointer (some ⟨bb, 0, none⟩)] w fun e w' => ∃ A' c', e = .returned (.slice A' (untouchedT b touched ps).length c') ∧ LstE encT 9 w' w'.heap.size A' (untouchedT b touched ps) ∧ Below w.heap.size w w' := by
  obtain ⟨ss, hss, hpp⟩ := hs
  have H := hide (And.intro hss (And.intro hpp (And.intro hp (And.intro hm hmt))))
  clear hss hpp hp hm hmt
  go_enter Try.func28, Try.ntmps28
  go_wp2
  go_loopw [5, 10] (fun v i wr => ∃ k : Nat, k ≤ ps.length ∧ i = .int .i64 k ∧ Coll w w.heap.size wr v (untouchedT b touched (ps.take k)) ∧ Below w.heap.size w wr) (fun _ i _ => ps.length - (intOf i).toNat)
  case atStart => exact ⟨0, by omega, rfl, ⟨[], Own.nil, fun i p h => by simp [untouchedT] at h⟩, Below.refl _ w⟩
  case round =>
    obtain ⟨k, hk, rfl, ⟨hs, hoc, hcc⟩, hB⟩ := hrel
    have hszB := hB.size
    have hUk : (untouchedT b touched (ps.take k)).length ≤ k := Nat.le_trans (List.length_filter_le _ _) (List.length_take_le _ _)
    obtain ⟨U, hU⟩ : ∃ U, U = untouchedT b touched (ps.take k) := ⟨_, rfl⟩
    rw [← hU] at hoc hcc hUk
    obtain ⟨Av, cv, rfl⟩ := hoc.form
    have hUl := hoc.1
    by_cases hlt : k < ps.length
    · obtain ⟨p, hpk⟩ : ∃ p, ps[k]? = some p := ⟨_, List.getElem?_eq_getElem hlt⟩
      obtain ⟨A', c', hsk, hop⟩ := H.out.2.1 k p hpk
      obtain ⟨hpos, hple, hpf⟩ := H.out.2.2.1 p (List.mem_of_getElem? hpk)
      have hcap := hop.place.1
      have hslw : Sl encT 9 w w.heap.size A' p := hop.sl encT_len (Nat.le_refl _)
      obtain ⟨b3, o3, hA3, _, hc0⟩ := ((H.out.1.below hB (Nat.le_refl _)).sl encS_len (Nat.le_refl wr.heap.size)).at hsk
      subst hA3
      have h0 := hc0 0 _ rfl
      rw [Nat.mul_one, Nat.add_zero] at h0
      have r1 : ∀ V : World, (Instr.slice 27 (.slice A' p.length c') none (some (.int .i64 1)) none).run Try.prog V = .ok (.slice A' 1 c') V := fun V => run_cutH (i := 1) Try.underlying27 Try.sizeOf26 hpos hcap V
      have hl1 : (p.take 1).length = 1 := by rw [List.length_take]; omega
      have hcal := Block_any A' c' (p.take 1) b false wr.drew (((hslw.below hB).more hszB).take 1) (by rw [hl1]; unfold maxLen; omega) (fitsP_anc (fun t ht => hpf t (List.mem_of_mem_take ht)))
      rw [hl1] at hcal
      have hfq0 := fitsP_block (ts := p.take 1) (fun t ht => hpf t (List.mem_of_mem_take ht)) b false
      have hsn := untouched_snoc b touched ps k p hpk
      rw [← hU, decide_eq_true hpos, Bool.true_and] at hsn
      obtain ⟨q, hq⟩ : ∃ q, q = blockP (p.take 1) b false := ⟨_, rfl⟩
      rw [← hq] at hcal hfq0 hsn
      obtain ⟨tq, htq⟩ : ∃ tq, tq = touched q := ⟨_, rfl⟩
      rw [← htq] at hsn
      have i1 : (k : Int) < (ps.length : Int) := by omega
      have d1 : decide (0 < p.length) = true := decide_eq_true hpos
      have hlook : ∀ W, Below w.heap.size w W → (Instr.lookup 49 (.map (some mb)) (vP q) false).run Try.prog W = .ok (.bool tq) W := fun W hW => by
        rw [(H.out.2.2.2.1.below hW H.out.2.2.2.1.lt).lookup kfPt Try.underlying49 (z := .bool false) rfl q hfq0, H.out.2.2.2.2 q, ← htq]
      have c1 : wr.cell? ⟨bm, 0, none⟩ = some (.map (some mb)) := (hB.cell (p := ⟨bm, 0, none⟩) hbm).trans hcm
      have c2 : wr.cell? ⟨bb, 0, none⟩ = some (.int .i64 b) := (hB.cell (p := ⟨bb, 0, none⟩) hbb).trans hcb
      have hlk0 := hlook wr.drew (below_drewN hB 1)
      have hS : ∀ W, Below wr.heap.size wr.drew W → W.cell? ⟨bm, 0, none⟩ = some (.map (some mb)) ∧ W.cell? ⟨bb, 0, none⟩ = some (.int .i64 b) ∧ (Instr.lookup 49 (.map (some mb)) (vP q) false).run Try.prog W = .ok (.bool tq) W := fun W hW =>
        ⟨(hW.cell (p := ⟨bm, 0, none⟩) (by simp; omega)).trans c1, (hW.cell (p := ⟨bb, 0, none⟩) (by simp; omega)).trans c2, hlook W ((below_drewN hB 1).trans (hW.mono hszB))⟩
      have HR := hide (And.intro hcal (And.intro hS (And.intro (And.intro hoc (And.intro hcc hUl)) (And.intro hB (And.intro hslw hsn)))))
      have HQ := hide (And.intro hq htq)
      clear hcal hS hoc hcc hUl hB hslw hsn hq htq hlook hop hpf hfq0 hsk hc0 hpk hl1 hU
      cases tq
      · go_wp2_with fail
        go_region_held3 (fun W => W.cell? ⟨bm, 0, none⟩ = some (.map (some mb)) ∧ W.cell? ⟨bb, 0, none⟩ = some (.int .i64 b) ∧ (Instr.lookup 49 (.map (some mb)) (vP q) false).run Try.prog W = .ok (.bool false) W) (first | go_keep | exact HR.out.2.1 _ hB') (first | (go_at_call 14; (with_reducible refine HR.out.1.mono ?_); rintro e wB ⟨rfl, hB'⟩))
        have hBB : Below wr.heap.size wr wB := (below_drewN (Below.refl _ wr) 1).trans hB'
        have hzB := hBB.size
        have HO := hide (And.intro (((HR.out.2.2.1.1.below hBB (Nat.le_refl _)).alloc (.cells #[.slice A' p.length c'] 27))) hBB)
        clear hB' hBB c1 c2 hlk0 r1 h0
        go_wp2_with (at_builtin; refine wpList_append1 rfl _ _ _ rfl Try.underlying28 info27 rfl (by omega) encS_len encS_one rfl HO.out.1 wB.heap.size 1 (A', p.length, c') rfl (Blk.new _ _ _) (by unfold maxLen; omega) (by omega) (by simp; omega) ?_; intro g cap w5 hown5 hg5 hB5 hat5 hgb5 hlt5)
        go_roundw
        case rel =>
          refine ⟨k + 1, by omega, by go_num, ?_, ?_⟩
          · rw [HR.out.2.2.2.2.2]
            exact Coll.snoc hown5 HR.out.2.2.1.2.2 HR.out.2.2.1.2.1 HR.out.2.2.2.2.1
          · exact ((HR.out.2.2.2.1.trans (HO.out.2.mono hszB)).alloc (by omega) _).trans hB5
        case measure => simp [intOf]; omega
      · go_wp2_with fail
        go_region_held3 (fun W => W.cell? ⟨bm, 0, none⟩ = some (.map (some mb)) ∧ W.cell? ⟨bb, 0, none⟩ = some (.int .i64 b) ∧ (Instr.lookup 49 (.map (some mb)) (vP q) false).run Try.prog W = .ok (.bool true) W) (first | go_keep | exact HR.out.2.1 _ hB') (first | (go_at_call 14; (with_reducible refine HR.out.1.mono ?_); rintro e wB ⟨rfl, hB'⟩))
        have hBB : Below wr.heap.size wr wB := (below_drewN (Below.refl _ wr) 1).trans hB'
        have HO := hide (And.intro (HR.out.2.2.1.1.below hBB (Nat.le_refl _)) hBB)
        clear hB' hBB c1 c2 hlk0 r1 h0
        go_wp2
        go_roundw
        case rel =>
          refine ⟨k + 1, by omega, by go_num, ?_, ?_⟩
          · rw [HR.out.2.2.2.2.2]
            exact ⟨hs, by simpa using HO.out.1, by simpa using HR.out.2.2.1.2.1⟩
          · exact HR.out.2.2.2.1.trans (HO.out.2.mono hszB)
        case measure => simp [intOf]; omega
    · have hke : k = ps.length := by omega
      subst hke
      rw [List.take_length] at hU
      have hlst : LstE encT 9 wr wr.heap.size Av U := ⟨hs, hUl.symm, hoc.sl encS_len (Nat.le_refl _), fun i p hi => by
        obtain ⟨A2, c2, h1, h2⟩ := hcc i p hi
        exact ⟨A2, c2, h1, (h2.below hB).more hszB⟩⟩
      have HE := hide (And.intro hlst (And.intro hB hU))
      clear hlst hB hU hoc hcc hUl hUk
      go_wp2
      go_ret
      exact ⟨Av, cv, by rw [← HE.out.2.2]; rfl, by rw [← HE.out.2.2]; exact HE.out.1, HE.out.2.1⟩
theorem finestT_factsN {b most : Int} {ts : List Tri} (n : Nat) (hl : ts.length ≤ n) (hf : ∀ t ∈ ts, fitsT t) : (finestT b most ts).length ≤ n * n ∧ (∀ p ∈ finestT b most ts, p.length ≤ n) ∧ ∀ p ∈ finestT b most ts, ∀ t ∈ p, fitsT t := by
  rw [← finest_groups]
  have hg : ∀ g ∈ groupsO ltP (keyF b) ts, (∀ t ∈ g, fitsT t) ∧ g.length ≤ n := fun g hg => by
    have := groupsO_mem hg
    exact ⟨fun t ht => hf t (this.1 t ht), by omega⟩
  refine ⟨?_, fun p hp => ?_, fun p hp => ?_⟩
  · have h1 := sum_le_mem (fun q => splitT most q) n (groupsO ltP (keyF b) ts) (fun q hq => by
      have := splitT_length most q
      have := (hg q hq).2
      omega)
    have h2 : (groupsO ltP (keyF b) ts).length ≤ n := by
      rw [groupsO_length]
      have := keysO_length (lt := ltP) (key := keyF b) (xs := ts)
      omega
    exact Nat.le_trans h1 (Nat.mul_le_mul_right _ h2)
  · obtain ⟨g, hgm, hp⟩ := List.mem_flatMap.1 hp
    have := (splitT_mem hp).2
    have := (hg g hgm).2
    omega
  · obtain ⟨g, hgm, hp⟩ := List.mem_flatMap.1 hp
    exact fits_split (hg g hgm).1 hp
theorem finest_ne {b most : Int} {ts : List Tri} {x : List Tri} (hx : x ∈ finestT b most ts) : 0 < x.length := by
  obtain ⟨p, hp, hx⟩ := List.mem_flatMap.1 hx
  exact List.length_pos_iff.2 (piece_key hx).2
/-- Whether a block holds one of the new triangles. -/
def touchedL (b : Int) (us : List Tri) (p : Pt) : Bool := us.any fun x => decide (keyF b x = p)
theorem touchedL_iff (b : Int) (us : List Tri) (p : Pt) : touchedL b us p = true ↔ ∃ x ∈ us, keyF b x = p := by simp [touchedL]
def touchedM (b : Int) (us : List Tri) (p : Pt) : Option Value := if touchedL b us p then some (.bool true) else none
theorem touchedM_get (b : Int) (us : List Tri) (p : Pt) : (touchedM b us p).getD (.bool false) = .bool (touchedL b us p) := by
  unfold touchedM
  cases touchedL b us p <;> rfl
theorem touchedM_snoc (b : Int) (us : List Tri) (k : Nat) (s : Tri) (h : us[k]? = some s) (p : Pt) : (if p = keyF b s then some (Value.bool true) else touchedM b (us.take k) p) = touchedM b (us.take (k + 1)) p := by
  have ht : us.take (k + 1) = us.take k ++ [s] := by rw [List.take_add_one, h]; rfl
  unfold touchedM
  rw [ht]
  by_cases hp : p = keyF b s
  · rw [if_pos hp, if_pos (by simp [touchedL, hp])]
  · rw [if_neg hp]
    have : touchedL b (us.take k ++ [s]) p = touchedL b (us.take k) p := by
      simp only [touchedL, List.any_append, List.any_cons, List.any_nil, Bool.or_false]
      rw [decide_eq_false (fun e => hp e.symm), Bool.or_false]
    rw [this]
set_option maxRecDepth 100000 in
set_option maxHeartbeats 16000000 in
theorem local_walk (A : Option Addr) (c : Nat) (ns : List Tri) (B : Option Addr) (d : Nat) (ms : List Tri) (n : Nat) (w : World) (hs : ns ≠ [] → Sl encT 9 w w.heap.size A ns) (hl : ns.length ≤ 9223372036854775807)
    (hcs : ms ≠ [] → Sl encT 9 w w.heap.size B ms) (hcl : ms.length ≤ 9223372036854775807) (hn : n < 256) :
    Calls Try.prog 8 #[.slice A ns.length c, .slice B ms.length d, .int .u8 n] w fun e w' => e = .returned (.bool true) ∧ Below w.heap.size w w' := by
  have hmm := @run_makeMap Try.prog
  have H := hide (And.intro hs hcs)
  clear hs hcs
  obtain ⟨b9, hb9⟩ : ∃ b9 : Int, b9 = (n : Int) % 9 := ⟨_, rfl⟩
  have hb9' : (n : Int) % 9 = b9 := hb9.symm
  have HB9 := hide hb9
  have hb98 : 0 ≤ b9 ∧ b9 ≤ 8 := by omega
  clear hb9
  go_enter Try.func8, Try.ntmps8
  go_wp2_with fail
  refine (sanity_any _).mono ?_
  rintro e w1 ⟨rfl, hB1⟩
  have H1 := hide hB1
  clear hB1
  go_wp2_with fail
  with_reducible refine (soup_any A c ns w1 (fun hne => ((H.out.1 hne).below H1.out).more H1.out.size) hl).mono ?_
  rintro e w2 ⟨u2, rfl, hown2, hB2⟩
  have H2 := hide (H1.out.trans (hB2.mono H1.out.size))
  have HO := hide hown2
  clear hB2 hown2
  go_wp2_with fail
  with_reducible refine (soup_any B d ms w2 (fun hne => ((H.out.2 hne).below H2.out).more H2.out.size) hcl).mono ?_
  rintro e w3 ⟨u3, rfl, hown3, hB3⟩
  have hown2 := HO.out.below hB3 (Nat.le_refl _)
  have hft := fits_soup ns
  have hTl := soupL_length ns
  have hfu := fits_soup ms
  have hUl := soupL_length ms
  obtain ⟨T, hT⟩ : ∃ T, T = soupL ns := ⟨_, rfl⟩
  rw [← hT] at hown2 hft hTl
  obtain ⟨U, hU⟩ : ∃ U, U = soupL ms := ⟨_, rfl⟩
  rw [← hU] at hown3 hfu hUl
  obtain ⟨A2, c2, rfl⟩ := hown2.form
  obtain ⟨A3, c3, rfl⟩ := hown3.form
  have H3 := hide (And.intro (hown2.sl encT_len (Nat.le_refl _)) (And.intro (hown3.sl encT_len (Nat.le_refl _)) (And.intro hft (And.intro hfu (H2.out.trans (hB3.mono H2.out.size))))))
  clear hft hfu hB3 hown2 hown3 hT hU HO
  obtain ⟨V, hV⟩ : ∃ V, V = ((w3.alloc (.cells #[.int .i64 b9] 3)).alloc (.map #[] 0)).alloc (.cells #[.map (some (w3.heap.size + 1))] 49) := ⟨_, rfl⟩
  have hVB : Below w3.heap.size w3 V := by rw [hV]; exact (((Below.refl _ w3).alloc (Nat.le_refl _) _).alloc (by simp) _).alloc (by simp; omega) _
  have hVb : Blk V w3.heap.size 3 #[.int .i64 b9] := by rw [hV]; exact ((Blk.new _ _ _).alloc _).alloc _
  have hVm : Blk V (w3.heap.size + 2) 49 #[.map (some (w3.heap.size + 1))] := by rw [hV]; exact Blk.new' _ _ _ _ (by simp)
  have hVk : MapK Try.prog 23 vP fitsP V (w3.heap.size + 1) 0 (fun _ => none) := by
    rw [hV]
    have h0 := MapK.made Try.prog 23 vP fitsP (w3.alloc (.cells #[.int .i64 b9] 3))
    rw [World.size_alloc] at h0
    exact h0.kept (World.grownBy_alloc _ _ none) (by simp)
  have HV := hide (And.intro hVb (And.intro hVm (And.intro hVk hVB)))
  have HVe := hide hV
  clear hVb hVm hVk hVB hV
  go_wp2
  clear hmm
  rw [← HVe.out, hb9']
  go_loopw [28] (fun i wr => ∃ k : Nat, k ≤ U.length ∧ i = .int .i64 k ∧ Blk wr w3.heap.size 3 #[.int .i64 b9] ∧ Blk wr (w3.heap.size + 2) 49 #[.map (some (w3.heap.size + 1))] ∧ MapK Try.prog 23 vP fitsP wr (w3.heap.size + 1) k (touchedM b9 (U.take k)) ∧ Below w3.heap.size w3 wr) (fun i _ => U.length - (intOf i).toNat)
  case atStart => exact ⟨0, by omega, rfl, HV.out.1, HV.out.2.1, HV.out.2.2.1.same (fun p => by simp [touchedM, touchedL]), HV.out.2.2.2⟩
  case round =>
    obtain ⟨k, hk, rfl, hbb, hbm, hmk, hB⟩ := hrel
    by_cases hlt : k < U.length
    · obtain ⟨s, hsk⟩ : ∃ s, U[k]? = some s := ⟨_, List.getElem?_eq_getElem hlt⟩
      have hfs := H3.out.2.2.2.1 s (List.mem_of_getElem? hsk)
      obtain ⟨bt, ot, hA, hbt, g0, g1, g2, g3, g4, g5, g6, g7, g8⟩ := (H3.out.2.1.below hB).tri hsk
      subst hA
      have i1 : (k : Int) < (U.length : Int) := by omega
      have hzB := hB.size
      have hzm := hbm.lt
      obtain ⟨R, hRe⟩ : ∃ R, R = wr := ⟨_, rfl⟩
      rw [← hRe] at hbb hbm hmk hB g0 g1 g2 g3 g4 g5 g6 g7 g8 hzB hzm
      obtain ⟨X0, hX0⟩ : ∃ X0, X0 = R.alloc (.cells #[.int .i64 s.1.1, .int .i64 s.1.2.1, .int .i64 s.1.2.2, .int .i64 s.2.1.1, .int .i64 s.2.1.2.1, .int .i64 s.2.1.2.2, .int .i64 s.2.2.1, .int .i64 s.2.2.2.1, .int .i64 s.2.2.2.2] 26) := ⟨_, rfl⟩
      have hbT : Blk X0 R.heap.size 26 (encT s).toArray := by rw [hX0]; exact Blk.new _ _ _
      have hBX : Below R.heap.size R X0 := by rw [hX0]; exact (Below.refl _ R).alloc (Nat.le_refl _) _
      have hzX : X0.heap.size = R.heap.size + 1 := by rw [hX0]; simp
      have hbbX := hbb.below hBX (by omega)
      have hbmX := hbm.below hBX (by omega)
      have hmkX := hmk.below hBX hmk.lt
      obtain ⟨q, hq⟩ : ∃ q, q = keyF b9 s := ⟨_, rfl⟩
      have hfq : fitsP q := by rw [hq]; exact fitsP_block (fun t ht => by simp at ht; subst ht; exact hfs) _ _
      have hcal : Calls Try.prog 14 #[.slice (some ⟨R.heap.size + 1, 0, none⟩) 1 1, .int .i64 b9, .bool false] (X0.alloc (.cells #[.int .i64 s.1.1, .int .i64 s.1.2.1, .int .i64 s.1.2.2, .int .i64 s.2.1.1, .int .i64 s.2.1.2.1, .int .i64 s.2.1.2.2, .int .i64 s.2.2.1, .int .i64 s.2.2.2.1, .int .i64 s.2.2.2.2] 26)).drew fun e w' => e = .returned (vP q) ∧ Below (X0.alloc (.cells #[.int .i64 s.1.1, .int .i64 s.1.2.1, .int .i64 s.1.2.2, .int .i64 s.2.1.1, .int .i64 s.2.1.2.1, .int .i64 s.2.1.2.2, .int .i64 s.2.2.1, .int .i64 s.2.2.2.1, .int .i64 s.2.2.2.2] 26)).drew.heap.size (X0.alloc (.cells #[.int .i64 s.1.1, .int .i64 s.1.2.1, .int .i64 s.1.2.2, .int .i64 s.2.1.1, .int .i64 s.2.1.2.1, .int .i64 s.2.1.2.2, .int .i64 s.2.2.1, .int .i64 s.2.2.2.1, .int .i64 s.2.2.2.2] 26)).drew w' := by
        rw [hq]
        exact Block_any _ _ [s] b9 false _ (Sl.one (Blk.new' _ _ _ _ hzX.symm).drew (by simp [World.drew]; omega)) (by unfold maxLen; simp) (fitsP_anc (fun u hu => by simp at hu; subst hu; exact hfs))
      have e0 := hbT.cell 0
      have e1 := hbT.cell 1
      have e2 := hbT.cell 2
      have e3 := hbT.cell 3
      have e4 := hbT.cell 4
      have e5 := hbT.cell 5
      have e6 := hbT.cell 6
      have e7 := hbT.cell 7
      have e8 := hbT.cell 8
      have x0 := hbbX.cell 0
      have y0 := hbmX.cell 0
      simp only [encT, List.getElem?_toArray, List.getElem?_cons_zero, List.getElem?_cons_succ] at e0 e1 e2 e3 e4 e5 e6 e7 e8 x0 y0
      have hSX : ∀ W, Below X0.heap.size X0 W → W.cell? ⟨w3.heap.size + 2, 0, none⟩ = some (.map (some (w3.heap.size + 1))) ∧ (W.cell? ⟨R.heap.size, 0, none⟩ = some (.int .i64 s.1.1) ∧ W.cell? ⟨R.heap.size, 1, none⟩ = some (.int .i64 s.1.2.1) ∧ W.cell? ⟨R.heap.size, 2, none⟩ = some (.int .i64 s.1.2.2) ∧ W.cell? ⟨R.heap.size, 3, none⟩ = some (.int .i64 s.2.1.1) ∧ W.cell? ⟨R.heap.size, 4, none⟩ = some (.int .i64 s.2.1.2.1) ∧ W.cell? ⟨R.heap.size, 5, none⟩ = some (.int .i64 s.2.1.2.2) ∧ W.cell? ⟨R.heap.size, 6, none⟩ = some (.int .i64 s.2.2.1) ∧ W.cell? ⟨R.heap.size, 7, none⟩ = some (.int .i64 s.2.2.2.1) ∧ W.cell? ⟨R.heap.size, 8, none⟩ = some (.int .i64 s.2.2.2.2)) ∧ W.cell? ⟨w3.heap.size, 0, none⟩ = some (.int .i64 b9) := fun W hW =>
        ⟨(hW.cell (p := ⟨_, _, none⟩) (by simp; omega)).trans y0, ⟨(hW.cell (p := ⟨_, _, none⟩) (by simp; omega)).trans e0, (hW.cell (p := ⟨_, _, none⟩) (by simp; omega)).trans e1, (hW.cell (p := ⟨_, _, none⟩) (by simp; omega)).trans e2, (hW.cell (p := ⟨_, _, none⟩) (by simp; omega)).trans e3, (hW.cell (p := ⟨_, _, none⟩) (by simp; omega)).trans e4, (hW.cell (p := ⟨_, _, none⟩) (by simp; omega)).trans e5, (hW.cell (p := ⟨_, _, none⟩) (by simp; omega)).trans e6, (hW.cell (p := ⟨_, _, none⟩) (by simp; omega)).trans e7, (hW.cell (p := ⟨_, _, none⟩) (by simp; omega)).trans e8⟩, (hW.cell (p := ⟨_, _, none⟩) (by simp; omega)).trans x0⟩
      have hAl : Below X0.heap.size X0 (X0.alloc (.cells #[.int .i64 s.1.1, .int .i64 s.1.2.1, .int .i64 s.1.2.2, .int .i64 s.2.1.1, .int .i64 s.2.1.2.1, .int .i64 s.2.1.2.2, .int .i64 s.2.2.1, .int .i64 s.2.2.2.1, .int .i64 s.2.2.2.2] 26)).drew := ((Below.refl _ X0).alloc (Nat.le_refl _) _).drew
      have HR := hide (And.intro hcal (And.intro hSX (And.intro hAl (And.intro hbbX (And.intro hbmX (And.intro hmkX (And.intro (hB.trans (hBX.mono hzB)) (And.intro hq (And.intro hsk hfq)))))))))
      clear hcal hSX hAl hbbX hbmX hmkX hB hq hsk hfq hbT hBX hbb hbm hmk hfs e0 e1 e2 e3 e4 e5 e6 e7 e8 x0 y0
      subst hRe
      go_wp2_with fail
      rw [← hX0]
      clear hX0 g0 g1 g2 g3 g4 g5 g6 g7 g8
      have hSd := HR.out.2.1 X0.drew (below_drewN (Below.refl _ X0) 1)
      have HSd := hide hSd
      clear hSd
      refine wp_region_mix (fun W => W.cell? ⟨w3.heap.size + 2, 0, none⟩ = some (.map (some (w3.heap.size + 1))) ∧ (W.cell? ⟨R.heap.size, 0, none⟩ = some (.int .i64 s.1.1) ∧ W.cell? ⟨R.heap.size, 1, none⟩ = some (.int .i64 s.1.2.1) ∧ W.cell? ⟨R.heap.size, 2, none⟩ = some (.int .i64 s.1.2.2) ∧ W.cell? ⟨R.heap.size, 3, none⟩ = some (.int .i64 s.2.1.1) ∧ W.cell? ⟨R.heap.size, 4, none⟩ = some (.int .i64 s.2.1.2.1) ∧ W.cell? ⟨R.heap.size, 5, none⟩ = some (.int .i64 s.2.1.2.2) ∧ W.cell? ⟨R.heap.size, 6, none⟩ = some (.int .i64 s.2.2.1) ∧ W.cell? ⟨R.heap.size, 7, none⟩ = some (.int .i64 s.2.2.2.1) ∧ W.cell? ⟨R.heap.size, 8, none⟩ = some (.int .i64 s.2.2.2.2)) ∧ W.cell? ⟨w3.heap.size, 0, none⟩ = some (.int .i64 b9)) [0, 1, 3] [0, 1, 3, 2, 4, 5] mixed_ok (by kernel_rfl) ?_
      refine wpMix_q (v := .map (some (w3.heap.size + 1))) rfl rfl (fun _ _ _ h => h) HSd.out ⟨rfl, fun W' h' => by simp [go_sem, h'.1]⟩ ?_
      refine wpMix_q (v := vT s) rfl rfl (fun _ _ _ h => h) HSd.out ⟨rfl, fun W' h' => by obtain ⟨_, ⟨a0, a1, a2, a3, a4, a5, a6, a7, a8⟩, _⟩ := h'; simp [go_sem, a0, a1, a2, a3, a4, a5, a6, a7, a8]⟩ ?_
      refine wpMix_q (v := .int .i64 b9) rfl rfl (fun _ _ _ h => h) HSd.out ⟨rfl, fun W' h' => by simp [go_sem, h'.2.2]⟩ ?_
      refine wpMix_n rfl rfl ?_
      go_wp2_with fail
      refine ⟨fun _ => HR.out.2.1 _ HR.out.2.2.1, ?_⟩
      refine wpMix_n rfl rfl ?_
      go_wp2_with fail
      with_reducible refine HR.out.1.mono ?_
      rintro e w5 ⟨rfl, hB5⟩
      have hX5 := HR.out.2.2.1.trans (hB5.mono HR.out.2.2.1.size)
      have hm5 := HR.out.2.2.2.2.2.1.below hX5 (by omega)
      obtain ⟨w6, hrun, hm6, hg6, hz6⟩ := hm5.update kfPt (t := 49) (e := 4) Try.underlying49 (by unfold maxLen; omega) q HR.out.2.2.2.2.2.2.2.2.2 (.bool true)
      have H5 := hide (And.intro hX5 (And.intro hm6 hg6))
      clear hB5 hX5 hm5 hm6 hg6
      go_wp2_with fail
      refine ⟨fun _ => HR.out.2.1 _ H5.out.1, ?_⟩
      refine wpMix_tail _ [_] (by kernel_rfl) rfl ?_
      simp only [List.getElem_toArray, List.getElem_cons_succ, List.getElem_cons_zero]
      go_wp2
      go_roundw
      case rel =>
        refine ⟨k + 1, by omega, by go_num, ?_, ?_, ?_, ?_⟩
        · exact (HR.out.2.2.2.1.below H5.out.1 (by omega)).grown H5.out.2.2 (fun e => by injection e with e; omega)
        · exact (HR.out.2.2.2.2.1.below H5.out.1 (by omega)).grown H5.out.2.2 (fun e => by injection e with e; omega)
        · refine H5.out.2.1.same fun p => ?_
          rw [HR.out.2.2.2.2.2.2.2.1]
          exact touchedM_snoc b9 U k s HR.out.2.2.2.2.2.2.2.2.1 p
        · have h6 : Below w3.heap.size w3 w5 := HR.out.2.2.2.2.2.2.1.trans (H5.out.1.mono (by omega))
          exact h6.grown H5.out.2.2 h6.size (fun r hr => by injection hr with hr; omega)
      case measure => simp [intOf]; omega
    · have hke : k = U.length := by omega
      subst hke
      rw [List.take_length] at hmk
      have hzB := hB.size
      have hzm := hbm.lt
      have hF := finestT_factsN (b := b9) (most := 3) 80 (by omega) H3.out.2.2.1
      have hloc := finest_local b9 3 (touchedL b9 U) T U (touchedL_iff b9 U)
      have hsT : Sl encT 9 wr wr.heap.size A2 T := (H3.out.1.below hB).more hzB
      have hsU : Sl encT 9 wr wr.heap.size A3 U := (H3.out.2.1.below hB).more hzB
      have c1 := hbb.cell 0
      simp only [List.getElem?_toArray, List.getElem?_cons_zero] at c1
      have HE := hide (And.intro hmk (And.intro hF (And.intro hloc (And.intro hsT (And.intro hsU (And.intro hbb (And.intro hbm hB)))))))
      clear hmk hF hloc hsT hsU hbb hbm hB
      go_wp2_with fail
      with_reducible refine (finest_any A2 c2 b9 3 T wr HE.out.2.2.2.1 (by omega) H3.out.2.2.1 (by omega)).mono ?_
      rintro e w5 ⟨v5, rfl, hp5, hB5⟩
      clear c1
      obtain ⟨A5, c5, rfl⟩ := hp5.form
      have hbm5 := HE.out.2.2.2.2.2.2.1.below hB5 hzm
      have hbb5 := HE.out.2.2.2.2.2.1.below hB5 (by omega)
      have hmk5 := HE.out.1.below hB5 (by omega)
      have hz5 := hB5.size
      have hcal := local1_any A5 c5 (finestT b9 3 T) b9 (touchedL b9 U) (touchedM b9 U) (w3.heap.size + 2) w3.heap.size (w3.heap.size + 1) U.length wr.heap.size w5 hp5 (by have := HE.out.2.1.1; omega)
        (fun p hp => ⟨finest_ne hp, by have := HE.out.2.1.2.1 p hp; omega, HE.out.2.1.2.2 p hp⟩) (hbm5.cell 0) (hbb5.cell 0) hbm5.lt hbb5.lt hmk5 (touchedM_get b9 U)
      obtain ⟨F, hFe⟩ : ∃ F, F = finestT b9 3 T := ⟨_, rfl⟩
      obtain ⟨L, hL⟩ : ∃ L, L = untouchedT b9 (touchedL b9 U) F := ⟨_, rfl⟩
      rw [← hFe, ← hL] at hcal
      rw [← hFe]
      have H5 := hide (And.intro hcal (And.intro hB5 (And.intro hbb5 (And.intro hbm5 (And.intro hmk5 (And.intro hFe hL))))))
      clear hcal hB5 hbb5 hbm5 hmk5 hFe hL hp5
      go_wp2_with fail
      with_reducible refine H5.out.1.mono ?_
      rintro e w6 ⟨A6, c6, rfl, hl6, hB6⟩
      have hz6 := hB6.size
      have hbb6 := H5.out.2.2.1.below hB6 (by omega)
      have H6 := hide (And.intro hl6 (And.intro hB6 (And.intro hbb6 (And.intro (H5.out.2.2.2.1.below hB6 (by omega)) (H5.out.2.2.2.2.1.below hB6 (by omega))))))
      clear hl6 hB6 hbb6
      go_wp2_with fail
      have hFn : Value.func (.func 28) #[] #[.pointer (some ⟨w3.heap.size + 1 + 1, 0, none⟩), .pointer (some ⟨w3.heap.size, 0, none⟩)] = Value.func (.func 28) #[] #[.pointer (some ⟨w3.heap.size + 1 + 1, 0, none⟩), .pointer (some ⟨w3.heap.size, 0, none⟩)] := rfl
      clear hFn
      have hb60 := H6.out.2.2.1.cell 0
      simp only [List.getElem?_toArray, List.getElem?_cons_zero] at hb60
      have hB36 : Below wr.heap.size wr w6 := H5.out.2.1.trans (H6.out.2.1.mono hz5)
      obtain ⟨Y, hY⟩ : ∃ Y, Y = (w6.alloc (.cells #[] 26)).drew := ⟨_, rfl⟩
      have hBY : Below w6.heap.size w6 Y := by rw [hY]; exact ((Below.refl _ w6).alloc (Nat.le_refl _) _).drew
      have hlit : Own encT 9 26 Y w6.heap.size (.slice (some ⟨w6.heap.size, 0, none⟩) 0 0) 0 ([] : List Tri) := by
        rw [hY]
        exact (show Own encT 9 26 (w6.alloc (.cells #[] 26)) w6.heap.size (.slice (some ⟨w6.heap.size, 0, none⟩) 0 0) 0 ([] : List Tri) from ⟨rfl, by simpa using World.ownsRow_lit (e := 26) (size := 9) w6 #[] 0 (Nat.le_refl _) (by unfold maxLen; omega) (by simp)⟩)
      have hsTY : Sl encT 9 Y w6.heap.size A2 T := ((HE.out.2.2.2.1.below hB36).more hB36.size).below hBY
      have hsUY : Sl encT 9 Y w6.heap.size A3 U := ((HE.out.2.2.2.2.1.below hB36).more hB36.size).below hBY
      have hSl : ∀ W, Below w6.heap.size w6 W → W.cell? ⟨w3.heap.size, 0, none⟩ = some (.int .i64 b9) := fun W hW => (hW.cell (p := ⟨w3.heap.size, 0, none⟩) (by simp; omega)).trans hb60
      have hS6 := hSl w6.drew (below_drewN (Below.refl _ w6) 1)
      have HX := hide (And.intro hBY (And.intro hlit (And.intro hsTY (And.intro hsUY (And.intro hSl hS6)))))
      have hzY := hBY.size
      clear hBY hlit hsTY hsUY hSl hS6 hb60 hB36
      refine wp_region_mix (fun W => W.cell? ⟨w3.heap.size, 0, none⟩ = some (.int .i64 b9)) [0, 2, 4, 6] [0, 2, 4, 6, 1, 3, 5, 7, 8, 9] mixed_ok (by kernel_rfl) ?_
      refine wpMix_q (v := .func (.func 28) #[] #[.pointer (some ⟨w3.heap.size + 1 + 1, 0, none⟩), .pointer (some ⟨w3.heap.size, 0, none⟩)]) rfl rfl (fun _ _ _ h => h) HX.out.2.2.2.2.2 ⟨rfl, fun W' h' => by simp [go_sem]⟩ ?_
      refine wpMix_q (v := .slice A2 T.length c2) rfl rfl (fun _ _ _ h => h) HX.out.2.2.2.2.2 ⟨rfl, fun W' h' => by simp [go_sem]⟩ ?_
      refine wpMix_q (v := .slice A3 U.length c3) rfl rfl (fun _ _ _ h => h) HX.out.2.2.2.2.2 ⟨rfl, fun W' h' => by simp [go_sem]⟩ ?_
      refine wpMix_q (v := .int .i64 b9) rfl rfl (fun _ _ _ h => h) HX.out.2.2.2.2.2 ⟨rfl, fun W' h' => by simp [go_sem, h']⟩ ?_
      refine wpMix_n rfl rfl ?_
      go_wp2_with fail
      rw [← hY]
      clear hY
      refine ⟨fun _ => HX.out.2.2.2.2.1 _ HX.out.1, ?_⟩
      refine wpMix_n rfl rfl ?_
      simp only [List.getElem_toArray, List.getElem_cons_succ, List.getElem_cons_zero]
      refine wpList_appendS rfl _ _ _ rfl Try.underlying27 infoT rfl (by omega) encT_len encT_one rfl HX.out.2.1 A2 c2 w6.heap.size T rfl HX.out.2.2.1 (by unfold maxLen; omega) (by omega) hzY ?_
      intro v7 w7 hown7 hg7 hB7 hat7
      rw [Nat.zero_add, List.nil_append] at hown7
      have hz7 := hB7.size
      obtain ⟨A7, c7, rfl⟩ := hown7.form
      have H7 := hide (And.intro hown7 (And.intro (HX.out.1.trans hB7) (HX.out.2.2.2.1.below hB7)))
      clear hown7 hg7 hB7 hat7
      go_wp2_with fail
      refine ⟨fun _ => HX.out.2.2.2.2.1 _ H7.out.2.1, ?_⟩
      refine wpMix_n rfl rfl ?_
      simp only [List.getElem_toArray, List.getElem_cons_succ, List.getElem_cons_zero]
      refine wpList_appendS rfl _ _ _ rfl Try.underlying27 infoT rfl (by omega) encT_len encT_one rfl H7.out.1 A3 c3 w6.heap.size U rfl H7.out.2.2 (by unfold maxLen; omega) (by omega) (by omega) ?_
      intro v8 w8 hown8 hg8 hB8 hat8
      have hz8 := hB8.size
      obtain ⟨A8, c8, rfl⟩ := hown8.form
      have hs8 : Sl encT 9 w8 w8.heap.size A8 (T ++ U) := hown8.sl encT_len (Nat.le_refl _)
      have hfTU : ∀ t ∈ T ++ U, fitsT t := fun t ht => (List.mem_append.1 ht).elim (H3.out.2.2.1 t) (H3.out.2.2.2.1 t)
      have hcal9 := finest_any A8 c8 b9 3 (T ++ U) w8 hs8 (by rw [List.length_append]; omega) hfTU (by omega)
      have hF9 := finestT_factsN (b := b9) (most := 3) 80 (by rw [List.length_append]; omega) hfTU
      rw [List.length_append] at hcal9
      have H8 := hide (And.intro hcal9 (And.intro (H7.out.2.1.trans hB8) hF9))
      clear hcal9 hown8 hg8 hB8 hat8 hs8 hfTU hF9
      go_wp2_with fail
      refine ⟨fun _ => HX.out.2.2.2.2.1 _ H8.out.2.1, ?_⟩
      refine wpMix_n rfl rfl ?_
      go_wp2_with fail
      with_reducible refine H8.out.1.mono ?_
      rintro e w9 ⟨v9, rfl, hp9, hB9⟩
      obtain ⟨A9, c9, rfl⟩ := hp9.form
      have hB69 : Below w6.heap.size w6 w9 := H8.out.2.1.trans (hB9.mono (by omega))
      have hz9 := hB69.size
      have hbb9 := H6.out.2.2.1.below hB69 (by omega)
      have hbm9 := H6.out.2.2.2.1.below hB69 (by omega)
      have hmk9 := H6.out.2.2.2.2.below hB69 (by omega)
      have hcal := local1_any A9 c9 (finestT b9 3 (T ++ U)) b9 (touchedL b9 U) (touchedM b9 U) (w3.heap.size + 2) w3.heap.size (w3.heap.size + 1) U.length w8.heap.size w9 hp9 (by have := H8.out.2.2.1; omega)
        (fun p hp => ⟨finest_ne hp, by have := H8.out.2.2.2.1 p hp; omega, H8.out.2.2.2.2 p hp⟩) (hbm9.cell 0) (hbb9.cell 0) hbm9.lt hbb9.lt hmk9 (touchedM_get b9 U)
      have hL2 : untouchedT b9 (touchedL b9 U) (finestT b9 3 (T ++ U)) = L := by
        rw [H5.out.2.2.2.2.2.2, H5.out.2.2.2.2.2.1]
        exact HE.out.2.2.1.symm
      rw [hL2] at hcal
      obtain ⟨F9, hF9e⟩ : ∃ F9, F9 = finestT b9 3 (T ++ U) := ⟨_, rfl⟩
      rw [← hF9e] at hcal ⊢
      have H9 := hide (And.intro hcal hB69)
      clear hcal hB9 hB69 hbb9 hbm9 hmk9 hp9 hF9e hL2
      go_wp2_with fail
      refine ⟨fun _ => HX.out.2.2.2.2.1 _ H9.out.2, ?_⟩
      refine wpMix_tail _ [_, _] (by kernel_rfl) rfl ?_
      simp only [List.getElem_toArray, List.getElem_cons_succ, List.getElem_cons_zero]
      go_wp2_with fail
      with_reducible refine H9.out.1.mono ?_
      rintro e w10 ⟨A10, c10, rfl, hl10, hB10⟩
      have hLF : ∀ p ∈ L, p ∈ F := fun p hp => by
        rw [H5.out.2.2.2.2.2.2] at hp
        exact (List.mem_filter.1 hp).1
      have hLl : L.length ≤ F.length := by
        rw [H5.out.2.2.2.2.2.2]
        exact List.length_filter_le _ _
      have hFF := HE.out.2.1
      rw [← H5.out.2.2.2.2.2.1] at hFF
      have hl6 : LstE encT 9 w10 w6.heap.size A6 L := (H6.out.1.below H9.out.2).below (hB10.mono hz9)
      have hsame := same_any A6 A10 c6 c10 L L w10 w6.heap.size w10.heap.size hl6 hl10 (by omega) (by omega)
        (fun p hp => by have := hFF.2.1 p (hLF p hp); omega) (fun p hp => by have := hFF.2.1 p (hLF p hp); omega) (fun p hp => hFF.2.2 p (hLF p hp)) (fun p hp => hFF.2.2 p (hLF p hp))
      rw [decide_eq_true rfl] at hsame
      have H10 := hide (And.intro hsame hB10)
      clear hsame hl6 hLF hLl hFF hB10 hl10
      go_wp2_with fail
      with_reducible refine H10.out.1.mono ?_
      rintro e w11 ⟨rfl, nn, rfl⟩
      go_wp2
      go_ret
      have z3 := H3.out.2.2.2.2.size
      have hB3r := HE.out.2.2.2.2.2.2.2
      have g1 : Below w.heap.size w wr := H3.out.2.2.2.2.trans (hB3r.mono z3)
      have g2 : Below w.heap.size w w6 := (g1.trans (H5.out.2.1.mono g1.size)).trans (H6.out.2.1.mono (by have := g1.size; omega))
      have g3 : Below w.heap.size w w10 := (g2.trans (H9.out.2.mono g2.size)).trans (H10.out.2.mono (by have := g2.size; omega))
      exact ⟨rfl, below_drewN g3 nn⟩
end Go.Proofs.Ytgndbpkgehjelaa
