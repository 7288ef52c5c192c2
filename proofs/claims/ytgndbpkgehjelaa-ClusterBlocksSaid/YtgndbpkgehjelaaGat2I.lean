/- The iterator that gathered makes, at integers. -/
import Derived.Test.YtgndbpkgehjelaaGat2
import Derived.Test.YtgndbpkgehjelaaGatI
namespace Go.Proofs.Ytgndbpkgehjelaa
open Go.RowKit Go.Sort Go.Shelf
attribute [local go_sem] Oper.semAt_some
set_option maxRecDepth 100000 in
set_option maxHeartbeats 2000000 in
theorem gat2I_in (n l q5 q6 q0 g c N : Nat) (ks : List Pt) (m : Pt → Value) (hn : 1 ≤ n) (hkf : ∀ p ∈ ks, fitsP p) (hl : ks.length ≤ 4294967296) (J Jx : List Pt → World → Prop)
    (hA : ∀ s W o, J s W → J s (W.alloc o))
    (hY : ∀ pre x W, J pre W → pre.length < ks.length → x ∈ ks → YieldAt Fence.wide (n - 1) Try.prog l #[m x] W fun e W' =>
      (e = .returned (.bool true) ∧ J (pre ++ [x]) W' ∧ Kp3 q5 g q0 W W') ∨ (e = .returned (.bool false) ∧ Jx (pre ++ [x]) W'))
    (W : World) (h5 : W.cell? ⟨q5, 0, none⟩ = some (.map (some q0))) (h6 : W.cell? ⟨q6, 0, none⟩ = some (.slice (some ⟨g, 0, none⟩) ks.length c)) (hs : Sl encP 3 W (g + 1) (some ⟨g, 0, none⟩) ks) (hm : MapP W q0 N m)
    (hq5 : q5 < W.heap.size) (hg : g < W.heap.size) (hJ : J [] W) :
    CallsIn Fence.wide n Try.prog 57 #[.func (.yield l) #[] #[], .pointer (some ⟨q6, 0, none⟩), .pointer (some ⟨q5, 0, none⟩)] W fun e W' => (∃ v, e = .returned v) ∧
      ((∃ ys, ys = ks ∧ J ys W') ∨ (∃ pre, pre <+: ks ∧ Jx pre W')) := by
  refine callsIn_of_wp Try.func57 rfl trivial ?_ rfl
  simp only [Try.ntmps57, List.size_toArray, List.length_cons, List.length_nil, Nat.reduceAdd, Nat.reduceSub, Array.replicate_succ, Array.replicate_zero, List.push_toArray, List.append_toArray, List.nil_append, List.cons_append]
  gi_wp2
  gi_loopw [8] (fun i wr => ∃ k : Nat, k ≤ ks.length ∧ i = .int .i64 k ∧ J (ks.take k) wr ∧ wr.cell? ⟨q5, 0, none⟩ = some (.map (some q0)) ∧ Sl encP 3 wr (g + 1) (some ⟨g, 0, none⟩) ks ∧ MapP wr q0 N m ∧ W.heap.size ≤ wr.heap.size)
    (fun i _ => ks.length - (intOf i).toNat)
  case atStart => exact ⟨0, Nat.zero_le _, rfl, by simpa using hJ, h5, hs, hm, Nat.le_refl _⟩
  case round =>
    obtain ⟨k, hk, rfl, hJs, c5, hsk, hmk, hsz⟩ := hrel
    clear h5 h6 hs hm
    by_cases hlt : k < ks.length
    · obtain ⟨p, hp⟩ : ∃ p, ks[k]? = some p := ⟨_, List.getElem?_eq_getElem hlt⟩
      obtain ⟨b', o', hA', hb', hc'⟩ := hsk.at hp
      cases hA'
      have p0 : wr.cell? ⟨g, k * 3, none⟩ = some (.int .i64 p.1) := by have := hc' 0 _ rfl; simpa using this
      have p1 : wr.cell? ⟨g, k * 3 + 1, none⟩ = some (.int .i64 p.2.1) := by have := hc' 1 _ rfl; simpa using this
      have p2 : wr.cell? ⟨g, k * 3 + 2, none⟩ = some (.int .i64 p.2.2) := by have := hc' 2 _ rfl; simpa using this
      have i1 : (k : Int) < (ks.length : Int) := by omega
      have hpf : fitsP p := hkf p (List.mem_of_getElem? hp)
      obtain ⟨V, hV⟩ : ∃ V, V = wr.alloc (.cells #[.int .i64 p.1, .int .i64 p.2.1, .int .i64 p.2.2] 23) := ⟨_, rfl⟩
      have hgV : ∀ i, i < wr.heap.size → V.heap[i]? = wr.heap[i]? := fun i hi => by rw [hV]; exact ((Below.refl _ wr).alloc (Nat.le_refl _) _).block i hi
      have hmV : MapP V q0 N m := hmk.heap (hgV _ hmk.lt)
      have hsV : Sl encP 3 V (g + 1) (some ⟨g, 0, none⟩) ks := hsk.heap (hgV _ (by omega))
      have c5V : V.cell? ⟨q5, 0, none⟩ = some (.map (some q0)) := (cell_of_heap (hgV _ (by omega))).trans c5
      have hJV : J (ks.take k) V := by rw [hV]; exact hA _ _ _ hJs
      have hlk := hmV.lookup (t := 82) (e := 31) Try.underlying82 rfl p hpf
      have c5V' := c5V
      have hszV : wr.heap.size ≤ V.heap.size := by rw [hV]; simp
      obtain ⟨fn, tmps, assign, body, hy, hR⟩ := hY (ks.take k) p V hJV (by simp; omega) (List.mem_of_getElem? hp)
      rw [hV] at hlk c5V' hy
      have H := hide (And.intro hsV (And.intro hmV (And.intro c5V hp)))
      have HV := hide hV
      have HL := hide hsk
      clear hJV hJs hsk hmk hsV hmV c5V hV hgV hp hc'
      gi_wp2
      rw [← HV.out]
      refine hR.mono ?_
      rintro e' W3 (⟨rfl, hJ3, hk3⟩ | ⟨rfl, hJx3⟩)
      · have hm3 := H.out.2.1.heap hk3.2.2.2
        have hs3 := H.out.1.heap hk3.2.2.1
        have c53 := (cell_of_heap hk3.2.1).trans H.out.2.2.1
        have hz3 := hk3.1
        have htk : ks.take (k + 1) = ks.take k ++ [p] := by rw [List.take_add_one, H.out.2.2.2]; rfl
        have HX := hide (And.intro hm3 (And.intro hs3 htk))
        clear hm3 hs3 hk3 htk hlk c5V' hy
        gi_wp2
        go_roundw
        case rel => exact ⟨k + 1, by omega, by go_num, by rw [HX.out.2.2]; exact hJ3, c53, HX.out.2.1, HX.out.1, by omega⟩
        case measure => simp [intOf]; omega
      · have htk : ks.take (k + 1) = ks.take k ++ [p] := by rw [List.take_add_one, H.out.2.2.2]; rfl
        have HX := hide htk
        clear htk hlk c5V' hy
        gi_wp2
        refine bodyPost_ret (results_none rfl _ _ _) rfl ?_
        exact ⟨⟨_, rfl⟩, .inr ⟨_, ⟨ks.drop (k + 1), by rw [← HX.out, List.take_append_drop]⟩, hJx3⟩⟩
    · have hke : k = ks.length := by omega
      subst hke
      rw [List.take_length] at hJs
      gi_wp2
      go_end0
      exact ⟨⟨_, rfl⟩, .inl ⟨_, rfl, hJs⟩⟩
set_option maxRecDepth 100000 in
theorem gat2I_nil (n l q5 q6 c : Nat) (J : List Pt → World → Prop) (W : World) (h6 : W.cell? ⟨q6, 0, none⟩ = some (.slice none 0 c)) (hJ : J [] W) :
    CallsIn Fence.wide n Try.prog 57 #[.func (.yield l) #[] #[], .pointer (some ⟨q6, 0, none⟩), .pointer (some ⟨q5, 0, none⟩)] W fun e W' => (∃ v, e = .returned v) ∧ J [] W' := by
  refine callsIn_of_wp Try.func57 rfl trivial ?_ rfl
  simp only [Try.ntmps57, List.size_toArray, List.length_cons, List.length_nil, Nat.reduceAdd, Nat.reduceSub, Array.replicate_succ, Array.replicate_zero, List.push_toArray, List.append_toArray, List.nil_append, List.cons_append]
  gi_wp2
  gi_loopw [8] (fun i wr => i = .int .i64 0 ∧ J [] wr ∧ W = wr) (fun _ _ => 0)
  case atStart => exact ⟨rfl, hJ, rfl⟩
  case round =>
    obtain ⟨rfl, hJs, rfl⟩ := hrel
    gi_wp2
    go_end0
    exact ⟨⟨_, rfl⟩, hJs⟩
theorem gat2I_stops (n q5 q6 q0 g c N : Nat) (A6 : Option Addr) (ks : List Pt) (m : Pt → Value) (hn : 1 ≤ n) (hkf : ∀ p ∈ ks, fitsP p) (hl : ks.length ≤ 4294967296) (w : World)
    (h5 : w.cell? ⟨q5, 0, none⟩ = some (.map (some q0))) (h6 : w.cell? ⟨q6, 0, none⟩ = some (.slice A6 ks.length c)) (hs : ks = [] ∧ A6 = none ∨ A6 = some ⟨g, 0, none⟩ ∧ Sl encP 3 w w.heap.size (some ⟨g, 0, none⟩) ks) (hm : MapP w q0 N m)
    (hq5 : q5 < w.heap.size) (hq6 : q6 < w.heap.size) (hg : g < w.heap.size) :
    SeqStopsK Fence.wide n Try.prog 57 #[.pointer (some ⟨q6, 0, none⟩), .pointer (some ⟨q5, 0, none⟩)] (fun x : Pt => #[m (fx ks x)]) (Kp3 q5 g q0)
      (fun ys => ys = ks) (fun pre => pre <+: ks) ks.length w := fun l J Jx W hW hJa hJxa hY hJ => by
  have h5' := (hW.cell (p := ⟨q5, 0, none⟩) hq5).trans h5
  have h6' := (hW.cell (p := ⟨q6, 0, none⟩) hq6).trans h6
  have hm' := hm.heap (hW.block q0 hm.lt)
  rcases hs with ⟨rfl, rfl⟩ | ⟨rfl, hs⟩
  · refine (gat2I_nil n l q5 q6 c J W h6' hJ).mono ?_
    rintro e W' ⟨he, hJ'⟩
    exact ⟨he, .inl ⟨[], rfl, hJ'⟩⟩
  · have hs' : Sl encP 3 W (g + 1) (some ⟨g, 0, none⟩) ks := by
      rcases hs.heap (hW.block g hg) with ⟨_, h⟩ | ⟨b', o', ha, _, hc⟩
      · cases h
      · cases ha
        exact .inr ⟨g, 0, rfl, by omega, hc⟩
    refine gat2I_in n l q5 q6 q0 g c N ks m hn hkf hl J Jx (fun s V o h => hJa s V _ none h (World.grownBy_alloc V o none) (fun _ h => by cases h)) ?_ W h5' h6' hs' hm' (Nat.lt_of_lt_of_le hq5 hW.size) (Nat.lt_of_lt_of_le hg hW.size) hJ
    intro pre x V hJV hlt hx
    have := hY pre x V hJV hlt
    simp only [fx_id hx] at this
    exact this
end Go.Proofs.Ytgndbpkgehjelaa
