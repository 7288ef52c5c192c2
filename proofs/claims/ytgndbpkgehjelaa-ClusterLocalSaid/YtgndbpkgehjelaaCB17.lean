/- Joined texts: Enc Lists. -/
import Derived.Test.YtgndbpkgehjelaaCB7
import Derived.Test.YtgndbpkgehjelaaCB12
/- Encoded triangles and points; slices cut at their front. -/
namespace Go.Proofs.Ytgndbpkgehjelaa
open Go.RowKit Go.Sort
/-- Where 's[i:]' lies. -/
def cutA (A : Option Addr) (c i s : Nat) : Option Addr := if c = i then A else A.map (·.add (i * s))
theorem Sl.cut {α : Type} {enc : α → List Value} {k : Nat} {w : World} {B : Nat} {A : Option Addr} {xs : List α} {i c : Nat} (h : Sl enc k w B A xs) (hi : i ≤ xs.length) (hc : xs.length ≤ c) : Sl enc k w B (cutA A c i k) (xs.drop i) := by
  rcases h with ⟨rfl, rfl⟩ | ⟨b, o, rfl, hb, hcs⟩
  · refine .inl ⟨by simp, ?_⟩
    unfold cutA; split <;> rfl
  · unfold cutA
    split
    · rename_i h
      refine .inr ⟨b, o, rfl, hb, fun j x hx => ?_⟩
      rw [List.getElem?_drop, List.getElem?_eq_none (by omega)] at hx
      cases hx
    · refine .inr ⟨b, o + i * k, by rw [Option.map_some, add_none], hb, fun j x hx l u hu => ?_⟩
      rw [List.getElem?_drop] at hx
      have := hcs _ _ hx l u hu
      rw [Nat.add_mul, ← Nat.add_assoc] at this
      exact this
theorem Sl.take {α : Type} {enc : α → List Value} {k : Nat} {w : World} {B : Nat} {A : Option Addr} {xs : List α} (i : Nat) (h : Sl enc k w B A xs) : Sl enc k w B A (xs.take i) := by
  rcases h with ⟨rfl, rfl⟩ | ⟨b, o, rfl, hb, hcs⟩
  · exact .inl ⟨by simp, rfl⟩
  · refine .inr ⟨b, o, rfl, hb, fun j x hx l u hu => ?_⟩
    rw [List.getElem?_take] at hx
    split at hx
    · exact hcs _ _ hx l u hu
    · cases hx
theorem run_cut {P : Program} {T E : TypeId} {s n c i : Nat} {A : Option Addr} (hT : P.underlying T = some (.slice E)) (hs : ∀ W : World, (sizeOf E).run P W = .ok s W) (hi : i ≤ n) (W : World) : (Instr.slice T (.slice A n c) (some (.int .i64 i)) none none).run P W = .ok (.slice (cutA A c i s) (n - i) (c - i)) W := by
  have hE : P.elem T = E := by simp [Program.elem, hT]
  have hT' : P.underlying T = some (.slice (P.elem T)) := by rw [hE]; exact hT
  rw [run_slice_l (t := T) (ht := hT') (h0 := by omega) (h1 := by omega)]
  simp [hE, hs, sliced, cutA]
theorem run_cutH {P : Program} {T E : TypeId} {s n c i : Nat} {A : Option Addr} (hT : P.underlying T = some (.slice E)) (hs : ∀ W : World, (sizeOf E).run P W = .ok s W) (hi : i ≤ n) (hc : n ≤ c) (W : World) : (Instr.slice T (.slice A n c) none (some (.int .i64 i)) none).run P W = .ok (.slice A i c) W := by
  have hE : P.elem T = E := by simp [Program.elem, hT]
  have hT' : P.underlying T = some (.slice (P.elem T)) := by rw [hE]; exact hT
  rw [run_slice_h (t := T) (ht := hT') (h0 := by omega) (h2 := by omega)]
  have hadd : ∀ a : Addr, a.add 0 = a := fun a => by simp [Addr.add]
  cases A <;> simp [hE, hs, sliced, hadd]
theorem encT_len (t : Tri) : (encT t).length = 9 := rfl
theorem encP_len (p : Pt) : (encP p).length = 3 := rfl
theorem encT_one (t : Tri) : ∀ v ∈ encT t, v.oneCell' = true := by
  intro v hv
  simp only [encT, List.mem_cons, List.not_mem_nil, or_false] at hv
  rcases hv with rfl | rfl | rfl | rfl | rfl | rfl | rfl | rfl | rfl <;> rfl
theorem encP_one (p : Pt) : ∀ v ∈ encP p, v.oneCell' = true := by
  intro v hv
  simp only [encP, List.mem_cons, List.not_mem_nil, or_false] at hv
  rcases hv with rfl | rfl | rfl <;> rfl
theorem infoT : (Try.prog.info? 26).map (fun i => (i.zero, i.size, i.bytes)) = some (some (.agg #[.int .i64 0, .int .i64 0, .int .i64 0, .int .i64 0, .int .i64 0, .int .i64 0, .int .i64 0, .int .i64 0, .int .i64 0]), 9, 72) := by kernel_rfl
theorem infoP : (Try.prog.info? 23).map (fun i => (i.zero, i.size, i.bytes)) = some (some (.agg #[.int .i64 0, .int .i64 0, .int .i64 0]), 3, 24) := by kernel_rfl
theorem infoLT : (Try.prog.info? 27).map (fun i => (i.zero, i.size, i.bytes)) = some (some (.slice none 0 0), 1, 24) := by kernel_rfl
theorem infoLI : (Try.prog.info? 31).map (fun i => (i.zero, i.size, i.bytes)) = some (some (.slice none 0 0), 1, 24) := by kernel_rfl
end Go.Proofs.Ytgndbpkgehjelaa
/- law13.lists: a list of triangles divided as numbers determine. -/
namespace Go.Proofs.Ytgndbpkgehjelaa
open Go.RowKit Go.Sort
def encB (x : Nat) : List Value := [.int .u8 x]
theorem encB_len (x : Nat) : (encB x).length = 1 := rfl
def listsN : List Tri → List Nat → List (List Tri)
  | ts, [] => [ts]
  | ts, c :: cs => ts.take (min (c % 5) ts.length) :: listsN (ts.drop (min (c % 5) ts.length)) cs
def listsL (ts : List Tri) (cuts : List Nat) : List (List Tri) := listsN ts (cuts.take 20)
theorem listsN_facts : ∀ (cs : List Nat) (ts : List Tri), (listsN ts cs).length = cs.length + 1 ∧ ∀ p ∈ listsN ts cs, p.length ≤ ts.length ∧ ∀ t ∈ p, t ∈ ts
  | [], ts => ⟨rfl, fun p hp => by simp [listsN] at hp; subst hp; exact ⟨Nat.le_refl _, fun _ h => h⟩⟩
  | c :: cs, ts => by
    obtain ⟨h1, h2⟩ := listsN_facts cs (ts.drop (min (c % 5) ts.length))
    refine ⟨by simp [listsN, h1], fun p hp => ?_⟩
    rcases List.mem_cons.1 hp with rfl | hp
    · exact ⟨by rw [List.length_take]; omega, fun t ht => List.mem_of_mem_take ht⟩
    · have := h2 p hp
      rw [List.length_drop] at this
      exact ⟨by omega, fun t ht => List.mem_of_mem_drop (this.2 t ht)⟩
theorem listsL_facts (ts : List Tri) (cuts : List Nat) : (listsL ts cuts).length ≤ 21 ∧ 0 < (listsL ts cuts).length ∧ ∀ p ∈ listsL ts cuts, p.length ≤ ts.length ∧ ∀ t ∈ p, t ∈ ts := by
  obtain ⟨h1, h2⟩ := listsN_facts (cuts.take 20) ts
  refine ⟨?_, ?_, h2⟩
  · show (listsN ts (cuts.take 20)).length ≤ 21
    rw [h1, List.length_take]; omega
  · show 0 < (listsN ts (cuts.take 20)).length
    omega
/-- Headers of the call's own, over slices that lie below block B. -/
def Heads (w : World) (base B : Nat) (v : Value) (ps : List (List Tri)) : Prop :=
  ∃ ss : List Hdr, Own encS 1 27 w base v ps.length ss ∧ ∀ (i : Nat) (p : List Tri), ps[i]? = some p → ∃ A c, ss[i]? = some (A, p.length, c) ∧ Sl encT 9 w B A p
theorem Heads.snoc {w w' : World} {base B : Nat} {v v' : Value} {ps : List (List Tri)} {p : List Tri} {A : Option Addr} {c : Nat} {ss : List Hdr} (ho : Own encS 1 27 w base v ps.length ss) (hp : ∀ (i : Nat) (p : List Tri), ps[i]? = some p → ∃ A c, ss[i]? = some (A, p.length, c) ∧ Sl encT 9 w B A p)
    (hx : Sl encT 9 w B A p) (hB : Below B w w') (ho' : Own encS 1 27 w' base v' (ps.length + 1) (ss ++ [(A, p.length, c)])) : Heads w' base B v' (ps ++ [p]) := by
  have hlen := ho.1
  refine ⟨ss ++ [(A, p.length, c)], by simpa using ho', fun i q hi => ?_⟩
  by_cases hlt : i < ps.length
  · rw [List.getElem?_append_left hlt] at hi
    obtain ⟨A', c', h1, h2⟩ := hp i q hi
    exact ⟨A', c', by rw [List.getElem?_append_left (by omega)]; exact h1, h2.below hB⟩
  · have hi2 : i = ps.length := by
      have := (List.getElem?_eq_some_iff.1 hi).1
      simp at this; omega
    subst hi2
    simp at hi
    subst hi
    exact ⟨A, c, by rw [hlen]; simp, hx.below hB⟩
set_option maxRecDepth 100000 in
set_option maxHeartbeats 4000000 in
theorem lists_any (A B : Option Addr) (c d : Nat) (ts : List Tri) (cuts : List Nat) (w : World) (hs : Sl encT 9 w w.heap.size A ts) (hc : ts.length ≤ c) (hl : ts.length ≤ 2147483648) (hcs : cuts ≠ [] → Sl encB 1 w w.heap.size B cuts) (hcb : ∀ x ∈ cuts, x < 256) (hcl : cuts.length ≤ 9223372036854775807) :
    Calls Try.prog 24 #[.slice A ts.length c, .slice B cuts.length d] w fun e w' => ∃ A' c', e = .returned (.slice A' (listsL ts cuts).length c') ∧ (listsL ts cuts).length ≤ c' ∧ LstE encT 9 w' w'.heap.size A' (listsL ts cuts) ∧ Below w.heap.size w w' := by
  have H := hide (And.intro hcs hcb)
  have HS := hide (And.intro hs hc)
  clear hcs hcb hs hc
  go_enter Try.func24, Try.ntmps24
  go_wp2
  go_loopw [0, 5, 6] (fun t o i wr => ∃ (k : Nat) (rest : List Tri) (done : List (List Tri)) (A' : Option Addr) (c' : Nat), k ≤ cuts.length ∧ k ≤ 20 ∧ i = .int .i64 k ∧ t = .slice A' rest.length c' ∧ rest.length ≤ c' ∧ rest.length ≤ 2147483648 ∧ done.length = k ∧ Sl encT 9 wr w.heap.size A' rest ∧ Heads wr w.heap.size w.heap.size o done ∧ done ++ listsN rest ((cuts.take 20).drop k) = listsL ts cuts ∧ Below w.heap.size w wr) (fun _ _ i _ => 20 - (intOf i).toNat)
  case atStart => exact ⟨0, ts, [], A, c, by omega, by omega, rfl, rfl, HS.out.2, hl, rfl, HS.out.1, ⟨[], Own.nil, by simp⟩, rfl, Below.refl _ w⟩
  case round =>
    obtain ⟨k, rest, done, A', c', hk, hk20, rfl, rfl, hrc, hrl, hdl, hsr, hhd, heq, hB⟩ := hrel
    have hszB := hB.size
    obtain ⟨ss, hss, hpp⟩ := hhd
    rw [hdl] at hss
    obtain ⟨Ao, co, rfl⟩ := hss.form
    by_cases hlt : k < cuts.length ∧ k < 20
    · obtain ⟨hlt, hlt20⟩ := hlt
      obtain ⟨x, hx⟩ : ∃ x, cuts[k]? = some x := ⟨_, List.getElem?_eq_getElem hlt⟩
      have hxb := H.out.2 x (List.mem_of_getElem? hx)
      obtain ⟨b, o, hBB, hb, hcx⟩ := ((H.out.1 (fun e => by rw [e] at hx; simp at hx)).below hB).at hx
      subst hBB
      have hx0 := hcx 0 _ rfl
      rw [Nat.mul_one, Nat.add_zero] at hx0
      obtain ⟨n, hn⟩ : ∃ n, n = min (x % 5) rest.length := ⟨_, rfl⟩
      have hmin : min ((x : Int) % 5) (rest.length : Int) = (n : Int) := by omega
      have hnl : n ≤ rest.length := by omega
      obtain ⟨p, hp⟩ : ∃ p, p = rest.take n := ⟨_, rfl⟩
      have hpl : p.length = n := by rw [hp, List.length_take]; omega
      have hsp : Sl encT 9 wr w.heap.size A' p := by rw [hp]; exact hsr.take n
      have hcut : Sl encT 9 wr w.heap.size (cutA A' c' n 9) (rest.drop n) := hsr.cut hnl hrc
      have r1 : ∀ V : World, (Instr.slice 27 (.slice A' rest.length c') none (some (.int .i64 n)) none).run Try.prog V = .ok (.slice A' p.length c') V := fun V => by
        rw [hpl]; exact run_cutH Try.underlying27 Try.sizeOf26 hnl hrc V
      have r2 : ∀ V : World, (Instr.slice 27 (.slice A' rest.length c') (some (.int .i64 n)) none none).run Try.prog V = .ok (.slice (cutA A' c' n 9) (rest.length - n) (c' - n)) V := fun V =>
        run_cut Try.underlying27 Try.sizeOf26 hnl V
      have heq' : (done ++ [p]) ++ listsN (rest.drop n) ((cuts.take 20).drop (k + 1)) = listsL ts cuts := by
        rw [← heq, List.append_assoc]
        congr 1
        have hlk : k < (cuts.take 20).length := by rw [List.length_take]; omega
        rw [List.drop_eq_getElem_cons hlk]
        have hg : (cuts.take 20)[k] = x := by
          have := List.getElem?_eq_getElem hlk
          rw [List.getElem?_take, if_pos hlt20, hx] at this
          exact (Option.some.inj this).symm
        rw [hg, listsN, ← hn, hp]
        rfl
      have i1 : (k : Int) < (cuts.length : Int) := by omega
      have i2 : (k : Int) < 20 := by omega
      have hss2 := hss.alloc (.cells #[.slice A' p.length c'] 27)
      have HR := hide (And.intro hss (And.intro hpp (And.intro hsp (And.intro hcut (And.intro heq' (And.intro hB (And.intro hrc (And.intro hrl (And.intro hnl hdl)))))))))
      clear hss hpp hsp hcut heq' hB hrc hrl hnl hdl hpl hp hn heq hsr hcx hx
      go_wp2_with (at_builtin; refine wpList_append1 rfl _ _ _ rfl Try.underlying28 infoLT rfl (by omega) encS_len encS_one rfl hss2 wr.heap.size 1 (A', p.length, c') rfl (Blk.new _ _ _) (by unfold maxLen; omega) (by omega) (by simp; omega) ?_; intro g cap w5 hown5 hg5 hB5 hat5 hgb5 hlt5)
      go_roundw
      case rel =>
        have hB' : Below w.heap.size wr w5 := ((Below.refl _ wr).alloc hszB _).trans hB5
        have hrc := HR.out.2.2.2.2.2.2.1
        have hrl := HR.out.2.2.2.2.2.2.2.1
        refine ⟨k + 1, rest.drop n, done ++ [p], cutA A' c' n 9, c' - n, by omega, by omega, by go_num, by rw [List.length_drop], by rw [List.length_drop]; omega, by rw [List.length_drop]; omega, by rw [List.length_append, HR.out.2.2.2.2.2.2.2.2.2]; rfl, HR.out.2.2.2.1.below hB', ?_, HR.out.2.2.2.2.1, HR.out.2.2.2.2.2.1.trans hB'⟩
        refine Heads.snoc (c := c') (by rw [HR.out.2.2.2.2.2.2.2.2.2]; exact HR.out.1) HR.out.2.1 HR.out.2.2.1 hB' ?_
        rw [HR.out.2.2.2.2.2.2.2.2.2]
        exact hown5
      case measure => simp [intOf]; omega
    · have hend : (cuts.take 20).drop k = [] := List.drop_eq_nil_of_le (by rw [List.length_take]; omega)
      rw [hend] at heq
      have hss2 := hss.alloc (.cells #[.slice A' rest.length c'] 27)
      have hcase : (decide (k < cuts.length) = false) ∨ (decide (k < cuts.length) = true ∧ decide ((k : Int) < 20) = false) := by
        by_cases h1 : k < cuts.length
        · exact .inr ⟨decide_eq_true (by omega), decide_eq_false (by omega)⟩
        · exact .inl (decide_eq_false (by omega))
      have HR := hide (And.intro hss (And.intro hpp (And.intro hsr (And.intro heq (And.intro hB (And.intro hdl hlt))))))
      clear hss hpp hsr heq hB hdl hend hlt
      have hfin : ∀ (g cap : Nat) (w5 : World), Own encS 1 27 w5 w.heap.size (.slice (some ⟨g, 0, none⟩) (k + 1) cap) (k + 1) (ss ++ [(A', rest.length, c')]) → Below w.heap.size (wr.alloc (.cells #[.slice A' rest.length c'] 27)) w5 → k + 1 ≤ cap →
          k + 1 = (listsL ts cuts).length ∧ LstE encT 9 w5 w5.heap.size (some ⟨g, 0, none⟩) (listsL ts cuts) ∧ Below w.heap.size w w5 := by
        intro g cap w5 hown5 hB5 hcap
        have hB' : Below w.heap.size wr w5 := ((Below.refl _ wr).alloc hszB _).trans hB5
        have hH : Heads w5 w.heap.size w.heap.size (.slice (some ⟨g, 0, none⟩) (k + 1) cap) (done ++ [rest]) :=
          Heads.snoc (by rw [HR.out.2.2.2.2.2.1]; exact HR.out.1) HR.out.2.1 HR.out.2.2.1 hB' (by rw [HR.out.2.2.2.2.2.1]; exact hown5)
        have he : done ++ [rest] = listsL ts cuts := HR.out.2.2.2.1
        rw [he] at hH
        obtain ⟨ss2, h1, h2⟩ := hH
        have hlen : k + 1 = (listsL ts cuts).length := by rw [← he, List.length_append, HR.out.2.2.2.2.2.1]; rfl
        rw [← hlen] at h1
        have hz := (HR.out.2.2.2.2.1.trans hB').size
        refine ⟨hlen, ⟨ss2, by rw [← hlen]; exact h1.1.symm, h1.sl encS_len (Nat.le_refl _), fun i p hi => ?_⟩, HR.out.2.2.2.2.1.trans hB'⟩
        obtain ⟨A1, c1, h3, h4⟩ := h2 i p hi
        exact ⟨A1, c1, h3, h4.more hz⟩
      have HF := hide hfin
      clear hfin
      rcases hcase with h1 | ⟨h1, h2⟩
      all_goals
        go_wp2_with (at_builtin; refine wpList_append1 rfl _ _ _ rfl Try.underlying28 infoLT rfl (by omega) encS_len encS_one rfl hss2 wr.heap.size 1 (A', rest.length, c') rfl (Blk.new _ _ _) (by unfold maxLen; omega) (by omega) (by simp; omega) ?_; intro g cap w5 hown5 hg5 hB5 hat5 hgb5 hlt5)
        go_ret
        obtain ⟨f1, f2, f3⟩ := HF.out g cap w5 hown5 hB5 hown5.place.1
        exact ⟨_, cap, by rw [← f1]; rfl, by rw [← f1]; exact hown5.place.1, f2, f3⟩
end Go.Proofs.Ytgndbpkgehjelaa
