/- Joined texts: S7Q S7R S7S S7V S7T. -/
import Derived.WideKeyEntry
import Derived.Test.YtdpgohpbannfnaaCB2
import Derived.Test.YtdpgohpbannfnaaCB6
import Derived.Test.YtdpgohpbannfnaaCB14
/- 'm[p] = append(m[p], x)': the entry taken, then stored. -/
namespace Go.Proofs.Ytdpgohpbannfnaa
open Go.RowKit Go.Sort Go.WideMaps Go.Maps Go.ChangeMaps
theorem nodup_map_inj {α β : Type} {f : α → β} {l : List α} (h : (l.map f).Nodup) {a b : α} (ha : a ∈ l) (hb : b ∈ l) (e : f a = f b) : a = b := by
  induction l with
  | nil => cases ha
  | cons x l ih =>
    rw [List.map_cons, List.nodup_cons] at h
    rcases List.mem_cons.1 ha with h1 | h1 <;> rcases List.mem_cons.1 hb with h2 | h2
    · rw [h1, h2]
    · exact absurd (List.mem_map.2 ⟨b, h2, by rw [← e, h1]⟩) h.1
    · exact absurd (List.mem_map.2 ⟨a, h1, by rw [e, h2]⟩) h.1
    · exact ih h.2 h1 h2
theorem MapK.entry {P : Program} {κ : Type} [DecidableEq κ] {kt : TypeId} {enc : κ → Value} {ok : κ → Prop} {w : World} {b n : Nat} {m : κ → Option Value} {t e : TypeId} {z : Value} (K : KeyFit P kt enc ok) (L : KeyLaw P kt) (h : MapK P kt enc ok w b n m) (ht : P.underlying t = some (.map kt e)) (hz : ∀ u : World, (zeroValue e).run P u = .ok z u) (hn : n < maxLen) (p : κ) (hp : ok p) :
    ∃ (st : Nat) (w1 : World), (Instr.mapEntry t (.map (some b)) (enc p)).run P w = .ok (.tuple #[(m p).getD z, goInt st]) w1 ∧ w.grownBy w1 (some b) ∧ w1.heap.size = w.heap.size ∧ (∃ o, w1.heap[b]? = some o ∧ o.isCells = false) ∧
      ∀ (w2 : World) (val : Value), w2.heap[b]? = w1.heap[b]? → ∃ w3, (Instr.entryStore t (.map (some b)) (goInt st) val).run P w2 = .ok () w3 ∧ MapK P kt enc ok w3 b (n + 1) (fun q => if q = p then some val else m q) ∧ w2.grownBy w3 (some b) ∧ w3.heap.size = w2.heap.size := by
  have hlook := h.lookup K ht (hz w) p hp
  have hupd := fun val => h.update K ht hn p hp val
  have hlt := h.lt
  obtain ⟨l, hl⟩ := K.lit p hp
  obtain ⟨D, ⟨es, clock, hb, F, hle, hD⟩, hs⟩ := h
  obtain ⟨v0, st, es1, clock1, hme, hcase, hst⟩ := Go.WideElems.entry_then_store L ht hz hb F hl
  have hv0 : v0 = (m p).getD z := by
    rcases fit_look false K.keyed ht (hz w) hb F hl with ⟨hrun, hno, _⟩ | ⟨e0, y, hm0, hk0, hrun, _⟩
    · rw [hrun] at hlook
      simp only [Bool.false_eq_true, if_false, Result.ok.injEq, and_true] at hlook
      rcases hcase with ⟨e1, he1, hk1, _⟩ | ⟨_, h2⟩
      · exact absurd hk1 (hno e1 he1)
      · rw [h2, ← hlook]
    · rw [hrun] at hlook
      simp only [Bool.false_eq_true, if_false, Result.ok.injEq, and_true] at hlook
      rcases hcase with ⟨e1, he1, hk1, h2⟩ | ⟨hno, _⟩
      · have := nodup_map_inj F.stamped.2.2 he1 hm0 (hk1.trans hk0.symm)
        rw [h2, this, ← hlook]
      · exact absurd hk0 (hno e0 hm0)
  subst hv0
  refine ⟨st, _, hme, ?_, by simp [setBlock], ⟨_, heap_setBlock_same hb _, rfl⟩, fun w2 val hw2 => ?_⟩
  · exact ⟨rfl, rfl, rfl, by simp [setBlock], fun i _ hi => heap_setBlock_other hb _ (fun e => hi (by rw [e]))⟩
  · rw [heap_setBlock_same hb] at hw2
    obtain ⟨es', clock', hrun2, hrunU⟩ := hst w2 val hw2
    obtain ⟨w', hu, hMu, _, _⟩ := hupd val
    rw [hrunU] at hu
    have hw' : w' = setBlock w b (.map es' clock') := by
      simp only [Result.ok.injEq, true_and] at hu
      exact hu.symm
    subst hw'
    refine ⟨_, hrun2, ?_, ⟨rfl, rfl, rfl, by simp [setBlock], fun i _ hi => heap_setBlock_other hw2 _ (fun e => hi (by rw [e]))⟩, by simp [setBlock]⟩
    obtain ⟨D', ⟨es2, clock2, hb2, h3⟩, h4⟩ := hMu
    rw [heap_setBlock_same hb] at hb2
    exact ⟨D', ⟨es2, clock2, by rw [heap_setBlock_same hw2]; exact hb2, h3⟩, h4⟩
end Go.Proofs.Ytdpgohpbannfnaa
/- Words for seal.components: the faces that meet each cell, in a map of slices. -/
namespace Go.Proofs.Ytdpgohpbannfnaa
open Go.RowKit Go.Sort Go.WideMaps Go.Maps
def encN (i : Nat) : List Value := [.int .i64 i]
theorem encN_len (i : Nat) : (encN i).length = 1 := rfl
theorem encN_one (i : Nat) : ∀ u ∈ encN i, u.oneCell' = true := by
  intro u hu
  simp only [encN, List.mem_singleton] at hu
  subst hu
  rfl
theorem infoI7 : (Try.prog.info? 3).map (fun i => (i.zero, i.size, i.bytes)) = some (some (.int .i64 0), 1, 8) := by kernel_rfl
/-- Block cb is a map of at most cnt entries: to each cell its list of numbers, in slices of the call's own. -/
def CellM (w : World) (cb cnt base : Nat) (G : Pt → List Nat) : Prop :=
  ∃ (mo : Pt → Option Value) (m : Pt → Value), MapK Try.prog 68 vP fitsP w cb cnt mo ∧ (∀ p, (mo p).getD (.slice none 0 0) = m p) ∧ Gps encN 1 3 w base m G
theorem CellM.made (w : World) (base : Nat) : CellM (w.alloc (.map #[] 0)) w.heap.size 0 base fun _ => [] := ⟨_, _, MapK.made Try.prog 68 vP fitsP w, fun _ => rfl, Gps.nil⟩
theorem CellM.lt {w : World} {cb cnt base : Nat} {G : Pt → List Nat} (h : CellM w cb cnt base G) : cb < w.heap.size := by
  obtain ⟨mo, m, h1, _⟩ := h
  exact h1.lt
theorem CellM.below {w w' : World} {cb cnt base B : Nat} {G : Pt → List Nat} (h : CellM w cb cnt base G) (hb : Below B w w') (hB : w.heap.size ≤ B) : CellM w' cb cnt base G := by
  obtain ⟨mo, m, h1, h2, h3⟩ := h
  exact ⟨mo, m, h1.below hb (Nat.lt_of_lt_of_le h1.lt hB), h2, h3.below hb hB⟩
theorem CellM.same {w : World} {cb cnt base : Nat} {G G' : Pt → List Nat} (h : CellM w cb cnt base G) (hG : ∀ p, G p = G' p) : CellM w cb cnt base G' := by
  have : G = G' := funext hG
  exact this ▸ h
set_option maxRecDepth 100000 in
/-- What stands at a cell. -/
theorem CellM.look {w : World} {cb cnt base : Nat} {G : Pt → List Nat} (h : CellM w cb cnt base G) (p : Pt) (hp : fitsP p) : ∃ A c, (Instr.lookup 83 (.map (some cb)) (vP p) false).run Try.prog w = .ok (.slice A (G p).length c) w ∧ Sl encN 1 w w.heap.size A (G p) := by
  obtain ⟨mo, m, h1, h2, h3⟩ := h
  have hl := h1.lookup kfL7 (t := 83) (e := 22) Try.underlying83 (z := .slice none 0 0) rfl p hp
  rw [h2] at hl
  have ho := h3.1 p
  obtain ⟨A, c, hv⟩ := ho.form
  rw [hv] at hl ho
  exact ⟨A, c, hl, ho.sl encN_len (Nat.le_refl _)⟩
set_option maxRecDepth 100000 in
/-- The entry at a cell, taken to be appended to. -/
theorem CellM.entry {w : World} {cb cnt base : Nat} {G : Pt → List Nat} (h : CellM w cb cnt base G) (hn : cnt < maxLen) (p : Pt) (hp : fitsP p) (hcb : cb < base) :
    ∃ (st : Nat) (w1 : World) (v : Value), (Instr.mapEntry 83 (.map (some cb)) (vP p)).run Try.prog w = .ok (.tuple #[v, goInt st]) w1 ∧ w.grownBy w1 (some cb) ∧ w1.heap.size = w.heap.size ∧ Own encN 1 3 w1 base v (G p).length (G p) ∧
      ∀ (w2 : World) (v' : Value) (g : Nat) (x : Nat), w1.grownBy w2 v.ownBlock → Own encN 1 3 w2 base v' ((G p).length + 1) (G p ++ [x]) → v'.ownBlock = some g → (v.ownBlock = some g ∨ g = w1.heap.size) →
        ∃ w3, (Instr.entryStore 83 (.map (some cb)) (goInt st) v').run Try.prog w2 = .ok () w3 ∧ CellM w3 cb (cnt + 1) base (fun q => if q = p then G p ++ [x] else G q) ∧ w2.grownBy w3 (some cb) ∧ w3.heap.size = w2.heap.size := by
  obtain ⟨mo, m, h1, h2, h3⟩ := h
  have hlt := h1.lt
  obtain ⟨st, w1, hrun, hg1, hz1, ⟨o, hob, hoc⟩, hst⟩ := h1.entry kfL7 lawL7 (t := 83) (e := 22) Try.underlying83 (z := .slice none 0 0) (fun _ => rfl) hn p hp
  rw [h2] at hrun
  have hG1 : Gps encN 1 3 w1 base m G := h3.step hg1 (fun r hr => .inl (by cases hr; exact hcb))
  refine ⟨st, w1, m p, hrun, hg1, hz1, hG1.1 p, fun w2 v' g x hg2 hv' hb' hat => ?_⟩
  have hcbv : ∀ g', (m p).ownBlock = some g' → g' ≠ cb := fun g' hg' e => by
    have := ((hG1.1 p).blk g' hg').1
    omega
  have hw2 : w2.heap[cb]? = w1.heap[cb]? := hg2.block cb (by omega) (fun e => hcbv cb e.symm rfl)
  obtain ⟨w3, hrun3, hM3, hg3, hz3⟩ := hst w2 v' hw2
  refine ⟨w3, hrun3, ⟨_, _, hM3, fun q => ?_, (hG1.append p x hg2 hv' hb' hat).step hg3 (fun r hr => .inl (by cases hr; exact hcb))⟩, hg3, hz3⟩
  show (if q = p then some v' else mo q).getD _ = if q = p then v' else m q
  split
  · rfl
  · exact h2 q
end Go.Proofs.Ytdpgohpbannfnaa
/- Words for seal.components: the lists by cells after k faces and j cells. -/
namespace Go.Proofs.Ytdpgohpbannfnaa
open Go.RowKit Go.Sort Go.WideMaps Go.Maps
def metJ (l : List EF) (f : EF) (k j : Nat) (p : Pt) : List Nat := metL l p k ++ ((cellsF f).take j).flatMap fun q => if q = p then [k] else []
theorem metJ_zero (l : List EF) (f : EF) (k : Nat) (p : Pt) : metJ l f k 0 p = metL l p k := by simp [metJ]
theorem metJ_end {l : List EF} {f : EF} {k : Nat} (hf : l[k]? = some f) (p : Pt) : metJ l f k 2 p = metL l p (k + 1) := by
  unfold metJ metL
  rw [List.range_succ, List.flatMap_append, List.flatMap_singleton, hf]
  rfl
theorem metJ_succ (l : List EF) (f : EF) (k : Nat) {j : Nat} {c : Pt} (hc : (cellsF f)[j]? = some c) (p : Pt) : metJ l f k (j + 1) p = if p = c then metJ l f k j c ++ [k] else metJ l f k j p := by
  unfold metJ
  rw [List.take_add_one, hc, Option.toList_some, List.flatMap_append, List.flatMap_singleton, ← List.append_assoc]
  by_cases h : p = c
  · subst h; rw [if_pos rfl, if_pos rfl]
  · rw [if_neg h, if_neg (fun e => h e.symm), List.append_nil]
theorem cellsF_get (f : EF) {j : Nat} (hj : j < 2) : (cellsF f)[j]? = some (add3 f.2 f.1 (-(j : Int))) := by
  have hc : j = 0 ∨ j = 1 := by omega
  rcases hc with rfl | rfl
  · show some f.2 = _
    unfold add3
    rw [show cmp3 f.2 f.1 + -((0 : Nat) : Int) = cmp3 f.2 f.1 by omega, set3_cmp]
  · rfl
theorem hit_len (k : Nat) (p : Pt) : ∀ (xs : List Pt), (xs.flatMap fun q => if q = p then [k] else []).length ≤ xs.length
  | [] => Nat.le_refl _
  | x :: xs => by
    rw [List.flatMap_cons, List.length_append, List.length_cons]
    have ih := hit_len k p xs
    by_cases h : x = p
    · rw [if_pos h]
      show 1 + _ ≤ _
      omega
    · rw [if_neg h]
      show 0 + _ ≤ _
      omega
theorem metL_len (l : List EF) (p : Pt) : ∀ k, (metL l p k).length ≤ 2 * k
  | 0 => Nat.le_refl _
  | k + 1 => by
    have ih := metL_len l p k
    unfold metL at *
    rw [List.range_succ, List.flatMap_append, List.flatMap_singleton, List.length_append]
    cases hf : l[k]? with
    | none =>
      show _ + 0 ≤ _
      omega
    | some g =>
      have h4 := hit_len k p (cellsF g)
      have h5 : (cellsF g).length = 2 := rfl
      dsimp only
      omega
theorem metJ_len (l : List EF) (f : EF) (k j : Nat) (p : Pt) : (metJ l f k j p).length ≤ 2 * k + 2 := by
  unfold metJ
  rw [List.length_append]
  have a := hit_len k p ((cellsF f).take j)
  have b : ((cellsF f).take j).length ≤ 2 := by rw [List.length_take]; exact Nat.min_le_right _ _
  have c := metL_len l p k
  omega
end Go.Proofs.Ytdpgohpbannfnaa
/- Words for seal.components: what lies in memory under way. -/
namespace Go.Proofs.Ytdpgohpbannfnaa
open Go.RowKit Go.Sort Go.WideMaps Go.Maps
theorem Pcs.apart {α : Type} {enc : α → List Value} {k : Nat} {e te : TypeId} {w w' : World} {base : Nat} {v : Value} {ps : List (List α)} {row : Option Nat} (h : Pcs enc k e te w base v ps) (hg : w.grownBy w' row)
    (h1 : ∀ r, row = some r → r < base ∨ ∀ cs, w.heap[r]? ≠ some (.cells cs te (0, 0))) (h2 : ∀ r, row = some r → r < base ∨ ∀ cs, w.heap[r]? ≠ some (.cells cs e (0, 0))) : Pcs enc k e te w' base v ps := by
  obtain ⟨ss, ho, hp⟩ := h
  refine ⟨ss, ho.step hg h1, fun i p hi => ?_⟩
  obtain ⟨A, c, hs, hO⟩ := hp i p hi
  exact ⟨A, c, hs, hO.step hg h2⟩
theorem own_one7 {α : Type} {enc : α → List Value} {k : Nat} {e : TypeId} {w : World} {base : Nat} (hk : ∀ x, (enc x).length = k) (hb : base ≤ w.heap.size) (t : α) :
    Own enc k e (w.alloc (.cells (enc t).toArray e)) base (.slice (some ⟨w.heap.size, 0, none⟩) 1 1) 1 [t] :=
  ⟨rfl, by simpa using World.ownsRow_lit (e := e) (size := k) w (enc t).toArray 1 hb (by unfold maxLen; omega) (by simp [hk])⟩
theorem grown_set7 (W : World) (b i : Nat) (v : Value) : W.grownBy (W.setCell ⟨b, i, none⟩ v) (some b) :=
  ⟨rfl, rfl, rfl, (KeepsWalks.setCell W _ v).size, fun k _ hne => Below.heap_setCell W ⟨b, i, none⟩ v k (fun e => hne (by rw [e]))⟩
theorem Sl.one7 {w : World} {B : Nat} {A : Option Addr} {xs : List Nat} (h : Sl encN 1 w B A xs) {i x : Nat} (hi : xs[i]? = some x) :
    ∃ b o, A = some ⟨b, o, none⟩ ∧ b < B ∧ w.cell? ⟨b, o + i, none⟩ = some (.int .i64 x) := by
  obtain ⟨b, o, ha, hb, hc⟩ := h.at hi
  have := hc 0 _ rfl
  rw [Nat.mul_one, Nat.add_zero] at this
  exact ⟨b, o, ha, hb, this⟩
theorem infoI7s : (Try.prog.info? 38).map (fun i => (i.zero, i.size, i.bytes)) = some (some (.slice none 0 0), 1, 24) := by kernel_rfl
theorem blk_own_ne {α : Type} {enc : α → List Value} {k : Nat} {e t : TypeId} {w : World} {base n gf : Nat} {v : Value} {xs : List α} {cs : Array Value} (hb : Blk w gf t cs) (ho : Own enc k e w base v n xs) (hte : e ≠ t) : some gf ≠ v.ownBlock := fun e' => by
  obtain ⟨cs', hc⟩ := ho.cells gf e'.symm
  have hb' : w.heap[gf]? = some (.cells cs t (0, 0)) := hb
  rw [hc] at hb'
  cases hb'
  exact hte rfl
set_option maxRecDepth 100000 in
/-- What stands at a cell, in this world and all behind it. -/
theorem CellM.look2 {w : World} {cb cnt base : Nat} {G : Pt → List Nat} (h : CellM w cb cnt base G) (p : Pt) (hp : fitsP p) :
    ∃ A c, (∀ W, Below w.heap.size w W → (Instr.lookup 83 (.map (some cb)) (vP p) false).run Try.prog W = .ok (.slice A (G p).length c) W) ∧ Sl encN 1 w w.heap.size A (G p) := by
  obtain ⟨mo, m, h1, h2, h3⟩ := h
  have ho := h3.1 p
  obtain ⟨A, c, hv⟩ := ho.form
  refine ⟨A, c, fun W hW => ?_, ?_⟩
  · have hl := (h1.below hW h1.lt).lookup kfL7 (t := 83) (e := 22) Try.underlying83 (z := .slice none 0 0) rfl p hp
    rw [h2, hv] at hl
    exact hl
  · rw [hv] at ho
    exact ho.sl encN_len (Nat.le_refl _)
/-- Under way, from world U on: what was seen, what is done. -/
structure CmpS (U : World) (l : List EF) (i : Nat) (ov : Value) (W : World) (ps : List Nat) : Prop where
  see : RowB W U.heap.size (seeL l i ps)
  out : Pcs encF 4 45 38 W (U.heap.size + 1) ov (outP l i)
  bel : Below U.heap.size U W
section
variable {U W W' : World} {l : List EF} {i : Nat} {ov : Value} {ps : List Nat}
theorem CmpS.lt (h : CmpS U l i ov W ps) : U.heap.size < W.heap.size := Blk.lt h.see
theorem CmpS.below (h : CmpS U l i ov W ps) (hb : Below W.heap.size W W') : CmpS U l i ov W' ps := ⟨h.see.below hb h.lt, h.out.below hb (Nat.le_refl _), h.bel.trans (hb.mono h.bel.size)⟩
theorem CmpS.put (h : CmpS U l i ov W ps) {j : Nat} (hj : j < l.length) : CmpS U l i ov (W.setCell ⟨U.heap.size, j, none⟩ (.bool true)) (ps ++ [j]) :=
  ⟨by rw [← seeL_set hj]; exact h.see.set j true, h.out.apart (grown_set7 _ _ _ _) (fun r hr => .inl (by cases hr; omega)) (fun r hr => .inl (by cases hr; omega)), h.bel.setCell (Nat.le_refl _) _⟩
theorem CmpS.row (h : CmpS U l i ov W ps) {pv : Value} {n : Nat} {xs : List Nat} (ho : Own encN 1 3 W (U.heap.size + 1) pv n xs) (hg : W.grownBy W' pv.ownBlock) : CmpS U l i ov W' ps :=
  ⟨Blk.grown h.see hg (fun e => by have := (ho.blk _ e.symm).1; omega), h.out.apart hg (own_rowT ho (by decide)) (own_rowT ho (by decide)), h.bel.grown hg h.bel.size (fun r hr => by have := (ho.blk r hr).1; omega)⟩
theorem CmpS.seen (h : CmpS U l i ov W ps) {j : Nat} {g : EF} (hg : l[j]? = some g) : W.cell? ⟨U.heap.size, j, none⟩ = some (.bool (doneB l i g || decide (j ∈ ps))) := h.see.cell (seeL_get hg)
theorem CmpS.skip (h : CmpS U l i ov W []) (hn : l.Nodup) {f : EF} (hf : l[i]? = some f) (hd : doneB l i f = true) : CmpS U l (i + 1) ov W [] :=
  ⟨by rw [seeL_skip hf (doneB_iff.1 hd)]; exact h.see, by rw [outP_skip hn hf (doneB_iff.1 hd)]; exact h.out, h.bel⟩
theorem CmpS.start (U : World) (l : List EF) : CmpS U l 0 (.slice none 0 0) (U.alloc (.cells ((List.replicate l.length false).map Value.bool).toArray 4)) [] :=
  ⟨by rw [seeL_zero]; exact Blk.new U _ _, Pcs.nil, (Below.refl _ U).alloc (Nat.le_refl _) _⟩
end
/-- A face that meets a face of the component under way was not seen before it began. -/
theorem part_new {l : List EF} {i a j : Nat} {f g h : EF} {ps : List Nat} (H : PartP l i f ps) (hf : l[i]? = some f) (hd : doneB l i f = false) (ha : a ∈ ps) (hg : l[a]? = some g) (hh : l[j]? = some h) (ht : touch g h = true) : doneB l i h = false := by
  obtain ⟨g', hg', hc⟩ := H.conn a ha
  rw [hg] at hg'
  cases hg'
  rw [Bool.eq_false_iff]
  intro hx
  have := done_back (List.mem_of_getElem? hh) (List.mem_of_getElem? hf) (hc.step (List.mem_of_getElem? hh) ht) (doneB_iff.1 hx)
  rw [doneB_iff.2 this] at hd
  cases hd
theorem closP.done {l : List EF} {i : Nat} {f : EF} {ps : List Nat} (H : PartP l i f ps) (hf : l[i]? = some f) (hc : closP l ps ps.length 0 []) : ∀ g, (∃ j ∈ ps, l[j]? = some g) ↔ g ∈ compF l f :=
  H.all hf fun a ha g h j hg hh ht => hc.1 a (by rw [List.take_length]; exact ha) g h j hg hh ht
theorem comp_sorted {l : List EF} (hs : l.Pairwise fun f g => ltF f g = true) (f : EF) : (compF l f).Pairwise fun f g => ltF f g = true := hs.filter _
theorem fac_comp {l : List EF} {i : Nat} {f : EF} {ps : List Nat} (hs : l.Pairwise fun f g => ltF f g = true) (hn : l.Nodup) (H : PartP l i f ps) (hf : l[i]? = some f) (hc : closP l ps ps.length 0 []) : sortF (facL l ps) = compF l f :=
  sortF_eq (facL_nodup hn H) (comp_sorted hs f) fun g => by rw [facL_mem H]; exact hc.done H hf g
end Go.Proofs.Ytdpgohpbannfnaa
/- seal.components. -/
namespace Go.Proofs.Ytdpgohpbannfnaa
open Go.RowKit Go.Sort Go.WideMaps Go.Maps
set_option maxRecDepth 100000 in
set_option maxHeartbeats 64000000 in
theorem comps7_any (A : Option Addr) (c : Nat) (l : List EF) (w : World) (hs : Sl encF 4 w w.heap.size A l) (hl : l.length ≤ 1000000) (hf : ∀ f ∈ l, (f.1 = 0 ∨ f.1 = 1 ∨ f.1 = 2) ∧ midP7 f.2) (hso : l.Pairwise fun f g => ltF f g = true) :
    Calls Try.prog 30 #[.slice A l.length c] w fun e w' => ∃ v, e = .returned v ∧ Pcs encF 4 45 38 w' w.heap.size v (partsF l) ∧ Below w.heap.size w w' := by
  have hmm := @run_makeMap Try.prog
  have hnd : l.Nodup := hso.imp fun {f g} h e => by subst e; rw [ltF_irrefl] at h; cases h
  obtain ⟨M, hM⟩ : ∃ M, M = l.length := ⟨_, rfl⟩
  have hmk := mk_bl7 M (by omega)
  rw [← hM] at hl ⊢
  obtain ⟨Z0, hZ0⟩ : ∃ Z, Z = ((List.replicate M false).map Value.bool).toArray := ⟨_, rfl⟩
  rw [← hZ0] at hmk
  have HC := hide (And.intro hs (And.intro hf (And.intro hso (And.intro hM (And.intro hnd (And.intro hZ0 hmk))))))
  clear hs hf hso hM hnd hZ0 hmk
  go_enter Try.func30, Try.ntmps30
  go_upto_region 2 with fail
  obtain ⟨X, hX⟩ : ∃ X, X = w.alloc (.map #[] 0) := ⟨_, rfl⟩
  rw [← hX]
  have hzX : X.heap.size = w.heap.size + 1 := by rw [hX]; simp
  have hBX : Below w.heap.size w X := by rw [hX]; exact (Below.refl _ w).alloc (Nat.le_refl _) _
  have hCX : CellM X w.heap.size 0 (w.heap.size + 1) fun p => metL l p 0 := by rw [hX]; exact CellM.made w _
  have HX := hide (And.intro hBX (And.intro hCX hzX))
  clear hX hzX hBX hCX hmm
  go_wp2_with fail
  go_loopw [23] (fun iv wr => ∃ (k q : Nat), k ≤ M ∧ iv = .int .i64 k ∧ CellM wr w.heap.size q (w.heap.size + 1) (fun p => metL l p k) ∧ q ≤ 2 * k ∧ Below w.heap.size w wr) (fun iv _ => M - (intOf iv).toNat)
  case atStart => exact ⟨0, 0, by omega, rfl, HX.out.2.1, by omega, HX.out.1⟩
  case round =>
    obtain ⟨k, q, hk, rfl, hC, hq, hB⟩ := hrel
    obtain ⟨V, rfl⟩ : ∃ V, V = wr := ⟨_, rfl⟩
    by_cases hkM : k < M
    · have i1 : (k : Int) < (M : Int) := by omega
      obtain ⟨f, hfk⟩ : ∃ f, l[k]? = some f := ⟨_, List.getElem?_eq_getElem (by rw [← HC.out.2.2.2.1]; exact hkM)⟩
      obtain ⟨hax, hmd⟩ := HC.out.2.1 f (List.mem_of_getElem? hfk)
      obtain ⟨tb, oo, hA, _, g0, g1, g2, g3⟩ := (HC.out.1.below hB).four hfk
      subst hA
      have HV := hide (And.intro hC (And.intro hq (And.intro hB (And.intro hfk (And.intro hax hmd)))))
      clear hC hq hB hfk hmd hax
      go_upto_region 5 with fail
      obtain ⟨Y, hY⟩ : ∃ Y, Y = V.alloc (.cells #[.int .i64 f.1, .int .i64 f.2.1, .int .i64 f.2.2.1, .int .i64 f.2.2.2] 45) := ⟨_, rfl⟩
      rw [← hY]
      have hBY : Below V.heap.size V Y := by rw [hY]; exact (Below.refl _ V).alloc (Nat.le_refl _) _
      have hfY : Blk Y V.heap.size 45 #[.int .i64 f.1, .int .i64 f.2.1, .int .i64 f.2.2.1, .int .i64 f.2.2.2] := by rw [hY]; exact Blk.new _ _ _
      have hCY := (HV.out.1.below hBY (Nat.le_refl _)).same fun p => (metJ_zero l f k p).symm
      have HY := hide (And.intro hfY (And.intro hCY (HV.out.2.2.1.trans (hBY.mono HV.out.2.2.1.size))))
      clear hY hBY hfY hCY g0 g1 g2 g3
      go_wp2_with fail
      go_loopw [28] (fun jv wr => ∃ (j q' : Nat), j ≤ 2 ∧ jv = .int .i64 j ∧ Blk wr V.heap.size 45 #[.int .i64 f.1, .int .i64 f.2.1, .int .i64 f.2.2.1, .int .i64 f.2.2.2] ∧ CellM wr w.heap.size q' (w.heap.size + 1) (metJ l f k j) ∧ q' ≤ q + j ∧ Below w.heap.size w wr) (fun jv _ => 2 - (intOf jv).toNat)
      case atStart => exact ⟨0, q, by omega, rfl, HY.out.1, HY.out.2.1, by omega, HY.out.2.2⟩
      case round =>
        obtain ⟨j, q', hj, rfl, hfb, hC, hq', hB⟩ := hrel
        obtain ⟨V2, rfl⟩ : ∃ V, V = wr := ⟨_, rfl⟩
        by_cases hj2 : j < 2
        · have i2 : (j : Int) < 2 := by omega
          have hwr : IntKind.i64.wrap (-(j : Int)) = -(j : Int) := IntWalk.i64_in _ (by omega)
          have hcv := cellsF_get f hj2
          have hpt : fitsP (add3 f.2 f.1 (-(j : Int))) := add3_fits HV.out.2.2.2.2.2 _ (by unfold midI; omega)
          have hmv := fun W => moved7_any f.2 f.1 (-(j : Int)) HV.out.2.2.2.2.1 HV.out.2.2.2.2.2 (by unfold midI; omega) W
          obtain ⟨p, hpe⟩ : ∃ p, p = add3 f.2 f.1 (-(j : Int)) := ⟨_, rfl⟩
          have hmv' : ∀ W, Calls Try.prog 44 #[vP f.2, .int .i64 f.1, .int .i64 (-(j : Int))] W fun e w' => e = .returned (vP p) ∧ Lay W w' := fun W => by rw [hpe]; exact hmv W
          rw [← hpe] at hcv hpt
          have hS1 : ∀ W, Below V2.heap.size V2 W → Blk W V.heap.size 45 #[.int .i64 f.1, .int .i64 f.2.1, .int .i64 f.2.2.1, .int .i64 f.2.2.2] := fun W hW => hfb.below hW hfb.lt
          have HS := hide (And.intro hS1 (hS1 V2.drew (Below.refl _ V2).drew))
          have HM := hide hmv'
          have HP := hide (And.intro hfb (And.intro hC (And.intro hq' (And.intro hB (And.intro hcv hpt)))))
          clear hfb hC hq' hB hcv hpt hmv hmv' hpe hS1
          go_upto_region 8 with fail
          go_cut [7] (fun pv wx => ∃ g, pv = .pointer (some ⟨g, 0, none⟩) ∧ V2.heap.size ≤ g ∧ Blk wx g 68 #[.int .i64 p.1, .int .i64 p.2.1, .int .i64 p.2.2] ∧ Below V2.heap.size V2 wx)
          case first =>
            refine wp_region_tree (fun W => Blk W V.heap.size 45 #[.int .i64 f.1, .int .i64 f.2.1, .int .i64 f.2.2.1, .int .i64 f.2.2.2]) [0, 2, 3, 4, 5] (.q 0 (.q 2 (.q 3 (.q 4 (.q 5 (.two 1 (.two 6 (.one 7 (.one 8 .nil)) 7 (.one 6 (.one 8 .nil))) 7 (.one 1 (.one 6 (.one 8 .nil))))))))) mixed_ok (by kernel_rfl) ?_
            refine wpMixT_q (v := vF f) rfl (fun _ _ _ h => h) HS.out.2 ⟨rfl, fun _ h' => by obtain ⟨a0, a1, a2, a3⟩ := h'.four; simp [go_sem, a0, a1, a2, a3]⟩ ?_
            refine wpMixT_q (v := .pointer (some ⟨V.heap.size, 0, none⟩)) rfl (fun _ _ _ h => h) HS.out.2 ⟨rfl, fun _ h' => by simp [go_sem]⟩ ?_
            refine wpMixT_q (v := .int .i64 f.1) rfl (fun _ _ _ h => h) HS.out.2 ⟨rfl, fun _ h' => by obtain ⟨a0, a1, a2, a3⟩ := h'.four; simp [go_sem, a0]⟩ ?_
            refine wpMixT_q (v := .int .i64 j) rfl (fun _ _ _ h => h) HS.out.2 ⟨rfl, fun _ h' => by simp [go_sem]⟩ ?_
            refine wpMixT_q (v := .int .i64 (-(j : Int))) rfl (fun _ _ _ h => h) HS.out.2 ⟨rfl, fun _ h' => by simp [go_sem, hwr]⟩ ?_
            simp only [List.getElem_toArray, List.getElem_cons_succ, List.getElem_cons_zero, Act.put, List.setIfInBounds_toArray, List.set_cons_succ, List.set_cons_zero]
            refine wpMixT_two rfl rfl ?_ ?_
            · go_wp2_with fail
              refine (from7_any f V2.drew).mono ?_
              rintro r w5 ⟨rfl, hL5⟩
              have H5 := hide (show Below V2.heap.size V2 w5 from (Below.refl _ V2).drew.trans hL5.below)
              clear hL5
              go_wp2_with fail
              refine ⟨fun _ => HS.out.1 w5 H5.out, ?_⟩
              refine wpMixT_two rfl rfl ?_ ?_
              · go_wp2_with fail
                refine (HM.out w5).mono ?_
                rintro r w6 ⟨rfl, hL6⟩
                have H6 := hide (show Below V2.heap.size V2 w6 from H5.out.trans (hL6.below.mono H5.out.size))
                clear hL6
                go_wp2_with fail
                refine ⟨fun _ => HS.out.1 w6 H6.out, ?_⟩
                refine wpMixT_one rfl ?_
                go_wp2_with fail
                refine ⟨fun _ => HS.out.1 _ (H6.out.alloc H6.out.size _), ?_⟩
                refine wpMixT_one rfl ?_
                go_wp2_with fail
                refine ⟨fun h => absurd (h.symm.trans (show _ = false by kernel_rfl)) (by simp), wpMixT_nil ?_⟩
                go_wp2_with fail
                go_meet
                case rel => exact ⟨_, rfl, H6.out.size, Blk.new _ _ _, H6.out.alloc H6.out.size _⟩
              · go_wp2_with fail
                refine ⟨fun _ => HS.out.1 _ (H5.out.alloc H5.out.size _), ?_⟩
                refine wpMixT_one rfl ?_
                go_wp2_with fail
                have hpn := Blk.new w5 68 #[.int .i64 0, .int .i64 0, .int .i64 0]
                obtain ⟨T, hT⟩ : ∃ T, T = w5.alloc (.cells #[.int .i64 0, .int .i64 0, .int .i64 0] 68) := ⟨_, rfl⟩
                rw [← hT] at hpn ⊢
                have hBT : Below V2.heap.size V2 T := by rw [hT]; exact H5.out.alloc H5.out.size _
                clear hT
                refine (HM.out T).mono ?_
                rintro r w6 ⟨rfl, hL6⟩
                have hpn6 := hpn.below hL6.below hpn.lt
                have H6 := hide (And.intro (show Below V2.heap.size V2 w6 from hBT.trans (hL6.below.mono hBT.size)) hpn6)
                clear hL6 hpn hpn6 hBT
                go_wp2_with fail
                refine ⟨fun _ => HS.out.1 w6 H6.out.1, ?_⟩
                refine wpMixT_one rfl ?_
                have z0 := H6.out.2.frozen 0
                have z1 := H6.out.2.frozen 1
                have z2 := H6.out.2.frozen 2
                obtain ⟨y0, y1, y2⟩ := H6.out.2.three
                go_wp2_with fail
                refine ⟨fun h => absurd (h.symm.trans (show _ = false by kernel_rfl)) (by simp), wpMixT_nil ?_⟩
                go_wp2_with fail
                go_meet
                case rel => exact ⟨_, rfl, H5.out.size, H6.out.2.set3 _ _ _, ((H6.out.1.setCell H5.out.size _).setCell H5.out.size _).setCell H5.out.size _⟩
            · go_wp2_with fail
              have hpn := (Blk.new V2 68 #[.int .i64 0, .int .i64 0, .int .i64 0]).drew
              obtain ⟨T, hT⟩ : ∃ T, T = (V2.alloc (.cells #[.int .i64 0, .int .i64 0, .int .i64 0] 68)).drew := ⟨_, rfl⟩
              rw [← hT] at hpn ⊢
              have hBT : Below V2.heap.size V2 T := by rw [hT]; exact ((Below.refl _ V2).alloc (Nat.le_refl _) _).drew
              clear hT
              refine ⟨fun _ => HS.out.1 T hBT, ?_⟩
              refine wpMixT_one rfl ?_
              go_wp2_with fail
              refine (from7_any f T).mono ?_
              rintro r w5 ⟨rfl, hL5⟩
              have hpn5 := hpn.below hL5.below hpn.lt
              have H5 := hide (And.intro (show Below V2.heap.size V2 w5 from hBT.trans (hL5.below.mono hBT.size)) hpn5)
              clear hL5 hpn hpn5 hBT
              go_wp2_with fail
              refine ⟨fun _ => HS.out.1 w5 H5.out.1, ?_⟩
              refine wpMixT_one rfl ?_
              go_wp2_with fail
              refine (HM.out w5).mono ?_
              rintro r w6 ⟨rfl, hL6⟩
              have hpn6 := H5.out.2.below hL6.below H5.out.2.lt
              have H6 := hide (And.intro (show Below V2.heap.size V2 w6 from H5.out.1.trans (hL6.below.mono H5.out.1.size)) hpn6)
              clear hL6 hpn6
              go_wp2_with fail
              refine ⟨fun _ => HS.out.1 w6 H6.out.1, ?_⟩
              refine wpMixT_one rfl ?_
              have z0 := H6.out.2.frozen 0
              have z1 := H6.out.2.frozen 1
              have z2 := H6.out.2.frozen 2
              obtain ⟨y0, y1, y2⟩ := H6.out.2.three
              go_wp2_with fail
              refine ⟨fun h => absurd (h.symm.trans (show _ = false by kernel_rfl)) (by simp), wpMixT_nil ?_⟩
              go_wp2_with fail
              go_meet
              case rel => exact ⟨_, rfl, Nat.le_refl _, H6.out.2.set3 _ _ _, ((H6.out.1.setCell (Nat.le_refl _) _).setCell (Nat.le_refl _) _).setCell (Nat.le_refl _) _⟩
          case rest =>
            obtain ⟨gp, rfl, hgp, hpb, hBU⟩ := hcut
            obtain ⟨U, rfl⟩ : ∃ U, U = wc := ⟨_, rfl⟩
            obtain ⟨p0, p1, p2⟩ := hpb.three
            have hCU := HP.out.2.1.below hBU (Nat.le_refl _)
            have hcb := HP.out.2.1.lt
            have hfU := HP.out.1.below hBU HP.out.1.lt
            have hVf := HP.out.1.lt
            have hCV := HV.out.1.lt
            have hcbw : w.heap.size < w.heap.size + 1 := by omega
            obtain ⟨st, w1, v, hrun, hg1, hz1, hown, hst⟩ := (hCU.below ((Below.refl U.heap.size U).alloc (Nat.le_refl _) (.cells #[.int .i64 k] 3)) (Nat.le_refl _)).entry (by have := HP.out.2.2.1; have := HV.out.2.1; unfold maxLen; omega) p HP.out.2.2.2.2.2 hcbw
            have hkb : Blk w1 U.heap.size 3 #[.int .i64 k] := (Blk.new U _ _).grown hg1 (fun e => by have := hBU.size; injection e with e; omega)
            have hf1 := (hfU.alloc (.cells #[.int .i64 k] 3)).grown hg1 (fun e => by injection e with e; omega)
            have hBw1 : Below w.heap.size w w1 := ((HP.out.2.2.2.1.trans (hBU.mono HP.out.2.2.2.1.size)).alloc (Nat.le_trans HP.out.2.2.2.1.size hBU.size) _).grown hg1 (by simp; have := HP.out.2.2.2.1.size; have := hBU.size; omega) (fun r hr => by cases hr; omega)
            have hzb : w.heap.size + 1 ≤ w1.heap.size := by have := hBU.size; rw [hz1]; simp; omega
            have hlen := metJ_len l f k j p
            have hsuc := metJ_succ l f k HP.out.2.2.2.2.1
            obtain ⟨Gp, hGp⟩ : ∃ G, G = metJ l f k j p := ⟨_, rfl⟩
            rw [← hGp] at hown hst hlen hsuc
            obtain ⟨nG, hnG⟩ : ∃ n, n = Gp.length := ⟨_, rfl⟩
            rw [← hnG] at hown hst hlen
            have HQ := hide (And.intro hst (And.intro hkb (And.intro hf1 (And.intro hBw1 (And.intro hsuc (And.intro hg1 (And.intro hzb hCV)))))))
            clear hst hkb hf1 hBw1 hsuc hg1 hnG hGp hCU hfU hBU hpb hz1 hgp hzb
            go_wp2_with (at_builtin; refine wpList_append1 rfl _ _ _ rfl Try.underlying22 infoI7 rfl (by omega) encN_len encN_one rfl hown U.heap.size 1 k rfl HQ.out.2.1 (by unfold maxLen; omega) (by omega) (by have := HQ.out.2.2.2.2.2.2.1; omega) ?_; intro g cap w2 hown2 hg2 hB2 hat2 hgb2 hlt2; have hg2' : w1.grownBy w2 v.ownBlock := hg2; have hat2' : v.ownBlock = some g ∨ g = w1.heap.size := hat2; clear hg2 hat2; obtain ⟨w3, hrun3, hC3, hg3, hz3⟩ := HQ.out.1 w2 _ g k hg2' hown2 rfl hat2'; simp only [goInt] at hrun3)
            have hf2 := HQ.out.2.2.1.grown hg2' (blk_own_ne HQ.out.2.2.1 hown (by decide))
            have hf3 := hf2.grown hg3 (fun e => by injection e with e; omega)
            have hsz2 := hB2.size
            have hBw2 : Below w.heap.size w w2 := HQ.out.2.2.2.1.trans (hB2.mono (by omega))
            have hBw3 := hBw2.grown hg3 hBw2.size (fun r hr => by cases hr; omega)
            have hC4 := hC3.same fun x => (HQ.out.2.2.2.2.1 x).symm
            have HE := hide (And.intro hf3 (And.intro hC4 hBw3))
            clear hf2 hf3 hsz2 hBw2 hBw3 hC3 hC4 hg2' hat2' hg3 hz3
            go_wp2
            go_roundw
            case rel => exact ⟨j + 1, q' + 1, by omega, by go_num, HE.out.1, HE.out.2.1, by have := HP.out.2.2.1; omega, HE.out.2.2⟩
            case measure => simp [intOf]; omega
        · have i2 : ¬ (j : Int) < 2 := by omega
          have hje : j = 2 := by omega
          subst hje
          have hC2 := hC.same fun p => metJ_end HV.out.2.2.2.1 p
          have HE := hide (And.intro hC2 (And.intro hq' hB))
          clear hC hC2 hq' hB hfb
          go_wp2
          go_roundw
          case rel => exact ⟨k + 1, q', by omega, by go_num, HE.out.1, by have := HE.out.2.1; have := HV.out.2.1; omega, HE.out.2.2⟩
          case measure => simp [intOf]; omega
    · have hke : k = M := by omega
      subst hke
      have i1 : ¬ (k : Int) < (k : Int) := by omega
      have HV := hide (And.intro hC hB)
      clear hC hq hB hk hkM HX
      have hmk2 := HC.out.2.2.2.2.2.2
      have hSt : CmpS V l 0 (.slice none 0 0) (V.alloc (.cells Z0 4)) [] := by
        have := CmpS.start V l
        rw [HC.out.2.2.2.2.2.1, HC.out.2.2.2.1]
        exact this
      go_upto_region 14 with fail
      obtain ⟨X2, hX2⟩ : ∃ X, X = V.alloc (.cells Z0 4) := ⟨_, rfl⟩
      rw [← hX2] at hSt ⊢
      have HS0 := hide hSt
      clear hX2 hSt hmk2
      go_wp2_with fail
      go_loopw [8, 53] (fun ov iv wr => ∃ i, i ≤ k ∧ iv = .int .i64 i ∧ CmpS V l i ov wr []) (fun _ iv _ => k - (intOf iv).toNat)
      case atStart => exact ⟨0, by omega, rfl, HS0.out⟩
      case round =>
        obtain ⟨i, hi, rfl, hS⟩ := hrel
        obtain ⟨W, rfl⟩ : ∃ W, W = wr := ⟨_, rfl⟩
        by_cases hik : ¬ i < k
        · have i2 : ¬ (i : Int) < (k : Int) := by omega
          have hie : i = k := by omega
          have HE := hide (And.intro hie hS)
          clear hS hie hik
          go_wp2
          go_ret
          refine ⟨_, rfl, ?_, HV.out.2.trans (HE.out.2.bel.mono HV.out.2.size)⟩
          have h := HE.out.2.out
          rw [HE.out.1, HC.out.2.2.2.1, outP_end] at h
          exact h.base_le (by have := HV.out.2.size; omega)
        · have hik : i < k := by omega
          have i2 : (i : Int) < (k : Int) := by omega
          obtain ⟨f, hfi⟩ : ∃ f, l[i]? = some f := ⟨_, List.getElem?_eq_getElem (by rw [← HC.out.2.2.2.1]; exact hik)⟩
          have hsn := hS.seen hfi
          have hfr := hS.see.frozen i
          rw [show decide (i ∈ ([] : List Nat)) = false from rfl, Bool.or_false] at hsn
          obtain ⟨bb, hbb⟩ : ∃ b, doneB l i f = b := ⟨_, rfl⟩
          rw [hbb] at hsn
          cases bb with
          | true =>
            have HE := hide (hS.skip HC.out.2.2.2.2.1 hfi hbb)
            clear hS hfi hbb
            go_wp2
            go_roundw
            case rel => exact ⟨i + 1, by omega, by go_num, HE.out⟩
            case measure => simp [intOf]; omega
          | false =>
            have hilen : i < l.length := by rw [← HC.out.2.2.2.1]; exact hik
            have hp1 := hS.put hilen
            have hlt := hS.lt
            go_upto_region 20 with fail
            obtain ⟨X3, hX3⟩ : ∃ X, X = (W.setCell ⟨V.heap.size, i, none⟩ (.bool true)).alloc (.cells #[.int .i64 i] 3) := ⟨_, rfl⟩
            have hzs : (W.setCell ⟨V.heap.size, i, none⟩ (.bool true)).heap.size = W.heap.size := by simp
            have ho3 : Own encN 1 3 X3 (V.heap.size + 1) (.slice (some ⟨W.heap.size, 0, none⟩) 1 1) 1 [i] := by
              have h := own_one7 (enc := encN) (k := 1) (e := 3) (w := W.setCell ⟨V.heap.size, i, none⟩ (.bool true)) (base := V.heap.size + 1) encN_len (by omega) i
              rw [hzs] at h
              rw [hX3]
              exact h
            have hS3 : CmpS V l i u8 X3 [i] := by
              rw [hX3]
              exact hp1.below ((Below.refl _ _).alloc (Nat.le_refl _) _)
            rw [← hX3]
            have H3 := hide (And.intro ho3 (And.intro hS3 (And.intro hfi (And.intro hbb hilen))))
            clear hX3 ho3 hS3 hp1 hzs hS hsn hfr hfi hbb hilen
            go_wp2_with fail
            go_loopw [11, 12] (fun pv kv wr => ∃ (m n : Nat) (ps : List Nat), m ≤ n ∧ n ≤ k ∧ kv = .int .i64 m ∧ Own encN 1 3 wr (V.heap.size + 1) pv n ps ∧ PartP l i f ps ∧ closP l ps m 0 [] ∧ CmpS V l i u8 wr ps) (fun _ kv _ => k - (intOf kv).toNat)
            case atStart => exact ⟨0, 1, [i], by omega, by omega, rfl, H3.out.1, PartP.start H3.out.2.2.1, closP.start l i, H3.out.2.1⟩
            case round =>
              obtain ⟨m, n, ps, hmn, hnk, rfl, hown, hP, hcl, hS⟩ := hrel
              obtain ⟨W2, rfl⟩ : ∃ W, W = wr := ⟨_, rfl⟩
              obtain ⟨pA, pc, rfl⟩ := hown.form
              by_cases hmn2 : m < n
              · have i3 : (m : Int) < (n : Int) := by omega
                obtain ⟨a, hpa⟩ : ∃ a, ps[m]? = some a := ⟨_, List.getElem?_eq_getElem (by rw [← hown.1]; exact hmn2)⟩
                obtain ⟨pb, po, rfl, _, d0⟩ := (hown.sl encN_len (Nat.le_refl _)).one7 hpa
                obtain ⟨g, hga, hcg⟩ := hP.conn a (List.mem_of_getElem? hpa)
                have hak : a < k := by have := (List.getElem?_eq_some_iff.1 hga).1; have := HC.out.2.2.2.1; omega
                have i4 : (a : Int) < (k : Int) := by omega
                obtain ⟨hax, hmd⟩ := HC.out.2.1 g (List.mem_of_getElem? hga)
                obtain ⟨tb, oo, hA, _, g0, g1, g2, g3⟩ := (HC.out.1.below (HV.out.2.trans (hS.bel.mono HV.out.2.size))).four hga
                subst hA
                have HW2 := hide (And.intro hown (And.intro hP (And.intro hcl (And.intro hS (And.intro hpa (And.intro hga (And.intro hax hmd)))))))
                clear hown hP hcl hS hpa hga hcg hax hmd
                go_upto_region 24 with fail
                obtain ⟨Y, hY⟩ : ∃ Y, Y = W2.alloc (.cells #[.int .i64 g.1, .int .i64 g.2.1, .int .i64 g.2.2.1, .int .i64 g.2.2.2] 45) := ⟨_, rfl⟩
                rw [← hY]
                have hBY : Below W2.heap.size W2 Y := by rw [hY]; exact (Below.refl _ W2).alloc (Nat.le_refl _) _
                have hgY : Blk Y W2.heap.size 45 #[.int .i64 g.1, .int .i64 g.2.1, .int .i64 g.2.2.1, .int .i64 g.2.2.2] := by rw [hY]; exact Blk.new _ _ _
                have HY := hide (And.intro hgY (And.intro (HW2.out.1.below hBY (Nat.le_refl _)) (HW2.out.2.2.2.1.below hBY)))
                clear hY hBY hgY g0 g1 g2 g3 d0
                go_wp2_with fail
                go_loopw [11, 78] (fun pv bv wr => ∃ (b n : Nat) (ps : List Nat), b ≤ 2 ∧ m < n ∧ n ≤ k ∧ bv = .int .i64 b ∧ ps[m]? = some a ∧ Own encN 1 3 wr (V.heap.size + 1) pv n ps ∧ PartP l i f ps ∧ closP l ps m b [] ∧ CmpS V l i u8 wr ps ∧ Blk wr W2.heap.size 45 #[.int .i64 g.1, .int .i64 g.2.1, .int .i64 g.2.2.1, .int .i64 g.2.2.2]) (fun _ bv _ => 2 - (intOf bv).toNat)
                case atStart => exact ⟨0, n, ps, by omega, hmn2, hnk, rfl, HW2.out.2.2.2.2.1, HY.out.2.1, HW2.out.2.1, HW2.out.2.2.1, HY.out.2.2, HY.out.1⟩
                case round =>
                  obtain ⟨b, n5, ps5, hb, hmn5, hnk5, rfl, hpa, hown, hP, hcl, hS, hgb⟩ := hrel
                  obtain ⟨W5, rfl⟩ : ∃ W, W = wr := ⟨_, rfl⟩
                  obtain ⟨pA5, pc5, rfl⟩ := hown.form
                  by_cases hb2 : b < 2
                  · have i5 : (b : Int) < 2 := by omega
                    have hwr : IntKind.i64.wrap (-(b : Int)) = -(b : Int) := IntWalk.i64_in _ (by omega)
                    have hcv := cellsF_get g hb2
                    have hpt : fitsP (add3 g.2 g.1 (-(b : Int))) := add3_fits HW2.out.2.2.2.2.2.2.2 _ (by unfold midI; omega)
                    have hmv := fun W => moved7_any g.2 g.1 (-(b : Int)) HW2.out.2.2.2.2.2.2.1 HW2.out.2.2.2.2.2.2.2 (by unfold midI; omega) W
                    obtain ⟨p, hpe⟩ : ∃ p, p = add3 g.2 g.1 (-(b : Int)) := ⟨_, rfl⟩
                    have hmv' : ∀ W, Calls Try.prog 44 #[vP g.2, .int .i64 g.1, .int .i64 (-(b : Int))] W fun e w' => e = .returned (vP p) ∧ Lay W w' := fun W => by rw [hpe]; exact hmv W
                    rw [← hpe] at hcv hpt
                    have hS1 : ∀ W, Below W5.heap.size W5 W → Blk W W2.heap.size 45 #[.int .i64 g.1, .int .i64 g.2.1, .int .i64 g.2.2.1, .int .i64 g.2.2.2] := fun W hW => hgb.below hW hgb.lt
                    have HS := hide (And.intro hS1 (hS1 W5.drew (Below.refl _ W5).drew))
                    obtain ⟨A6, c6, hlk, hsl⟩ := HV.out.1.look2 p hpt
                    have hGm : ∀ j, j ∈ metL l p k ↔ j < k ∧ ∃ f, l[j]? = some f ∧ p ∈ cellsF f := fun j => metL_mem
                    obtain ⟨G, hG⟩ : ∃ G, G = metL l p k := ⟨_, rfl⟩
                    rw [← hG] at hlk hsl hGm
                    have hGle := metL_len l p k
                    rw [← hG] at hGle
                    obtain ⟨gl, hgl⟩ : ∃ n, n = G.length := ⟨_, rfl⟩
                    rw [← hgl] at hlk hGle
                    have HM := hide hmv'
                    have HG := hide (And.intro hlk (And.intro hsl (And.intro hGm (And.intro hG hgl))))
                    have HP := hide (And.intro hown (And.intro hP (And.intro hcl (And.intro hS (And.intro hgb (And.intro hpa hcv))))))
                    clear hown hP hcl hS hgb hpa hcv hpt hmv hmv' hpe hS1 hlk hsl hGm hG hgl
                    go_upto_region 27 with fail
                    refine wp_region_mix (fun W => Blk W W2.heap.size 45 #[.int .i64 g.1, .int .i64 g.2.1, .int .i64 g.2.2.1, .int .i64 g.2.2.2]) [0, 1, 3, 4, 5, 6, 10] [0, 1, 3, 4, 5, 6, 10, 2, 7, 8, 9] mixed_ok (by kernel_rfl) ?_
                    refine wpMix_q (v := .map (some w.heap.size)) rfl rfl (fun _ _ _ h => h) HS.out.2 ⟨rfl, fun _ h' => by simp [go_sem]⟩ ?_
                    refine wpMix_q (v := vF g) rfl rfl (fun _ _ _ h => h) HS.out.2 ⟨rfl, fun _ h' => by obtain ⟨a0, a1, a2, a3⟩ := h'.four; simp [go_sem, a0, a1, a2, a3]⟩ ?_
                    refine wpMix_q (v := .pointer (some ⟨W2.heap.size, 0, none⟩)) rfl rfl (fun _ _ _ h => h) HS.out.2 ⟨rfl, fun _ h' => by simp [go_sem]⟩ ?_
                    refine wpMix_q (v := .int .i64 g.1) rfl rfl (fun _ _ _ h => h) HS.out.2 ⟨rfl, fun _ h' => by obtain ⟨a0, a1, a2, a3⟩ := h'.four; simp [go_sem, a0]⟩ ?_
                    refine wpMix_q (v := .int .i64 b) rfl rfl (fun _ _ _ h => h) HS.out.2 ⟨rfl, fun _ h' => by simp [go_sem]⟩ ?_
                    refine wpMix_q (v := .int .i64 (-(b : Int))) rfl rfl (fun _ _ _ h => h) HS.out.2 ⟨rfl, fun _ h' => by simp [go_sem, hwr]⟩ ?_
                    simp only [List.getElem_toArray, List.getElem_cons_succ, List.getElem_cons_zero, Act.put, List.setIfInBounds_toArray, List.set_cons_succ, List.set_cons_zero]
                    refine wpMix_q (v := .int .i64 0) rfl rfl (fun _ _ _ h => h) HS.out.2 ⟨rfl, fun _ h' => by simp [go_sem]⟩ ?_
                    simp only [List.getElem_toArray, List.getElem_cons_succ, List.getElem_cons_zero, Act.put, List.setIfInBounds_toArray, List.set_cons_succ, List.set_cons_zero]
                    refine wpMix_n rfl rfl ?_
                    go_wp2_with fail
                    refine (from7_any g W5.drew).mono ?_
                    rintro r w6 ⟨rfl, hL6⟩
                    have H6 := hide (show Below W5.heap.size W5 w6 from (Below.refl _ W5).drew.trans hL6.below)
                    clear hL6
                    go_wp2_with fail
                    refine ⟨fun _ => HS.out.1 w6 H6.out, ?_⟩
                    refine wpMix_n rfl rfl ?_
                    go_wp2_with fail
                    refine (HM.out w6).mono ?_
                    rintro r w7 ⟨rfl, hL7⟩
                    have H7 := hide (show Below W5.heap.size W5 w7 from H6.out.trans (hL7.below.mono H6.out.size))
                    clear hL7
                    go_wp2_with fail
                    refine ⟨fun _ => HS.out.1 w7 H7.out, ?_⟩
                    refine wpMix_n rfl rfl ?_
                    have hlk7 := HG.out.1 w7 (HP.out.2.2.2.1.below H7.out).bel
                    go_wp2_with fail
                    refine ⟨fun _ => HS.out.1 w7 H7.out, ?_⟩
                    refine wpMix_n rfl rfl ?_
                    go_wp2_with fail
                    refine ⟨fun _ => HS.out.1 w7 H7.out, ?_⟩
                    refine wpMix_nil ?_
                    clear hlk7
                    have HP7 := hide (And.intro (HP.out.1.below H7.out (Nat.le_refl _)) (And.intro (HP.out.2.2.2.1.below H7.out) (HS.out.1 w7 H7.out)))
                    go_wp2_with fail
                    go_loopw [11, 91] (fun pv tv wr => ∃ (t n : Nat) (ps : List Nat), t ≤ gl ∧ m < n ∧ n ≤ k ∧ tv = .int .i64 t ∧ ps[m]? = some a ∧ Own encN 1 3 wr (V.heap.size + 1) pv n ps ∧ PartP l i f ps ∧ closP l ps m b (G.take t) ∧ CmpS V l i u8 wr ps ∧ Blk wr W2.heap.size 45 #[.int .i64 g.1, .int .i64 g.2.1, .int .i64 g.2.2.1, .int .i64 g.2.2.2]) (fun _ tv _ => gl - (intOf tv).toNat)
                    case atStart => exact ⟨0, n5, ps5, by omega, hmn5, hnk5, rfl, HP.out.2.2.2.2.2.1, HP7.out.1, HP.out.2.1, HP.out.2.2.1, HP7.out.2.1, HP7.out.2.2⟩
                    case round =>
                      obtain ⟨t, n6, ps6, ht, hmn6, hnk6, rfl, hpa, hown, hP, hcl, hS, hgb⟩ := hrel
                      obtain ⟨W8, rfl⟩ : ∃ W, W = wr := ⟨_, rfl⟩
                      obtain ⟨pA6, pc6, rfl⟩ := hown.form
                      by_cases htg : t < gl
                      · have i6 : (t : Int) < (gl : Int) := by omega
                        obtain ⟨j, hGj⟩ : ∃ j, G[t]? = some j := ⟨_, List.getElem?_eq_getElem (by rw [← HG.out.2.2.2.2]; exact htg)⟩
                        obtain ⟨hjk, h, hlj, hpc⟩ := (HG.out.2.2.1 j).1 (List.mem_of_getElem? hGj)
                        have i7 : (j : Int) < (k : Int) := by omega
                        obtain ⟨gb, go, hA6, _, e0⟩ := (HG.out.2.1.below hS.bel).one7 hGj
                        subst hA6
                        have hdn := part_new hP H3.out.2.2.1 H3.out.2.2.2.1 (List.mem_of_getElem? hpa) HW2.out.2.2.2.2.2.1 hlj (touch_of (List.mem_of_getElem? HP.out.2.2.2.2.2.2) hpc)
                        have hsn := hS.seen hlj
                        have hfr := hS.see.frozen j
                        rw [hdn, Bool.false_or] at hsn
                        have htk : G.take (t + 1) = G.take t ++ [j] := by rw [List.take_add_one, hGj]; rfl
                        by_cases hjp : j ∈ ps6
                        · rw [decide_eq_true hjp] at hsn
                          have hcl2 := hcl.met hjp
                          rw [← htk] at hcl2
                          have HE := hide (And.intro hpa (And.intro hown (And.intro hP (And.intro hcl2 (And.intro hS hgb)))))
                          clear hpa hown hP hcl hcl2 hS hgb hGj hlj hpc hdn htk hjp
                          go_wp2
                          go_roundw
                          case rel => exact ⟨t + 1, n6, ps6, by omega, hmn6, hnk6, by go_num, HE.out.1, HE.out.2.1, HE.out.2.2.1, HE.out.2.2.2.1, HE.out.2.2.2.2.1, HE.out.2.2.2.2.2⟩
                          case measure => simp [intOf]; omega
                        · rw [decide_eq_false hjp] at hsn
                          have hjl : j < l.length := by rw [← HC.out.2.2.2.1]; exact hjk
                          have hPn := hP.add hjp (List.mem_of_getElem? hpa) HW2.out.2.2.2.2.2.1 hlj (touch_of (List.mem_of_getElem? HP.out.2.2.2.2.2.2) hpc)
                          have hln := nodup_lt_len hPn.nd hPn.lt
                          rw [List.length_append, List.length_singleton, ← hown.1, ← HC.out.2.2.2.1] at hln
                          have hcl2 := (hcl.grow (by rw [← hown.1]; exact hmn6) j).met (x := j) (by simp)
                          rw [← htk] at hcl2
                          have hpa2 : (ps6 ++ [j])[m]? = some a := by rw [List.getElem?_append_left (by rw [← hown.1]; exact hmn6)]; exact hpa
                          have hzs : (W8.setCell ⟨V.heap.size, j, none⟩ (.bool true)).heap.size = W8.heap.size := by simp
                          have ho8 := (hown.step (grown_set7 W8 V.heap.size j (.bool true)) (fun r hr => .inl (by injection hr with hr; omega))).alloc (.cells #[.int .i64 j] 3)
                          have hS8 := (hS.put hjl).below ((Below.refl (W8.setCell ⟨V.heap.size, j, none⟩ (.bool true)).heap.size _).alloc (Nat.le_refl _) (.cells #[.int .i64 j] 3))
                          have hgb8 := (hgb.far (p := ⟨V.heap.size, j, none⟩) (by have := HW2.out.2.2.2.1.lt; dsimp only; omega) (.bool true)).alloc (.cells #[.int .i64 j] 3)
                          have hjb : Blk ((W8.setCell ⟨V.heap.size, j, none⟩ (.bool true)).alloc (.cells #[.int .i64 j] 3)) W8.heap.size 3 #[.int .i64 j] := Blk.new' _ _ _ _ hzs.symm
                          have hz8 : V.heap.size + 1 ≤ ((W8.setCell ⟨V.heap.size, j, none⟩ (.bool true)).alloc (.cells #[.int .i64 j] 3)).heap.size := by have := hS.lt; simp; omega
                          have HE := hide (And.intro hPn (And.intro hcl2 (And.intro hpa2 (And.intro hS8 (And.intro hgb8 (And.intro ho8 (And.intro hjb hz8)))))))
                          clear hpa hown hP hcl hcl2 hS hgb hGj hlj hpc hdn htk hjp hjl hPn hpa2 hzs ho8 hS8 hgb8 hjb hz8
                          go_wp2_with (at_builtin; refine wpList_append1 rfl _ _ _ rfl Try.underlying22 infoI7 rfl (by omega) encN_len encN_one rfl HE.out.2.2.2.2.2.1 W8.heap.size 1 j rfl HE.out.2.2.2.2.2.2.1 (by unfold maxLen; omega) (by omega) HE.out.2.2.2.2.2.2.2 ?_; intro g9 cap9 w9 hown9 hg9 hB9 hat9 hgb9 hlt9)
                          exact ⟨⟨t + 1, n6 + 1, ps6 ++ [j], by omega, by omega, hln, by push_cast; rfl, HE.out.2.2.1, hown9, HE.out.1, HE.out.2.1, HE.out.2.2.2.1.row HE.out.2.2.2.2.2.1 hg9, HE.out.2.2.2.2.1.grown hg9 (blk_own_ne HE.out.2.2.2.2.1 HE.out.2.2.2.2.2.1 (by decide))⟩, by simp [intOf]; omega⟩
                      · have i6 : ¬ (t : Int) < (gl : Int) := by omega
                        have hte : t = gl := by omega
                        have hcl2 : closP l ps6 m (b + 1) [] := by
                          refine closP.cell ?_ hpa HW2.out.2.2.2.2.2.1 HP.out.2.2.2.2.2.2
                          rw [hte, HG.out.2.2.2.2, List.take_length, HG.out.2.2.2.1, HC.out.2.2.2.1] at hcl
                          exact hcl
                        have HE := hide (And.intro hpa (And.intro hown (And.intro hP (And.intro hcl2 (And.intro hS hgb)))))
                        clear hpa hown hP hcl hcl2 hS hgb hte htg ht
                        go_wp2
                        go_roundw
                        case rel => exact ⟨b + 1, n6, ps6, by omega, hmn6, hnk6, by go_num, HE.out.1, HE.out.2.1, HE.out.2.2.1, HE.out.2.2.2.1, HE.out.2.2.2.2.1, HE.out.2.2.2.2.2⟩
                        case measure => simp [intOf]; omega
                  · have i5 : ¬ (b : Int) < 2 := by omega
                    have hbe : b = 2 := by omega
                    subst hbe
                    have hcl2 := hcl.next hpa HW2.out.2.2.2.2.2.1
                    have HE := hide (And.intro hown (And.intro hP (And.intro hcl2 hS)))
                    clear hpa hown hP hcl hcl2 hS hgb hb hb2
                    rw [show ((2 : Nat) : Int) = 2 from rfl] at *
                    go_wp2
                    go_roundw
                    case rel => exact ⟨m + 1, n5, ps5, by omega, hnk5, by go_num, HE.out.1, HE.out.2.1, HE.out.2.2.1, HE.out.2.2.2⟩
                    case measure => simp [intOf]; omega
              · have i3 : ¬ (m : Int) < (n : Int) := by omega
                have hme : m = n := by omega
                have hmps : m = ps.length := by rw [hme]; exact hown.1
                rw [hmps] at hcl
                have hfc := fac_comp HC.out.2.2.1 HC.out.2.2.2.2.1 hP H3.out.2.2.1 hcl
                have hnx := seeL_next HC.out.2.2.2.2.1 H3.out.2.2.1 (hcl.done hP H3.out.2.2.1)
                have hon := outP_next HC.out.2.2.2.2.1 H3.out.2.2.1 (fun h => by have h1 := doneB_iff.2 h; rw [H3.out.2.2.2.1] at h1; cases h1)
                have hne : facL l ps ≠ [] := fun h => by
                  have h1 := facL_len l ps
                  rw [h] at h1
                  have h2 := hP.has
                  rw [List.eq_nil_of_length_eq_zero h1.symm] at h2
                  cases h2
                have hmem : ∀ j ∈ ps, ∃ g, l[j]? = some g := fun j hj => by
                  obtain ⟨g, hg, _⟩ := hP.conn j hj
                  exact ⟨g, hg⟩
                have HW2 := hide (And.intro hown (And.intro hS (And.intro hfc (And.intro hnx (And.intro hon (And.intro hne hmem))))))
                clear hown hP hcl hS hfc hnx hon hne hmem hmps hmn hmn2
                go_wp2_with fail
                go_loopw [17, 111] (fun fv tv wr => ∃ t : Nat, t ≤ n ∧ tv = .int .i64 t ∧ Own encF 4 45 wr W2.heap.size fv t (facL l (ps.take t)) ∧ Below W2.heap.size W2 wr) (fun _ tv _ => n - (intOf tv).toNat)
                case atStart => exact ⟨0, by omega, rfl, Own.nil, Below.refl _ _⟩
                case round =>
                  obtain ⟨t, ht, rfl, hof, hB⟩ := hrel
                  obtain ⟨W6, rfl⟩ : ∃ W, W = wr := ⟨_, rfl⟩
                  by_cases htn : t < n
                  · have i6 : (t : Int) < (n : Int) := by omega
                    obtain ⟨a, hpa⟩ : ∃ a, ps[t]? = some a := ⟨_, List.getElem?_eq_getElem (by rw [← HW2.out.1.1]; exact htn)⟩
                    obtain ⟨pb, po, hpA, _, d0⟩ := ((HW2.out.1.sl encN_len (Nat.le_refl _)).below hB).one7 hpa
                    subst hpA
                    obtain ⟨g, hga⟩ := HW2.out.2.2.2.2.2.2 a (List.mem_of_getElem? hpa)
                    have hak : a < k := by have := (List.getElem?_eq_some_iff.1 hga).1; have := HC.out.2.2.2.1; omega
                    have i4 : (a : Int) < (k : Int) := by omega
                    obtain ⟨tb, oo, hA, _, g0, g1, g2, g3⟩ := (HC.out.1.below (HV.out.2.trans ((HW2.out.2.1.bel.trans (hB.mono HW2.out.2.1.bel.size)).mono HV.out.2.size))).four hga
                    subst hA
                    have hsn := facL_snoc l (ps.take t) hga
                    have htk : ps.take (t + 1) = ps.take t ++ [a] := by rw [List.take_add_one, hpa]; rfl
                    rw [← htk] at hsn
                    have hz6 := hB.size
                    have HE := hide (And.intro hof (And.intro hB hsn))
                    clear hof hB hsn hga hpa htk
                    go_wp2_with (at_builtin; refine wpList_append1 rfl _ _ _ rfl Try.underlying38 infoF rfl (by omega) encF_len encF_one rfl (HE.out.1.alloc _) W6.heap.size 1 g rfl (Blk.new _ _ _) (by unfold maxLen; omega) (by omega) (by simp; omega) ?_; intro g9 cap9 w9 hown9 hg9 hB9 hat9 hgb9 hlt9)
                    refine ⟨⟨t + 1, by omega, by push_cast; rfl, by rw [HE.out.2.2]; exact hown9, ?_⟩, by simp [intOf]; omega⟩
                    exact (HE.out.2.1.alloc hz6 _).trans hB9
                  · have i6 : ¬ (t : Int) < (n : Int) := by omega
                    have hte : t = n := by omega
                    subst hte
                    rw [show ps.take t = ps by rw [HW2.out.1.1, List.take_length]] at hof
                    obtain ⟨g, cap, rfl, hbg, hltg⟩ := hof.at HW2.out.2.2.2.2.2.1
                    have hcal := sort_face_own g cap t W2.heap.size (facL l ps) W6 hof (by rw [← hof.1]; omega)
                    rw [HW2.out.2.2.1] at hcal
                    have HE := hide (And.intro hcal (And.intro hB hbg))
                    clear hof hcal hB hbg hltg ht htn
                    go_upto_region 42 with (go_at_call 45; refine HE.out.1.mono ?_; rintro e w8 ⟨rfl, hg8, ho8⟩)
                    have hB8 : Below W2.heap.size W2 w8 := HE.out.2.1.grown hg8 HE.out.2.1.size (fun r hr => by injection hr with hr; have := HE.out.2.2; omega)
                    have hS8 := HW2.out.2.1.below hB8
                    obtain ⟨ss, hss, hpp⟩ := hS8.out
                    have hol := outP_len l i
                    obtain ⟨no, hno⟩ : ∃ n, n = (outP l i).length := ⟨_, rfl⟩
                    rw [← hno] at hss hol
                    have hz8 := hS8.lt
                    have HF := hide (And.intro hss (And.intro hpp (And.intro hS8 (And.intro hno (And.intro ho8 hB8)))))
                    clear hss hpp hS8 hno ho8 hB8 hg8
                    go_wp2_with (at_builtin; refine wpList_append1 rfl _ _ _ rfl Try.underlying58 infoI7s rfl (by omega) encS_len encS_one rfl (HF.out.1.alloc _) w8.heap.size 1 (some ⟨g, 0, none⟩, t, cap) rfl (Blk.new _ _ _) (by unfold maxLen; omega) (by omega) (by simp; omega) ?_; intro g9 cap9 w9 hown9 hg9 hB9 hat9 hgb9 hlt9)
                    have hg9' : (w8.alloc (.cells #[.slice (some ⟨g, 0, none⟩) t cap] 38)).grownBy w9 u8.ownBlock := hg9
                    have hSa := HF.out.2.2.1.below ((Below.refl _ w8).alloc (Nat.le_refl _) (.cells #[.slice (some ⟨g, 0, none⟩) t cap] 38))
                    have htl : t = (compF l f).length := HF.out.2.2.2.2.1.1
                    refine ⟨⟨i + 1, by omega, by push_cast; rfl, ?_, ?_, ?_⟩, by simp [intOf]; omega⟩
                    · rw [HW2.out.2.2.2.1]
                      refine Blk.grown hSa.see hg9' (fun e => ?_)
                      have := (HF.out.1.blk _ e.symm).1
                      omega
                    · rw [HW2.out.2.2.2.2.1]
                      have hso := Pcs.snoc (k := 4) (enc := encF) (e := 45) (te := 38) (ss := ss) (ps := outP l i) (v := u8) (w := w8.alloc (.cells #[.slice (some ⟨g, 0, none⟩) t cap] 38)) (w' := w9) (base := V.heap.size + 1) (p := compF l f) (A := some ⟨g, 0, none⟩) (c := cap) (v' := .slice (some ⟨g9, 0, none⟩) (no + 1) cap9)
                        (by decide) (by rw [← HF.out.2.2.2.1]; exact HF.out.1.alloc _) (fun i' p' hi' => by obtain ⟨A', c', h1, h2⟩ := HF.out.2.1 i' p' hi'; exact ⟨A', c', h1, h2.alloc _⟩)
                        (by rw [← htl]; exact (HF.out.2.2.2.2.1.base_le (by have := HW2.out.2.1.lt; omega)).alloc _) hg9' (by rw [← HF.out.2.2.2.1, ← htl]; exact hown9)
                      exact hso
                    · exact hSa.bel.grown hg9' hSa.bel.size (fun r hr => by have := (HF.out.1.blk r hr).1; omega)
end Go.Proofs.Ytdpgohpbannfnaa
