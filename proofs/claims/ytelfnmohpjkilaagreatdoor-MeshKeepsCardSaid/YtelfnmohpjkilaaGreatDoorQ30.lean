/- WthM Par0 Par1. -/
import Derived.WalkKit
import Derived.WalkSpells
import Derived.WalkLawsBesides
import Derived.Laws.OwnMore
import Derived.Deep.AppendLies
import Derived.Deep.Draws
import Derived.Maps.AppendAt
import Derived.OwnWalk
import Derived.Sort.Grow
import Derived.Shelf.GgSortFunc.RowK
import Derived.RangeFuncNested
import Derived.RangeFuncBox
import Derived.Test.YtelfnmohpjkilaaGreatDoorRows
import Derived.Handy
import Derived.Maps.Own
import Derived.Maps.Views
import Derived.DeepKeys4
import Derived.DeepKeys
import Derived.Laws.StructEq
import Derived.Deep.QuietTactic
import Derived.BigQuiet
import Derived.LoopN
import Derived.Laws.EntriesVeiled
import Derived.Shelf.SlSortCmp.QuietGrown
import Derived.Deep.RegionHeld3
import Derived.Deep.DrawnRows
import Derived.Sort.Statements
import Derived.Shelf.SlSortCmp.NoneTotal
import Derived.OrdersHeld
import Derived.OrdersIn
import Derived.RangeFuncCalls
import Derived.OwnWalkIn
import Derived.Deep.CutBlock
import Derived.Deep.DeepCutAuto
import Derived.Maps.OwnSet
import Derived.Maps.RangeWalk
import Derived.WideKeyEntry
import Derived.IntWalk
import Derived.Deep.MidRow
import Derived.StillTailTactics
import Derived.Shelf.RegionOpen
import Derived.Test.YtelfnmohpjkilaaGreatDoorQ7
import Derived.Test.YtelfnmohpjkilaaGreatDoorQ23
import Derived.Test.YtelfnmohpjkilaaGreatDoorQ29
namespace Go.Proofs.YtelfnmohpjkilaaGreatDoor
open Go.RowKit Go.Sort Go.WideMaps Go.Maps
/-- Each key's value is a slice of the call's own that holds the key's group; no two in one block. -/
def GpsE {κ α : Type} (enc : α → List Value) (k : Nat) (e : TypeId) (w : World) (base : Nat) (m : κ → Value) (G : κ → List α) : Prop :=
  (∀ p, Own enc k e w base (m p) (G p).length (G p)) ∧ (∀ p q g, p ≠ q → (m p).ownBlock = some g → (m q).ownBlock ≠ some g) ∧ ∀ p, G p = [] → m p = .slice none 0 0
section
variable {κ α : Type} [DecidableEq κ] {enc : α → List Value} {k : Nat} {e : TypeId} {w w' : World} {base : Nat} {m : κ → Value} {G : κ → List α}
omit [DecidableEq κ] in
theorem GpsE.nil : GpsE enc k e w base (fun _ : κ => .slice none 0 0) (fun _ : κ => ([] : List α)) := ⟨fun _ => Own.nil, fun _ _ _ _ h => (nomatch h), fun _ _ => rfl⟩
omit [DecidableEq κ] in
theorem GpsE.step {row : Option Nat} (h : GpsE enc k e w base m G) (hg : w.grownBy w' row) (hr : ∀ r, row = some r → r < base ∨ ∀ cs, w.heap[r]? ≠ some (.cells cs e (0, 0))) : GpsE enc k e w' base m G :=
  ⟨fun p => (h.1 p).step hg hr, h.2⟩
omit [DecidableEq κ] in
theorem GpsE.below {B : Nat} (h : GpsE enc k e w base m G) (hb : Below B w w') (hB : w.heap.size ≤ B) : GpsE enc k e w' base m G := ⟨fun p => (h.1 p).below hb hB, h.2⟩
theorem GpsE.append (h : GpsE enc k e w base m G) (p : κ) (x : α) {v' : Value} {n g : Nat} (hg : w.grownBy w' (m p).ownBlock) (hv : Own enc k e w' base v' n (G p ++ [x])) (hb : v'.ownBlock = some g) (hat : (m p).ownBlock = some g ∨ g = w.heap.size) :
    GpsE enc k e w' base (fun q => if q = p then v' else m q) (fun q => if q = p then G p ++ [x] else G q) := by
  have hlt : ∀ q g', (m q).ownBlock = some g' → g' < w.heap.size := fun q g' hq => ((h.1 q).blk g' hq).2
  refine ⟨fun q => ?_, fun q r g' hne hq hr => ?_, fun q hq => ?_⟩
  · by_cases hqp : q = p
    · subst hqp
      simp only
      have := hv.1
      subst this
      exact hv
    · simp only [if_neg hqp]
      refine (h.1 q).kept hg ?_
      cases hm : (m q).ownBlock with
      | none => exact .inl rfl
      | some g' =>
        refine .inr fun e' => ?_
        exact h.2.1 q p g' hqp hm e'.symm
  · have hcase : ∀ q r, q ≠ r → q = p → v'.ownBlock = some g' → (m r).ownBlock = some g' → False := by
      clear hne hq hr
      intro q r hne hqp hq hr
      subst hqp
      rw [hb] at hq
      cases hq
      rcases hat with hat | hat
      · exact h.2.1 q r g hne hat hr
      · have := hlt r g hr; omega
    by_cases hqp : q = p
    · by_cases hrp : r = p
      · exact hne (hqp.trans hrp.symm)
      · simp only [if_pos hqp] at hq
        simp only [if_neg hrp] at hr
        exact hcase q r hne hqp hq hr
    · simp only [if_neg hqp] at hq
      by_cases hrp : r = p
      · simp only [if_pos hrp] at hr
        exact hcase r q (Ne.symm hne) hrp hr hq
      · simp only [if_neg hrp] at hr
        exact h.2.1 q r g' hne hq hr
  · by_cases hqp : q = p
    · simp only [if_pos hqp] at hq
      simp at hq
    · simp only [if_neg hqp] at hq ⊢
      exact h.2.2 q hq
end
def encN4 (i : Nat) : List Value := [.int .i64 i]
theorem encN4_len (i : Nat) : (encN4 i).length = 1 := rfl
theorem encN4_one (i : Nat) : ∀ u ∈ encN4 i, u.oneCell' = true := by
  intro u hu
  simp only [encN4, List.mem_singleton] at hu
  subst hu
  rfl
theorem infoI4 : (Tryz.prog.info? 3).map (fun i => (i.zero, i.size, i.bytes)) = some (some (.int .i64 0), 1, 8) := by kernel_rfl
/-- Block cb is a map of at most cnt entries: to each edge its list of numbers, in slices of the call's own. -/
def WthM (w : World) (cb cnt base : Nat) (G : Ed → List Nat) : Prop :=
  ∃ (mo : Ed → Option Value) (m : Ed → Value), MapK Tryz.prog 81 vE fitsE w cb cnt mo ∧ (∀ p, (mo p).getD (.slice none 0 0) = m p) ∧ GpsE encN4 1 3 w base m G
theorem WthM.made (w : World) (base : Nat) : WthM (w.alloc (.map #[] 0)) w.heap.size 0 base fun _ => [] := ⟨_, _, MapK.made Tryz.prog 81 vE fitsE w, fun _ => rfl, GpsE.nil⟩
theorem WthM.lt {w : World} {cb cnt base : Nat} {G : Ed → List Nat} (h : WthM w cb cnt base G) : cb < w.heap.size := by
  obtain ⟨mo, m, h1, _⟩ := h
  exact h1.lt
theorem WthM.below {w w' : World} {cb cnt base B : Nat} {G : Ed → List Nat} (h : WthM w cb cnt base G) (hb : Below B w w') (hB : w.heap.size ≤ B) : WthM w' cb cnt base G := by
  obtain ⟨mo, m, h1, h2, h3⟩ := h
  exact ⟨mo, m, h1.below hb (Nat.lt_of_lt_of_le h1.lt hB), h2, h3.below hb hB⟩
theorem WthM.same {w : World} {cb cnt base : Nat} {G G' : Ed → List Nat} (h : WthM w cb cnt base G) (hG : ∀ p, G p = G' p) : WthM w cb cnt base G' := by
  have : G = G' := funext hG
  exact this ▸ h
set_option maxRecDepth 100000 in
/-- The entry at an edge, taken to be appended to. -/
theorem WthM.entry {w : World} {cb cnt base : Nat} {G : Ed → List Nat} (h : WthM w cb cnt base G) (hn : cnt < maxLen) (p : Ed) (hp : fitsE p) (hcb : cb < base) :
    ∃ (st : Nat) (w1 : World) (v : Value), (Instr.mapEntry 95 (.map (some cb)) (vE p)).run Tryz.prog w = .ok (.tuple #[v, goInt st]) w1 ∧ w.grownBy w1 (some cb) ∧ w1.heap.size = w.heap.size ∧ Own encN4 1 3 w1 base v (G p).length (G p) ∧
      ∀ (w2 : World) (v' : Value) (g : Nat) (x : Nat), w1.grownBy w2 v.ownBlock → Own encN4 1 3 w2 base v' ((G p).length + 1) (G p ++ [x]) → v'.ownBlock = some g → (v.ownBlock = some g ∨ g = w1.heap.size) →
        ∃ w3, (Instr.entryStore 95 (.map (some cb)) (goInt st) v').run Tryz.prog w2 = .ok () w3 ∧ WthM w3 cb (cnt + 1) base (fun q => if q = p then G p ++ [x] else G q) ∧ w2.grownBy w3 (some cb) ∧ w3.heap.size = w2.heap.size := by
  obtain ⟨mo, m, h1, h2, h3⟩ := h
  have hlt := h1.lt
  obtain ⟨st, w1, hrun, hg1, hz1, _, _, hst⟩ := h1.entry4 kfE4 lawE4 (t := 95) (e := 23) Tryz.underlying95 (z := .slice none 0 0) (fun _ => rfl) hn p hp
  rw [h2] at hrun
  have hG1 : GpsE encN4 1 3 w1 base m G := h3.step hg1 (fun r hr => .inl (by cases hr; exact hcb))
  refine ⟨st, w1, m p, hrun, hg1, hz1, hG1.1 p, fun w2 v' g x hg2 hv' hb' hat => ?_⟩
  have hcbv : ∀ g', (m p).ownBlock = some g' → g' ≠ cb := fun g' hg' e => by
    have := ((hG1.1 p).blk g' hg').1
    omega
  have hw2 : w2.heap[cb]? = w1.heap[cb]? := hg2.block cb (by omega) (fun e => hcbv cb e.symm rfl)
  obtain ⟨w3, hrun3, hM3, hg3, hz3⟩ := hst w2 v' hw2
  refine ⟨w3, hrun3, ⟨_, _, hM3, fun q => ?_, (hG1.append p x hg2 hv' hb' hat).step hg3 (fun r hr => .inl (by cases hr; exact hcb))⟩, hg3, hz3⟩
  show (if q = p then some v' else mo q).getD _ = if q = p then v' else m q
  split
  · rfl
  · exact h2 q
theorem Sl.oneN4 {w : World} {B : Nat} {A : Option Addr} {xs : List Nat} (h : Sl encN4 1 w B A xs) {i x : Nat} (hi : xs[i]? = some x) :
    ∃ b o, A = some ⟨b, o, none⟩ ∧ b < B ∧ w.cell? ⟨b, o + i, none⟩ = some (.int .i64 x) := by
  obtain ⟨b, o, ha, hb, hc⟩ := h.at hi
  have := hc 0 _ rfl
  rw [Nat.mul_one, Nat.add_zero] at this
  exact ⟨b, o, ha, hb, this⟩
theorem grown_set4 (W : World) (b i : Nat) (v : Value) : W.grownBy (W.setCell ⟨b, i, none⟩ v) (some b) :=
  ⟨rfl, rfl, rfl, (KeepsWalks.setCell W _ v).size, fun k _ hne => Below.heap_setCell W ⟨b, i, none⟩ v k (fun e => hne (by rw [e]))⟩
theorem blk_own_ne4 {α : Type} {enc : α → List Value} {k : Nat} {e t : TypeId} {w : World} {base n gf : Nat} {v : Value} {xs : List α} {cs : Array Value} (hb : Blk w gf t cs) (ho : Own enc k e w base v n xs) (hte : e ≠ t) : some gf ≠ v.ownBlock := fun e' => by
  obtain ⟨cs', hc⟩ := ho.cells gf e'.symm
  have hb' : w.heap[gf]? = some (.cells cs t (0, 0)) := hb
  rw [hc] at hb'
  cases hb'
  exact hte rfl
end Go.Proofs.YtelfnmohpjkilaaGreatDoor
namespace Go.Proofs.YtelfnmohpjkilaaGreatDoor
open Go.RowKit Go.Sort Go.WideMaps Go.Maps
def RowN4 (w : World) (g : Nat) (F : List Nat) : Prop := Blk w g 3 (F.map fun k : Nat => Value.int .i64 (k : Int)).toArray
theorem RowN4.cell {w : World} {g i c : Nat} {F : List Nat} (h : RowN4 w g F) (hi : F[i]? = some c) : w.cell? ⟨g, i, none⟩ = some (.int .i64 (c : Int)) := by
  have := Blk.cell h i
  rw [this]
  simp [hi]
theorem RowN4.set {w : World} {g : Nat} {F : List Nat} (h : RowN4 w g F) (i c : Nat) : RowN4 (w.setCell ⟨g, i, none⟩ (.int .i64 (c : Int))) g (F.set i c) := by
  have := Blk.set_ h i (.int .i64 (c : Int))
  unfold RowN4
  rw [List.map_set]
  simpa using this
theorem mk_n4 (n : Nat) (hn : n ≤ 100000000) (W : World) : (Instr.makeSlice 23 (.int .i64 (n : Int)) (.int .i64 (n : Int))).run Tryz.prog W = .ok (.slice (some ⟨W.heap.size, 0, none⟩) n n) (W.alloc (.cells ((List.replicate n 0).map fun k : Nat => Value.int .i64 (k : Int)).toArray 3)) := by
  obtain ⟨i, hi, hz, hs, hb⟩ := info_parts infoI4
  have h := run_make (P := Tryz.prog) W 23 3 i (.int .i64 0) Tryz.underlying23 hi hz .i64 .i64 n n (by omega) (by omega) (by rw [hb]; omega) (by omega)
  rw [h, hs]
  have e : madeCells (Value.int .i64 0).cells ((n : Int).toNat * 1) = ((List.replicate n 0).map fun k : Nat => Value.int .i64 (k : Int)).toArray := by
    refine Array.ext (by simp [size_madeCells]) fun k h1 h2 => ?_
    simp [madeCells, Value.cells, Nat.mod_one]
  rw [e, Int.toNat_natCast]
/-- The parents: block gp holds them, the slice lies in block pb. -/
structure ParS (w : World) (pb gp n : Nat) (xs : List Nat) : Prop where
  row : RowN4 w gp xs
  box : Blk w pb 23 #[.slice (some ⟨gp, 0, none⟩) n n]
  len : xs.length = n
  desc : Desc (numR xs)
  ne : pb ≠ gp
section
variable {w w' : World} {pb gp n : Nat} {xs : List Nat}
theorem ParS.at (h : ParS w pb gp n xs) {k : Nat} (hk : k < n) : w.cell? ⟨gp, k, none⟩ = some (.int .i64 (numR xs k : Nat)) := by
  refine h.row.cell ?_
  unfold numR
  rw [List.getElem?_eq_getElem (by rw [h.len]; exact hk)]; rfl
theorem numR_set {xs : List Nat} {i v : Nat} (hi : i < xs.length) (k : Nat) : numR (xs.set i v) k = setP (numR xs) i v k := by
  unfold numR setP
  rw [List.getElem?_set]
  by_cases h : i = k
  · subst h; rw [if_pos rfl, if_pos hi, if_pos rfl]; rfl
  · rw [if_neg h, if_neg (fun e => h e.symm)]
theorem ParS.put (h : ParS w pb gp n xs) {i v : Nat} (hi : i < n) (hd : Desc (setP (numR xs) i v)) : ParS (w.setCell ⟨gp, i, none⟩ (.int .i64 (v : Int))) pb gp n (xs.set i v) where
  row := h.row.set i v
  box := h.box.far (p := ⟨gp, i, none⟩) h.ne _
  len := by rw [List.length_set]; exact h.len
  desc := fun k => by rw [numR_set (by rw [h.len]; exact hi)]; exact hd k
  ne := h.ne
theorem ParS.on (h : ParS w pb gp n xs) (hb : Below w.heap.size w w') : ParS w' pb gp n xs := ⟨h.row.below hb (Blk.lt h.row), h.box.below hb h.box.lt, h.len, h.desc, h.ne⟩
theorem ParS.kept {row : Option Nat} (h : ParS w pb gp n xs) (hg : w.grownBy w' row) (h1 : some gp ≠ row) (h2 : some pb ≠ row) : ParS w' pb gp n xs := ⟨Blk.grown h.row hg h1, h.box.grown hg h2, h.len, h.desc, h.ne⟩
theorem ParS.drew (h : ParS w pb gp n xs) : ParS w.drew pb gp n xs := ⟨Blk.drew h.row, h.box.drew, h.len, h.desc, h.ne⟩
theorem ParS.lt (h : ParS w pb gp n xs) : gp < w.heap.size := Blk.lt h.row
end
theorem grown_drew4 {w w' : World} {r : Option Nat} (h : w.grownBy w' r) : w.grownBy w'.drew r := ⟨h.os, h.tape, h.output, h.size, h.block⟩
end Go.Proofs.YtelfnmohpjkilaaGreatDoor
namespace Go.Proofs.YtelfnmohpjkilaaGreatDoor
open Go.RowKit Go.Sort Go.WideMaps Go.Maps
/-- What find leaves: shorter ways to the same roots. -/
def FndS (w w' : World) (pb gp n : Nat) (xs : List Nat) : Prop := ∃ ys, ParS w' pb gp n ys ∧ (∀ i, rootP (numR ys) i = rootP (numR xs) i) ∧ w.grownBy w' (some gp)
set_option maxRecDepth 100000 in
set_option maxHeartbeats 16000000 in
theorem find4_any (pb gp n : Nat) (xs : List Nat) (k : Nat) (hk : k < n) (w : World) (hs : ParS w pb gp n xs) :
    Calls Tryz.prog 69 #[.int .i64 k, .pointer (some ⟨pb, 0, none⟩)] w fun e w' => e = .returned (.int .i64 (rootP (numR xs) k : Nat)) ∧ FndS w w' pb gp n xs := by
  obtain ⟨r, hr⟩ : ∃ r, r = rootP (numR xs) k := ⟨_, rfl⟩
  rw [← hr]
  have hne := hs.ne
  have hne' : gp ≠ pb := fun e => hne e.symm
  have HS := hide (And.intro hs hr)
  clear hs hr
  go_enter Tryz.func69, Tryz.ntmps69
  go_wp2_with fail
  go_loopw [0] (fun kv wr => ∃ (j : Nat) (ys : List Nat), kv = .int .i64 j ∧ j < n ∧ ParS wr pb gp n ys ∧ (∀ i, rootP (numR ys) i = rootP (numR xs) i) ∧ rootP (numR xs) j = r ∧ w.grownBy wr (some gp)) (fun kv _ => (intOf kv).toNat)
  case atStart => exact ⟨k, xs, rfl, hk, HS.out.1, fun _ => rfl, HS.out.2.symm, World.grownBy.refl _ _⟩
  case round =>
    obtain ⟨j, ys, rfl, hj, hp, hro, hrj, hg⟩ := hrel
    obtain ⟨V, rfl⟩ : ∃ V, V = wr := ⟨_, rfl⟩
    obtain ⟨p, hpe⟩ : ∃ p, p = numR ys j := ⟨_, rfl⟩
    have hpj : p ≤ j := by rw [hpe]; exact hp.desc j
    obtain ⟨q, hqe⟩ : ∃ q, q = numR ys p := ⟨_, rfl⟩
    have hqp : q ≤ p := by rw [hqe]; exact hp.desc p
    have c0 : V.cell? ⟨pb, 0, none⟩ = some (.slice (some ⟨gp, 0, none⟩) n n) := hp.box.cell 0
    have c1 : V.cell? ⟨gp, j, none⟩ = some (.int .i64 p) := by rw [hpe]; exact hp.at hj
    have c2 : V.cell? ⟨gp, p, none⟩ = some (.int .i64 q) := by rw [hqe]; exact hp.at (by omega)
    have f1 : V.frozen? ⟨gp, j, none⟩ = false := hp.row.frozen j
    have hlt := hp.lt
    have hltb := hp.box.lt
    have i0 : (j : Int) < (n : Int) := by omega
    have i1 : (p : Int) < (n : Int) := by omega
    by_cases hpq : p = j
    · have t0 : ((p : Int) != (j : Int)) = false := by rw [hpq]; simp
      have hrr : r = j := by rw [← hrj, ← hro]; exact root_self (by rw [← hpe]; exact hpq)
      have HE := hide (And.intro hp (And.intro hro (And.intro hg hrr)))
      clear hp hro hrj hg hrr hpe hqe hpq
      go_wp2
      go_ret
      exact ⟨(by rw [HE.out.2.2.2]; try rfl), ys, HE.out.1, HE.out.2.1, HE.out.2.2.1⟩
    · have t0 : ((p : Int) != (j : Int)) = true := by rw [bne_iff_ne]; omega
      have hsp : ∀ i, setP (numR ys) j (numR ys (numR ys j)) i = numR (ys.set j q) i := fun i => by rw [numR_set (by rw [hp.len]; exact hj), hqe, hpe]
      have hh := root_half hp.desc j
      have hput := hp.put (i := j) (v := q) hj (by rw [hqe, hpe]; exact hh.1)
      have hro2 : ∀ i, rootP (numR (ys.set j q)) i = rootP (numR xs) i := fun i => by
        rw [← hro, ← hh.2 i, show setP (numR ys) j (numR ys (numR ys j)) = numR (ys.set j q) from funext hsp]
      have hrq : rootP (numR xs) q = r := by
        rw [← hrj, ← hro, ← hro j, root_step hp.desc j, ← hpe, root_step hp.desc p, ← hqe]
      have HE := hide (And.intro hput (And.intro hro2 (And.intro hrq hg)))
      clear hp hro hrj hg hpe hqe hsp hh hput hro2 hrq
      have hqj : q < j := by omega
      clear hpq
      go_upto_region 2 with fail
      go_still_tail 10, (by kernel_rfl)
      repeat still_step
      change wpList _ _ _ _ _ V.drew
      go_wp2
      go_roundw
      case rel => exact ⟨q, ys.set j q, rfl, by omega, HE.out.1.drew, HE.out.2.1, HE.out.2.2.1, grown_drew4 (HE.out.2.2.2.trans (grown_set4 V gp j (.int .i64 (q : Int))))⟩
      case measure => (simp [intOf]; try omega)
set_option maxRecDepth 100000 in
set_option maxHeartbeats 16000000 in
theorem join4_any (fb pb gp n : Nat) (xs : List Nat) (a b : Nat) (ha : a < n) (hb : b < n) (w : World) (hs : ParS w pb gp n xs) (hf : w.cell? ⟨fb, 0, none⟩ = some (.func (.func 69) #[] #[.pointer (some ⟨pb, 0, none⟩)])) (hfg : fb ≠ gp) :
    Calls Tryz.prog 70 #[.int .i64 a, .int .i64 b, .pointer (some ⟨fb, 0, none⟩), .pointer (some ⟨pb, 0, none⟩)] w fun e w' => e = .returned (.tuple #[]) ∧ ∃ ys, ParS w' pb gp n ys ∧ (∀ i, rootP (numR ys) i = joinR (rootP (numR xs)) a b i) ∧ w.grownBy w' (some gp) := by
  have hne := hs.ne
  have hne' : gp ≠ pb := fun e => hne e.symm
  have hfl := World.block_lt_of_cell? w _ hf
  have hm1 : max (rootP (numR xs) a) (rootP (numR xs) b) < n := by have := root_le hs.desc a; have := root_le hs.desc b; omega
  have hfind1 : ∀ W, W.heap[pb]? = w.heap[pb]? → W.heap[gp]? = w.heap[gp]? → Calls Tryz.prog 69 #[.int .i64 a, .pointer (some ⟨pb, 0, none⟩)] W fun e w' => e = .returned (.int .i64 (rootP (numR xs) a : Nat)) ∧ FndS W w' pb gp n xs := fun W h1 h2 => find4_any pb gp n xs a ha W ⟨h2.trans hs.row, h1.trans hs.box, hs.len, hs.desc, hs.ne⟩
  have hjn := root_join hs.desc a b
  obtain ⟨x, hx⟩ : ∃ x, x = rootP (numR xs) a := ⟨_, rfl⟩
  obtain ⟨y, hy⟩ : ∃ y, y = rootP (numR xs) b := ⟨_, rfl⟩
  have HS := hide (And.intro hs (And.intro hfind1 (And.intro hx hy)))
  rw [← hx] at hfind1
  have HF := hide hfind1
  clear hs hfind1 hjn hm1 hx hy
  go_enter Tryz.func70, Tryz.ntmps70
  go_upto_region 0 with fail
  refine wp_region_mix (fun W => W.cell? ⟨fb, 0, none⟩ = some (.func (.func 69) #[] #[.pointer (some ⟨pb, 0, none⟩)])) [0, 1, 3, 4] [0, 1, 3, 4, 2, 5, 6, 7] mixed_ok (by kernel_rfl) ?_
  refine wpMix_q (v := .func (.func 69) #[] #[.pointer (some ⟨pb, 0, none⟩)]) rfl rfl (fun _ _ _ h => h) hf ⟨rfl, fun _ h' => by simp [go_sem, h']⟩ ?_
  refine wpMix_q (v := .int .i64 a) rfl rfl (fun _ _ _ h => h) hf ⟨rfl, fun _ h' => by simp [go_sem]⟩ ?_
  refine wpMix_q (v := .func (.func 69) #[] #[.pointer (some ⟨pb, 0, none⟩)]) rfl rfl (fun _ _ _ h => h) hf ⟨rfl, fun _ h' => by simp [go_sem, h']⟩ ?_
  refine wpMix_q (v := .int .i64 b) rfl rfl (fun _ _ _ h => h) hf ⟨rfl, fun _ h' => by simp [go_sem]⟩ ?_
  simp only [List.getElem_toArray, List.getElem_cons_succ, List.getElem_cons_zero]
  refine wpMix_n rfl rfl ?_
  go_wp2_with fail
  refine (HF.out w.drew rfl rfl).mono ?_
  rintro e w1 ⟨rfl, ys, hp1, hr1, hg1⟩
  have hb1 : w.grownBy w1 (some gp) := ⟨hg1.os, hg1.tape, hg1.output, hg1.size, hg1.block⟩
  have hf1 : w1.cell? ⟨fb, 0, none⟩ = some (.func (.func 69) #[] #[.pointer (some ⟨pb, 0, none⟩)]) := by
    have := hb1.block fb hfl (fun e => hfg (Option.some.inj e))
    unfold World.cell? at hf ⊢
    rw [this]; exact hf
  have hfind2 := find4_any pb gp n ys b hb w1 hp1
  rw [hr1, ← HS.out.2.2.2] at hfind2
  have H1 := hide (And.intro hf1 (And.intro hfind2 (And.intro hr1 hb1)))
  clear hp1 hr1 hg1 hb1 hf1 hfind2
  go_wp2_with fail
  refine ⟨fun _ => H1.out.1, ?_⟩
  refine wpMix_tail _ [_, _, _] (by kernel_rfl) rfl ?_
  simp only [List.getElem_toArray, List.getElem_cons_succ, List.getElem_cons_zero]
  go_wp2_with fail
  refine H1.out.2.1.mono ?_
  rintro e w2 ⟨rfl, zs, hp2, hr2, hg2⟩
  have hro : ∀ i, rootP (numR zs) i = rootP (numR xs) i := fun i => (hr2 i).trans (H1.out.2.2.1 i)
  have hjn := root_join hp2.desc a b
  rw [hro, hro, ← HS.out.2.2.1, ← HS.out.2.2.2] at hjn
  have hxn : x < n := by rw [HS.out.2.2.1]; exact Nat.lt_of_le_of_lt (root_le HS.out.1.desc a) ha
  have hyn : y < n := by rw [HS.out.2.2.2]; exact Nat.lt_of_le_of_lt (root_le HS.out.1.desc b) hb
  obtain ⟨mx, hmx⟩ : ∃ m, m = max x y := ⟨_, rfl⟩
  obtain ⟨mn, hmn⟩ : ∃ m, m = min x y := ⟨_, rfl⟩
  rw [← hmx, ← hmn] at hjn
  have hmxn : mx < n := by omega
  have hput := hp2.put (i := mx) (v := mn) hmxn hjn.1
  have hroot : ∀ i, rootP (numR (zs.set mx mn)) i = joinR (rootP (numR xs)) a b i := fun i => by
    rw [show numR (zs.set mx mn) = setP (numR zs) mx mn from funext fun k => numR_set (by rw [hp2.len]; exact hmxn) k, hjn.2 i]
    unfold joinR
    rw [hro, hro, hro]
  have c0 : w2.cell? ⟨pb, 0, none⟩ = some (.slice (some ⟨gp, 0, none⟩) n n) := hp2.box.cell 0
  have f1 : w2.frozen? ⟨gp, mx, none⟩ = false := hp2.row.frozen mx
  have hlt := hp2.lt
  have c1 : w2.cell? ⟨gp, mx, none⟩ = some (.int .i64 (numR zs mx : Nat)) := hp2.at hmxn
  have i1 : (mx : Int) < (n : Int) := by omega
  have hcase : (x ≤ y ∧ mx = y ∧ mn = x) ∨ (y < x ∧ mx = x ∧ mn = y) := by omega
  have HE := hide (And.intro hput (And.intro hroot (H1.out.2.2.2.trans (hg2.trans (grown_set4 w2 gp mx (.int .i64 (mn : Int)))))))
  clear hp2 hr2 hg2 hro hjn hput hroot hmx hmn hmxn hxn hyn HS H1 HF
  rcases hcase with ⟨hxy, rfl, rfl⟩ | ⟨hxy, rfl, rfl⟩
  · have e1 : max (mn : Int) (mx : Int) = (mx : Int) := by omega
    have e2 : min (mn : Int) (mx : Int) = (mn : Int) := by omega
    have e3 : (mn : Int) ≤ (mx : Int) := by omega
    go_wp2
    all_goals (go_end0; exact ⟨rfl, _, HE.out⟩)
  · have e1 : max (mx : Int) (mn : Int) = (mx : Int) := by omega
    have e2 : min (mx : Int) (mn : Int) = (mn : Int) := by omega
    have e3 : ¬ (mx : Int) ≤ (mn : Int) := by omega
    have e4 : (mn : Int) ≤ (mx : Int) := by omega
    go_wp2
    all_goals (go_end0; exact ⟨rfl, _, HE.out⟩)
end Go.Proofs.YtelfnmohpjkilaaGreatDoor
