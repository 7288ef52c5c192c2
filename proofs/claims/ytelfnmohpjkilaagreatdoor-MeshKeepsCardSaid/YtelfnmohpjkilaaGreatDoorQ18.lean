/- Ord0 Enc Ord Sort Canon CanonW. -/
import Derived.WalkKit
import Derived.WalkSpells
import Derived.WalkLawsBesides
import Derived.Laws.OwnMore
import Derived.Deep.AppendLies
import Derived.Deep.Draws
import Derived.Maps.AppendAt
import Derived.OwnWalk
import Derived.Sort.Grow
import Derived.Shelf.GgSortFunc.RowK
import Derived.RangeFuncNested
import Derived.RangeFuncBox
import Derived.Test.YtelfnmohpjkilaaGreatDoorRows
import Derived.Handy
import Derived.Deep.QuietTactic
import Derived.BigQuiet
import Derived.LoopN
import Derived.Laws.EntriesVeiled
import Derived.Shelf.SlSortCmp.QuietGrown
import Derived.Deep.RegionHeld3
import Derived.Deep.DrawnRows
import Derived.Sort.Statements
import Derived.Shelf.SlSortCmp.NoneTotal
import Derived.Test.YtelfnmohpjkilaaGreatDoorQ15
import Derived.Test.YtelfnmohpjkilaaGreatDoorQ16
import Derived.Test.YtelfnmohpjkilaaGreatDoorQ17
namespace Go.Proofs.YtelfnmohpjkilaaGreatDoor
open Go.RowKit Go.Sort

theorem ltP_lex : ltP = lexB (fun a b : Int => decide (a < b)) (lexB (fun a b : Int => decide (a < b)) (fun a b : Int => decide (a < b))) := by
  funext a b
  obtain ⟨a1, a2, a3⟩ := a
  obtain ⟨b1, b2, b3⟩ := b
  simp only [ltP, lexB]
  by_cases h1 : a1 = b1 <;> by_cases h2 : a2 = b2 <;> simp [h1, h2]
theorem sto_P : STO ltP := by rw [ltP_lex]; exact sto_int.lex (sto_int.lex sto_int)
def ltT (s t : Tri) : Bool := lexB ltP (lexB ltP ltP) s t
theorem sto_T : STO ltT := sto_P.lex (sto_P.lex sto_P)
theorem cmpP_neg (a b : Pt) : cmpP a b < 0 ↔ ltP a b = true := by
  unfold cmpP
  cases ltP a b <;> cases ltP b a <;> simp
theorem cmpP_zero (a b : Pt) : cmpP a b = 0 ↔ a = b := by
  unfold cmpP
  constructor
  · intro h
    cases h1 : ltP a b <;> cases h2 : ltP b a <;> simp [h1, h2] at h
    exact sto_P.total _ _ h1 h2
  · rintro rfl
    simp [sto_P.irrefl]
end Go.Proofs.YtelfnmohpjkilaaGreatDoor
namespace Go.Proofs.YtelfnmohpjkilaaGreatDoor
open Go.RowKit Go.Sort
/-- Where 's[i:]' lies. -/
def cutA (A : Option Addr) (c i s : Nat) : Option Addr := if c = i then A else A.map (·.add (i * s))
theorem Sl.cut {α : Type} {enc : α → List Value} {k : Nat} {w : World} {B : Nat} {A : Option Addr} {xs : List α} {i c : Nat} (h : Sl enc k w B A xs) (hi : i ≤ xs.length) (hc : xs.length ≤ c) : Sl enc k w B (cutA A c i k) (xs.drop i) := by
  rcases h with ⟨rfl, rfl⟩ | ⟨b, o, rfl, hb, hcs⟩
  · refine .inl ⟨by simp, ?_⟩
    unfold cutA; split <;> rfl
  · unfold cutA
    split
    · rename_i h
      refine .inr ⟨b, o, rfl, hb, fun j x hx => ?_⟩
      rw [List.getElem?_drop, List.getElem?_eq_none (by omega)] at hx
      cases hx
    · refine .inr ⟨b, o + i * k, by rw [Option.map_some, add_none], hb, fun j x hx l u hu => ?_⟩
      rw [List.getElem?_drop] at hx
      have := hcs _ _ hx l u hu
      rw [Nat.add_mul, ← Nat.add_assoc] at this
      exact this
theorem Sl.take {α : Type} {enc : α → List Value} {k : Nat} {w : World} {B : Nat} {A : Option Addr} {xs : List α} (i : Nat) (h : Sl enc k w B A xs) : Sl enc k w B A (xs.take i) := by
  rcases h with ⟨rfl, rfl⟩ | ⟨b, o, rfl, hb, hcs⟩
  · exact .inl ⟨by simp, rfl⟩
  · refine .inr ⟨b, o, rfl, hb, fun j x hx l u hu => ?_⟩
    rw [List.getElem?_take] at hx
    split at hx
    · exact hcs _ _ hx l u hu
    · cases hx
theorem run_cut {P : Program} {T E : TypeId} {s n c i : Nat} {A : Option Addr} (hT : P.underlying T = some (.slice E)) (hs : ∀ W : World, (sizeOf E).run P W = .ok s W) (hi : i ≤ n) (W : World) : (Instr.slice T (.slice A n c) (some (.int .i64 i)) none none).run P W = .ok (.slice (cutA A c i s) (n - i) (c - i)) W := by
  have hE : P.elem T = E := by simp [Program.elem, hT]
  have hT' : P.underlying T = some (.slice (P.elem T)) := by rw [hE]; exact hT
  rw [run_slice_l (t := T) (ht := hT') (h0 := by omega) (h1 := by omega)]
  simp [hE, hs, sliced, cutA]
theorem run_cutH {P : Program} {T E : TypeId} {s n c i : Nat} {A : Option Addr} (hT : P.underlying T = some (.slice E)) (hs : ∀ W : World, (sizeOf E).run P W = .ok s W) (hi : i ≤ n) (hc : n ≤ c) (W : World) : (Instr.slice T (.slice A n c) none (some (.int .i64 i)) none).run P W = .ok (.slice A i c) W := by
  have hE : P.elem T = E := by simp [Program.elem, hT]
  have hT' : P.underlying T = some (.slice (P.elem T)) := by rw [hE]; exact hT
  rw [run_slice_h (t := T) (ht := hT') (h0 := by omega) (h2 := by omega)]
  have hadd : ∀ a : Addr, a.add 0 = a := fun a => by simp [Addr.add]
  cases A <;> simp [hE, hs, sliced, hadd]
theorem encT_len (t : Tri) : (encT t).length = 9 := rfl
theorem encP_len (p : Pt) : (encP p).length = 3 := rfl
theorem encT_one (t : Tri) : ∀ v ∈ encT t, v.oneCell' = true := by
  intro v hv
  simp only [encT, List.mem_cons, List.not_mem_nil, or_false] at hv
  rcases hv with rfl | rfl | rfl | rfl | rfl | rfl | rfl | rfl | rfl <;> rfl
theorem encP_one (p : Pt) : ∀ v ∈ encP p, v.oneCell' = true := by
  intro v hv
  simp only [encP, List.mem_cons, List.not_mem_nil, or_false] at hv
  rcases hv with rfl | rfl | rfl <;> rfl
theorem infoT : (Tryz.prog.info? 58).map (fun i => (i.zero, i.size, i.bytes)) = some (some (.agg #[.int .i64 0, .int .i64 0, .int .i64 0, .int .i64 0, .int .i64 0, .int .i64 0, .int .i64 0, .int .i64 0, .int .i64 0]), 9, 72) := by kernel_rfl
end Go.Proofs.YtelfnmohpjkilaaGreatDoor
namespace Go.Proofs.YtelfnmohpjkilaaGreatDoor
open Go.RowKit Go.Sort
theorem ltOf_cmpP : ltOf cmpP = ltP := by
  funext a b
  unfold ltOf
  rw [Bool.eq_iff_iff]
  simp [cmpP_neg]
theorem ltOf_cmpT : ltOf cmpT = ltT := by
  funext s t
  obtain ⟨a, b, c⟩ := s
  obtain ⟨d, e, f⟩ := t
  unfold ltOf cmpT orI ltT lexB
  rw [Bool.eq_iff_iff]
  simp only [decide_eq_true_eq, Bool.or_eq_true, Bool.and_eq_true, ← cmpP_neg, ← cmpP_zero]
  by_cases h1 : cmpP a d = 0
  · by_cases h2 : cmpP b e = 0
    · simp [h1, h2]
    · simp [h1, h2]
  · simp [h1]
end Go.Proofs.YtelfnmohpjkilaaGreatDoor
namespace Go.Proofs.YtelfnmohpjkilaaGreatDoor
open Go.RowKit Go.Sort Go.Lib
def sortT (ts : List Tri) : List Tri := ts.mergeSort fun x y => !ltT y x
theorem sort_tri (g o cap : Nat) (ts : List Tri) (w : World) (hH : HoldsK encT 9 w g o ts.toArray) (hg : g < w.heap.size) (hn : ts.length < 4611686018427387904) :
    Calls Tryz.prog 64 #[.slice (some ⟨g, o, none⟩) ts.length cap, .func (.func 65) #[] #[]] w fun e w' =>
      e = .returned (.tuple #[]) ∧ w.grownBy w' (some g) ∧ HoldsK encT 9 w' g o (sortT ts).toArray := by
  have eg : ∀ args w, (callFunc 65 args).run Tryz.prog w = .ok (.enter 65 args) w := enters_of Tryz.func65 (by kernel_rfl) rfl
  have hO : SWO (ltOf cmpT) := by rw [ltOf_cmpT]; exact sto_T.swo
  have hT : ∀ x y, ltOf cmpT x y = false → ltOf cmpT y x = false → x = y := by rw [ltOf_cmpT]; exact sto_T.total
  have h := AnyQ.slices_SortFunc_total sortTriL 9 Tryz.isAgg58 Tryz.sizeOf58 encT encT_len encT_one cmpT hO 65 #[] g o cap ts.toArray w eg
    (fun _ _ _ _ x y => cmpTris_any x y _) hH hg (by simpa using hn) hT
  change Calls Tryz.prog 64 _ _ _ at h
  rw [ltOf_cmpT] at h
  refine h.mono ?_
  rintro e w' ⟨rfl, n, os, rfl⟩
  exact ⟨rfl, sortWorldK_grownBy, sortWorldK_holds hg hH (by simp)⟩
end Go.Proofs.YtelfnmohpjkilaaGreatDoor
namespace Go.Proofs.YtelfnmohpjkilaaGreatDoor
open Go.RowKit Go.Sort
def canonT (ts : List Tri) : List Tri := sortT (ts.map rotT)
theorem map_take_snoc {α β : Type} (f : α → β) (xs : List α) (k : Nat) (x : α) (h : xs[k]? = some x) : (xs.take (k + 1)).map f = (xs.take k).map f ++ [f x] := by
  rw [List.take_add_one, h]
  simp
theorem sort_tri_none (p : Option Addr) (c : Nat) (w : World) : Calls Tryz.prog 64 #[.slice p 0 c, .func (.func 65) #[] #[]] w fun e w' => e = .returned (.tuple #[]) ∧ w = w' := by
  have h := AnyF.slices_SortFunc_none sortTriL p c (.func (.func 65) #[] #[]) w
  exact h.mono fun e w' h => ⟨h.1, h.2.symm⟩
set_option maxHeartbeats 2000000 in
set_option maxRecDepth 100000 in
theorem canon_any (A : Option Addr) (c : Nat) (ts : List Tri) (w : World) (hs : Sl encT 9 w w.heap.size A ts) (hl : ts.length ≤ 4294967296) :
    Calls Tryz.prog 30 #[.slice A ts.length c] w fun e w' => ∃ A' c', e = .returned (.slice A' ts.length c') ∧ Below w.heap.size w w' ∧ Sl encT 9 w' w'.heap.size A' (canonT ts) ∧ ts.length ≤ c' ∧ (ts = [] ∧ A' = none ∨ ∃ g, A' = some ⟨g, 0, none⟩ ∧ w.heap.size ≤ g ∧ g < w'.heap.size) := by
  go_enter Tryz.func30, Tryz.ntmps30
  go_wp2
  go_loopw [8, 3] (fun i v wr => ∃ k : Nat, k ≤ ts.length ∧ i = .int .i64 k ∧ Own encT 9 58 wr w.heap.size v k ((ts.take k).map rotT) ∧ Below w.heap.size w wr) (fun i _ _ => ts.length - (intOf i).toNat)
  case atStart => exact ⟨0, by omega, rfl, Own.nil, Below.refl _ _⟩
  case round =>
    obtain ⟨k, hk, rfl, hown, hB⟩ := hrel
    obtain ⟨A1, c1, rfl⟩ := hown.form
    have hsz := hB.size
    by_cases hlt : k < ts.length
    · obtain ⟨u, hu⟩ : ∃ u, ts[k]? = some u := ⟨_, List.getElem?_eq_getElem hlt⟩
      obtain ⟨b, o, hA, hb, g0, g1, g2, g3, g4, g5, g6, g7, g8⟩ := (hs.below hB).tri hu
      subst hA
      have HU := hide hu
      have HS := hide hs
      have HOwn := hide hown
      clear hu hs hown
      go_wp2_with fail
      refine (rotate_any u _).mono ?_
      rintro e w1 ⟨rfl, hL1⟩
      have hL : Lay wr w1 := ((Lay.refl _).alloc _).trans hL1
      have hB1 := hL.below
      have hown1 := HOwn.out.below hB1 (Nat.le_refl _)
      have hz1 := hB1.size
      have HL := hide (hB.trans (hB1.mono hsz))
      clear hL hB1 hL1 g0 g1 g2 g3 g4 g5 g6 g7 g8
      go_wp2_with (at_builtin; refine wpList_append1 rfl _ _ _ rfl Tryz.underlying28 infoT rfl (by omega) encT_len encT_one rfl (hown1.alloc _) w1.heap.size 1 (rotT u) rfl (Blk.new _ _ _) (by unfold maxLen; omega) (by omega) (by simp; omega) ?_; intro g cap w2 hown2 hg2 hB2 hat2 hgb2 hlt2)
      go_roundw
      case rel => exact ⟨k + 1, by omega, by go_num, by rw [map_take_snoc _ _ _ _ HU.out]; exact hown2, (HL.out.alloc (by omega) _).trans hB2⟩
      case measure => simp [intOf]; omega
    · have hk : k = ts.length := by omega
      subst hk
      rw [List.take_length] at hown
      by_cases hne : ts = []
      · subst hne
        have HO := hide hown
        clear hs hown
        go_wp2_with (go_at_call 64; refine (sort_tri_none _ _ _).mono ?_; rintro e w1 ⟨rfl, rfl⟩)
        go_ret
        refine ⟨A1, ⟨c1, rfl⟩, hB, ?_, (HO.out.place.2).imp (fun h => h.2) id⟩
        rw [show canonT [] = [] by simp [canonT, sortT]]
        exact HO.out.sl encT_len (Nat.le_refl _)
      · have hne' : ts.map rotT ≠ [] := by simpa using hne
        have hcap := hown.place.1
        obtain ⟨g, cap, hv, hbg, hlt⟩ := hown.at hne'
        injection hv with e1 _ e3
        subst e1 e3
        have hH := hown.holdsK encT_len
        have hcon := sort_tri g 0 c1 (ts.map rotT) wr hH hlt (by simp; omega)
        rw [List.length_map] at hcon
        have HC := hide hcon
        clear hs hown hH hcon hne hne'
        go_wp2_with (go_at_call 64; refine (unhide HC).mono ?_; rintro e w1 ⟨rfl, hg1, hH1⟩)
        go_ret
        have hsz1 := hg1.size
        exact ⟨_, c1, rfl, hB.grown hg1 hsz (fun r hr => by injection hr with hr; omega), Sl.of_holdsK encT_len (by omega) hH1, hcap, .inr ⟨g, rfl, hbg, by omega⟩⟩
end Go.Proofs.YtelfnmohpjkilaaGreatDoor
namespace Go.Proofs.YtelfnmohpjkilaaGreatDoor
open Go.RowKit Go.Sort
theorem sort_tri_own (g cap n base : Nat) (ts : List Tri) (w : World) (hO : Own encT 9 58 w base (.slice (some ⟨g, 0, none⟩) n cap) n ts) (hn : ts.length < 4611686018427387904) :
    Calls Tryz.prog 64 #[.slice (some ⟨g, 0, none⟩) n cap, .func (.func 65) #[] #[]] w fun e w' =>
      e = .returned (.tuple #[]) ∧ w.grownBy w' (some g) ∧ Own encT 9 58 w' base (.slice (some ⟨g, 0, none⟩) n cap) n (sortT ts) := by
  have hH := hO.holdsK encT_len
  have hlen := hO.1
  rcases hO.2.2 with ⟨h0, _⟩ | ⟨g', cap', cur, hv, hbg, hg, hc, hm, hs, _⟩
  · cases h0
  injection hv with hv _ hcc
  injection hv with hv
  injection hv with hv
  subst hv
  subst hcc
  have hlt : g < w.heap.size := (Array.getElem?_eq_some_iff.1 hg).1
  have eg : ∀ args w, (callFunc 65 args).run Tryz.prog w = .ok (.enter 65 args) w := enters_of Tryz.func65 (by kernel_rfl) rfl
  have hO : SWO (ltOf cmpT) := by rw [ltOf_cmpT]; exact sto_T.swo
  have hT : ∀ x y, ltOf cmpT x y = false → ltOf cmpT y x = false → x = y := by rw [ltOf_cmpT]; exact sto_T.total
  have h := AnyQ.slices_SortFunc_total sortTriL 9 Tryz.isAgg58 Tryz.sizeOf58 encT encT_len encT_one cmpT hO 65 #[] g 0 cap ts.toArray w eg
    (fun _ _ _ _ x y => cmpTris_any x y _) hH hlt (by simpa using hn) hT
  change Calls Tryz.prog 64 _ _ _ at h
  rw [ltOf_cmpT] at h
  rw [show ts.toArray.size = n by simp [hlen]] at h
  refine h.mono ?_
  rintro e w' ⟨rfl, m, os, rfl⟩
  refine ⟨rfl, sortWorldK_grownBy, ?_⟩
  have hHs : HoldsK encT 9 (sortWorldK encT 9 w g 0 m (sortT ts).toArray os) g 0 (sortT ts).toArray := sortWorldK_holds hlt hH (by simp [sortT])
  have hgs : ∃ cur', (sortWorldK encT 9 w g 0 m (sortT ts).toArray os).heap[g]? = some (.cells cur' 58 (0, 0)) ∧ cur'.size = cur.size := by
    unfold sortWorldK
    rw [heap_grow_old _ _ (by simpa [putRowK] using hlt)]
    simp only [putRowK, putRow, mapBlock, heap_ahead, Array.getElem?_modify, hg, if_true, Option.map_some]
    exact ⟨_, rfl, by simp [putCells]⟩
  obtain ⟨cur', hg', hsz⟩ := hgs
  exact Own.of_holdsK encT_len hbg hg' hc hm (by rw [hsz, hs]) (by rw [hlen]; simp [sortT]) hHs
set_option maxHeartbeats 2000000 in
set_option maxRecDepth 100000 in
theorem canon_own (A : Option Addr) (c : Nat) (ts : List Tri) (w : World) (hs : Sl encT 9 w w.heap.size A ts) (hl : ts.length ≤ 4294967296) :
    Calls Tryz.prog 30 #[.slice A ts.length c] w fun e w' => ∃ v, e = .returned v ∧ Own encT 9 58 w' w.heap.size v ts.length (canonT ts) ∧ Below w.heap.size w w' := by
  go_enter Tryz.func30, Tryz.ntmps30
  go_wp2
  go_loopw [8, 3] (fun i v wr => ∃ k : Nat, k ≤ ts.length ∧ i = .int .i64 k ∧ Own encT 9 58 wr w.heap.size v k ((ts.take k).map rotT) ∧ Below w.heap.size w wr) (fun i _ _ => ts.length - (intOf i).toNat)
  case atStart => exact ⟨0, by omega, rfl, Own.nil, Below.refl _ _⟩
  case round =>
    obtain ⟨k, hk, rfl, hown, hB⟩ := hrel
    obtain ⟨A1, c1, rfl⟩ := hown.form
    have hsz := hB.size
    by_cases hlt : k < ts.length
    · obtain ⟨u, hu⟩ : ∃ u, ts[k]? = some u := ⟨_, List.getElem?_eq_getElem hlt⟩
      obtain ⟨b, o, hA, hb, g0, g1, g2, g3, g4, g5, g6, g7, g8⟩ := (hs.below hB).tri hu
      subst hA
      have HU := hide hu
      have HS := hide hs
      have HOwn := hide hown
      clear hu hs hown
      go_wp2_with fail
      refine (rotate_any u _).mono ?_
      rintro e w1 ⟨rfl, hL1⟩
      have hL : Lay wr w1 := ((Lay.refl _).alloc _).trans hL1
      have hB1 := hL.below
      have hown1 := HOwn.out.below hB1 (Nat.le_refl _)
      have hz1 := hB1.size
      have HL := hide (hB.trans (hB1.mono hsz))
      clear hL hB1 hL1 g0 g1 g2 g3 g4 g5 g6 g7 g8
      go_wp2_with (at_builtin; refine wpList_append1 rfl _ _ _ rfl Tryz.underlying28 infoT rfl (by omega) encT_len encT_one rfl (hown1.alloc _) w1.heap.size 1 (rotT u) rfl (Blk.new _ _ _) (by unfold maxLen; omega) (by omega) (by simp; omega) ?_; intro g cap w2 hown2 hg2 hB2 hat2 hgb2 hlt2)
      go_roundw
      case rel => exact ⟨k + 1, by omega, by go_num, by rw [map_take_snoc _ _ _ _ HU.out]; exact hown2, (HL.out.alloc (by omega) _).trans hB2⟩
      case measure => simp [intOf]; omega
    · have hk : k = ts.length := by omega
      subst hk
      rw [List.take_length] at hown
      by_cases hne : ts = []
      · subst hne
        have HO := hide hown
        clear hs hown
        go_wp2_with (go_at_call 64; refine (sort_tri_none _ _ _).mono ?_; rintro e w1 ⟨rfl, rfl⟩)
        go_ret
        refine ⟨_, rfl, ?_, hB⟩
        rw [show canonT [] = [] by simp [canonT, sortT]]
        exact HO.out
      · have hne' : ts.map rotT ≠ [] := by simpa using hne
        have hcap := hown.place.1
        obtain ⟨g, cap, hv, hbg, hlt⟩ := hown.at hne'
        injection hv with e1 _ e3
        subst e1 e3
        have hcon := sort_tri_own g c1 ts.length w.heap.size (ts.map rotT) wr hown (by simp; omega)
        have HC := hide hcon
        clear hs hown hcon hne hne'
        go_wp2_with (go_at_call 64; refine (unhide HC).mono ?_; rintro e w1 ⟨rfl, hg1, hH1⟩)
        go_ret
        exact ⟨_, rfl, hH1, hB.grown hg1 hsz (fun r hr => by injection hr with hr; omega)⟩
end Go.Proofs.YtelfnmohpjkilaaGreatDoor
