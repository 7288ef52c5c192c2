/- Joined texts: S7E S7F S7G S7H. -/
import Derived.Test.YtdpgohpbannfnaaCB9
import Derived.Test.YtdpgohpbannfnaaCB10
import Derived.Test.YtdpgohpbannfnaaCB11
/- seal.order; the library's sort at faces. -/
namespace Go.Proofs.Ytdpgohpbannfnaa
open Go.RowKit Go.Sort Go.Lib
def cmpI (x y : Int) : Int := if x < y then -1 else if y < x then 1 else 0
set_option maxHeartbeats 1000000 in
theorem nan7_any (x : Int) (w : World) : Calls Try.prog 72 #[vi x] w fun e w' => e = .returned (.bool false) ∧ w' = w := by
  have ex : (x != x) = false := by simp
  go_enter Try.func72, Try.ntmps72
  go_wp2
  go_ret
  exact ⟨by simp, rfl⟩
set_option maxHeartbeats 1000000 in
theorem compare7_any (x y : Int) (w : World) : Calls Try.prog 61 #[vi x, vi y] w fun e w' => e = .returned (vi (cmpI x y)) ∧ w' = w := by
  by_cases h1 : x < y
  · have e : cmpI x y = -1 := if_pos h1
    rw [e]
    clear e
    go_enter Try.func61, Try.ntmps61
    go_wp2_with (go_at_call 72; refine (nan7_any _ _).mono ?_; rintro e w1 ⟨rfl, rfl⟩)
    go_ret
    exact ⟨rfl, rfl⟩
  · by_cases h2 : y < x
    · have e : cmpI x y = 1 := by unfold cmpI; rw [if_neg h1, if_pos h2]
      rw [e]
      clear e
      go_enter Try.func61, Try.ntmps61
      go_wp2_with (go_at_call 72; refine (nan7_any _ _).mono ?_; rintro e w1 ⟨rfl, rfl⟩)
      go_ret
      exact ⟨rfl, rfl⟩
    · have e : cmpI x y = 0 := by unfold cmpI; rw [if_neg h1, if_neg h2]
      rw [e]
      clear e
      go_enter Try.func61, Try.ntmps61
      go_wp2_with (go_at_call 72; refine (nan7_any _ _).mono ?_; rintro e w1 ⟨rfl, rfl⟩)
      go_ret
      exact ⟨rfl, rfl⟩
def or4 (x y z u : Int) : Int := if x ≠ 0 then x else if y ≠ 0 then y else if z ≠ 0 then z else u
set_option maxHeartbeats 1000000 in
theorem or7_any (b c : Nat) (x y z u : Int) (w : World) (h0 : w.cell? ⟨b, 0, none⟩ = some (vi x)) (h1 : w.cell? ⟨b, 1, none⟩ = some (vi y)) (h2 : w.cell? ⟨b, 2, none⟩ = some (vi z)) (h3 : w.cell? ⟨b, 3, none⟩ = some (vi u)) :
    Calls Try.prog 60 #[.slice (some ⟨b, 0, none⟩) 4 c] w fun e w' => e = .returned (vi (or4 x y z u)) ∧ w = w' := by
  by_cases hx : x = 0
  · have ex : (x != 0) = false := by simp [hx]
    have HX := hide hx
    clear hx
    by_cases hy : y = 0
    · have ey : (y != 0) = false := by simp [hy]
      have HY := hide hy
      clear hy
      by_cases hz : z = 0
      · have ez : (z != 0) = false := by simp [hz]
        have HZ := hide hz
        clear hz
        by_cases hu : u = 0
        · have eu : (u != 0) = false := by simp [hu]
          have HU := hide hu
          clear hu
          go_enter Try.func60, Try.ntmps60
          go_wp2
          go_rounds 5
          go_ret
          exact ⟨by simp [or4, HX.out, HY.out, HZ.out, HU.out], rfl⟩
        · have eu : (u != 0) = true := by simp [hu]
          go_enter Try.func60, Try.ntmps60
          go_wp2
          go_rounds 5
          go_ret
          exact ⟨by simp [or4, HX.out, HY.out, HZ.out], rfl⟩
      · have ez : (z != 0) = true := by simp [hz]
        go_enter Try.func60, Try.ntmps60
        go_wp2
        go_rounds 5
        go_ret
        exact ⟨by simp [or4, HX.out, HY.out, hz], rfl⟩
    · have ey : (y != 0) = true := by simp [hy]
      go_enter Try.func60, Try.ntmps60
      go_wp2
      go_rounds 5
      go_ret
      exact ⟨by simp [or4, HX.out, hy], rfl⟩
  · have ex : (x != 0) = true := by simp [hx]
    go_enter Try.func60, Try.ntmps60
    go_wp2
    go_rounds 5
    go_ret
    exact ⟨by simp [or4, hx], rfl⟩
def ordF (f g : EF) : Int := or4 (cmpI f.1 g.1) (cmpI f.2.2.2 g.2.2.2) (cmpI f.2.2.1 g.2.2.1) (cmpI f.2.1 g.2.1)
set_option maxRecDepth 100000 in
set_option maxHeartbeats 4000000 in
theorem order7_any (f g : EF) (w : World) : Calls Try.prog 46 #[vF f, vF g] w fun e w' => e = .returned (vi (ordF f g)) ∧ Lay w w' := by
  go_enter Try.func46, Try.ntmps46
  go_upto_region 1 with fail
  obtain ⟨X, hX⟩ : ∃ X, X = (w.alloc (.cells #[.int .i64 f.1, .int .i64 f.2.1, .int .i64 f.2.2.1, .int .i64 f.2.2.2] 45)).alloc (.cells #[.int .i64 g.1, .int .i64 g.2.1, .int .i64 g.2.2.1, .int .i64 g.2.2.2] 45) := ⟨_, rfl⟩
  rw [← hX]
  have hfX : Blk X w.heap.size 45 #[.int .i64 f.1, .int .i64 f.2.1, .int .i64 f.2.2.1, .int .i64 f.2.2.2] := by rw [hX]; exact (Blk.new _ _ _).alloc _
  have hgX : Blk X (w.heap.size + 1) 45 #[.int .i64 g.1, .int .i64 g.2.1, .int .i64 g.2.2.1, .int .i64 g.2.2.2] := by rw [hX]; exact Blk.new' _ _ _ _ (by simp)
  have hL : Lay w X := by rw [hX]; exact ((Lay.refl _).alloc _).alloc _
  obtain ⟨a0, a1, a2, a3⟩ := hfX.four
  obtain ⟨b0, b1, b2, b3⟩ := hgX.four
  have HL := hide hL
  clear hX hfX hgX hL
  go_still_tail 20, (by kernel_rfl)
  repeat still_step
  still_call (compare7_any _ _ _)
  repeat still_step
  still_call (compare7_any _ _ _)
  repeat still_step
  still_call (compare7_any _ _ _)
  repeat still_step
  still_call (compare7_any _ _ _)
  repeat still_step
  refine wpStill_nil ?_
  change wpList _ _ _ _ _ X.drew
  go_wp2_with (go_at_call 60; refine (or7_any X.heap.size 4 _ _ _ _ _ (by first | exact (Blk.new X.drew 3 _).cell 0) (by first | exact (Blk.new X.drew 3 _).cell 1) (by first | exact (Blk.new X.drew 3 _).cell 2) (by first | exact (Blk.new X.drew 3 _).cell 3)).mono ?_; rintro e wx ⟨rfl, rfl⟩)
  go_ret
  exact ⟨rfl, (HL.out.alloc _).trans ⟨1, #[], by simp; rfl⟩⟩
/-! The order. -/
theorem ltF_iff (f g : EF) : ltF f g = true ↔ f.1 < g.1 ∨ (f.1 = g.1 ∧ (f.2.2.2 < g.2.2.2 ∨ (f.2.2.2 = g.2.2.2 ∧ (f.2.2.1 < g.2.2.1 ∨ (f.2.2.1 = g.2.2.1 ∧ f.2.1 < g.2.1))))) := by
  unfold ltF
  simp only [Bool.or_eq_true, Bool.and_eq_true, decide_eq_true_eq]
theorem sto_F : STO ltF where
  irrefl := ltF_irrefl
  trans f g h h1 h2 := by rw [ltF_iff] at *; omega
  total f g h1 h2 := by
    have a : ¬ ltF f g = true := by rw [h1]; simp
    have b : ¬ ltF g f = true := by rw [h2]; simp
    rw [ltF_iff] at a b
    refine Prod.ext ?_ (Prod.ext ?_ (Prod.ext ?_ ?_)) <;> omega
theorem ltOf_ordF : ltOf ordF = ltF := by
  funext f g
  unfold ltOf
  rw [Bool.eq_iff_iff, decide_eq_true_eq, ltF_iff]
  unfold ordF or4 cmpI
  split <;> split <;> (try split) <;> (try split) <;> (try split) <;> (try split) <;> (try split) <;> (try split) <;> (try split) <;> (try split) <;> (try split) <;> omega
instance : Inhabited EF := ⟨(0, 0, 0, 0)⟩
def sortF (l : List EF) : List EF := l.mergeSort fun x y => !ltF y x
theorem encF_one (f : EF) : ∀ u ∈ encF f, u.oneCell' = true := by
  intro u hu
  simp only [encF, List.mem_cons, List.not_mem_nil, or_false] at hu
  rcases hu with rfl | rfl | rfl | rfl <;> rfl
theorem sortF_mem {l : List EF} {f : EF} : f ∈ sortF l ↔ f ∈ l := List.mem_mergeSort
theorem sort_face_none (p : Option Addr) (c : Nat) (w : World) : Calls Try.prog 45 #[.slice p 0 c, .func (.func 46) #[] #[]] w fun e w' => e = .returned (.tuple #[]) ∧ w = w' := by
  have h := AnyF.slices_SortFunc_none sortFaceL p c (.func (.func 46) #[] #[]) w
  exact h.mono fun e w' h => ⟨h.1, h.2.symm⟩
theorem sort_face_own (g cap n base : Nat) (ts : List EF) (w : World) (hO : Own encF 4 45 w base (.slice (some ⟨g, 0, none⟩) n cap) n ts) (hn : ts.length < 4611686018427387904) :
    Calls Try.prog 45 #[.slice (some ⟨g, 0, none⟩) n cap, .func (.func 46) #[] #[]] w fun e w' =>
      e = .returned (.tuple #[]) ∧ w.grownBy w' (some g) ∧ Own encF 4 45 w' base (.slice (some ⟨g, 0, none⟩) n cap) n (sortF ts) := by
  have hH := hO.holdsK encF_len
  have hlen := hO.1
  rcases hO.2.2 with ⟨h0, _⟩ | ⟨g', cap', cur, hv, hbg, hg, hc, hm, hs, _⟩
  · cases h0
  injection hv with hv _ hcc
  injection hv with hv
  injection hv with hv
  subst hv
  subst hcc
  have hlt : g < w.heap.size := (Array.getElem?_eq_some_iff.1 hg).1
  have eg : ∀ args w, (callFunc 46 args).run Try.prog w = .ok (.enter 46 args) w := enters_of Try.func46 (by kernel_rfl) rfl
  have hO : SWO (ltOf ordF) := by rw [ltOf_ordF]; exact sto_F.swo
  have hT : ∀ x y, ltOf ordF x y = false → ltOf ordF y x = false → x = y := by rw [ltOf_ordF]; exact sto_F.total
  have h := AnyQ.slices_SortFunc_total sortFaceL 4 Try.isAgg45 Try.sizeOf45 encF encF_len encF_one ordF hO 46 #[] g 0 cap ts.toArray w eg
    (fun _ _ _ _ x y => order7_any x y _) hH hlt (by simpa using hn) hT
  change Calls Try.prog 45 _ _ _ at h
  rw [ltOf_ordF] at h
  rw [show ts.toArray.size = n by simp [hlen]] at h
  refine h.mono ?_
  rintro e w' ⟨rfl, m, os, rfl⟩
  refine ⟨rfl, sortWorldK_grownBy, ?_⟩
  have hHs : HoldsK encF 4 (sortWorldK encF 4 w g 0 m (sortF ts).toArray os) g 0 (sortF ts).toArray := sortWorldK_holds hlt hH (by simp [sortF])
  have hgs : ∃ cur', (sortWorldK encF 4 w g 0 m (sortF ts).toArray os).heap[g]? = some (.cells cur' 45 (0, 0)) ∧ cur'.size = cur.size := by
    unfold sortWorldK
    rw [heap_grow_old _ _ (by simpa [putRowK] using hlt)]
    simp only [putRowK, putRow, mapBlock, heap_ahead, Array.getElem?_modify, hg, if_true, Option.map_some]
    exact ⟨_, rfl, by simp [putCells]⟩
  obtain ⟨cur', hg', hsz⟩ := hgs
  exact Own.of_holdsK encF_len hbg hg' hc hm (by rw [hsz, hs]) (by rw [hlen]; simp [sortF]) hHs
/-- A list of faces, each once, sorted: the one ordered list of its members. -/
theorem sortF_eq {l m : List EF} (hl : l.Nodup) (hm : m.Pairwise fun f g => ltF f g = true) (h : ∀ f, f ∈ l ↔ f ∈ m) : sortF l = m := by
  have hp : (sortF l).Perm l := List.mergeSort_perm l _
  have hs : (sortF l).Pairwise fun f g => (!ltF g f) = true := List.pairwise_mergeSort (fun a b c h1 h2 => by
    rw [Bool.not_eq_true'] at *
    cases hca : ltF c a with
    | false => rfl
    | true =>
      exfalso
      rw [ltF_iff] at hca
      have h1' : ¬ ltF b a = true := by rw [h1]; simp
      have h2' : ¬ ltF c b = true := by rw [h2]; simp
      rw [ltF_iff] at h1' h2'
      omega) (fun a b => by
    rw [Bool.or_eq_true, Bool.not_eq_true', Bool.not_eq_true']
    cases h1 : ltF b a with
    | false => exact .inl rfl
    | true =>
      refine .inr ?_
      cases h2 : ltF a b with
      | false => rfl
      | true => rw [ltF_iff] at h1 h2; omega) l
  have hnd : (sortF l).Nodup := hp.nodup_iff.2 hl
  refine sorted_eq ?_ hm fun f => by rw [sortF_mem]; exact h f
  have := hs.and hnd
  refine this.imp fun {a b} hab => ?_
  have h1 : ltF b a = false := by have := hab.1; rwa [Bool.not_eq_true'] at this
  cases h2 : ltF a b with
  | true => rfl
  | false => exact absurd (sto_F.total a b h2 h1) hab.2
end Go.Proofs.Ytdpgohpbannfnaa
/- Words for (*seal.sealer).odd: a range over a map, the parities of faces. -/
namespace Go.Proofs.Ytdpgohpbannfnaa
open Go.RowKit Go.Sort Go.WideMaps Go.Maps
theorem MapK.range_le {P : Program} {κ : Type} {kt : TypeId} {enc : κ → Value} {ok : κ → Prop} {w : World} {b n : Nat} {m : κ → Option Value} {t e : TypeId} (K : KeyFit P kt enc ok) (h : MapK P kt enc ok w b n m) (ht : P.underlying t = some (.map kt e)) :
    ∃ w' cnt, (Instr.range t (.map (some b))).run P w = .ok (.pointer (some ⟨w.heap.size, 0, none⟩)) w' ∧ RngK P kt enc ok w' b w.heap.size n m (fun p => (m p).isSome) cnt ∧ w.grownBy w' none ∧ w'.heap.size = w.heap.size + 1 ∧ cnt ≤ n := by
  obtain ⟨D, h1, h2⟩ := h
  obtain ⟨w', hrun, hr, hg, hz⟩ := h1.range K.keyed ht
  refine ⟨w', _, hrun, ⟨D, _, hr, h2, fun p l hl => (h2.1 p l hl).1, fun l hl => hl⟩, hg, hz, ?_⟩
  obtain ⟨es, clock, _, _, hle, rfl⟩ := h1
  simpa [Maps.size, length_sorted] using hle
theorem RngK.below {P : Program} {κ : Type} {kt : TypeId} {enc : κ → Value} {ok : κ → Prop} {w w' : World} {b r n cnt B : Nat} {m : κ → Option Value} {left : κ → Bool} (h : RngK P kt enc ok w b r n m left cnt) (hb : Below B w w') (h0 : w.heap.size ≤ B) : RngK P kt enc ok w' b r n m left cnt :=
  h.kept (row := none) ⟨hb.os, hb.tape, hb.output, hb.size, fun k hk _ => hb.block k (by omega)⟩ (by simp) (by simp)
theorem below_of_grown_none {A B : World} {n : Nat} (h : A.grownBy B none) (hn : n ≤ A.heap.size) : Below n A B :=
  ⟨h.os, h.tape, h.output, h.size, fun k hk => h.block k (by omega) (by simp)⟩
/-- Block b is a map of at most n entries: parities of faces. -/
def ParM (w : World) (b n : Nat) (pr : EF → Bool) : Prop := ∃ m, MapK Try.prog 45 vF fitsF w b n m ∧ ∀ f, (m f).getD (.bool false) = .bool (pr f)
theorem ParM.kept {w w' : World} {b n : Nat} {pr : EF → Bool} {row : Option Nat} (h : ParM w b n pr) (hg : w.grownBy w' row) (hne : some b ≠ row) : ParM w' b n pr := by
  obtain ⟨m, h1, h2⟩ := h
  exact ⟨m, h1.kept hg hne, h2⟩
theorem ParM.below {w w' : World} {b n B : Nat} {pr : EF → Bool} (h : ParM w b n pr) (hb : Below B w w') (hB : b < B) : ParM w' b n pr := by
  obtain ⟨m, h1, h2⟩ := h
  exact ⟨m, h1.below hb hB, h2⟩
theorem ParM.lt {w : World} {b n : Nat} {pr : EF → Bool} (h : ParM w b n pr) : b < w.heap.size := by
  obtain ⟨m, h1, _⟩ := h
  exact h1.lt
set_option maxRecDepth 100000 in
theorem ParM.look {w : World} {b n : Nat} {pr : EF → Bool} (h : ParM w b n pr) (f : EF) (hf : fitsF f) : (Instr.lookup 88 (.map (some b)) (vF f) false).run Try.prog w = .ok (.bool (pr f)) w := by
  obtain ⟨m, h1, h2⟩ := h
  have := h1.lookup kfF7 (t := 88) (e := 4) Try.underlying88 (z := .bool false) rfl f hf
  rw [h2] at this
  exact this
set_option maxRecDepth 100000 in
theorem ParM.turn {w : World} {b n : Nat} {pr : EF → Bool} (h : ParM w b n pr) (hn : n < maxLen) (f : EF) (hf : fitsF f) : ∃ w', (Instr.mapUpdate 88 (.map (some b)) (vF f) (.bool (!pr f))).run Try.prog w = .ok () w' ∧ ParM w' b (n + 1) (togE pr f) ∧ w.grownBy w' (some b) ∧ w'.heap.size = w.heap.size := by
  obtain ⟨m, h1, h2⟩ := h
  obtain ⟨w', hrun, hm, hg, hz⟩ := h1.update kfF7 (t := 88) (e := 4) Try.underlying88 hn f hf (.bool (!pr f))
  refine ⟨w', hrun, ⟨_, hm, fun g => ?_⟩, hg, hz⟩
  unfold togE
  by_cases hgf : g = f
  · subst hgf; rw [if_pos rfl, if_pos rfl]; rfl
  · rw [if_neg hgf, if_neg hgf]; exact h2 g
theorem Own.lower {α : Type} {enc : α → List Value} {k base base' n : Nat} {e : TypeId} {w : World} {v : Value} {xs : List α} (h : Own enc k e w base v n xs) (hb : base' ≤ base) : Own enc k e w base' v n xs := by
  rcases h.2.2 with h0 | ⟨g, cap, cur, a, b, c⟩
  · exact ⟨h.1, h.2.1, .inl h0⟩
  · exact ⟨h.1, h.2.1, .inr ⟨g, cap, cur, a, Nat.le_trans hb b, c⟩⟩
theorem tog_snoc (l : List EF) (f : EF) : togsE noE (l ++ [f]) = togE (togsE noE l) f := by rw [togsE_append]; rfl
/-- The faces of an edge, two and two. -/
def axJ (e : EF) (j : Nat) : Int := if j = 0 then (e.1 + 2) % 3 else (e.1 + 1) % 3
def alJ (e : EF) (j : Nat) : Int := if j = 0 then (e.1 + 1) % 3 else (e.1 + 2) % 3
def fcJ (e : EF) (j : Nat) : List EF := [(axJ e j, e.2), (axJ e j, add3 e.2 (alJ e j) (-1))]
theorem fcJ_all (e : EF) : facesE e = fcJ e 0 ++ fcJ e 1 := rfl
def fcs (e : EF) (j : Nat) : List EF := if j = 0 then [] else if j = 1 then fcJ e 0 else facesE e
theorem fcs_succ (e : EF) {j : Nat} (hj : j < 2) : fcs e (j + 1) = fcs e j ++ fcJ e j := by
  have hc : j = 0 ∨ j = 1 := by omega
  rcases hc with rfl | rfl <;> rfl
theorem axJ_rem (e : EF) {j : Nat} (hj : j < 2) (_h3 : 0 ≤ e.1 ∧ e.1 < 3) : (e.1 + 3 - ((j + 1 : Nat) : Int)) % 3 = axJ e j ∧ (e.1 + ((j + 1 : Nat) : Int)) % 3 = alJ e j := by
  have hc : j = 0 ∨ j = 1 := by omega
  unfold axJ alJ
  rcases hc with rfl | rfl <;> simp <;> omega
theorem alJ_ax (e : EF) (j : Nat) : (alJ e j = 0 ∨ alJ e j = 1 ∨ alJ e j = 2) ∧ (axJ e j = 0 ∨ axJ e j = 1 ∨ axJ e j = 2) := by
  unfold axJ alJ
  constructor <;> (split <;> omega)
/-- An inner edge is small. -/
theorem inn_mid {n : Nat} (hn : n ≤ 256) {e : EF} (h : innE n e = true) : (0 ≤ e.1 ∧ e.1 < 3) ∧ midP7 e.2 := by
  unfold innE at h
  simp only [Bool.and_eq_true, decide_eq_true_eq] at h
  unfold midP7 midI
  omega
theorem add3_fits {p : Pt} (hp : midP7 p) (a : Int) {v : Int} (hv : midI v) : fitsP (add3 p a v) := by
  unfold midP7 midI at hp
  unfold midI at hv
  unfold fitsP fits add3 set3 cmp3
  split
  · dsimp only; omega
  · split <;> (dsimp only; omega)
theorem fcJ_fits {n : Nat} (hn : n ≤ 256) {e : EF} (h : innE n e = true) (j : Nat) : ∀ f ∈ fcJ e j, fitsF f := by
  obtain ⟨h3, hm⟩ := inn_mid hn h
  have ha := (alJ_ax e j).2
  intro f hf
  unfold fcJ at hf
  simp only [List.mem_cons, List.not_mem_nil, or_false] at hf
  have f0 : fits (axJ e j) := by unfold fits; omega
  rcases hf with rfl | rfl
  · refine ⟨f0, ?_⟩
    unfold midP7 midI at hm
    unfold fitsP fits
    dsimp only
    omega
  · exact ⟨f0, add3_fits hm _ (by unfold midI; omega)⟩
theorem infoF : (Try.prog.info? 45).map (fun i => (i.zero, i.size, i.bytes)) = some (some (.agg #[.int .i64 0, .int .i64 0, .int .i64 0, .int .i64 0]), 4, 32) := by kernel_rfl
end Go.Proofs.Ytdpgohpbannfnaa
/- (*seal.sealer).odd. -/
namespace Go.Proofs.Ytdpgohpbannfnaa
open Go.RowKit Go.Sort Go.WideMaps Go.Maps
set_option maxRecDepth 100000 in
set_option maxHeartbeats 32000000 in
theorem odd7_any (bs mb n cnt : Nat) (E : EF → Bool) (w : World) (hn : n ≤ 256) (hS : SealM w bs mb n cnt E) (hE : InnE n E) (hcnt : cnt ≤ 1000000) :
    Calls Try.prog 31 #[.pointer (some ⟨bs, 0, none⟩)] w fun e w' => ∃ v, e = .returned v ∧ Own encF 4 45 w' w.heap.size v (oddL E (n + 1)).length (oddL E (n + 1)) ∧ Below w.heap.size w w' := by
  have hlb := hS.box.lt
  have hlm := hS.set.lt
  have hmm := @run_makeMap Try.prog
  have HW := hide (And.intro hS hE)
  clear hS hE
  go_enter Try.func31, Try.ntmps31
  go_upto_region 2 with fail
  obtain ⟨X, hX⟩ : ∃ X, X = w.alloc (.map #[] 0) := ⟨_, rfl⟩
  rw [← hX]
  have hzX : X.heap.size = w.heap.size + 1 := by rw [hX]; simp
  have hBX : Below w.heap.size w X := by rw [hX]; exact (Below.refl _ w).alloc (Nat.le_refl _) _
  have hSX := HW.out.1.below hBX hlb hlm
  have hPX : ParM X w.heap.size 0 (togsE noE (([] : List EF).flatMap facesE)) := by
    rw [hX]
    exact ⟨_, MapK.made Try.prog 45 vF fitsF w, fun _ => rfl⟩
  obtain ⟨b0, b1⟩ := hSX.two
  obtain ⟨w1, c0, hrun, hrg, hg1, hz1, hc0⟩ := MapK.range_le kfE7 (t := 63) (e := 4) (show MapK Try.prog 70 vF fitsF X mb cnt (setV E) from hSX.set) Try.underlying63
  rw [hzX] at hrun hrg
  have hP1 := hPX.kept hg1 (by simp)
  have hB1 : Below w.heap.size w w1 := hBX.trans (below_of_grown_none hg1 (by omega))
  have H1 := hide (And.intro hrg (And.intro hP1 (And.intro hB1 hc0)))
  clear hX hBX hSX hPX hrg hg1 hP1 hB1 hc0 hmm hz1 hzX
  go_wp2_with fail
  go_loopw [4] (fun _ wr => ∃ (left : EF → Bool) (c : Nat) (L : List EF) (np : Nat), RngK Try.prog 70 vF fitsF wr mb (w.heap.size + 1) cnt (setV E) left c ∧ ParM wr w.heap.size np (togsE noE (L.flatMap facesE)) ∧ L.Nodup ∧ (∀ e, e ∈ L ↔ E e = true ∧ left e = false) ∧ np ≤ 4 * L.length ∧ L.length + c ≤ c0 ∧ Below w.heap.size w wr) (fun _ wr => wr.rangeLeft mb (w.heap.size + 1))
  case atStart =>
    refine ⟨_, c0, [], 0, H1.out.1, H1.out.2.1, List.nodup_nil, fun e => ?_, by omega, by simp, H1.out.2.2.1⟩
    constructor
    · intro h; cases h
    · rintro ⟨h1, h2⟩
      unfold setV at h2
      rw [if_pos h1] at h2
      cases h2
  case round =>
    obtain ⟨left, c, L, np, hrg, hP, hLn, hLm, hnp, hLc, hB⟩ := hrel
    obtain ⟨V, rfl⟩ : ∃ V, V = wr := ⟨_, rfl⟩
    rcases hrg.next kfE7 0 with ⟨hc00, hall, hrunN⟩ | ⟨e, v, w2, c', hok, hleft, hm, hrunN, hr2, hlt2, hg2, hz2, hent⟩
    · have hpr : ∀ f, togsE noE (L.flatMap facesE) f = true ↔ f ∈ oddL E (n + 1) := fun f => by
        have hL3 : ∀ x ∈ L, 0 ≤ x.1 ∧ x.1 < 3 := fun x hx => (inn_mid hn (HW.out.2 x ((hLm x).1 hx).1)).1
        have hEL : togsE noE L = E := by
          funext x
          rw [togsE_nodup hLn]
          cases hx : E x with
          | true => exact decide_eq_true ((hLm x).2 ⟨hx, hall x (by obtain ⟨a, b⟩ := inn_mid hn (HW.out.2 x hx); unfold midP7 midI at b; unfold fitsF fitsP fits; omega)⟩)
          | false => exact decide_eq_false fun h => by have := ((hLm x).1 h).1; rw [hx] at this; cases this
        rw [oddL_mem2 HW.out.2]
        by_cases hf : 0 ≤ f.1 ∧ f.1 < 3
        · rw [par_face hL3 hf, hEL]
          exact ⟨fun h => ⟨hf, h⟩, fun h => h.2⟩
        · rw [par_off hf]
          exact ⟨fun h => (by cases h), fun h => absurd h.1 hf⟩
      obtain ⟨pr, hpr0⟩ : ∃ pr, pr = togsE noE (L.flatMap facesE) := ⟨_, rfl⟩
      rw [← hpr0] at hP hpr
      obtain ⟨m, hM, hmp⟩ := hP
      obtain ⟨w3, c3, hrun3, hrg3, hg3, hz3, hc3⟩ := hM.range_le kfF7 (t := 88) (e := 4) Try.underlying88
      have hB3 : Below w.heap.size w w3 := hB.trans (below_of_grown_none hg3 hB.size)
      have hnp3 : np ≤ 4000000 := by have := H1.out.2.2.2; omega
      obtain ⟨it, hit⟩ : ∃ it, it = V.heap.size := ⟨_, rfl⟩
      rw [← hit] at hrun3 hrg3
      have hlt3 : w.heap.size ≤ it ∧ it < w3.heap.size := ⟨by rw [hit]; exact hB.size, by rw [hit, hz3]; omega⟩
      have hpb : w.heap.size < it := by rw [hit]; exact hM.lt
      have H3 := hide (And.intro hpr (And.intro hmp (And.intro hrg3 (And.intro hB3 (And.intro hnp3 (And.intro hlt3 (And.intro hc3 hpb)))))))
      clear hpr hpr0 hmp hrg hLn hLm hnp hLc hB hall hM hrg3 hg3 hz3 hc3 hB3 hnp3 hlt3 hit hpb hc00
      go_wp2_with fail
      go_loopw [10] (fun ov wr => ∃ (left : EF → Bool) (c : Nat) (D : List EF), RngK Try.prog 45 vF fitsF wr w.heap.size it np m left c ∧ D.Nodup ∧ (∀ f, f ∈ D ↔ pr f = true ∧ left f = false) ∧ D.length + c ≤ c3 ∧ Own encF 4 45 wr (it + 1) ov D.length D ∧ Below w.heap.size w wr) (fun _ wr => wr.rangeLeft w.heap.size it)
      case atStart =>
        refine ⟨_, c3, [], H3.out.2.2.1, List.nodup_nil, fun f => ?_, by simp, Own.nil, H3.out.2.2.2.1⟩
        constructor
        · intro h; cases h
        · rintro ⟨h1, h2⟩
          have h3 := H3.out.2.1 f
          rw [h1] at h3
          cases hm : m f with
          | none => rw [hm] at h3; cases h3
          | some v => rw [hm] at h2; cases h2
      case round =>
        obtain ⟨left, c, D, hrg, hDn, hDm, hDc, hown, hB⟩ := hrel
        obtain ⟨V, rfl⟩ : ∃ V, V = wr := ⟨_, rfl⟩
        obtain ⟨oA, oc, rfl⟩ := hown.form
        rcases hrg.next kfF7 0 with ⟨hc00, hall, hrunN⟩ | ⟨f, v, w5, c', hok, hleft, hm, hrunN, hr5, hlt5, hg5, hz5, hent⟩
        · have hsort : sortF D = oddL E (n + 1) := sortF_eq hDn (oddL_sorted E (n + 1)) fun f => by
            rw [hDm, ← H3.out.1]
            constructor
            · exact fun h => h.1
            · intro h
              refine ⟨h, hall f ?_⟩
              have hg := (oddL_mem.1 ((H3.out.1 f).1 h)).1
              unfold grdF at hg
              unfold fitsF fitsP fits
              omega
          by_cases hne : D = []
          · subst hne
            have hDe : oddL E (n + 1) = [] := by rw [← hsort]; simp [sortF]
            rw [List.length_nil]
            have HF := hide (And.intro hDe (And.intro hown hB))
            clear hrg hDn hDm hDc hown hB hall hsort hDe hc00
            go_wp2_with (go_at_call 45; refine (sort_face_none _ _ _).mono ?_; rintro e w8 ⟨rfl, rfl⟩)
            go_ret
            refine ⟨_, rfl, ?_, HF.out.2.2⟩
            rw [HF.out.1]
            exact HF.out.2.1.lower (by have := H3.out.2.2.2.2.2.1.1; omega)
          · obtain ⟨g, cap, hv, hbg, hltg⟩ := hown.at hne
            injection hv with e1 _ e3
            subst e1 e3
            have hcal := sort_face_own g oc D.length (it + 1) D V hown (by have := H3.out.2.2.2.2.1; have := H3.out.2.2.2.2.2.2.1; omega)
            rw [hsort] at hcal
            have hlen : D.length = (oddL E (n + 1)).length := by rw [← hsort]; simp [sortF]
            obtain ⟨dl, hdl⟩ : ∃ d, d = D.length := ⟨_, rfl⟩
            rw [← hdl] at hcal ⊢
            have HF := hide (And.intro hcal (And.intro hB (And.intro hlen (And.intro hdl (And.intro hbg hltg)))))
            clear hrg hDn hDm hDc hown hB hall hsort hcal hlen hbg hltg hdl hne hc00
            go_wp2_with (go_at_call 45; refine (unhide HF).1.mono ?_; rintro e w8 ⟨rfl, hg8, ho8⟩)
            go_ret
            refine ⟨_, rfl, ?_, HF.out.2.1.trans (grown_is_below7 hg8 HF.out.2.1.size (by have := H3.out.2.2.2.2.2.1.1; have := HF.out.2.2.2.2.1; omega))⟩
            rw [← HF.out.2.2.1, ← HF.out.2.2.2.1]
            exact ho8.lower (by have := H3.out.2.2.2.2.2.1.1; omega)
        · have hv : v = .bool (pr f) := by
            have h3 := H3.out.2.1 f
            rw [hm] at h3
            exact h3
          subst hv
          have hown5 := hown.step hg5 (fun r hr => .inl (by cases hr; omega))
          have hB5 : Below w.heap.size w w5 := hB.trans (grown_is_below7 hg5 hB.size H3.out.2.2.2.2.2.1.1)
          have hml := hrg.left_eq
          have hzi := hB5.size
          have hsz5 : it < w5.heap.size := by have := hr5.lt; exact this
          have hDm5 : ∀ x, x ∈ (if pr f = true then D ++ [f] else D) ↔ pr x = true ∧ (left x && !decide (x = f)) = false := fun x => by
            by_cases hx : x = f
            · subst hx
              cases hp : pr x with
              | true => simp
              | false => simp [hDm, hp]
            · cases hp : pr f with
              | true => simp [hDm, hx]
              | false => simp [hDm, hx]
          have hDn5 : (if pr f = true then D ++ [f] else D).Nodup := by
            split
            · refine List.nodup_append.2 ⟨hDn, by simp, fun a ha b hb => ?_⟩
              rw [List.mem_singleton.1 hb]
              rintro rfl
              have := ((hDm a).1 ha).2
              rw [hleft] at this
              cases this
            · exact hDn
          obtain ⟨dl, hdl⟩ : ∃ d, d = D.length := ⟨_, rfl⟩
          rw [← hdl] at hown5 hDc ⊢
          have HF := hide (And.intro hown5 (And.intro hB5 (And.intro hml (And.intro hlt5 (And.intro hr5 (And.intro hDm5 (And.intro hDn5 (And.intro hDc (And.intro hdl hsz5)))))))))
          clear hrg hDn hDm hown hB hm hr5 hlt5 hg5 hz5 hown5 hB5 hml hDm5 hDn5 hleft hok hDc hdl hsz5 hzi
          cases hp : pr f with
          | true =>
            rw [hp] at hrunN hent
            go_upto_region 18 with fail
            obtain ⟨Y, hY⟩ : ∃ Y, Y = w5.alloc (.cells #[.int .i64 f.1, .int .i64 f.2.1, .int .i64 f.2.2.1, .int .i64 f.2.2.2] 45) := ⟨_, rfl⟩
            rw [← hY]
            have hBY : Below w5.heap.size w5 Y := by rw [hY]; exact (Below.refl _ w5).alloc (Nat.le_refl _) _
            have hfY : Blk Y w5.heap.size 45 #[.int .i64 f.1, .int .i64 f.2.1, .int .i64 f.2.2.1, .int .i64 f.2.2.2] := by rw [hY]; exact Blk.new _ _ _
            obtain ⟨d0, d1, d2, d3⟩ := hfY.four
            have hoY := HF.out.1.below hBY (Nat.le_refl _)
            have hDc := HF.out.2.2.2.2.2.2.2.1
            have hc3 := H3.out.2.2.2.2.2.2.1
            have hn3 := H3.out.2.2.2.2.1
            have hitY : it + 1 ≤ Y.heap.size := by have := HF.out.2.2.2.2.2.2.2.2.2; have := hBY.size; omega
            have HY := hide hBY
            clear hY hBY hfY hrunN hent
            go_wp2_with (at_builtin; refine wpList_append1 rfl _ _ _ rfl Try.underlying38 infoF rfl (by omega) encF_len encF_one rfl (hoY.alloc _) Y.heap.size 1 f rfl (Blk.new _ _ _) (by unfold maxLen; omega) (by omega) (by simp; omega) ?_; intro g cap w7 hown7 hg7 hB7 hat7 hgb7 hlt7)
            have hpb := H3.out.2.2.2.2.2.2.2
            have hr7 := ((HF.out.2.2.2.2.1.below HY.out (Nat.le_refl _)).below ((Below.refl Y.heap.size Y).alloc (Nat.le_refl _) _) (Nat.le_refl _)).kept hg7 (fun e => by have := (hoY.blk _ e.symm).1; omega) (fun e => by have := (hoY.blk _ e.symm).1; omega)
            have hB7' : Below w.heap.size w w7 := (HF.out.2.1.trans (HY.out.mono HF.out.2.1.size)).trans (((Below.refl (it + 1) Y).alloc hitY _).trans hB7 |>.mono (by omega))
            have hDm7 := HF.out.2.2.2.2.2.1
            have hDn7 := HF.out.2.2.2.2.2.2.1
            rw [if_pos hp] at hDn7
            have hDm8 : ∀ x, x ∈ D ++ [f] ↔ pr x = true ∧ (left x && !decide (x = f)) = false := fun x => by
              have := hDm7 x
              rwa [if_pos hp] at this
            have hdl := HF.out.2.2.2.2.2.2.2.2.1
            have hlt5 := HF.out.2.2.2.1
            have hl1 : (D ++ [f]).length = dl + 1 := by rw [List.length_append, List.length_singleton, hdl]
            refine ⟨⟨_, c', D ++ [f], hr7, hDn7, hDm8, by omega, by rw [hl1]; exact hown7, hB7'⟩, ?_⟩
            rw [hr7.left_eq, HF.out.2.2.1]
            exact hlt5
          | false =>
            rw [hp] at hrunN hent
            have hDm5 := HF.out.2.2.2.2.2.1
            have hDn5 := HF.out.2.2.2.2.2.2.1
            rw [if_neg (by rw [hp]; simp)] at hDn5
            have hDm6 : ∀ x, x ∈ D ↔ pr x = true ∧ (left x && !decide (x = f)) = false := fun x => by
              have := hDm5 x
              rwa [if_neg (by rw [hp]; simp)] at this
            have HN := hide (And.intro hDn5 hDm6)
            clear hDm5 hDn5 hDm6
            go_upto_region 18 with fail
            obtain ⟨Y, hY⟩ : ∃ Y, Y = w5.alloc (.cells #[.int .i64 f.1, .int .i64 f.2.1, .int .i64 f.2.2.1, .int .i64 f.2.2.2] 45) := ⟨_, rfl⟩
            rw [← hY]
            have hBY : Below w5.heap.size w5 Y := by rw [hY]; exact (Below.refl _ w5).alloc (Nat.le_refl _) _
            have HY := hide hBY
            clear hY hBY hrunN hent
            go_wp2
            go_roundw
            case rel =>
              refine ⟨_, c', D, HF.out.2.2.2.2.1.below HY.out (Nat.le_refl _), HN.out.1, HN.out.2, by have := HF.out.2.2.2.2.2.2.2.1; have := HF.out.2.2.2.1; have := HF.out.2.2.2.2.2.2.2.2.1; omega, ?_, HF.out.2.1.trans (HY.out.mono HF.out.2.1.size)⟩
              rw [← HF.out.2.2.2.2.2.2.2.2.1]
              exact HF.out.1.below HY.out (Nat.le_refl _)
            case measure => rw [(HF.out.2.2.2.2.1.below HY.out (Nat.le_refl _)).left_eq, HF.out.2.2.1]; exact HF.out.2.2.2.1
    · have hEe : E e = true := by
        cases h : E e with
        | true => rfl
        | false => unfold setV at hm; rw [h] at hm; cases hm
      have hv : v = .bool true := by unfold setV at hm; rw [if_pos hEe] at hm; cases hm; rfl
      subst hv
      obtain ⟨h3, hmid⟩ := inn_mid hn (HW.out.2 e hEe)
      have hft := fcJ_fits hn (HW.out.2 e hEe)
      have hP2 := hP.kept hg2 (by simp)
      have hzV := hB.size
      have hB2 : Below w.heap.size w w2 := hB.trans (grown_is_below7 hg2 hzV (by omega))
      have hml := hrg.left_eq
      have HM := hide (And.intro hP2 (And.intro hLn (And.intro hLm (And.intro hnp (And.intro hLc (And.intro hB2 (And.intro hr2 (And.intro hlt2 (And.intro hleft (And.intro hEe (And.intro hml (And.intro hmid (And.intro hft hz2)))))))))))))
      clear hrg hP hLn hLm hnp hLc hB hm hr2 hlt2 hg2 hleft hEe hP2 hB2 hml hok hmid hft hz2
      go_upto_region 5 with fail
      obtain ⟨Y, hY⟩ : ∃ Y, Y = w2.alloc (.cells #[.int .i64 e.1, .int .i64 e.2.1, .int .i64 e.2.2.1, .int .i64 e.2.2.2] 70) := ⟨_, rfl⟩
      rw [← hY]
      have heY : Blk Y w2.heap.size 70 #[.int .i64 e.1, .int .i64 e.2.1, .int .i64 e.2.2.1, .int .i64 e.2.2.2] := by rw [hY]; exact Blk.new _ _ _
      have hBY2 : Below w2.heap.size w2 Y := by rw [hY]; exact (Below.refl _ w2).alloc (Nat.le_refl _) _
      have hBY : Below w.heap.size w Y := HM.out.2.2.2.2.2.1.trans (hBY2.mono HM.out.2.2.2.2.2.1.size)
      have hPY := HM.out.1.below hBY2 HM.out.1.lt
      have hrY := HM.out.2.2.2.2.2.2.1.below hBY2 (Nat.le_refl _)
      have HY := hide (And.intro heY (And.intro hBY (And.intro hPY hrY)))
      clear hY heY hBY2 hBY hPY hrY hrunN hent
      go_wp2_with fail
      go_loopw [5] (fun bv wr => ∃ (j : Nat) (np' : Nat), j ≤ 2 ∧ bv = .int .i64 ((j : Int) + 1) ∧ RngK Try.prog 70 vF fitsF wr mb (w.heap.size + 1) cnt (setV E) (fun q => left q && !decide (q = e)) c' ∧ ParM wr w.heap.size np' (togsE noE (L.flatMap facesE ++ fcs e j)) ∧ np' ≤ 4 * L.length + 2 * j ∧ Blk wr w2.heap.size 70 #[.int .i64 e.1, .int .i64 e.2.1, .int .i64 e.2.2.1, .int .i64 e.2.2.2] ∧ Below w.heap.size w wr) (fun bv _ => 3 - (intOf bv).toNat)
      case atStart => exact ⟨0, np, by omega, rfl, HY.out.2.2.2, by show ParM _ _ _ (togsE noE (_ ++ [])); rw [List.append_nil]; exact HY.out.2.2.1, by have := HM.out.2.2.2.1; omega, HY.out.1, HY.out.2.1⟩
      case round =>
        obtain ⟨j, np', hj, rfl, hrg, hP, hnp, heV, hB⟩ := hrel
        obtain ⟨V, rfl⟩ : ∃ V, V = wr := ⟨_, rfl⟩
        by_cases hj2 : j < 2
        · have i1 : (j : Int) + 1 < 3 := by omega
          have hrem := axJ_rem e hj2 h3
          obtain ⟨bal, bax⟩ := alJ_ax e j
          have hfc : fcJ e j = [(axJ e j, e.2), (axJ e j, add3 e.2 (alJ e j) (-1))] := rfl
          have hfs := fcs_succ e hj2
          obtain ⟨ax, hax⟩ : ∃ a, a = axJ e j := ⟨_, rfl⟩
          obtain ⟨al, hal⟩ : ∃ a, a = alJ e j := ⟨_, rfl⟩
          push_cast at hrem
          rw [← hax, ← hal] at hrem hfc
          rw [← hax] at bax
          rw [← hal] at bal
          obtain ⟨h30, h31⟩ := h3
          have t1 : Int.tmod (e.1 + ((j : Int) + 1)) 3 = al := by rw [Int.tmod_eq_emod_of_nonneg (by omega)]; exact hrem.2
          have t2 : Int.tmod (e.1 + 3 - ((j : Int) + 1)) 3 = ax := by rw [Int.tmod_eq_emod_of_nonneg (by omega)]; exact hrem.1
          have hftJ := HM.out.2.2.2.2.2.2.2.2.2.2.2.2.1 j
          rw [hfc] at hftJ
          obtain ⟨a0, a1, a2, a3⟩ := heV.four
          have HQ := hide (And.intro hrg (And.intro hP (And.intro hnp (And.intro heV (And.intro hB (And.intro hfc (And.intro hfs (And.intro hftJ (And.intro bal bax)))))))))
          have bal' : 0 ≤ al ∧ al < 3 := by omega
          have bax' : 0 ≤ ax ∧ ax < 3 := by omega
          obtain ⟨l0, l1⟩ := bal'
          obtain ⟨x0, x1⟩ := bax'
          clear hrg hP hnp heV hB hfc hfs hftJ bal bax hax hal hrem
          go_upto_region 8 with fail
          go_quiet (fail)
          go_wp2_with fail
          obtain ⟨Z, hZ⟩ : ∃ Z, Z = V.drewN nq := ⟨_, rfl⟩
          rw [← hZ]
          have hBZ : Below V.heap.size V Z := by rw [hZ]; exact below_drewN (Below.refl _ V) nq
          have heZ := HQ.out.2.2.2.1.below hBZ HQ.out.2.2.2.1.lt
          have hSS : ∀ W, Below Z.heap.size Z W → (fun W => W.cell? ⟨w2.heap.size, 1, none⟩ = some (.int .i64 e.2.1) ∧ W.cell? ⟨w2.heap.size, 2, none⟩ = some (.int .i64 e.2.2.1) ∧ W.cell? ⟨w2.heap.size, 3, none⟩ = some (.int .i64 e.2.2.2)) W := fun W hW => by
            obtain ⟨_, c1, c2, c3⟩ := (heZ.below hW heZ.lt).four
            exact ⟨c1, c2, c3⟩
          have HZ := hide (And.intro hBZ (And.intro hSS (hSS Z.drew (Below.refl _ Z).drew)))
          clear hBZ heZ hSS hZ a0 a1 a2 a3
          refine wp_region_mix (fun W => W.cell? ⟨w2.heap.size, 1, none⟩ = some (.int .i64 e.2.1) ∧ W.cell? ⟨w2.heap.size, 2, none⟩ = some (.int .i64 e.2.2.1) ∧ W.cell? ⟨w2.heap.size, 3, none⟩ = some (.int .i64 e.2.2.2)) [0, 1, 2, 4, 5, 6, 7, 12] [0, 1, 2, 4, 5, 6, 7, 12, 3, 8, 9, 10, 11] mixed_ok (by kernel_rfl) ?_
          refine wpMix_q (v := .int .i64 ax) rfl rfl (fun _ _ _ h => h) HZ.out.2.2 ⟨rfl, fun _ h' => by simp [go_sem]⟩ ?_
          refine wpMix_q (v := .pointer (some ⟨w2.heap.size, 1, none⟩)) rfl rfl (fun _ _ _ h => h) HZ.out.2.2 ⟨rfl, fun _ h' => by simp [go_sem]⟩ ?_
          refine wpMix_q (v := vP e.2) rfl rfl (fun _ _ _ h => h) HZ.out.2.2 ⟨rfl, fun _ h' => by simp [go_sem, h'.1, h'.2.1, h'.2.2]⟩ ?_
          refine wpMix_q (v := .int .i64 ax) rfl rfl (fun _ _ _ h => h) HZ.out.2.2 ⟨rfl, fun _ h' => by simp [go_sem]⟩ ?_
          simp only [List.getElem_toArray, List.getElem_cons_succ, List.getElem_cons_zero, Act.put, List.setIfInBounds_toArray, List.set_cons_succ, List.set_cons_zero]
          refine wpMix_q (v := .pointer (some ⟨w2.heap.size, 1, none⟩)) rfl rfl (fun _ _ _ h => h) HZ.out.2.2 ⟨rfl, fun _ h' => by simp [go_sem]⟩ ?_
          refine wpMix_q (v := vP e.2) rfl rfl (fun _ _ _ h => h) HZ.out.2.2 ⟨rfl, fun _ h' => by simp [go_sem, h'.1, h'.2.1, h'.2.2]⟩ ?_
          refine wpMix_q (v := .int .i64 al) rfl rfl (fun _ _ _ h => h) HZ.out.2.2 ⟨rfl, fun _ h' => by simp [go_sem]⟩ ?_
          refine wpMix_q (v := .int .i64 0) rfl rfl (fun _ _ _ h => h) HZ.out.2.2 ⟨rfl, fun _ h' => by simp [go_sem]⟩ ?_
          simp only [List.getElem_toArray, List.getElem_cons_succ, List.getElem_cons_zero, Act.put, List.setIfInBounds_toArray, List.set_cons_succ, List.set_cons_zero]
          refine wpMix_n rfl rfl ?_
          go_wp2_with fail
          refine (face7_any ax e.2 Z.drew).mono ?_
          rintro r w5 ⟨rfl, hL5⟩
          have H5 := hide (show Below Z.heap.size Z w5 from (Below.refl _ Z).drew.trans hL5.below)
          clear hL5
          go_wp2_with fail
          refine ⟨fun _ => HZ.out.2.1 w5 H5.out, ?_⟩
          refine wpMix_n rfl rfl ?_
          go_wp2_with fail
          refine (moved7_any e.2 al (-1) HQ.out.2.2.2.2.2.2.2.2.1 HM.out.2.2.2.2.2.2.2.2.2.2.2.1 (by unfold midI; omega) w5).mono ?_
          rintro r w6 ⟨rfl, hL6⟩
          have H6 := hide (show Below Z.heap.size Z w6 from H5.out.trans (hL6.below.mono H5.out.size))
          clear hL6
          go_wp2_with fail
          refine ⟨fun _ => HZ.out.2.1 w6 H6.out, ?_⟩
          refine wpMix_n rfl rfl ?_
          go_wp2_with fail
          refine (face7_any ax (add3 e.2 al (-1)) w6).mono ?_
          rintro r w7 ⟨rfl, hL7⟩
          have H7 := hide (show Below Z.heap.size Z w7 from H6.out.trans (hL7.below.mono H6.out.size))
          clear hL7
          go_wp2_with fail
          refine ⟨fun _ => HZ.out.2.1 w7 H7.out, ?_⟩
          refine wpMix_n rfl rfl ?_
          go_wp2_with fail
          obtain ⟨f1, hf1⟩ : ∃ f, f = (ax, add3 e.2 al (-1)) := ⟨_, rfl⟩
          obtain ⟨f0, hf0⟩ : ∃ f : EF, f = (ax, e.2) := ⟨_, rfl⟩
          obtain ⟨U, hU⟩ : ∃ U, U = w7.alloc (.cells #[.int .i64 f0.1, .int .i64 f0.2.1, .int .i64 f0.2.2.1, .int .i64 f0.2.2.2, .int .i64 f1.1, .int .i64 f1.2.1, .int .i64 f1.2.2.1, .int .i64 f1.2.2.2] 45) := ⟨_, rfl⟩
          have hU' := hU
          rw [hf0, hf1] at hU'
          rw [← hU']
          have hfU : Blk U w7.heap.size 45 #[.int .i64 f0.1, .int .i64 f0.2.1, .int .i64 f0.2.2.1, .int .i64 f0.2.2.2, .int .i64 f1.1, .int .i64 f1.2.1, .int .i64 f1.2.2.1, .int .i64 f1.2.2.2] := by rw [hU]; exact Blk.new _ _ _
          have hZU : Below Z.heap.size Z U := by rw [hU]; exact H7.out.alloc H7.out.size _
          have hBVZ := HZ.out.1
          have hVU : Below V.heap.size V U := hBVZ.trans (hZU.mono hBVZ.size)
          have hPU := HQ.out.2.1.below hVU HQ.out.2.1.lt
          have hRU := HQ.out.1.below hVU (Nat.le_refl _)
          have heU := HQ.out.2.2.2.1.below hVU HQ.out.2.2.2.1.lt
          have hBU := HQ.out.2.2.2.2.1.trans (hVU.mono HQ.out.2.2.2.2.1.size)
          have hlt7 : w2.heap.size < w7.heap.size := Nat.lt_of_lt_of_le HQ.out.2.2.2.1.lt (Nat.le_trans hBVZ.size H7.out.size)
          have hz7 : U.heap.size = w7.heap.size + 1 := by rw [hU]; simp
          have hfc : fcJ e j = [f0, f1] := by rw [hf0, hf1]; exact HQ.out.2.2.2.2.2.1
          have hft0 : fitsF f0 := HQ.out.2.2.2.2.2.2.2.1 f0 (by rw [hf0]; simp)
          have hft1 : fitsF f1 := HQ.out.2.2.2.2.2.2.2.1 f1 (by rw [hf1]; simp)
          have HU := hide (And.intro hfU (And.intro hZU (And.intro hPU (And.intro hRU (And.intro heU (And.intro hBU (And.intro hfc (And.intro hft0 (And.intro hft1 (And.intro hlt7 hz7))))))))))
          clear hfU hBVZ hVU hPU hRU heU hBU hlt7 hfc hft0 hft1 hz7 hU hU'
          refine ⟨fun _ => HZ.out.2.1 U hZU, ?_⟩
          refine wpMix_n rfl rfl ?_
          go_wp2_with fail
          refine ⟨fun _ => HZ.out.2.1 U hZU, ?_⟩
          refine wpMix_nil ?_
          clear hZU
          rw [← hf0, ← hf1]
          clear hf0 hf1
          go_wp2_with fail
          go_loopw [50] (fun iv wr => ∃ (i : Nat) (np2 : Nat), i ≤ 2 ∧ iv = .int .i64 i ∧ RngK Try.prog 70 vF fitsF wr mb (w.heap.size + 1) cnt (setV E) (fun q => left q && !decide (q = e)) c' ∧ ParM wr w.heap.size np2 (togsE noE (L.flatMap facesE ++ fcs e j ++ [f0, f1].take i)) ∧ np2 ≤ np' + i ∧ Blk wr w2.heap.size 70 #[.int .i64 e.1, .int .i64 e.2.1, .int .i64 e.2.2.1, .int .i64 e.2.2.2] ∧ Blk wr w7.heap.size 45 #[.int .i64 f0.1, .int .i64 f0.2.1, .int .i64 f0.2.2.1, .int .i64 f0.2.2.2, .int .i64 f1.1, .int .i64 f1.2.1, .int .i64 f1.2.2.1, .int .i64 f1.2.2.2] ∧ Below w.heap.size w wr) (fun iv _ => 2 - (intOf iv).toNat)
          case atStart => exact ⟨0, np', by omega, rfl, HU.out.2.2.2.1, by rw [List.take_zero, List.append_nil]; exact HU.out.2.2.1, by omega, HU.out.2.2.2.2.1, HU.out.1, HU.out.2.2.2.2.2.1⟩
          case round =>
            obtain ⟨i, np2, hi, rfl, hrg, hP, hnp2, heV, hfV, hB⟩ := hrel
            obtain ⟨V3, rfl⟩ : ∃ V, V = wr := ⟨_, rfl⟩
            have hc : i = 0 ∨ i = 1 ∨ i = 2 := by omega
            rcases hc with rfl | rfl | rfl
            · rw [show ((0 : Nat) : Int) = 0 from rfl]
              have c0' : V3.cell? ⟨w7.heap.size, 0, none⟩ = some (.int .i64 f0.1) := hfV.cell 0
              have c1' : V3.cell? ⟨w7.heap.size, 1, none⟩ = some (.int .i64 f0.2.1) := hfV.cell 1
              have c2' : V3.cell? ⟨w7.heap.size, 2, none⟩ = some (.int .i64 f0.2.2.1) := hfV.cell 2
              have c3' : V3.cell? ⟨w7.heap.size, 3, none⟩ = some (.int .i64 f0.2.2.2) := hfV.cell 3
              have HE := hide (And.intro hrg (And.intro hP (And.intro hnp2 (And.intro heV (And.intro hfV hB)))))
              clear hrg hP hnp2 heV hfV hB
              go_upto_region 12 with fail
              obtain ⟨W, hW⟩ : ∃ W, W = V3.alloc (.cells #[.int .i64 f0.1, .int .i64 f0.2.1, .int .i64 f0.2.2.1, .int .i64 f0.2.2.2] 45) := ⟨_, rfl⟩
              rw [← hW]
              have hBW : Below V3.heap.size V3 W := by rw [hW]; exact (Below.refl _ V3).alloc (Nat.le_refl _) _
              have hfW : Blk W V3.heap.size 45 #[.int .i64 f0.1, .int .i64 f0.2.1, .int .i64 f0.2.2.1, .int .i64 f0.2.2.2] := by rw [hW]; exact Blk.new _ _ _
              obtain ⟨d0, d1, d2, d3⟩ := hfW.four
              obtain ⟨pr, hpr⟩ : ∃ pr, pr = togsE noE (L.flatMap facesE ++ fcs e j ++ [f0, f1].take 0) := ⟨_, rfl⟩
              have hPW := HE.out.2.1.below hBW HE.out.2.1.lt
              rw [← hpr] at hPW
              have hlk := ParM.look (w := W.drew) hPW f0 HU.out.2.2.2.2.2.2.2.1
              have hLc := HM.out.2.2.2.2.1
              obtain ⟨w9, hrun9, hP9, hg9, hz9⟩ := ParM.turn (w := W.drew) hPW (by have := HE.out.2.2.1; have := HQ.out.2.2.1; have := H1.out.2.2.2; have := HM.out.2.2.2.2.1; unfold maxLen; omega) f0 HU.out.2.2.2.2.2.2.2.1
              have htg : togE pr f0 = togsE noE (L.flatMap facesE ++ fcs e j ++ [f0, f1].take 1) := by
                rw [hpr]
                rw [List.take_zero, List.append_nil]
                exact (tog_snoc _ _).symm
              rw [htg] at hP9
              have hbl : Below V3.heap.size V3 W.drew := hBW.drew
              have hg39 : V3.grownBy w9 (some w.heap.size) := grown_below7 hbl hg9
              have hB9 : Below w.heap.size w w9 := HE.out.2.2.2.2.2.trans (grown_is_below7 hg39 HE.out.2.2.2.2.2.size (Nat.le_refl _))
              have hr9 := HE.out.1.kept hg39 (by simp; omega) (by simp)
              have he9 := HE.out.2.2.2.1.grown hg39 (by simp; have := HM.out.1.lt; omega)
              have hf9 := HE.out.2.2.2.2.1.grown hg39 (by simp; have := HM.out.1.lt; have := HU.out.2.2.2.2.2.2.2.2.2.1; omega)
              have H9 := hide (And.intro hr9 (And.intro hP9 (And.intro he9 (And.intro hf9 hB9))))
              clear hBW hfW hPW hpr hP9 hg9 hz9 hbl hg39 hB9 hr9 he9 hf9 htg hW hLc c0' c1' c2' c3'
              go_still_tail 6, (by kernel_rfl)
              repeat still_step
              change wpList _ _ _ _ _ W.drew
              go_wp2
              go_roundw
              case rel => exact ⟨1, _, by omega, by go_num, H9.out.1, H9.out.2.1, by have := HE.out.2.2.1; omega, H9.out.2.2.1, H9.out.2.2.2.1, H9.out.2.2.2.2⟩
              case measure => simp [intOf]
            · rw [show ((1 : Nat) : Int) = 1 from rfl]
              have c0' : V3.cell? ⟨w7.heap.size, 4, none⟩ = some (.int .i64 f1.1) := hfV.cell 4
              have c1' : V3.cell? ⟨w7.heap.size, 5, none⟩ = some (.int .i64 f1.2.1) := hfV.cell 5
              have c2' : V3.cell? ⟨w7.heap.size, 6, none⟩ = some (.int .i64 f1.2.2.1) := hfV.cell 6
              have c3' : V3.cell? ⟨w7.heap.size, 7, none⟩ = some (.int .i64 f1.2.2.2) := hfV.cell 7
              have HE := hide (And.intro hrg (And.intro hP (And.intro hnp2 (And.intro heV (And.intro hfV hB)))))
              clear hrg hP hnp2 heV hfV hB
              go_upto_region 12 with fail
              obtain ⟨W, hW⟩ : ∃ W, W = V3.alloc (.cells #[.int .i64 f1.1, .int .i64 f1.2.1, .int .i64 f1.2.2.1, .int .i64 f1.2.2.2] 45) := ⟨_, rfl⟩
              rw [← hW]
              have hBW : Below V3.heap.size V3 W := by rw [hW]; exact (Below.refl _ V3).alloc (Nat.le_refl _) _
              have hfW : Blk W V3.heap.size 45 #[.int .i64 f1.1, .int .i64 f1.2.1, .int .i64 f1.2.2.1, .int .i64 f1.2.2.2] := by rw [hW]; exact Blk.new _ _ _
              obtain ⟨d0, d1, d2, d3⟩ := hfW.four
              obtain ⟨pr, hpr⟩ : ∃ pr, pr = togsE noE (L.flatMap facesE ++ fcs e j ++ [f0, f1].take 1) := ⟨_, rfl⟩
              have hPW := HE.out.2.1.below hBW HE.out.2.1.lt
              rw [← hpr] at hPW
              have hlk := ParM.look (w := W.drew) hPW f1 HU.out.2.2.2.2.2.2.2.2.1
              have hLc := HM.out.2.2.2.2.1
              obtain ⟨w9, hrun9, hP9, hg9, hz9⟩ := ParM.turn (w := W.drew) hPW (by have := HE.out.2.2.1; have := HQ.out.2.2.1; have := H1.out.2.2.2; have := HM.out.2.2.2.2.1; unfold maxLen; omega) f1 HU.out.2.2.2.2.2.2.2.2.1
              have htg : togE pr f1 = togsE noE (L.flatMap facesE ++ fcs e j ++ [f0, f1].take 2) := by
                rw [hpr]
                rw [show [f0, f1].take 2 = [f0] ++ [f1] from rfl, ← List.append_assoc]
                exact (tog_snoc _ _).symm
              rw [htg] at hP9
              have hbl : Below V3.heap.size V3 W.drew := hBW.drew
              have hg39 : V3.grownBy w9 (some w.heap.size) := grown_below7 hbl hg9
              have hB9 : Below w.heap.size w w9 := HE.out.2.2.2.2.2.trans (grown_is_below7 hg39 HE.out.2.2.2.2.2.size (Nat.le_refl _))
              have hr9 := HE.out.1.kept hg39 (by simp; omega) (by simp)
              have he9 := HE.out.2.2.2.1.grown hg39 (by simp; have := HM.out.1.lt; omega)
              have hf9 := HE.out.2.2.2.2.1.grown hg39 (by simp; have := HM.out.1.lt; have := HU.out.2.2.2.2.2.2.2.2.2.1; omega)
              have H9 := hide (And.intro hr9 (And.intro hP9 (And.intro he9 (And.intro hf9 hB9))))
              clear hBW hfW hPW hpr hP9 hg9 hz9 hbl hg39 hB9 hr9 he9 hf9 htg hW hLc c0' c1' c2' c3'
              go_still_tail 6, (by kernel_rfl)
              repeat still_step
              change wpList _ _ _ _ _ W.drew
              go_wp2
              go_roundw
              case rel => exact ⟨2, _, by omega, by go_num, H9.out.1, H9.out.2.1, by have := HE.out.2.2.1; omega, H9.out.2.2.1, H9.out.2.2.2.1, H9.out.2.2.2.2⟩
              case measure => simp [intOf]
            · rw [show ((2 : Nat) : Int) = 2 from rfl]
              have HE := hide (And.intro hrg (And.intro hP (And.intro hnp2 (And.intro heV hB))))
              clear hrg hP hnp2 heV hfV hB
              go_wp2
              go_roundw
              case rel =>
                refine ⟨j + 1, np2, by omega, by go_num, HE.out.1, ?_, by have := HE.out.2.2.1; have := HQ.out.2.2.1; omega, HE.out.2.2.2.1, HE.out.2.2.2.2⟩
                rw [HQ.out.2.2.2.2.2.2.1, HU.out.2.2.2.2.2.2.1, ← List.append_assoc]
                exact HE.out.2.1
              case measure => simp [intOf]; omega
        · have i1 : ¬ (j : Int) + 1 < 3 := by omega
          have hj22 : j = 2 := by omega
          subst hj22
          have HE := hide (And.intro hrg (And.intro hP (And.intro hnp hB)))
          clear hrg hP hnp hB heV
          go_wp2
          go_roundw
          case rel =>
            refine ⟨_, c', L ++ [e], np', HE.out.1, by rw [List.flatMap_append, List.flatMap_singleton]; exact HE.out.2.1, ?_, fun x => ?_, by rw [List.length_append, List.length_singleton]; have := HE.out.2.2.1; omega, by rw [List.length_append, List.length_singleton]; have := HM.out.2.2.2.2.1; have := HM.out.2.2.2.2.2.2.2.1; omega, HE.out.2.2.2⟩
            · refine List.nodup_append.2 ⟨HM.out.2.1, by simp, fun a ha b hb => ?_⟩
              rw [List.mem_singleton.1 hb]
              rintro rfl
              have := ((HM.out.2.2.1 a).1 ha).2
              rw [HM.out.2.2.2.2.2.2.2.2.1] at this
              cases this
            · rw [List.mem_append, List.mem_singleton, HM.out.2.2.1 x]
              by_cases hx : x = e
              · subst hx
                simp [HM.out.2.2.2.2.2.2.2.2.2.1]
              · simp [hx]
          case measure => rw [HE.out.1.left_eq, HM.out.2.2.2.2.2.2.2.2.2.2.1]; exact HM.out.2.2.2.2.2.2.2.1
end Go.Proofs.Ytdpgohpbannfnaa
/- seal.Odd. -/
namespace Go.Proofs.Ytdpgohpbannfnaa
open Go.RowKit Go.Sort Go.WideMaps Go.Maps
/-- What Odd returns for any level. -/
def oddV (L : Int) (l : List EF) : List EF := if 1 ≤ L ∧ L ≤ 8 then oddP (2 ^ L.toNat) l else []
theorem pow_small {L : Nat} (h8 : L ≤ 8) : 2 ^ L ≤ 256 := Nat.pow_le_pow_right (by omega) h8 (n := 2)
set_option maxRecDepth 100000 in
set_option maxHeartbeats 8000000 in
theorem Odd7_any (L : Int) (A : Option Addr) (c : Nat) (l : List EF) (w : World) (hs : Sl encF 4 w w.heap.size A l) (hl : l.length ≤ 1000000) (hf : ∀ e ∈ l, fitsF e) :
    Calls Try.prog 18 #[.slice A l.length c, .int .i64 L] w fun e w' => ∃ v, e = .returned v ∧ Own encF 4 45 w' w.heap.size v (oddV L l).length (oddV L l) ∧ Below w.heap.size w w' := by
  by_cases hL : 1 ≤ L ∧ L ≤ 8
  · obtain ⟨K, hK⟩ : ∃ K : Nat, L = K := ⟨L.toNat, by omega⟩
    subst hK
    have hbg := begin7_any K (by omega) (by omega) A c l w hs hl hf
    have hK8 : K ≤ 8 := by omega
    have hv : oddV K l = oddL (givE ((2 ^ K : Nat) : Int) l) (2 ^ K + 1) := by unfold oddV oddP; rw [if_pos hL, Int.toNat_natCast]
    rw [hv]
    obtain ⟨M, hM⟩ : ∃ M, M = l.length := ⟨_, rfl⟩
    rw [← hM] at hbg hl ⊢
    have H0 := hide (And.intro hbg (And.intro hK8 hl))
    clear hbg hL hK8 hl hv hM hs hf
    go_enter Try.func18, Try.ntmps18
    go_wp2_with fail
    refine H0.out.1.mono ?_
    rintro e w1 ⟨bs, mb, rfl, hS, hB, hb1, hb2⟩
    have hod := odd7_any bs mb (2 ^ K) M (givE ((2 ^ K : Nat) : Int) l) w1 (pow_small H0.out.2.1) hS (giv_inn _ l) H0.out.2.2
    have H1 := hide (And.intro hod hB)
    clear hod hB hS hb1 hb2
    go_wp2_with fail
    refine H1.out.1.mono ?_
    rintro e w2 ⟨v, rfl, hown, hB2⟩
    have H2 := hide (And.intro (hown.lower H1.out.2.size) (H1.out.2.trans (hB2.mono H1.out.2.size)))
    clear hown hB2
    go_wp2
    go_ret
    exact ⟨_, rfl, H2.out.1, H2.out.2⟩
  · have hv : oddV L l = [] := if_neg hL
    rw [hv]
    obtain ⟨M, hM⟩ : ∃ M, M = l.length := ⟨_, rfl⟩
    rw [← hM] at hl ⊢
    have H0 := hide hL
    clear hL hl hv hM hs hf
    go_enter Try.func18, Try.ntmps18
    go_wp2_with fail
    refine (begin7_bad L H0.out A M c w).mono ?_
    rintro e w1 ⟨rfl, rfl⟩
    go_wp2
    go_ret
    exact ⟨_, rfl, Own.nil, Below.refl _ _⟩
end Go.Proofs.Ytdpgohpbannfnaa
