/- ref08.Field at any level from 1 to 3, ref08.Level, law08.field. -/
import Derived.Test.YtfljcgehhnmamaaCField1
import Derived.Test.YtfljcgehhnmamaaCField2
import Derived.Test.YtfljcgehhnmamaaCField3
namespace Go.Proofs.Ytfljcgehhnmamaa
open Go.RowKit Go.Sort
/-- A fresh valid field of level l. -/
def FldR (l : Nat) (w w' : World) (e : Ending) : Prop := ∃ g F, e = .returned (.agg #[.int .i64 l, .slice (some ⟨g, 0, none⟩) F.length F.length]) ∧ Blk w' g 4 (F.map Value.bool).toArray ∧ w.heap.size ≤ g ∧ validF l F = true ∧ Below w.heap.size w w'
theorem field_any (l : Nat) (h1 : 1 ≤ l) (h3 : l ≤ 3) (A : Option Addr) (c : Nat) (ns : List Int) (w : World) (hs : ns ≠ [] → Sl encZ 1 w w.heap.size A ns) (hf : ∀ x ∈ ns, fits x) (hl : ns.length ≤ 9223372036854775807) :
    Calls Try.prog 23 #[.int .i64 l, .slice A ns.length c] w fun e w' => FldR l w w' e := by
  have hc : l = 1 ∨ l = 2 ∨ l = 3 := by omega
  have key : ∀ (l s N : Nat), 1 ≤ l → l ≤ 3 → s = 2 ^ l → N = (s + 1) * (s + 1) * (s + 1) → ∀ e w', (∃ g F, e = .returned (.agg #[.int .i64 l, .slice (some ⟨g, 0, none⟩) N N]) ∧ Blk w' g 4 (F.map Value.bool).toArray ∧ w.heap.size ≤ g ∧ F.length = N ∧ okF F s N = true ∧ Below w.heap.size w w') → FldR l w w' e := by
    rintro l s N h1 h3 rfl rfl e w' ⟨g, F, he, hb, hg, hlen, hok, hB⟩
    refine ⟨g, F, by rw [hlen]; exact he, hb, hg, ?_, hB⟩
    unfold validF
    have hL : (1 : Int) ≤ (l : Int) ∧ (l : Int) ≤ 8 := by omega
    rw [decide_eq_true hL, Int.toNat_natCast, decide_eq_true hlen, hlen, hok]
    rfl
  rcases hc with rfl | rfl | rfl
  · exact (field_1 A c ns w hs hf hl).mono fun e w' h => key 1 2 27 (by omega) (by omega) rfl rfl e w' h
  · exact (field_2 A c ns w hs hf hl).mono fun e w' h => key 2 4 125 (by omega) (by omega) rfl rfl e w' h
  · exact (field_3 A c ns w hs hf hl).mono fun e w' h => key 3 8 729 (by omega) (by omega) rfl rfl e w' h
def lvlP (n : Nat) : Nat := 1 + n % 3
set_option maxRecDepth 100000 in
set_option maxHeartbeats 4000000 in
theorem level_any (n : Nat) (hn : n < 256) (w : World) : Calls Try.prog 26 #[.int .u8 n] w fun e w' => e = .returned (.int .i64 (lvlP n : Nat)) ∧ w' = w := by
  have he : ((lvlP n : Nat) : Int) = 1 + (n : Int) % 3 := by unfold lvlP; push_cast; rfl
  rw [he]
  clear he
  go_enter Try.func26, Try.ntmps26
  go_wp2
  go_ret
  exact ⟨rfl, rfl⟩
theorem lvl_b (n : Nat) : 1 ≤ lvlP n ∧ lvlP n ≤ 3 := by unfold lvlP; omega
set_option maxRecDepth 100000 in
set_option maxHeartbeats 4000000 in
theorem lfield_any (n : Nat) (hn : n < 256) (A : Option Addr) (c : Nat) (ns : List Int) (w : World) (hs : ns ≠ [] → Sl encZ 1 w w.heap.size A ns) (hf : ∀ x ∈ ns, fits x) (hl : ns.length ≤ 9223372036854775807) :
    Calls Try.prog 13 #[.int .u8 n, .slice A ns.length c] w fun e w' => FldR (lvlP n) w w' e := by
  have hfd := fun W (hW : Below w.heap.size w W) => field_any (lvlP n) (lvl_b n).1 (lvl_b n).2 A c ns W (fun hne => ((hs hne).below hW).more hW.size) hf hl
  obtain ⟨nl, hnl⟩ : ∃ nl, nl = ns.length := ⟨_, rfl⟩
  rw [← hnl] at hfd ⊢
  have HF := hide hfd
  clear hfd hs hf hl hnl
  go_enter Try.func13, Try.ntmps13
  obtain ⟨X, hX⟩ : ∃ X, X = w.alloc (.cells #[.int .i64 0, .slice none 0 0] 26) := ⟨_, rfl⟩
  have hBX : Below w.heap.size w X := by rw [hX]; exact (Below.refl _ w).alloc (Nat.le_refl _) _
  have hbX : Blk X w.heap.size 26 #[.int .i64 0, .slice none 0 0] := by rw [hX]; exact Blk.new _ _ _
  have hzX : X.heap.size = w.heap.size + 1 := by rw [hX]; simp
  have HX := hide (And.intro hBX (And.intro hbX hX))
  clear hBX hbX hX
  go_wp2_with fail
  rw [← HX.out.2.2]
  refine (level_any n hn X).mono ?_
  rintro e w1 ⟨rfl, rfl⟩
  go_wp2_with fail
  refine (HF.out w1 HX.out.1).mono ?_
  rintro e w2 ⟨g, F, rfl, hb, hg, hv, hB⟩
  obtain ⟨fl, hfl⟩ : ∃ fl, fl = F.length := ⟨_, rfl⟩
  obtain ⟨lv, hlv⟩ : ∃ lv, lv = lvlP n := ⟨_, rfl⟩
  rw [← hlv] at hv ⊢
  rw [← hfl]
  have hbr := HX.out.2.1.below hB (by omega)
  have hz2 := hB.size
  obtain ⟨r0, r1⟩ := (show w2.cell? ⟨w.heap.size, 0, none⟩ = some (.int .i64 0) ∧ w2.cell? ⟨w.heap.size, 1, none⟩ = some (.slice none 0 0) from ⟨hbr.cell 0, hbr.cell 1⟩)
  have f0 := hbr.frozen 0
  have f1 := hbr.frozen 1
  have H2 := hide (And.intro hbr (And.intro hb (And.intro hv (And.intro hB hfl))))
  have HL := hide hlv
  clear hbr hb hv hB hfl hlv
  go_wp2_with fail
  refine fld_ret (L := lv) (g := g) (N := fl) (w := w) (V := w2) rfl H2.out.1 ?_ rfl ?_
  · intro Z z0 z1
    simp [results, Try.results13, go_sem, z0, z1]
  · intro W' hW'
    refine ⟨g, F, by rw [← H2.out.2.2.2.2, ← HL.out], ?_, by omega, by rw [← HL.out]; exact H2.out.2.2.1, ?_⟩
    · rw [hW']; exact (H2.out.2.1.far (p := ⟨w.heap.size, 0, none⟩) (by dsimp only; omega) _).far (p := ⟨w.heap.size, 1, none⟩) (by dsimp only; omega) _
    · rw [hW']
      exact ((HX.out.1.trans (H2.out.2.2.2.1.mono (by omega))).setCell (by dsimp only; omega) _).setCell (by dsimp only; omega) _
end Go.Proofs.Ytfljcgehhnmamaa
