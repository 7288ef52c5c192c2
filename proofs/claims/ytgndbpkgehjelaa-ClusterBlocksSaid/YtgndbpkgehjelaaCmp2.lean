/- cmp.Or at three numbers, mesh.compareTris, ref02.Less. -/
import Derived.Test.YtgndbpkgehjelaaCmp
import Derived.Deep.RegionHeld3
import Derived.Deep.DrawnRows
namespace Go.Proofs.Ytgndbpkgehjelaa
open Go.RowKit Go.Sort
def orI (x y z : Int) : Int := if x ≠ 0 then x else if y ≠ 0 then y else z
set_option maxHeartbeats 1000000 in
theorem or_any (b c : Nat) (x y z : Int) (w : World) (h0 : w.cell? ⟨b, 0, none⟩ = some (vi x)) (h1 : w.cell? ⟨b, 1, none⟩ = some (vi y)) (h2 : w.cell? ⟨b, 2, none⟩ = some (vi z)) :
    Calls Try.prog 60 #[.slice (some ⟨b, 0, none⟩) 3 c] w fun e w' => e = .returned (vi (orI x y z)) ∧ w = w' := by
  by_cases hx : x = 0
  · have ex : (x != 0) = false := by simp [hx]
    have HX := hide hx
    clear hx
    by_cases hy : y = 0
    · have ey : (y != 0) = false := by simp [hy]
      have HY := hide hy
      clear hy
      by_cases hz : z = 0
      · have ez : (z != 0) = false := by simp [hz]
        have HZ := hide hz
        clear hz
        go_enter Try.func60, Try.ntmps60
        go_wp2
        go_rounds 4
        go_ret
        exact ⟨by simp [orI, HX.out, HY.out, HZ.out], rfl⟩
      · have ez : (z != 0) = true := by simp [hz]
        go_enter Try.func60, Try.ntmps60
        go_wp2
        go_rounds 4
        go_ret
        exact ⟨by simp [orI, HX.out, HY.out], rfl⟩
    · have ey : (y != 0) = true := by simp [hy]
      go_enter Try.func60, Try.ntmps60
      go_wp2
      go_rounds 4
      go_ret
      exact ⟨by simp [orI, HX.out, hy], rfl⟩
  · have ex : (x != 0) = true := by simp [hx]
    go_enter Try.func60, Try.ntmps60
    go_wp2
    go_rounds 4
    go_ret
    exact ⟨by simp [orI, hx], rfl⟩
set_option maxHeartbeats 1000000 in
theorem rless_any (a b : Pt) (w : World) : Calls Try.prog 44 #[vP a, vP b] w fun e w' => e = .returned (.bool (ltP a b)) ∧ Lay w w' := by
  by_cases hx : a.1 = b.1
  · have ex : (a.1 != b.1) = false := by simp [hx]
    have HX := hide hx
    clear hx
    by_cases hy : a.2.1 = b.2.1
    · have ey : (a.2.1 != b.2.1) = false := by simp [hy]
      have HY := hide hy
      clear hy
      go_enter Try.func44, Try.ntmps44
      go_wp2
      go_ret
      exact ⟨by simp [ltP, HX.out, HY.out], ((Lay.refl _).alloc _).alloc _⟩
    · have ey : (a.2.1 != b.2.1) = true := by simp [hy]
      go_enter Try.func44, Try.ntmps44
      go_wp2
      go_ret
      exact ⟨by simp [ltP, HX.out, hy], ((Lay.refl _).alloc _).alloc _⟩
  · have ex : (a.1 != b.1) = true := by simp [hx]
    go_enter Try.func44, Try.ntmps44
    go_wp2
    go_ret
    exact ⟨by simp [ltP, hx], ((Lay.refl _).alloc _).alloc _⟩
end Go.Proofs.Ytgndbpkgehjelaa
