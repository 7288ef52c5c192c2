/- ref04.Same: equality of canonical forms. -/
import Derived.Test.YtfljcgehhnmamaaCCanon04
import Derived.Test.YtfljcgehhnmamaaCEqual
namespace Go.Proofs.Ytfljcgehhnmamaa
open Go.RowKit Go.Sort
set_option maxRecDepth 100000 in
set_option maxHeartbeats 2000000 in
theorem same04_any (A B : Option Addr) (c d : Nat) (xs ys : List Tri) (w : World) (hx : Sl encT 9 w w.heap.size A xs) (hy : Sl encT 9 w w.heap.size B ys) (hlx : xs.length ≤ 2147483648) (hly : ys.length ≤ 2147483648) (hfx : ∀ t ∈ xs, fitsT t) (hfy : ∀ t ∈ ys, fitsT t) :
    Calls Try.prog 24 #[.slice A xs.length c, .slice B ys.length d] w fun e w' => e = .returned (.bool (decide (canonO xs = canonO ys))) ∧ Below w.heap.size w w' := by
  have H := hide (And.intro hx (And.intro hy (And.intro hfx hfy)))
  clear hx hy hfx hfy
  go_enter Try.func24, Try.ntmps24
  go_wp2_with fail
  refine (canon04_any A c xs _ H.out.1 hlx H.out.2.2.1).mono ?_
  rintro e w1 ⟨A1, c1, rfl, hB1, hs1, hc1⟩
  have H1 := hide (And.intro hB1 (And.intro hs1 hc1))
  clear hB1 hs1 hc1
  go_wp2_with fail
  refine (canon04_any B d ys _ ((H.out.2.1.below H1.out.1).more H1.out.1.size) hly H.out.2.2.2).mono ?_
  rintro e w2 ⟨A2, c2, rfl, hB2, hs2, hc2⟩
  have heq := equal_any A1 A2 c1 c2 (canonO xs) (canonO ys) w2 w1.heap.size w2.heap.size (H1.out.2.1.below hB2) hs2 (by rw [canonO_length]; omega) (by rw [canonO_length]; omega) (fitsT_canon H.out.2.2.1) (fitsT_canon H.out.2.2.2)
  rw [canonO_length, canonO_length] at heq
  have H2 := hide (And.intro hB2 heq)
  clear hB2 hs2 hc2 heq
  go_wp2_with fail
  refine H2.out.2.mono ?_
  rintro e w3 ⟨rfl, n, rfl⟩
  go_wp2
  go_ret
  exact ⟨rfl, below_drewN (H1.out.1.trans (H2.out.1.mono H1.out.1.size)) n⟩
end Go.Proofs.Ytfljcgehhnmamaa
