import Derived.Test.YtmemofonebphfaaGreatProg
import Derived.Test.YtmemofonebphfaaGreatV3
namespace Go.Proofs.YtmemofonebphfaaGreat
open Go.RowKit
theorem tmod_emod1 (n m:Int) (hm:0 < m):(n.tmod m+m) % m=n % m:=by
 rw [Int.add_emod_right]
 by_cases h:n < 0
 ·have e:n.tmod m= -((-n) % m):=by
   rw [←Int.tmod_eq_emod_of_nonneg (show 0≤ -n by omega),Int.neg_tmod,Int.neg_neg]
  have h2:=Int.emod_nonneg n (show m≠0 by omega)
  have h3:=Int.emod_lt_of_pos n hm
  have h4:n % m=n - m*(n / m):=Int.emod_def n m
  rw [e]
  have h5:(-n) % m= -n - m*(-n / m):=Int.emod_def _ _
  rw [h5,show -(-n - m*(-n / m))=n+m*(-n / m) by omega]
  exact Int.add_mul_emod_self_left n m _
 ·rw [Int.tmod_eq_emod_of_nonneg (by omega)];exact Int.emod_emod_of_dvd n (Int.dvd_refl m)
theorem tmod_bound1 (n m:Int) (hm:0 < m): -m < n.tmod m∧n.tmod m < m:=by
 have h1:=Int.tmod_lt_of_pos n hm
 have h2: -n.tmod m < m:=by rw [←Int.neg_tmod];exact Int.tmod_lt_of_pos _ hm
 omega
theorem mod1_any (n m:Int) (hm:0 < m) (hm2:m≤1152921504606846976) (w:World):
  Calls Tryz.prog 17 #[.int .i64 n, .int .i64 m] w fun e w'=>e= .returned (.int .i64 (n % m))∧w'=w:=by
 have hb:=tmod_bound1 n m hm
 have hw1:wrap64 (n.tmod m)=n.tmod m:=by unfold wrap64;omega
 have hw2:wrap64 (n.tmod m+m)=n.tmod m+m:=by unfold wrap64;omega
 have hb3:=And.intro (Int.emod_nonneg (n.tmod m+m) (show m≠0 by omega)) (Int.emod_lt_of_pos (n.tmod m+m) hm)
 have hw3:wrap64 ((n.tmod m+m) % m)=(n.tmod m+m) % m:=by unfold wrap64;omega
 have hz:(m==0)=false:=by simp;omega
 have hz2:¬m=0:=by omega
 have hz3:¬m= -1:=by omega
 rw [←tmod_emod1 n m hm]
 go_enter Tryz.func17,Tryz.ntmps17
 go_wp2
 go_ret
 exact ⟨rfl,rfl⟩
end Go.Proofs.YtmemofonebphfaaGreat
