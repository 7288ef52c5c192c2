import Derived.Test.YtmemofonebphfaaGreatV30
namespace Go.Proofs.YtmemofonebphfaaGreat
open Go.RowKit Go.Sort
theorem tdiv_fits {x n:Int} (hx:fits x) (hn:0 < n):fits (x.tdiv n):=by
 unfold fits at hx⊢
 obtain ⟨m,rfl⟩:∃m:Nat,n=m:=⟨n.toNat,by omega⟩
 by_cases h:0≤x
 ·rw [Int.tdiv_eq_ediv_of_nonneg h]
  have h1:=Int.ediv_nonneg h (show (0:Int)≤m by omega)
  have h2:=Int.ediv_le_self (m:Int) h
  omega
 ·have e:x= -(-x):=by omega
  rw [e,Int.neg_tdiv,Int.tdiv_eq_ediv_of_nonneg (by omega)]
  have h1:=Int.ediv_nonneg (show 0≤ -x by omega) (show (0:Int)≤m by omega)
  have h2:=Int.ediv_le_self (m:Int) (show 0≤ -x by omega)
  omega
end Go.Proofs.YtmemofonebphfaaGreat
namespace Go.Proofs.YtmemofonebphfaaGreat
open Go.RowKit Go.Sort Go.WideMaps Go.Maps Go.Shelf
theorem blk_ne9 {W:World} {a b:Nat} {t u:TypeId} {cs ds:Array Value} (h1:Blk W a t cs) (h2:Blk W b u ds) (ht:t≠u):a≠b:=by
 rintro rfl
 have h3:some (Obj.cells cs t (0,0))=some (Obj.cells ds u (0,0)):=h1.symm.trans h2
 injection h3 with h3
 injection h3 with _ h4
 exact ht h4
end Go.Proofs.YtmemofonebphfaaGreat
namespace Go.Proofs.YtmemofonebphfaaGreat
open Go.RowKit Go.Sort Go.WideMaps Go.Maps Go.Shelf
theorem blk_rowT {W:World} {r:Nat} {t u:TypeId} {cs:Array Value} (hb:Blk W r t cs) (hu:u≠t) (b:Nat):∀q,(some r:Option Nat)=some q→q < b∨∀cs,W.heap[q]? ≠some (.cells cs u (0,0)):=fun q e=>by
 cases e
 refine .inr fun cs hc=> ?_
 have hb:W.heap[r]? =some (.cells _ _ (0,0)):=hb
 rw [hb] at hc
 cases hc
 exact hu rfl
end Go.Proofs.YtmemofonebphfaaGreat
