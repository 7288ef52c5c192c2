import Derived.Test.YtmemofonebphfaaGreatZ2
import Derived.Test.YtmemofonebphfaaGreatZ12
import Derived.Test.YtmemofonebphfaaGreatZ19
namespace Go.Proofs.YtmemofonebphfaaGreat
open Go.RowKit
theorem uI {α:Type} {xs ys:List α} {k:Nat} {x y:α} (hx:xs[k]? =some x) (hy:ys[k]? =some y) (h:xs.take k=ys.take k):xs.take (k+1)=ys.take (k+1) ↔ x=y:=by
 rw [List.take_add_one,List.take_add_one,hx,hy,h]
 simp
set_option maxHeartbeats 2000000 in
theorem zIH (A B:Option Addr) (c d:Nat) (xs ys:List Tri) (w:World) (n1 n2:Nat) (hx:Sl encT 9 w n1 A xs) (hy:Sl encT 9 w n2 B ys) (hlx:xs.length≤4294967296) (_hly:ys.length≤4294967296) (hfx:∀t∈xs,fitsT t) (hfy:∀t∈ys,fitsT t):
  Calls Tryz.prog 29 #[.slice A xs.length c, .slice B ys.length d] w fun e w'=>e= .returned (.bool (decide (xs=ys)))∧∃k,w'=w.drewN k:=by
 go_enter Tryz.func29,Tryz.ntmps29
 by_cases hl:xs.length=ys.length
 ·rw [←hl]
  go_wp2
  go_loopw [5] (fun i wr=>∃k n:Nat,k≤xs.length∧i= .int .i64 k∧xs.take k=ys.take k∧wr=w.drewN n) (fun i _=>xs.length - (intOf i).toNat)
  case atStart=>exact ⟨0,0,Nat.zero_le _,rfl,rfl,rfl⟩
  case round=>
   obtain ⟨k,n,hk,rfl,htk,rfl⟩:=hrel
   by_cases hlt:k < xs.length
   ·obtain ⟨u,hu⟩:∃u,xs[k]? =some u:=⟨_,List.getElem?_eq_getElem hlt⟩
    obtain ⟨v,hv⟩:∃v,ys[k]? =some v:=⟨_,List.getElem?_eq_getElem (by omega)⟩
    obtain ⟨bA,oA,rfl,_,g0,g1,g2,g3,g4,g5,g6,g7,g8⟩:=hx.tri hu
    obtain ⟨bB,oB,rfl,_,k0,k1,k2,k3,k4,k5,k6,k7,k8⟩:=hy.tri hv
    have hq:=eqT u v (hfx u (List.mem_of_getElem? hu)) (hfy v (List.mem_of_getElem? hv))
    have H:=hide (ai9 hx (ai9 hy (ai9 hu (ai9 hv (ai9 htk hl)))))
    have i1:(k:Int) < (xs.length:Int):=by omega
    clear hx hy hu hv htk hl
    have htk1:=uI H.o.2.2.1 H.o.2.2.2.1 H.o.2.2.2.2.1
    have HT:=hide htk1
    clear htk1
    by_cases huv:u=v
    ·have hd:decide (u=v)=true:=by simp [huv]
     rw [hd] at hq
     have HU:=hide huv
     clear huv hd
     go_wp2_with fail
     go_quiet (fail)
     go_wp2
     go_roundw
     case rel=>exact ⟨k+1,n+nq,by omega,by go_num,HT.o.2 HU.o,rfl⟩
     case measure=>simp [intOf];omega
    ·have hd:decide (u=v)=false:=by simp [huv]
     rw [hd] at hq
     have HU:=hide huv
     clear huv hd
     go_wp2_with fail
     go_quiet (fail)
     go_wp2
     go_ret
     refine ⟨?_,n+nq,by simp [World.drewN,Nat.add_assoc]⟩
     have:¬xs=ys:=fun e=>HU.o (HT.o.1 (by rw [e]))
     simp [this]
   ·have hke:k=xs.length:=by omega
    have hxy:xs=ys:=by
     rw [hke,List.take_length,hl,List.take_length] at htk
     exact htk
    have HX:=hide hxy
    clear hxy htk hx hy
    go_wp2
    go_ret
    exact ⟨by simp [HX.o],n,rfl⟩
 ·have hne:¬((xs.length:Int)=(ys.length:Int)):=by omega
  have hne2:¬xs=ys:=fun e=>hl (by rw [e])
  have HN:=hide hne2
  clear hx hy hne2
  go_wp2
  go_ret
  exact ⟨by simp [HN.o],0,rfl⟩
end Go.Proofs.YtmemofonebphfaaGreat
