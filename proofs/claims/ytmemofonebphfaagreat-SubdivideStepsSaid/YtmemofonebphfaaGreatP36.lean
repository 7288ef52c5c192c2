import Derived.Test.YtmemofonebphfaaGreatP27
import Derived.Test.YtmemofonebphfaaGreatP32
namespace Go.Proofs.YtmemofonebphfaaGreat
open Go.RowKit
set_option maxHeartbeats 2000000 in
theorem pts4_any (A B:Option Addr) (c d:Nat) (xs ys:List Pt) (w:World) (n1 n2:Nat) (hx:Sl encP 3 w n1 A xs) (hy:Sl encP 3 w n2 B ys) (hlx:xs.length≤4294967296) (_hly:ys.length≤4294967296) (hfx:∀t∈xs,fitsP t) (hfy:∀t∈ys,fitsP t):
  Calls Tryz.prog 24 #[.slice A xs.length c, .slice B ys.length d] w fun e w'=>e= .returned (.bool (decide (xs=ys)))∧∃k,w'=w.drewN k:=by
 go_enter Tryz.func24,Tryz.ntmps24
 by_cases hl:xs.length=ys.length
 ·rw [←hl]
  go_wp2
  go_loopw [5] (fun i wr=>∃k n:Nat,k≤xs.length∧i= .int .i64 k∧xs.take k=ys.take k∧wr=w.drewN n) (fun i _=>xs.length - (intOf i).toNat)
  case atStart=>exact ⟨0,0,Nat.zero_le _,rfl,rfl,rfl⟩
  case round=>
   obtain ⟨k,n,hk,rfl,htk,rfl⟩:=hrel
   by_cases hlt:k < xs.length
   ·obtain ⟨u,hu⟩:∃u,xs[k]? =some u:=⟨_,List.getElem?_eq_getElem hlt⟩
    obtain ⟨v,hv⟩:∃v,ys[k]? =some v:=⟨_,List.getElem?_eq_getElem (by omega)⟩
    obtain ⟨bA,oA,rfl,_,g0,g1,g2⟩:=hx.pt4 hu
    obtain ⟨bB,oB,rfl,_,k0,k1,k2⟩:=hy.pt4 hv
    have hq:=eqP u v (hfx u (List.mem_of_getElem? hu)) (hfy v (List.mem_of_getElem? hv))
    have H:=hide (And.intro hx (And.intro hy (And.intro hu (And.intro hv (And.intro htk hl)))))
    have i1:(k:Int) < (xs.length:Int):=by omega
    clear hx hy hu hv htk hl
    have htk1:=take_succ_eq H.out.2.2.1 H.out.2.2.2.1 H.out.2.2.2.2.1
    have HT:=hide htk1
    clear htk1
    by_cases huv:u=v
    ·have hd:decide (u=v)=true:=by simp [huv]
     rw [hd] at hq
     have HU:=hide huv
     clear huv hd
     go_wp2_with fail
     go_quiet (fail)
     go_wp2
     go_roundw
     case rel=>exact ⟨k+1,n+nq,by omega,by go_num,HT.out.2 HU.out,rfl⟩
     case measure=>simp [intOf];omega
    ·have hd:decide (u=v)=false:=by simp [huv]
     rw [hd] at hq
     have HU:=hide huv
     clear huv hd
     go_wp2_with fail
     go_quiet (fail)
     go_wp2
     go_ret
     refine ⟨?_,n+nq,by simp [World.drewN,Nat.add_assoc]⟩
     have:¬xs=ys:=fun e=>HU.out (HT.out.1 (by rw [e]))
     simp [this]
   ·have hke:k=xs.length:=by omega
    have hxy:xs=ys:=by
     rw [hke,List.take_length,hl,List.take_length] at htk
     exact htk
    have HX:=hide hxy
    clear hxy htk hx hy
    go_wp2
    go_ret
    exact ⟨by simp [HX.out],n,rfl⟩
 ·have hne:¬((xs.length:Int)=(ys.length:Int)):=by omega
  have hne2:¬xs=ys:=fun e=>hl (by rw [e])
  have HN:=hide hne2
  clear hx hy hne2
  go_wp2
  go_ret
  exact ⟨by simp [HN.out],0,rfl⟩
end Go.Proofs.YtmemofonebphfaaGreat
