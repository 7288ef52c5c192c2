import Derived.Shelf.Abstract
import Derived.Test.YtmemofonebphfaaGreatV6
import Derived.Test.YtmemofonebphfaaGreatV24
namespace Go.Proofs.YtmemofonebphfaaGreat
open Go.RowKit Go.Sort Go.WideMaps Go.Maps
def FndQ (w w':World) (b0 g:Nat) (Ap:Option Addr) (cp:Nat) (At:Option Addr) (ct mc mo:Nat) (L:Lev) (co:List Int):Prop:=
 ∃(m3:Nat) (A:Option Addr) (c mn ms:Nat),FouM w' w'.heap.size g Ap cp At ct mc mo m3 mn ms A c L co∧Own encP 3 43 w' b0 (.slice Ap L.p.length cp) L.p.length L.p∧w.grownBy w' (some g)
theorem pfind_fou {w:World} {b0 g:Nat} {Ap:Option Addr} {cp:Nat} {At:Option Addr} {ct mc mo:Nat} {a4:Option Nat} {Ae:Option Addr} {ne0 ce:Nat} {a6 a7:Option Nat} {L:Lev} {co:List Int} (h:LvlM w b0 g Ap cp At ct mc mo a4 Ae ne0 ce a6 a7 L co) (hL:LvR L) (hb:LevB L co):
  Calls Tryz.prog 76 #[.pointer (some ⟨g,0,none⟩)] w fun e w'=>e= .returned (.tuple #[])∧FndQ w w' b0 g Ap cp At ct mc mo L co:=by
 obtain ⟨ncr,hcr⟩:=h.cr
 obtain ⟨nco,hco⟩:=h.co
 refine (pfind_any g Ap At Ae cp ct ne0 ce mc mo ncr a4 a6 a7 L co w hL hb h.bx h.t hcr).mono ?_
 rintro e w' ⟨rfl,m3,A,c,mn,ms,c3,cn,cs,hbx,hth,hed,hnb,hsh,hgr⟩
 have hp:Own encP 3 43 w' b0 (.slice Ap L.p.length cp) L.p.length L.p:=h.p.kept hgr (.inr (blk_own_ne9 h.bx h.p (show (43:TypeId)≠90 by decide)).symm)
 have hc':=hcr.box h.bx hgr
 have ho':=hco.box h.bx hgr
 refine ⟨rfl,m3,A,c,mn,ms,⟨hbx,hp.sl encP_len (Nat.le_refl _),?_,hed.sl encE2_len (Nat.le_refl _),⟨_,hth⟩,⟨_,hnb⟩,hsh.shp,⟨_,hc'⟩,⟨_,ho'⟩,⟨hbx.lt,hc'.lt,ho'.lt,hth.lt,hnb.lt,hsh.lt⟩,Nat.le_refl _⟩,hp,hgr⟩
 refine (h.t.grownI h.bx (fun x _ u hu off=> ?_) hgr (Nat.le_refl _)).more hgr.size
 simp only [encN3,List.mem_cons,List.not_mem_nil,or_false] at hu
 rcases hu with rfl | rfl | rfl <;>exact lvl_noint off
theorem mid_nrm (t:List Pt) (n a b:Int):midE t n (nrmE a b).1 (nrmE a b).2=midE t n a b:=by
 have h:nrmE (nrmE a b).1 (nrmE a b).2=nrmE a b:=by
  unfold nrmE
  simp only [Prod.mk.injEq]
  omega
 unfold midE posE
 rw [h]
set_option maxRecDepth 100000 in
theorem FouM.num {w:World} {B g:Nat} {Ap:Option Addr} {cp:Nat} {At:Option Addr} {ct mc mo m3 mn ms:Nat} {Ae:Option Addr} {ce:Nat} {L:Lev} {co:List Int} (h:FouM w B g Ap cp At ct mc mo m3 mn ms Ae ce L co) (hL:LvR L) (hpl:L.p.length≤1000000) {a b:Int} (hd:(a,b)∈dirE L.t):
  (Instr.lookup 87 (.map (some mn)) (vE2 (nrmE a b)) false).run Tryz.prog w= .ok (.int .i64 (midE L.t L.p.length a b)) w:=by
 obtain ⟨cn,hn⟩:=h.nb
 have hm:=hL.cls.nrm hd
 have hf:fits2 (nrmE a b):=by
  have hr:=hL.rng (a:=(nrmE a b).1) (b:=(nrmE a b).2) (mem_edgesE.1 hm).1
  constructor <;>unfold fits <;>omega
 have hl:=hn.lookup kfSE (t:=87) (e:=3) Tryz.underlying87 (z:= .int .i64 0) rfl (nrmE a b) hf
 rw [nbL_mid (edgesE_nodup hL.cls.nodup) hm,mid_nrm] at hl
 exact hl
def StpR (w w':World) (b0 g mo n:Nat) (L:Lev) (co:List Int) (Inv:Nat→Nat→Option Nat→World→Prop):Prop:=
 ∃(Ap:Option Addr) (cp:Nat) (At:Option Addr) (ct mc:Nat) (a4:Option Nat) (Ae:Option Addr) (ne ce:Nat) (a6 a7:Option Nat) (B:Nat) (P:Option Nat),LvlM w' b0 g Ap cp At ct mc mo a4 Ae ne ce a6 a7 L co∧w.heap.size≤B∧Inv B n P w'∧Own encN3 3 35 w' b0 (.slice At L.t.length ct) L.t.length L.t
def hvL (L:Lev) (D:List E2):List E2:=D.flatMap fun e=> [nrmE e.1 (midE L.t L.p.length e.1 e.2),nrmE e.2 (midE L.t L.p.length e.1 e.2)]
theorem setK4_two {H K:List E2} {p1 p2:E2} (hK:∀q,q∈K ↔ q∈H∨q=p1∨q=p2):(fun q=>if q=p2 then some (Value.bool true) else if q=p1 then some (Value.bool true) else setK4 H q)=setK4 K:=by
 funext q
 unfold setK4
 have h:=hK q
 by_cases h1:q=p2
 ·rw [if_pos h1,if_pos (h.2 (.inr (.inr h1)))]
 ·rw [if_neg h1]
  by_cases h2:q=p1
  ·rw [if_pos h2,if_pos (h.2 (.inr (.inl h2)))]
  ·rw [if_neg h2]
   by_cases h3:q∈H
   ·rw [if_pos h3,if_pos (h.2 (.inl h3))]
   ·rw [if_neg h3,if_neg (fun h4=>by
     rcases h.1 h4 with h4 | h4 | h4
     ·exact h3 h4
     ·exact h2 h4
     ·exact h1 h4)]
theorem setK4_some (L:List E2) (p:E2):(setK4 L p).isSome=true ↔ p∈L:=by
 unfold setK4
 by_cases h:p∈L
 ·rw [if_pos h];exact ⟨fun _=>h,fun _=>rfl⟩
 ·rw [if_neg h];exact ⟨fun h'=>(by cases h'),fun h'=>absurd h' h⟩
theorem setK4_ext {H K:List E2} (h:∀q,q∈H ↔ q∈K) (p:E2):setK4 H p=setK4 K p:=by
 unfold setK4
 by_cases h1:p∈H
 ·rw [if_pos h1,if_pos ((h p).1 h1)]
 ·rw [if_neg h1,if_neg (fun h2=>h1 ((h p).2 h2))]
theorem grown_cell {w W:World} {r b:Nat} (h:w.grownBy W (some r)) (hb:b < w.heap.size) (hne:b≠r) (o:Nat):W.cell? ⟨b,o,none⟩=w.cell? ⟨b,o,none⟩:=by
 unfold World.cell?
 rw [h.block b hb (fun e=>hne (Option.some.inj e))]
theorem RngK.iter9 {P:Program} {κ:Type} {kt:TypeId} {enc:κ→Value} {ok:κ→Prop} {w:World} {b r n cnt:Nat} {m:κ→Option Value} {left:κ→Bool} (h:RngK P kt enc ok w b r n m left cnt):∃o,w.heap[r]? =some o∧o.isCells=false:=by
 obtain ⟨D,lf,⟨es,clock,since,seen,c0,_,_,_,_,hr,_⟩,_⟩:=h
 exact ⟨_,hr,rfl⟩
theorem nodup_sub_len9 {α:Type} [DecidableEq α]:∀{ks L:List α},ks.Nodup→(∀p∈ks,p∈L)→ks.length≤L.length
 | [],_,_,_=>Nat.zero_le _
 | k::ks,L,hn,h=>by
  rw [List.nodup_cons] at hn
  have hk:k∈L:=h k (by simp)
  have ih:=nodup_sub_len9 (L:=L.erase k) hn.2 (fun p hp=>(List.mem_erase_of_ne (fun e=>hn.1 (by rw [←e];exact hp))).2 (h p (by simp [hp])))
  rw [List.length_erase_of_mem hk] at ih
  have:=List.length_pos_of_mem hk
  simp only [List.length_cons]
  omega
theorem stp_end {w V:World} {B1 b0 g:Nat} {Ap:Option Addr} {cp:Nat} {At:Option Addr} {ct mc mo m3 mn ms:Nat} {A1:Option Addr} {c1:Nat} {L:Lev} {co:List Int} {Inv:Nat→Nat→Option Nat→World→Prop} {i:Nat} {P:Option Nat} {NL:List Pt} {Ax A7:Option Addr} {n1 cx n7 c7 mq n:Nat}
  (hF:FouM V B1 g Ap cp At ct mc mo m3 mn ms A1 c1 L co) (hO:Own encP 3 43 V B1 (.slice Ax n1 cx) n1 (L.p++NL)) (hT:Own encN3 3 35 V B1 (.slice A7 n7 c7) n7 (stepT (midE L.t L.p.length) L.t)) (hM:MapK Tryz.prog 115 vE2 fits2 V mq n (setK4 (setE L.halved))) (hI:Inv B1 i P V) (hst:StbI g B1 (Inv B1)) (hb:b0≤B1) (hwB:w.heap.size≤B1):
  StpR w (((V.setCell ⟨g,0,none⟩ (.slice Ax n1 cx)).setCell ⟨g,1,none⟩ (.slice A7 n7 c7)).setCell ⟨g,2,none⟩ (.map (some mq))) b0 g mo i (L.step NL) co Inv:=by
 have hg3:=((grown_set9 V g 0 (.slice Ax n1 cx)).trans (grown_set9 _ g 1 (.slice A7 n7 c7))).trans (grown_set9 _ g 2 (.map (some mq)))
 obtain ⟨no,ho⟩:=hF.co
 have h1:=hO.1
 have h7:=hT.1
 subst h1 h7
 have hp:=hO.kept hg3 (.inr (blk_own_ne9 hF.bx hO (show (43:TypeId)≠90 by decide)).symm)
 have ht:=hT.kept hg3 (.inr (blk_own_ne9 hF.bx hT (show (35:TypeId)≠90 by decide)).symm)
 exact ⟨Ax,cx,A7,c7,mq,some m3,A1,(edgesE L.t).length,c1,some mn,some ms,B1,P,⟨((hF.bx.set_ 0 _).set_ 1 _).set_ 2 _,hp.base_le hb,ht.sl encN3_len (Nat.le_refl _),⟨_,hM.box hF.bx hg3⟩,⟨_,ho.box hF.bx hg3⟩⟩,hwB,hst.st hI hg3 (fun r hr=> .inl (by cases hr;rfl)),ht.base_le hb⟩
theorem mapIdx_at {α β:Type} {f:Nat→α→β} {l:List α} {i:Nat} {x:α} (h:l[i]? =some x):(l.mapIdx f)[i]? =some (f i x):=by
 rw [List.getElem?_mapIdx,h]
 rfl
theorem take_at {α:Type} {l:List α} {i:Nat} {x:α} (h:l[i]? =some x):l.take (i+1)=l.take i++ [x]:=by
 rw [List.take_add_one,h]
 rfl
set_option maxRecDepth 100000 in
set_option maxHeartbeats 64000000 in
theorem pstep_any {w:World} {b0 g:Nat} {Ap:Option Addr} {cp:Nat} {At:Option Addr} {ct mc mo:Nat} {a4:Option Nat} {Ae:Option Addr} {ne0 ce:Nat} {a6 a7:Option Nat} {L:Lev} {co:List Int} (h:LvlM w b0 g Ap cp At ct mc mo a4 Ae ne0 ce a6 a7 L co) (hb0:b0≤w.heap.size) (hL:LvR L) (hb:LevB L co)
  (f:FuncId) (binds:Array Value) (mk:Nat→Pt→Pt) (Inv:Nat→Nat→Option Nat→World→Prop) (hI:∀w1,w.grownBy w1 (some g)→StbI g w1.heap.size (Inv w1.heap.size)∧Inv w1.heap.size 0 none w1) (hM:MadeF f binds (edgesE L.t).length (L.rules co) mk Inv) (hent:∀(args:Array Value) (W:World),(callFunc f args).run Tryz.prog W= .ok (.enter f args) W):
  Calls Tryz.prog 42 #[.pointer (some ⟨g,0,none⟩), .func (.func f) #[] binds] w fun e w'=>e= .returned (.tuple #[])∧StpR w w' b0 g mo (edgesE L.t).length (L.step ((L.rules co).mapIdx mk)) co Inv:=by
 obtain ⟨np,hnp⟩:∃n,n=L.p.length:=⟨_,rfl⟩
 obtain ⟨nt,hnt⟩:∃n,n=L.t.length:=⟨_,rfl⟩
 obtain ⟨ne,hne⟩:∃n,n=(edgesE L.t).length:=⟨_,rfl⟩
 have hpl:np≤1000000:=by rw [hnp];exact hb.p
 have htl:nt≤300000:=by rw [hnt];exact hb.t
 have hnl:ne≤900000:=by have:=edgesE_le L.t;omega
 obtain ⟨NL,hNL⟩:∃l,l=(L.rules co).mapIdx mk:=⟨_,rfl⟩
 have hat:∀(i:Nat) (e:E2),(edgesE L.t)[i]? =some e→(L.rules co)[i]? =some (ruleE L.p L.t L.cr co e.1 e.2)∧NL.take (i+1)=NL.take i++ [mk i (ruleE L.p L.t L.cr co e.1 e.2)]:=fun i e he=>by
  have h1:=rules_at (co:=co) he
  refine ⟨h1,take_at ?_⟩
  rw [hNL]
  exact mapIdx_at h1
 have hNe:NL.length=ne:=by rw [hNL,List.length_mapIdx,rules_len,hne]
 have hpr:=fun (B m3 mn ms:Nat) (A1:Option Addr) (c1:Nat) (W:World) (hW:FouM W B g Ap cp At ct mc mo m3 mn ms A1 c1 L co) (a b:Int) (hab:(a,b)∈edgesE L.t)=>prule_any hW hL (by rw [←hnp];exact hpl) a b hab
 rw [←hNL,←hne]
 rw [←hne] at hM
 have HA:=hide (And.intro hat (And.intro hpr (And.intro hM (And.intro hI (And.intro (pfind_fou h hL hb) (And.intro hNe hNL))))))
 have HENT:=hide hent
 have HN:=hide (And.intro hnp (And.intro hnt (And.intro hne (And.intro hL (And.intro hb (And.intro hb0 h))))))
 have hgl:=h.bx.lt
 clear hent hat hpr hM hI hNe hNL hnp hnt hne hL hb hb0 h
 go_enter Tryz.func42,Tryz.ntmps42
 go_upto_region 1 with (go_at_call 76;refine HA.out.2.2.2.2.1.mono ?_;rintro e w1 ⟨rfl,hQ⟩;have HQ:=hide hQ;clear hQ hgl)
 obtain ⟨m3,A1,c1,mn,ms,hF1,hp1,hgr⟩:=HQ.out
 obtain ⟨B1,hB1⟩:∃n,n=w1.heap.size:=⟨_,rfl⟩
 obtain ⟨hst,hi1⟩:=HA.out.2.2.2.1 w1 hgr
 rw [←hB1] at hF1 hst hi1
 have z0:w1.cell? ⟨g,0,none⟩=some (.slice Ap L.p.length cp):=hF1.bx.cell 0
 rw [←HN.out.1] at z0
 have hg1:=hF1.bx.lt
 have hcl:=cloneP_any Ap cp L.p B1 w1 hF1.p (by rw [←HN.out.1];omega)
 rw [←HN.out.1] at hcl
 have HST:=hide hst
 have H1:=hide (And.intro hF1 (And.intro hi1 (And.intro hgr hB1)))
 have HC:=hide hcl
 clear hF1 hp1 hgr hst hi1 hB1 hcl HQ
 go_upto_region 2 with (go_at_call 77;refine HC.out.mono ?_;rintro e w2 ⟨v2,rfl,ho2,hB2⟩;have H2:=hide (And.intro ho2 hB2);clear ho2 hB2)
 clear z0 hg1 HC
 obtain ⟨A2,c2,rfl⟩:=H2.out.1.form
 have hF2:=H1.out.1.below (H2.out.2.mono H1.out.1.hB)
 have hi2:Inv B1 0 (Value.slice A2 np c2).ownBlock w2:=by
  cases hv:(Value.slice A2 np c2).ownBlock with
  | none=>exact HST.out.bel H1.out.2.1 H2.out.2
  | some r=>exact HST.out.sw H1.out.2.1 (grown_bel9 H2.out.2 none) (fun _ e=>by cases e) (H2.out.1.blk r hv).1 (H2.out.1.blk r hv).2
 have z5:w2.cell? ⟨g,5,none⟩=some (.slice A1 (edgesE L.t).length c1):=hF2.bx.cell 5
 rw [←HN.out.2.2.1] at z5
 have hg2:=hF2.bx.lt
 have HX2:=hide (And.intro hF2 hi2)
 clear hF2 hi2
 go_upto_region 3 with fail
 clear z5 hg2
 go_loopw [4,31] (fun pv iv wr=>∃i:Nat,i≤ne∧iv= .int .i64 i∧FouM wr B1 g Ap cp At ct mc mo m3 mn ms A1 c1 L co∧Own encP 3 43 wr B1 pv (np+i) (L.p++NL.take i)∧Inv B1 i pv.ownBlock wr) (fun _ iv _=>ne - (intOf iv).toNat)
 case atStart=>exact ⟨0,by omega,rfl,HX2.out.1,by rw [List.take_zero,List.append_nil,H1.out.2.2.2];exact H2.out.1,HX2.out.2⟩
 case round=>
  obtain ⟨i,hi,rfl,hF,hO,hV⟩:=hrel
  obtain ⟨V,rfl⟩:∃x,x=wr:=⟨_,rfl⟩
  obtain ⟨Ax,cx,rfl⟩:=hO.form
  by_cases hlt:i < ne
  ·have i1:(i:Int) < (ne:Int):=by omega
   obtain ⟨e,he⟩:∃x,(edgesE L.t)[i]? =some x:=⟨_,List.getElem?_eq_getElem (by rw [←HN.out.2.2.1];exact hlt)⟩
   obtain ⟨be,oe,hA,hbe,c0,c1'⟩:=hF.ed.e2 he
   subst hA
   obtain ⟨hru,htk⟩:=HA.out.1 i e he
   have hbV:be < V.heap.size:=Nat.lt_of_lt_of_le hbe hF.hB
   have hme:=List.mem_of_getElem? he
   obtain ⟨e1,e2⟩:=e
   simp only at c0 c1' hru htk
   obtain ⟨qr,hqr⟩:∃x,x=ruleE L.p L.t L.cr co e1 e2:=⟨_,rfl⟩
   rw [←hqr] at hru htk
   obtain ⟨qm,hqm⟩:∃x,x=mk i qr:=⟨_,rfl⟩
   rw [←hqm] at htk
   have hrc:=fun (W:World) (hW:Below V.heap.size V W)=>HA.out.2.1 B1 m3 mn ms (some ⟨be,oe,none⟩) c1 W (hF.below (hW.mono hF.hB)) e1 e2 hme
   rw [←hqr] at hrc
   have hB1V:=hF.hB
   have HV:=hide (And.intro hF (And.intro hO (And.intro hV (And.intro hru (And.intro htk (And.intro hqm hrc))))))
   clear hF hO hV hru htk hqr hqm hrc he hme hbe
   go_upto_region 5 with fail
   obtain ⟨gb,hgb⟩:∃n,n=V.heap.size:=⟨_,rfl⟩
   obtain ⟨Y,hY⟩:∃W,W=V.alloc (.cells #[.int .i64 e1, .int .i64 e2] 115):=⟨_,rfl⟩
   have hBY:Below V.heap.size V Y:=by rw [hY];exact (Below.refl _ V).alloc (Nat.le_refl _) _
   have hKY:Blk Y gb 115 #[.int .i64 e1, .int .i64 e2]:=by rw [hY,hgb];exact Blk.new _ _ _
   rw [←hY,←hgb]
   have y0:Y.cell? ⟨gb,0,none⟩=some (.int .i64 e1):=hKY.cell 0
   have y1:Y.cell? ⟨gb,1,none⟩=some (.int .i64 e2):=hKY.cell 1
   have hgbY:=hKY.lt
   have HBY:=hide hBY
   clear hBY hKY hY hgb c0 c1' hbV
   go_wp2_with (go_at_call 78;refine (HV.out.2.2.2.2.2.2 Y HBY.out).mono ?_;rintro e W1 ⟨rfl,hBr⟩;have H3:=hide (HBY.out.trans (hBr.mono HBY.out.size));clear hBr y0 y1 hgbY)
   rw [HENT.out,Oper.upon_enter]
   have hP:∀r,(Value.slice Ax (np+i) cx).ownBlock=some r→B1≤r:=fun r hr=>(HV.out.2.1.blk r hr).1
   refine (HA.out.2.2.1 B1 i _ W1 qr hlt HV.out.2.2.2.1 (HST.out.bel HV.out.2.2.1 H3.out) (Nat.le_trans hB1V H3.out.size) hP).mono ?_
   rintro e W2 ⟨rfl,hI2,hK2⟩
   have hF3:=(HV.out.1.below (H3.out.mono hB1V)).kpt hK2
   have hO3:=(HV.out.2.1.below H3.out (Nat.le_refl _)).kpt hK2
   rw [←HV.out.2.2.2.2.2.1]
   have hB2:=hF3.hB
   have H4:=hide (And.intro hF3 (And.intro hO3 (And.intro hI2 hP)))
   clear hF3 hO3 hI2 hK2 hP
   obtain ⟨m1,m2,m3'⟩:=qm
   go_wp2_with (at_builtin;refine wpList_append1 rfl _ _ _ rfl Tryz.underlying28 infoP rfl (by omega) encP_len encP_one rfl (H4.out.2.1.alloc _) W2.heap.size 1 ((m1,m2,m3'):Pt) rfl (Blk.new _ _ _) (by unfold maxLen;omega) (by omega) (by simp;omega) ?_;intro g6 cap6 w6 hown6 hg6 hB6 hat6 hgb6 hlt6;have H6:=hide (And.intro hown6 (And.intro hg6 (And.intro hB6 hat6)));clear hown6 hg6 hB6 hat6 hgb6 hlt6)
   go_roundw
   case rel=>
    have hal:Below W2.heap.size W2 (W2.alloc (.cells #[.int .i64 m1, .int .i64 m2, .int .i64 m3'] 43)):=(Below.refl _ W2).alloc (Nat.le_refl _) _
    refine ⟨i+1,by omega,by go_num,H4.out.1.below ((hal.mono hB2).trans H6.out.2.2.1),?_,HST.out.app (HST.out.bel H4.out.2.2.1 hal) H6.out.2.1 H4.out.2.2.2 H6.out.2.2.2 (H6.out.1.blk g6 rfl).2⟩
    rw [HV.out.2.2.2.2.1,←List.append_assoc]
    exact H6.out.1
   case measure=>(simp [intOf];try omega)
  ·obtain rfl:i=ne:=by omega
   have i1:¬(i:Int) < (i:Int):=by omega
   rw [List.take_of_length_le (by rw [HA.out.2.2.2.2.2.1];exact Nat.le_refl _)] at hO
   have z1:V.cell? ⟨g,1,none⟩=some (.slice At L.t.length ct):=hF.bx.cell 1
   rw [←HN.out.2.1] at z1
   have hgV:=hF.bx.lt
   obtain ⟨P,hP⟩:∃P,P=(Value.slice Ax (np+i) cx).ownBlock:=⟨_,rfl⟩
   rw [←hP] at hV
   have HP:=hide hP
   have HB:=hide (And.intro hF (And.intro hO hV))
   clear hF hO hV hP hlt hi
   go_upto_region 9 with fail
   clear z1 hgV i1
   go_loopw [7,51] (fun tv kv wr=>∃k:Nat,k≤nt∧kv= .int .i64 k∧FouM wr B1 g Ap cp At ct mc mo m3 mn ms A1 c1 L co∧Own encP 3 43 wr B1 (.slice Ax (np+i) cx) (np+i) (L.p++NL)∧Own encN3 3 35 wr B1 tv (4*k) (stepT (midE L.t L.p.length) (L.t.take k))∧Inv B1 i P wr) (fun _ kv _=>nt - (intOf kv).toNat)
   case atStart=>exact ⟨0,by omega,rfl,HB.out.1,HB.out.2.1,by rw [List.take_zero];exact Own.nil,HB.out.2.2⟩
   case round=>
    obtain ⟨k,hk,rfl,hF,hO,hT,hI⟩:=hrel
    obtain ⟨V,rfl⟩:∃x,x=wr:=⟨_,rfl⟩
    obtain ⟨A7,c7,rfl⟩:=hT.form
    by_cases hlt:k < nt
    ·have k1:(k:Int) < (nt:Int):=by omega
     obtain ⟨x,hx⟩:∃x,L.t[k]? =some x:=⟨_,List.getElem?_eq_getElem (by rw [←HN.out.2.1];exact hlt)⟩
     obtain ⟨bb,ob,hA,hbb,d0,d1,d2⟩:=hF.t.n3 hx
     subst hA
     have hbV:bb < V.heap.size:=Nat.lt_of_lt_of_le hbb hF.hB
     have htk:=stepT_take (m:=midE L.t L.p.length) hx
     have hxm:=List.mem_of_getElem? hx
     have hd:∀e∈de3 x,e∈dirE L.t:=fun e he=>mem_dirE.2 ⟨x,hxm,he⟩
     obtain ⟨x1,x2,x3⟩:=x
     simp only at d0 d1 d2
     have e1:=hd (x1,x2) (by simp [de3])
     have e2:=hd (x2,x3) (by simp [de3])
     have e3:=hd (x3,x1) (by simp [de3])
     obtain ⟨y1,hy1⟩:∃y,y=midE L.t L.p.length x1 x2:=⟨_,rfl⟩
     obtain ⟨y2,hy2⟩:∃y,y=midE L.t L.p.length x2 x3:=⟨_,rfl⟩
     obtain ⟨y3,hy3⟩:∃y,y=midE L.t L.p.length x3 x1:=⟨_,rfl⟩
     have hfo:four (midE L.t L.p.length) (x1,x2,x3)= [(x1,y1,y3),(y1,x2,y2),(y3,y2,x3),(y1,y2,y3)]:=by rw [hy1,hy2,hy3];rfl
     rw [hfo] at htk
     have n1:=fun (W:World) (hW:Below V.heap.size V W)=>(hF.below (hW.mono hF.hB)).num HN.out.2.2.2.1 (by rw [←HN.out.1];exact hpl) e1
     have n2:=fun (W:World) (hW:Below V.heap.size V W)=>(hF.below (hW.mono hF.hB)).num HN.out.2.2.2.1 (by rw [←HN.out.1];exact hpl) e2
     have n3:=fun (W:World) (hW:Below V.heap.size V W)=>(hF.below (hW.mono hF.hB)).num HN.out.2.2.2.1 (by rw [←HN.out.1];exact hpl) e3
     rw [←hy1] at n1
     rw [←hy2] at n2
     rw [←hy3] at n3
     have b1:=between_any x1 x2
     have b2:=between_any x2 x3
     have b3:=between_any x3 x1
     obtain ⟨p1,hp1⟩:∃p,p=nrmE x1 x2:=⟨_,rfl⟩
     obtain ⟨p2,hp2⟩:∃p,p=nrmE x2 x3:=⟨_,rfl⟩
     obtain ⟨p3,hp3⟩:∃p,p=nrmE x3 x1:=⟨_,rfl⟩
     rw [←hp1] at n1 b1
     rw [←hp2] at n2 b2
     rw [←hp3] at n3 b3
     have z6:V.cell? ⟨g,6,none⟩=some (.map (some mn)):=hF.bx.cell 6
     have hgV:=hF.bx.lt
     have HK:=hide (And.intro n1 (And.intro n2 (And.intro n3 (And.intro b1 (And.intro b2 (And.intro b3 (And.intro z6 hgV)))))))
     have HV:=hide (And.intro hF (And.intro hO (And.intro hT (And.intro hI htk))))
     have HB1:=hide hF.hB
     clear hF hO hT hI htk hx hxm hd e1 e2 e3 hy1 hy2 hy3 hfo n1 n2 n3 b1 b2 b3 hp1 hp2 hp3 z6 hgV hbb
     go_upto_region 11 with fail
     obtain ⟨gb,hgb⟩:∃n,n=V.heap.size:=⟨_,rfl⟩
     obtain ⟨Y,hY⟩:∃W,W=V.alloc (.cells #[.int .i64 x1, .int .i64 x2, .int .i64 x3] 35):=⟨_,rfl⟩
     have hBY:Below V.heap.size V Y:=by rw [hY];exact (Below.refl _ V).alloc (Nat.le_refl _) _
     have hKY:Blk Y gb 35 #[.int .i64 x1, .int .i64 x2, .int .i64 x3]:=by rw [hY,hgb];exact Blk.new _ _ _
     rw [←hY,←hgb]
     have HSB:=hide (show Below Y.heap.size Y Y.drew from (Below.refl _ Y).drew)
     have HY:=hide (And.intro hBY hKY)
     clear hBY hKY hY hgb d0 d1 d2 hbV
     refine wp_region_mix (fun W=>Below Y.heap.size Y W) [0,1,2,3,4,5,6,7,8] [0,1,2,3,4,5,6,7,8] mixed_ok (by kernel_rfl) ?_
     refine wpMix_q (v:=(.pointer (some ⟨gb,0,none⟩))) rfl rfl (fun _ _ _ h=>h) HSB.out ⟨rfl,fun _ _=>by simp [go_sem]⟩ ?_
     refine wpMix_q (v:=(.int .i64 x1)) rfl rfl (fun _ _ _ h=>h) HSB.out ⟨rfl,fun _ h'=>by have a0:=(h'.cell (p:=⟨gb,0,none⟩) HY.out.2.lt).trans (HY.out.2.cell 0);simp only [List.getElem?_toArray,List.getElem?_cons_zero] at a0;simp [go_sem,a0]⟩ ?_
     refine wpMix_q (v:=(.pointer (some ⟨gb,1,none⟩))) rfl rfl (fun _ _ _ h=>h) HSB.out ⟨rfl,fun _ _=>by simp [go_sem]⟩ ?_
     refine wpMix_q (v:=(.int .i64 x2)) rfl rfl (fun _ _ _ h=>h) HSB.out ⟨rfl,fun _ h'=>by have a0:=(h'.cell (p:=⟨gb,1,none⟩) HY.out.2.lt).trans (HY.out.2.cell 1);simp only [List.getElem?_toArray,List.getElem?_cons_zero,List.getElem?_cons_succ] at a0;simp [go_sem,a0]⟩ ?_
     refine wpMix_q (v:=(.pointer (some ⟨gb,2,none⟩))) rfl rfl (fun _ _ _ h=>h) HSB.out ⟨rfl,fun _ _=>by simp [go_sem]⟩ ?_
     refine wpMix_q (v:=(.int .i64 x3)) rfl rfl (fun _ _ _ h=>h) HSB.out ⟨rfl,fun _ h'=>by have a0:=(h'.cell (p:=⟨gb,2,none⟩) HY.out.2.lt).trans (HY.out.2.cell 2);simp only [List.getElem?_toArray,List.getElem?_cons_zero,List.getElem?_cons_succ] at a0;simp [go_sem,a0]⟩ ?_
     simp only [List.getElem_toArray,List.getElem_cons_succ,List.getElem_cons_zero,Act.put,List.setIfInBounds_toArray,List.set_cons_succ,List.set_cons_zero]
     refine wpMix_q (v:=(.int .i64 x1)) rfl rfl (fun _ _ _ h=>h) HSB.out ⟨rfl,fun _ _=>by simp [go_sem]⟩ ?_
     refine wpMix_q (v:=(.int .i64 x2)) rfl rfl (fun _ _ _ h=>h) HSB.out ⟨rfl,fun _ _=>by simp [go_sem]⟩ ?_
     refine wpMix_q (v:=(.int .i64 x3)) rfl rfl (fun _ _ _ h=>h) HSB.out ⟨rfl,fun _ _=>by simp [go_sem]⟩ ?_
     simp only [List.getElem_toArray,List.getElem_cons_succ,List.getElem_cons_zero,Act.put,List.setIfInBounds_toArray,List.set_cons_succ,List.set_cons_zero]
     refine wpMix_nil ?_
     obtain ⟨U,hU⟩:∃W,W=Y.drew:=⟨_,rfl⟩
     rw [←hU]
     have HU:=hide (show Below V.heap.size V U from by rw [hU];exact HY.out.1.trans (HSB.out.mono HY.out.1.size))
     clear HSB HY hU
     go_upto_region 12 with fail
     have HSB:=hide (show Below V.heap.size V U.drew from HU.out.trans (Below.refl V.heap.size U).drew)
     refine wp_region_mix (fun W=>Below V.heap.size V W) [0,1,2,3,4,5,8,9,10,11,12,13,16,17,18,19,20,21,7,15,23,24,25,26] [0,1,2,3,4,5,8,9,10,11,12,13,16,17,18,19,20,21,6,7,14,15,22,23,24,25,26] mixed_ok (by kernel_rfl) ?_
     refine wpMix_q (v:=(.pointer (some ⟨g,0,none⟩))) rfl rfl (fun _ _ _ h=>h) HSB.out ⟨rfl,fun _ _=>by simp [go_sem]⟩ ?_
     refine wpMix_q (v:=(.pointer (some ⟨g,0,none⟩))) rfl rfl (fun _ _ _ h=>h) HSB.out ⟨rfl,fun _ _=>by simp [go_sem]⟩ ?_
     refine wpMix_q (v:=(.pointer (some ⟨g,6,none⟩))) rfl rfl (fun _ _ _ h=>h) HSB.out ⟨rfl,fun _ _=>by simp [go_sem]⟩ ?_
     refine wpMix_q (v:=(.map (some mn))) rfl rfl (fun _ _ _ h=>h) HSB.out ⟨rfl,fun _ h'=>by have a0:=(h'.cell (p:=⟨g,6,none⟩) HK.out.2.2.2.2.2.2.2).trans HK.out.2.2.2.2.2.2.1;simp [go_sem,a0]⟩ ?_
     refine wpMix_q (v:=(.int .i64 x1)) rfl rfl (fun _ _ _ h=>h) HSB.out ⟨rfl,fun _ _=>by simp [go_sem]⟩ ?_
     refine wpMix_q (v:=(.int .i64 x2)) rfl rfl (fun _ _ _ h=>h) HSB.out ⟨rfl,fun _ _=>by simp [go_sem]⟩ ?_
     simp only [List.getElem_toArray,List.getElem_cons_succ,List.getElem_cons_zero,Act.put,List.setIfInBounds_toArray,List.set_cons_succ,List.set_cons_zero]
     refine wpMix_q (v:=(.pointer (some ⟨g,0,none⟩))) rfl rfl (fun _ _ _ h=>h) HSB.out ⟨rfl,fun _ _=>by simp [go_sem]⟩ ?_
     refine wpMix_q (v:=(.pointer (some ⟨g,0,none⟩))) rfl rfl (fun _ _ _ h=>h) HSB.out ⟨rfl,fun _ _=>by simp [go_sem]⟩ ?_
     refine wpMix_q (v:=(.pointer (some ⟨g,6,none⟩))) rfl rfl (fun _ _ _ h=>h) HSB.out ⟨rfl,fun _ _=>by simp [go_sem]⟩ ?_
     refine wpMix_q (v:=(.map (some mn))) rfl rfl (fun _ _ _ h=>h) HSB.out ⟨rfl,fun _ h'=>by have a0:=(h'.cell (p:=⟨g,6,none⟩) HK.out.2.2.2.2.2.2.2).trans HK.out.2.2.2.2.2.2.1;simp [go_sem,a0]⟩ ?_
     refine wpMix_q (v:=(.int .i64 x2)) rfl rfl (fun _ _ _ h=>h) HSB.out ⟨rfl,fun _ _=>by simp [go_sem]⟩ ?_
     refine wpMix_q (v:=(.int .i64 x3)) rfl rfl (fun _ _ _ h=>h) HSB.out ⟨rfl,fun _ _=>by simp [go_sem]⟩ ?_
     simp only [List.getElem_toArray,List.getElem_cons_succ,List.getElem_cons_zero,Act.put,List.setIfInBounds_toArray,List.set_cons_succ,List.set_cons_zero]
     refine wpMix_q (v:=(.pointer (some ⟨g,0,none⟩))) rfl rfl (fun _ _ _ h=>h) HSB.out ⟨rfl,fun _ _=>by simp [go_sem]⟩ ?_
     refine wpMix_q (v:=(.pointer (some ⟨g,0,none⟩))) rfl rfl (fun _ _ _ h=>h) HSB.out ⟨rfl,fun _ _=>by simp [go_sem]⟩ ?_
     refine wpMix_q (v:=(.pointer (some ⟨g,6,none⟩))) rfl rfl (fun _ _ _ h=>h) HSB.out ⟨rfl,fun _ _=>by simp [go_sem]⟩ ?_
     refine wpMix_q (v:=(.map (some mn))) rfl rfl (fun _ _ _ h=>h) HSB.out ⟨rfl,fun _ h'=>by have a0:=(h'.cell (p:=⟨g,6,none⟩) HK.out.2.2.2.2.2.2.2).trans HK.out.2.2.2.2.2.2.1;simp [go_sem,a0]⟩ ?_
     refine wpMix_q (v:=(.int .i64 x3)) rfl rfl (fun _ _ _ h=>h) HSB.out ⟨rfl,fun _ _=>by simp [go_sem]⟩ ?_
     refine wpMix_q (v:=(.int .i64 x1)) rfl rfl (fun _ _ _ h=>h) HSB.out ⟨rfl,fun _ _=>by simp [go_sem]⟩ ?_
     simp only [List.getElem_toArray,List.getElem_cons_succ,List.getElem_cons_zero,Act.put,List.setIfInBounds_toArray,List.set_cons_succ,List.set_cons_zero]
     refine wpMix_n rfl rfl ?_
     go_wp2_with fail
     refine (HK.out.2.2.2.1 U.drew).mono ?_
     rintro e W5 ⟨rfl,hB⟩
     have HSC:=hide (HSB.out.trans (hB.mono HSB.out.size))
     clear hB
     go_wp2_with fail
     refine ⟨fun _=>HSC.out,?_⟩
     refine wpMix_q (v:=(.int .i64 y1)) rfl rfl (fun _ _ _ h=>h) HSC.out ⟨rfl,fun _ h'=>by have a0:=HK.out.1 _ h';simp [go_sem,a0]⟩ ?_
     clear HSB
     have HSB:=HSC
     clear HSC
     refine wpMix_n rfl rfl ?_
     go_wp2_with fail
     refine (HK.out.2.2.2.2.1 W5).mono ?_
     rintro e W6 ⟨rfl,hB⟩
     have HSC:=hide (HSB.out.trans (hB.mono HSB.out.size))
     clear hB
     go_wp2_with fail
     refine ⟨fun _=>HSC.out,?_⟩
     refine wpMix_q (v:=(.int .i64 y2)) rfl rfl (fun _ _ _ h=>h) HSC.out ⟨rfl,fun _ h'=>by have a0:=HK.out.2.1 _ h';simp [go_sem,a0]⟩ ?_
     clear HSB
     have HSB:=HSC
     clear HSC
     refine wpMix_n rfl rfl ?_
     go_wp2_with fail
     refine (HK.out.2.2.2.2.2.1 W6).mono ?_
     rintro e W7 ⟨rfl,hB⟩
     have HSC:=hide (HSB.out.trans (hB.mono HSB.out.size))
     clear hB
     go_wp2_with fail
     refine ⟨fun _=>HSC.out,?_⟩
     refine wpMix_q (v:=(.int .i64 y3)) rfl rfl (fun _ _ _ h=>h) HSC.out ⟨rfl,fun _ h'=>by have a0:=HK.out.2.2.1 _ h';simp [go_sem,a0]⟩ ?_
     clear HSB
     have HSB:=HSC
     clear HSC
     simp only [List.getElem_toArray,List.getElem_cons_succ,List.getElem_cons_zero,Act.put,List.setIfInBounds_toArray,List.set_cons_succ,List.set_cons_zero]
     refine wpMix_q (v:=(.int .i64 y1)) rfl rfl (fun _ _ _ h=>h) HSB.out ⟨rfl,fun _ _=>by simp [go_sem]⟩ ?_
     refine wpMix_q (v:=(.int .i64 y2)) rfl rfl (fun _ _ _ h=>h) HSB.out ⟨rfl,fun _ _=>by simp [go_sem]⟩ ?_
     refine wpMix_q (v:=(.int .i64 y3)) rfl rfl (fun _ _ _ h=>h) HSB.out ⟨rfl,fun _ _=>by simp [go_sem]⟩ ?_
     simp only [List.getElem_toArray,List.getElem_cons_succ,List.getElem_cons_zero,Act.put,List.setIfInBounds_toArray,List.set_cons_succ,List.set_cons_zero]
     refine wpMix_nil ?_
     obtain ⟨ys,hys⟩:∃ys:List Pt,ys= [(x1,y1,y3),(y1,x2,y2),(y3,y2,x3),(y1,y2,y3)]:=⟨_,rfl⟩
     have hyl:ys.length=4:=by rw [hys];rfl
     have hya:(ys.flatMap encN3).toArray=#[.int .i64 x1, .int .i64 y1, .int .i64 y3, .int .i64 y1, .int .i64 x2, .int .i64 y2, .int .i64 y3, .int .i64 y2, .int .i64 x3, .int .i64 y1, .int .i64 y2, .int .i64 y3]:=by rw [hys];rfl
     have hol:=own_lits encN3_len 35 W7 ys (Nat.le_refl _) (by rw [hyl];omega)
     rw [hya] at hol
     have htk:=HV.out.2.2.2.2
     rw [←hys] at htk
     have hBw:=HSB.out.mono HB1.out
     have hF7:=HV.out.1.below hBw
     have hB7:=hF7.hB
     have HW:=hide (And.intro (hol.sl encN3_len (Nat.le_refl _)) (And.intro hyl (And.intro htk (And.intro hF7 (And.intro (HV.out.2.1.below HSB.out (Nat.le_refl _)) (And.intro (HV.out.2.2.1.below HSB.out (Nat.le_refl _)) (HST.out.bel HV.out.2.2.2.1 HSB.out)))))))
     clear hol hya hys hyl htk hBw hF7 HSB HV HU HK
     go_wp2_with (at_builtin;refine wpList_appendS rfl _ _ _ rfl Tryz.underlying22 infoN3 rfl (by omega) encN3_len encN3_one rfl (HW.out.2.2.2.2.2.1.alloc _) (some ⟨W7.heap.size,0,none⟩) 4 _ ys (by rw [HW.out.2.1];rfl) HW.out.1 (by rw [HW.out.2.1];unfold maxLen;omega) (by rw [HW.out.2.1];omega) (by simp;omega) ?_;intro v5 w5 ho5 hg5 hB5 hat5;rw [HW.out.2.1,←HW.out.2.2.1,show 4*k+4=4*(k+1) by omega] at ho5;have H5:=hide (And.intro ho5 (And.intro hg5 hB5));clear ho5 hg5 hB5 hat5)
     go_roundw
     case rel=>
      have hal:Below W7.heap.size W7 (W7.alloc (.cells #[.int .i64 x1, .int .i64 y1, .int .i64 y3, .int .i64 y1, .int .i64 x2, .int .i64 y2, .int .i64 y3, .int .i64 y2, .int .i64 x3, .int .i64 y1, .int .i64 y2, .int .i64 y3] 35)):=(Below.refl _ W7).alloc (Nat.le_refl _) _
      have hT:=HW.out.2.2.2.2.2.1.below hal (Nat.le_refl _)
      have hrow:=own_rowT hT (show (35:TypeId)≠43 by decide)
      refine ⟨k+1,by omega,by go_num,HW.out.2.2.2.1.below ((hal.mono hB7).trans H5.out.2.2),(HW.out.2.2.2.2.1.below hal (Nat.le_refl _)).step H5.out.2.1 hrow,H5.out.1,HST.out.st (HST.out.bel HW.out.2.2.2.2.2.2 hal) H5.out.2.1 (fun r hr=> ?_)⟩
      have h1:=(hT.blk r hr).1
      exact .inr ⟨h1, .inr ((hrow r hr).resolve_left (by omega))⟩
     case measure=>(simp [intOf];try omega)
    ·obtain rfl:k=nt:=by omega
     have k1:¬(k:Int) < (k:Int):=by omega
     rw [List.take_of_length_le (by rw [←HN.out.2.1];exact Nat.le_refl _)] at hT
     have hB1V:=hF.hB
     have HB2:=hide (And.intro hF (And.intro hO (And.intro hT hI)))
     clear hF hO hT hI hlt hk
     have hmm:=@run_makeMap Tryz.prog
     go_upto_region 16 with fail
     clear hmm k1
     obtain ⟨mq,hmq⟩:∃n,n=V.heap.size:=⟨_,rfl⟩
     obtain ⟨X,hX⟩:∃W,W=V.alloc (.map #[] 0):=⟨_,rfl⟩
     rw [←hX,←hmq]
     have hBX:Below V.heap.size V X:=by rw [hX];exact (Below.refl _ V).alloc (Nat.le_refl _) _
     have hMq:MapK Tryz.prog 115 vE2 fits2 X mq 0 fun _=>none:=by rw [hX,hmq];exact MapK.made _ _ _ _ V
     have hFX:=HB2.out.1.below (hBX.mono hB1V)
     have z2:X.cell? ⟨g,2,none⟩=some (.map (some mc)):=hFX.bx.cell 2
     have hgX:=hFX.bx.lt
     obtain ⟨ncr,hcr⟩:=hFX.cr
     obtain ⟨rb,hrb⟩:∃n,n=X.heap.size:=⟨_,rfl⟩
     obtain ⟨w9,c0,hrun,hrg,hg9,hz9,_⟩:=MapK.range_le kfSE (t:=83) (e:=4) hcr Tryz.underlying83
     rw [←hrb] at hrun hrg
     have hB9:=below_of_grown_none hg9 (Nat.le_refl _)
     have hB1X:B1≤X.heap.size:=Nat.le_trans hB1V hBX.size
     have hmcl:=hFX.lt.2.1
     have HQ:=hide (show B1≤mq∧B1≤rb∧mq≠rb∧mc < B1 from ⟨by omega,by omega,by have:=hMq.lt;omega,hmcl⟩)
     have H9:=hide (And.intro hrg (And.intro (hMq.below hB9 hMq.lt) (And.intro (hFX.below (hB9.mono hB1X)) (And.intro ((HB2.out.2.1.below hBX (Nat.le_refl _)).below hB9 (Nat.le_refl _)) (And.intro ((HB2.out.2.2.1.below hBX (Nat.le_refl _)).below hB9 (Nat.le_refl _)) (HST.out.bel (HST.out.bel HB2.out.2.2.2 hBX) hB9))))))
     clear hBX hMq hFX hcr hrg hg9 hz9 hB9 hB1X hmcl hX hmq hrb HB2
     go_upto_region 17 with fail
     clear z2 hgX hrun hB1V
     go_loopw [] (fun wr=>∃(left:E2→Bool) (c:Nat) (D:List E2),RngK Tryz.prog 115 vE2 fits2 wr mc rb ncr (setK4 L.cr) left c∧MapK Tryz.prog 115 vE2 fits2 wr mq (2*D.length) (setK4 (hvL L D))∧D.Nodup∧(∀p∈D,p∈L.cr)∧(∀p∈L.cr,p∈D∨left p=true)∧(∀p,left p=true→p∈L.cr∧p ∉ D)∧FouM wr B1 g Ap cp At ct mc mo m3 mn ms A1 c1 L co∧Own encP 3 43 wr B1 (.slice Ax (np+i) cx) (np+i) (L.p++NL)∧Own encN3 3 35 wr B1 (.slice A7 (4*k) c7) (4*k) (stepT (midE L.t L.p.length) L.t)∧Inv B1 i P wr) (fun wr=>wr.rangeLeft mc rb)
     case atStart=>exact ⟨_,c0, [],H9.out.1,H9.out.2.1.same (fun p=>by simp [hvL,setK4]),List.nodup_nil,(fun p h=>by cases h),fun p h=> .inr ((setK4_some _ p).2 h),fun p h=>⟨(setK4_some _ p).1 h,by simp⟩,H9.out.2.2.1,H9.out.2.2.2.1,H9.out.2.2.2.2.1,H9.out.2.2.2.2.2⟩
     case round=>
      obtain ⟨left,c,D,hrg,hMq,hnd,hsub,hcov,hlf,hF,hO,hT,hI⟩:=hrel
      obtain ⟨V,rfl⟩:∃x,x=wr:=⟨_,rfl⟩
      rcases hrg.next kfSE 0 with ⟨_,hdone,hrunN⟩ | ⟨p,pv,w8,c',hok,hleft,_,hrunN,hr8,hlt8,hg8,hz8,hent⟩
      ·have hall:∀p∈L.cr,p∈D:=fun p hp=>by
        rcases hcov p hp with h | h
        ·exact h
        ·have hpp:(L.p.length:Int)≤1000000:=by rw [←HN.out.1];omega
         have hr:=HN.out.2.2.2.1.rng (HN.out.2.2.2.1.crd (a:=p.1) (b:=p.2) hp).1
         rw [hdone p (by constructor <;>unfold fits <;>omega)] at h
         cases h
       have hset:∀q,q∈hvL L D ↔ q∈setE L.halved:=fun q=>by
        rw [setE_mem]
        unfold hvL Lev.halved
        constructor
        ·intro h
         obtain ⟨e,he,h⟩:=List.mem_flatMap.1 h
         simp only [List.mem_cons,List.not_mem_nil,or_false] at h
         rcases h with rfl | rfl
         ·exact ⟨(e.1,midE L.t L.p.length e.1 e.2),List.mem_flatMap.2 ⟨e,hsub e he,by simp⟩,rfl⟩
         ·exact ⟨(e.2,midE L.t L.p.length e.1 e.2),List.mem_flatMap.2 ⟨e,hsub e he,by simp⟩,rfl⟩
        ·rintro ⟨f,hf,rfl⟩
         obtain ⟨e,he,hf⟩:=List.mem_flatMap.1 hf
         simp only [List.mem_cons,List.not_mem_nil,or_false] at hf
         rcases hf with rfl | rfl
         ·exact List.mem_flatMap.2 ⟨e,hall e he,by simp⟩
         ·exact List.mem_flatMap.2 ⟨e,hall e he,by simp⟩
       have hMc:=hMq.same (fun p=>setK4_ext hset p)
       obtain ⟨z0,z1,z2,z3,z4,z5,z6,z7⟩:=hF.bx.eight
       have f0:=hF.bx.frozen 0
       have f1:=hF.bx.frozen 1
       have f2:=hF.bx.frozen 2
       have hgV:=hF.bx.lt
       have hwB:w.heap.size≤B1:=by rw [H1.out.2.2.2];exact H1.out.2.2.1.size
       have HZ:=hide (stp_end (b0:=b0) hF hO hT hMc hI HST.out (Nat.le_trans HN.out.2.2.2.2.2.1 hwB) hwB)
       clear hrg hMq hnd hsub hcov hlf hF hO hT hI hdone hall hset hMc hwB z3 z4 z5 z6 z7
       go_wp2
       go_end0
       have hz:=HZ.out
       exact ⟨rfl,hz⟩
      ·have hpL:=hlf p hleft
       have hB8:Below B1 V w8:=grown_bel hg8 HQ.out.2.1 hF.hB
       have hmcr:some rb≠(Value.slice Ax (np+i) cx).ownBlock:=fun e=>by
        obtain ⟨cs,hc⟩:=hO.cells rb e.symm
        obtain ⟨o,ho,hno⟩:=hrg.iter9
        rw [hc] at ho
        cases ho
        cases hno
       have hmcr2:some rb≠(Value.slice A7 (4*k) c7).ownBlock:=fun e=>by
        obtain ⟨cs,hc⟩:=hT.cells rb e.symm
        obtain ⟨o,ho,hno⟩:=hrg.iter9
        rw [hc] at ho
        cases ho
        cases hno
       have hF8:=hF.below hB8
       have hO8:=hO.kept hg8 (.inr hmcr.symm)
       have hT8:=hT.kept hg8 (.inr hmcr2.symm)
       have hI8:=HST.out.st hI hg8 (fun r hr=> .inr ⟨by cases hr;exact HQ.out.2.1, .inr (fun cs hc=>by
        cases hr
        obtain ⟨o,ho,hno⟩:=hrg.iter9
        rw [hc] at ho
        cases ho
        cases hno)⟩)
       have hM8:=hMq.kept hg8 (fun e=>by cases e;exact HQ.out.2.2.1 rfl)
       have hdl:D.length < L.cr.length:=by
        have h1:(D++ [p]).length≤L.cr.length:=nodup_sub_len9 (nodup_snoc.2 ⟨hnd,hpL.2⟩) (fun q hq=>by
         rcases List.mem_append.1 hq with h | h
         ·exact hsub q h
         ·rw [List.mem_singleton.1 h];exact hpL.1)
        rw [List.length_append,List.length_singleton] at h1
        omega
       have hcl:=HN.out.2.2.2.2.1.c
       have hcd:=HN.out.2.2.2.1.crd (a:=p.1) (b:=p.2) hpL.1
       have hlow:=HN.out.2.2.2.1.cls.mid.low _ hcd.1
       have hr1:=HN.out.2.2.2.1.rng hcd.1
       obtain ⟨e1,e2⟩:=p
       simp only at hcd hlow hr1
       obtain ⟨y,hy⟩:∃y,y=midE L.t L.p.length e1 e2:=⟨_,rfl⟩
       have n1:=fun (W:World) (hW:Below B1 w8 W)=>(hF8.below hW).num HN.out.2.2.2.1 (by rw [←HN.out.1];exact hpl) hcd.1
       rw [nrmE_up hcd.2.2,←hy] at n1
       rw [←hy] at hlow
       obtain ⟨p1,hp1⟩:∃p,p=nrmE e1 y:=⟨_,rfl⟩
       obtain ⟨p2,hp2⟩:∃p,p=nrmE e2 y:=⟨_,rfl⟩
       have hpp:(L.p.length:Int)≤1000000:=by rw [←HN.out.1];omega
       have hpe:((edgesE L.t).length:Int)≤900000:=by rw [←HN.out.2.2.1];omega
       have hf1:fits2 p1:=by rw [hp1];constructor <;>unfold fits nrmE <;>dsimp only <;>omega
       have hf2:fits2 p2:=by rw [hp2];constructor <;>unfold fits nrmE <;>dsimp only <;>omega
       have b1:=between_any e1 y
       have b2:=between_any e2 y
       rw [←hp1] at b1
       rw [←hp2] at b2
       have hvp:∀q,q∈hvL L (D++ [(e1,e2)]) ↔ q∈hvL L D∨q=p1∨q=p2:=fun q=>by
        unfold hvL
        rw [List.flatMap_append,List.mem_append,List.flatMap_singleton,hp1,hp2,hy]
        simp
       have z6:w8.cell? ⟨g,6,none⟩=some (.map (some mn)):=hF8.bx.cell 6
       have hg8':=hF8.lt.1
       have HK:=hide (And.intro n1 (And.intro b1 (And.intro b2 (And.intro z6 hg8'))))
       have HV:=hide (And.intro hr8 (And.intro hM8 (And.intro hF8 (And.intro hO8 (And.intro hT8 hI8)))))
       have HD:=hide (And.intro hnd (And.intro hsub (And.intro hcov (And.intro hlf (And.intro hpL (And.intro hvp (And.intro hlt8 (And.intro hf1 (And.intro hf2 hdl)))))))))
       have HL:=hide hrg.left_eq
       have hdm:2*D.length+2≤1000000:=by omega
       clear hrg hMq hnd hsub hcov hlf hF hO hT hI hr8 hM8 hF8 hO8 hT8 hI8 hpL hB8 hmcr hmcr2 n1 b1 b2 z6 hg8' hvp hlt8 hg8 hz8 hok hleft hf1 hf2 hp1 hp2 hy hlow hr1 hcd hcl hdl hpp hpe
       go_upto_region 19 with fail
       clear hrunN hent
       obtain ⟨gb,hgb⟩:∃n,n=w8.heap.size:=⟨_,rfl⟩
       obtain ⟨Y,hY⟩:∃W,W=w8.alloc (.cells #[.int .i64 e1, .int .i64 e2] 115):=⟨_,rfl⟩
       have hBY:Below w8.heap.size w8 Y:=by rw [hY];exact (Below.refl _ w8).alloc (Nat.le_refl _) _
       have hKY:Blk Y gb 115 #[.int .i64 e1, .int .i64 e2]:=by rw [hY,hgb];exact Blk.new _ _ _
       rw [←hY,←hgb]
       have hzw:w8.heap.size≤gb:=by omega
       have HSB:=hide (show Below Y.heap.size Y Y.drew from (Below.refl _ Y).drew)
       have HY:=hide (And.intro hBY (And.intro hKY hzw))
       have hB8:B1≤w8.heap.size:=HV.out.2.2.1.hB
       clear hBY hKY hY hgb hzw
       refine wp_region_mix (fun W=>Below Y.heap.size Y W) [0,1,2,3,4,5,6] [0,1,2,3,4,5,6] mixed_ok (by kernel_rfl) ?_
       refine wpMix_q (v:=(.pointer (some ⟨g,0,none⟩))) rfl rfl (fun _ _ _ h=>h) HSB.out ⟨rfl,fun _ _=>by simp [go_sem]⟩ ?_
       refine wpMix_q (v:=(.pointer (some ⟨g,0,none⟩))) rfl rfl (fun _ _ _ h=>h) HSB.out ⟨rfl,fun _ _=>by simp [go_sem]⟩ ?_
       refine wpMix_q (v:=(.pointer (some ⟨g,6,none⟩))) rfl rfl (fun _ _ _ h=>h) HSB.out ⟨rfl,fun _ _=>by simp [go_sem]⟩ ?_
       refine wpMix_q (v:=(.map (some mn))) rfl rfl (fun _ _ _ h=>h) HSB.out ⟨rfl,fun _ h'=>by have a0:=(h'.cell (p:=⟨g,6,none⟩) (show g < Y.heap.size by have:=HK.out.2.2.2.2;have:=HY.out.1.size;omega)).trans ((HY.out.1.cell (p:=⟨g,6,none⟩) (show g < w8.heap.size by have:=HK.out.2.2.2.2;omega)).trans HK.out.2.2.2.1);simp [go_sem,a0]⟩ ?_
       refine wpMix_q (v:=(.agg #[.int .i64 e1, .int .i64 e2])) rfl rfl (fun _ _ _ h=>h) HSB.out ⟨rfl,fun _ h'=>by have a0:=(h'.cell (p:=⟨gb,0,none⟩) HY.out.2.1.lt).trans (HY.out.2.1.cell 0);have a1:=(h'.cell (p:=⟨gb,1,none⟩) HY.out.2.1.lt).trans (HY.out.2.1.cell 1);simp only [List.getElem?_toArray,List.getElem?_cons_zero,List.getElem?_cons_succ] at a0 a1;simp [go_sem,a0,a1]⟩ ?_
       refine wpMix_q (v:=(.int .i64 y)) rfl rfl (fun _ _ _ h=>h) HSB.out ⟨rfl,fun _ h'=>by have a0:=HK.out.1 _ ((HY.out.1.mono hB8).trans (h'.mono (Nat.le_trans hB8 HY.out.1.size)));simp [go_sem,a0]⟩ ?_
       simp only [List.getElem_toArray,List.getElem_cons_succ,List.getElem_cons_zero,Act.put,List.setIfInBounds_toArray,List.set_cons_succ,List.set_cons_zero]
       refine wpMix_q (v:=(.int .i64 y)) rfl rfl (fun _ _ _ h=>h) HSB.out ⟨rfl,fun _ _=>by simp [go_sem]⟩ ?_
       simp only [List.getElem_toArray,List.getElem_cons_succ,List.getElem_cons_zero,Act.put,List.setIfInBounds_toArray,List.set_cons_succ,List.set_cons_zero]
       refine wpMix_nil ?_
       obtain ⟨U,hU⟩:∃W,W=Y.drew:=⟨_,rfl⟩
       rw [←hU]
       have hBU:Below w8.heap.size w8 U:=by rw [hU];exact HY.out.1.trans (HSB.out.mono HY.out.1.size)
       have hKU:Blk U gb 115 #[.int .i64 e1, .int .i64 e2]:=by rw [hU];exact HY.out.2.1.below HSB.out HY.out.2.1.lt
       have HU:=hide (And.intro hBU (And.intro hKU HY.out.2.2))
       clear HSB HY hU hBU hKU
       go_upto_region 20 with fail
       have HSB:=hide (show Below w8.heap.size w8 U.drew∧U.drew.cell? ⟨gb,0,none⟩=some (.int .i64 e1)∧U.drew.cell? ⟨gb,1,none⟩=some (.int .i64 e2)∧gb < U.drew.heap.size from ⟨HU.out.1.trans (Below.refl w8.heap.size U).drew,HU.out.2.1.cell 0,HU.out.2.1.cell 1,HU.out.2.1.lt⟩)
       refine wp_region_mix (fun W=>W.cell? ⟨gb,0,none⟩=some (.int .i64 e1)∧W.cell? ⟨gb,1,none⟩=some (.int .i64 e2)) [0,1,2,3,5,6,7,8] [0,1,2,3,5,6,7,8,4,9,10,11,12,13] mixed_ok (by kernel_rfl) ?_
       refine wpMix_q (v:=(.map (some mq))) rfl rfl (fun _ _ _ h=>h) ⟨HSB.out.2.1,HSB.out.2.2.1⟩ ⟨rfl,fun _ _=>by simp [go_sem]⟩ ?_
       refine wpMix_q (v:=(.pointer (some ⟨gb,0,none⟩))) rfl rfl (fun _ _ _ h=>h) ⟨HSB.out.2.1,HSB.out.2.2.1⟩ ⟨rfl,fun _ _=>by simp [go_sem]⟩ ?_
       refine wpMix_q (v:=(.int .i64 e1)) rfl rfl (fun _ _ _ h=>h) ⟨HSB.out.2.1,HSB.out.2.2.1⟩ ⟨rfl,fun _ h'=>by have a0:=h'.1;simp [go_sem,a0]⟩ ?_
       refine wpMix_q (v:=(.int .i64 y)) rfl rfl (fun _ _ _ h=>h) ⟨HSB.out.2.1,HSB.out.2.2.1⟩ ⟨rfl,fun _ _=>by simp [go_sem]⟩ ?_
       refine wpMix_q (v:=(.map (some mq))) rfl rfl (fun _ _ _ h=>h) ⟨HSB.out.2.1,HSB.out.2.2.1⟩ ⟨rfl,fun _ _=>by simp [go_sem]⟩ ?_
       refine wpMix_q (v:=(.pointer (some ⟨gb,1,none⟩))) rfl rfl (fun _ _ _ h=>h) ⟨HSB.out.2.1,HSB.out.2.2.1⟩ ⟨rfl,fun _ _=>by simp [go_sem]⟩ ?_
       simp only [List.getElem_toArray,List.getElem_cons_succ,List.getElem_cons_zero,Act.put,List.setIfInBounds_toArray,List.set_cons_succ,List.set_cons_zero]
       refine wpMix_q (v:=(.int .i64 e2)) rfl rfl (fun _ _ _ h=>h) ⟨HSB.out.2.1,HSB.out.2.2.1⟩ ⟨rfl,fun _ h'=>by have a0:=h'.2;simp [go_sem,a0]⟩ ?_
       refine wpMix_q (v:=(.int .i64 y)) rfl rfl (fun _ _ _ h=>h) ⟨HSB.out.2.1,HSB.out.2.2.1⟩ ⟨rfl,fun _ _=>by simp [go_sem]⟩ ?_
       simp only [List.getElem_toArray,List.getElem_cons_succ,List.getElem_cons_zero,Act.put,List.setIfInBounds_toArray,List.set_cons_succ,List.set_cons_zero]
       refine wpMix_n rfl rfl ?_
       go_wp2_with fail
       refine (HK.out.2.1 U.drew).mono ?_
       rintro e W5 ⟨rfl,hB⟩
       have HSB5:=hide (show Below w8.heap.size w8 W5∧W5.cell? ⟨gb,0,none⟩=some (.int .i64 e1)∧W5.cell? ⟨gb,1,none⟩=some (.int .i64 e2)∧gb < W5.heap.size from ⟨HSB.out.1.trans (hB.mono HSB.out.1.size),(hB.cell (p:=⟨gb,0,none⟩) HSB.out.2.2.2).trans HSB.out.2.1,(hB.cell (p:=⟨gb,1,none⟩) HSB.out.2.2.2).trans HSB.out.2.2.1,Nat.lt_of_lt_of_le HSB.out.2.2.2 hB.size⟩)
       clear hB
       go_wp2_with fail
       refine ⟨fun _=>⟨HSB5.out.2.1,HSB5.out.2.2.1⟩,?_⟩
       refine wpMix_n rfl rfl ?_
       go_wp2_with fail
       refine (HK.out.2.2.1 W5).mono ?_
       rintro e W6 ⟨rfl,hB⟩
       have HSB6:=hide (show Below w8.heap.size w8 W6∧W6.cell? ⟨gb,0,none⟩=some (.int .i64 e1)∧W6.cell? ⟨gb,1,none⟩=some (.int .i64 e2)∧gb < W6.heap.size from ⟨HSB5.out.1.trans (hB.mono HSB5.out.1.size),(hB.cell (p:=⟨gb,0,none⟩) HSB5.out.2.2.2).trans HSB5.out.2.1,(hB.cell (p:=⟨gb,1,none⟩) HSB5.out.2.2.2).trans HSB5.out.2.2.1,Nat.lt_of_lt_of_le HSB5.out.2.2.2 hB.size⟩)
       clear hB
       go_wp2_with fail
       refine ⟨fun _=>⟨HSB6.out.2.1,HSB6.out.2.2.1⟩,?_⟩
       obtain ⟨st,u1,hrunE,hgE,hzE,_,_,hst⟩:=(HV.out.2.1.below HSB6.out.1 HV.out.2.1.lt).entry4 kfSE lawSE (t:=83) (e:=4) Tryz.underlying83 (z:= .bool false) (fun _=>rfl) (by unfold maxLen;omega) p1 HD.out.2.2.2.2.2.2.2.1
       obtain ⟨u3,hrun3,hM3,hg3,hz3⟩:=hst u1 (.bool true) rfl
       obtain ⟨u4,hrun4,hM4,hg4,hz4⟩:=hM3.update kfSE (t:=83) (e:=4) Tryz.underlying83 (by unfold maxLen;omega) p2 HD.out.2.2.2.2.2.2.2.2.1 (.bool true)
       have hqb:gb≠mq:=by have:=HU.out.2.2;have:=HV.out.2.1.lt;omega
       have hE1:u1.cell? ⟨gb,0,none⟩=some (.int .i64 e1)∧u1.cell? ⟨gb,1,none⟩=some (.int .i64 e2):=⟨(grown_cell hgE HSB6.out.2.2.2 hqb _).trans HSB6.out.2.1,(grown_cell hgE HSB6.out.2.2.2 hqb _).trans HSB6.out.2.2.1⟩
       have hE3:u3.cell? ⟨gb,0,none⟩=some (.int .i64 e1)∧u3.cell? ⟨gb,1,none⟩=some (.int .i64 e2):=⟨(grown_cell hg3 (by rw [hzE];exact HSB6.out.2.2.2) hqb _).trans hE1.1,(grown_cell hg3 (by rw [hzE];exact HSB6.out.2.2.2) hqb _).trans hE1.2⟩
       have HE:=hide (And.intro hE1 hE3)
       have HM:=hide (And.intro hM4 ((hgE.trans hg3).trans hg4))
       simp only [goInt] at hrunE hrun3
       clear hst hgE hzE hM3 hg3 hz3 hM4 hg4 hz4 hE1 hE3 hqb
       refine wpMix_n rfl rfl ?_
       go_wp2_with fail
       refine ⟨fun _=>HE.out.1,?_⟩
       refine wpMix_n rfl rfl ?_
       go_wp2_with fail
       refine ⟨fun _=>HE.out.1,?_⟩
       refine wpMix_n rfl rfl ?_
       go_wp2_with fail
       refine ⟨fun _=>HE.out.2,?_⟩
       refine wpMix_tail _ [_] (by kernel_rfl) rfl ?_
       go_wp2_with fail
       clear hrunE hrun3 hrun4 HK HSB HE
       have hBW:=HSB6.out.1
       have hF6:=HV.out.2.2.1.below (hBW.mono hB8)
       have hR6:=(HV.out.1.below hBW (Nat.le_refl _)).kept HM.out.2 (fun e=>by cases e;have:=HQ.out;omega) (fun e=>by cases e;exact HQ.out.2.2.1 rfl)
       have HR:=hide hR6
       clear hR6
       go_roundw
       case rel=>
        obtain ⟨hnd,hsub,hcov,hlf,hpL,hvp,_,_,_,_⟩:=HD.out
        have hM6:=HV.out.2.1.below hBW HV.out.2.1.lt
        have hmo:=hM6.obj
        have hne:∀{α:Type} {enc:α→List Value} {kk:Nat} {t:TypeId} {b nn:Nat} {v:Value} {xs:List α},Own enc kk t W6 b v nn xs→v.ownBlock≠some mq:=fun ho e=>by
         obtain ⟨cs,hc⟩:=ho.cells mq e
         obtain ⟨o,ho2,hno⟩:=hmo
         rw [hc] at ho2
         cases ho2
         cases hno
        have hO6:=HV.out.2.2.2.1.below hBW (Nat.le_refl _)
        have hT6:=HV.out.2.2.2.2.1.below hBW (Nat.le_refl _)
        refine ⟨_,c',D++ [(e1,e2)],HR.out,?_,nodup_snoc.2 ⟨hnd,hpL.2⟩,fun q hq=> ?_,fun q hq=> ?_,fun q hq=> ?_,hF6.below (grown_bel HM.out.2 HQ.out.1 hF6.hB),hO6.kept HM.out.2 (.inr (hne hO6)),hT6.kept HM.out.2 (.inr (hne hT6)),HST.out.st (HST.out.bel HV.out.2.2.2.2.2 hBW) HM.out.2 (fun r hr=> .inr ⟨by cases hr;exact HQ.out.1, .inr (fun cs hc=>by
         cases hr
         obtain ⟨o,ho2,hno⟩:=hmo
         rw [hc] at ho2
         cases ho2
         cases hno)⟩)⟩
        ·rw [List.length_append,List.length_singleton,show 2*(D.length+1)=2*D.length+1+1 by omega,←setK4_two hvp]
         exact HM.out.1
        ·rcases List.mem_append.1 hq with h | h
         ·exact hsub q h
         ·rw [List.mem_singleton.1 h];exact hpL.1
        ·by_cases hqp:q=(e1,e2)
         ·exact .inl (by simp [hqp])
         ·rcases hcov q hq with h | h
          ·exact .inl (List.mem_append.2 (.inl h))
          ·exact .inr (by simp [h,hqp])
        ·simp only [Bool.and_eq_true,Bool.not_eq_true',decide_eq_false_iff_not] at hq
         have h1:=hlf q hq.1
         exact ⟨h1.1,fun h=>by
          rcases List.mem_append.1 h with h | h
          ·exact h1.2 h
          ·exact hq.2 (List.mem_singleton.1 h)⟩
       case measure=>
        rw [HR.out.left_eq,HL.out]
        exact HD.out.2.2.2.2.2.2.1
end Go.Proofs.YtmemofonebphfaaGreat
namespace Go.Proofs.YtmemofonebphfaaGreat
open Go.RowKit Go.Sort Go.WideMaps Go.Maps
theorem setK4_one {H:List E2} {p:E2}:(fun q=>if q=p then some (Value.bool true) else setK4 H q)=setK4 (H++ [p]):=by
 funext q
 unfold setK4
 by_cases h1:q=p
 ·rw [if_pos h1,if_pos (by simp [h1])]
 ·rw [if_neg h1]
  by_cases h2:q∈H
  ·rw [if_pos h2,if_pos (by simp [h2])]
  ·rw [if_neg h2,if_neg (by simp [h1,h2])]
theorem setK4_oneZ {H:List Int} {p:Int}:(fun q=>if q=p then some (Value.bool true) else setK4 H q)=setK4 (H++ [p]):=by
 funext q
 unfold setK4
 by_cases h1:q=p
 ·rw [if_pos h1,if_pos (by simp [h1])]
 ·rw [if_neg h1]
  by_cases h2:q∈H
  ·rw [if_pos h2,if_pos (by simp [h2])]
  ·rw [if_neg h2,if_neg (by simp [h1,h2])]
structure BegS (w W:World) (g1 g mc mo n1 n2:Nat) (ctl:Array Value) (lv:Array Value) (pv:Value) (n:Nat) (xs:List Pt) (CR:List E2) (CO:List Int):Prop where
 bel:Below w.heap.size w W
 b1:Blk W g1 32 ctl
 bg:Blk W g 90 (#[pv]++lv)
 op:Own encP 3 43 W w.heap.size pv n xs
 mcr:MapK Tryz.prog 115 vE2 fits2 W mc n1 (setK4 CR)
 mco:MapK Tryz.prog 3 vi fits W mo n2 (setK4 CO)
 le:w.heap.size≤g1∧w.heap.size≤g∧w.heap.size≤mc∧w.heap.size≤mo
 ne:g1≠g∧g1≠mc∧g1≠mo∧g≠mc∧g≠mo∧mc≠mo
section
variable {w W W':World} {g1 g mc mo n1 n2:Nat} {ctl lv:Array Value} {pv:Value} {n:Nat} {xs:List Pt} {CR:List E2} {CO:List Int}
theorem BegS.below (h:BegS w W g1 g mc mo n1 n2 ctl lv pv n xs CR CO) (hB:Below W.heap.size W W'):BegS w W' g1 g mc mo n1 n2 ctl lv pv n xs CR CO:=
 ⟨h.bel.trans (hB.mono h.bel.size),h.b1.below hB h.b1.lt,h.bg.below hB h.bg.lt,h.op.below hB (Nat.le_refl _),h.mcr.below hB h.mcr.lt,h.mco.below hB h.mco.lt,h.le,h.ne⟩
theorem own_map_ne {α:Type} {enc:α→List Value} {k:Nat} {t:TypeId} {W:World} {b nn r:Nat} {v:Value} {xs:List α} {κ:Type} {P:Program} {kt:TypeId} {ek:κ→Value} {ok:κ→Prop} {cnt:Nat} {m:κ→Option Value} (ho:Own enc k t W b v nn xs) (hm:MapK P kt ek ok W r cnt m):v.ownBlock≠some r:=fun e=>by
 obtain ⟨cs,hc⟩:=ho.cells r e
 obtain ⟨o,ho2,hno⟩:=hm.obj
 rw [hc] at ho2
 cases ho2
 cases hno
theorem BegS.upc {CR':List E2} {n1':Nat} (h:BegS w W g1 g mc mo n1 n2 ctl lv pv n xs CR CO) (hg:W.grownBy W' (some mc)) (hm:MapK Tryz.prog 115 vE2 fits2 W' mc n1' (setK4 CR')):BegS w W' g1 g mc mo n1' n2 ctl lv pv n xs CR' CO:=
 ⟨h.bel.trans (grown_bel hg h.le.2.2.1 h.bel.size),h.b1.grown hg (fun e=>h.ne.2.1 (Option.some.inj e)),h.bg.grown hg (fun e=>h.ne.2.2.2.1 (Option.some.inj e)),h.op.kept hg (.inr (own_map_ne h.op h.mcr)),hm,h.mco.kept hg (fun e=>h.ne.2.2.2.2.2 (Option.some.inj e).symm),h.le,h.ne⟩
theorem BegS.upo {CO':List Int} {n2':Nat} (h:BegS w W g1 g mc mo n1 n2 ctl lv pv n xs CR CO) (hg:W.grownBy W' (some mo)) (hm:MapK Tryz.prog 3 vi fits W' mo n2' (setK4 CO')):BegS w W' g1 g mc mo n1 n2' ctl lv pv n xs CR CO':=
 ⟨h.bel.trans (grown_bel hg h.le.2.2.2 h.bel.size),h.b1.grown hg (fun e=>h.ne.2.2.1 (Option.some.inj e)),h.bg.grown hg (fun e=>h.ne.2.2.2.2.1 (Option.some.inj e)),h.op.kept hg (.inr (own_map_ne h.op h.mco)),h.mcr.kept hg (fun e=>h.ne.2.2.2.2.2 (Option.some.inj e)),hm,h.le,h.ne⟩
theorem BegS.app {v6:Value} {x:Pt} (h:BegS w W g1 g mc mo n1 n2 ctl lv pv n xs CR CO) (hg:W.grownBy W' pv.ownBlock) (ho:Own encP 3 43 W' w.heap.size v6 (n+1) (xs++ [x])):BegS w (W'.setCell ⟨g,0,none⟩ v6) g1 g mc mo n1 n2 ctl lv v6 (n+1) (xs++ [x]) CR CO:=by
 have hgs:=grown_set9 W' g 0 v6
 have hB:Below w.heap.size w W':=h.bel.trans (grown_belO hg (fun r hr=>(h.op.blk r hr).1) h.bel.size)
 have h1:=h.b1.grown hg (blk_own_ne9 h.b1 h.op (show (43:TypeId)≠32 by decide))
 have h2:=h.bg.grown hg (blk_own_ne9 h.bg h.op (show (43:TypeId)≠90 by decide))
 refine ⟨hB.trans (grown_bel hgs h.le.2.1 hB.size),h1.grown hgs (fun e=>h.ne.1 (Option.some.inj e)),?_,ho.kept hgs (.inr (blk_own_ne9 h2 ho (show (43:TypeId)≠90 by decide)).symm),(h.mcr.kept hg (Ne.symm (own_map_ne h.op h.mcr))).kept hgs (fun e=>h.ne.2.2.2.1 (Option.some.inj e).symm),(h.mco.kept hg (Ne.symm (own_map_ne h.op h.mco))).kept hgs (fun e=>h.ne.2.2.2.2.1 (Option.some.inj e).symm),h.le,h.ne⟩
 have h5:=h2.set_ 0 v6
 have e5:(#[pv]++lv).setIfInBounds 0 v6=#[v6]++lv:=by
  apply Array.ext'
  simp
 rw [←e5]
 exact h5
end
def BegR (w w':World) (At:Option Addr) (ct:Nat) (c:Ctl) (e:Ending):Prop:=
 ∃(g:Nat) (Ap:Option Addr) (cp mc mo:Nat),e= .returned (.pointer (some ⟨g,0,none⟩))∧w.heap.size≤g∧LvlM w' w.heap.size g Ap cp At ct mc mo none none 0 0 none none c.begin c.corners∧Below w.heap.size w w'
set_option maxRecDepth 100000 in
set_option maxHeartbeats 64000000 in
theorem pbegin_any (Ap At Ac Ao Ad:Option Addr) (cp ct cc oc nd dc:Nat) (c:Ctl) (w:World) (hm:CtlM w w.heap.size Ap At Ac Ao Ad c) (hb:CtlB c) (hs:0≤c.steps∧c.steps≤4) (hf:∀e∈c.creases,fits2 e) (hfo:∀i∈c.corners,fits i):
  Calls Tryz.prog 41 #[vCtl Ap c.points.length cp At c.tris.length ct Ac c.creases.length cc Ao c.corners.length oc c.steps Ad nd dc] w fun e w'=>BegR w w' At ct c e:=by
 obtain ⟨sn,hsn⟩:∃n:Nat,c.steps=n:=⟨c.steps.toNat,by omega⟩
 have hs4:sn≤4:=by omega
 have kp:=fun W=>scale_any sn hs4 W
 obtain ⟨pw,hpw⟩:∃p,p=(16:Int)^sn:=⟨_,rfl⟩
 simp only [←hpw] at kp
 obtain ⟨np,hnp⟩:∃n,n=c.points.length:=⟨_,rfl⟩
 obtain ⟨nt,hnt⟩:∃n,n=c.tris.length:=⟨_,rfl⟩
 obtain ⟨nc,hnc⟩:∃n,n=c.creases.length:=⟨_,rfl⟩
 obtain ⟨no,hno⟩:∃n,n=c.corners.length:=⟨_,rfl⟩
 have hpl:np≤100000:=by rw [hnp];exact hb.p
 have hcl:nc≤100000:=by rw [hnc];exact hb.cr
 have hol:no≤100000:=by rw [hno];exact hb.o
 have hbp:c.begin.p=c.points.map fun p=>plusP (0,0,0) p pw:=by rw [hpw];unfold Ctl.begin;rw [hsn,Int.toNat_natCast]
 have hxx:∀i x,c.points[i]? =some x→((c.points.take (i+1)).map fun p=>plusP (0,0,0) p pw)=((c.points.take i).map fun p=>plusP (0,0,0) p pw)++ [plusP (0,0,0) x pw]:=fun i x hx=>by rw [List.take_add_one,hx,List.map_append];rfl
 have hcx:∀i x,c.creases[i]? =some x→((c.creases.take (i+1)).map fun e=>nrmE e.1 e.2)=((c.creases.take i).map fun e=>nrmE e.1 e.2)++ [nrmE x.1 x.2]:=fun i x hx=>by rw [List.take_add_one,hx,List.map_append];rfl
 rw [hsn,←hnp,←hnt,←hnc,←hno]
 have HK:=hide (And.intro kp (And.intro hxx (And.intro hcx (And.intro hm (And.intro hf (And.intro hfo (And.intro hbp (And.intro hnp (And.intro hnt (And.intro hnc hno))))))))))
 clear kp hxx hcx hm hb hf hfo hbp hpw hnp hnt hnc hno hsn hs hs4
 have hmm:=@run_makeMap Tryz.prog
 go_enter Tryz.func41,Tryz.ntmps41
 go_upto_region 2 with fail
 clear hmm
 obtain ⟨g1,hg1⟩:∃g,g=w.heap.size:=⟨_,rfl⟩
 obtain ⟨mc,hmc⟩:∃g,g=w.heap.size+1:=⟨_,rfl⟩
 obtain ⟨mo,hmo⟩:∃g,g=w.heap.size+1+1:=⟨_,rfl⟩
 obtain ⟨g,hg⟩:∃g,g=w.heap.size+1+1+1:=⟨_,rfl⟩
 obtain ⟨X,hX⟩:∃W,W=(((w.alloc (.cells (cCtl Ap np cp At nt ct Ac nc cc Ao no oc sn Ad nd dc) 32)).alloc (.map #[] 0)).alloc (.map #[] 0)).alloc (.cells #[.slice none 0 0, .slice At nt ct, .map (some (w.heap.size+1)), .map (some (w.heap.size+1+1)), .map none, .slice none 0 0, .map none, .map none] 90):=⟨_,rfl⟩
 rw [←hX,←hg,←hmo,←hmc,←hg1]
 rw [←hmo,←hmc] at hX
 have hS0:BegS w X g1 g mc mo 0 0 (cCtl Ap np cp At nt ct Ac nc cc Ao no oc sn Ad nd dc) #[.slice At nt ct, .map (some mc), .map (some mo), .map none, .slice none 0 0, .map none, .map none] (.slice none 0 0) 0 [] [] []:=by
  obtain ⟨X1,hX1⟩:∃W,W=w.alloc (.cells (cCtl Ap np cp At nt ct Ac nc cc Ao no oc sn Ad nd dc) 32):=⟨_,rfl⟩
  have b1:Blk X1 g1 32 (cCtl Ap np cp At nt ct Ac nc cc Ao no oc sn Ad nd dc):=by rw [hX1,hg1];exact Blk.new _ _ _
  have s1:X1.heap.size=w.heap.size+1:=by rw [hX1];simp
  rw [←hX1] at hX
  have m1:=MapK.made Tryz.prog 115 vE2 fits2 X1
  rw [s1,←hmc] at m1
  have m2:=MapK.made Tryz.prog 3 vi fits (X1.alloc (.map #[] 0))
  rw [show (X1.alloc (.map #[] 0)).heap.size=mo by simp [s1,hmo]] at m2
  have e1:(fun _=>none:E2→Option Value)=setK4 []:=by funext q;simp [setK4]
  have e2:(fun _=>none:Int→Option Value)=setK4 []:=by funext q;simp [setK4]
  rw [e1] at m1
  rw [e2] at m2
  have a2:Below X1.heap.size X1 (X1.alloc (.map #[] 0)):=(Below.refl _ _).alloc (Nat.le_refl _) _
  have a3:Below (X1.alloc (.map #[] 0)).heap.size (X1.alloc (.map #[] 0)) ((X1.alloc (.map #[] 0)).alloc (.map #[] 0)):=(Below.refl _ _).alloc (Nat.le_refl _) _
  rw [hX]
  have a4:Below ((X1.alloc (.map #[] 0)).alloc (.map #[] 0)).heap.size ((X1.alloc (.map #[] 0)).alloc (.map #[] 0)) (((X1.alloc (.map #[] 0)).alloc (.map #[] 0)).alloc (.cells #[.slice none 0 0, .slice At nt ct, .map (some mc), .map (some mo), .map none, .slice none 0 0, .map none, .map none] 90)):=(Below.refl _ _).alloc (Nat.le_refl _) _
  have hB:Below w.heap.size w X1:=by rw [hX1];exact (Below.refl _ w).alloc (Nat.le_refl _) _
  refine ⟨?_,((b1.alloc _).alloc _).alloc _,?_,Own.nil,(m1.below a3 m1.lt).below a4 (m1.below a3 m1.lt).lt,m2.below a4 m2.lt,by omega,by omega⟩
  ·have b3:=hB.trans (a2.mono hB.size)
   have b4:=b3.trans (a3.mono b3.size)
   exact b4.trans (a4.mono b4.size)
  ·exact Blk.new' _ _ _ _ (by simp [s1,hg])
 have HS0:=hide hS0
 have z0:X.cell? ⟨g1,0,none⟩=some (.slice Ap np cp):=hS0.b1.cell 0
 have hgX:=hS0.b1.lt
 clear hS0 hX hg1 hg hmc hmo
 go_upto_region 3 with fail
 clear z0 hgX
 go_loopw [19] (fun iv wr=>∃(i:Nat) (pv:Value),i≤np∧iv= .int .i64 i∧BegS w wr g1 g mc mo 0 0 (cCtl Ap np cp At nt ct Ac nc cc Ao no oc sn Ad nd dc) #[.slice At nt ct, .map (some mc), .map (some mo), .map none, .slice none 0 0, .map none, .map none] pv i ((c.points.take i).map fun p=>plusP (0,0,0) p pw) [] []) (fun iv _=>np - (intOf iv).toNat)
 case atStart=>exact ⟨0,_,by omega,rfl,by rw [List.take_zero];exact HS0.out⟩
 case round=>
  obtain ⟨i,pv,hi,rfl,hS⟩:=hrel
  obtain ⟨V,rfl⟩:∃x,x=wr:=⟨_,rfl⟩
  obtain ⟨Ax,cx,rfl⟩:=hS.op.form
  by_cases hlt:i < np
  ·have i1:(i:Int) < (np:Int):=by omega
   obtain ⟨x,hx⟩:∃x,c.points[i]? =some x:=⟨_,List.getElem?_eq_getElem (by rw [←HK.out.2.2.2.2.2.2.2.1];exact hlt)⟩
   obtain ⟨bb,ob,hA,hbb,d0,d1,d2⟩:=(HK.out.2.2.2.1.p.below hS.bel).pt9 hx
   subst hA
   have hbV:bb < V.heap.size:=Nat.lt_of_lt_of_le hbb hS.bel.size
   have htk:=HK.out.2.1 i x hx
   have hkq:=plus_any (0,0,0) x pw
   obtain ⟨r,hr⟩:∃r,r=plusP (0,0,0) x pw:=⟨_,rfl⟩
   rw [←hr] at htk hkq
   obtain ⟨x1,x2,x3⟩:=x
   obtain ⟨r1,r2,r3⟩:=r
   simp only at d0 d1 d2
   have HV:=hide (And.intro hS (And.intro htk hkq))
   clear hS htk hkq hx hbb hr
   go_upto_region 5 with fail
   obtain ⟨gb,hgb⟩:∃n,n=V.heap.size:=⟨_,rfl⟩
   obtain ⟨Y,hY⟩:∃W,W=V.alloc (.cells #[.int .i64 x1, .int .i64 x2, .int .i64 x3] 43):=⟨_,rfl⟩
   have hSY:=HV.out.1.below (show Below V.heap.size V Y by rw [hY];exact (Below.refl _ V).alloc (Nat.le_refl _) _)
   have hKY:Blk Y gb 43 #[.int .i64 x1, .int .i64 x2, .int .i64 x3]:=by rw [hY,hgb];exact Blk.new _ _ _
   have hgo:some gb≠(Value.slice Ax i cx).ownBlock:=fun e=>by have:=(HV.out.1.op.blk gb e.symm).2;omega
   rw [←hY,←hgb]
   have HSB:=hide (show Blk Y.drew g 90 #[.slice Ax i cx, .slice At nt ct, .map (some mc), .map (some mo), .map none, .slice none 0 0, .map none, .map none]∧Blk Y.drew g1 32 (cCtl (some ⟨bb,ob,none⟩) np cp At nt ct Ac nc cc Ao no oc sn Ad nd dc)∧Blk Y.drew gb 43 #[.int .i64 x1, .int .i64 x2, .int .i64 x3] from ⟨hSY.bg,hSY.b1,hKY⟩)
   have HY:=hide (And.intro hSY (And.intro hKY hgo))
   clear hSY hKY hgo hY hgb d0 d1 d2 hbV
   refine wp_region_mix (fun W=>Blk W g 90 #[.slice Ax i cx, .slice At nt ct, .map (some mc), .map (some mo), .map none, .slice none 0 0, .map none, .map none]∧Blk W g1 32 (cCtl (some ⟨bb,ob,none⟩) np cp At nt ct Ac nc cc Ao no oc sn Ad nd dc)∧Blk W gb 43 #[.int .i64 x1, .int .i64 x2, .int .i64 x3]) [0,1,2,3,4,5,6,7,8] [0,1,2,3,4,5,6,7,8,9,10,11,12,13,14,15] mixed_ok (by kernel_rfl) ?_
   refine wpMix_q (v:=(.pointer (some ⟨g,0,none⟩))) rfl rfl (fun _ _ _ h=>h) HSB.out ⟨rfl,fun _ _=>by simp [go_sem]⟩ ?_
   refine wpMix_q (v:=(.pointer (some ⟨g,0,none⟩))) rfl rfl (fun _ _ _ h=>h) HSB.out ⟨rfl,fun _ _=>by simp [go_sem]⟩ ?_
   refine wpMix_q (v:=(.pointer (some ⟨g,0,none⟩))) rfl rfl (fun _ _ _ h=>h) HSB.out ⟨rfl,fun _ _=>by simp [go_sem]⟩ ?_
   refine wpMix_q (v:=(.pointer (some ⟨g,0,none⟩))) rfl rfl (fun _ _ _ h=>h) HSB.out ⟨rfl,fun _ _=>by simp [go_sem]⟩ ?_
   refine wpMix_q (v:=(.slice Ax i cx)) rfl rfl (fun _ _ _ h=>h) HSB.out ⟨rfl,fun _ h'=>by have a0:=h'.1.cell 0;simp only [List.getElem?_toArray,List.getElem?_cons_zero] at a0;simp [go_sem,a0]⟩ ?_
   refine wpMix_q (v:=(.agg #[.int .i64 0, .int .i64 0, .int .i64 0])) rfl rfl (fun _ _ _ h=>h) HSB.out ⟨rfl,fun _ _=>by simp [go_sem]⟩ ?_
   simp only [List.getElem_toArray,List.getElem_cons_succ,List.getElem_cons_zero,Act.put,List.setIfInBounds_toArray,List.set_cons_succ,List.set_cons_zero]
   refine wpMix_q (v:=(.agg #[.int .i64 x1, .int .i64 x2, .int .i64 x3])) rfl rfl (fun _ _ _ h=>h) HSB.out ⟨rfl,fun _ h'=>by have a0:=h'.2.2.cell 0;simp only [List.getElem?_toArray,List.getElem?_cons_zero] at a0;have a1:=h'.2.2.cell 1;simp only [List.getElem?_toArray,List.getElem?_cons_zero,List.getElem?_cons_succ] at a1;have a2:=h'.2.2.cell 2;simp only [List.getElem?_toArray,List.getElem?_cons_zero,List.getElem?_cons_succ] at a2;simp [go_sem,a0,a1,a2]⟩ ?_
   refine wpMix_q (v:=(.pointer (some ⟨g1,4,none⟩))) rfl rfl (fun _ _ _ h=>h) HSB.out ⟨rfl,fun _ _=>by simp [go_sem]⟩ ?_
   refine wpMix_q (v:=(.int .i64 sn)) rfl rfl (fun _ _ _ h=>h) HSB.out ⟨rfl,fun _ h'=>by have a4:=h'.2.1.cell 4;simp only [List.getElem?_toArray,List.getElem?_cons_zero,List.getElem?_cons_succ] at a4;simp [go_sem,a4]⟩ ?_
   simp only [List.getElem_toArray,List.getElem_cons_succ,List.getElem_cons_zero,Act.put,List.setIfInBounds_toArray,List.set_cons_succ,List.set_cons_zero]
   refine wpMix_n rfl rfl ?_
   go_wp2_with fail
   refine (HK.out.1 Y.drew).mono ?_
   rintro e W1 ⟨rfl,rfl⟩
   go_wp2_with fail
   refine ⟨fun _=>HSB.out,?_⟩
   refine wpMix_n rfl rfl ?_
   go_wp2_with fail
   refine (HV.out.2.2 Y.drew).mono ?_
   rintro e W2 ⟨rfl,hB⟩
   have hS2:=(HY.out.1.below (Below.refl _ Y).drew).below hB
   have hK2:=(show Blk Y.drew gb 43 #[.int .i64 x1, .int .i64 x2, .int .i64 x3] from HY.out.2.1).below hB HSB.out.2.2.lt
   have hz2:=hB.size
   have H2:=hide (And.intro hS2 hK2)
   clear hS2 hK2 hB
   go_wp2_with fail
   refine ⟨fun _=>⟨H2.out.1.bg,H2.out.1.b1,H2.out.2⟩,?_⟩
   have hal:Below W2.heap.size W2 (W2.alloc (.cells #[.int .i64 r1, .int .i64 r2, .int .i64 r3] 43)):=(Below.refl _ W2).alloc (Nat.le_refl _) _
   have hS3:=H2.out.1.below hal
   have hK3:=H2.out.2.below hal H2.out.2.lt
   have H3:=hide (And.intro hS3 hK3)
   clear hal hS3 hK3
   refine wpMix_n rfl rfl ?_
   go_wp2_with fail
   refine ⟨fun _=>⟨H3.out.1.bg,H3.out.1.b1,H3.out.2⟩,?_⟩
   have hbl:=H3.out.1.bel.size
   refine wpMix_n rfl rfl ?_
   refine wpList_append1 rfl _ _ _ rfl Tryz.underlying28 infoP rfl (by omega) encP_len encP_one rfl H3.out.1.op W2.heap.size 1 ((r1,r2,r3):Pt) rfl (Blk.new _ _ _) (by unfold maxLen;omega) (by omega) hbl ?_
   intro g6 cap6 w6 hown6 hg6 hB6 hat6 hgb6 hlt6
   have hS6:=H3.out.1.app hg6 hown6
   have h61:=H3.out.1.bg.grown hg6 (blk_own_ne9 H3.out.1.bg H3.out.1.op (show (43:TypeId)≠90 by decide))
   have h62:=H3.out.1.b1.grown hg6 (blk_own_ne9 H3.out.1.b1 H3.out.1.op (show (43:TypeId)≠32 by decide))
   have h63:=H3.out.2.grown hg6 HY.out.2.2
   have c6:w6.cell? ⟨g,0,none⟩=some (.slice Ax i cx):=h61.cell 0
   have f6:=h61.frozen 0
   have hl6:=h61.lt
   have H6:=hide (And.intro hS6 (And.intro h61 (And.intro h62 h63)))
   clear hown6 hg6 hB6 hat6 hgb6 hlt6 hS6 h61 h62 h63 hbl hz2
   go_wp2_with fail
   refine ⟨fun _=>H6.out.2,?_⟩
   refine wpMix_tail _ [_,_,_] (by kernel_rfl) rfl ?_
   go_wp2
   go_roundw
   case rel=>exact ⟨i+1,_,by omega,by go_num,by rw [HV.out.2.1];exact H6.out.1⟩
   case measure=>(simp [intOf];try omega)
  ·obtain rfl:i=np:=by omega
   have i1:¬(i:Int) < (i:Int):=by omega
   rw [List.take_of_length_le (by rw [←HK.out.2.2.2.2.2.2.2.1];exact Nat.le_refl _)] at hS
   have z2:V.cell? ⟨g1,2,none⟩=some (.slice Ac nc cc):=hS.b1.cell 2
   have hgV:=hS.b1.lt
   have HB:=hide hS
   clear hS hlt hi
   go_upto_region 8 with fail
   clear z2 hgV i1
   go_loopw [42] (fun iv wr=>∃(j n1:Nat),j≤nc∧iv= .int .i64 j∧BegS w wr g1 g mc mo n1 0 (cCtl Ap i cp At nt ct Ac nc cc Ao no oc sn Ad nd dc) #[.slice At nt ct, .map (some mc), .map (some mo), .map none, .slice none 0 0, .map none, .map none] (.slice Ax i cx) i (c.points.map fun p=>plusP (0,0,0) p pw) ((c.creases.take j).map fun e=>nrmE e.1 e.2) []∧n1≤j) (fun iv _=>nc - (intOf iv).toNat)
   case atStart=>exact ⟨0,0,by omega,rfl,by rw [List.take_zero];exact HB.out,by omega⟩
   case round=>
    obtain ⟨j,n1,hj,rfl,hS,hn1⟩:=hrel
    obtain ⟨V,rfl⟩:∃x,x=wr:=⟨_,rfl⟩
    by_cases hlt:j < nc
    ·have j1:(j:Int) < (nc:Int):=by omega
     obtain ⟨x,hx⟩:∃x,c.creases[j]? =some x:=⟨_,List.getElem?_eq_getElem (by rw [←HK.out.2.2.2.2.2.2.2.2.2.1];exact hlt)⟩
     obtain ⟨bb,ob,hA,hbb,d0,d1⟩:=(HK.out.2.2.2.1.cr.below hS.bel).e2 hx
     subst hA
     have hbV:bb < V.heap.size:=Nat.lt_of_lt_of_le hbb hS.bel.size
     have htk:=HK.out.2.2.1 j x hx
     have hfx0:=nrm1_fits (HK.out.2.2.2.2.1 x (List.mem_of_getElem? hx))
     have hbt:=between_any x.1 x.2
     obtain ⟨p,hp⟩:∃p,p=nrmE x.1 x.2:=⟨_,rfl⟩
     have hfx:fits2 p:=by rw [hp];exact hfx0
     rw [←hp] at htk hbt
     obtain ⟨x1,x2⟩:=x
     simp only at d0 d1 hbt
     have HV:=hide (And.intro hS (And.intro htk (And.intro hfx hbt)))
     clear hS htk hfx hfx0 hbt hx hbb hp
     go_upto_region 10 with fail
     obtain ⟨gb,hgb⟩:∃n,n=V.heap.size:=⟨_,rfl⟩
     obtain ⟨Y,hY⟩:∃W,W=V.alloc (.cells #[.int .i64 x1, .int .i64 x2] 56):=⟨_,rfl⟩
     have hSY:=HV.out.1.below (show Below V.heap.size V Y by rw [hY];exact (Below.refl _ V).alloc (Nat.le_refl _) _)
     have hKY:Blk Y gb 56 #[.int .i64 x1, .int .i64 x2]:=by rw [hY,hgb];exact Blk.new _ _ _
     rw [←hY,←hgb]
     have HSB:=hide (show Below Y.heap.size Y Y.drew from (Below.refl _ Y).drew)
     have HY:=hide (And.intro hSY (And.intro hKY (show Y.cell? ⟨g,2,none⟩=some (.map (some mc)) from hSY.bg.cell 2)))
     clear hSY hKY hY hgb d0 d1 hbV
     refine wp_region_mix (fun W=>Below Y.heap.size Y W) [0,1,2,3,4,5,6,7] [0,1,2,3,4,5,6,7,8,9] mixed_ok (by kernel_rfl) ?_
     refine wpMix_q (v:=(.pointer (some ⟨g,0,none⟩))) rfl rfl (fun _ _ _ h=>h) HSB.out ⟨rfl,fun _ _=>by simp [go_sem]⟩ ?_
     refine wpMix_q (v:=(.pointer (some ⟨g,0,none⟩))) rfl rfl (fun _ _ _ h=>h) HSB.out ⟨rfl,fun _ _=>by simp [go_sem]⟩ ?_
     refine wpMix_q (v:=(.pointer (some ⟨g,2,none⟩))) rfl rfl (fun _ _ _ h=>h) HSB.out ⟨rfl,fun _ _=>by simp [go_sem]⟩ ?_
     refine wpMix_q (v:=(.map (some mc))) rfl rfl (fun _ _ _ h=>h) HSB.out ⟨rfl,fun _ h'=>by have a0:=(h'.cell (p:=⟨g,2,none⟩) HY.out.1.bg.lt).trans HY.out.2.2;simp [go_sem,a0]⟩ ?_
     refine wpMix_q (v:=(.pointer (some ⟨gb,0,none⟩))) rfl rfl (fun _ _ _ h=>h) HSB.out ⟨rfl,fun _ _=>by simp [go_sem]⟩ ?_
     refine wpMix_q (v:=(.int .i64 x1)) rfl rfl (fun _ _ _ h=>h) HSB.out ⟨rfl,fun _ h'=>by have a0:=(h'.cell (p:=⟨gb,0,none⟩) HY.out.2.1.lt).trans (HY.out.2.1.cell 0);simp only [List.getElem?_toArray,List.getElem?_cons_zero] at a0;simp [go_sem,a0]⟩ ?_
     simp only [List.getElem_toArray,List.getElem_cons_succ,List.getElem_cons_zero,Act.put,List.setIfInBounds_toArray,List.set_cons_succ,List.set_cons_zero]
     refine wpMix_q (v:=(.pointer (some ⟨gb,1,none⟩))) rfl rfl (fun _ _ _ h=>h) HSB.out ⟨rfl,fun _ _=>by simp [go_sem]⟩ ?_
     refine wpMix_q (v:=(.int .i64 x2)) rfl rfl (fun _ _ _ h=>h) HSB.out ⟨rfl,fun _ h'=>by have a1:=(h'.cell (p:=⟨gb,1,none⟩) HY.out.2.1.lt).trans (HY.out.2.1.cell 1);simp only [List.getElem?_toArray,List.getElem?_cons_zero,List.getElem?_cons_succ] at a1;simp [go_sem,a1]⟩ ?_
     simp only [List.getElem_toArray,List.getElem_cons_succ,List.getElem_cons_zero,Act.put,List.setIfInBounds_toArray,List.set_cons_succ,List.set_cons_zero]
     refine wpMix_n rfl rfl ?_
     go_wp2_with fail
     refine (HV.out.2.2.2 Y.drew).mono ?_
     rintro e W5 ⟨rfl,hB⟩
     have hS5:=(HY.out.1.below (Below.refl _ Y).drew).below hB
     obtain ⟨w6,hrun,hm6,hg6,hz6⟩:=hS5.mcr.update kfSE (t:=83) (e:=4) Tryz.underlying83 (by unfold maxLen;omega) p HV.out.2.2.1 (.bool true)
     rw [setK4_one,←HV.out.2.1] at hm6
     have H6:=hide (And.intro (HSB.out.trans hB) (hS5.upc hg6 hm6))
     clear hB hS5 hg6 hm6 hz6
     go_wp2_with fail
     refine ⟨fun _=>H6.out.1,?_⟩
     refine wpMix_tail _ [_] (by kernel_rfl) rfl ?_
     go_wp2
     go_roundw
     case rel=>exact ⟨j+1,n1+1,by omega,by go_num,H6.out.2,by omega⟩
     case measure=>(simp [intOf];try omega)
    ·obtain rfl:j=nc:=by omega
     have j1:¬(j:Int) < (j:Int):=by omega
     rw [List.take_of_length_le (by rw [←HK.out.2.2.2.2.2.2.2.2.2.1];exact Nat.le_refl _)] at hS
     have z3:V.cell? ⟨g1,3,none⟩=some (.slice Ao no oc):=hS.b1.cell 3
     have hgV:=hS.b1.lt
     have HB2:=hide hS
     clear hS hlt hj
     go_upto_region 13 with fail
     clear z3 hgV j1
     go_loopw [59] (fun iv wr=>∃(k n2:Nat),k≤no∧iv= .int .i64 k∧BegS w wr g1 g mc mo n1 n2 (cCtl Ap i cp At nt ct Ac j cc Ao no oc sn Ad nd dc) #[.slice At nt ct, .map (some mc), .map (some mo), .map none, .slice none 0 0, .map none, .map none] (.slice Ax i cx) i (c.points.map fun p=>plusP (0,0,0) p pw) (c.creases.map fun e=>nrmE e.1 e.2) (c.corners.take k)∧n2≤k) (fun iv _=>no - (intOf iv).toNat)
     case atStart=>exact ⟨0,0,by omega,rfl,by rw [List.take_zero];exact HB2.out,by omega⟩
     case round=>
      obtain ⟨k,n2,hk,rfl,hS,hn2⟩:=hrel
      obtain ⟨V,rfl⟩:∃x,x=wr:=⟨_,rfl⟩
      by_cases hlt:k < no
      ·have k1:(k:Int) < (no:Int):=by omega
       obtain ⟨x,hx⟩:∃x,c.corners[k]? =some x:=⟨_,List.getElem?_eq_getElem (by rw [←HK.out.2.2.2.2.2.2.2.2.2.2];exact hlt)⟩
       obtain ⟨bb,ob,hA,hbb,d0⟩:=(HK.out.2.2.2.1.o.below hS.bel).z1 hx
       subst hA
       have hbV:bb < V.heap.size:=Nat.lt_of_lt_of_le hbb hS.bel.size
       obtain ⟨w6,hrun,hm6,hg6,hz6⟩:=hS.mco.update kfI9 (t:=84) (e:=4) Tryz.underlying84 (by unfold maxLen;omega) x (HK.out.2.2.2.2.2.1 x (List.mem_of_getElem? hx)) (.bool true)
       rw [setK4_oneZ,←take_at hx] at hm6
       have z3:V.cell? ⟨g,3,none⟩=some (.map (some mo)):=hS.bg.cell 3
       have hgV:=hS.bg.lt
       have H6:=hide (hS.upo hg6 hm6)
       clear hS hx hbb hm6 hg6 hz6
       go_wp2
       go_roundw
       case rel=>exact ⟨k+1,n2+1,by omega,by go_num,H6.out,by omega⟩
       case measure=>(simp [intOf];try omega)
      ·obtain rfl:k=no:=by omega
       have k1:¬(k:Int) < (k:Int):=by omega
       rw [List.take_of_length_le (by rw [←HK.out.2.2.2.2.2.2.2.2.2.2];exact Nat.le_refl _)] at hS
       have HB3:=hide hS
       clear hS hlt hk
       go_wp2
       go_ret
       obtain ⟨_,_,_,hm,_,_,hbp,hnp,hnt,_,_⟩:=HK.out
       have hS:=HB3.out
       rw [←hbp] at hS
       have hbg:=hS.bg
       have hop:=hS.op
       have hl:=hop.1
       rw [hl] at hbg hop
       rw [hnt] at hbg
       refine ⟨g,Ax,cx,mc,mo,rfl,hS.le.2.1,⟨hbg,hop,(hm.t.below hS.bel).more hS.bel.size,⟨_,hS.mcr.same (setK4_ext fun q=> ?_)⟩,⟨_,hS.mco⟩⟩,hS.bel⟩
       rw [List.mem_map]
       show _ ↔ q∈setE c.creases
       rw [setE_mem]
       exact exists_congr fun f=>and_congr_right fun _=>eq_comm
end Go.Proofs.YtmemofonebphfaaGreat
namespace Go.Proofs.YtmemofonebphfaaGreat
open Go.RowKit Go.Sort Go.WideMaps Go.Maps
def outB (lo hi:Int) (p:Pt):Bool:=decide (min (min p.1 p.2.1) p.2.2 < lo∨hi < max (max p.1 p.2.1) p.2.2)
theorem outR_any (lo hi:Int) (l:List Pt):l.any (outB lo hi)=outR lo hi l:=rfl
set_option maxRecDepth 100000 in
set_option maxHeartbeats 16000000 in
theorem outP_any (gl gh:Nat) (lo hi:Int) (p:Pt) (w:World) (hl:Blk w gl 3 #[.int .i64 lo]) (hh:Blk w gh 3 #[.int .i64 hi]):
  Calls Tryz.prog 84 #[vP p, .pointer (some ⟨gl,0,none⟩), .pointer (some ⟨gh,0,none⟩)] w fun e w'=>e= .returned (.bool (outB lo hi p))∧Below w.heap.size w w':=by
 obtain ⟨p1,p2,p3⟩:=p
 obtain ⟨X,hX⟩:∃W,W=w.alloc (.cells #[.int .i64 p1, .int .i64 p2, .int .i64 p3] 43):=⟨_,rfl⟩
 obtain ⟨g,hg⟩:∃n,n=w.heap.size:=⟨_,rfl⟩
 have hB:Below w.heap.size w X:=by rw [hX];exact (Below.refl _ w).alloc (Nat.le_refl _) _
 have hb:Blk X g 43 #[.int .i64 p1, .int .i64 p2, .int .i64 p3]:=by rw [hX,hg];exact Blk.new _ _ _
 have y0:X.cell? ⟨gl,0,none⟩=some (.int .i64 lo):=(hl.below hB hl.lt).cell 0
 have y1:X.cell? ⟨gh,0,none⟩=some (.int .i64 hi):=(hh.below hB hh.lt).cell 0
 have k0:=(hl.below hB hl.lt).lt
 have k1:=(hh.below hB hh.lt).lt
 obtain ⟨z0,z1,z2⟩:=hb.three
 have k2:=hb.lt
 have HB:=hide hB
 clear hl hh hB hb
 go_enter Tryz.func84,Tryz.ntmps84
 go_upto_region 1 with fail
 rw [←hX,←hg]
 clear hX hg
 go_wp2
 all_goals
  go_ret
  refine ⟨?_,HB.out⟩
  first
  | exact congrArg (fun b=>Ending.returned (.bool b)) (decide_eq_true (show min (min p1 p2) p3 < lo∨hi < max (max p1 p2) p3 by omega)).symm
  | exact congrArg (fun b=>Ending.returned (.bool b)) (decide_eq_false (show¬(min (min p1 p2) p3 < lo∨hi < max (max p1 p2) p3) by omega)).symm
  | exact congrArg (fun b=>Ending.returned (.bool b)) ((Bool.decide_or _ _).symm.trans (decide_eq_decide.2 (show _ ↔ min (min p1 p2) p3 < lo∨hi < max (max p1 p2) p3 by omega)))
  | exact congrArg (fun b=>Ending.returned (.bool b)) (decide_eq_decide.2 (show _ ↔ min (min p1 p2) p3 < lo∨hi < max (max p1 p2) p3 by omega))
end Go.Proofs.YtmemofonebphfaaGreat
namespace Go.Proofs.YtmemofonebphfaaGreat
open Go.RowKit Go.Sort Go.WideMaps Go.Maps Go.Shelf
def IdxR (b:Bool) (e:Ending):Prop:=∃k:Int,e= .returned (.int .i64 k)∧(b=true ↔ 0≤k)
theorem any_take {α:Type} {l:List α} {i:Nat} {x:α} (h:l[i]? =some x) (pr:α→Bool):(l.take (i+1)).any pr=((l.take i).any pr || pr x):=by
 rw [take_at h,List.any_append]
 simp
set_option maxRecDepth 100000 in
set_option maxHeartbeats 16000000 in
theorem idxP_any (A:Option Addr) (c:Nat) (l:List Pt) (w:World) (hs:Sl encP 3 w w.heap.size A l) (hl:l.length≤4000000000) (f:FuncId) (binds:Array Value) (pr:Pt→Bool) (hent:∀(args:Array Value) (W:World),(callFunc f args).run Tryz.prog W= .ok (.enter f args) W)
  (hp:∀W,Below w.heap.size w W→∀x∈l,Calls Tryz.prog f (#[vP x]++binds) W fun e w'=>e= .returned (.bool (pr x))∧Below W.heap.size W w'):
  Calls Tryz.prog 112 #[.slice A l.length c, .func (.func f) #[] binds] w fun e w'=>IdxR (l.any pr) e∧Below w.heap.size w w':=by
 obtain ⟨N,hN⟩:∃n,n=l.length:=⟨_,rfl⟩
 rw [←hN] at hl⊢
 have HK:=hide (And.intro hs (And.intro hent (And.intro hp hN)))
 clear hs hent hp hN
 go_enter Tryz.func112,Tryz.ntmps112
 go_upto_region 2 with fail
 go_loopw [8] (fun iv wr=>∃i:Nat,i≤N∧iv= .int .i64 i∧(l.take i).any pr=false∧Below w.heap.size w wr) (fun iv _=>N - (intOf iv).toNat)
 case atStart=>exact ⟨0,by omega,rfl,by rw [List.take_zero];rfl,Below.refl _ _⟩
 case round=>
  obtain ⟨i,hi,rfl,ha,hB⟩:=hrel
  obtain ⟨V,rfl⟩:∃x,x=wr:=⟨_,rfl⟩
  by_cases hlt:i < N
  ·have i1:(i:Int) < (N:Int):=by omega
   obtain ⟨x,hx⟩:∃x,l[i]? =some x:=⟨_,List.getElem?_eq_getElem (by rw [←HK.out.2.2.2];exact hlt)⟩
   obtain ⟨bb,ob,hA,hbb,d0,d1,d2⟩:=(HK.out.1.below hB).pt9 hx
   subst hA
   have hbV:bb < V.heap.size:=Nat.lt_of_lt_of_le hbb hB.size
   have hc:=HK.out.2.2.1 V hB x (List.mem_of_getElem? hx)
   have htk:=any_take hx pr
   have hmem:=List.mem_of_getElem? hx
   obtain ⟨x1,x2,x3⟩:=x
   simp only at d0 d1 d2
   obtain ⟨b,hb⟩:∃b,b=pr (x1,x2,x3):=⟨_,rfl⟩
   rw [←hb] at hc htk
   have HV:=hide (And.intro ha (And.intro hB (And.intro hc (And.intro htk (And.intro hmem hb)))))
   clear ha hB hc htk hx hbb hmem hb
   go_wp2_with fail
   rw [HK.out.2.1,Oper.upon_enter]
   refine HV.out.2.2.1.mono ?_
   rintro e W1 ⟨rfl,hB1⟩
   have H1:=hide (HV.out.2.1.trans (hB1.mono HV.out.2.1.size))
   clear hB1
   cases b with
   | true=>
    have HR:=hide (show l.any pr=true from List.any_eq_true.2 ⟨_,HV.out.2.2.2.2.1,HV.out.2.2.2.2.2.symm⟩)
    go_wp2_with fail
    go_ret
    exact ⟨⟨i,rfl,fun _=>by omega,fun _=>HR.out⟩,H1.out⟩
   | false=>
    go_wp2_with fail
    go_roundw
    case rel=>exact ⟨i+1,by omega,by go_num,by rw [HV.out.2.2.2.1,HV.out.1];rfl,H1.out⟩
    case measure=>(simp [intOf];try omega)
  ·obtain rfl:i=N:=by omega
   have i1:¬(i:Int) < (i:Int):=by omega
   rw [List.take_of_length_le (by rw [←HK.out.2.2.2];exact Nat.le_refl _)] at ha
   have HV:=hide (And.intro ha hB)
   clear ha hB
   go_wp2
   go_ret
   exact ⟨⟨-1,rfl,Iff.intro (fun h=>absurd (HV.out.1.symm.trans h) (by decide)) (fun h=>absurd h (by decide))⟩,HV.out.2⟩
set_option maxRecDepth 100000 in
set_option maxHeartbeats 16000000 in
theorem contP_any (A:Option Addr) (c:Nat) (l:List Pt) (w:World) (hs:Sl encP 3 w w.heap.size A l) (hl:l.length≤4000000000) (f:FuncId) (binds:Array Value) (pr:Pt→Bool) (hent:∀(args:Array Value) (W:World),(callFunc f args).run Tryz.prog W= .ok (.enter f args) W)
  (hp:∀W,Below w.heap.size w W→∀x∈l,Calls Tryz.prog f (#[vP x]++binds) W fun e w'=>e= .returned (.bool (pr x))∧Below W.heap.size W w'):
  Calls Tryz.prog 83 #[.slice A l.length c, .func (.func f) #[] binds] w fun e w'=>e= .returned (.bool (l.any pr))∧Below w.heap.size w w':=by
 have HK:=hide (idxP_any A c l w hs hl f binds pr hent hp)
 clear hs hl hent hp
 go_enter Tryz.func83,Tryz.ntmps83
 obtain ⟨b,hb⟩:∃b,b=l.any pr:=⟨_,rfl⟩
 rw [←hb]
 rw [←hb] at HK
 clear hb
 go_wp2_with (go_at_call 112;refine HK.out.mono ?_;rintro e W1 ⟨⟨k,rfl,hk⟩,hB⟩;have H1:=hide (And.intro hk hB);clear hk hB)
 go_ret
 refine ⟨?_,H1.out.2⟩
 cases b with
 | true=>
  have:=H1.out.1.1 rfl
  exact congrArg (fun b=>Ending.returned (.bool b)) (decide_eq_true this)
 | false=>
  have:¬0≤k:=fun h=>by have:=H1.out.1.2 h;cases this
  exact congrArg (fun b=>Ending.returned (.bool b)) (decide_eq_false this)
set_option maxRecDepth 100000 in
set_option maxHeartbeats 16000000 in
theorem idxE_any (A:Option Addr) (c:Nat) (l:List E2) (w:World) (hs:Sl encE2 2 w w.heap.size A l) (hl:l.length≤4000000000) (f:FuncId) (binds:Array Value) (pr:E2→Bool) (hent:∀(args:Array Value) (W:World),(callFunc f args).run Tryz.prog W= .ok (.enter f args) W)
  (hp:∀W,Below w.heap.size w W→∀x∈l,Calls Tryz.prog f (#[vE2 x]++binds) W fun e w'=>e= .returned (.bool (pr x))∧Below W.heap.size W w'):
  Calls Tryz.prog 101 #[.slice A l.length c, .func (.func f) #[] binds] w fun e w'=>IdxR (l.any pr) e∧Below w.heap.size w w':=by
 obtain ⟨N,hN⟩:∃n,n=l.length:=⟨_,rfl⟩
 rw [←hN] at hl⊢
 have HK:=hide (And.intro hs (And.intro hent (And.intro hp hN)))
 clear hs hent hp hN
 go_enter Tryz.func101,Tryz.ntmps101
 go_upto_region 2 with fail
 go_loopw [8] (fun iv wr=>∃i:Nat,i≤N∧iv= .int .i64 i∧(l.take i).any pr=false∧Below w.heap.size w wr) (fun iv _=>N - (intOf iv).toNat)
 case atStart=>exact ⟨0,by omega,rfl,by rw [List.take_zero];rfl,Below.refl _ _⟩
 case round=>
  obtain ⟨i,hi,rfl,ha,hB⟩:=hrel
  obtain ⟨V,rfl⟩:∃x,x=wr:=⟨_,rfl⟩
  by_cases hlt:i < N
  ·have i1:(i:Int) < (N:Int):=by omega
   obtain ⟨x,hx⟩:∃x,l[i]? =some x:=⟨_,List.getElem?_eq_getElem (by rw [←HK.out.2.2.2];exact hlt)⟩
   obtain ⟨bb,ob,hA,hbb,d0,d1⟩:=(HK.out.1.below hB).e2 hx
   subst hA
   have hbV:bb < V.heap.size:=Nat.lt_of_lt_of_le hbb hB.size
   have hc:=HK.out.2.2.1 V hB x (List.mem_of_getElem? hx)
   have htk:=any_take hx pr
   have hmem:=List.mem_of_getElem? hx
   obtain ⟨x1,x2⟩:=x
   simp only at d0 d1
   obtain ⟨b,hb⟩:∃b,b=pr (x1,x2):=⟨_,rfl⟩
   rw [←hb] at hc htk
   have HV:=hide (And.intro ha (And.intro hB (And.intro hc (And.intro htk (And.intro hmem hb)))))
   clear ha hB hc htk hx hbb hmem hb
   go_wp2_with fail
   rw [HK.out.2.1,Oper.upon_enter]
   refine HV.out.2.2.1.mono ?_
   rintro e W1 ⟨rfl,hB1⟩
   have H1:=hide (HV.out.2.1.trans (hB1.mono HV.out.2.1.size))
   clear hB1
   cases b with
   | true=>
    have HR:=hide (show l.any pr=true from List.any_eq_true.2 ⟨_,HV.out.2.2.2.2.1,HV.out.2.2.2.2.2.symm⟩)
    go_wp2_with fail
    go_ret
    exact ⟨⟨i,rfl,fun _=>by omega,fun _=>HR.out⟩,H1.out⟩
   | false=>
    go_wp2_with fail
    go_roundw
    case rel=>exact ⟨i+1,by omega,by go_num,by rw [HV.out.2.2.2.1,HV.out.1];rfl,H1.out⟩
    case measure=>(simp [intOf];try omega)
  ·obtain rfl:i=N:=by omega
   have i1:¬(i:Int) < (i:Int):=by omega
   rw [List.take_of_length_le (by rw [←HK.out.2.2.2];exact Nat.le_refl _)] at ha
   have HV:=hide (And.intro ha hB)
   clear ha hB
   go_wp2
   go_ret
   exact ⟨⟨-1,rfl,Iff.intro (fun h=>absurd (HV.out.1.symm.trans h) (by decide)) (fun h=>absurd h (by decide))⟩,HV.out.2⟩
set_option maxRecDepth 100000 in
set_option maxHeartbeats 16000000 in
theorem contE_any (A:Option Addr) (c:Nat) (l:List E2) (w:World) (hs:Sl encE2 2 w w.heap.size A l) (hl:l.length≤4000000000) (f:FuncId) (binds:Array Value) (pr:E2→Bool) (hent:∀(args:Array Value) (W:World),(callFunc f args).run Tryz.prog W= .ok (.enter f args) W)
  (hp:∀W,Below w.heap.size w W→∀x∈l,Calls Tryz.prog f (#[vE2 x]++binds) W fun e w'=>e= .returned (.bool (pr x))∧Below W.heap.size W w'):
  Calls Tryz.prog 74 #[.slice A l.length c, .func (.func f) #[] binds] w fun e w'=>e= .returned (.bool (l.any pr))∧Below w.heap.size w w':=by
 have HK:=hide (idxE_any A c l w hs hl f binds pr hent hp)
 clear hs hl hent hp
 go_enter Tryz.func74,Tryz.ntmps74
 obtain ⟨b,hb⟩:∃b,b=l.any pr:=⟨_,rfl⟩
 rw [←hb]
 rw [←hb] at HK
 clear hb
 go_wp2_with (go_at_call 101;refine HK.out.mono ?_;rintro e W1 ⟨⟨k,rfl,hk⟩,hB⟩;have H1:=hide (And.intro hk hB);clear hk hB)
 go_ret
 refine ⟨?_,H1.out.2⟩
 cases b with
 | true=>
  have:=H1.out.1.1 rfl
  exact congrArg (fun b=>Ending.returned (.bool b)) (decide_eq_true this)
 | false=>
  have:¬0≤k:=fun h=>by have:=H1.out.1.2 h;cases this
  exact congrArg (fun b=>Ending.returned (.bool b)) (decide_eq_false this)
theorem ent_out (args:Array Value) (W:World):(callFunc 84 args).run Tryz.prog W= .ok (.enter 84 args) W:=
 enters_of Tryz.func84 (by kernel_rfl) rfl args W
set_option maxRecDepth 100000 in
set_option maxHeartbeats 16000000 in
theorem inRange_any (A:Option Addr) (c:Nat) (l:List Pt) (lo hi:Int) (w:World) (hs:Sl encP 3 w w.heap.size A l) (hl:l.length≤4000000000):
  Calls Tryz.prog 49 #[.slice A l.length c, .int .i64 lo, .int .i64 hi] w fun e w'=>e= .returned (.bool (!outR lo hi l))∧Below w.heap.size w w':=by
 obtain ⟨X,hX⟩:∃W,W=(w.alloc (.cells #[.int .i64 lo] 3)).alloc (.cells #[.int .i64 hi] 3):=⟨_,rfl⟩
 obtain ⟨gl,hgl⟩:∃n,n=w.heap.size:=⟨_,rfl⟩
 obtain ⟨gh,hgh⟩:∃n,n=w.heap.size+1:=⟨_,rfl⟩
 have hB:Below w.heap.size w X:=by rw [hX];exact ((Below.refl _ w).alloc (Nat.le_refl _) _).alloc (by simp) _
 have hbl:Blk X gl 3 #[.int .i64 lo]:=by rw [hX,hgl];exact (Blk.new _ _ _).alloc _
 have hbh:Blk X gh 3 #[.int .i64 hi]:=by rw [hX,hgh];exact Blk.new' _ _ _ _ (by simp)
 have hc:=contP_any A c l X ((hs.below hB).more hB.size) hl 84 #[.pointer (some ⟨gl,0,none⟩), .pointer (some ⟨gh,0,none⟩)] (outB lo hi) ent_out (fun W hW x _=>outP_any gl gh lo hi x W (hbl.below hW hbl.lt) (hbh.below hW hbh.lt))
 rw [outR_any] at hc
 obtain ⟨b,hb⟩:∃b,b=outR lo hi l:=⟨_,rfl⟩
 rw [←hb] at hc⊢
 obtain ⟨n,hn⟩:∃n,n=l.length:=⟨_,rfl⟩
 rw [←hn] at hc⊢
 have HC:=hide (And.intro hc hB)
 clear hc hb hn hs hl hB hbl hbh
 go_enter Tryz.func49,Tryz.ntmps49
 go_upto_region 1 with fail
 rw [←hX,←hgh,←hgl]
 clear hX hgl hgh
 go_wp2_with (go_at_call 83;refine HC.out.1.mono ?_;rintro e W1 ⟨rfl,hB⟩;have H1:=hide (HC.out.2.trans (hB.mono HC.out.2.size));clear hB)
 go_ret
 exact ⟨rfl,H1.out⟩
end Go.Proofs.YtmemofonebphfaaGreat
namespace Go.Proofs.YtmemofonebphfaaGreat
open Go.RowKit Go.Sort Go.WideMaps Go.Maps Go.Shelf
theorem all_take {α:Type} {l:List α} {i:Nat} {x:α} (h:l[i]? =some x) (pr:α→Bool):(l.take (i+1)).all pr=((l.take i).all pr && pr x):=by
 rw [take_at h,List.all_append]
 simp
theorem all_out (np:Nat) (l:List Int):l.all (okI np)= !outE np l:=by
 cases h:outE np l with
 | true=>
  refine Bool.eq_false_iff.2 fun h2=> ?_
  rw [outE_all (fun i hi=>List.all_eq_true.1 h2 i hi)] at h
  cases h
 | false=>exact List.all_eq_true.2 fun i hi=>okI_iff.2 (outE_no h i hi)
theorem bool_noint (b:Bool):NoInt #[Value.bool b]:=fun off k n=>by
 have hc:off=0∨1≤off:=by omega
 rcases hc with rfl | h
 ·simp
 ·rw [Array.getElem?_eq_none (by simpa using h)];simp
theorem Sl.bool9 {w W:World} {B gk:Nat} {A:Option Addr} {l:List Int} {b:Bool} (h:Sl encZ9 1 w B A l) (hk:Blk w gk 4 #[.bool b]) (hg:w.grownBy W (some gk)) (hB:B≤w.heap.size):Sl encZ9 1 W B A l:=
 h.grownI hk (fun x _ u hu off=>by
  have hu:u∈ [Value.int .i64 x]:=hu
  rw [List.mem_singleton] at hu
  subst hu
  exact bool_noint b off _ _) hg hB
structure KnS (w W:World) (g1 gk:Nat) (ctl:Array Value) (b:Bool):Prop where
 bel:Below w.heap.size w W
 b1:Blk W g1 32 ctl
 bk:Blk W gk 4 #[.bool b]
 le:w.heap.size≤g1∧w.heap.size≤gk∧g1≠gk
section
variable {w W W':World} {g1 gk:Nat} {ctl:Array Value} {b b':Bool}
theorem KnS.below (h:KnS w W g1 gk ctl b) (hB:Below W.heap.size W W'):KnS w W' g1 gk ctl b:=
 ⟨h.bel.trans (hB.mono h.bel.size),h.b1.below hB h.b1.lt,h.bk.below hB h.bk.lt,h.le⟩
theorem KnS.up (h:KnS w W g1 gk ctl b) (hg:W.grownBy W' (some gk)) (hb:Blk W' gk 4 #[.bool b']):KnS w W' g1 gk ctl b':=
 ⟨h.bel.trans (grown_bel hg h.le.2.1 h.bel.size),h.b1.grown hg (fun e=>h.le.2.2 (Option.some.inj e)),hb,h.le⟩
end
set_option maxRecDepth 100000 in
set_option maxHeartbeats 32000000 in
theorem check1_any (Ap At Ac Ao Ad:Option Addr) (np cp nt ct nc cc no oc nd dc:Nat) (st:Int) (A:Option Addr) (c:Nat) (l:List Int) (g1 gk:Nat) (b:Bool) (w:World) (hs:Sl encZ9 1 w w.heap.size A l) (hl:l.length≤1000000) (hne:g1≠gk) (hk:Blk w gk 4 #[.bool b]) (h1:Blk w g1 32 (cCtl Ap np cp At nt ct Ac nc cc Ao no oc st Ad nd dc)):
  Calls Tryz.prog 100 #[.slice A l.length c, .pointer (some ⟨gk,0,none⟩), .pointer (some ⟨g1,0,none⟩)] w fun e w'=>e= .returned (.tuple #[])∧Blk w' gk 4 #[.bool (b && l.all (okI np))]∧w.grownBy w' (some gk):=by
 obtain ⟨N,hN⟩:∃n,n=l.length:=⟨_,rfl⟩
 rw [←hN] at hl⊢
 have HK:=hide (And.intro hs (And.intro hk (And.intro h1 (And.intro hne hN))))
 clear hs hk h1 hne hN
 go_enter Tryz.func100,Tryz.ntmps100
 go_upto_region 1 with fail
 go_loopw [8] (fun iv wr=>∃i:Nat,i≤N∧iv= .int .i64 i∧Blk wr gk 4 #[.bool (b && (l.take i).all (okI np))]∧w.grownBy wr (some gk)) (fun iv _=>N - (intOf iv).toNat)
 case atStart=>exact ⟨0,by omega,rfl,by rw [List.take_zero,List.all_nil,Bool.and_true];exact HK.out.2.1,⟨rfl,rfl,rfl,Nat.le_refl _,fun _ _ _=>rfl⟩⟩
 case round=>
  obtain ⟨i,hi,rfl,hb,hG⟩:=hrel
  obtain ⟨V,rfl⟩:∃x,x=wr:=⟨_,rfl⟩
  by_cases hlt:i < N
  ·have i1:(i:Int) < (N:Int):=by omega
   obtain ⟨n,hn⟩:∃x,l[i]? =some x:=⟨_,List.getElem?_eq_getElem (by rw [←HK.out.2.2.2.2];exact hlt)⟩
   obtain ⟨bb,ob,hA,hbb,d0⟩:=(HK.out.1.bool9 HK.out.2.1 hG (Nat.le_refl _)).z1 hn
   subst hA
   have hbV:bb < V.heap.size:=Nat.lt_of_lt_of_le hbb hG.size
   have htk:=all_take hn (okI np)
   have h1:=HK.out.2.2.1.grown hG (fun e=>HK.out.2.2.2.1 (Option.some.inj e))
   have z0:V.cell? ⟨g1,0,none⟩=some (.slice Ap np cp):=h1.cell 0
   have hg1V:=h1.lt
   obtain ⟨b2,hb2⟩:∃x,x=(b && (l.take i).all (okI np)):=⟨_,rfl⟩
   have htk2:(b && (l.take (i+1)).all (okI np))=(b2 && okI np n):=by rw [htk,hb2,Bool.and_assoc]
   rw [←hb2] at hb
   have k0:V.cell? ⟨gk,0,none⟩=some (.bool b2):=hb.cell 0
   have f0:=hb.frozen 0
   have hgkV:=hb.lt
   have HV:=hide (And.intro hb (And.intro hG htk2))
   clear hb hG htk htk2 hn hbb h1 hb2
   cases b2 with
   | false=>
    have HR:=hide (show (false && okI np n)=false from rfl)
    go_wp2
    go_roundw
    case rel=>exact ⟨i+1,by omega,by go_num,by rw [HV.out.2.2,HR.out];exact HV.out.1.set_ 0 (.bool false),HV.out.2.1.trans (grown_set9 _ gk 0 _)⟩
    case measure=>(simp [intOf];try omega)
   | true=>
    by_cases h0:0≤n
    ·by_cases hn:n < (np:Int)
     ·have HR:=hide (show (true && okI np n)=true by simp [okI,h0,hn])
      go_wp2
      go_roundw
      case rel=>exact ⟨i+1,by omega,by go_num,by rw [HV.out.2.2,HR.out];exact HV.out.1.set_ 0 (.bool true),HV.out.2.1.trans (grown_set9 _ gk 0 _)⟩
      case measure=>(simp [intOf];try omega)
     ·have HR:=hide (show (true && okI np n)=false by simp [okI,hn])
      go_wp2
      go_roundw
      case rel=>exact ⟨i+1,by omega,by go_num,by rw [HV.out.2.2,HR.out];exact HV.out.1.set_ 0 (.bool false),HV.out.2.1.trans (grown_set9 _ gk 0 _)⟩
      case measure=>(simp [intOf];try omega)
    ·have HR:=hide (show (true && okI np n)=false by simp [okI,h0])
     go_wp2
     go_roundw
     case rel=>exact ⟨i+1,by omega,by go_num,by rw [HV.out.2.2,HR.out];exact HV.out.1.set_ 0 (.bool false),HV.out.2.1.trans (grown_set9 _ gk 0 _)⟩
     case measure=>(simp [intOf];try omega)
  ·obtain rfl:i=N:=by omega
   have i1:¬(i:Int) < (i:Int):=by omega
   rw [List.take_of_length_le (by rw [←HK.out.2.2.2.2];exact Nat.le_refl _)] at hb
   have HV:=hide (And.intro hb hG)
   clear hb hG
   go_wp2
   go_end0
   exact ⟨rfl,HV.out⟩
theorem kn_bad (c:Ctl):((corsN c.tris).all (okI c.points.length) && ((c.creases.flatMap fun e=> [e.1,e.2]).all (okI c.points.length)) && c.corners.all (okI c.points.length))= !badIx c:=by
 unfold badIx
 rw [all_out,all_out,all_out,Bool.not_or,Bool.not_or]
theorem corsN_take {t:List Pt} {i:Nat} {x:Pt} (h:t[i]? =some x):corsN (t.take (i+1))=corsN (t.take i)++ [x.1,x.2.1,x.2.2]:=by
 unfold corsN
 rw [take_at h,List.flatMap_append,List.flatMap_singleton]
 rfl
theorem flat_take {l:List E2} {i:Nat} {x:E2} (h:l[i]? =some x):((l.take (i+1)).flatMap fun e=> [e.1,e.2])=((l.take i).flatMap fun e=> [e.1,e.2])++ [x.1,x.2]:=by
 rw [take_at h,List.flatMap_append,List.flatMap_singleton]
theorem sl_blk {w:World} {gb:Nat} {t:TypeId} {l:List Int} {cs:Array Value} (hb:Blk w gb t cs) (hcs:cs=(l.map fun n=>Value.int .i64 n).toArray):Sl encZ9 1 w w.heap.size (some ⟨gb,0,none⟩) l:=by
 refine .inr ⟨gb,0,rfl,hb.lt,fun j x hx q u hu=> ?_⟩
 have hu2:q=0∧u= .int .i64 x:=by
  match q,hu with
  | 0,hu=>exact ⟨rfl,by simpa [encZ9] using hu.symm⟩
  | q+1,hu=>simp [encZ9] at hu
 obtain ⟨rfl,rfl⟩:=hu2
 rw [Nat.zero_add,Nat.mul_one,Nat.add_zero,hb.cell,hcs,List.getElem?_toArray,List.getElem?_map,hx]
 rfl
set_option maxRecDepth 100000 in
set_option maxHeartbeats 32000000 in
theorem known_any (Ap At Ac Ao Ad:Option Addr) (cp ct cc oc nd dc:Nat) (c:Ctl) (w:World) (hm:CtlM w w.heap.size Ap At Ac Ao Ad c) (hb:CtlB c):
  Calls Tryz.prog 72 #[vCtl Ap c.points.length cp At c.tris.length ct Ac c.creases.length cc Ao c.corners.length oc c.steps Ad nd dc] w fun e w'=>e= .returned (.bool (!badIx c))∧Below w.heap.size w w':=by
 rw [←kn_bad]
 obtain ⟨np,hnp⟩:∃n,n=c.points.length:=⟨_,rfl⟩
 obtain ⟨nt,hnt⟩:∃n,n=c.tris.length:=⟨_,rfl⟩
 obtain ⟨nc,hnc⟩:∃n,n=c.creases.length:=⟨_,rfl⟩
 obtain ⟨no,hno⟩:∃n,n=c.corners.length:=⟨_,rfl⟩
 obtain ⟨st,hst⟩:∃s,s=c.steps:=⟨_,rfl⟩
 have htl:nt≤100000:=by rw [hnt];exact hb.t
 have hcl:nc≤100000:=by rw [hnc];exact hb.cr
 have hol:no≤100000:=by rw [hno];exact hb.o
 rw [←hnp,←hnt,←hnc,←hno,←hst]
 obtain ⟨b9,hb9⟩:∃b,b=((corsN c.tris).all (okI np) && (c.creases.flatMap fun e=> [e.1,e.2]).all (okI np) && c.corners.all (okI np)):=⟨_,rfl⟩
 rw [←hb9]
 have HR9:=hide hb9
 clear hb9
 have kc:=check1_any Ap At Ac Ao Ad np cp nt ct nc cc no oc nd dc st
 have HK:=hide (And.intro hm (And.intro kc (And.intro hnt (And.intro hnc hno))))
 clear hm hb kc hnp hnt hnc hno hst
 go_enter Tryz.func72,Tryz.ntmps72
 go_upto_region 3 with fail
 obtain ⟨g1,hg1⟩:∃n,n=w.heap.size:=⟨_,rfl⟩
 obtain ⟨gk,hgk⟩:∃n,n=w.heap.size+1:=⟨_,rfl⟩
 obtain ⟨X,hX⟩:∃W,W=(w.alloc (.cells (cCtl Ap np cp At nt ct Ac nc cc Ao no oc st Ad nd dc) 32)).alloc (.cells #[.bool true] 4):=⟨_,rfl⟩
 rw [←hX,←hgk,←hg1]
 have hS0:KnS w X g1 gk (cCtl Ap np cp At nt ct Ac nc cc Ao no oc st Ad nd dc) true:=by
  rw [hX,hg1,hgk]
  exact ⟨((Below.refl _ w).alloc (Nat.le_refl _) _).alloc (by simp) _,(Blk.new _ _ _).alloc _,Blk.new' _ _ _ _ (by simp),by omega⟩
 have HS0:=hide hS0
 have z1:X.cell? ⟨g1,1,none⟩=some (.slice At nt ct):=hS0.b1.cell 1
 have hgX:=hS0.b1.lt
 clear hS0 hX hg1 hgk
 go_upto_region 4 with fail
 clear z1 hgX
 go_loopw [13] (fun iv wr=>∃i:Nat,i≤nt∧iv= .int .i64 i∧KnS w wr g1 gk (cCtl Ap np cp At nt ct Ac nc cc Ao no oc st Ad nd dc) ((corsN (c.tris.take i)).all (okI np))) (fun iv _=>nt - (intOf iv).toNat)
 case atStart=>exact ⟨0,by omega,rfl,by rw [List.take_zero];exact HS0.out⟩
 case round=>
  obtain ⟨i,hi,rfl,hS⟩:=hrel
  obtain ⟨V,rfl⟩:∃x,x=wr:=⟨_,rfl⟩
  by_cases hlt:i < nt
  ·have i1:(i:Int) < (nt:Int):=by omega
   obtain ⟨x,hx⟩:∃x,c.tris[i]? =some x:=⟨_,List.getElem?_eq_getElem (by rw [←HK.out.2.2.1];exact hlt)⟩
   obtain ⟨bb,ob,hA,hbb,d0,d1,d2⟩:=(HK.out.1.t.below hS.bel).n3 hx
   subst hA
   have hbV:bb < V.heap.size:=Nat.lt_of_lt_of_le hbb hS.bel.size
   have htk:=corsN_take hx
   obtain ⟨x1,x2,x3⟩:=x
   simp only at d0 d1 d2
   have HV:=hide (And.intro hS htk)
   clear hS htk hx hbb
   go_upto_region 6 with fail
   obtain ⟨gb,hgb⟩:∃n,n=V.heap.size:=⟨_,rfl⟩
   obtain ⟨Y,hY⟩:∃W,W=V.alloc (.cells #[.int .i64 x1, .int .i64 x2, .int .i64 x3] 35):=⟨_,rfl⟩
   have hSY:=HV.out.1.below (show Below V.heap.size V Y by rw [hY];exact (Below.refl _ V).alloc (Nat.le_refl _) _)
   have hKY:Blk Y gb 35 #[.int .i64 x1, .int .i64 x2, .int .i64 x3]:=by rw [hY,hgb];exact Blk.new _ _ _
   rw [←hY,←hgb]
   have hgbY:=hKY.lt
   have HY:=hide (And.intro hSY (sl_blk (l:= [x1,x2,x3]) hKY rfl))
   clear hSY hKY hY hgb d0 d1 d2 hbV
   go_upto_region 7 with (go_at_call 100;refine (HK.out.2.1 (some ⟨gb,0,none⟩) 3 [x1,x2,x3] g1 gk _ Y HY.out.2 (by simp) HY.out.1.le.2.2 HY.out.1.bk HY.out.1.b1).mono ?_;rintro e W1 ⟨rfl,hb,hg⟩;have H1:=hide (HY.out.1.up hg hb);clear hb hg)
   go_wp2
   go_roundw
   case rel=>exact ⟨i+1,by omega,by go_num,by rw [HV.out.2,List.all_append];exact H1.out⟩
   case measure=>(simp [intOf];try omega)
  ·obtain rfl:i=nt:=by omega
   have i1:¬(i:Int) < (i:Int):=by omega
   rw [List.take_of_length_le (by rw [←HK.out.2.2.1];exact Nat.le_refl _)] at hS
   have z2:V.cell? ⟨g1,2,none⟩=some (.slice Ac nc cc):=hS.b1.cell 2
   have hgV:=hS.b1.lt
   have HB:=hide hS
   clear hS hlt hi
   go_upto_region 9 with fail
   clear z2 hgV i1
   go_loopw [24] (fun iv wr=>∃j:Nat,j≤nc∧iv= .int .i64 j∧KnS w wr g1 gk (cCtl Ap np cp At i ct Ac nc cc Ao no oc st Ad nd dc) ((corsN c.tris).all (okI np) && ((c.creases.take j).flatMap fun e=> [e.1,e.2]).all (okI np))) (fun iv _=>nc - (intOf iv).toNat)
   case atStart=>exact ⟨0,by omega,rfl,by rw [List.take_zero,List.flatMap_nil,List.all_nil,Bool.and_true];exact HB.out⟩
   case round=>
    obtain ⟨j,hj,rfl,hS⟩:=hrel
    obtain ⟨V,rfl⟩:∃x,x=wr:=⟨_,rfl⟩
    by_cases hlt:j < nc
    ·have j1:(j:Int) < (nc:Int):=by omega
     obtain ⟨x,hx⟩:∃x,c.creases[j]? =some x:=⟨_,List.getElem?_eq_getElem (by rw [←HK.out.2.2.2.1];exact hlt)⟩
     obtain ⟨bb,ob,hA,hbb,d0,d1⟩:=(HK.out.1.cr.below hS.bel).e2 hx
     subst hA
     have hbV:bb < V.heap.size:=Nat.lt_of_lt_of_le hbb hS.bel.size
     have htk:=flat_take hx
     obtain ⟨x1,x2⟩:=x
     simp only at d0 d1
     have HV:=hide (And.intro hS htk)
     clear hS htk hx hbb
     go_upto_region 11 with fail
     obtain ⟨gb,hgb⟩:∃n,n=V.heap.size:=⟨_,rfl⟩
     obtain ⟨Y,hY⟩:∃W,W=V.alloc (.cells #[.int .i64 x1, .int .i64 x2] 56):=⟨_,rfl⟩
     have hSY:=HV.out.1.below (show Below V.heap.size V Y by rw [hY];exact (Below.refl _ V).alloc (Nat.le_refl _) _)
     have hKY:Blk Y gb 56 #[.int .i64 x1, .int .i64 x2]:=by rw [hY,hgb];exact Blk.new _ _ _
     rw [←hY,←hgb]
     have hgbY:=hKY.lt
     have HY:=hide (And.intro hSY (sl_blk (l:= [x1,x2]) hKY rfl))
     clear hSY hKY hY hgb d0 d1 hbV
     go_upto_region 12 with (go_at_call 100;refine (HK.out.2.1 (some ⟨gb,0,none⟩) 2 [x1,x2] g1 gk _ Y HY.out.2 (by simp) HY.out.1.le.2.2 HY.out.1.bk HY.out.1.b1).mono ?_;rintro e W1 ⟨rfl,hb,hg⟩;have H1:=hide (HY.out.1.up hg hb);clear hb hg)
     go_wp2
     go_roundw
     case rel=>exact ⟨j+1,by omega,by go_num,by rw [HV.out.2,List.all_append,←Bool.and_assoc];exact H1.out⟩
     case measure=>(simp [intOf];try omega)
    ·obtain rfl:j=nc:=by omega
     have j1:¬(j:Int) < (j:Int):=by omega
     rw [List.take_of_length_le (by rw [←HK.out.2.2.2.1];exact Nat.le_refl _)] at hS
     have z3:V.cell? ⟨g1,3,none⟩=some (.slice Ao no oc):=hS.b1.cell 3
     have hgV:=hS.b1.lt
     have hso:=(HK.out.1.o.below hS.bel).more hS.bel.size
     have hcx:=HK.out.2.1 Ao oc c.corners g1 gk _ V hso (by rw [←HK.out.2.2.2.2];omega) hS.le.2.2 hS.bk hS.b1
     rw [←HK.out.2.2.2.2] at hcx
     rw [←HR9.out] at hcx
     have HB2:=hide (And.intro hS hcx)
     clear hS hlt hj hso hcx
     go_upto_region 14 with (go_at_call 100;refine HB2.out.2.mono ?_;rintro e W1 ⟨rfl,hb,hg⟩;have k0:W1.cell? ⟨gk,0,none⟩=some (.bool b9):=hb.cell 0;have k1:=hb.lt;have H1:=hide (HB2.out.1.up hg hb);clear hb hg)
     go_wp2
     go_ret
     exact ⟨rfl,H1.out.bel⟩
end Go.Proofs.YtmemofonebphfaaGreat
