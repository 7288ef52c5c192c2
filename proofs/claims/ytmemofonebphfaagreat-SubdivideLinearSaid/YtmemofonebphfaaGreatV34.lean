import Derived.Test.YtmemofonebphfaaGreatV29
namespace Go.Proofs.YtmemofonebphfaaGreat
open Go.RowKit Go.Sort
def stW (W:World) (g:Nat):Nat:=match W.cell? ⟨g,4,none⟩ with
 | some (.int _ v)=>v.toNat
 | _=>0
theorem stW_at {W:World} {g:Nat} {v:Int} (h:W.cell? ⟨g,4,none⟩=some (.int .i64 v)):stW W g=v.toNat:=by
 unfold stW
 rw [h]
theorem infoLP9:(Tryz.prog.info? 28).map (fun i=>(i.zero,i.size,i.bytes))=some (some (.slice none 0 0),1,24):=by kernel_rfl
structure EdgM (W:World) (B:Nat) (A:Option Addr) (E:List E2) (g5:Nat):Prop where
 s:Sl encE2 2 W B A E
 ne:∀p,A=some p→p.block≠g5
theorem EdgM.below {W W':World} {B B':Nat} {A:Option Addr} {E:List E2} {g5:Nat} (h:EdgM W B A E g5) (hB:Below B' W W') (hb:B≤B'):EdgM W' B A E g5:=
 ⟨h.s.below (hB.mono hb),h.ne⟩
theorem EdgM.set {W:World} {B:Nat} {A:Option Addr} {E:List E2} {g5:Nat} (h:EdgM W B A E g5) (hB:B≤W.heap.size) (i:Nat) (v:Value):EdgM (W.setCell ⟨g5,i,none⟩ v) B A E g5:=by
 refine ⟨?_,h.ne⟩
 rcases h.s with ⟨h1,h2⟩ | ⟨b,o,hA,hb,hc⟩
 ·exact .inl ⟨h1,h2⟩
 ·have hs:=h.s
  subst hA
  exact hs.grown (grown_set9 W g5 i v) hB (fun e=>h.ne _ rfl (Option.some.inj e))
theorem EdgM.new {W:World} {B:Nat} {A:Option Addr} {E:List E2} {g5:Nat} {vp vt vc vo vd:Value} {A0 A1 A2 A3 A4:Option Addr} {n0 c0 n1 c1 n2 c2 n3 c3 n4 c4:Nat} {st:Int} {t:TypeId} (h:Sl encE2 2 W B A E) (hb:Blk W g5 t (cMad vp vt vc vo st vd))
  (e0:vp= .slice A0 n0 c0) (e1:vt= .slice A1 n1 c1) (e2:vc= .slice A2 n2 c2) (e3:vo= .slice A3 n3 c3) (e4:vd= .slice A4 n4 c4) (hn:1≤E.length):EdgM W B A E g5:=by
 refine ⟨h,fun p hp he=> ?_⟩
 obtain ⟨x,hx⟩:∃x,E[0]? =some x:=⟨_,List.getElem?_eq_getElem hn⟩
 obtain ⟨b,o,hA,hb',c0,c1⟩:=h.e2 hx
 rw [hA] at hp
 cases hp
 dsimp only at he
 subst he
 rw [hb.cell] at c0 c1
 subst e0 e1 e2 e3 e4
 have hc:o=0∨o=1∨o=2∨o=3∨o=4∨o=5∨6≤o:=by omega
 rcases hc with rfl | rfl | rfl | rfl | rfl | rfl | h6
 ·simp at c0
 ·simp at c0
 ·simp at c0
 ·simp at c0
 ·simp at c1
 ·simp at c0
 ·rw [Array.getElem?_eq_none (by simp;omega)] at c0
  simp at c0
theorem cells_ne9 {W:World} {g5 base:Nat} {cs:Array Value} {e t:TypeId} (h:Blk W g5 t cs) (hte:e≠t):∀r,(some g5:Option Nat)=some r→r < base∨∀cs,W.heap[r]? ≠some (.cells cs e (0,0)):=fun r er=>by
 cases er
 refine .inr fun cs' hc=> ?_
 have hb:W.heap[g5]? =some (.cells _ _ (0,0)):=h
 rw [hb] at hc
 cases hc
 exact hte rfl
theorem MadS.apD2 {w W W':World} {g1 g2 g5:Nat} {shp zc:Array Value} {vp vt vc vo vd:Value} {st:Int} {np nt nc no:Nat} {P T:List Pt} {C:List E2} {O:List Int} {D:List (List Pt)} {ss:List Hdr} {v6:Value} {A:Option Addr} {c n m:Nat} {x:List Pt} (h:MadS w W g1 g2 g5 shp zc vp vt vc vo vd st np nt nc no P T C O D) (hn:D.length=n) (hm:x.length=m) (hos:Own encS 1 28 W w.heap.size vd n ss) (hps:∀(i:Nat) (p:List Pt),D[i]? =some p→∃A c,ss[i]? =some (A,p.length,c)∧Own encP 3 43 W w.heap.size (.slice A p.length c) p.length p)
  (hx:Own encP 3 43 W w.heap.size (.slice A m c) m x) (hg:W.grownBy W' vd.ownBlock) (ho:Own encS 1 28 W' w.heap.size v6 (n+1) (ss++ [(A,m,c)])):MadS w (W'.setCell ⟨g5,5,none⟩ v6) g1 g2 g5 shp zc vp vt vc vo v6 st np nt nc no P T C O (D++ [x]):=by
 subst hn hm
 exact h.apD hos hps hx hg ho
def set6 (W:World) (g:Nat) (a b c d e f:Value):World:=(((((W.setCell ⟨g,0,none⟩ a).setCell ⟨g,1,none⟩ b).setCell ⟨g,2,none⟩ c).setCell ⟨g,3,none⟩ d).setCell ⟨g,4,none⟩ e).setCell ⟨g,5,none⟩ f
theorem grown_set6 (W:World) (g:Nat) (a b c d e f:Value):W.grownBy (set6 W g a b c d e f) (some g):=
 (((((grown_set9 W g 0 a).trans (grown_set9 _ g 1 b)).trans (grown_set9 _ g 2 c)).trans (grown_set9 _ g 3 d)).trans (grown_set9 _ g 4 e)).trans (grown_set9 _ g 5 f)
theorem MadS.resD {w W:World} {g1 g2 g5 BD:Nat} {shp:Array Value} {Ap At Ac Ao Ad:Option Addr} {cp ct cc oc nd dc:Nat} {k:Int} {np nt nc no:Nat} {P T:List Pt} {C:List E2} {O:List Int} {D:List (List Pt)} (h:MadS w W g1 g2 g5 shp (cCtl none 0 0 none 0 0 none 0 0 none 0 0 0 none 0 0) (.slice Ap np cp) (.slice At nt ct) (.slice Ac nc cc) (.slice Ao no oc) (.slice Ad nd dc) k np nt nc no P T C O D) (hd:Pcs encP 3 43 28 W BD (.slice Ad nd dc) D) (hlb:w.heap.size≤BD∧BD≤W.heap.size∧∀r,(Value.slice Ap np cp).ownBlock=some r→r < BD) (a b c' d e f:Value) (c:Ctl) (hP:c.points=P) (hT:c.tris=T) (hC:c.creases=C) (hO:c.corners=O) (hs:c.steps=k) (hD:c.details=D):
  CpyR w (set6 W g2 a b c' d e f) c (.returned (vCtl Ap np cp At nt ct Ac nc cc Ao no oc k Ad nd dc)):=by
 have hg:=grown_set6 W g2 a b c' d e f
 have e1:=h.p.1
 have e2:=h.t.1
 have e3:=h.c.1
 have e4:=h.o.1
 have e5:nd=D.length:=by
  obtain ⟨A,c,hf⟩:=h.d.form
  injection hf
 subst hP hT hC hO hs hD e1 e2 e3 e4 e5
 exact ⟨BD,Ap,At,Ac,Ao,Ad,cp,ct,cc,oc,dc,rfl,h.t.step hg (cells_ne9 h.bx.b2 (by decide)),h.p.step hg (cells_ne9 h.bx.b2 (by decide)),h.c.step hg (cells_ne9 h.bx.b2 (by decide)),h.o.step hg (cells_ne9 h.bx.b2 (by decide)),hd.turn hg (fun t e=>cells_ne9 h.bx.b2 (by rcases e with rfl | rfl <;>decide)),⟨hlb.1,Nat.le_trans hlb.2.1 hg.size,hlb.2.2⟩,h.bx.bel.trans (grown_bel hg h.bx.le.2.2.2 h.bx.bel.size)⟩
set_option maxRecDepth 100000 in
set_option maxHeartbeats 64000000 in
theorem madeD_any (Ap Ac Ao Ad:Option Addr) (cp cc oc dc:Nat) (s:ShpC) (w:World) (hm:ShpA w w.heap.size Ap Ac Ao Ad s) (hb:fits s.bits) (hl:s.points.length≤9223372036854775807∧s.creases.length≤9223372036854775807∧s.corners.length≤9223372036854775807∧s.details.length≤9223372036854775807):
  Calls Tryz.prog 15 #[vShp s.kind s.bits s.steps Ap s.points.length cp Ac s.creases.length cc Ao s.corners.length oc Ad s.details.length dc] w fun e w'=>CpyR w w' (madeC s) e:=by
 have hR:=base_right s.kind s.bits
 have kb:=fun (W:World)=>base_any s.kind s.bits hb W
 obtain ⟨T,hT⟩:∃t,t=baseT s.kind s.bits:=⟨_,rfl⟩
 obtain ⟨NN,hNN⟩:∃t,t=baseN s.kind s.bits:=⟨_,rfl⟩
 rw [←hT,←hNN] at hR
 simp only [←hT,←hNN] at kb
 obtain ⟨nt,hnt⟩:∃n,n=T.length:=⟨_,rfl⟩
 have hntl:nt≤324:=by rw [hnt];exact hR.few
 have hnnl:NN≤972:=hR.pts
 obtain ⟨k0,hk0⟩:∃k:Nat,k=(s.steps % 5).toNat:=⟨_,rfl⟩
 have hk4:k0≤4:=by omega
 have ks:=fun W=>mod1_any s.steps 5 (by omega) (by omega) W
 have hks:s.steps % 5=(k0:Int):=by omega
 rw [hks] at ks
 obtain ⟨ST,hST⟩:∃k,k=stM s:=⟨_,rfl⟩
 have hlow:lowS nt k0=ST:=by rw [hST,hnt,hT,hk0];rfl
 obtain ⟨np,hnp⟩:∃n,n=s.points.length:=⟨_,rfl⟩
 obtain ⟨nc,hnc⟩:∃n,n=s.creases.length:=⟨_,rfl⟩
 obtain ⟨no,hno⟩:∃n,n=s.corners.length:=⟨_,rfl⟩
 obtain ⟨nd,hnd⟩:∃n,n=s.details.length:=⟨_,rfl⟩
 obtain ⟨K,hK⟩:∃n,n=s.kind:=⟨_,rfl⟩
 obtain ⟨B,hB⟩:∃n,n=s.bits:=⟨_,rfl⟩
 obtain ⟨S0,hS0⟩:∃n,n=s.steps:=⟨_,rfl⟩
 rw [←hnp,←hnc,←hno,←hnd] at hl
 rw [←hK,←hB] at kb
 rw [←hS0] at ks
 rw [←hnp,←hnc,←hno,←hnd,←hK,←hB,←hS0]
 have HK:=hide (And.intro kb (And.intro ks (And.intro hm (And.intro hR (And.intro hlow (And.intro hnt (And.intro hT (And.intro hNN hST))))))))
 have HN:=hide (And.intro hnp (And.intro hnc (And.intro hno hnd)))
 obtain ⟨hl1,hl2,hl3,hl4⟩:=hl
 clear kb ks hm hR hlow hnt hT hNN hST hnp hnc hno hnd hK hB hS0 hk0 hks hb
 go_enter Tryz.func15,Tryz.ntmps15
 go_upto_region 1 with fail
 obtain ⟨g1,hg1⟩:∃g,g=w.heap.size:=⟨_,rfl⟩
 obtain ⟨g2,hg2⟩:∃g,g=w.heap.size+1:=⟨_,rfl⟩
 obtain ⟨X0,hX⟩:∃W,W=(w.alloc (.cells (cShp K B S0 Ap np cp Ac nc cc Ao no oc Ad nd dc) 25)).alloc (.cells (cCtl none 0 0 none 0 0 none 0 0 none 0 0 0 none 0 0) 32):=⟨_,rfl⟩
 rw [←hX,←hg2,←hg1]
 have hb1:Blk X0 g1 25 (cShp K B S0 Ap np cp Ac nc cc Ao no oc Ad nd dc):=by rw [hX,hg1];exact (Blk.new _ _ _).alloc _
 have hb2:Blk X0 g2 32 (cCtl none 0 0 none 0 0 none 0 0 none 0 0 0 none 0 0):=by rw [hX,hg2];exact Blk.new' _ _ _ _ (by simp)
 have hBX:Below w.heap.size w X0:=by rw [hX];exact ((Below.refl _ w).alloc (Nat.le_refl _) _).alloc (by simp) _
 have c0:X0.cell? ⟨g1,0,none⟩=some (.int .i64 K):=hb1.cell 0
 have c1:X0.cell? ⟨g1,1,none⟩=some (.int .i64 B):=hb1.cell 1
 have hgl:=hb1.lt
 have H0:=hide (And.intro hb1 (And.intro hb2 (And.intro hBX (show w.heap.size≤g2∧g1≠g2∧w.heap.size≤g1 by omega))))
 clear hb1 hb2 hBX hX hg1 hg2
 go_upto_region 2 with (go_at_call 38;refine (HK.out.1 X0).mono ?_;rintro e X1 ⟨At,ct,rfl,hot,hB1⟩;have H1:=hide (And.intro hot (And.intro hB1 (And.intro (H0.out.1.below hB1 H0.out.1.lt) (H0.out.2.1.below hB1 H0.out.2.1.lt))));clear hot hB1)
 clear c0 c1 hgl
 have hzz:=HK.out.2.2.2.2.2.1
 rw [←hzz]
 have c2:X1.cell? ⟨g1,2,none⟩=some (.int .i64 S0):=H1.out.2.2.1.cell 2
 have hgl:=H1.out.2.2.1.lt
 clear hzz
 go_upto_region 3 with (go_at_call 17;refine (HK.out.2.1 X1).mono ?_;rintro e Y1 ⟨rfl,hw⟩;obtain rfl:X1=Y1:=hw.symm)
 clear c2 hgl
 obtain ⟨g5,hg5⟩:∃g,g=X1.heap.size:=⟨_,rfl⟩
 obtain ⟨X2,hX2⟩:∃W,W=X1.alloc (.cells (cMad (.slice none 0 0) (.slice At nt ct) (.slice none 0 0) (.slice none 0 0) k0 (.slice none 0 0)) 32):=⟨_,rfl⟩
 rw [←hX2,←hg5]
 have hS2:MadS w X2 g1 g2 g5 (cShp K B S0 Ap np cp Ac nc cc Ao no oc Ad nd dc) (cCtl none 0 0 none 0 0 none 0 0 none 0 0 0 none 0 0) (.slice none 0 0) (.slice At nt ct) (.slice none 0 0) (.slice none 0 0) (.slice none 0 0) k0 0 nt 0 0 [] T [] [] []:=by
  have hBa:Below X1.heap.size X1 X2:=by rw [hX2];exact (Below.refl _ _).alloc (Nat.le_refl _) _
  have hz1:=H1.out.2.1.size
  have hz0:=H0.out.2.2.1.size
  have hl2:=H1.out.2.2.2.lt
  have hl1:=H1.out.2.2.1.lt
  have hBw:=H0.out.2.2.1.trans (H1.out.2.1.mono hz0)
  have ht:=H1.out.1
  rw [←HK.out.2.2.2.2.2.1] at ht
  exact ⟨⟨hBw.trans (hBa.mono hBw.size),H1.out.2.2.1.below hBa hl1,H1.out.2.2.2.below hBa hl2,by rw [hX2,hg5];exact Blk.new _ _ _,by have:=H0.out.2.2.2;omega⟩,(ht.base_le hz0).below hBa (Nat.le_refl _),Own.nil,Own.nil,Own.nil,Pcs.nil⟩
 have HS2:=hide hS2
 clear hS2 hX2 hg5
 go_loopw [] (fun wr=>∃k:Nat,k≤4∧MadS w wr g1 g2 g5 (cShp K B S0 Ap np cp Ac nc cc Ao no oc Ad nd dc) (cCtl none 0 0 none 0 0 none 0 0 none 0 0 0 none 0 0) (.slice none 0 0) (.slice At nt ct) (.slice none 0 0) (.slice none 0 0) (.slice none 0 0) k 0 nt 0 0 [] T [] [] []∧lowS nt k=ST) (fun wr=>stW wr g5)
 case atStart=>exact ⟨k0,hk4,HS2.out,HK.out.2.2.2.2.1⟩
 case round=>
  obtain ⟨k,hk,hS,hlo⟩:=hrel
  obtain ⟨V,rfl⟩:∃x,x=wr:=⟨_,rfl⟩
  have c4:V.cell? ⟨g5,4,none⟩=some (.int .i64 k):=hS.bx.b5.cell 4
  have f4:=hS.bx.b5.frozen 4
  have hg5l:=hS.bx.b5.lt
  obtain ⟨s2,hs2⟩:∃s,s=2*k:=⟨_,rfl⟩
  have t1:2*(k:Int)=(s2:Int):=by omega
  obtain ⟨q,hq⟩:∃q,q=nt*2^(2*k):=⟨_,rfl⟩
  have t2:(nt:Int)*2^s2=(q:Int):=by
   rw [hq,hs2,Int.natCast_mul,Int.natCast_pow]
   rfl
  have qb:q≤82944:=by
   have key:∀s:Nat,s≤4→2^(2*s)≤256:=by decide
   rw [hq]
   exact Nat.mul_le_mul hntl (key k hk)
  by_cases hgo:0 < k∧800 < q
  ·obtain ⟨hkp,hqm⟩:=hgo
   have k1:(0:Int) < (k:Int):=by omega
   have l1:(800:Int) < (q:Int):=by omega
   have hlo2:lowS nt (k - 1)=ST:=by
    have hkk:k=(k - 1)+1:=by omega
    rw [hkk] at hlo
    unfold lowS at hlo
    rw [if_pos (by rw [←hkk,←hq];exact hqm)] at hlo
    exact hlo
   have HV:=hide (And.intro hS hlo2)
   clear hS hlo hlo2 hq hs2
   go_wp2
   go_roundw
   case rel=>exact ⟨k - 1,by omega,by rw [show ((k - 1:Nat):Int)=(k:Int) - 1 by omega];exact HV.out.1.low _,HV.out.2⟩
   case measure=>
    have h1:=(HV.out.1.low ((k:Int) - 1)).bx.b5.cell 4
    have h2:=HV.out.1.bx.b5.cell 4
    rw [stW_at h1,stW_at h2]
    omega
  ·have hST:k=ST:=by
    rw [←hlo]
    match k,hgo,hq with
    | 0,_,_=>rfl
    | k+1,hgo,hq=>
     unfold lowS
     rw [if_neg (by rw [←hq];omega)]
   subst hST
   have HV:=hide hS
   clear hS hlo hq hs2
   go_upto_region 3 with fail
   go_cut [43] (fun v wx=>v= .bool false∧wx=V)
   case first=>
    by_cases hk00:k=0
    ·have k1:¬(0:Int) < (k:Int):=by omega
     go_wp2_with fail
     go_meet
     case rel=>exact ⟨rfl,rfl⟩
    ·have k1:(0:Int) < (k:Int):=by omega
     have l1:¬(800:Int) < (q:Int):=by omega
     go_wp2_with fail
     go_meet
     case rel=>exact ⟨rfl,rfl⟩
   case rest=>
    obtain ⟨rfl,hwc⟩:=hcut
    obtain rfl:V=wc:=hwc.symm
    clear hgo t1 t2 qb
    have kpw:=fun W=>power_any k hk W
    obtain ⟨pw,mx,hpw,hmx,t3,t4,pb⟩:∃pw mx:Int,(16:Int)^k=pw∧topM s=mx∧(2097151:Int).tdiv pw=mx∧(2097151:Int) / pw=mx∧((1≤pw∧pw≤65536)∧0≤mx∧mx≤2097151):=by
     have ht:topM s=2097151 / 16^k:=by unfold topM;rw [HK.out.2.2.2.2.2.2.2.2]
     rw [ht]
     have hc:k=0∨k=1∨k=2∨k=3∨k=4:=by omega
     rcases hc with rfl | rfl | rfl | rfl | rfl <;>exact ⟨_,_,rfl,rfl,by decide,by decide,by decide⟩
    simp only [hpw] at kpw
    have HQ:=hide (And.intro kpw hmx)
    have pw0:¬pw=0:=by omega
    clear kpw hmx hpw f4
    go_upto_region 7 with (go_at_call 39;refine (HQ.out.1 _).mono ?_;rintro e Y1 ⟨rfl,hw⟩;obtain rfl:V=Y1:=hw.symm)
    clear c4 hg5l
    go_loopw [7] (fun iv wr=>∃(i:Nat) (vp:Value),i≤NN∧iv= .int .i64 i∧MadS w wr g1 g2 g5 (cShp K B S0 Ap np cp Ac nc cc Ao no oc Ad nd dc) (cCtl none 0 0 none 0 0 none 0 0 none 0 0 0 none 0 0) vp (.slice At nt ct) (.slice none 0 0) (.slice none 0 0) (.slice none 0 0) k i nt 0 0 ((List.range i).map (ptM s)) T [] [] []) (fun iv _=>NN - (intOf iv).toNat)
    case atStart=>exact ⟨0,_,by omega,rfl,HV.out⟩
    case round=>
     obtain ⟨i,vp,hi,rfl,hS⟩:=hrel
     obtain ⟨V,rfl⟩:∃x,x=wr:=⟨_,rfl⟩
     obtain ⟨Ax,cx,rfl⟩:=hS.p.form
     by_cases hlt:i < NN
     ·have i1:(i:Int) < (NN:Int):=by omega
      obtain ⟨n1,hn1⟩:∃n:Nat,n=i*5:=⟨_,rfl⟩
      obtain ⟨n2,hn2⟩:∃n:Nat,n=i*i:=⟨_,rfl⟩
      obtain ⟨n3,hn3⟩:∃n:Nat,n=7*i:=⟨_,rfl⟩
      have m1:(i:Int)*5=(n1:Int):=by rw [hn1];exact (Int.natCast_mul _ _).symm
      have m2:(i:Int)*(i:Int)=(n2:Int):=by rw [hn2];exact (Int.natCast_mul _ _).symm
      have m3:7*(i:Int)=(n3:Int):=by rw [hn3];exact (Int.natCast_mul _ _).symm
      have bn1:n1≤4860:=by omega
      have bn2:n2≤944784:=by rw [hn2];exact Nat.mul_le_mul (show i≤972 by omega) (show i≤972 by omega)
      have bn3:n3≤6804:=by omega
      obtain ⟨r,hr⟩:∃r,r=rawM s.points i:=⟨_,rfl⟩
      have hpt:ptM s i=(r.1 % (mx+1),r.2.1 % (mx+1),r.2.2 % (mx+1)):=by rw [hr,←HQ.out.2];rfl
      have hrg:(List.range (i+1)).map (ptM s)=(List.range i).map (ptM s)++ [(r.1 % (mx+1),r.2.1 % (mx+1),r.2.2 % (mx+1))]:=by rw [List.range_succ,List.map_append,List.map_singleton,hpt]
      have hraw:r=if np=0 then ((n1:Int),(n2:Int),(n3:Int)) else (wrap64 ((s.points.getD (i % np) (0,0,0)).1+3*i),wrap64 ((s.points.getD (i % np) (0,0,0)).2.1+n2),wrap64 ((s.points.getD (i % np) (0,0,0)).2.2 - i)):=by
       rw [hr,HN.out.1,←m1,←m2,←m3]
       rfl
      obtain ⟨r1,r2,r3⟩:=r
      have HV2:=hide (And.intro hS (And.intro hrg hraw))
      clear hS hrg hraw hr hpt hn1 hn2 hn3
      go_upto_region 10 with fail
      obtain ⟨g8,hg8⟩:∃g,g=V.heap.size:=⟨_,rfl⟩
      obtain ⟨Y,hY⟩:∃W,W=V.alloc (.cells #[.int .i64 n1, .int .i64 n2, .int .i64 n3] 35):=⟨_,rfl⟩
      have hBY:Below V.heap.size V Y:=by rw [hY];exact (Below.refl _ V).alloc (Nat.le_refl _) _
      have hKY:Blk Y g8 35 #[.int .i64 n1, .int .i64 n2, .int .i64 n3]:=by rw [hY,hg8];exact Blk.new _ _ _
      rw [←hY,←hg8]
      have hSY:=HV2.out.1.below hBY
      have hge:g8 ≥ V.heap.size:=by omega
      have HY:=hide (And.intro hSY (And.intro hKY (And.intro hBY hge)))
      have c3:Y.cell? ⟨g1,3,none⟩=some (.slice Ap np cp):=hSY.bx.b1.cell 3
      have hg1l:=hSY.bx.b1.lt
      clear hSY hKY hBY hY hg8 hge
      by_cases hnp0:np=0
      ·have hraw:=HV2.out.2.2
       rw [if_pos hnp0] at hraw
       have p0:¬(0:Int) < (np:Int):=by omega
       have HRW:=hide hraw
       clear hraw hnp0
       go_upto_region 13 with fail
       clear c3 hg1l
       obtain ⟨Z,hZ⟩:∃W,W=Y:=⟨_,rfl⟩
       rw [←hZ]
       have HZ:=hide (show MadS w Z g1 g2 g5 (cShp K B S0 Ap np cp Ac nc cc Ao no oc Ad nd dc) (cCtl none 0 0 none 0 0 none 0 0 none 0 0 0 none 0 0) (.slice Ax i cx) (.slice At nt ct) (.slice none 0 0) (.slice none 0 0) (.slice none 0 0) k i nt 0 0 ((List.range i).map (ptM s)) T [] [] []∧Blk Z g8 35 #[.int .i64 r1, .int .i64 r2, .int .i64 r3]∧some g8≠(Value.slice Ax i cx).ownBlock from by
        have hraw:=HRW.out
        simp only [Prod.mk.injEq] at hraw
        obtain ⟨e1,e2,e3⟩:=hraw
        rw [hZ,e1,e2,e3]
        exact ⟨HY.out.1,HY.out.2.1,fun e=>by have:=(HV2.out.1.p.blk g8 e.symm).2;have:=HY.out.2.2.2;omega⟩)
       clear HY hZ HRW p0
       obtain ⟨mx1,hmx1⟩:∃m,m=mx+1:=⟨_,rfl⟩
       have tm1:mx+1=mx1:=hmx1.symm
       have bm1:0 < mx1∧mx1≤2097152:=by omega
       have km1:=fun W=>mod1_any r1 mx1 bm1.1 (by omega) W
       have km2:=fun W=>mod1_any r2 mx1 bm1.1 (by omega) W
       have km3:=fun W=>mod1_any r3 mx1 bm1.1 (by omega) W
       have hrg:=HV2.out.2.1
       rw [tm1] at hrg
       obtain ⟨o1,ho1⟩:∃o,o=r1 % mx1:=⟨_,rfl⟩
       obtain ⟨o2,ho2⟩:∃o,o=r2 % mx1:=⟨_,rfl⟩
       obtain ⟨o3,ho3⟩:∃o,o=r3 % mx1:=⟨_,rfl⟩
       simp only [←ho1,←ho2,←ho3] at km1 km2 km3 hrg
       have HM:=hide (And.intro km1 (And.intro km2 (And.intro km3 hrg)))
       clear km1 km2 km3 hrg ho1 ho2 ho3 hmx1
       have w1:IntKind.i64.wrap mx1=mx1:=IntWalk.i64_in _ (by omega)
       have HSB:=hide (show Blk Z.drew g5 32 (cMad (.slice Ax i cx) (.slice At nt ct) (.slice none 0 0) (.slice none 0 0) k (.slice none 0 0))∧Blk Z.drew g8 35 #[.int .i64 r1, .int .i64 r2, .int .i64 r3] from ⟨HZ.out.1.bx.b5,HZ.out.2.1⟩)
       refine wp_region_mix (fun W=>Blk W g5 32 (cMad (.slice Ax i cx) (.slice At nt ct) (.slice none 0 0) (.slice none 0 0) k (.slice none 0 0))∧Blk W g8 35 #[.int .i64 r1, .int .i64 r2, .int .i64 r3]) [0,1,2,3,4,5,7,8,9,10,12,13,14,15,17] [0,1,2,3,4,5,7,8,9,10,12,13,14,15,6,11,16,17,18,19,20,21] mixed_ok (by kernel_rfl) ?_
       refine wpMix_q (v:=(.pointer (some ⟨g5,0,none⟩))) rfl rfl (fun _ _ _ h=>h) HSB.out ⟨rfl,fun _ _=>by simp [go_sem]⟩ ?_
       refine wpMix_q (v:=(.slice Ax i cx)) rfl rfl (fun _ _ _ h=>h) HSB.out ⟨rfl,fun _ h'=>by have a0:=h'.1.cell 0;simp only [List.getElem?_toArray,List.getElem?_cons_zero] at a0;simp [go_sem,a0]⟩ ?_
       refine wpMix_q (v:=(.pointer (some ⟨g8,0,none⟩))) rfl rfl (fun _ _ _ h=>h) HSB.out ⟨rfl,fun _ _=>by simp [go_sem]⟩ ?_
       refine wpMix_q (v:=(.int .i64 r1)) rfl rfl (fun _ _ _ h=>h) HSB.out ⟨rfl,fun _ h'=>by have a0:=h'.2.cell 0;simp only [List.getElem?_toArray,List.getElem?_cons_zero] at a0;simp [go_sem,a0]⟩ ?_
       refine wpMix_q (v:=(.int .i64 mx)) rfl rfl (fun _ _ _ h=>h) HSB.out ⟨rfl,fun _ _=>by simp [go_sem]⟩ ?_
       refine wpMix_q (v:=(.int .i64 mx1)) rfl rfl (fun _ _ _ h=>h) HSB.out ⟨rfl,fun _ _=>by simp [go_sem,tm1,w1]⟩ ?_
       simp only [List.getElem_toArray,List.getElem_cons_succ,List.getElem_cons_zero,Act.put,List.setIfInBounds_toArray,List.set_cons_succ,List.set_cons_zero]
       refine wpMix_q (v:=(.pointer (some ⟨g8,1,none⟩))) rfl rfl (fun _ _ _ h=>h) HSB.out ⟨rfl,fun _ _=>by simp [go_sem]⟩ ?_
       refine wpMix_q (v:=(.int .i64 r2)) rfl rfl (fun _ _ _ h=>h) HSB.out ⟨rfl,fun _ h'=>by have a1:=h'.2.cell 1;simp only [List.getElem?_toArray,List.getElem?_cons_zero,List.getElem?_cons_succ] at a1;simp [go_sem,a1]⟩ ?_
       refine wpMix_q (v:=(.int .i64 mx)) rfl rfl (fun _ _ _ h=>h) HSB.out ⟨rfl,fun _ _=>by simp [go_sem]⟩ ?_
       refine wpMix_q (v:=(.int .i64 mx1)) rfl rfl (fun _ _ _ h=>h) HSB.out ⟨rfl,fun _ _=>by simp [go_sem,tm1,w1]⟩ ?_
       refine wpMix_q (v:=(.pointer (some ⟨g8,2,none⟩))) rfl rfl (fun _ _ _ h=>h) HSB.out ⟨rfl,fun _ _=>by simp [go_sem]⟩ ?_
       refine wpMix_q (v:=(.int .i64 r3)) rfl rfl (fun _ _ _ h=>h) HSB.out ⟨rfl,fun _ h'=>by have a2:=h'.2.cell 2;simp only [List.getElem?_toArray,List.getElem?_cons_zero,List.getElem?_cons_succ] at a2;simp [go_sem,a2]⟩ ?_
       simp only [List.getElem_toArray,List.getElem_cons_succ,List.getElem_cons_zero,Act.put,List.setIfInBounds_toArray,List.set_cons_succ,List.set_cons_zero]
       refine wpMix_q (v:=(.int .i64 mx)) rfl rfl (fun _ _ _ h=>h) HSB.out ⟨rfl,fun _ _=>by simp [go_sem]⟩ ?_
       refine wpMix_q (v:=(.int .i64 mx1)) rfl rfl (fun _ _ _ h=>h) HSB.out ⟨rfl,fun _ _=>by simp [go_sem,tm1,w1]⟩ ?_
       simp only [List.getElem_toArray,List.getElem_cons_succ,List.getElem_cons_zero,Act.put,List.setIfInBounds_toArray,List.set_cons_succ,List.set_cons_zero]
       refine wpMix_n rfl rfl ?_
       go_wp2_with fail
       refine (HM.out.1 Z.drew).mono ?_
       rintro e W1 ⟨rfl,rfl⟩
       go_wp2_with fail
       refine ⟨fun _=>HSB.out,?_⟩
       refine wpMix_n rfl rfl ?_
       go_wp2_with fail
       refine (HM.out.2.1 Z.drew).mono ?_
       rintro e W1 ⟨rfl,rfl⟩
       go_wp2_with fail
       refine ⟨fun _=>HSB.out,?_⟩
       refine wpMix_n rfl rfl ?_
       go_wp2_with fail
       refine (HM.out.2.2.1 Z.drew).mono ?_
       rintro e W1 ⟨rfl,rfl⟩
       go_wp2_with fail
       refine ⟨fun _=>HSB.out,?_⟩
       refine wpMix_q (v:=(.agg #[.int .i64 o1, .int .i64 o2, .int .i64 o3])) rfl rfl (fun _ _ _ h=>h) HSB.out ⟨rfl,fun _ _=>by simp [go_sem]⟩ ?_
       have hal:Below Z.heap.size Z (Z.drew.alloc (.cells #[.int .i64 o1, .int .i64 o2, .int .i64 o3] 43)):=(Below.refl _ Z).drew.alloc (Nat.le_refl _) _
       have hS3:=HZ.out.1.below hal
       have hK3:=HZ.out.2.1.below hal HZ.out.2.1.lt
       have H3:=hide (And.intro hS3 hK3)
       clear hal hS3 hK3 w1
       refine wpMix_n rfl rfl ?_
       go_wp2_with fail
       refine ⟨fun _=>⟨H3.out.1.bx.b5,H3.out.2⟩,?_⟩
       refine wpMix_tail _ [_,_,_] (by kernel_rfl) rfl ?_
       have hbl:=H3.out.1.bx.bel.size
       refine wpList_append1 rfl _ _ _ rfl Tryz.underlying28 infoP rfl (by omega) encP_len encP_one rfl H3.out.1.p Z.heap.size 1 ((o1,o2,o3):Pt) rfl (Blk.new _ _ _) (by unfold maxLen;omega) (by omega) hbl ?_
       intro g6 cap6 w6 hown6 hg6 hB6 hat6 hgb6 hlt6
       have hS6:=H3.out.1.apP hg6 hown6
       have h61:=H3.out.1.bx.b5.grown hg6 (blk_own_ne9 H3.out.1.bx.b5 H3.out.1.p (show (43:TypeId)≠32 by decide))
       have c6:w6.cell? ⟨g5,0,none⟩=some (.slice Ax i cx):=h61.cell 0
       have f6:=h61.frozen 0
       have hl6:=h61.lt
       rw [←HM.out.2.2.2] at hS6
       have H6:=hide hS6
       clear hown6 hg6 hB6 hat6 hgb6 hlt6 hS6 h61 hbl HSB
       go_wp2
       go_roundw
       case rel=>repeat (first | exact ⟨i+1,_,by omega,by go_num,H6.out⟩ | (refine ⟨?_,rfl⟩;exact ⟨i+1,_,by omega,by go_num,H6.out⟩) | apply Exists.intro)
       case measure=>(simp [intOf];try omega)
      ·have hraw:=HV2.out.2.2
       rw [if_neg hnp0] at hraw
       have p0:(0:Int) < (np:Int):=by omega
       obtain ⟨m,hm⟩:∃m:Nat,m=i % np:=⟨_,rfl⟩
       have hmn:m < np:=by rw [hm];exact Nat.mod_lt _ (by omega)
       have tm:(i:Int).tmod (np:Int)=(m:Int):=by rw [Int.tmod_eq_emod_of_nonneg (by omega),hm];exact (Int.natCast_emod _ _).symm
       have tm':(i:Int) % (np:Int)=(m:Int):=by rw [hm];exact (Int.natCast_emod _ _).symm
       have m1':(m:Int) < (np:Int):=by omega
       have hpne:s.points≠ []:=fun h=>hnp0 (by rw [HN.out.1,h];rfl)
       obtain ⟨qq,hqq⟩:∃x,s.points[m]? =some x:=⟨_,List.getElem?_eq_getElem (by rw [←HN.out.1];exact hmn)⟩
       have hgd:s.points.getD m (0,0,0)=qq:=by rw [List.getD_eq_getElem?_getD,hqq];rfl
       rw [←hm,hgd] at hraw
       have hBw:=HY.out.1.bx.bel
       obtain ⟨bp,op,hA,hbp,d0,d1,d2⟩:=((HK.out.2.2.1.p hpne).below hBw).n3 hqq
       subst hA
       have hbpY:bp < Y.heap.size:=Nat.lt_of_lt_of_le hbp hBw.size
       obtain ⟨q1,q2,q3⟩:=qq
       simp only at d0 d1 d2 hraw
       have HR:=hide (And.intro hraw (And.intro c3 (And.intro hg1l (And.intro d0 (And.intro d1 (And.intro d2 hbpY))))))
       have np0:¬(np:Int)=0:=by omega
       clear hraw hqq hgd hbp hBw hm hpne d0 d1 d2 hbpY
       go_upto_region 11 with fail
       have HSB:=hide (show Below Y.heap.size Y Y.drew from (Below.refl _ Y).drew)
       refine wp_region_mix (fun W=>Below Y.heap.size Y W) [0,1,2,3,4,5,6,7,8] [0,1,2,3,4,5,6,7,8,9,10] mixed_ok (by kernel_rfl) ?_
       refine wpMix_q (v:=(.pointer (some ⟨g1,3,none⟩))) rfl rfl (fun _ _ _ h=>h) HSB.out ⟨rfl,fun _ _=>by simp [go_sem]⟩ ?_
       refine wpMix_q (v:=(.slice (some ⟨bp,op,none⟩) np cp)) rfl rfl (fun _ _ _ h=>h) HSB.out ⟨rfl,fun _ h'=>by have a0:=(h'.cell (p:=⟨g1,3,none⟩) HR.out.2.2.1).trans HR.out.2.1;simp [go_sem,a0]⟩ ?_
       refine wpMix_q (v:=(.int .i64 i)) rfl rfl (fun _ _ _ h=>h) HSB.out ⟨rfl,fun _ _=>by simp [go_sem]⟩ ?_
       refine wpMix_q (v:=(.pointer (some ⟨g1,3,none⟩))) rfl rfl (fun _ _ _ h=>h) HSB.out ⟨rfl,fun _ _=>by simp [go_sem]⟩ ?_
       refine wpMix_q (v:=(.slice (some ⟨bp,op,none⟩) np cp)) rfl rfl (fun _ _ _ h=>h) HSB.out ⟨rfl,fun _ h'=>by have a0:=(h'.cell (p:=⟨g1,3,none⟩) HR.out.2.2.1).trans HR.out.2.1;simp [go_sem,a0]⟩ ?_
       refine wpMix_q (v:=(.int .i64 np)) rfl rfl (fun _ _ _ h=>h) HSB.out ⟨rfl,fun _ _=>by simp [go_sem,Builtin.lenOf]⟩ ?_
       simp only [List.getElem_toArray,List.getElem_cons_succ,List.getElem_cons_zero,Act.put,List.setIfInBounds_toArray,List.set_cons_succ,List.set_cons_zero]
       refine wpMix_q (v:=(.int .i64 m)) rfl rfl (fun _ _ _ h=>h) HSB.out ⟨rfl,fun _ _=>by simp [go_sem,hnp0,tm]⟩ ?_
       refine wpMix_q (v:=(.pointer (some ⟨bp,op+m*3,none⟩))) rfl rfl (fun _ _ _ h=>h) HSB.out ⟨rfl,fun _ _=>by simp [go_sem,m1']⟩ ?_
       refine wpMix_q (v:=(.agg #[.int .i64 q1, .int .i64 q2, .int .i64 q3])) rfl rfl (fun _ _ _ h=>h) HSB.out ⟨rfl,fun _ h'=>by have a0:=(h'.cell (p:=⟨bp,op+m*3,none⟩) HR.out.2.2.2.2.2.2).trans HR.out.2.2.2.1;have a1:=(h'.cell (p:=⟨bp,op+m*3+1,none⟩) HR.out.2.2.2.2.2.2).trans HR.out.2.2.2.2.1;have a2:=(h'.cell (p:=⟨bp,op+m*3+2,none⟩) HR.out.2.2.2.2.2.2).trans HR.out.2.2.2.2.2.1;simp [go_sem,a0,a1,a2]⟩ ?_
       simp only [List.getElem_toArray,List.getElem_cons_succ,List.getElem_cons_zero,Act.put,List.setIfInBounds_toArray,List.set_cons_succ,List.set_cons_zero]
       refine wpMix_n rfl rfl ?_
       go_wp2_with fail
       refine ⟨fun _=>HSB.out.alloc (Nat.le_refl _) _,?_⟩
       refine wpMix_tail _ [_] (by kernel_rfl) rfl ?_
       go_upto_region 12 with fail
       clear c3 hg1l
       obtain ⟨U,hU⟩:∃W,W=(Y.alloc (.cells #[.int .i64 q1, .int .i64 q2, .int .i64 q3] 35)).drew:=⟨_,rfl⟩
       obtain ⟨g9,hg9⟩:∃n,n=Y.heap.size:=⟨_,rfl⟩
       have hBU:Below Y.heap.size Y U:=by rw [hU];exact ((Below.refl _ Y).alloc (Nat.le_refl _) _).drew
       have hK9:Blk U g9 35 #[.int .i64 q1, .int .i64 q2, .int .i64 q3]:=by rw [hU,hg9];exact Blk.new Y _ _
       have hK8:=HY.out.2.1.below hBU HY.out.2.1.lt
       have hS8:=HY.out.1.below hBU
       have hne98:g9≠g8:=by have:=HY.out.2.1.lt;omega
       rw [←hU,←hg9]
       obtain ⟨y0,y1,y2⟩:=hK9.three
       have hg9l:=hK9.lt
       obtain ⟨x0,x1,x2⟩:=hK8.three
       have hg8l:=hK8.lt
       have f0:=hK8.frozen 0
       have f1:=hK8.frozen 1
       have f2:=hK8.frozen 2
       have HW:=hide (And.intro hS8 (And.intro hK8 (And.intro hK9 (And.intro hne98 hBU))))
       clear hS8 hK8 hK9 hU hg9 hBU hne98
       go_upto_region 13 with fail
       obtain ⟨Z,hZ⟩:∃W,W=((U.setCell ⟨g8,0,none⟩ (.int .i64 (wrap64 (q1+3*(i:Int))))).setCell ⟨g8,1,none⟩ (.int .i64 (wrap64 (q2+(n2:Int))))).setCell ⟨g8,2,none⟩ (.int .i64 (wrap64 (q3 - (i:Int)))):=⟨_,rfl⟩
       rw [←hZ]
       have HZ:=hide (show MadS w Z g1 g2 g5 (cShp K B S0 (some ⟨bp,op,none⟩) np cp Ac nc cc Ao no oc Ad nd dc) (cCtl none 0 0 none 0 0 none 0 0 none 0 0 0 none 0 0) (.slice Ax i cx) (.slice At nt ct) (.slice none 0 0) (.slice none 0 0) (.slice none 0 0) k i nt 0 0 ((List.range i).map (ptM s)) T [] [] []∧Blk Z g8 35 #[.int .i64 r1, .int .i64 r2, .int .i64 r3]∧some g8≠(Value.slice Ax i cx).ownBlock from by
        have hraw:=HR.out.1
        simp only [Prod.mk.injEq] at hraw
        obtain ⟨e1,e2,e3⟩:=hraw
        have hge:=HY.out.2.2.2
        have hB:=HY.out.2.2.1.trans (HW.out.2.2.2.2.mono HY.out.2.2.1.size)
        rw [e1,e2,e3,hZ]
        exact ⟨HV2.out.1.below (((hB.setCell (p:=⟨g8,0,none⟩) hge _).setCell (p:=⟨g8,1,none⟩) hge _).setCell (p:=⟨g8,2,none⟩) hge _),HW.out.2.1.set3 _ _ _,fun e=>by have:=(HV2.out.1.p.blk g8 e.symm).2;omega⟩)
       clear HY HW HR hZ y0 y1 y2 x0 x1 x2 hg9l hg8l f0 f1 f2 p0
       obtain ⟨mx1,hmx1⟩:∃m,m=mx+1:=⟨_,rfl⟩
       have tm1:mx+1=mx1:=hmx1.symm
       have bm1:0 < mx1∧mx1≤2097152:=by omega
       have km1:=fun W=>mod1_any r1 mx1 bm1.1 (by omega) W
       have km2:=fun W=>mod1_any r2 mx1 bm1.1 (by omega) W
       have km3:=fun W=>mod1_any r3 mx1 bm1.1 (by omega) W
       have hrg:=HV2.out.2.1
       rw [tm1] at hrg
       obtain ⟨o1,ho1⟩:∃o,o=r1 % mx1:=⟨_,rfl⟩
       obtain ⟨o2,ho2⟩:∃o,o=r2 % mx1:=⟨_,rfl⟩
       obtain ⟨o3,ho3⟩:∃o,o=r3 % mx1:=⟨_,rfl⟩
       simp only [←ho1,←ho2,←ho3] at km1 km2 km3 hrg
       have HM:=hide (And.intro km1 (And.intro km2 (And.intro km3 hrg)))
       clear km1 km2 km3 hrg ho1 ho2 ho3 hmx1
       have w1:IntKind.i64.wrap mx1=mx1:=IntWalk.i64_in _ (by omega)
       have HSB:=hide (show Blk Z.drew g5 32 (cMad (.slice Ax i cx) (.slice At nt ct) (.slice none 0 0) (.slice none 0 0) k (.slice none 0 0))∧Blk Z.drew g8 35 #[.int .i64 r1, .int .i64 r2, .int .i64 r3] from ⟨HZ.out.1.bx.b5,HZ.out.2.1⟩)
       refine wp_region_mix (fun W=>Blk W g5 32 (cMad (.slice Ax i cx) (.slice At nt ct) (.slice none 0 0) (.slice none 0 0) k (.slice none 0 0))∧Blk W g8 35 #[.int .i64 r1, .int .i64 r2, .int .i64 r3]) [0,1,2,3,4,5,7,8,9,10,12,13,14,15,17] [0,1,2,3,4,5,7,8,9,10,12,13,14,15,6,11,16,17,18,19,20,21] mixed_ok (by kernel_rfl) ?_
       refine wpMix_q (v:=(.pointer (some ⟨g5,0,none⟩))) rfl rfl (fun _ _ _ h=>h) HSB.out ⟨rfl,fun _ _=>by simp [go_sem]⟩ ?_
       refine wpMix_q (v:=(.slice Ax i cx)) rfl rfl (fun _ _ _ h=>h) HSB.out ⟨rfl,fun _ h'=>by have a0:=h'.1.cell 0;simp only [List.getElem?_toArray,List.getElem?_cons_zero] at a0;simp [go_sem,a0]⟩ ?_
       refine wpMix_q (v:=(.pointer (some ⟨g8,0,none⟩))) rfl rfl (fun _ _ _ h=>h) HSB.out ⟨rfl,fun _ _=>by simp [go_sem]⟩ ?_
       refine wpMix_q (v:=(.int .i64 r1)) rfl rfl (fun _ _ _ h=>h) HSB.out ⟨rfl,fun _ h'=>by have a0:=h'.2.cell 0;simp only [List.getElem?_toArray,List.getElem?_cons_zero] at a0;simp [go_sem,a0]⟩ ?_
       refine wpMix_q (v:=(.int .i64 mx)) rfl rfl (fun _ _ _ h=>h) HSB.out ⟨rfl,fun _ _=>by simp [go_sem]⟩ ?_
       refine wpMix_q (v:=(.int .i64 mx1)) rfl rfl (fun _ _ _ h=>h) HSB.out ⟨rfl,fun _ _=>by simp [go_sem,tm1,w1]⟩ ?_
       simp only [List.getElem_toArray,List.getElem_cons_succ,List.getElem_cons_zero,Act.put,List.setIfInBounds_toArray,List.set_cons_succ,List.set_cons_zero]
       refine wpMix_q (v:=(.pointer (some ⟨g8,1,none⟩))) rfl rfl (fun _ _ _ h=>h) HSB.out ⟨rfl,fun _ _=>by simp [go_sem]⟩ ?_
       refine wpMix_q (v:=(.int .i64 r2)) rfl rfl (fun _ _ _ h=>h) HSB.out ⟨rfl,fun _ h'=>by have a1:=h'.2.cell 1;simp only [List.getElem?_toArray,List.getElem?_cons_zero,List.getElem?_cons_succ] at a1;simp [go_sem,a1]⟩ ?_
       refine wpMix_q (v:=(.int .i64 mx)) rfl rfl (fun _ _ _ h=>h) HSB.out ⟨rfl,fun _ _=>by simp [go_sem]⟩ ?_
       refine wpMix_q (v:=(.int .i64 mx1)) rfl rfl (fun _ _ _ h=>h) HSB.out ⟨rfl,fun _ _=>by simp [go_sem,tm1,w1]⟩ ?_
       refine wpMix_q (v:=(.pointer (some ⟨g8,2,none⟩))) rfl rfl (fun _ _ _ h=>h) HSB.out ⟨rfl,fun _ _=>by simp [go_sem]⟩ ?_
       refine wpMix_q (v:=(.int .i64 r3)) rfl rfl (fun _ _ _ h=>h) HSB.out ⟨rfl,fun _ h'=>by have a2:=h'.2.cell 2;simp only [List.getElem?_toArray,List.getElem?_cons_zero,List.getElem?_cons_succ] at a2;simp [go_sem,a2]⟩ ?_
       simp only [List.getElem_toArray,List.getElem_cons_succ,List.getElem_cons_zero,Act.put,List.setIfInBounds_toArray,List.set_cons_succ,List.set_cons_zero]
       refine wpMix_q (v:=(.int .i64 mx)) rfl rfl (fun _ _ _ h=>h) HSB.out ⟨rfl,fun _ _=>by simp [go_sem]⟩ ?_
       refine wpMix_q (v:=(.int .i64 mx1)) rfl rfl (fun _ _ _ h=>h) HSB.out ⟨rfl,fun _ _=>by simp [go_sem,tm1,w1]⟩ ?_
       simp only [List.getElem_toArray,List.getElem_cons_succ,List.getElem_cons_zero,Act.put,List.setIfInBounds_toArray,List.set_cons_succ,List.set_cons_zero]
       refine wpMix_n rfl rfl ?_
       go_wp2_with fail
       refine (HM.out.1 Z.drew).mono ?_
       rintro e W1 ⟨rfl,rfl⟩
       go_wp2_with fail
       refine ⟨fun _=>HSB.out,?_⟩
       refine wpMix_n rfl rfl ?_
       go_wp2_with fail
       refine (HM.out.2.1 Z.drew).mono ?_
       rintro e W1 ⟨rfl,rfl⟩
       go_wp2_with fail
       refine ⟨fun _=>HSB.out,?_⟩
       refine wpMix_n rfl rfl ?_
       go_wp2_with fail
       refine (HM.out.2.2.1 Z.drew).mono ?_
       rintro e W1 ⟨rfl,rfl⟩
       go_wp2_with fail
       refine ⟨fun _=>HSB.out,?_⟩
       refine wpMix_q (v:=(.agg #[.int .i64 o1, .int .i64 o2, .int .i64 o3])) rfl rfl (fun _ _ _ h=>h) HSB.out ⟨rfl,fun _ _=>by simp [go_sem]⟩ ?_
       have hal:Below Z.heap.size Z (Z.drew.alloc (.cells #[.int .i64 o1, .int .i64 o2, .int .i64 o3] 43)):=(Below.refl _ Z).drew.alloc (Nat.le_refl _) _
       have hS3:=HZ.out.1.below hal
       have hK3:=HZ.out.2.1.below hal HZ.out.2.1.lt
       have H3:=hide (And.intro hS3 hK3)
       clear hal hS3 hK3 w1
       refine wpMix_n rfl rfl ?_
       go_wp2_with fail
       refine ⟨fun _=>⟨H3.out.1.bx.b5,H3.out.2⟩,?_⟩
       refine wpMix_tail _ [_,_,_] (by kernel_rfl) rfl ?_
       have hbl:=H3.out.1.bx.bel.size
       refine wpList_append1 rfl _ _ _ rfl Tryz.underlying28 infoP rfl (by omega) encP_len encP_one rfl H3.out.1.p Z.heap.size 1 ((o1,o2,o3):Pt) rfl (Blk.new _ _ _) (by unfold maxLen;omega) (by omega) hbl ?_
       intro g6 cap6 w6 hown6 hg6 hB6 hat6 hgb6 hlt6
       have hS6:=H3.out.1.apP hg6 hown6
       have h61:=H3.out.1.bx.b5.grown hg6 (blk_own_ne9 H3.out.1.bx.b5 H3.out.1.p (show (43:TypeId)≠32 by decide))
       have c6:w6.cell? ⟨g5,0,none⟩=some (.slice Ax i cx):=h61.cell 0
       have f6:=h61.frozen 0
       have hl6:=h61.lt
       rw [←HM.out.2.2.2] at hS6
       have H6:=hide hS6
       clear hown6 hg6 hB6 hat6 hgb6 hlt6 hS6 h61 hbl HSB
       go_wp2
       go_roundw
       case rel=>repeat (first | exact ⟨i+1,_,by omega,by go_num,H6.out⟩ | (refine ⟨?_,rfl⟩;exact ⟨i+1,_,by omega,by go_num,H6.out⟩) | apply Exists.intro)
       case measure=>(simp [intOf];try omega)
     ·skip
      obtain rfl:i=NN:=by omega
      have i1:¬(i:Int) < (i:Int):=by omega
      obtain ⟨PP,hPP⟩:∃l,l=(List.range i).map (ptM s):=⟨_,rfl⟩
      rw [←hPP] at hS
      obtain ⟨vp,hvp⟩:∃v,v=Value.slice Ax i cx:=⟨_,rfl⟩
      rw [←hvp] at hS
      have hBR:=HK.out.2.2.2.1
      have ke:=edges9_any At ct T V (hS.t.sl encN3_len (Nat.le_refl _)) (by have:=hBR.few;omega)
      have heb:=edgesE_le T
      have hzz:=HK.out.2.2.2.2.2.1
      obtain ⟨E,hE⟩:∃E,E=edgesE T:=⟨_,rfl⟩
      obtain ⟨nE,hnE⟩:∃n,n=E.length:=⟨_,rfl⟩
      rw [←hzz,←hE,←hnE] at ke
      rw [←hzz,←hE,←hnE] at heb
      have hE1:1≤nE:=by rw [hnE,hE];exact hBR.edg
      have hEb:nE≤972:=by omega
      have HV3:=hide (And.intro hS (And.intro ke (And.intro hvp (And.intro hPP (And.intro hE hnE)))))
      clear hS ke hvp hPP hE hnE hzz heb hBR t3 t4
      go_upto_region 16 with (go_at_call 26;refine HV3.out.2.1.mono ?_;rintro e X ⟨Ae,ce,rfl,hse,hBX⟩;have H3:=hide (And.intro hse hBX);clear hse hBX)
      have hSX:=HV3.out.1.below H3.out.2
      have hEX:EdgM X X.heap.size Ae E g5:=EdgM.new H3.out.1 hSX.bx.b5 HV3.out.2.2.1 rfl rfl rfl rfl (by rw [←HV3.out.2.2.2.2.2];exact hE1)
      have hXw:=hSX.bx.bel.size
      have hXg:g5 < X.heap.size:=hSX.bx.b5.lt
      have HX:=hide (And.intro hSX hEX)
      clear hSX hEX
      go_loopw [11] (fun iv wr=>∃(j:Nat) (vc:Value),j≤nc∧j≤12∧iv= .int .i64 j∧MadS w wr g1 g2 g5 (cShp K B S0 Ap np cp Ac nc cc Ao no oc Ad nd dc) (cCtl none 0 0 none 0 0 none 0 0 none 0 0 0 none 0 0) vp (.slice At nt ct) vc (.slice none 0 0) (.slice none 0 0) k i nt j 0 PP T ((s.creases.take j).map (creM E)) [] []∧Own encE2 2 56 wr X.heap.size vc j ((s.creases.take j).map (creM E))∧EdgM wr X.heap.size Ae E g5∧X.heap.size≤wr.heap.size) (fun iv _=>12 - (intOf iv).toNat)
      case atStart=>exact ⟨0,_,by omega,by omega,rfl,HX.out.1,Own.nil,HX.out.2,Nat.le_refl _⟩
      case round=>
       obtain ⟨j,vc,hj,hj12,rfl,hS,hO,hEd,hzX⟩:=hrel
       obtain ⟨V,rfl⟩:∃x,x=wr:=⟨_,rfl⟩
       obtain ⟨Av,cv,rfl⟩:=hO.form
       have c4:V.cell? ⟨g1,4,none⟩=some (.slice Ac nc cc):=hS.bx.b1.cell 4
       have hg1l:=hS.bx.b1.lt
       by_cases hlt:j < nc∧j < 12
       ·obtain ⟨hl5,hl6⟩:=hlt
        have j1:(j:Int) < (nc:Int):=by omega
        have j2:(j:Int) < 12:=by omega
        have hcne:s.creases≠ []:=fun h=>by have:=HN.out.2.1;rw [h] at this;simp at this;omega
        obtain ⟨x,hx⟩:∃x,s.creases[j]? =some x:=⟨_,List.getElem?_eq_getElem (by rw [←HN.out.2.1];exact hl5)⟩
        obtain ⟨bc,oo,hA,hbc,d0⟩:=((HK.out.2.2.1.c hcne).below hS.bx.bel).z9 hx
        have hbcV:bc < V.heap.size:=Nat.lt_of_lt_of_le hbc hS.bx.bel.size
        subst hA
        obtain ⟨me,hme⟩:∃n:Nat,n=(x % (nE:Int)).toNat:=⟨_,rfl⟩
        have hm1:=Int.emod_nonneg x (show (nE:Int)≠0 by omega)
        have hm2:=Int.emod_lt_of_pos x (show (0:Int) < nE by omega)
        have hm3:x % (nE:Int)=(me:Int):=by omega
        have hm4:(me:Int) < (nE:Int):=by omega
        have km:=fun W=>mod1_any x nE (by omega) (by omega) W
        simp only [hm3] at km
        obtain ⟨y,hy⟩:∃y,E[me]? =some y:=⟨_,List.getElem?_eq_getElem (by rw [←HV3.out.2.2.2.2.2];omega)⟩
        have hcr:creM E x=if x.tmod 2=0 then (y.2,y.1) else y:=by
         unfold creM
         rw [←HV3.out.2.2.2.2.2,←hme,List.getD_eq_getElem?_getD,hy]
         rfl
        have htk:(s.creases.take (j+1)).map (creM E)=(s.creases.take j).map (creM E)++ [if x.tmod 2=0 then (y.2,y.1) else y]:=by
         rw [List.take_add_one,hx,List.map_append,Option.toList_some,List.map_singleton,hcr]
        obtain ⟨be,oe,hA,hbe,e0,e1⟩:=hEd.s.e2 hy
        subst hA
        have hbeV:be < V.heap.size:=Nat.lt_of_lt_of_le hbe hzX
        obtain ⟨y1,y2⟩:=y
        simp only at e0 e1 htk
        have HE:=hide (And.intro hS (And.intro hO (And.intro hEd (And.intro htk km))))
        clear hS hO hEd htk km hm1 hm2 hm3 hme hy hcr hx hbc hbe hcne hl5 hl6
        go_upto_region 19 with (go_at_call 17;refine (HE.out.2.2.2.2 V).mono ?_;rintro e Y1 ⟨rfl,hw⟩;obtain rfl:V=Y1:=hw.symm)
        obtain ⟨U,hU⟩:∃W,W=V.alloc (.cells #[.int .i64 y1, .int .i64 y2] 56):=⟨_,rfl⟩
        obtain ⟨g12,hg12⟩:∃n,n=V.heap.size:=⟨_,rfl⟩
        rw [←hU,←hg12]
        have hBU:Below V.heap.size V U:=by rw [hU];exact (Below.refl _ V).alloc (Nat.le_refl _) _
        have hKU:Blk U g12 56 #[.int .i64 y1, .int .i64 y2]:=by rw [hU,hg12];exact Blk.new V _ _
        have hge:g12 ≥ V.heap.size:=by omega
        have c4':U.cell? ⟨g1,4,none⟩=some (.slice (some ⟨bc,oo,none⟩) nc cc):=(hBU.cell hg1l).trans c4
        have d0':U.cell? ⟨bc,oo+j,none⟩=some (.int .i64 x):=(hBU.cell hbcV).trans d0
        have hg1U:g1 < U.heap.size:=Nat.lt_of_lt_of_le hg1l hBU.size
        have hbcU:bc < U.heap.size:=Nat.lt_of_lt_of_le hbcV hBU.size
        have k0:=hKU.cell 0
        have k1:=hKU.cell 1
        have kf0:=hKU.frozen 0
        have kf1:=hKU.frozen 1
        have hkl:=hKU.lt
        have HU:=hide (And.intro hKU (And.intro hBU hge))
        clear hKU hBU hge hU hg12 c4 d0 e0 e1 hg1l hbcV hbeV hm4
        obtain ⟨z,hz⟩:∃z,x.tmod 2=z:=⟨_,rfl⟩
        have hzb: -1≤z∧z≤1:=by
         have h1:=Int.tmod_lt_of_pos x (show (0:Int) < 2 by decide)
         have h2:=Int.lt_tmod_of_pos x (show (0:Int) < 2 by decide)
         omega
        have htk:=HE.out.2.2.2.1
        rw [hz] at htk
        by_cases hz0:z=0
        ·rw [if_pos hz0] at htk
         have HT:=hide htk
         clear htk
         go_upto_region 21 with fail
         obtain ⟨Z,hZ⟩:∃W,W=(U.setCell ⟨g12,0,none⟩ (.int .i64 y2)).setCell ⟨g12,1,none⟩ (.int .i64 y1):=⟨_,rfl⟩
         rw [←hZ]
         have hBZ:Below V.heap.size V Z:=by rw [hZ];exact (HU.out.2.1.setCell (p:=⟨g12,0,none⟩) HU.out.2.2 _).setCell (p:=⟨g12,1,none⟩) HU.out.2.2 _
         have hKZ:Blk Z g12 56 #[.int .i64 y2, .int .i64 y1]:=by rw [hZ];exact (HU.out.1.set_ 0 _).set_ 1 _
         clear hZ k0 k1 kf0 kf1 hkl c4' d0' hg1U hbcU
         have hSZ:=HE.out.1.below hBZ
         have hOZ:=HE.out.2.1.below hBZ (Nat.le_refl _)
         have hEZ:=HE.out.2.2.1.below hBZ hzX
         have hzZ:X.heap.size≤Z.heap.size:=Nat.le_trans hzX hBZ.size
         have k0:=hKZ.cell 0
         have k1:=hKZ.cell 1
         have hkl:=hKZ.lt
         have q2:Z.cell? ⟨g5,2,none⟩=some (.slice Av j cv):=hSZ.bx.b5.cell 2
         have hg5l:=hSZ.bx.b5.lt
         have HZ:=hide (And.intro hSZ (And.intro hOZ (And.intro hEZ hKZ)))
         clear hSZ hOZ hEZ hKZ hBZ
         go_wp2_with (at_builtin;refine wpList_append1 rfl _ _ _ rfl Tryz.underlying29 infoE2 rfl (by omega) encE2_len encE2_one rfl (HZ.out.2.1.alloc _) Z.heap.size 1 ((y2,y1):E2) rfl (Blk.new _ _ _) (by unfold maxLen;omega) (by omega) (by simp;omega) ?_;intro g6 cap6 w6 hown6 hg6 hB6 hat6 hgb6 hlt6;have hall:=(Below.refl Z.heap.size Z).alloc (Nat.le_refl _) (.cells #[.int .i64 y2, .int .i64 y1] 56);have hS6:=(HZ.out.1.below hall).apC hg6 (hown6.base_le hXw);have h61:=(HZ.out.1.bx.b5.below hall HZ.out.1.bx.b5.lt).grown hg6 (blk_own_ne9 (HZ.out.1.bx.b5.below hall HZ.out.1.bx.b5.lt) (HZ.out.2.1.alloc _) (show (56:TypeId)≠32 by decide));have hO6:=hown6.step (grown_set9 w6 g5 2 (.slice (some ⟨g6,0,none⟩) (j+1) cap6)) (cells_ne9 h61 (by decide));have hE6:=((HZ.out.2.2.1.below hall hzZ).below hB6 (Nat.le_refl _)).set (Nat.le_trans hzZ (Nat.le_trans hall.size hg6.size)) 2 (.slice (some ⟨g6,0,none⟩) (j+1) cap6);have hz6:X.heap.size≤(w6.setCell ⟨g5,2,none⟩ (.slice (some ⟨g6,0,none⟩) (j+1) cap6)).heap.size:=Nat.le_trans (Nat.le_trans hzZ (Nat.le_trans hall.size hg6.size)) (by simp);have f6:=h61.frozen 2;have hl6:=h61.lt;have c6:=h61.cell 2;rw [←HT.out] at hS6 hO6;have H6:=hide (And.intro hS6 (And.intro hO6 (And.intro hE6 hz6)));clear hown6 hg6 hB6 hat6 hgb6 hlt6 hS6 h61 hO6 hE6 hz6 hall)
         go_roundw
         case rel=>repeat (first | exact ⟨j+1,_,by omega,by omega,by go_num,H6.out.1,H6.out.2.1,H6.out.2.2.1,H6.out.2.2.2⟩ | (refine ⟨?_,rfl⟩;exact ⟨j+1,_,by omega,by omega,by go_num,H6.out.1,H6.out.2.1,H6.out.2.2.1,H6.out.2.2.2⟩) | apply Exists.intro)
         case measure=>(simp [intOf];try omega)
        ·rw [if_neg hz0] at htk
         have HT:=hide htk
         clear htk
         go_upto_region 21 with fail
         obtain ⟨Z,hZ⟩:∃W,W=U:=⟨_,rfl⟩
         rw [←hZ]
         have hBZ:Below V.heap.size V Z:=by rw [hZ];exact HU.out.2.1
         have hKZ:Blk Z g12 56 #[.int .i64 y1, .int .i64 y2]:=by rw [hZ];exact HU.out.1
         clear hZ k0 k1 kf0 kf1 hkl c4' d0' hg1U hbcU
         have hSZ:=HE.out.1.below hBZ
         have hOZ:=HE.out.2.1.below hBZ (Nat.le_refl _)
         have hEZ:=HE.out.2.2.1.below hBZ hzX
         have hzZ:X.heap.size≤Z.heap.size:=Nat.le_trans hzX hBZ.size
         have k0:=hKZ.cell 0
         have k1:=hKZ.cell 1
         have hkl:=hKZ.lt
         have q2:Z.cell? ⟨g5,2,none⟩=some (.slice Av j cv):=hSZ.bx.b5.cell 2
         have hg5l:=hSZ.bx.b5.lt
         have HZ:=hide (And.intro hSZ (And.intro hOZ (And.intro hEZ hKZ)))
         clear hSZ hOZ hEZ hKZ hBZ
         go_wp2_with (at_builtin;refine wpList_append1 rfl _ _ _ rfl Tryz.underlying29 infoE2 rfl (by omega) encE2_len encE2_one rfl (HZ.out.2.1.alloc _) Z.heap.size 1 ((y1,y2):E2) rfl (Blk.new _ _ _) (by unfold maxLen;omega) (by omega) (by simp;omega) ?_;intro g6 cap6 w6 hown6 hg6 hB6 hat6 hgb6 hlt6;have hall:=(Below.refl Z.heap.size Z).alloc (Nat.le_refl _) (.cells #[.int .i64 y1, .int .i64 y2] 56);have hS6:=(HZ.out.1.below hall).apC hg6 (hown6.base_le hXw);have h61:=(HZ.out.1.bx.b5.below hall HZ.out.1.bx.b5.lt).grown hg6 (blk_own_ne9 (HZ.out.1.bx.b5.below hall HZ.out.1.bx.b5.lt) (HZ.out.2.1.alloc _) (show (56:TypeId)≠32 by decide));have hO6:=hown6.step (grown_set9 w6 g5 2 (.slice (some ⟨g6,0,none⟩) (j+1) cap6)) (cells_ne9 h61 (by decide));have hE6:=((HZ.out.2.2.1.below hall hzZ).below hB6 (Nat.le_refl _)).set (Nat.le_trans hzZ (Nat.le_trans hall.size hg6.size)) 2 (.slice (some ⟨g6,0,none⟩) (j+1) cap6);have hz6:X.heap.size≤(w6.setCell ⟨g5,2,none⟩ (.slice (some ⟨g6,0,none⟩) (j+1) cap6)).heap.size:=Nat.le_trans (Nat.le_trans hzZ (Nat.le_trans hall.size hg6.size)) (by simp);have f6:=h61.frozen 2;have hl6:=h61.lt;have c6:=h61.cell 2;rw [←HT.out] at hS6 hO6;have H6:=hide (And.intro hS6 (And.intro hO6 (And.intro hE6 hz6)));clear hown6 hg6 hB6 hat6 hgb6 hlt6 hS6 h61 hO6 hE6 hz6 hall)
         go_roundw
         case rel=>repeat (first | exact ⟨j+1,_,by omega,by omega,by go_num,H6.out.1,H6.out.2.1,H6.out.2.2.1,H6.out.2.2.2⟩ | (refine ⟨?_,rfl⟩;exact ⟨j+1,_,by omega,by omega,by go_num,H6.out.1,H6.out.2.1,H6.out.2.2.1,H6.out.2.2.2⟩) | apply Exists.intro)
         case measure=>(simp [intOf];try omega)
       ·skip
        have htk:(s.creases.take j).map (creM E)=(s.creases.take 12).map (creM E):=by
         congr 1
         by_cases h12:j=12
         ·rw [h12]
         ·rw [List.take_of_length_le (by rw [←HN.out.2.1];omega),List.take_of_length_le (by rw [←HN.out.2.1];omega)]
        rw [htk] at hS
        obtain ⟨CC,hCC⟩:∃l,l=(s.creases.take 12).map (creM E):=⟨_,rfl⟩
        rw [←hCC] at hS
        obtain ⟨vc,hvc⟩:∃v,v=Value.slice Av j cv:=⟨_,rfl⟩
        rw [←hvc] at hS
        have HV4:=hide (And.intro hS (And.intro hvc hCC))
        clear hS hO hEd hvc hCC htk
        go_upto_region 16 with fail
        go_cut [125] (fun v wx=>v= .bool false∧wx=V)
        case first=>
         by_cases hcj:j < nc
         ·have j1:(j:Int) < (nc:Int):=by omega
          have j2:¬(j:Int) < 12:=by omega
          go_wp2_with fail
          go_meet
          case rel=>exact ⟨by first | rfl | (refine congrArg Value.bool (decide_eq_false ?_);omega),rfl⟩
         ·have j1:¬(j:Int) < (nc:Int):=by omega
          go_wp2_with fail
          go_meet
          case rel=>exact ⟨by first | rfl | (refine congrArg Value.bool (decide_eq_false ?_);omega),rfl⟩
        case rest=>
         obtain ⟨rfl,hwc⟩:=hcut
         obtain rfl:V=wc:=hwc.symm
         clear hlt c4 hg1l
         go_upto_region 23 with fail
         have hNN1:1≤i:=HK.out.2.2.2.1.some
         go_loopw [13] (fun iv wr=>∃(q:Nat) (vo:Value),q≤no∧q≤4∧iv= .int .i64 q∧MadS w wr g1 g2 g5 (cShp K B S0 Ap np cp Ac nc cc Ao no oc Ad nd dc) (cCtl none 0 0 none 0 0 none 0 0 none 0 0 0 none 0 0) vp (.slice At nt ct) vc vo (.slice none 0 0) k i nt j q PP T CC ((s.corners.take q).map (fun x=>x % (i:Int))) []) (fun iv _=>4 - (intOf iv).toNat)
         case atStart=>exact ⟨0,_,by omega,by omega,rfl,HV4.out.1⟩
         case round=>
          obtain ⟨q,vo,hq,hq4,rfl,hS⟩:=hrel
          obtain ⟨V,rfl⟩:∃x,x=wr:=⟨_,rfl⟩
          obtain ⟨Aw,cw,rfl⟩:=hS.o.form
          have c5:V.cell? ⟨g1,5,none⟩=some (.slice Ao no oc):=hS.bx.b1.cell 5
          have hg1l:=hS.bx.b1.lt
          by_cases hlt:q < no∧q < 4
          ·obtain ⟨hl5,hl6⟩:=hlt
           have j1:(q:Int) < (no:Int):=by omega
           have j2:(q:Int) < 4:=by omega
           have hone:s.corners≠ []:=fun h=>by have:=HN.out.2.2.1;rw [h] at this;simp at this;omega
           obtain ⟨x,hx⟩:∃x,s.corners[q]? =some x:=⟨_,List.getElem?_eq_getElem (by rw [←HN.out.2.2.1];exact hl5)⟩
           obtain ⟨bo,oo,hA,hbo,d0⟩:=((HK.out.2.2.1.o hone).below hS.bx.bel).z9 hx
           have hboV:bo < V.heap.size:=Nat.lt_of_lt_of_le hbo hS.bx.bel.size
           subst hA
           have km:=fun W=>mod1_any x i (by omega) (by omega) W
           obtain ⟨o1,ho1⟩:∃o,o=x % (i:Int):=⟨_,rfl⟩
           have htk:(s.corners.take (q+1)).map (fun x=>x % (i:Int))=(s.corners.take q).map (fun x=>x % (i:Int))++ [o1]:=by
            rw [List.take_add_one,hx,List.map_append,Option.toList_some,List.map_singleton,ho1]
           simp only [←ho1] at km
           have q3:V.cell? ⟨g5,3,none⟩=some (.slice Aw q cw):=hS.bx.b5.cell 3
           have hg5l:=hS.bx.b5.lt
           have HE:=hide (And.intro hS (And.intro htk km))
           have HM:=hide (And.intro q3 (And.intro hg5l (And.intro c5 (And.intro hg1l (And.intro d0 hboV)))))
           clear hS htk km ho1 hx hbo hone hl5 hl6 d0 hboV q3 hg5l
           go_upto_region 25 with fail
           clear c5 hg1l
           have HSB:=hide (show Below V.heap.size V V.drew from (Below.refl _ V).drew)
           refine wp_region_mix (fun W=>Below V.heap.size V W) [0,1,2,3,4,5,6,7] [0,1,2,3,4,5,6,7,8,9,10,11,12] mixed_ok (by kernel_rfl) ?_
           refine wpMix_q (v:=(.pointer (some ⟨g5,3,none⟩))) rfl rfl (fun _ _ _ h=>h) HSB.out ⟨rfl,fun _ _=>by simp [go_sem]⟩ ?_
           refine wpMix_q (v:=(.slice Aw q cw)) rfl rfl (fun _ _ _ h=>h) HSB.out ⟨rfl,fun _ h'=>by have a0:=(h'.cell (p:=⟨g5,3,none⟩) HM.out.2.1).trans HM.out.1;simp [go_sem,a0]⟩ ?_
           refine wpMix_q (v:=(.pointer (some ⟨g1,5,none⟩))) rfl rfl (fun _ _ _ h=>h) HSB.out ⟨rfl,fun _ _=>by simp [go_sem]⟩ ?_
           refine wpMix_q (v:=(.slice (some ⟨bo,oo,none⟩) no oc)) rfl rfl (fun _ _ _ h=>h) HSB.out ⟨rfl,fun _ h'=>by have a0:=(h'.cell (p:=⟨g1,5,none⟩) HM.out.2.2.2.1).trans HM.out.2.2.1;simp [go_sem,a0]⟩ ?_
           refine wpMix_q (v:=(.int .i64 q)) rfl rfl (fun _ _ _ h=>h) HSB.out ⟨rfl,fun _ _=>by simp [go_sem]⟩ ?_
           refine wpMix_q (v:=(.pointer (some ⟨bo,oo+q,none⟩))) rfl rfl (fun _ _ _ h=>h) HSB.out ⟨rfl,fun _ _=>by simp [go_sem,j1]⟩ ?_
           simp only [List.getElem_toArray,List.getElem_cons_succ,List.getElem_cons_zero,Act.put,List.setIfInBounds_toArray,List.set_cons_succ,List.set_cons_zero]
           refine wpMix_q (v:=(.int .i64 x)) rfl rfl (fun _ _ _ h=>h) HSB.out ⟨rfl,fun _ h'=>by have a0:=(h'.cell (p:=⟨bo,oo+q,none⟩) HM.out.2.2.2.2.2).trans HM.out.2.2.2.2.1;simp [go_sem,a0]⟩ ?_
           refine wpMix_q (v:=(.int .i64 i)) rfl rfl (fun _ _ _ h=>h) HSB.out ⟨rfl,fun _ _=>by simp [go_sem]⟩ ?_
           simp only [List.getElem_toArray,List.getElem_cons_succ,List.getElem_cons_zero,Act.put,List.setIfInBounds_toArray,List.set_cons_succ,List.set_cons_zero]
           refine wpMix_n rfl rfl ?_
           go_wp2_with fail
           refine (HE.out.2.2 V.drew).mono ?_
           rintro e W1 ⟨rfl,hW⟩
           obtain rfl:V.drew=W1:=hW.symm
           go_wp2_with fail
           refine ⟨fun _=>HSB.out,?_⟩
           have hal:Below V.heap.size V (V.drew.alloc (.cells #[.int .i64 o1] 3)):=(Below.refl _ V).drew.alloc (Nat.le_refl _) _
           have hS3:=HE.out.1.below hal
           have H3:=hide (And.intro hS3 hal)
           clear hal hS3
           refine wpMix_n rfl rfl ?_
           go_wp2_with fail
           refine ⟨fun _=>H3.out.2,?_⟩
           refine wpMix_tail _ [_,_,_] (by kernel_rfl) rfl ?_
           have hbl:=H3.out.1.bx.bel.size
           refine wpList_append1 rfl _ _ _ rfl Tryz.underlying23 infoI9 rfl (by omega) encZ9_len encZ9_one rfl H3.out.1.o V.heap.size 1 (o1:Int) rfl (Blk.new _ _ _) (by unfold maxLen;omega) (by omega) hbl ?_
           intro g6 cap6 w6 hown6 hg6 hB6 hat6 hgb6 hlt6
           have hS6:=H3.out.1.apO hg6 hown6
           have h61:=H3.out.1.bx.b5.grown hg6 (blk_own_ne9 H3.out.1.bx.b5 H3.out.1.o (show (3:TypeId)≠32 by decide))
           have c6:w6.cell? ⟨g5,3,none⟩=some (.slice Aw q cw):=h61.cell 3
           have f6:=h61.frozen 3
           have hl6:=h61.lt
           rw [←HE.out.2.1] at hS6
           have H6:=hide hS6
           clear hown6 hg6 hB6 hat6 hgb6 hlt6 hS6 h61 hbl HSB
           go_wp2
           go_roundw
           case rel=>repeat (first | exact ⟨q+1,_,by omega,by omega,by go_num,H6.out⟩ | (refine ⟨?_,rfl⟩;exact ⟨q+1,_,by omega,by omega,by go_num,H6.out⟩) | apply Exists.intro)
           case measure=>(simp [intOf];try omega)
          ·skip
           have htk:(s.corners.take q).map (fun x=>x % (i:Int))=(s.corners.take 4).map (fun x=>x % (i:Int)):=by
            congr 1
            by_cases h12:q=4
            ·rw [h12]
            ·rw [List.take_of_length_le (by rw [←HN.out.2.2.1];omega),List.take_of_length_le (by rw [←HN.out.2.2.1];omega)]
           rw [htk] at hS
           obtain ⟨OO,hOO⟩:∃l,l=(s.corners.take 4).map (fun x=>x % (i:Int)):=⟨_,rfl⟩
           rw [←hOO] at hS
           obtain ⟨vo,hvo⟩:∃v,v=Value.slice Aw q cw:=⟨_,rfl⟩
           rw [←hvo] at hS
           have HV5:=hide (And.intro hS (And.intro hvo hOO))
           clear hS hvo hOO htk
           go_upto_region 23 with fail
           go_cut [165] (fun v wx=>v= .bool false∧wx=V)
           case first=>
            by_cases hcj:q < no
            ·have j1:(q:Int) < (no:Int):=by omega
             have j2:¬(q:Int) < 4:=by omega
             go_wp2_with fail
             go_meet
             case rel=>exact ⟨by first | rfl | (refine congrArg Value.bool (decide_eq_false ?_);omega),rfl⟩
            ·have j1:¬(q:Int) < (no:Int):=by omega
             go_wp2_with fail
             go_meet
             case rel=>exact ⟨by first | rfl | (refine congrArg Value.bool (decide_eq_false ?_);omega),rfl⟩
           case rest=>
            obtain ⟨rfl,hwc⟩:=hcut
            obtain rfl:V=wc:=hwc.symm
            clear hlt c5 hg1l
            obtain ⟨m0,hm0⟩:∃m:Nat,m=3*nt / 2:=⟨_,rfl⟩
            obtain ⟨n3,hn3⟩:∃m:Nat,m=3*nt:=⟨_,rfl⟩
            have u1:3*(nt:Int)=(n3:Int):=by omega
            have u2:(n3:Int) / 2=(m0:Int):=by omega
            have u3:(n3:Int).tdiv 2=(m0:Int):=by rw [Int.tdiv_eq_ediv_of_nonneg (by omega)];omega
            have m0b:m0≤486:=by omega
            have hnb:n3≤972:=by omega
            have Hm0:=hide hm0
            clear hm0 hn3
            go_upto_region 28 with fail
            clear u1 u2 u3 hnb
            obtain ⟨BD,hBD⟩:∃n,n=V.heap.size:=⟨_,rfl⟩
            have HBD:=hide (show w.heap.size≤BD∧BD≤V.heap.size∧∀r,vp.ownBlock=some r→r < BD by rw [hBD];exact ⟨HV5.out.1.bx.bel.size,Nat.le_refl _,fun r hr=>(HV5.out.1.p.blk r hr).2⟩)
            clear hBD
            go_loopw [14,15] (fun mv rv wr=>∃(r m:Nat) (vd:Value),r≤k∧rv= .int .i64 r∧mv= .int .i64 m∧m=4^r*m0∧MadS w wr g1 g2 g5 (cShp K B S0 Ap np cp Ac nc cc Ao no oc Ad nd dc) (cCtl none 0 0 none 0 0 none 0 0 none 0 0 0 none 0 0) vp (.slice At nt ct) vc vo vd k i nt j q PP T CC OO (if nd=0 then [] else (List.range r).map (detM s))∧Pcs encP 3 43 28 wr BD vd (if nd=0 then [] else (List.range r).map (detM s))∧BD≤wr.heap.size) (fun _ rv _=>k - (intOf rv).toNat)
            case atStart=>exact ⟨0,m0,_,by omega,rfl,rfl,by simp,by simpa using HV5.out.1,by simpa using Pcs.nil,HBD.out.2.1⟩
            case round=>
             obtain ⟨r,m,vd,hr,rfl,rfl,hm,hS,hPB,hBz⟩:=hrel
             obtain ⟨V0,rfl⟩:∃x,x=wr:=⟨_,rfl⟩
             have mB:m≤124416:=by
              have key:∀r:Nat,r≤4→4^r≤256:=by decide
              rw [hm]
              exact Nat.mul_le_mul (key r (by omega)) m0b
             have c4:V0.cell? ⟨g5,4,none⟩=some (.int .i64 k):=hS.bx.b5.cell 4
             have hg5l:=hS.bx.b5.lt
             have c6:V0.cell? ⟨g1,6,none⟩=some (.slice Ad nd dc):=hS.bx.b1.cell 6
             have hg1l:=hS.bx.b1.lt
             by_cases hlt:r < k∧0 < nd
             ·obtain ⟨hrk,hnd⟩:=hlt
              have j1:(r:Int) < (k:Int):=by omega
              have j2:(0:Int) < (nd:Int):=by omega
              have hdne:s.details≠ []:=fun h=>by have:=HN.out.2.2.2;rw [h] at this;simp at this;omega
              rw [if_neg (show¬nd=0 by omega)] at hS hPB
              have HPB:=hide (And.intro hPB hBz)
              clear hPB hBz
              obtain ⟨M,hM⟩:∃M,M=min m (40*(r+1)):=⟨_,rfl⟩
              obtain ⟨F,hF⟩:∃F:Nat→Pt,F=fun p=>((s.details.getD ((p+r) % s.details.length) (0,0,0)).1.tmod 20,(s.details.getD ((p+r) % s.details.length) (0,0,0)).2.1.tmod 20,(s.details.getD ((p+r) % s.details.length) (0,0,0)).2.2.tmod 20):=⟨_,rfl⟩
              have hdet:detM s r=(List.range M).map F:=by
               have e1:=HK.out.2.2.2.2.2.2.1
               have e2:=HK.out.2.2.2.2.2.1
               unfold detM
               rw [←e1,←e2,←Hm0.out,←hm,←hM,hF]
              have hM1:M≤m:=by omega
              have hM2:M≤40*(r+1):=by omega
              have hM3:M=m∨M=40*(r+1):=by omega
              have hVw:=hS.bx.bel.size
              have HS5:=hide (And.intro hS (And.intro hdet (And.intro hm hF)))
              clear hS hdet hm hF hM
              go_upto_region 32 with fail
              clear c4 c6 hg1l hg5l
              go_loopw [16,17] (fun dv pv wz=>∃(p:Nat),p≤M∧pv= .int .i64 p∧Own encP 3 43 wz V0.heap.size dv p ((List.range p).map F)∧Below V0.heap.size V0 wz) (fun _ pv _=>M - (intOf pv).toNat)
              case atStart=>exact ⟨0,by omega,rfl,Own.nil,Below.refl _ _⟩
              case round=>
               obtain ⟨p,hp,rfl,hO,hB⟩:=hrel
               obtain ⟨V,rfl⟩:∃x,x=wr:=⟨_,rfl⟩
               obtain ⟨Ax,cx,rfl⟩:=hO.form
               by_cases hlt:p < M
               ·have j3:(p:Int) < (m:Int):=by omega
                have j4:(p:Int) < 40*((r:Int)+1):=by omega
                obtain ⟨md,hmd⟩:∃n:Nat,n=(p+r) % nd:=⟨_,rfl⟩
                have hmn:md < nd:=by rw [hmd];exact Nat.mod_lt _ (by omega)
                have tm:((p:Int)+(r:Int)).tmod (nd:Int)=(md:Int):=by
                 rw [Int.tmod_eq_emod_of_nonneg (by omega),hmd]
                 exact (Int.natCast_emod _ _).symm
                have tm':((p:Int)+(r:Int)) % (nd:Int)=(md:Int):=by
                 rw [hmd]
                 exact (Int.natCast_emod _ _).symm
                have m1':(md:Int) < (nd:Int):=by omega
                have np0:¬nd=0:=by omega
                obtain ⟨qq,hqq⟩:∃x,s.details[md]? =some x:=⟨_,List.getElem?_eq_getElem (by rw [←HN.out.2.2.2];exact hmn)⟩
                have hgd:s.details.getD md (0,0,0)=qq:=by rw [List.getD_eq_getElem?_getD,hqq];rfl
                have hBw:Below w.heap.size w V:=HS5.out.1.bx.bel.trans (hB.mono hVw)
                obtain ⟨bp,op,hA,hbp,d0,d1,d2⟩:=((HK.out.2.2.1.d hdne).below hBw).n3 hqq
                subst hA
                have hbpV:bp < V.heap.size:=Nat.lt_of_lt_of_le hbp hBw.size
                have hSV:=HS5.out.1.below hB
                have c6:V.cell? ⟨g1,6,none⟩=some (.slice (some ⟨bp,op,none⟩) nd dc):=hSV.bx.b1.cell 6
                have hg1l:=hSV.bx.b1.lt
                obtain ⟨q1,q2,q3⟩:=qq
                simp only at d0 d1 d2
                obtain ⟨o1,ho1⟩:∃o,q1.tmod 20=o:=⟨_,rfl⟩
                obtain ⟨o2,ho2⟩:∃o,q2.tmod 20=o:=⟨_,rfl⟩
                obtain ⟨o3,ho3⟩:∃o,q3.tmod 20=o:=⟨_,rfl⟩
                have b1: -2097151≤o1∧o1≤2097151:=ho1▸tmod20 q1
                have b2: -2097151≤o2∧o2≤2097151:=ho2▸tmod20 q2
                have b3: -2097151≤o3∧o3≤2097151:=ho3▸tmod20 q3
                have hFp:(List.range (p+1)).map F=(List.range p).map F++ [(o1,o2,o3)]:=by
                 rw [List.range_succ,List.map_append,List.map_singleton,HS5.out.2.2.2]
                 simp only [←HN.out.2.2.2]
                 rw [←hmd,hgd]
                 dsimp only
                 rw [ho1,ho2,ho3]
                have HE:=hide (And.intro hO (And.intro hB hFp))
                have HR:=hide (And.intro c6 (And.intro hg1l (And.intro d0 (And.intro d1 (And.intro d2 hbpV)))))
                clear hO hB hFp hgd hqq hmd hbp hBw hSV c6 hg1l d0 d1 d2 hbpV
                go_upto_region 34 with fail
                have HSB:=hide (show Below V.heap.size V V.drew from (Below.refl _ V).drew)
                refine wp_region_mix (fun W=>Below V.heap.size V W) [0,1,2,3,4,5,6,7,8,9,10] [0,1,2,3,4,5,6,7,8,9,10,11,12] mixed_ok (by kernel_rfl) ?_
                refine wpMix_q (v:=(.pointer (some ⟨g1,6,none⟩))) rfl rfl (fun _ _ _ h=>h) HSB.out ⟨rfl,fun _ _=>by simp [go_sem]⟩ ?_
                refine wpMix_q (v:=(.slice (some ⟨bp,op,none⟩) nd dc)) rfl rfl (fun _ _ _ h=>h) HSB.out ⟨rfl,fun _ h'=>by have a0:=(h'.cell (p:=⟨g1,6,none⟩) HR.out.2.1).trans HR.out.1;simp [go_sem,a0]⟩ ?_
                refine wpMix_q (v:=(.int .i64 p)) rfl rfl (fun _ _ _ h=>h) HSB.out ⟨rfl,fun _ _=>by simp [go_sem]⟩ ?_
                refine wpMix_q (v:=(.int .i64 r)) rfl rfl (fun _ _ _ h=>h) HSB.out ⟨rfl,fun _ _=>by simp [go_sem]⟩ ?_
                refine wpMix_q (v:=(.int .i64 ((p:Int)+(r:Int)))) rfl rfl (fun _ _ _ h=>h) HSB.out ⟨rfl,fun _ _=>by have w1:IntKind.i64.wrap ((p:Int)+(r:Int))=(p:Int)+(r:Int):=IntWalk.i64_in _ (by omega);simp [go_sem,w1]⟩ ?_
                refine wpMix_q (v:=(.pointer (some ⟨g1,6,none⟩))) rfl rfl (fun _ _ _ h=>h) HSB.out ⟨rfl,fun _ _=>by simp [go_sem]⟩ ?_
                simp only [List.getElem_toArray,List.getElem_cons_succ,List.getElem_cons_zero,Act.put,List.setIfInBounds_toArray,List.set_cons_succ,List.set_cons_zero]
                refine wpMix_q (v:=(.slice (some ⟨bp,op,none⟩) nd dc)) rfl rfl (fun _ _ _ h=>h) HSB.out ⟨rfl,fun _ h'=>by have a0:=(h'.cell (p:=⟨g1,6,none⟩) HR.out.2.1).trans HR.out.1;simp [go_sem,a0]⟩ ?_
                refine wpMix_q (v:=(.int .i64 nd)) rfl rfl (fun _ _ _ h=>h) HSB.out ⟨rfl,fun _ _=>by simp [go_sem,Builtin.lenOf]⟩ ?_
                refine wpMix_q (v:=(.int .i64 md)) rfl rfl (fun _ _ _ h=>h) HSB.out ⟨rfl,fun _ _=>by simp [go_sem,np0,tm]⟩ ?_
                refine wpMix_q (v:=(.pointer (some ⟨bp,op+md*3,none⟩))) rfl rfl (fun _ _ _ h=>h) HSB.out ⟨rfl,fun _ _=>by simp [go_sem,m1']⟩ ?_
                refine wpMix_q (v:=(.agg #[.int .i64 q1, .int .i64 q2, .int .i64 q3])) rfl rfl (fun _ _ _ h=>h) HSB.out ⟨rfl,fun _ h'=>by have a0:=(h'.cell (p:=⟨bp,op+md*3,none⟩) HR.out.2.2.2.2.2).trans HR.out.2.2.1;have a1:=(h'.cell (p:=⟨bp,op+md*3+1,none⟩) HR.out.2.2.2.2.2).trans HR.out.2.2.2.1;have a2:=(h'.cell (p:=⟨bp,op+md*3+2,none⟩) HR.out.2.2.2.2.2).trans HR.out.2.2.2.2.1;simp [go_sem,a0,a1,a2]⟩ ?_
                simp only [List.getElem_toArray,List.getElem_cons_succ,List.getElem_cons_zero,Act.put,List.setIfInBounds_toArray,List.set_cons_succ,List.set_cons_zero]
                refine wpMix_n rfl rfl ?_
                go_wp2_with fail
                refine ⟨fun _=>HSB.out.alloc (Nat.le_refl _) _,?_⟩
                refine wpMix_tail _ [_] (by kernel_rfl) rfl ?_
                go_upto_region 35 with fail
                obtain ⟨U,hU⟩:∃W,W=(V.alloc (.cells #[.int .i64 q1, .int .i64 q2, .int .i64 q3] 35)).drew:=⟨_,rfl⟩
                obtain ⟨g18,hg18⟩:∃n,n=V.heap.size:=⟨_,rfl⟩
                have hBU:Below V.heap.size V U:=by rw [hU];exact ((Below.refl _ V).alloc (Nat.le_refl _) _).drew
                have hK9:Blk U g18 35 #[.int .i64 q1, .int .i64 q2, .int .i64 q3]:=by rw [hU,hg18];exact Blk.new V _ _
                rw [←hU,←hg18]
                obtain ⟨y0,y1,y2⟩:=hK9.three
                have hg9l:=hK9.lt
                have hOU:=HE.out.1.below hBU (Nat.le_refl _)
                have hBV0:=HE.out.2.1.trans (hBU.mono HE.out.2.1.size)
                have hzU:=hBV0.size
                have HU:=hide (And.intro hOU hBV0)
                clear hK9 hU hg18 hOU hBV0 hBU tm tm' HSB
                have w1:IntKind.i64.wrap o1=o1:=IntWalk.i64_in _ (by omega)
                have w2:IntKind.i64.wrap o2=o2:=IntWalk.i64_in _ (by omega)
                have w3:IntKind.i64.wrap o3=o3:=IntWalk.i64_in _ (by omega)
                go_wp2_with (at_builtin;refine wpList_append1 rfl _ _ _ rfl Tryz.underlying28 infoP rfl (by omega) encP_len encP_one rfl (HU.out.1.alloc _) U.heap.size 1 ((o1,o2,o3):Pt) rfl (Blk.new _ _ _) (by unfold maxLen;omega) (by omega) (by simp;omega) ?_;intro g6 cap6 w6 hown6 hg6 hB6 hat6 hgb6 hlt6;have hB7:=(HU.out.2.alloc hzU (.cells #[.int .i64 o1, .int .i64 o2, .int .i64 o3] 43)).trans hB6;have H6:=hide (And.intro hown6 hB7);clear hown6 hg6 hB6 hat6 hgb6 hlt6 hB7)
                go_roundw
                case rel=>repeat (first | exact ⟨p+1,by omega,by go_num,by rw [HE.out.2.2];exact H6.out.1,H6.out.2⟩ | (refine ⟨?_,rfl⟩;exact ⟨p+1,by omega,by go_num,by rw [HE.out.2.2];exact H6.out.1,H6.out.2⟩) | apply Exists.intro)
                case measure=>(simp [intOf];try omega)
               ·obtain rfl:p=M:=by omega
                have hSV:=HS5.out.1.below hB
                have HPV:=hide (And.intro (HPB.out.1.below hB (Nat.le_refl _)) (Nat.le_trans HPB.out.2 hB.size))
                rw [←HS5.out.2.1] at hO
                have hlen:(detM s r).length=p:=hO.1.symm
                have hdl:((List.range r).map (detM s)).length=r:=by rw [List.length_map,List.length_range]
                have hzV:=hB.size
                have HE:=hide (And.intro hSV (And.intro hO (And.intro hlen hdl)))
                clear hSV hO hlen hdl
                go_upto_region 32 with fail
                go_cut [205] (fun v wx=>v= .bool false∧wx=V)
                case first=>
                 by_cases hcj:p < m
                 ·have j3:(p:Int) < (m:Int):=by omega
                  have j4:¬(p:Int) < 40*((r:Int)+1):=by omega
                  go_wp2_with fail
                  go_meet
                  case rel=>exact ⟨by first | rfl | (refine congrArg Value.bool (decide_eq_false ?_);omega),rfl⟩
                 ·have j3:¬(p:Int) < (m:Int):=by omega
                  go_wp2_with fail
                  go_meet
                  case rel=>exact ⟨by first | rfl | (refine congrArg Value.bool (decide_eq_false ?_);omega),rfl⟩
                case rest=>
                 obtain ⟨rfl,hwc⟩:=hcut
                 obtain rfl:V=wc:=hwc.symm
                 obtain ⟨W0,hW0⟩:∃W,W=V.alloc (.cells #[.slice Ax p cx] 28):=⟨_,rfl⟩
                 have hBW:Below V.heap.size V W0:=by rw [hW0];exact (Below.refl _ V).alloc (Nat.le_refl _) _
                 have hSW:=HE.out.1.below hBW
                 have hOW:=HE.out.2.1.below hBW (Nat.le_refl _)
                 have hKW:Blk W0 V.heap.size 28 #[.slice Ax p cx]:=by rw [hW0];exact Blk.new _ _ _
                 obtain ⟨ss,hos,hps⟩:=HPV.out.1.below hBW (Nat.le_refl _)
                 rw [HE.out.2.2.2] at hos
                 obtain ⟨As,cs,rfl⟩:=hos.form
                 have q5:V.cell? ⟨g5,5,none⟩=some (.slice As r cs):=HE.out.1.bx.b5.cell 5
                 have hg5l:=HE.out.1.bx.b5.lt
                 have hwW:BD≤W0.heap.size:=Nat.le_trans HPV.out.2 hBW.size
                 have HW:=hide (And.intro hSW (And.intro hOW (And.intro hos (And.intro hps (And.intro hKW hW0)))))
                 clear hBW hSW hOW hKW hos hps hW0 hlt
                 go_upto_region 37 with (at_builtin;rw [←HW.out.2.2.2.2.2];refine wpList_append1 rfl _ _ _ rfl Tryz.underlying30 infoLP9 rfl (by omega) encS_len encS_one rfl HW.out.2.2.1 V.heap.size 1 (Ax,p,cx) rfl HW.out.2.2.2.2.1 (by unfold maxLen;omega) (by omega) hwW ?_;intro g6 cap6 w6 hown6 hg6 hB6 hat6 hgb6 hlt6;have hS6:=HW.out.1.apD2 HE.out.2.2.2 HE.out.2.2.1 (HW.out.2.2.1.base_le HBD.out.1) (fun i p hi=>by obtain ⟨A,c,h1,h2⟩:=HW.out.2.2.2.1 i p hi;exact ⟨A,c,h1,h2.base_le HBD.out.1⟩) (HW.out.2.1.base_le hVw) hg6 (hown6.base_le HBD.out.1);have hP6:Pcs encP 3 43 28 w6 BD (.slice (some ⟨g6,0,none⟩) (r+1) cap6) ((List.range r).map (detM s)++ [detM s r]):=Pcs.snoc (show (28:TypeId)≠43 by decide) (by rw [HE.out.2.2.2];exact HW.out.2.2.1) HW.out.2.2.2.1 (by rw [HE.out.2.2.1];exact HW.out.2.1.base_le HPB.out.2) hg6 (by rw [HE.out.2.2.2,HE.out.2.2.1];exact hown6);have h61:=HW.out.1.bx.b5.grown hg6 (blk_own_ne9 HW.out.1.bx.b5 HW.out.2.2.1 (show (28:TypeId)≠32 by decide));have f6:=h61.frozen 5;have hl6:=h61.lt;have c7:=h61.cell 5;have hP7:=hP6.turn (grown_set9 w6 g5 5 (.slice (some ⟨g6,0,none⟩) (r+1) cap6)) (fun t e=>cells_ne9 h61 (by rcases e with rfl | rfl <;>decide));have hz7:=Nat.le_trans hwW (Nat.le_trans hg6.size (grown_set9 w6 g5 5 (.slice (some ⟨g6,0,none⟩) (r+1) cap6)).size);have H6:=hide (And.intro hS6 (And.intro hP7 hz7));clear hown6 hg6 hB6 hat6 hgb6 hlt6 hS6 h61 hP6 hP7 hz7)
                 go_wp2
                 go_roundw
                 case rel=>repeat (first | exact ⟨r+1,m*4,_,by omega,by go_num,by go_num,by rw [HS5.out.2.2.1,Nat.pow_succ,Nat.mul_assoc,Nat.mul_assoc,Nat.mul_comm m0 4],by rw [if_neg (show¬nd=0 by omega),List.range_succ,List.map_append,List.map_singleton];exact H6.out⟩ | (refine ⟨?_,rfl⟩;exact ⟨r+1,m*4,_,by omega,by go_num,by go_num,by rw [HS5.out.2.2.1,Nat.pow_succ,Nat.mul_assoc,Nat.mul_assoc,Nat.mul_comm m0 4],by rw [if_neg (show¬nd=0 by omega),List.range_succ,List.map_append,List.map_singleton];exact H6.out⟩) | apply Exists.intro)
                 case measure=>(simp [intOf];try omega)
             ·have hD:(if nd=0 then [] else (List.range r).map (detM s))=(madeC s).details:=by
               show _=if s.details.length=0 then [] else (List.range (stM s)).map (detM s)
               rw [←HN.out.2.2.2,←HK.out.2.2.2.2.2.2.2.2]
               split
               ·rfl
               ·rw [show r=k by omega]
              rw [hD] at hS hPB
              obtain ⟨As,cs,rfl⟩:=hS.d.form
              obtain ⟨ndd,hndd⟩:∃n,n=(madeC s).details.length:=⟨_,rfl⟩
              rw [←hndd] at hS hPB
              have HPB:=hide (And.intro hPB hBz)
              clear hPB hBz
              have HD:=hide (And.intro hS (And.intro hD hndd))
              clear hS hD hm hndd
              go_upto_region 28 with fail
              go_cut [193] (fun v wx=>v= .bool false∧wx=V0)
              case first=>
               by_cases hcj:r < k
               ·have j1:(r:Int) < (k:Int):=by omega
                have j2:¬(0:Int) < (nd:Int):=by omega
                go_wp2_with fail
                go_meet
                case rel=>exact ⟨by first | rfl | (refine congrArg Value.bool (decide_eq_false ?_);omega),rfl⟩
               ·have j1:¬(r:Int) < (k:Int):=by omega
                go_wp2_with fail
                go_meet
                case rel=>exact ⟨by first | rfl | (refine congrArg Value.bool (decide_eq_false ?_);omega),rfl⟩
              case rest=>
               obtain ⟨rfl,hwc⟩:=hcut
               obtain rfl:V0=wc:=hwc.symm
               clear c4 c6 hg1l hg5l
               have hS:=HD.out.1
               obtain ⟨Ac',cc',hvc⟩:=hS.c.form
               obtain ⟨Ao',oc',hvo⟩:=hS.o.form
               have hlp:=HBD.out.2.2
               rw [HV3.out.2.2.1] at hlp
               have HLP:=hide hlp
               clear hlp
               rw [HV3.out.2.2.1,hvc,hvo] at hS
               obtain ⟨a0,a1,a2,a3,a4,a5⟩:=hS.bx.b5.six9
               have hg5l:=hS.bx.b5.lt
               obtain ⟨e0,e1,e2,e3,e4,e5⟩:=hS.bx.b2.six9
               have f0:=hS.bx.b2.frozen 0
               have f1:=hS.bx.b2.frozen 1
               have f2:=hS.bx.b2.frozen 2
               have f3:=hS.bx.b2.frozen 3
               have f4:=hS.bx.b2.frozen 4
               have f5:=hS.bx.b2.frozen 5
               have hg2l:=hS.bx.b2.lt
               have HS7:=hide hS
               clear hS hvc hvo
               go_wp2
               have hE:=(((((HS7.out.bx.b2.set_ 0 (.slice Ax i cx)).set_ 1 (.slice At nt ct)).set_ 2 (.slice Ac' j cc')).set_ 3 (.slice Ao' q oc')).set_ 4 (.int .i64 k)).set_ 5 (.slice As ndd cs)
               refine ret_at (v:=vCtl Ax i cx At nt ct Ac' j cc' Ao' q oc' k As ndd cs) (fun W=>Blk W g2 32 (cCtl Ax i cx At nt ct Ac' j cc' Ao' q oc' k As ndd cs)) hE (fun W hW=> ?_) rfl ?_
               ·obtain ⟨a0,a1,a2,a3,a4,a5⟩:=hW.six9
                simp [results,Tryz.results15,go_sem,a0,a1,a2,a3,a4,a5]
                try trivial
               ·refine HS7.out.resD HPB.out.1 ⟨HBD.out.1,HPB.out.2,HLP.out⟩ _ _ _ _ _ _ (madeC s) ?_ ?_ ?_ ?_ ?_ rfl
                ·rw [HV3.out.2.2.2.1]
                 show (List.range (baseN s.kind s.bits)).map (ptM s)=_
                 rw [HK.out.2.2.2.2.2.2.2.1]
                ·exact HK.out.2.2.2.2.2.2.1.symm
                ·rw [HV4.out.2.2,HV3.out.2.2.2.2.1,HK.out.2.2.2.2.2.2.1]
                 rfl
                ·rw [HV5.out.2.2,HK.out.2.2.2.2.2.2.2.1]
                 rfl
                ·show ((stM s:Nat):Int)=_
                 rw [HK.out.2.2.2.2.2.2.2.2]
end Go.Proofs.YtmemofonebphfaaGreat
