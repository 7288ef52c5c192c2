import Derived.Test.YtmemofonebphfaaGreatP30
import Derived.Test.YtmemofonebphfaaGreatP40
import Derived.Test.YtmemofonebphfaaGreatP41
import Derived.Test.YtmemofonebphfaaGreatP42
namespace Go.Proofs.YtmemofonebphfaaGreat
open Go.RowKit Go.Sort
structure CtE (w W:World) (g:Nat) (vp vt vc vo vd:Value) (c:Ctl):Prop where
 bel:Below w.heap.size w W
 b:Blk W g 32 (cMad vp vt vc vo c.steps vd)
 le:w.heap.size≤g
 p:Own encP 3 43 W w.heap.size vp c.points.length c.points
 t:Own encN3 3 35 W w.heap.size vt c.tris.length c.tris
 cr:Own encE2 2 56 W w.heap.size vc c.creases.length c.creases
 o:Own encZ9 1 3 W w.heap.size vo c.corners.length c.corners
 d:Pcs encP 3 43 28 W w.heap.size vd c.details
structure CtO (w W:World) (B g:Nat) (vp vt vc vo vd:Value) (c:Ctl):Prop where
 e:CtE w W g vp vt vc vo vd c
 lb:w.heap.size≤B∧B≤W.heap.size
 lp:∀r,vp.ownBlock=some r→r < B
 d:Pcs encP 3 43 28 W B vd c.details
section
variable {w W W':World} {B g:Nat} {vp vt vc vo vd:Value} {c:Ctl} {P T:List Pt} {C:List E2} {O:List Int} {D:List (List Pt)} {st:Int} {cs:Array Value}
theorem ctl_row (hb:Blk W g 32 cs) {t:TypeId} (ht:t≠32) (b:Nat):∀r,(some g:Option Nat)=some r→r < b∨∀cs,W.heap[r]? ≠some (.cells cs t (0,0)):=fun r e=>by
 cases e
 refine .inr fun cs hc=> ?_
 have hb:W.heap[g]? =some (.cells _ _ (0,0)):=hb
 rw [hb] at hc
 cases hc
 exact ht rfl
theorem cte_set (hbel:Below w.heap.size w W) (hb:Blk W g 32 cs) (hle:w.heap.size≤g) (hp:Own encP 3 43 W w.heap.size vp P.length P) (ht:Own encN3 3 35 W w.heap.size vt T.length T) (hc:Own encE2 2 56 W w.heap.size vc C.length C) (ho:Own encZ9 1 3 W w.heap.size vo O.length O) (hd:Pcs encP 3 43 28 W w.heap.size vd D)
  (i:Nat) (v:Value) (hv:cs.setIfInBounds i v=cMad vp vt vc vo st vd):CtE w (W.setCell ⟨g,i,none⟩ v) g vp vt vc vo vd ⟨P,T,C,O,st,D⟩:=by
 have hg:=grown_set9 W g i v
 refine ⟨hbel.trans (grown_bel hg hle hbel.size),?_,hle,hp.step hg (ctl_row hb (by decide) _),ht.step hg (ctl_row hb (by decide) _),hc.step hg (ctl_row hb (by decide) _),ho.step hg (ctl_row hb (by decide) _),hd.turn hg (fun t e=>ctl_row hb (by rcases e with rfl | rfl <;>decide) _)⟩
 show Blk _ g _ (cMad vp vt vc vo st vd)
 rw [←hv]
 exact hb.set_ i v
theorem CtE.below (h:CtE w W g vp vt vc vo vd c) (hB:Below W.heap.size W W'):CtE w W' g vp vt vc vo vd c:=
 ⟨h.bel.trans (hB.mono h.bel.size),h.b.below hB h.b.lt,h.le,h.p.below hB (Nat.le_refl _),h.t.below hB (Nat.le_refl _),h.cr.below hB (Nat.le_refl _),h.o.below hB (Nat.le_refl _),h.d.below hB (Nat.le_refl _)⟩
theorem CtO.below (h:CtO w W B g vp vt vc vo vd c) (hB:Below W.heap.size W W'):CtO w W' B g vp vt vc vo vd c:=
 ⟨h.e.below hB,⟨h.lb.1,Nat.le_trans h.lb.2 hB.size⟩,h.lp,h.d.below hB (Nat.le_refl _)⟩
theorem CtE.row {α:Type} {enc:α→List Value} {k:Nat} {e:TypeId} {v:Value} {n b:Nat} {xs:List α} (h:CtE w W g vp vt vc vo vd c) (ho:Own enc k e W b v n xs) (hb:w.heap.size≤b) (h5:e≠32) (hg:W.grownBy W' v.ownBlock):Below w.heap.size w W'∧Blk W' g 32 (cMad vp vt vc vo c.steps vd):=
 ⟨h.bel.trans (grown_belO hg (fun r hr=>Nat.le_trans hb (ho.blk r hr).1) h.bel.size),h.b.grown hg (blk_own_ne9 h.b ho h5)⟩
theorem CtE.ap_t {v6:Value} {Q:List Pt} (h:CtE w W g vp vt vc vo vd c) (hg:W.grownBy W' vt.ownBlock) (ho:Own encN3 3 35 W' w.heap.size v6 Q.length Q):CtE w (W'.setCell ⟨g,1,none⟩ v6) g vp v6 vc vo vd {c with tris:=Q}:=by
 obtain ⟨b1,b2⟩:=h.row h.t (Nat.le_refl _) (by decide) hg
 exact cte_set b1 b2 h.le (h.p.step hg (own_rowT h.t (show (35:TypeId)≠43 by decide))) ho (h.cr.step hg (own_rowT h.t (show (35:TypeId)≠56 by decide))) (h.o.step hg (own_rowT h.t (show (35:TypeId)≠3 by decide))) (h.d.turn hg (fun t e=>own_rowT h.t (by rcases e with rfl | rfl <;>decide))) 1 v6 rfl
theorem CtO.ap_t {v6:Value} {Q:List Pt} (h:CtO w W B g vp vt vc vo vd c) (hg:W.grownBy W' vt.ownBlock) (ho:Own encN3 3 35 W' w.heap.size v6 Q.length Q):CtO w (W'.setCell ⟨g,1,none⟩ v6) B g vp v6 vc vo vd {c with tris:=Q}:=by
 obtain ⟨b1,b2⟩:=h.e.row h.e.t (Nat.le_refl _) (by decide) hg
 refine ⟨h.e.ap_t hg ho,⟨h.lb.1,Nat.le_trans h.lb.2 (Nat.le_trans hg.size (grown_set9 W' g 1 v6).size)⟩,h.lp,?_⟩
 exact (h.d.turn hg (fun t e=>by
  have key:=own_rowT h.e.t (show (35:TypeId)≠t by rcases e with rfl | rfl <;>decide)
  exact fun r hr=>(key r hr).imp (fun hlt=>Nat.lt_of_lt_of_le hlt h.lb.1) id)).turn (grown_set9 W' g 1 v6) (fun t e=>ctl_row b2 (by rcases e with rfl | rfl <;>decide) _)
theorem CtE.in_t {Q:List Pt} (h:CtE w W g vp vt vc vo vd c) (hg:W.grownBy W' vt.ownBlock) (ho:Own encN3 3 35 W' w.heap.size vt Q.length Q):CtE w W' g vp vt vc vo vd {c with tris:=Q}:=by
 obtain ⟨b1,b2⟩:=h.row h.t (Nat.le_refl _) (by decide) hg
 exact ⟨b1,b2,h.le,(h.p.step hg (own_rowT h.t (show (35:TypeId)≠43 by decide))),ho,(h.cr.step hg (own_rowT h.t (show (35:TypeId)≠56 by decide))),(h.o.step hg (own_rowT h.t (show (35:TypeId)≠3 by decide))),(h.d.turn hg (fun t e=>own_rowT h.t (by rcases e with rfl | rfl <;>decide)))⟩
theorem CtE.ap_cr {v6:Value} {Q:List E2} (h:CtE w W g vp vt vc vo vd c) (hg:W.grownBy W' vc.ownBlock) (ho:Own encE2 2 56 W' w.heap.size v6 Q.length Q):CtE w (W'.setCell ⟨g,2,none⟩ v6) g vp vt v6 vo vd {c with creases:=Q}:=by
 obtain ⟨b1,b2⟩:=h.row h.cr (Nat.le_refl _) (by decide) hg
 exact cte_set b1 b2 h.le (h.p.step hg (own_rowT h.cr (show (56:TypeId)≠43 by decide))) (h.t.step hg (own_rowT h.cr (show (56:TypeId)≠35 by decide))) ho (h.o.step hg (own_rowT h.cr (show (56:TypeId)≠3 by decide))) (h.d.turn hg (fun t e=>own_rowT h.cr (by rcases e with rfl | rfl <;>decide))) 2 v6 rfl
theorem CtO.ap_cr {v6:Value} {Q:List E2} (h:CtO w W B g vp vt vc vo vd c) (hg:W.grownBy W' vc.ownBlock) (ho:Own encE2 2 56 W' w.heap.size v6 Q.length Q):CtO w (W'.setCell ⟨g,2,none⟩ v6) B g vp vt v6 vo vd {c with creases:=Q}:=by
 obtain ⟨b1,b2⟩:=h.e.row h.e.cr (Nat.le_refl _) (by decide) hg
 refine ⟨h.e.ap_cr hg ho,⟨h.lb.1,Nat.le_trans h.lb.2 (Nat.le_trans hg.size (grown_set9 W' g 2 v6).size)⟩,h.lp,?_⟩
 exact (h.d.turn hg (fun t e=>by
  have key:=own_rowT h.e.cr (show (56:TypeId)≠t by rcases e with rfl | rfl <;>decide)
  exact fun r hr=>(key r hr).imp (fun hlt=>Nat.lt_of_lt_of_le hlt h.lb.1) id)).turn (grown_set9 W' g 2 v6) (fun t e=>ctl_row b2 (by rcases e with rfl | rfl <;>decide) _)
theorem CtE.ap_o {v6:Value} {Q:List Int} (h:CtE w W g vp vt vc vo vd c) (hg:W.grownBy W' vo.ownBlock) (ho:Own encZ9 1 3 W' w.heap.size v6 Q.length Q):CtE w (W'.setCell ⟨g,3,none⟩ v6) g vp vt vc v6 vd {c with corners:=Q}:=by
 obtain ⟨b1,b2⟩:=h.row h.o (Nat.le_refl _) (by decide) hg
 exact cte_set b1 b2 h.le (h.p.step hg (own_rowT h.o (show (3:TypeId)≠43 by decide))) (h.t.step hg (own_rowT h.o (show (3:TypeId)≠35 by decide))) (h.cr.step hg (own_rowT h.o (show (3:TypeId)≠56 by decide))) ho (h.d.turn hg (fun t e=>own_rowT h.o (by rcases e with rfl | rfl <;>decide))) 3 v6 rfl
theorem CtO.ap_o {v6:Value} {Q:List Int} (h:CtO w W B g vp vt vc vo vd c) (hg:W.grownBy W' vo.ownBlock) (ho:Own encZ9 1 3 W' w.heap.size v6 Q.length Q):CtO w (W'.setCell ⟨g,3,none⟩ v6) B g vp vt vc v6 vd {c with corners:=Q}:=by
 obtain ⟨b1,b2⟩:=h.e.row h.e.o (Nat.le_refl _) (by decide) hg
 refine ⟨h.e.ap_o hg ho,⟨h.lb.1,Nat.le_trans h.lb.2 (Nat.le_trans hg.size (grown_set9 W' g 3 v6).size)⟩,h.lp,?_⟩
 exact (h.d.turn hg (fun t e=>by
  have key:=own_rowT h.e.o (show (3:TypeId)≠t by rcases e with rfl | rfl <;>decide)
  exact fun r hr=>(key r hr).imp (fun hlt=>Nat.lt_of_lt_of_le hlt h.lb.1) id)).turn (grown_set9 W' g 3 v6) (fun t e=>ctl_row b2 (by rcases e with rfl | rfl <;>decide) _)
theorem CtO.rowP (h:CtO w W B g vp vt vc vo vd c):∀t:TypeId,∀r,vp.ownBlock=some r→r < B∨∀cs,W.heap[r]? ≠some (.cells cs t (0,0)):=fun _ r hr=> .inl (h.lp r hr)
theorem CtO.ap_p {v6:Value} {Q:List Pt} (h:CtO w W B g vp vt vc vo vd c) (hg:W.grownBy W' vp.ownBlock) (ho:Own encP 3 43 W' w.heap.size v6 Q.length Q):CtE w (W'.setCell ⟨g,0,none⟩ v6) g v6 vt vc vo vd {c with points:=Q}:=by
 obtain ⟨b1,b2⟩:=h.e.row h.e.p (Nat.le_refl _) (by decide) hg
 exact cte_set b1 b2 h.e.le ho (h.e.t.step hg (own_rowT h.e.p (show (43:TypeId)≠35 by decide))) (h.e.cr.step hg (own_rowT h.e.p (show (43:TypeId)≠56 by decide))) (h.e.o.step hg (own_rowT h.e.p (show (43:TypeId)≠3 by decide))) ((h.d.turn hg (fun t _=>h.rowP t)).base_le h.lb.1) 0 v6 rfl
theorem CtO.in_p {Q:List Pt} (h:CtO w W B g vp vt vc vo vd c) (hg:W.grownBy W' vp.ownBlock) (ho:Own encP 3 43 W' w.heap.size vp Q.length Q):CtE w W' g vp vt vc vo vd {c with points:=Q}:=by
 obtain ⟨b1,b2⟩:=h.e.row h.e.p (Nat.le_refl _) (by decide) hg
 exact ⟨b1,b2,h.e.le,ho,(h.e.t.step hg (own_rowT h.e.p (show (43:TypeId)≠35 by decide))),(h.e.cr.step hg (own_rowT h.e.p (show (43:TypeId)≠56 by decide))),(h.e.o.step hg (own_rowT h.e.p (show (43:TypeId)≠3 by decide))),(h.d.turn hg (fun t _=>h.rowP t)).base_le h.lb.1⟩
theorem CtE.ap_p0 {v6:Value} {Q:List Pt} (h:CtE w W g vp vt vc vo (.slice none 0 0) ⟨P,T,C,O,st, []⟩) (hg:W.grownBy W' vp.ownBlock) (ho:Own encP 3 43 W' w.heap.size v6 Q.length Q):CtO w (W'.setCell ⟨g,0,none⟩ v6) W'.heap.size g v6 vt vc vo (.slice none 0 0) ⟨Q,T,C,O,st, []⟩:=by
 obtain ⟨b1,b2⟩:=h.row h.p (Nat.le_refl _) (by decide) hg
 exact ⟨cte_set b1 b2 h.le ho (h.t.step hg (own_rowT h.p (show (43:TypeId)≠35 by decide))) (h.cr.step hg (own_rowT h.p (show (43:TypeId)≠56 by decide))) (h.o.step hg (own_rowT h.p (show (43:TypeId)≠3 by decide))) Pcs.nil 0 v6 rfl,⟨b1.size,(grown_set9 W' g 0 v6).size⟩,fun r hr=>(ho.blk r hr).2,Pcs.nil⟩
theorem CtE.low9 (h:CtE w W g vp vt vc vo vd c) (st':Int):CtE w (W.setCell ⟨g,4,none⟩ (.int .i64 st')) g vp vt vc vo vd {c with steps:=st'}:=
 cte_set h.bel h.b h.le h.p h.t h.cr h.o h.d 4 _ rfl
theorem CtO.ap_d {ss:List Hdr} {v6:Value} {A:Option Addr} {k:Nat} {x:List Pt} (h:CtO w W B g vp vt vc vo vd c) (hos:Own encS 1 28 W B vd c.details.length ss) (hps:∀(i:Nat) (p:List Pt),c.details[i]? =some p→∃A k,ss[i]? =some (A,p.length,k)∧Own encP 3 43 W B (.slice A p.length k) p.length p)
  (hx:Own encP 3 43 W B (.slice A x.length k) x.length x) (hg:W.grownBy W' vd.ownBlock) (ho:Own encS 1 28 W' B v6 (c.details.length+1) (ss++ [(A,x.length,k)])):CtO w (W'.setCell ⟨g,5,none⟩ v6) B g vp vt vc vo v6 {c with details:=c.details++ [x]}:=by
 obtain ⟨b1,b2⟩:=h.e.row hos h.lb.1 (by decide) hg
 have hp:=Pcs.snoc (show (28:TypeId)≠43 by decide) hos hps hx hg ho
 have key:∀t:TypeId,28≠t→∀r,vd.ownBlock=some r→r < w.heap.size∨∀cs,W.heap[r]? ≠some (.cells cs t (0,0)):=fun t ht=>own_rowT (hos.base_le h.lb.1) ht
 exact ⟨cte_set b1 b2 h.e.le (h.e.p.step hg (key _ (by decide))) (h.e.t.step hg (key _ (by decide))) (h.e.cr.step hg (key _ (by decide))) (h.e.o.step hg (key _ (by decide))) (hp.base_le h.lb.1) 5 v6 rfl,⟨h.lb.1,Nat.le_trans h.lb.2 (Nat.le_trans hg.size (grown_set9 W' g 5 v6).size)⟩,h.lp,hp.turn (grown_set9 W' g 5 v6) (fun t e=>ctl_row b2 (by rcases e with rfl | rfl <;>decide) _)⟩
theorem CtE.in_d {v6:Value} (h:CtE w W g vp vt vc vo vd c) (hd:Pcs encP 3 43 28 W w.heap.size v6 D):CtE w (W.setCell ⟨g,5,none⟩ v6) g vp vt vc vo v6 {c with details:=D}:=
 cte_set h.bel h.b h.le h.p h.t h.cr h.o hd 5 v6 rfl
end
def CpyR (w w':World) (c:Ctl) (e:Ending):Prop:=
 ∃(B:Nat) (Ap At Ac Ao Ad:Option Addr) (cp ct cc oc dc:Nat),e= .returned (vCtl Ap c.points.length cp At c.tris.length ct Ac c.creases.length cc Ao c.corners.length oc c.steps Ad c.details.length dc)∧
  Own encN3 3 35 w' w.heap.size (.slice At c.tris.length ct) c.tris.length c.tris∧Own encP 3 43 w' w.heap.size (.slice Ap c.points.length cp) c.points.length c.points∧Own encE2 2 56 w' w.heap.size (.slice Ac c.creases.length cc) c.creases.length c.creases∧
  Own encZ9 1 3 w' w.heap.size (.slice Ao c.corners.length oc) c.corners.length c.corners∧Pcs encP 3 43 28 w' B (.slice Ad c.details.length dc) c.details∧(w.heap.size≤B∧B≤w'.heap.size∧∀r,(Value.slice Ap c.points.length cp).ownBlock=some r→r < B)∧Below w.heap.size w w'
theorem CtO.res {w0 w W W':World} {B g g2:Nat} {vp vt vc vo vd:Value} {c:Ctl} (h:CtO w W B g vp vt vc vo vd c) (hw:Below w0.heap.size w0 w) (hg2:w0.heap.size≤g2) (hlt:g2 < w.heap.size) (hg:W.grownBy W' (some g2)):CpyR w0 W' c (.returned (.agg (cMad vp vt vc vo c.steps vd))):=by
 obtain ⟨Ap,cp,e1⟩:=h.e.p.form
 obtain ⟨At,ct,e2⟩:=h.e.t.form
 obtain ⟨Ac,cc,e3⟩:=h.e.cr.form
 obtain ⟨Ao,oc,e4⟩:=h.e.o.form
 obtain ⟨Ad,dc,e5⟩:=h.d.form
 subst e1 e2 e3 e4 e5
 have hr:∀r,(some g2:Option Nat)=some r→r < w.heap.size:=fun r e=>by cases e;exact hlt
 exact ⟨B,Ap,At,Ac,Ao,Ad,cp,ct,cc,oc,dc,rfl,(h.e.t.step hg (fun r e=> .inl (hr r e))).base_le hw.size,(h.e.p.step hg (fun r e=> .inl (hr r e))).base_le hw.size,(h.e.cr.step hg (fun r e=> .inl (hr r e))).base_le hw.size,(h.e.o.step hg (fun r e=> .inl (hr r e))).base_le hw.size,h.d.turn hg (fun _ _ r e=> .inl (Nat.lt_of_lt_of_le (hr r e) h.lb.1)),⟨Nat.le_trans hw.size h.lb.1,Nat.le_trans h.lb.2 hg.size,h.lp⟩,(hw.trans (h.e.bel.mono hw.size)).trans (grown_bel hg hg2 (Nat.le_trans hw.size h.e.bel.size))⟩
theorem CtE.res {w0 w W W':World} {g g2:Nat} {vp vt vc vo vd:Value} {c:Ctl} (h:CtE w W g vp vt vc vo vd c) (hw:Below w0.heap.size w0 w) (hg2:w0.heap.size≤g2) (hlt:g2 < w.heap.size) (hg:W.grownBy W' (some g2)):MadR w0 W' c (.returned (.agg (cMad vp vt vc vo c.steps vd))):=by
 obtain ⟨Ap,cp,e1⟩:=h.p.form
 obtain ⟨At,ct,e2⟩:=h.t.form
 obtain ⟨Ac,cc,e3⟩:=h.cr.form
 obtain ⟨Ao,oc,e4⟩:=h.o.form
 obtain ⟨Ad,dc,e5⟩:=h.d.form
 subst e1 e2 e3 e4 e5
 have hr:∀r,(some g2:Option Nat)=some r→r < w.heap.size:=fun r e=>by cases e;exact hlt
 exact ⟨Ap,At,Ac,Ao,Ad,cp,ct,cc,oc,dc,rfl,(h.t.step hg (fun r e=> .inl (hr r e))).base_le hw.size,(h.p.step hg (fun r e=> .inl (hr r e))).base_le hw.size,(h.cr.step hg (fun r e=> .inl (hr r e))).base_le hw.size,(h.o.step hg (fun r e=> .inl (hr r e))).base_le hw.size,(h.d.turn hg (fun _ _ r e=> .inl (hr r e))).base_le hw.size,(hw.trans (h.bel.mono hw.size)).trans (grown_bel hg hg2 (Nat.le_trans hw.size h.bel.size))⟩
end Go.Proofs.YtmemofonebphfaaGreat
namespace Go.Proofs.YtmemofonebphfaaGreat
open Go.RowKit Go.Sort
theorem infoLP:(Tryz.prog.info? 28).map (fun i=>(i.zero,i.size,i.bytes))=some (some (.slice none 0 0),1,24):=by kernel_rfl
set_option maxRecDepth 100000 in
set_option maxHeartbeats 64000000 in
theorem copy9_any (Ap At Ac Ao Ad:Option Addr) (cp ct cc oc dc:Nat) (c:Ctl) (w:World) (hm:CtlM w w.heap.size Ap At Ac Ao Ad c) (hb:CtlB c):
  Calls Tryz.prog 21 #[vCtl Ap c.points.length cp At c.tris.length ct Ac c.creases.length cc Ao c.corners.length oc c.steps Ad c.details.length dc] w fun e w'=>CpyR w w' c e:=by
 obtain ⟨P,T,C,O,st,D⟩:=c
 obtain ⟨hbp,hbt,hbc,hbo,hbd,hbdd⟩:=hb
 dsimp only at hbp hbt hbc hbo hbd hbdd⊢
 obtain ⟨np,hnp⟩:∃n,n=P.length:=⟨_,rfl⟩
 obtain ⟨nt,hnt⟩:∃n,n=T.length:=⟨_,rfl⟩
 obtain ⟨nc,hnc⟩:∃n,n=C.length:=⟨_,rfl⟩
 obtain ⟨no,hno⟩:∃n,n=O.length:=⟨_,rfl⟩
 obtain ⟨nd,hnd⟩:∃n,n=D.length:=⟨_,rfl⟩
 rw [←hnp] at hbp
 rw [←hnt] at hbt
 rw [←hnc] at hbc
 rw [←hno] at hbo
 rw [←hnd] at hbd
 rw [←hnp,←hnt,←hnc,←hno,←hnd]
 have HN:=hide (And.intro hnp (And.intro hnt (And.intro hnc (And.intro hno hnd))))
 have HM:=hide (And.intro hm hbdd)
 clear hm hbdd hnp hnt hnc hno hnd
 go_enter Tryz.func21,Tryz.ntmps21
 go_upto_region 1 with fail
 obtain ⟨g1,hg1⟩:∃g,g=w.heap.size:=⟨_,rfl⟩
 obtain ⟨g2,hg2⟩:∃g,g=w.heap.size+1:=⟨_,rfl⟩
 obtain ⟨X0,hX⟩:∃W,W=(w.alloc (.cells (cCtl Ap np cp At nt ct Ac nc cc Ao no oc st Ad nd dc) 32)).alloc (.cells (cCtl none 0 0 none 0 0 none 0 0 none 0 0 0 none 0 0) 32):=⟨_,rfl⟩
 rw [←hX,←hg2,←hg1]
 have hb1:Blk X0 g1 32 (cCtl Ap np cp At nt ct Ac nc cc Ao no oc st Ad nd dc):=by rw [hX,hg1];exact (Blk.new _ _ _).alloc _
 have hb2:Blk X0 g2 32 (cCtl none 0 0 none 0 0 none 0 0 none 0 0 0 none 0 0):=by rw [hX,hg2];exact Blk.new' _ _ _ _ (by simp)
 have hBX:Below w.heap.size w X0:=by rw [hX];exact ((Below.refl _ w).alloc (Nat.le_refl _) _).alloc (by simp) _
 have hmX:CtlM X0 X0.heap.size Ap At Ac Ao Ad ⟨P,T,C,O,st,D⟩:=HM.out.1.below hBX hBX.size
 have c4:X0.cell? ⟨g1,4,none⟩=some (.int .i64 st):=hb1.cell 4
 have hgl:=hb1.lt
 have H0:=hide (And.intro hb1 (And.intro hb2 (And.intro hBX (And.intro hmX (show w.heap.size≤g2 by omega)))))
 clear hb1 hb2 hBX hX hg1 hg2 hmX
 go_upto_region 2 with fail
 obtain ⟨g3,hg3⟩:∃g,g=X0.heap.size:=⟨_,rfl⟩
 obtain ⟨X2,hX2⟩:∃W,W=X0.alloc (.cells (cMad (.slice none 0 0) (.slice none 0 0) (.slice none 0 0) (.slice none 0 0) st (.slice none 0 0)) 32):=⟨_,rfl⟩
 rw [←hX2,←hg3]
 have hBa:Below X0.heap.size X0 X2:=by rw [hX2];exact (Below.refl _ _).alloc (Nat.le_refl _) _
 have hS2:CtE X0 X2 g3 (.slice none 0 0) (.slice none 0 0) (.slice none 0 0) (.slice none 0 0) (.slice none 0 0) ⟨[], [], [], [],st, []⟩:=⟨hBa,by rw [hX2,hg3];exact Blk.new _ _ _,by omega,Own.nil,Own.nil,Own.nil,Own.nil,Pcs.nil⟩
 have HS2:=hide hS2
 clear hS2 hX2 hg3 hBa c4 hgl
 have c1:X2.cell? ⟨g1,0,none⟩=some (.slice Ap np cp):=((HS2.out.bel).cell (p:=⟨g1,0,none⟩) H0.out.1.lt).trans (H0.out.1.cell 0)
 have c3:X2.cell? ⟨g3,0,none⟩=some (.slice none 0 0):=HS2.out.b.cell 0
 have hg1l:g1 < X2.heap.size:=Nat.lt_of_lt_of_le H0.out.1.lt HS2.out.bel.size
 have hg3l:=HS2.out.b.lt
 have hXl:=HS2.out.bel.size
 go_upto_region 3 with (at_builtin;refine wpList_appendS rfl _ _ _ rfl Tryz.underlying28 infoP rfl (by omega) encP_len encP_one rfl HS2.out.p Ap cp X0.heap.size P (by rw [←HN.out.1];rfl) (H0.out.2.2.2.1.p.below HS2.out.bel) (by rw [←HN.out.1];simp only [List.length_nil];unfold maxLen;omega) (by rw [←HN.out.1];simp only [List.length_nil];omega) hXl ?_;intro v6 w6 hown6 hg6 hB6 hat6;rw [List.length_nil,Nat.zero_add,List.nil_append] at hown6;obtain ⟨B0,b0,rfl⟩:∃A c,v6= .slice A np c:=(by have h:=hown6.form;rw [←HN.out.1] at h;exact h);have hS6:=HS2.out.ap_p0 hg6 hown6;have h61:=HS2.out.b.grown hg6 (blk_own_ne9 HS2.out.b HS2.out.p (show (43:TypeId)≠32 by decide));have f6:=h61.frozen 0;have hl6:=h61.lt;have c7:=h61.cell 0;have H6:=hide hS6;clear hown6 hg6 hB6 hat6 hS6 h61)
 obtain ⟨X3,hX3⟩:∃W,W=w6.setCell ⟨g3,0,none⟩ (.slice B0 np b0):=⟨_,rfl⟩
 try rw [←hX3]
 obtain ⟨B,hBw⟩:∃B,B=w6.heap.size:=⟨_,rfl⟩
 have HS3:=hide (show CtO X0 X3 B g3 (.slice B0 np b0) (.slice none 0 0) (.slice none 0 0) (.slice none 0 0) (.slice none 0 0) ⟨P, [], [], [],st, []⟩ from by
  rw [hX3]
  rw [hBw]
  exact H6.out)
 clear H6 f6 hl6 c7 c1 c3 hg1l hg3l hXl hX3 hBw
 have c1:X3.cell? ⟨g1,1,none⟩=some (.slice At nt ct):=((HS3.out.e.bel).cell (p:=⟨g1,1,none⟩) H0.out.1.lt).trans (H0.out.1.cell 1)
 have c3:X3.cell? ⟨g3,1,none⟩=some (.slice none 0 0):=HS3.out.e.b.cell 1
 have hg1l:g1 < X3.heap.size:=Nat.lt_of_lt_of_le H0.out.1.lt HS3.out.e.bel.size
 have hg3l:=HS3.out.e.b.lt
 have hXl:=HS3.out.e.bel.size
 go_upto_region 4 with (at_builtin;refine wpList_appendS rfl _ _ _ rfl Tryz.underlying22 infoN3 rfl (by omega) encN3_len encN3_one rfl HS3.out.e.t At ct X0.heap.size T (by rw [←HN.out.2.1];rfl) (H0.out.2.2.2.1.t.below HS3.out.e.bel) (by rw [←HN.out.2.1];simp only [List.length_nil];unfold maxLen;omega) (by rw [←HN.out.2.1];simp only [List.length_nil];omega) hXl ?_;intro v6 w6 hown6 hg6 hB6 hat6;rw [List.length_nil,Nat.zero_add,List.nil_append] at hown6;obtain ⟨B1,b1,rfl⟩:∃A c,v6= .slice A nt c:=(by have h:=hown6.form;rw [←HN.out.2.1] at h;exact h);have hS6:=HS3.out.ap_t hg6 hown6;have h61:=HS3.out.e.b.grown hg6 (blk_own_ne9 HS3.out.e.b HS3.out.e.t (show (35:TypeId)≠32 by decide));have f6:=h61.frozen 1;have hl6:=h61.lt;have c7:=h61.cell 1;have H6:=hide hS6;clear hown6 hg6 hB6 hat6 hS6 h61)
 obtain ⟨X4,hX4⟩:∃W,W=w6.setCell ⟨g3,1,none⟩ (.slice B1 nt b1):=⟨_,rfl⟩
 try rw [←hX4]
 have HS4:=hide (show CtO X0 X4 B g3 (.slice B0 np b0) (.slice B1 nt b1) (.slice none 0 0) (.slice none 0 0) (.slice none 0 0) ⟨P,T, [], [],st, []⟩ from by
  rw [hX4]
  skip
  exact H6.out)
 clear H6 f6 hl6 c7 c1 c3 hg1l hg3l hXl hX4
 have c1:X4.cell? ⟨g1,2,none⟩=some (.slice Ac nc cc):=((HS4.out.e.bel).cell (p:=⟨g1,2,none⟩) H0.out.1.lt).trans (H0.out.1.cell 2)
 have c3:X4.cell? ⟨g3,2,none⟩=some (.slice none 0 0):=HS4.out.e.b.cell 2
 have hg1l:g1 < X4.heap.size:=Nat.lt_of_lt_of_le H0.out.1.lt HS4.out.e.bel.size
 have hg3l:=HS4.out.e.b.lt
 have hXl:=HS4.out.e.bel.size
 go_upto_region 5 with (at_builtin;refine wpList_appendS rfl _ _ _ rfl Tryz.underlying29 infoE2 rfl (by omega) encE2_len encE2_one rfl HS4.out.e.cr Ac cc X0.heap.size C (by rw [←HN.out.2.2.1];rfl) (H0.out.2.2.2.1.cr.below HS4.out.e.bel) (by rw [←HN.out.2.2.1];simp only [List.length_nil];unfold maxLen;omega) (by rw [←HN.out.2.2.1];simp only [List.length_nil];omega) hXl ?_;intro v6 w6 hown6 hg6 hB6 hat6;rw [List.length_nil,Nat.zero_add,List.nil_append] at hown6;obtain ⟨B2,b2,rfl⟩:∃A c,v6= .slice A nc c:=(by have h:=hown6.form;rw [←HN.out.2.2.1] at h;exact h);have hS6:=HS4.out.ap_cr hg6 hown6;have h61:=HS4.out.e.b.grown hg6 (blk_own_ne9 HS4.out.e.b HS4.out.e.cr (show (56:TypeId)≠32 by decide));have f6:=h61.frozen 2;have hl6:=h61.lt;have c7:=h61.cell 2;have H6:=hide hS6;clear hown6 hg6 hB6 hat6 hS6 h61)
 obtain ⟨X5,hX5⟩:∃W,W=w6.setCell ⟨g3,2,none⟩ (.slice B2 nc b2):=⟨_,rfl⟩
 try rw [←hX5]
 have HS5:=hide (show CtO X0 X5 B g3 (.slice B0 np b0) (.slice B1 nt b1) (.slice B2 nc b2) (.slice none 0 0) (.slice none 0 0) ⟨P,T,C, [],st, []⟩ from by
  rw [hX5]
  skip
  exact H6.out)
 clear H6 f6 hl6 c7 c1 c3 hg1l hg3l hXl hX5
 have c1:X5.cell? ⟨g1,3,none⟩=some (.slice Ao no oc):=((HS5.out.e.bel).cell (p:=⟨g1,3,none⟩) H0.out.1.lt).trans (H0.out.1.cell 3)
 have c3:X5.cell? ⟨g3,3,none⟩=some (.slice none 0 0):=HS5.out.e.b.cell 3
 have hg1l:g1 < X5.heap.size:=Nat.lt_of_lt_of_le H0.out.1.lt HS5.out.e.bel.size
 have hg3l:=HS5.out.e.b.lt
 have hXl:=HS5.out.e.bel.size
 go_upto_region 6 with (at_builtin;refine wpList_appendS rfl _ _ _ rfl Tryz.underlying23 infoI9 rfl (by omega) encZ9_len encZ9_one rfl HS5.out.e.o Ao oc X0.heap.size O (by rw [←HN.out.2.2.2.1];rfl) (H0.out.2.2.2.1.o.below HS5.out.e.bel) (by rw [←HN.out.2.2.2.1];simp only [List.length_nil];unfold maxLen;omega) (by rw [←HN.out.2.2.2.1];simp only [List.length_nil];omega) hXl ?_;intro v6 w6 hown6 hg6 hB6 hat6;rw [List.length_nil,Nat.zero_add,List.nil_append] at hown6;obtain ⟨B3,b3,rfl⟩:∃A c,v6= .slice A no c:=(by have h:=hown6.form;rw [←HN.out.2.2.2.1] at h;exact h);have hS6:=HS5.out.ap_o hg6 hown6;have h61:=HS5.out.e.b.grown hg6 (blk_own_ne9 HS5.out.e.b HS5.out.e.o (show (3:TypeId)≠32 by decide));have f6:=h61.frozen 3;have hl6:=h61.lt;have c7:=h61.cell 3;have H6:=hide hS6;clear hown6 hg6 hB6 hat6 hS6 h61)
 obtain ⟨X6,hX6⟩:∃W,W=w6.setCell ⟨g3,3,none⟩ (.slice B3 no b3):=⟨_,rfl⟩
 try rw [←hX6]
 have HS6:=hide (show CtO X0 X6 B g3 (.slice B0 np b0) (.slice B1 nt b1) (.slice B2 nc b2) (.slice B3 no b3) (.slice none 0 0) ⟨P,T,C,O,st, []⟩ from by
  rw [hX6]
  skip
  exact H6.out)
 clear H6 f6 hl6 c7 c1 c3 hg1l hg3l hXl hX6
 go_upto_region 7 with fail
 go_loopw [4] (fun iv wr=>∃(k:Nat) (vd:Value),k≤nd∧iv= .int .i64 k∧CtO X0 wr B g3 (.slice B0 np b0) (.slice B1 nt b1) (.slice B2 nc b2) (.slice B3 no b3) vd ⟨P,T,C,O,st,D.take k⟩) (fun iv _=>nd - (intOf iv).toNat)
 case atStart=>exact ⟨0,_,by omega,rfl,HS6.out⟩
 case round=>
  obtain ⟨k,vd,hk,rfl,hS⟩:=hrel
  obtain ⟨V,rfl⟩:∃x,x=wr:=⟨_,rfl⟩
  have c1:V.cell? ⟨g1,5,none⟩=some (.slice Ad nd dc):=(hS.e.bel.cell (p:=⟨g1,5,none⟩) H0.out.1.lt).trans (H0.out.1.cell 5)
  have hg1l:g1 < V.heap.size:=Nat.lt_of_lt_of_le H0.out.1.lt hS.e.bel.size
  by_cases hlt:k < nd
  ·have k1:(k:Int) < (nd:Int):=by omega
   obtain ⟨d,hd⟩:∃d,D[k]? =some d:=⟨_,List.getElem?_eq_getElem (by rw [←HN.out.2.2.2.2];exact hlt)⟩
   have hdl:=HM.out.2 d (List.mem_of_getElem? hd)
   have hkl:(D.take k).length=k:=by rw [List.length_take,←HN.out.2.2.2.2];omega
   have htk:D.take (k+1)=D.take k++ [d]:=by rw [List.take_add_one,hd];rfl
   obtain ⟨bd,od,Ax,kx,hA,hbd,hcd,hsd⟩:=H0.out.2.2.2.1.det hd
   subst hA
   have hsdV:=hsd.below hS.e.bel
   obtain ⟨ss,hos,hps⟩:=hS.d
   dsimp only at hos hps
   rw [hkl] at hos
   obtain ⟨Av,kv,rfl⟩:=hos.form
   obtain ⟨dl,hdn⟩:∃n,n=d.length:=⟨_,rfl⟩
   rw [←hdn] at hdl hcd
   have hBV:B≤V.heap.size:=hS.lb.2
   have HS:=hide (And.intro hS (And.intro hos (And.intro hps (And.intro hsdV (And.intro hkl (And.intro htk hdn))))))
   have HC:=hide (And.intro hcd hbd)
   clear hS hos hps hsdV hkl htk hdn hsd hcd hbd hd
   go_upto_region 9 with fail
   clear c1 hg1l
   have HSB:=hide (show Blk V.drew g3 32 (cMad (.slice B0 np b0) (.slice B1 nt b1) (.slice B2 nc b2) (.slice B3 no b3) st (.slice Av k kv))∧Below X0.heap.size X0 V.drew from ⟨HS.out.1.e.b,HS.out.1.e.bel.drew⟩)
   refine wp_region_mix (fun W=>Blk W g3 32 (cMad (.slice B0 np b0) (.slice B1 nt b1) (.slice B2 nc b2) (.slice B3 no b3) st (.slice Av k kv))∧Below X0.heap.size X0 W) [0,1,3,4,5,6,7] [0,1,3,4,5,6,7,2,8,9,10,11,12] mixed_ok (by kernel_rfl) ?_
   refine wpMix_q (v:=(.pointer (some ⟨g3,5,none⟩))) rfl rfl (fun _ _ _ h=>h) HSB.out ⟨rfl,fun _ _=>by simp [go_sem]⟩ ?_
   refine wpMix_q (v:=(.slice Av k kv)) rfl rfl (fun _ _ _ h=>h) HSB.out ⟨rfl,fun _ h'=>by have a0:=h'.1.cell 5;simp only [List.getElem?_toArray,List.getElem?_cons_zero,List.getElem?_cons_succ] at a0;simp [go_sem,a0]⟩ ?_
   refine wpMix_q (v:=(.pointer (some ⟨g1,5,none⟩))) rfl rfl (fun _ _ _ h=>h) HSB.out ⟨rfl,fun _ _=>by simp [go_sem]⟩ ?_
   refine wpMix_q (v:=(.slice (some ⟨bd,od,none⟩) nd dc)) rfl rfl (fun _ _ _ h=>h) HSB.out ⟨rfl,fun _ h'=>by have a0:=(h'.2.cell (p:=⟨g1,5,none⟩) H0.out.1.lt).trans (H0.out.1.cell 5);simp only [List.getElem?_toArray,List.getElem?_cons_zero,List.getElem?_cons_succ] at a0;simp [go_sem,a0]⟩ ?_
   refine wpMix_q (v:=(.int .i64 k)) rfl rfl (fun _ _ _ h=>h) HSB.out ⟨rfl,fun _ _=>by simp [go_sem]⟩ ?_
   refine wpMix_q (v:=(.pointer (some ⟨bd,od+k,none⟩))) rfl rfl (fun _ _ _ h=>h) HSB.out ⟨rfl,fun _ _=>by simp [go_sem,k1]⟩ ?_
   simp only [List.getElem_toArray,List.getElem_cons_succ,List.getElem_cons_zero,Act.put,List.setIfInBounds_toArray,List.set_cons_succ,List.set_cons_zero]
   refine wpMix_q (v:=(.slice Ax dl kx)) rfl rfl (fun _ _ _ h=>h) HSB.out ⟨rfl,fun _ h'=>by have a0:=(h'.2.cell (p:=⟨bd,od+k,none⟩) HC.out.2).trans HC.out.1;simp [go_sem,a0]⟩ ?_
   simp only [List.getElem_toArray,List.getElem_cons_succ,List.getElem_cons_zero,Act.put,List.setIfInBounds_toArray,List.set_cons_succ,List.set_cons_zero]
   refine wpMix_n rfl rfl ?_
   go_wp2_with fail
   refine ⟨fun _=>⟨HSB.out.1.alloc _,HSB.out.2.alloc (Nat.le_trans HS.out.1.lb.1 hBV) _⟩,?_⟩
   refine wpMix_n rfl rfl ?_
   have hE:Own encP 3 43 (V.drew.alloc (.cells #[] 43)) B (.slice (some ⟨V.heap.size,0,none⟩) 0 0) 0 ([]:List Pt):=own_empty9 rfl hBV
   have hal:Below V.heap.size V (V.drew.alloc (.cells #[] 43)):=(Below.refl _ V).drew.alloc (Nat.le_refl _) _
   have HE:=hide (And.intro hE hal)
   clear hE hal
   have hXV:X0.heap.size≤V.heap.size:=Nat.le_trans HS.out.1.lb.1 hBV
   refine wpList_appendS rfl _ _ _ rfl Tryz.underlying28 infoP rfl (by omega) encP_len encP_one rfl HE.out.1 Ax kx X0.heap.size d (by rw [←HS.out.2.2.2.2.2.2];rfl) (HS.out.2.2.2.1.below (HE.out.2.mono hXV)) (by rw [←HS.out.2.2.2.2.2.2];unfold maxLen;omega) (by rw [←HS.out.2.2.2.2.2.2];omega) (Nat.le_trans hBV HE.out.2.size) ?_
   intro v5 w5 hown5 hg5 hB5 hat5
   rw [Nat.zero_add,List.nil_append] at hown5
   have hbl:∀r,(Value.slice (some ⟨V.heap.size,0,none⟩) 0 0).ownBlock=some r→V.heap.size≤r:=fun r hr=>by cases hr;exact Nat.le_refl _
   have hV5:Below V.heap.size V w5:=HE.out.2.trans (grown_belO hg5 hbl HE.out.2.size)
   rw [←HS.out.2.2.2.2.2.2] at hown5
   obtain ⟨Ay,ky,rfl⟩:=hown5.form
   have H5:=hide (And.intro hown5 hV5)
   clear hown5 hg5 hB5 hat5 hbl hV5
   go_wp2_with fail
   refine ⟨fun _=>⟨HS.out.1.e.b.below H5.out.2 HS.out.1.e.b.lt,HS.out.1.e.bel.trans (H5.out.2.mono hXV)⟩,?_⟩
   refine wpMix_n rfl rfl ?_
   go_wp2_with fail
   obtain ⟨Y,hY⟩:∃W,W=w5.alloc (.cells #[.slice Ay dl ky] 28):=⟨_,rfl⟩
   rw [←hY]
   have hBY:Below w5.heap.size w5 Y:=by rw [hY];exact (Below.refl _ _).alloc (Nat.le_refl _) _
   have hKY:Blk Y w5.heap.size 28 #[.slice Ay dl ky]:=by rw [hY];exact Blk.new _ _ _
   have hVY:Below V.heap.size V Y:=H5.out.2.trans (hBY.mono H5.out.2.size)
   have hpsY:∀(i:Nat) (p:List Pt),(D.take k)[i]? =some p→∃A c,ss[i]? =some (A,p.length,c)∧Own encP 3 43 Y B (.slice A p.length c) p.length p:=fun i p hi=>by
    obtain ⟨A,c,h1,h2⟩:=HS.out.2.2.1 i p hi
    exact ⟨A,c,h1,h2.below hVY (Nat.le_refl _)⟩
   have HY:=hide (And.intro (HS.out.1.below hVY) (And.intro (HS.out.2.1.below hVY (Nat.le_refl _)) (And.intro hpsY (And.intro (H5.out.1.below hBY (Nat.le_refl _)) (And.intro hKY (And.intro hVY.size hY))))))
   clear hBY hKY hVY hY hpsY
   refine ⟨fun _=>⟨HY.out.1.e.b,HY.out.1.e.bel⟩,?_⟩
   refine wpMix_tail _ [_,_,_] (by kernel_rfl) rfl ?_
   clear HSB
   refine wpList_append1 rfl _ _ _ rfl Tryz.underlying30 infoLP rfl (by omega) encS_len encS_one rfl HY.out.2.1 w5.heap.size 1 (Ay,dl,ky) rfl HY.out.2.2.2.2.1 (by unfold maxLen;omega) (by omega) (Nat.le_trans hBV HY.out.2.2.2.2.2.1) ?_
   intro g6 cap6 w6 hown6 hg6 hB6 hat6 hgb6 hlt6
   have hS6:=HY.out.1.ap_d (x:=d) (A:=Ay) (k:=ky) (by show Own _ _ _ _ _ _ (D.take k).length _;rw [HS.out.2.2.2.2.1];exact HY.out.2.1) HY.out.2.2.1 (by rw [←HS.out.2.2.2.2.2.2];exact HY.out.2.2.2.1) hg6 (by show Own _ _ _ _ _ _ ((D.take k).length+1) _;rw [HS.out.2.2.2.2.1,←HS.out.2.2.2.2.2.2];exact hown6)
   have h61:=HY.out.1.e.b.grown hg6 (blk_own_ne9 HY.out.1.e.b HY.out.2.1 (show (28:TypeId)≠32 by decide))
   have f6:=h61.frozen 5
   have hl6:=h61.lt
   have c7:=h61.cell 5
   dsimp only at hS6
   rw [←HS.out.2.2.2.2.2.1] at hS6
   have H6:=hide hS6
   clear hown6 hg6 hB6 hat6 hgb6 hlt6 hS6 h61
   go_wp2
   go_roundw
   case rel=>repeat (first | exact ⟨k+1,_,by omega,by go_num,H6.out⟩ | (refine ⟨?_,rfl⟩;exact ⟨k+1,_,by omega,by go_num,H6.out⟩) | apply Exists.intro)
   case measure=>(simp [intOf];try omega)
  ·obtain rfl:k=nd:=by omega
   have k1:¬(k:Int) < (k:Int):=by omega
   have htk:D.take k=D:=List.take_of_length_le (by rw [←HN.out.2.2.2.2];exact Nat.le_refl _)
   rw [htk] at hS
   obtain ⟨Av,kv,rfl⟩:∃A c,vd= .slice A k c:=by have h:=hS.d.form;dsimp only at h;rw [←HN.out.2.2.2.2] at h;exact h
   obtain ⟨z0,z1,z2,z3,z4,z5⟩:=hS.e.b.six9
   have hg3l:=hS.e.b.lt
   have hV2:=H0.out.2.1.below hS.e.bel H0.out.2.1.lt
   obtain ⟨e0,e1,e2,e3,e4,e5⟩:=hV2.six9
   have hg2l:=hV2.lt
   have f0:=hV2.frozen 0
   have f1:=hV2.frozen 1
   have f2:=hV2.frozen 2
   have f3:=hV2.frozen 3
   have f4:=hV2.frozen 4
   have f5:=hV2.frozen 5
   have HV:=hide (And.intro hS hV2)
   clear hS htk hV2
   go_wp2
   have hE:=(((((HV.out.2.set_ 0 (.slice B0 np b0)).set_ 1 (.slice B1 nt b1)).set_ 2 (.slice B2 nc b2)).set_ 3 (.slice B3 no b3)).set_ 4 (.int .i64 st)).set_ 5 (.slice Av k kv)
   refine ret_at (v:= .agg (cMad (.slice B0 np b0) (.slice B1 nt b1) (.slice B2 nc b2) (.slice B3 no b3) st (.slice Av k kv))) (fun W=>Blk W g2 32 (cMad (.slice B0 np b0) (.slice B1 nt b1) (.slice B2 nc b2) (.slice B3 no b3) st (.slice Av k kv))) hE (fun W hW=> ?_) rfl ?_
   ·obtain ⟨a0,a1,a2,a3,a4,a5⟩:=hW.six9
    simp [results,Tryz.results21,go_sem,a0,a1,a2,a3,a4,a5]
    try trivial
   ·exact HV.out.1.res H0.out.2.2.1 H0.out.2.2.2.2 H0.out.2.1.lt (setW_grown g2 [(.slice B0 np b0),(.slice B1 nt b1),(.slice B2 nc b2),(.slice B3 no b3), .int .i64 st,(.slice Av k kv)] V 0)
end Go.Proofs.YtmemofonebphfaaGreat
namespace Go.Proofs.YtmemofonebphfaaGreat
open Go.RowKit Go.Sort
def putN (x:Pt) (j v:Int):Pt:=if j=0 then (v,x.2.1,x.2.2) else if j=1 then (x.1,v,x.2.2) else (x.1,x.2.1,v)
def spoilC (c:Ctl) (q:Pt):Ctl:=
 if q.1 % 13=0 then {c with steps:=q.2.2 % 8 - 2}
 else if q.1 % 13=1 then {c with tris:=c.tris.set (q.2.1 % (c.tris.length:Int)).toNat (putN (c.tris.getD (q.2.1 % (c.tris.length:Int)).toNat (0,0,0)) (q.2.2 % 3) ((c.points.length:Int) - q.2.2 % 3))}
 else if q.1 % 13=2 then {c with tris:=c.tris.take (q.2.1 % (c.tris.length:Int)).toNat++c.tris.drop ((q.2.1 % (c.tris.length:Int)).toNat+1)}
 else if q.1 % 13=3 then {c with tris:=c.tris.set (q.2.1 % (c.tris.length:Int)).toNat ((c.tris.getD (q.2.1 % (c.tris.length:Int)).toNat (0,0,0)).2.1,(c.tris.getD (q.2.1 % (c.tris.length:Int)).toNat (0,0,0)).1,(c.tris.getD (q.2.1 % (c.tris.length:Int)).toNat (0,0,0)).2.2)}
 else if q.1 % 13=4 then {c with creases:=c.creases++ [(q.2.2 % ((c.points.length:Int)+1),q.2.1 % (c.points.length:Int))]}
 else if q.1 % 13=5 then {c with corners:=c.corners++ [q.2.2 % ((c.points.length:Int)+2) - 1]}
 else if q.1 % 13=6 then {c with points:=c.points.set (q.2.2 % (c.points.length:Int)).toNat ((c.points.getD (q.2.2 % (c.points.length:Int)).toNat (0,0,0)).1,2097151 / 16^(c.steps % 5).toNat+q.2.1 % 2,(c.points.getD (q.2.2 % (c.points.length:Int)).toNat (0,0,0)).2.2)}
 else if q.1 % 13=7 then {c with points:=c.points.set (q.2.2 % (c.points.length:Int)).toNat (-(q.2.1 % 2),(c.points.getD (q.2.2 % (c.points.length:Int)).toNat (0,0,0)).2)}
 else if q.1 % 13=8 then {c with details:=c.details++ [[(2097151+q.2.2 % 2,0,0)]]}
 else if q.1 % 13=9 then {c with details:= [List.replicate (3*c.tris.length / 2+(q.2.2 % 2).toNat) (0,0,0)]}
 else if q.1 % 13=10 then {c with points:=c.points++ [(1,2,3)]}
 else if q.1 % 13=11 then {c with points:=c.points.set (q.2.2 % (c.points.length:Int)).toNat (c.points.getD (q.2.1 % (c.points.length:Int)).toNat (0,0,0))}
 else {c with tris:=c.tris++ [c.tris.getD (q.2.1 % (c.tris.length:Int)).toNat (0,0,0)]}
theorem emod_lt_nat {n:Nat} (h:0 < n) (x:Int):(x % (n:Int)).toNat < n:=by
 have:=Int.emod_nonneg x (show (n:Int)≠0 by omega)
 have:=Int.emod_lt_of_pos x (show (0:Int) < n by omega)
 omega
theorem getD_atP {l:List Pt} {k:Nat} (h:k < l.length):l[k]? =some (l.getD k (0,0,0)):=by
 rw [List.getD_eq_getElem?_getD,List.getElem?_eq_getElem h]
 rfl
structure SmlC (n:Nat) (c:Ctl):Prop where
 p:c.points.length≤1000+n
 t:c.tris.length≤1000+n
 cr:c.creases.length≤1000+n
 o:c.corners.length≤1000+n
 d:c.details.length≤1000+n
 dd:∀d∈c.details,d.length≤2000+2*n
 st: -2≤c.steps∧c.steps≤5
theorem SmlC.bound {n:Nat} {c:Ctl} (h:SmlC n c) (hn:n≤1000):CtlB c:=
 ⟨by have:=h.p;omega,by have:=h.t;omega,by have:=h.cr;omega,by have:=h.o;omega,by have:=h.d;omega,fun d hd=>by have:=h.dd d hd;omega⟩
theorem SmlC.fits {n:Nat} {c:Ctl} (h:SmlC n c):Go.Proofs.YtmemofonebphfaaGreat.fits c.steps:=by
 have:=h.st
 unfold Go.Proofs.YtmemofonebphfaaGreat.fits
 omega
theorem made_sml (s:ShpC):SmlC 0 (madeC s) where
 p:=by
  show (List.map _ _).length≤_
  rw [List.length_map,List.length_range]
  have:=(base_right s.kind s.bits).pts
  omega
 t:=by
  have:=(base_right s.kind s.bits).few
  show (baseT s.kind s.bits).length≤_
  omega
 cr:=by
  show (List.map _ _).length≤_
  rw [List.length_map,List.length_take]
  omega
 o:=by
  show (List.map _ _).length≤_
  rw [List.length_map,List.length_take]
  omega
 d:=by
  have:=made_st s
  show (if s.details.length=0 then [] else (List.range (stM s)).map (detM s)).length≤_
  split
  ·simp
  ·rw [List.length_map,List.length_range];omega
 dd d hd:=by
  have h:=made_st s
  have hd:d∈(if s.details.length=0 then [] else (List.range (stM s)).map (detM s)):=hd
  split at hd
  ·cases hd
  ·obtain ⟨k,hk,rfl⟩:=List.mem_map.1 hd
   have hk:=List.mem_range.1 hk
   show (List.map _ _).length≤_
   rw [List.length_map,List.length_range]
   omega
 st:=by
  have:=made_st s
  show -2≤((stM s:Nat):Int)∧((stM s:Nat):Int)≤5
  omega
theorem spoil_sml {n:Nat} {c:Ctl} (h:SmlC n c) (q:Pt):SmlC (n+1) (spoilC c q):=by
 obtain ⟨h1,h2,h3,h4,h5,h6,h7⟩:=h
 have up:SmlC (n+1) c:=⟨by omega,by omega,by omega,by omega,by omega,fun d hd=>by have:=h6 d hd;omega,h7⟩
 unfold spoilC
 by_cases h0':q.1 % 13=0
 ·rw [if_pos h0']
  exact ⟨up.p,up.t,up.cr,up.o,up.d,up.dd,by show -2≤q.2.2 % 8 - 2∧q.2.2 % 8 - 2≤5;omega⟩
 rw [if_neg h0']
 by_cases h1':q.1 % 13=1
 ·rw [if_pos h1']
  exact ⟨up.p,by show (List.set _ _ _).length≤_;rw [List.length_set];exact up.t,up.cr,up.o,up.d,up.dd,up.st⟩
 rw [if_neg h1']
 by_cases h2':q.1 % 13=2
 ·rw [if_pos h2']
  exact ⟨up.p,by show (_++_:List Pt).length≤_;rw [List.length_append,List.length_take,List.length_drop];omega,up.cr,up.o,up.d,up.dd,up.st⟩
 rw [if_neg h2']
 by_cases h3':q.1 % 13=3
 ·rw [if_pos h3']
  exact ⟨up.p,by show (List.set _ _ _).length≤_;rw [List.length_set];exact up.t,up.cr,up.o,up.d,up.dd,up.st⟩
 rw [if_neg h3']
 by_cases h4':q.1 % 13=4
 ·rw [if_pos h4']
  exact ⟨up.p,up.t,by show (_++_:List E2).length≤_;rw [List.length_append,List.length_singleton];omega,up.o,up.d,up.dd,up.st⟩
 rw [if_neg h4']
 by_cases h5':q.1 % 13=5
 ·rw [if_pos h5']
  exact ⟨up.p,up.t,up.cr,by show (_++_:List Int).length≤_;rw [List.length_append,List.length_singleton];omega,up.d,up.dd,up.st⟩
 rw [if_neg h5']
 by_cases h6':q.1 % 13=6
 ·rw [if_pos h6']
  exact ⟨by show (List.set _ _ _).length≤_;rw [List.length_set];exact up.p,up.t,up.cr,up.o,up.d,up.dd,up.st⟩
 rw [if_neg h6']
 by_cases h7':q.1 % 13=7
 ·rw [if_pos h7']
  exact ⟨by show (List.set _ _ _).length≤_;rw [List.length_set];exact up.p,up.t,up.cr,up.o,up.d,up.dd,up.st⟩
 rw [if_neg h7']
 by_cases h8':q.1 % 13=8
 ·rw [if_pos h8']
  refine ⟨up.p,up.t,up.cr,up.o,by show (_++_:List (List Pt)).length≤_;rw [List.length_append,List.length_singleton];omega,fun d hd=> ?_,up.st⟩
  rcases List.mem_append.1 hd with hd | hd
  ·exact up.dd d hd
  ·rw [List.mem_singleton.1 hd];show 1≤_;omega
 rw [if_neg h8']
 by_cases h9':q.1 % 13=9
 ·rw [if_pos h9']
  refine ⟨up.p,up.t,up.cr,up.o,by show 1≤_;omega,fun d hd=> ?_,up.st⟩
  rw [List.mem_singleton.1 hd,List.length_replicate]
  omega
 rw [if_neg h9']
 by_cases h10':q.1 % 13=10
 ·rw [if_pos h10']
  exact ⟨by show (_++_:List Pt).length≤_;rw [List.length_append,List.length_singleton];omega,up.t,up.cr,up.o,up.d,up.dd,up.st⟩
 rw [if_neg h10']
 by_cases h11':q.1 % 13=11
 ·rw [if_pos h11']
  exact ⟨by show (List.set _ _ _).length≤_;rw [List.length_set];exact up.p,up.t,up.cr,up.o,up.d,up.dd,up.st⟩
 rw [if_neg h11']
 exact ⟨up.p,by show (_++_:List Pt).length≤_;rw [List.length_append,List.length_singleton];omega,up.cr,up.o,up.d,up.dd,up.st⟩
theorem spoil_near {c:Ctl} (q:Pt) (ht:0 < c.tris.length):Near 1 c.tris (spoilC c q).tris:=by
 have hk:=getD_atP (emod_lt_nat ht q.2.1)
 unfold spoilC
 by_cases h0':q.1 % 13=0
 ·rw [if_pos h0']
  exact Near.refl _ _
 rw [if_neg h0']
 by_cases h1':q.1 % 13=1
 ·rw [if_pos h1']
  exact Near.set hk
 rw [if_neg h1']
 by_cases h2':q.1 % 13=2
 ·rw [if_pos h2']
  exact Near.erase hk
 rw [if_neg h2']
 by_cases h3':q.1 % 13=3
 ·rw [if_pos h3']
  exact Near.set hk
 rw [if_neg h3']
 by_cases h4':q.1 % 13=4
 ·rw [if_pos h4']
  exact Near.refl _ _
 rw [if_neg h4']
 by_cases h5':q.1 % 13=5
 ·rw [if_pos h5']
  exact Near.refl _ _
 rw [if_neg h5']
 by_cases h6':q.1 % 13=6
 ·rw [if_pos h6']
  exact Near.refl _ _
 rw [if_neg h6']
 by_cases h7':q.1 % 13=7
 ·rw [if_pos h7']
  exact Near.refl _ _
 rw [if_neg h7']
 by_cases h8':q.1 % 13=8
 ·rw [if_pos h8']
  exact Near.refl _ _
 rw [if_neg h8']
 by_cases h9':q.1 % 13=9
 ·rw [if_pos h9']
  exact Near.refl _ _
 rw [if_neg h9']
 by_cases h10':q.1 % 13=10
 ·rw [if_pos h10']
  exact Near.refl _ _
 rw [if_neg h10']
 by_cases h11':q.1 % 13=11
 ·rw [if_pos h11']
  exact Near.refl _ _
 rw [if_neg h11']
 exact Near.more (List.mem_of_getElem? hk)
theorem right_gd {c:Ctl} (h:errC c=0):GdT c.tris:=GdT.of (right_of h).chk
theorem made_gd (s:ShpC):GdT (madeC s).tris:=right_gd (made_right s)
theorem made_pos (s:ShpC):0 < (madeC s).tris.length∧0 < (madeC s).points.length:=by
 refine ⟨?_,?_⟩
 ·have h:=(base_right s.kind s.bits).edg
  cases e:(madeC s).tris with
  | nil=>
   have e:baseT s.kind s.bits= []:=e
   rw [e] at h
   have h0:(edgesE ([]:List Pt)).length=0:=by unfold edgesE;rw [sortO_length];rfl
   omega
  | cons a b=>simp
 ·show 0 < (List.map _ _).length
  rw [List.length_map,List.length_range]
  exact (base_right s.kind s.bits).some
theorem spoil_back (s:ShpC) (q:Pt) (h:errC (spoilC (madeC s) q)=0):NoBack (spoilC (madeC s) q).tris:=
 near_back ((spoil_near q (made_pos s).1).le (by decide)) (made_gd s) (right_gd h) (made_back s)
end Go.Proofs.YtmemofonebphfaaGreat
namespace Go.Proofs.YtmemofonebphfaaGreat
open Go.RowKit Go.Sort
theorem flat_putL {α:Type} {enc:α→List Value} (hk:∀x,(enc x).length=3) {j:Nat} (hj:j < 3) {v:Value}:∀(xs:List α) (k:Nat) (x y:α),xs[k]? =some x→enc y=(enc x).set j v→(xs.set k y).flatMap enc=(xs.flatMap enc).set (k*3+j) v
 | [],k,x,y,h,_=>by simp at h
 | a::xs,0,x,y,h,e=>by
  simp only [List.getElem?_cons_zero,Option.some.injEq] at h
  subst h
  rw [List.set_cons_zero,List.flatMap_cons,List.flatMap_cons,e,Nat.zero_mul,Nat.zero_add,List.set_append_left _ _ (by rw [hk];exact hj)]
 | a::xs,k+1,x,y,h,e=>by
  simp only [List.getElem?_cons_succ] at h
  have ih:=flat_putL hk hj xs k x y h e
  rw [List.set_cons_succ,List.flatMap_cons,List.flatMap_cons,ih,List.set_append_right _ _ (by rw [hk,Nat.add_mul];omega),hk]
  congr 2
  rw [Nat.add_mul]
  omega
theorem own_put {α:Type} {enc:α→List Value} {e:TypeId} {w:World} {base n cap g k j:Nat} {xs:List α} {x y:α} {v:Value} (hk:∀x,(enc x).length=3) (h:Own enc 3 e w base (.slice (some ⟨g,0,none⟩) n cap) n xs) (hx:xs[k]? =some x) (hj:j < 3) (hy:enc y=(enc x).set j v):
  Own enc 3 e (w.setCell ⟨g,k*3+j,none⟩ v) base (.slice (some ⟨g,0,none⟩) n cap) n (xs.set k y):=by
 have hkl:=(List.getElem?_eq_some_iff.1 hx).1
 have hn:=h.1
 refine own_many (vs:= [v]) (o:=k*3+j) hk h (List.length_set) ?_ ?_
 ·have:(k+1)*3≤n*3:=Nat.mul_le_mul_right 3 (by omega)
  rw [Nat.add_mul] at this
  show k*3+j+1≤n*3
  omega
 ·exact flat_putL hk hj xs k x y hx hy
theorem Own.take {α:Type} {enc:α→List Value} {k:Nat} {e:TypeId} {w:World} {base n c m:Nat} {A:Option Addr} {xs:List α} (hk:∀x,(enc x).length=k) (h:Own enc k e w base (.slice A n c) n xs) (hm:m≤n) (hA:A≠none):Own enc k e w base (.slice A m c) m (xs.take m):=by
 have hn:=h.1
 obtain ⟨h0,h1⟩:=h.2
 have hml:(xs.take m).length=m:=by rw [List.length_take];omega
 refine ⟨hml.symm,by rw [flat_len hk,hml],?_⟩
 rcases h1 with ⟨h1,_⟩ | ⟨g,cap,cur,h1,hb,hheap,hnc,hcm,hsz,htake⟩
 ·cases h1
  exact absurd rfl hA
 ·cases h1
  refine .inr ⟨g,c,cur,rfl,hb,hheap,by omega,hcm,hsz,?_⟩
  have e1:xs.flatMap enc=(xs.take m).flatMap enc++(xs.drop m).flatMap enc:=by rw [←List.flatMap_append,List.take_append_drop]
  have e2:((xs.take m).flatMap enc).length=m*k:=by rw [flat_len hk,hml]
  have hf:(xs.take m).flatMap enc=(xs.flatMap enc).take (m*k):=by
   rw [e1,←e2]
   exact List.take_left.symm
  rw [hf,←htake,List.take_take]
  congr 1
  have:=Nat.mul_le_mul_right k hm
  omega
theorem own_some {α:Type} {enc:α→List Value} {k:Nat} {e:TypeId} {w:World} {base n c:Nat} {A:Option Addr} {xs:List α} (h:Own enc k e w base (.slice A n c) n xs) (hn:0 < n):∃g cur,A=some ⟨g,0,none⟩∧base≤g∧Blk w g e cur∧n≤c:=by
 obtain ⟨h0,h1⟩:=h.2
 rcases h1 with ⟨h1,h2⟩ | ⟨g,cap,cur,h1,hb,hheap,hnc,hcm,hsz,htake⟩
 ·cases h1
  omega
 ·cases h1
  exact ⟨g,cur,rfl,hb,hheap,hnc⟩
theorem infoPs:(Tryz.prog.info? 43).map (fun i=>(i.zero,i.size,i.bytes))=some (some (.agg #[.int .i64 0, .int .i64 0, .int .i64 0]),3,24):=by kernel_rfl
theorem rep_flat (n:Nat):∀u∈(List.replicate n ((0,0,0):Pt)).flatMap encP,u=Value.int .i64 0:=fun u hu=>by
 obtain ⟨x,hx,hu⟩:=List.mem_flatMap.1 hu
 obtain rfl:=(List.mem_replicate.1 hx).2
 simp only [encP,List.mem_cons,List.not_mem_nil,or_false,or_self] at hu
 exact hu
theorem mk_p9 (n:Nat) (hn:n≤100000000) (W:World):(Instr.makeSlice 28 (.int .i64 (n:Int)) (.int .i64 (n:Int))).run Tryz.prog W= .ok (.slice (some ⟨W.heap.size,0,none⟩) n n) (W.alloc (.cells ((List.replicate n ((0,0,0):Pt)).flatMap encP).toArray 43)):=by
 obtain ⟨i,hi,hz,hs,hb⟩:=info_parts infoPs
 have h:=run_make (P:=Tryz.prog) W 28 43 i (.agg #[.int .i64 0, .int .i64 0, .int .i64 0]) Tryz.underlying28 hi hz .i64 .i64 n n (by omega) (by omega) (by rw [hb];omega) (by omega)
 rw [h,hs]
 have e:madeCells (Value.agg #[.int .i64 0, .int .i64 0, .int .i64 0]).cells ((n:Int).toNat*3)=((List.replicate n ((0,0,0):Pt)).flatMap encP).toArray:=by
  refine Array.ext (by simp [size_madeCells,flat_len encP_len]) fun k h1 h2=> ?_
  have hr:=rep_flat n (((List.replicate n ((0,0,0):Pt)).flatMap encP).toArray[k]) (by simp)
  rw [hr]
  have hk:k % 3=0∨k % 3=1∨k % 3=2:=by omega
  rcases hk with hk | hk | hk <;>simp [madeCells,Value.cells,hk]
 rw [e,Int.toNat_natCast]
theorem pcs_one {w:World} {base n c:Nat} {A:Option Addr} {v:Value} {x:List Pt} (hx:Own encP 3 43 w base (.slice A n c) n x) (hh:Own encS 1 28 w base v 1 [(A,n,c)]):Pcs encP 3 43 28 w base v [x]:=by
 refine ⟨[(A,n,c)],hh,fun i p hi=> ?_⟩
 have hn:=hx.1
 subst hn
 match i,hi with
 | 0,hi=>
  simp only [List.getElem?_cons_zero,Option.some.injEq] at hi
  subst hi
  exact ⟨A,c,rfl,hx⟩
 | i+1,hi=>simp at hi
end Go.Proofs.YtmemofonebphfaaGreat
