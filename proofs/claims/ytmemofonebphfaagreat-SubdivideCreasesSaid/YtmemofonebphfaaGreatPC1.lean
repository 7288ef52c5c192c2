import Derived.WalkKit
import Derived.WalkSpells
import Derived.WalkLawsBesides
import Derived.Laws.OwnMore
import Derived.Deep.AppendLies
import Derived.Deep.Draws
import Derived.Test.YtmemofonebphfaaGreatRows
import Derived.Handy
import Derived.Maps.Own
import Derived.Maps.Views
import Derived.DeepKeys4
import Derived.RangeFuncBox
import Derived.DeepKeys
import Derived.Laws.StructEq
import Derived.Sort.Grow
import Derived.Deep.QuietTactic
import Derived.BigQuiet
import Derived.LoopN
import Derived.Laws.EntriesVeiled
import Derived.Shelf.SlSortCmp.QuietGrown
import Derived.Deep.RegionHeld3
import Derived.Deep.DrawnRows
import Derived.Maps.AppendAt
import Derived.OwnWalk
import Derived.Shelf.GgSortFunc.RowK
import Derived.RangeFuncNested
import Derived.Sort.Statements
import Derived.Shelf.SlSortCmp.NoneTotal
import Derived.OrdersHeld
import Derived.OrdersIn
import Derived.RangeFuncCalls
import Derived.OwnWalkIn
import Derived.Deep.CutBlock
import Derived.Deep.DeepCutAuto
import Derived.StillTailTactics
import Derived.BigRegion
import Derived.Test.YtmemofonebphfaaGreatProg
import Derived.IntWalk
import Derived.Deep.WholeRow
import Derived.Great.BuildSlice
import Derived.Great.Walk
import Derived.Maps.OwnSet
import Derived.Maps.RangeWalk
import Derived.Deep.MidRow
import Derived.Shelf.RegionOpen
import Derived.Shelf.SlicesE.Clone
import Derived.WideKeyEntry
import Derived.Shelf.Abstract
import Derived.Test.YtmemofonebphfaaGreatP37
import Derived.Test.YtmemofonebphfaaGreatP43
namespace Go.Proofs.YtmemofonebphfaaGreat
open Go.RowKit Go.Sort
theorem side_two (f:Nat→Pt) (k:Nat):(sideP f k).length≤2:=by
 unfold sideP
 split <;>simp [quadP]
theorem voxN_few (b:Nat→Bool) (o:Pt) (s:Int) (n:Nat):∀k,(voxN b o s n k).length≤2*k
 | 0=>by simp [voxN]
 | k+1=>by
  rw [voxN_succ,List.length_append]
  have h1:=voxN_few b o s n k
  have h2:=side_two (cor8 (voxC o s n) s) k
  split
  ·omega
  ·simp;omega
theorem voxL_few (b:Nat→Bool) (o:Pt) (s:Int):∀k,(voxL b o s k).length≤12*((List.range k).filter b).length
 | 0=>by simp [voxL]
 | k+1=>by
  rw [voxL_succ,List.length_append,List.range_succ,List.filter_append,List.length_append]
  have h1:=voxL_few b o s k
  have h2:=voxN_few b o s k 6
  unfold voxM
  cases hb:b k with
  | true=>simp only [hb,if_true,List.filter_cons,List.filter_nil,List.length_cons,List.length_nil];omega
  | false=>simp [hb];omega
theorem two_bits:∀a:Fin 27,∀b:Fin 27,((List.range 27).filter fun n=>(2^a.val ||| 2^b.val).testBit n).length≤2:=by decide+kernel
theorem vox_few (bits:Int):(voxB bits).length≤24:=by
 have h:=voxL_few (bitsB bits).testBit (0,0,0) 1 27
 have h2:=two_bits ⟨(bits % 27).toNat,by omega⟩ ⟨((bits.tdiv 27) % 27).toNat,by omega⟩
 have h3:((List.range 27).filter (bitsB bits).testBit).length≤2:=h2
 show (voxL (bitsB bits).testBit (0,0,0) 1 27).length≤24
 omega
theorem base_few (kind bits:Int):(baseT kind bits).length≤24:=by
 have h:=vox_few bits
 have h2:(numV (voxB bits)).length≤24:=by unfold numV;rw [List.length_map];exact h
 unfold baseT
 split
 ·decide
 ·split
  ·decide
  ·split
   ·decide
   ·split
    ·exact h2
    ·decide
theorem made_one (s:ShpC) (h:s.steps=1):stM s=1:=by
 have hf:=base_few s.kind s.bits
 unfold stM
 rw [h]
 show lowS _ 1=1
 show (if 800 < (baseT s.kind s.bits).length*4 then _ else _)=1
 rw [if_neg (by omega)]
def bareC (c:Ctl):Ctl:={c with details:= []}
theorem bare_right {c:Ctl} (h:errC c=0):errC (bareC c)=0:=by
 obtain ⟨h1,h2,h3,h4,h5,h6⟩:=right_iff.1 h
 refine right_iff.2 ⟨?_,h2,h3,h4,?_,?_⟩
 ·unfold argC at h1⊢
  simp only [Bool.or_eq_false_iff,decide_eq_false_iff_not] at h1⊢
  refine ⟨h1.1,?_⟩
  show¬c.steps < ((0:Nat):Int)
  omega
 ·unfold manyC at h5⊢
  simp only [Bool.or_eq_false_iff] at h5⊢
  exact ⟨many_of (fun k d hd=>(by cases hd)),h5.2⟩
 ·unfold farC at h6⊢
  simp only [Bool.or_eq_false_iff] at h6⊢
  exact ⟨h6.1,rfl⟩
theorem points_right {c:Ctl} {P:List Pt} (h:errC c=0) (hl:P.length=c.points.length) (hr:∀p∈P,(0≤p.1∧p.1≤2097151 / 16^c.steps.toNat)∧(0≤p.2.1∧p.2.1≤2097151 / 16^c.steps.toNat)∧0≤p.2.2∧p.2.2≤2097151 / 16^c.steps.toNat):errC {c with points:=P}=0:=by
 obtain ⟨h1,h2,h3,h4,h5,h6⟩:=right_iff.1 h
 refine right_iff.2 ⟨h1,?_,h3,h4,h5,?_⟩
 ·unfold badIx at h2⊢
  rw [←hl] at h2
  exact h2
 ·unfold farC at h6⊢
  simp only [Bool.or_eq_false_iff] at h6⊢
  exact ⟨outR_of hr,h6.2⟩
theorem wsum_congr {P Q:List Pt}:∀ws:List (Int × Int),(∀x∈ws,P.getD x.2.toNat (0,0,0)=Q.getD x.2.toNat (0,0,0))→wsum P ws=wsum Q ws
 | [],_=>rfl
 | (k,i)::ws,h=>by
  have h0:=h (k,i) (by simp)
  have h1:=wsum_congr ws fun x hx=>h x (by simp [hx])
  simp only at h0
  simp only [wsum,h0,h1]
theorem rule_congr {P Q t:List Pt} {cr:List E2} {co:List Int} {a b:Int} (h:∀x∈wsE t cr co a b,P.getD x.2.toNat (0,0,0)=Q.getD x.2.toNat (0,0,0)):ruleE P t cr co a b=ruleE Q t cr co a b:=by
 unfold ruleE
 rw [wsum_congr _ h]
def endsC (c:Ctl):List Int:=c.creases.flatMap fun e=> [e.1,e.2]
theorem set_ends {c:Ctl} {e:E2} (he:e∈setE c.creases):e.1∈endsC c∧e.2∈endsC c:=by
 obtain ⟨f,hf,rfl⟩:=setE_mem.1 he
 have h1:f.1∈endsC c:=List.mem_flatMap.2 ⟨f,hf,by simp⟩
 have h2:f.2∈endsC c:=List.mem_flatMap.2 ⟨f,hf,by simp⟩
 unfold nrmE
 dsimp only
 constructor
 ·rcases Int.le_total f.1 f.2 with h | h
  ·rw [Int.min_eq_left h];exact h1
  ·rw [Int.min_eq_right h];exact h2
 ·rcases Int.le_total f.1 f.2 with h | h
  ·rw [Int.max_eq_right h];exact h2
  ·rw [Int.max_eq_left h];exact h1
theorem bey_ends {c:Ctl} {a b:Int} (ha:a∈endsC c):beyE (setE c.creases) c.corners a b∈endsC c:=by
 rcases bey_or (setE c.creases) c.corners a b with h | h
 ·rw [h];exact ha
 ·rcases mem_ends.1 h with h | h
  ·exact (set_ends h).2
  ·exact (set_ends h).1
theorem fin_one {c:Ctl} (he:errC c=0) (hs:c.steps=1) (hd:c.details= []):finP c=c.begin.p++c.begin.rules c.corners:=by
 unfold finP
 rw [if_pos he,hs]
 show (c.level 1).p=_
 unfold Ctl.level
 show c.begin.p++detE _ (c.details.getD 0 []) _=_
 rw [hd]
 show c.begin.p++detE _ [] _=_
 rw [detE_nil]
 rfl
theorem fin_one_len {c:Ctl} (he:errC c=0) (hs:c.steps=1) (hd:c.details= []):(finP c).length=c.points.length+(edgesE c.tris).length:=by
 rw [fin_one he hs hd,List.length_append,rules_len]
 show (List.map _ c.points).length+_=_
 rw [List.length_map]
 rfl
theorem crease_same {c d:Ctl} (hc:errC c=0) (hd:errC d=0) (hs:c.steps=1) (h0:c.details= []) (ht:d.tris=c.tris) (hr:d.creases=c.creases) (ho:d.corners=c.corners) (hs2:d.steps=1) (h1:d.details= []) (hl:d.points.length=c.points.length)
  (hp:∀n:Nat,(n:Int)∈endsC c→c.points.getD n (0,0,0)=d.points.getD n (0,0,0)) (hnn:∀n∈endsC c,0≤n) {i:Nat} {e f:E2} (hi:(edgesE c.tris)[i]? =some e) (hf:f∈c.creases) (hn:nrmE f.1 f.2=e):
  (finP c)[c.points.length+i]? =(finP d)[c.points.length+i]? ∧∃x,(finP c)[c.points.length+i]? =some x:=by
 have lc:c.begin.p.length=c.points.length:=List.length_map _
 have ld:d.begin.p.length=c.points.length:=(List.length_map _).trans hl
 have he:e∈setE c.creases:=setE_mem.2 ⟨f,hf,hn.symm⟩
 have hne:nrmE e.1 e.2=e:=by
  rw [←hn]
  unfold nrmE
  simp only [Prod.mk.injEq]
  omega
 have a1:(finP c)[c.points.length+i]? =some (ruleE c.begin.p c.tris (setE c.creases) c.corners e.1 e.2):=by
  rw [fin_one hc hs h0,List.getElem?_append_right (by omega),lc,Nat.add_sub_cancel_left]
  show ((edgesE c.tris).map _)[i]? =_
  rw [List.getElem?_map,hi]
  rfl
 have a2:(finP d)[c.points.length+i]? =some (ruleE d.begin.p c.tris (setE c.creases) c.corners e.1 e.2):=by
  rw [fin_one hd hs2 h1,List.getElem?_append_right (by omega),ld,Nat.add_sub_cancel_left]
  show ((edgesE d.tris).map fun e=>ruleE d.begin.p d.tris (setE d.creases) d.corners e.1 e.2)[i]? =_
  rw [ht,hr,ho,List.getElem?_map,hi]
  rfl
 have key:∀n∈endsC c,c.begin.p.getD n.toNat (0,0,0)=d.begin.p.getD n.toNat (0,0,0):=fun n hn=>by
  have h:=hp n.toNat (by rw [Int.toNat_of_nonneg (hnn n hn)];exact hn)
  have hst:d.steps=c.steps:=hs2.trans hs.symm
  show (c.points.map fun p=>plusP (0,0,0) p (16^c.steps.toNat)).getD _ _=(d.points.map fun p=>plusP (0,0,0) p (16^d.steps.toNat)).getD _ _
  rw [hst]
  rw [List.getD_eq_getElem?_getD,List.getD_eq_getElem?_getD] at h⊢
  rw [List.getElem?_map,List.getElem?_map]
  by_cases hlt:n.toNat < c.points.length
  ·rw [List.getElem?_eq_getElem hlt,List.getElem?_eq_getElem (by omega)] at h⊢
   simp only [Option.getD_some,Option.map_some] at h⊢
   rw [h]
  ·rw [List.getElem?_eq_none (by omega),List.getElem?_eq_none (by omega)]
 have e1:=(set_ends he).1
 have e2:=(set_ends he).2
 refine ⟨?_,_,a1⟩
 rw [a1,a2]
 refine congrArg some (rule_congr fun x hx=> ?_)
 unfold wsE at hx
 rw [hne,if_pos he] at hx
 simp only [List.mem_cons,List.not_mem_nil,or_false] at hx
 rcases hx with rfl | rfl | rfl | rfl
 ·exact key _ e1
 ·exact key _ e2
 ·exact key _ (bey_ends e1)
 ·exact key _ (bey_ends e2)
def movP (v:Pt) (i:Nat):Pt:=(wrap64 (v.1+(i:Int)) % 1000,wrap64 (v.2.1 - (i:Int)) % 1000,v.2.2 % 1000)
def movL (F:List Bool) (v:Pt) (P:List Pt) (k:Nat):List Pt:=P.mapIdx fun i p=>if i < k∧F.getD i false=false then movP v i else p
theorem movL_len (F:List Bool) (v:Pt) (P:List Pt) (k:Nat):(movL F v P k).length=P.length:=List.length_mapIdx
theorem movL_zero (F:List Bool) (v:Pt) (P:List Pt):movL F v P 0=P:=by
 refine List.ext_getElem? fun i=> ?_
 unfold movL
 rw [List.getElem?_mapIdx]
 cases P[i]? with
 | none=>rfl
 | some x=>simp
theorem movL_on {F:List Bool} {v:Pt} {P:List Pt} {k:Nat} (h:F.getD k false=true):movL F v P (k+1)=movL F v P k:=by
 refine List.ext_getElem? fun i=> ?_
 unfold movL
 rw [List.getElem?_mapIdx,List.getElem?_mapIdx]
 cases P[i]? with
 | none=>rfl
 | some x=>
  simp only [Option.map_some,Option.some.injEq]
  by_cases hi:i=k
  ·subst hi
   rw [if_neg (by rw [h];simp),if_neg (by omega)]
  ·by_cases hlt:i < k∧F.getD i false=false
   ·rw [if_pos ⟨by omega,hlt.2⟩,if_pos hlt]
   ·rw [if_neg (fun h'=>hlt ⟨by omega,h'.2⟩),if_neg hlt]
theorem movL_off {F:List Bool} {v:Pt} {P:List Pt} {k:Nat} (h:F.getD k false=false):movL F v P (k+1)=(movL F v P k).set k (movP v k):=by
 refine List.ext_getElem? fun i=> ?_
 rw [List.getElem?_set]
 unfold movL
 rw [List.getElem?_mapIdx,List.getElem?_mapIdx,List.length_mapIdx]
 by_cases hi:k=i
 ·subst hi
  rw [if_pos rfl]
  by_cases hk:k < P.length
  ·rw [if_pos hk,List.getElem?_eq_getElem hk]
   simp only [Option.map_some]
   rw [if_pos ⟨by omega,h⟩]
  ·rw [if_neg hk,List.getElem?_eq_none (by omega)]
   rfl
 ·rw [if_neg hi]
  cases P[i]? with
  | none=>rfl
  | some x=>
   simp only [Option.map_some,Option.some.injEq]
   by_cases hlt:i < k∧F.getD i false=false
   ·rw [if_pos ⟨by omega,hlt.2⟩,if_pos hlt]
   ·rw [if_neg (fun h'=>hlt ⟨by omega,h'.2⟩),if_neg hlt]
theorem movL_get {F:List Bool} {v:Pt} {P:List Pt} {k n:Nat} (h:F.getD n false=true):P.getD n (0,0,0)=(movL F v P k).getD n (0,0,0):=by
 rw [List.getD_eq_getElem?_getD,List.getD_eq_getElem?_getD]
 unfold movL
 rw [List.getElem?_mapIdx]
 cases P[n]? with
 | none=>rfl
 | some x=>
  simp only [Option.map_some,Option.getD_some]
  rw [if_neg (by rw [h];simp)]
theorem movL_rng {F:List Bool} {v:Pt} {P:List Pt} {k:Nat} {m:Int} (hm:999≤m) (h:∀p∈P,(0≤p.1∧p.1≤m)∧(0≤p.2.1∧p.2.1≤m)∧0≤p.2.2∧p.2.2≤m):∀p∈movL F v P k,(0≤p.1∧p.1≤m)∧(0≤p.2.1∧p.2.1≤m)∧0≤p.2.2∧p.2.2≤m:=fun p hp=>by
 obtain ⟨i,hi,e⟩:=List.mem_mapIdx.1 hp
 split at e
 ·rw [←e]
  unfold movP
  dsimp only
  omega
 ·rw [←e]
  exact h _ (List.getElem_mem _)
def onC (c:Ctl):List Bool:=markB (List.replicate c.points.length false) (endsC c)
def movC (c:Ctl) (v:Pt):Ctl:={c with points:=movL (onC c) v c.points c.points.length}
theorem ends_rng {c:Ctl} (h:errC c=0):∀n∈endsC c,0≤n∧n < (c.points.length:Int):=fun n hn=>by
 have h2:=(right_iff.1 h).2.1
 unfold badIx at h2
 simp only [Bool.or_eq_false_iff] at h2
 exact outE_no h2.1.2 n hn
theorem onC_get {c:Ctl} (h:errC c=0) {n:Nat} (hn:(n:Int)∈endsC c):(onC c).getD n false=true:=by
 have hr:=ends_rng h
 have hlt:=(hr _ hn).2
 rw [List.getD_eq_getElem?_getD]
 unfold onC
 rw [markB_get _ _ _ (by rw [List.length_replicate];omega) fun a ha=>(hr a ha).1]
 simp [hn]
theorem mov_right {c:Ctl} (h:errC c=0) (hs:c.steps=1) (v:Pt):errC (movC c v)=0:=by
 refine points_right h (movL_len _ _ _ _) ?_
 have hr:=outR_no (right_of h).rng
 rw [hs] at hr⊢
 exact movL_rng (by decide) hr
theorem crease_law {c:Ctl} (h:errC c=0) (hs:c.steps=1) (h0:c.details= []) (v:Pt) {i:Nat} {e f:E2} (hi:(edgesE c.tris)[i]? =some e) (hf:f∈c.creases) (hn:nrmE f.1 f.2=e):
  (finP c)[c.points.length+i]? =(finP (movC c v))[c.points.length+i]? ∧∃x,(finP c)[c.points.length+i]? =some x:=
 crease_same h (mov_right h hs v) hs h0 rfl rfl rfl hs h0 (movL_len _ _ _ _) (fun _ hn=>movL_get (onC_get h hn)) (fun n hn=>(ends_rng h n hn).1) hi hf hn
end Go.Proofs.YtmemofonebphfaaGreat
namespace Go.Proofs.YtmemofonebphfaaGreat
open Go.RowKit Go.Sort
theorem CtO.in_pO {w W W':World} {B g:Nat} {vp vt vc vo vd:Value} {c:Ctl} {Q:List Pt} (h:CtO w W B g vp vt vc vo vd c) (hg:W.grownBy W' vp.ownBlock) (ho:Own encP 3 43 W' w.heap.size vp Q.length Q):CtO w W' B g vp vt vc vo vd {c with points:=Q}:=
 ⟨h.in_p hg ho,⟨h.lb.1,Nat.le_trans h.lb.2 hg.size⟩,h.lp,h.d.turn hg (fun t _=>h.rowP t)⟩
theorem CtE.ctl {w W:World} {g:Nat} {Ap At Ac Ao Ad:Option Addr} {cp ct cc oc dc:Nat} {c:Ctl} (h:CtE w W g (.slice Ap c.points.length cp) (.slice At c.tris.length ct) (.slice Ac c.creases.length cc) (.slice Ao c.corners.length oc) (.slice Ad c.details.length dc) c):CtlM W W.heap.size Ap At Ac Ao Ad c:=
 ⟨h.p.sl encP_len (Nat.le_refl _),h.t.sl encN3_len (Nat.le_refl _),h.cr.sl encE2_len (Nat.le_refl _),h.o.sl encZ9_len (Nat.le_refl _),h.d.sl (Nat.le_refl _)⟩
set_option maxRecDepth 100000 in
set_option maxHeartbeats 64000000 in
theorem creases9_of (hmade:MadeSaid) (Ap Ac Ao Ad:Option Addr) (cp cc oc dc:Nat) (s:ShpC) (v:Pt) (w:World) (hm:ShpA w w.heap.size Ap Ac Ao Ad s) (hb:fits s.bits) (hl:s.points.length≤9223372036854775807∧s.creases.length≤9223372036854775807∧s.corners.length≤9223372036854775807∧s.details.length≤9223372036854775807) (_hv:fitsP v):
  Calls Tryz.prog 8 #[vShp s.kind s.bits s.steps Ap s.points.length cp Ac s.creases.length cc Ao s.corners.length oc Ad s.details.length dc,vP v] w fun e w'=>e= .returned (.bool true)∧Below w.heap.size w w':=by
 obtain ⟨s1,hs1⟩:∃t:ShpC,t={s with steps:=1}:=⟨_,rfl⟩
 have kmade:=fun (W:World) (hW:Below w.heap.size w W)=>hmade Ap Ac Ao Ad cp cc oc dc {s with steps:=1} W (show ShpA W W.heap.size Ap Ac Ao Ad {s with steps:=1} from ⟨(hm.below hW hW.size).p,(hm.below hW hW.size).c,(hm.below hW hW.size).o,(hm.below hW hW.size).d⟩) hb hl
 dsimp only at kmade
 rw [←hs1] at kmade
 have hst1:stM s1=1:=made_one s1 (by rw [hs1])
 have hr0:=made_right s1
 have hbk:=made_back s1
 have hsm:=made_small s1
 obtain ⟨c0,hc0⟩:∃c,c=madeC s1:=⟨_,rfl⟩
 have hs0:c0.steps=1:=by rw [hc0];show ((stM s1:Nat):Int)=1;rw [hst1];rfl
 have hnp9:c0.points.length≤972:=by
  rw [hc0]
  show (List.map _ _).length≤_
  rw [List.length_map,List.length_range]
  exact (base_right s1.kind s1.bits).pts
 have hnt9:c0.tris.length≤324:=by rw [hc0];exact (base_right s1.kind s1.bits).few
 have hnc9:c0.creases.length≤12:=by
  rw [hc0]
  show (List.map _ _).length≤_
  rw [List.length_map,List.length_take]
  omega
 rw [←hc0] at hr0 hbk hsm
 simp only [←hc0] at kmade
 obtain ⟨P,T,C,O,st,D⟩:=c0
 obtain rfl:st=1:=hs0
 have hrc:errC (⟨P,T,C,O,1, []⟩:Ctl)=0:=bare_right hr0
 have hbC:CtlB (⟨P,T,C,O,1, []⟩:Ctl):=⟨hsm.p,hsm.t,hsm.cr,hsm.o,(by show (0:Nat)≤100000;omega),by simp⟩
 have hbk:NoBack T:=hbk
 have hrd:=mov_right hrc rfl v
 have hlaw:=fun (i:Nat) (e f:E2)=>crease_law hrc rfl rfl v (i:=i) (e:=e) (f:=f)
 obtain ⟨ON,hON⟩:∃x,x=onC (⟨P,T,C,O,1, []⟩:Ctl):=⟨_,rfl⟩
 obtain ⟨Q,hQ⟩:∃q,q=movL ON v P P.length:=⟨_,rfl⟩
 have hd:movC (⟨P,T,C,O,1, []⟩:Ctl) v=(⟨Q,T,C,O,1, []⟩:Ctl):=by rw [hQ,hON];rfl
 have hlQ:Q.length=P.length:=by rw [hQ,movL_len]
 simp only [hd] at hrd hlaw
 have hbD:CtlB (⟨Q,T,C,O,1, []⟩:Ctl):=⟨by show Q.length≤_;rw [hlQ];exact hbC.p,hbC.t,hbC.cr,hbC.o,hbC.d,hbC.dd⟩
 have hl1:=fin_one_len hrc rfl rfl
 have hl2:=fin_one_len hrd rfl rfl
 have hen:=ends_rng hrc
 have hEf:∀e∈edgesE T,fits2 e:=fun e he=>by
  obtain ⟨x,hx,hd⟩:=mem_dirE.1 (mem_edgesE.1 he).1
  have h:=(right_of hrc).idx x hx
  have hp:=hnp9
  dsimp only at h hp
  have k1:fits x.1:=by unfold fits;omega
  have k2:fits x.2.1:=by unfold fits;omega
  have k3:fits x.2.2:=by unfold fits;omega
  rcases mem_de3.1 hd with rfl | rfl | rfl
  ·exact ⟨k1,k2⟩
  ·exact ⟨k2,k3⟩
  ·exact ⟨k3,k1⟩
 have hfc:=fin_fits (⟨P,T,C,O,1, []⟩:Ctl)
 have hfd:=fin_fits (⟨Q,T,C,O,1, []⟩:Ctl)
 have hon:ON=markB (List.replicate P.length false) (C.flatMap fun e=> [e.1,e.2]):=hON
 have hf1:fits 1:=by unfold fits;decide
 have kcopy:=fun (Ap At Ac Ao Ad:Option Addr) (cp ct cc oc dc:Nat) (W:World) (h:CtlM W W.heap.size Ap At Ac Ao Ad (⟨P,T,C,O,1, []⟩:Ctl))=>copy9_any Ap At Ac Ao Ad cp ct cc oc dc (⟨P,T,C,O,1, []⟩:Ctl) W h hbC
 have kf1:=fun (Ap At Ac Ao Ad:Option Addr) (cp ct cc oc dc:Nat) (W:World) (h:CtlM W W.heap.size Ap At Ac Ao Ad (⟨P,T,C,O,1, []⟩:Ctl))=>fine_any Ap At Ac Ao Ad cp ct cc oc dc (⟨P,T,C,O,1, []⟩:Ctl) W h hbC hf1 (fun _=>hbk)
 have kf2:=fun (Ap At Ac Ao Ad:Option Addr) (cp ct cc oc dc:Nat) (W:World) (h:CtlM W W.heap.size Ap At Ac Ao Ad (⟨Q,T,C,O,1, []⟩:Ctl))=>fine_any Ap At Ac Ao Ad cp ct cc oc dc (⟨Q,T,C,O,1, []⟩:Ctl) W h hbD hf1 (fun _=>hbk)
 have ked:=fun (A:Option Addr) (k:Nat) (W:World) (h:Sl encN3 3 W W.heap.size A T)=>edges9_any A k T W h (by have:=hbC.t;exact Nat.le_trans this (by decide))
 simp only [hrc] at kf1
 simp only [hrd] at kf2
 have hel:(edgesE T).length≤972:=Nat.le_trans (edgesE_le T) (by have h:=hnt9;dsimp only at h;omega)
 obtain ⟨FP,hFP⟩:∃x,x=finP (⟨P,T,C,O,1, []⟩:Ctl):=⟨_,rfl⟩
 obtain ⟨FQ,hFQ⟩:∃x,x=finP (⟨Q,T,C,O,1, []⟩:Ctl):=⟨_,rfl⟩
 obtain ⟨FT,hFT⟩:∃x,x=finT (⟨P,T,C,O,1, []⟩:Ctl):=⟨_,rfl⟩
 obtain ⟨FU,hFU⟩:∃x,x=finT (⟨Q,T,C,O,1, []⟩:Ctl):=⟨_,rfl⟩
 obtain ⟨EE,hEE⟩:∃x,x=edgesE T:=⟨_,rfl⟩
 simp only [←hFP,←hFT] at kf1 hl1 hfc hlaw
 simp only [←hFQ,←hFU] at kf2 hl2 hfd hlaw
 dsimp only at hl1 hl2 hlaw hen kcopy kf1 kf2 hnp9 hnt9 hnc9 kmade
 rw [←hEE] at hl1 hl2 hel
 simp only [←hEE] at ked hlaw hEf
 rw [hlQ] at hl2
 obtain ⟨np,hnp⟩:∃n,n=P.length:=⟨_,rfl⟩
 obtain ⟨nt,hnt⟩:∃n,n=T.length:=⟨_,rfl⟩
 obtain ⟨nc,hnc⟩:∃n,n=C.length:=⟨_,rfl⟩
 obtain ⟨no,hno⟩:∃n,n=O.length:=⟨_,rfl⟩
 obtain ⟨nd,hnd⟩:∃n,n=D.length:=⟨_,rfl⟩
 obtain ⟨ne,hne⟩:∃n,n=EE.length:=⟨_,rfl⟩
 obtain ⟨nF,hnF⟩:∃n,n=np+ne:=⟨_,rfl⟩
 rw [←hnp,←hne,←hnF] at hl1 hl2
 rw [←hnp] at hnp9 hlQ
 rw [←hnt] at hnt9
 rw [←hnc] at hnc9
 rw [←hne] at hel
 simp only [←hnp] at hlaw hen hon hQ
 simp only [hlQ,hl1,hl2,List.length_nil,←hnp,←hnt,←hnc,←hno,←hne] at kcopy kf1 kf2 ked
 obtain ⟨v1,v2,v3⟩:=v
 have HK:=hide (And.intro kmade (And.intro kcopy (And.intro kf1 (And.intro kf2 ked))))
 have HL:=hide (And.intro hlaw (And.intro hen (And.intro hEf (And.intro hfc (And.intro hfd (And.intro hon hQ))))))
 have HN:=hide (And.intro hnp (And.intro hnt (And.intro hnc (And.intro hno (And.intro hnd hne)))))
 have HF:=hide (And.intro hl1 (And.intro hl2 (And.intro hnF hlQ)))
 have hnFb:nF≤2000:=by omega
 clear kmade kcopy kf1 kf2 ked hlaw hen hEf hfc hfd hon hQ hnp hnt hnc hno hnd hne hl1 hl2 hnF hlQ hFP hFQ hFT hFU hEE hON hd hrc hrd hbC hbD hbk hsm hm hb hl hst1 hr0 hs1 hc0 hf1
 go_enter Tryz.func8,Tryz.ntmps8
 go_upto_region 1 with fail
 obtain ⟨g1,hg1⟩:∃g,g=w.heap.size:=⟨_,rfl⟩
 obtain ⟨g2,hg2⟩:∃g,g=w.heap.size+1:=⟨_,rfl⟩
 obtain ⟨X0,hX⟩:∃W,W=(w.alloc (.cells (cShp s.kind s.bits s.steps Ap s.points.length cp Ac s.creases.length cc Ao s.corners.length oc Ad s.details.length dc) 25)).alloc (.cells #[.int .i64 v1, .int .i64 v2, .int .i64 v3] 35):=⟨_,rfl⟩
 rw [←hX,←hg2,←hg1]
 have hb1:Blk X0 g1 25 (cShp s.kind s.bits s.steps Ap s.points.length cp Ac s.creases.length cc Ao s.corners.length oc Ad s.details.length dc):=by rw [hX,hg1];exact (Blk.new _ _ _).alloc _
 have hb2:Blk X0 g2 35 #[.int .i64 v1, .int .i64 v2, .int .i64 v3]:=by rw [hX,hg2];exact Blk.new' _ _ _ _ (by simp)
 have hBX:Below w.heap.size w X0:=by rw [hX];exact ((Below.refl _ w).alloc (Nat.le_refl _) _).alloc (by simp) _
 have H0:=hide (And.intro hb1 (And.intro hb2 (And.intro hBX (show w.heap.size≤g1∧g2≠g1 by omega))))
 clear hb1 hb2 hBX hX hg1 hg2
 go_upto_region 2 with (go_at_call 13;refine (sanity9_any X0).mono ?_;rintro e X1 ⟨rfl,hB1⟩;have h1:=H0.out.1.below hB1 H0.out.1.lt;have c2:=h1.cell 2;have f2:=h1.frozen 2;have hgl:=h1.lt;have H1:=hide (And.intro h1 (And.intro (H0.out.2.1.below hB1 H0.out.2.1.lt) (H0.out.2.2.1.trans (hB1.mono H0.out.2.2.1.size))));clear hB1 h1)
 go_upto_region 3 with fail
 obtain ⟨X2,hX2⟩:∃W,W=X1.setCell ⟨g1,2,none⟩ (.int .i64 1):=⟨_,rfl⟩
 rw [←hX2]
 have hb1:Blk X2 g1 25 (cShp s.kind s.bits 1 Ap s.points.length cp Ac s.creases.length cc Ao s.corners.length oc Ad s.details.length dc):=by rw [hX2];exact H1.out.1.set_ 2 (.int .i64 1)
 have hb2:Blk X2 g2 35 #[.int .i64 v1, .int .i64 v2, .int .i64 v3]:=by rw [hX2];exact H1.out.2.1.far H0.out.2.2.2.2 _
 have hBX:Below w.heap.size w X2:=by rw [hX2];exact H1.out.2.2.setCell H0.out.2.2.2.1 _
 obtain ⟨z0,z1,z2,z3,z4,z5,z6⟩:=hb1.seven9
 have H2:=hide (And.intro hb2 hBX)
 have hgl2:=hb1.lt
 clear c2 f2 hgl hX2 hb1 hb2 hBX
 go_upto_region 4 with (go_at_call 15;refine (HK.out.1 X2 H2.out.2).mono ?_;rintro e X3 ⟨A1,A2,A3,A4,A5,k1,k2,k3,k4,k5,rfl,ht,hp,hcr,hco,hd,hB⟩;have H3:=hide (And.intro ht (And.intro hp (And.intro hcr (And.intro hco (And.intro hd hB)))));clear ht hp hcr hco hd hB)
 clear z0 z1 z2 z3 z4 z5 z6 hgl2
 try dsimp only
 try simp only [←HN.out.1,←HN.out.2.1,←HN.out.2.2.1,←HN.out.2.2.2.1,←HN.out.2.2.2.2.1]
 obtain ⟨g6,hg6⟩:∃g,g=X3.heap.size:=⟨_,rfl⟩
 obtain ⟨X4,hX4⟩:∃W,W=X3.alloc (.cells (cMad (.slice A1 np k1) (.slice A2 nt k2) (.slice A3 nc k3) (.slice A4 no k4) 1 (.slice A5 nd k5)) 32):=⟨_,rfl⟩
 rw [←hX4,←hg6]
 have hBa:Below X3.heap.size X3 X4:=by rw [hX4];exact (Below.refl _ _).alloc (Nat.le_refl _) _
 have hS4:CtE X2 X4 g6 (.slice A1 np k1) (.slice A2 nt k2) (.slice A3 nc k3) (.slice A4 no k4) (.slice A5 nd k5) ⟨P,T,C,O,1,D⟩:=by
  have hz:=H3.out.2.2.2.2.2.size
  have hb6:Blk X4 g6 32 (cMad (.slice A1 np k1) (.slice A2 nt k2) (.slice A3 nc k3) (.slice A4 no k4) 1 (.slice A5 nd k5)):=by rw [hX4,hg6];exact Blk.new _ _ _
  rw [HN.out.1,HN.out.2.1,HN.out.2.2.1,HN.out.2.2.2.1,HN.out.2.2.2.2.1] at hb6⊢
  exact ⟨H3.out.2.2.2.2.2.trans (hBa.mono hz),hb6,by omega,H3.out.2.1.below hBa (Nat.le_refl _),H3.out.1.below hBa (Nat.le_refl _),H3.out.2.2.1.below hBa (Nat.le_refl _),H3.out.2.2.2.1.below hBa (Nat.le_refl _),H3.out.2.2.2.2.1.below hBa (Nat.le_refl _)⟩
 have c5:=hS4.b.cell 5
 have f5:=hS4.b.frozen 5
 have hg6l:=hS4.b.lt
 have HS4:=hide hS4
 clear hS4 hX4 hg6 hBa
 go_upto_region 5 with fail
 obtain ⟨V,hV⟩:∃W,W=X4.setCell ⟨g6,5,none⟩ (.slice none 0 0):=⟨_,rfl⟩
 rw [←hV]
 have hS:CtE X2 V g6 (.slice A1 np k1) (.slice A2 nt k2) (.slice A3 nc k3) (.slice A4 no k4) (.slice none 0 0) ⟨P,T,C,O,1, []⟩:=by rw [hV];exact HS4.out.in_d Pcs.nil
 obtain ⟨z0,z1,z2,z3,z4,z5⟩:=hS.b.six9
 have hg6V:=hS.b.lt
 have hq:Blk V g2 35 #[.int .i64 v1, .int .i64 v2, .int .i64 v3]:=H2.out.1.below hS.bel H2.out.1.lt
 have HS:=hide (And.intro hS (And.intro hq (H2.out.2.trans (hS.bel.mono H2.out.2.size))))
 clear c5 f5 hg6l hV hS hq
 have hmk:=mk_bl9 np (by omega)
 obtain ⟨R0,hR0⟩:∃R:Array Value,R=((List.replicate np false).map Value.bool).toArray:=⟨_,rfl⟩
 rw [←hR0] at hmk
 have HR0:=hide hR0
 clear hR0
 go_upto_region 7 with fail
 clear hmk z0 z1 z2 z3 z4 z5
 obtain ⟨g7,hg7⟩:∃g,g=V.heap.size:=⟨_,rfl⟩
 obtain ⟨V1,hV1⟩:∃W,W=V.alloc (.cells R0 4):=⟨_,rfl⟩
 rw [←hV1,←hg7]
 have hR:RowB V1 g7 (markB (List.replicate np false) []):=by rw [hV1,hg7];show Blk _ _ _ ((List.replicate np false).map Value.bool).toArray;rw [←HR0.out];exact Blk.new _ _ _
 have hB:Below V.heap.size V V1:=by rw [hV1];exact (Below.refl _ V).alloc (Nat.le_refl _) _
 have H7:=hide (And.intro hR (And.intro hB (show V.heap.size≤g7 by omega)))
 clear hR hB hV1 hg7
 go_loopw [8] (fun iv wr=>∃i:Nat,i≤nc∧iv= .int .i64 i∧RowB wr g7 (markB (List.replicate np false) ((C.take i).flatMap fun e=> [e.1,e.2]))∧Below V.heap.size V wr) (fun iv _=>nc - (intOf iv).toNat)
 case atStart=>exact ⟨0,by omega,rfl,H7.out.1,H7.out.2.1⟩
 case round=>
  obtain ⟨i,hi,rfl,hR,hB⟩:=hrel
  obtain ⟨U,rfl⟩:∃x,x=wr:=⟨_,rfl⟩
  have z2:U.cell? ⟨g6,2,none⟩=some (.slice A3 nc k3):=(hB.cell (p:=⟨g6,2,none⟩) hg6V).trans (HS.out.1.b.cell 2)
  have hg6U:g6 < U.heap.size:=Nat.lt_of_lt_of_le hg6V hB.size
  by_cases hlt:i < nc
  ·have i1:(i:Int) < (nc:Int):=by omega
   obtain ⟨x,hx⟩:∃x,C[i]? =some x:=⟨_,List.getElem?_eq_getElem (by rw [←HN.out.2.2.1];exact hlt)⟩
   have hm1:x.1∈C.flatMap fun e=> [e.1,e.2]:=List.mem_flatMap.2 ⟨x,List.mem_of_getElem? hx,by simp⟩
   have hm2:x.2∈C.flatMap fun e=> [e.1,e.2]:=List.mem_flatMap.2 ⟨x,List.mem_of_getElem? hx,by simp⟩
   have hr1:=HL.out.2.1 x.1 hm1
   have hr2:=HL.out.2.1 x.2 hm2
   have htk:((C.take (i+1)).flatMap fun e=> [e.1,e.2])=((C.take i).flatMap fun e=> [e.1,e.2])++ [x.1]++ [x.2]:=by
    rw [List.take_add_one,hx,List.flatMap_append,List.append_assoc]
    rfl
   have hSC:Sl encE2 2 V V.heap.size A3 C:=by
    have h:=HS.out.1.cr
    simp only [←HN.out.2.2.1] at h
    exact h.sl encE2_len (Nat.le_refl _)
   obtain ⟨bc,oc9,hA,hbc,v0,v1'⟩:=hSC.e2 hx
   subst hA
   have d0:=(hB.cell (p:=⟨bc,oc9+i*2,none⟩) hbc).trans v0
   have HVV:=hide (And.intro v1' hbc)
   clear v0 v1'
   have hbU:bc < U.heap.size:=Nat.lt_of_lt_of_le hbc hB.size
   obtain ⟨x1,x2⟩:=x
   dsimp only at hr1 hr2 d0 htk HVV
   obtain ⟨y1,rfl⟩:∃y:Nat,x1=y:=⟨x1.toNat,by omega⟩
   obtain ⟨y2,rfl⟩:∃y:Nat,x2=y:=⟨x2.toNat,by omega⟩
   have l1:(y1:Int) < (np:Int):=hr1.2
   have l2:(y2:Int) < (np:Int):=hr2.2
   have hgU:g7 < U.heap.size:=Blk.lt hR
   have cel:∀(W:World) (F:List Bool),RowB W g7 F→F.length=np→∀y:Nat,y < np→W.cell? ⟨g7,y,none⟩=some (.bool (F.getD y false)):=fun W F h hF y hy=>by
    refine h.cell ?_
    rw [List.getElem?_eq_getElem (by omega),List.getD_eq_getElem?_getD,List.getElem?_eq_getElem (by omega)]
    rfl
   have hlen:∀l:List Int,(markB (List.replicate np false) l).length=np:=fun l=>by rw [markB_len,List.length_replicate]
   have e1:=cel U _ hR (hlen _) y1 (by omega)
   have f1:=hR.frozen y1
   have hR2:=hR.set y1 true
   have e2:=cel _ _ hR2 (by rw [List.length_set];exact hlen _) y2 (by omega)
   have f2:=hR2.frozen y2
   have HG:=hide (And.intro e2 f2)
   clear e2 f2
   have hE2:RowB ((U.setCell ⟨g7,y1,none⟩ (.bool true)).setCell ⟨g7,y2,none⟩ (.bool true)) g7 (markB (List.replicate np false) ((C.take (i+1)).flatMap fun e=> [e.1,e.2])):=by
    rw [htk,markB_snoc,markB_snoc,Int.toNat_natCast,Int.toNat_natCast]
    exact hR2.set y2 true
   have HE:=hide (And.intro hE2 ((hB.setCell (p:=⟨g7,y1,none⟩) H7.out.2.2 (.bool true)).setCell (p:=⟨g7,y2,none⟩) H7.out.2.2 (.bool true)))
   have HB1:=hide (hB.setCell (p:=⟨g7,y1,none⟩) H7.out.2.2 (.bool true))
   clear hR2 hE2 cel hlen hR hB htk hx hm1 hm2 hr1 hr2 hSC hbc
   go_upto_region 10 with fail
   obtain ⟨U1,hU1⟩:∃W,W=U.setCell ⟨g7,y1,none⟩ (.bool true):=⟨_,rfl⟩
   rw [←hU1] at HG HE HB1⊢
   have d1:=(HB1.out.cell (p:=⟨bc,oc9+i*2+1,none⟩) HVV.out.2).trans HVV.out.1
   have y2c:=(HB1.out.cell (p:=⟨g6,2,none⟩) hg6V).trans (HS.out.1.b.cell 2)
   have hbU1:bc < U1.heap.size:=Nat.lt_of_lt_of_le HVV.out.2 HB1.out.size
   have hg6U1:g6 < U1.heap.size:=Nat.lt_of_lt_of_le hg6V HB1.out.size
   have hgU1:g7 < U1.heap.size:=by rw [hU1];exact Nat.lt_of_lt_of_le hgU (KeepsWalks.setCell U _ _).size
   have e2:=HG.out.1
   have f2:=HG.out.2
   clear z2 hg6U d0 e1 f1 hbU hgU hU1
   go_wp2
   go_roundw
   case rel=>repeat (first | exact ⟨i+1,by omega,by go_num,HE.out⟩ | (refine ⟨?_,rfl⟩;exact ⟨i+1,by omega,by go_num,HE.out⟩) | apply Exists.intro)
   case measure=>(simp [intOf];try omega)
  ·obtain rfl:i=nc:=by omega
   obtain ⟨nc,rfl⟩:∃n,n=i:=⟨_,rfl⟩
   have i1:¬(nc:Int) < (nc:Int):=by omega
   rw [List.take_of_length_le (by rw [←HN.out.2.2.1];exact Nat.le_refl _),←HL.out.2.2.2.2.2.1] at hR
   have hSU:=HS.out.1.below hB
   have HU:=hide (And.intro hR (And.intro hB (And.intro hSU (HS.out.2.1.below hB HS.out.2.1.lt))))
   obtain ⟨q0,q1,q2,q3,q4,q5⟩:=hSU.b.six9
   have hctl:CtlM U U.heap.size A1 A2 A3 A4 none (⟨P,T,C,O,1, []⟩:Ctl):=by
    have h:=hSU
    rw [HN.out.1,HN.out.2.1,HN.out.2.2.1,HN.out.2.2.2.1] at h
    exact CtE.ctl (c:=(⟨P,T,C,O,1, []⟩:Ctl)) (Ad:=none) (dc:=0) h
   have HC:=hide hctl
   clear hR hB hSU z2 hctl
   go_upto_region 12 with (go_at_call 21;refine (HK.out.2.1 _ _ _ _ _ _ _ _ _ _ U HC.out).mono ?_;rintro e X5 ⟨BB,B1,B2,B3,B4,B5,b1,b2,b3,b4,b5,rfl,ht1,hp1,hc1,ho1,hd1,hlb,hB1⟩;have H5:=hide (And.intro (And.intro ht1 (And.intro hp1 (And.intro hc1 (And.intro ho1 hd1)))) (And.intro hlb hB1));clear ht1 hp1 hc1 ho1 hd1 hlb hB1)
   clear q0 q1 q2 q3 q4 q5
   try dsimp only
   try simp only [←HN.out.1,←HN.out.2.1,←HN.out.2.2.1,←HN.out.2.2.2.1]
   obtain ⟨g9,hg9⟩:∃g,g=X5.heap.size:=⟨_,rfl⟩
   obtain ⟨X6,hX6⟩:∃W,W=X5.alloc (.cells (cMad (.slice B1 np b1) (.slice B2 nt b2) (.slice B3 nc b3) (.slice B4 no b4) 1 (.slice B5 0 b5)) 32):=⟨_,rfl⟩
   rw [←hX6,←hg9]
   have hBa:Below X5.heap.size X5 X6:=by rw [hX6];exact (Below.refl _ _).alloc (Nat.le_refl _) _
   have hS2:CtO U X6 BB g9 (.slice B1 np b1) (.slice B2 nt b2) (.slice B3 nc b3) (.slice B4 no b4) (.slice B5 0 b5) (⟨P,T,C,O,1, []⟩:Ctl):=by
    have hz:=H5.out.2.2.size
    have hzb:=hBa.size
    have hb9:Blk X6 g9 32 (cMad (.slice B1 np b1) (.slice B2 nt b2) (.slice B3 nc b3) (.slice B4 no b4) 1 (.slice B5 0 b5)):=by rw [hX6,hg9];exact Blk.new _ _ _
    rw [HN.out.1,HN.out.2.1,HN.out.2.2.1,HN.out.2.2.2.1] at hb9⊢
    have hl:=H5.out.2.1
    exact ⟨⟨H5.out.2.2.trans (hBa.mono hz),hb9,by omega,H5.out.1.2.1.below hBa (Nat.le_refl _),H5.out.1.1.below hBa (Nat.le_refl _),H5.out.1.2.2.1.below hBa (Nat.le_refl _),H5.out.1.2.2.2.1.below hBa (Nat.le_refl _),(H5.out.1.2.2.2.2.base_le hl.1).below hBa (Nat.le_refl _)⟩,⟨hl.1,Nat.le_trans hl.2.1 hzb⟩,hl.2.2,H5.out.1.2.2.2.2.below hBa (Nat.le_refl _)⟩
   have HO:=hide hS2
   clear hS2 hX6 hg9 hBa i1 hg6U hlt hi
   go_upto_region 13 with fail
   go_loopw [10] (fun iv wr=>∃i:Nat,i≤np∧iv= .int .i64 i∧CtO U wr BB g9 (.slice B1 np b1) (.slice B2 nt b2) (.slice B3 nc b3) (.slice B4 no b4) (.slice B5 0 b5) (⟨movL ON (v1,v2,v3) P i,T,C,O,1, []⟩:Ctl)) (fun iv _=>np - (intOf iv).toNat)
   case atStart=>exact ⟨0,by omega,rfl,by rw [movL_zero];exact HO.out⟩
   case round=>
    obtain ⟨i,hi,rfl,hS⟩:=hrel
    obtain ⟨Y,rfl⟩:∃x,x=wr:=⟨_,rfl⟩
    have z0:Y.cell? ⟨g9,0,none⟩=some (.slice B1 np b1):=hS.e.b.cell 0
    have hg9Y:=hS.e.b.lt
    by_cases hlt:i < np
    ·have i1:(i:Int) < (np:Int):=by omega
     have hRY:RowB Y g7 ON:=Blk.below HU.out.1 hS.e.bel (Blk.lt HU.out.1)
     have hlen:ON.length=np:=by rw [HL.out.2.2.2.2.2.1,markB_len,List.length_replicate]
     obtain ⟨u,hu⟩:∃u,ON[i]? =some u:=⟨_,List.getElem?_eq_getElem (by omega)⟩
     have hud:ON.getD i false=u:=by rw [List.getD_eq_getElem?_getD,hu];rfl
     have e7:=hRY.cell hu
     have hg7Y:g7 < Y.heap.size:=Blk.lt hRY
     have HSY:=hide (And.intro hS hud)
     clear hS hRY hlen hu hud
     cases u with
     | true=>
      go_wp2
      go_roundw
      case rel=>repeat (first | exact ⟨i+1,by omega,by go_num,by rw [movL_on HSY.out.2];exact HSY.out.1⟩ | (refine ⟨?_,rfl⟩;exact ⟨i+1,by omega,by go_num,by rw [movL_on HSY.out.2];exact HSY.out.1⟩) | apply Exists.intro)
      case measure=>(simp [intOf];try omega)
     | false=>
      go_upto_region 16 with fail
      clear e7 hg7Y
      obtain ⟨a1,ha1⟩:∃a,a=wrap64 (v1+(i:Int)):=⟨_,rfl⟩
      obtain ⟨a2,ha2⟩:∃a,a=wrap64 (v2 - (i:Int)):=⟨_,rfl⟩
      have w1:IntKind.i64.wrap (v1+(i:Int))=a1:=(IntWalk.i64_left _).trans ha1.symm
      have w2:IntKind.i64.wrap (v2 - (i:Int))=a2:=(IntWalk.i64_left _).trans ha2.symm
      obtain ⟨o1,ho1⟩:∃a,a=a1 % 1000:=⟨_,rfl⟩
      obtain ⟨o2,ho2⟩:∃a,a=a2 % 1000:=⟨_,rfl⟩
      obtain ⟨o3,ho3⟩:∃a,a=v3 % 1000:=⟨_,rfl⟩
      have km1:=fun W=>mod1_any a1 1000 (by decide) (by decide) W
      have km2:=fun W=>mod1_any a2 1000 (by decide) (by decide) W
      have km3:=fun W=>mod1_any v3 1000 (by decide) (by decide) W
      simp only [←ho1,←ho2,←ho3] at km1 km2 km3
      have hmv:movP (v1,v2,v3) i=(o1,o2,o3):=by
       unfold movP
       dsimp only
       rw [←ha1,←ha2,←ho1,←ho2,←ho3]
      have hP0:Own encP 3 43 Y U.heap.size (.slice B1 np b1) np (movL ON (v1,v2,v3) P i):=by
       have h:=HSY.out.1.e.p
       dsimp only at h
       rw [movL_len,←HN.out.1] at h
       exact h
      obtain ⟨gp,cur,hA,hge,hbT,hcap⟩:=own_some hP0 (by omega)
      subst hA
      have hgpl:=hbT.lt
      have fr0:=hbT.frozen (i*3)
      have fr1:=hbT.frozen (i*3+1)
      have fr2:=hbT.frozen (i*3+2)
      obtain ⟨y,hy⟩:∃y,(movL ON (v1,v2,v3) P i)[i]? =some y:=⟨_,List.getElem?_eq_getElem (by rw [movL_len,←HN.out.1];exact hlt)⟩
      obtain ⟨b,o,hA,hb,d0,d1,d2⟩:=(show Sl encP 3 Y Y.heap.size (some ⟨gp,0,none⟩) (movL ON (v1,v2,v3) P i) from hP0.sl encP_len (Nat.le_refl _)).pt4 hy
      cases hA
      rw [Nat.zero_add] at d0 d1 d2
      have hqY:=HU.out.2.2.2.below HSY.out.1.e.bel HU.out.2.2.2.lt
      obtain ⟨y0,y1,y2⟩:=hqY.three
      have hg2Y:=hqY.lt
      have HM:=hide (And.intro km1 (And.intro km2 (And.intro km3 hmv)))
      have HP0:=hide hP0
      clear km1 km2 km3 hmv ha1 ha2 ho1 ho2 ho3 hP0 hy hb hqY
      have HSB:=hide (show Below Y.heap.size Y Y.drew from (Below.refl _ Y).drew)
      refine wp_region_mix (fun W=>Below Y.heap.size Y W) [0,1,2,3,4,5,6,8,9,10,11,13,14,16,17] [0,1,2,3,4,5,6,8,9,10,11,13,14,7,12,15,16,17,18] mixed_ok (by kernel_rfl) ?_
      refine wpMix_q (v:=(.pointer (some ⟨g9,0,none⟩))) rfl rfl (fun _ _ _ h=>h) HSB.out ⟨rfl,fun _ _=>by simp [go_sem]⟩ ?_
      refine wpMix_q (v:=(.slice (some ⟨gp,0,none⟩) np b1)) rfl rfl (fun _ _ _ h=>h) HSB.out ⟨rfl,fun _ h'=>by have a0:=(h'.cell (p:=⟨g9,0,none⟩) hg9Y).trans z0;simp [go_sem,a0]⟩ ?_
      refine wpMix_q (v:=(.int .i64 i)) rfl rfl (fun _ _ _ h=>h) HSB.out ⟨rfl,fun _ _=>by simp [go_sem]⟩ ?_
      refine wpMix_q (v:=(.pointer (some ⟨g2,0,none⟩))) rfl rfl (fun _ _ _ h=>h) HSB.out ⟨rfl,fun _ _=>by simp [go_sem]⟩ ?_
      refine wpMix_q (v:=(.int .i64 v1)) rfl rfl (fun _ _ _ h=>h) HSB.out ⟨rfl,fun _ h'=>by have a0:=(h'.cell (p:=⟨g2,0,none⟩) hg2Y).trans y0;simp [go_sem,a0]⟩ ?_
      refine wpMix_q (v:=(.int .i64 i)) rfl rfl (fun _ _ _ h=>h) HSB.out ⟨rfl,fun _ _=>by simp [go_sem]⟩ ?_
      simp only [List.getElem_toArray,List.getElem_cons_succ,List.getElem_cons_zero,Act.put,List.setIfInBounds_toArray,List.set_cons_succ,List.set_cons_zero]
      refine wpMix_q (v:=(.int .i64 a1)) rfl rfl (fun _ _ _ h=>h) HSB.out ⟨rfl,fun _ _=>by simp [go_sem,w1]⟩ ?_
      refine wpMix_q (v:=(.pointer (some ⟨g2,1,none⟩))) rfl rfl (fun _ _ _ h=>h) HSB.out ⟨rfl,fun _ _=>by simp [go_sem]⟩ ?_
      refine wpMix_q (v:=(.int .i64 v2)) rfl rfl (fun _ _ _ h=>h) HSB.out ⟨rfl,fun _ h'=>by have a0:=(h'.cell (p:=⟨g2,1,none⟩) hg2Y).trans y1;simp [go_sem,a0]⟩ ?_
      refine wpMix_q (v:=(.int .i64 i)) rfl rfl (fun _ _ _ h=>h) HSB.out ⟨rfl,fun _ _=>by simp [go_sem]⟩ ?_
      refine wpMix_q (v:=(.int .i64 a2)) rfl rfl (fun _ _ _ h=>h) HSB.out ⟨rfl,fun _ _=>by simp [go_sem,w2]⟩ ?_
      refine wpMix_q (v:=(.pointer (some ⟨g2,2,none⟩))) rfl rfl (fun _ _ _ h=>h) HSB.out ⟨rfl,fun _ _=>by simp [go_sem]⟩ ?_
      simp only [List.getElem_toArray,List.getElem_cons_succ,List.getElem_cons_zero,Act.put,List.setIfInBounds_toArray,List.set_cons_succ,List.set_cons_zero]
      refine wpMix_q (v:=(.int .i64 v3)) rfl rfl (fun _ _ _ h=>h) HSB.out ⟨rfl,fun _ h'=>by have a0:=(h'.cell (p:=⟨g2,2,none⟩) hg2Y).trans y2;simp [go_sem,a0]⟩ ?_
      simp only [List.getElem_toArray,List.getElem_cons_succ,List.getElem_cons_zero,Act.put,List.setIfInBounds_toArray,List.set_cons_succ,List.set_cons_zero]
      refine wpMix_n rfl rfl ?_
      go_wp2_with fail
      refine (HM.out.1 Y.drew).mono ?_
      rintro e W1 ⟨rfl,rfl⟩
      go_wp2_with fail
      refine ⟨fun _=>HSB.out,?_⟩
      refine wpMix_n rfl rfl ?_
      go_wp2_with fail
      refine (HM.out.2.1 Y.drew).mono ?_
      rintro e W1 ⟨rfl,rfl⟩
      go_wp2_with fail
      refine ⟨fun _=>HSB.out,?_⟩
      refine wpMix_n rfl rfl ?_
      go_wp2_with fail
      refine (HM.out.2.2.1 Y.drew).mono ?_
      rintro e W1 ⟨rfl,rfl⟩
      go_wp2_with fail
      refine ⟨fun _=>HSB.out,?_⟩
      refine wpMix_q (v:=(.agg #[.int .i64 o1, .int .i64 o2, .int .i64 o3])) rfl rfl (fun _ _ _ h=>h) HSB.out ⟨rfl,fun _ _=>by simp [go_sem]⟩ ?_
      refine wpMix_q (v:=(.pointer (some ⟨gp,i*3,none⟩))) rfl rfl (fun _ _ _ h=>h) HSB.out ⟨rfl,fun _ _=>by simp [go_sem,i1]⟩ ?_
      simp only [List.getElem_toArray,List.getElem_cons_succ,List.getElem_cons_zero,Act.put,List.setIfInBounds_toArray,List.set_cons_succ,List.set_cons_zero]
      refine wpMix_tail _ [_] (by kernel_rfl) rfl ?_
      clear HSB
      have h1:=HP0.out.setW encP_len (i:=i) (by rw [movL_len,←HN.out.1];exact hlt) ((o1,o2,o3):Pt)
      have h2:=HSY.out.1.in_pO (Q:=(movL ON (v1,v2,v3) P i).set i (o1,o2,o3)) (setW_grown gp (encP (o1,o2,o3)) Y (i*3)) (by rw [List.length_set,movL_len,←HN.out.1];exact h1)
      have hQ2:(movL ON (v1,v2,v3) P i).set i (o1,o2,o3)=movL ON (v1,v2,v3) P (i+1):=by rw [movL_off HSY.out.2,HM.out.2.2.2]
      rw [hQ2] at h2
      have H2:=hide (h2.below ((Below.refl _ _).drew))
      clear h1 h2 hQ2
      go_wp2
      go_roundw
      case rel=>repeat (first | exact ⟨i+1,by omega,by go_num,by first | exact H2.out | exact H2.out⟩ | (refine ⟨?_,rfl⟩;exact ⟨i+1,by omega,by go_num,by first | exact H2.out | exact H2.out⟩) | apply Exists.intro)
      case measure=>(simp [intOf];try omega)
    ·obtain rfl:i=np:=by omega
     obtain ⟨np,rfl⟩:∃n,n=i:=⟨_,rfl⟩
     have i1:¬(np:Int) < (np:Int):=by omega
     have hQ:movL ON (v1,v2,v3) P np=Q:=HL.out.2.2.2.2.2.2.symm
     rw [hQ] at hS
     have hctd:CtlM Y Y.heap.size B1 B2 B3 B4 B5 (⟨Q,T,C,O,1, []⟩:Ctl):=by
      have h:=hS.e
      have hl:=HF.out.2.2.2
      rw [HN.out.2.1,HN.out.2.2.1,HN.out.2.2.2.1,←hl] at h
      exact CtE.ctl (c:=(⟨Q,T,C,O,1, []⟩:Ctl)) (dc:=b5) h
     have hctc:=HC.out.below hS.e.bel hS.e.bel.size
     have hb6:=HU.out.2.2.1.b.below hS.e.bel HU.out.2.2.1.b.lt
     have hb9:=hS.e.b
     have hBY:=HU.out.2.2.1.bel.trans (hS.e.bel.mono HU.out.2.2.1.bel.size)
     have HY:=hide (And.intro hctc (And.intro hctd (And.intro hb6 (And.intro hb9 (HS.out.2.2.trans ((HU.out.2.1.trans (hS.e.bel.mono HU.out.2.1.size)).mono HS.out.2.2.size))))))
     clear hS hQ hctd hctc hb6 hb9 hBY hlt hi
     go_upto_region 17 with fail
     clear z0 hg9Y i1
     obtain ⟨q0,q1,q2,q3,q4,q5⟩:=HY.out.2.2.1.six9
     have hg6Y:=HY.out.2.2.1.lt
     go_upto_region 18 with (go_at_call 18;refine (HK.out.2.2.1 _ _ _ _ _ _ _ _ _ _ Y HY.out.1).mono ?_;rintro e Z1 ⟨F1,c1,F2,c2,rfl,hP,hT,hB4⟩;have J1:=hide (And.intro (hP.sl encP_len (Nat.le_refl _)) (And.intro hB4 (And.intro (HY.out.2.1.below hB4 hB4.size) (And.intro (HY.out.2.2.1.below hB4 HY.out.2.2.1.lt) (HY.out.2.2.2.1.below hB4 HY.out.2.2.2.1.lt)))));clear hP hT hB4)
     clear q0 q1 q2 q3 q4 q5 hg6Y
     obtain ⟨q0,q1,q2,q3,q4,q5⟩:=J1.out.2.2.2.2.six9
     have hg9Z:=J1.out.2.2.2.2.lt
     go_upto_region 19 with (go_at_call 18;refine (HK.out.2.2.2.1 _ _ _ _ _ _ _ _ _ _ Z1 J1.out.2.2.1).mono ?_;rintro e Z2 ⟨F3,c3,F4,c4,rfl,hP,hT,hB4⟩;have J2:=hide (And.intro ((J1.out.1.below hB4).more hB4.size) (And.intro (hP.sl encP_len (Nat.le_refl _)) (And.intro (J1.out.2.1.trans (hB4.mono J1.out.2.1.size)) (J1.out.2.2.2.1.below hB4 J1.out.2.2.2.1.lt))));clear hP hT hB4)
     clear q0 q1 q2 q3 q4 q5 hg9Z
     obtain ⟨q0,q1,q2,q3,q4,q5⟩:=J2.out.2.2.2.six9
     have hg6Z:=J2.out.2.2.2.lt
     have ke:=HK.out.2.2.2.2 A2 k2 Z2 ((HY.out.1.t.below J2.out.2.2.1).more J2.out.2.2.1.size)
     have HE9:=hide ke
     clear ke
     go_upto_region 20 with (go_at_call 26;refine HE9.out.mono ?_;rintro e Z3 ⟨A9,k9,rfl,hs9,hB4⟩;have J3:=hide (And.intro hs9 (And.intro ((J2.out.1.below hB4).more hB4.size) (And.intro ((J2.out.2.1.below hB4).more hB4.size) (And.intro (J2.out.2.2.1.trans (hB4.mono J2.out.2.2.1.size)) (J2.out.2.2.2.below hB4 J2.out.2.2.2.lt)))));clear hs9 hB4)
     clear q0 q1 q2 q3 q4 q5 hg6Z
     obtain ⟨q0,q1,q2,q3,q4,q5⟩:=J3.out.2.2.2.2.six9
     have hg6Z:=J3.out.2.2.2.2.lt
     have u1:(np:Int)+(ne:Int)=(nF:Int):=by have:=HF.out.2.2.1;omega
     have w1:IntKind.i64.wrap (nF:Int)=(nF:Int):=IntWalk.i64_in _ (by omega)
     go_upto_region 23 with fail
     clear u1 w1 q0 q1 q3 q4 q5
     have hE9:=J3.out.1
     have hSC:Sl encE2 2 Z3 Z3.heap.size A3 C:=by
      have hB34:Below Y.heap.size Y Z3:=J3.out.2.2.2.1
      exact (HY.out.1.cr.below hB34).more hB34.size
     have HT:=hide (And.intro hE9 hSC)
     clear hE9 hSC
     have hrng:=fun (x:E2) (hx:x∈C)=>And.intro (HL.out.2.1 x.1 (List.mem_flatMap.2 ⟨x,hx,by simp⟩)) (HL.out.2.1 x.2 (List.mem_flatMap.2 ⟨x,hx,by simp⟩))
     have HRG:=hide hrng
     clear hrng q2
     go_loopw [18] (fun iv wr=>∃i:Nat,i≤ne∧iv= .int .i64 i∧Below Z3.heap.size Z3 wr) (fun iv _=>ne - (intOf iv).toNat)
     case atStart=>exact ⟨0,by omega,rfl,Below.refl _ _⟩
     case round=>
      obtain ⟨i,hi,rfl,hB⟩:=hrel
      obtain ⟨U3,rfl⟩:∃x,x=wr:=⟨_,rfl⟩
      by_cases hlt:i < ne
      ·have i1:(i:Int) < (ne:Int):=by omega
       have HB:=hide hB
       clear hB
       go_upto_region 26 with fail
       go_loopw [19] (fun kv wz=>∃k:Nat,k≤nc∧kv= .int .i64 k∧Below Z3.heap.size Z3 wz) (fun kv _=>nc - (intOf kv).toNat)
       case atStart=>exact ⟨0,by omega,rfl,HB.out⟩
       case round=>
        obtain ⟨k,hk,rfl,hB⟩:=hrel
        obtain ⟨V2,rfl⟩:∃x,x=wr:=⟨_,rfl⟩
        have z2:V2.cell? ⟨g6,2,none⟩=some (.slice A3 nc k3):=(hB.cell (p:=⟨g6,2,none⟩) J3.out.2.2.2.2.lt).trans (J3.out.2.2.2.2.cell 2)
        have hg6V2:g6 < V2.heap.size:=Nat.lt_of_lt_of_le J3.out.2.2.2.2.lt hB.size
        by_cases hlt2:k < nc
        ·have k1':(k:Int) < (nc:Int):=by omega
         obtain ⟨x,hx⟩:∃x,C[k]? =some x:=⟨_,List.getElem?_eq_getElem (by rw [←HN.out.2.2.1];exact hlt2)⟩
         obtain ⟨e,he⟩:∃e,EE[i]? =some e:=⟨_,List.getElem?_eq_getElem (by rw [←HN.out.2.2.2.2.2];exact hlt)⟩
         have hxm:=List.mem_of_getElem? hx
         have hr:=HRG.out x hxm
         have hlw:=fun h=>HL.out.1 i e x he hxm h
         obtain ⟨bc,oc9,hA,hbc,d0,d1⟩:=(HT.out.2.below hB).e2 hx
         subst hA
         obtain ⟨be,oe9,hA,hbe,e0,e1⟩:=(HT.out.1.below hB).e2 he
         subst hA
         have hbcV:bc < V2.heap.size:=Nat.lt_of_lt_of_le hbc hB.size
         have hbeV:be < V2.heap.size:=Nat.lt_of_lt_of_le hbe hB.size
         obtain ⟨x1,x2⟩:=x
         obtain ⟨p1,p2⟩:=e
         dsimp only at hr d0 d1 e0 e1 hlw
         obtain ⟨m1,hm1⟩:∃m,min x1 x2=m:=⟨_,rfl⟩
         obtain ⟨m2,hm2⟩:∃m,max x1 x2=m:=⟨_,rfl⟩
         have hlw2:(m1,m2)=(p1,p2)→FP[np+i]? =FQ[np+i]? ∧∃x,FP[np+i]? =some x:=fun h=>hlw (by unfold nrmE;rw [hm1,hm2];exact h)
         have hfm:fits2 (m1,m2):=by
          have h1:fits m1:=by unfold fits;omega
          have h2:fits m2:=by unfold fits;omega
          exact ⟨h1,h2⟩
         have HV:=hide (And.intro hB (And.intro hlw2 (And.intro hfm (And.intro he hx))))
         have HD:=hide (And.intro d0 (And.intro d1 hbcV))
         have HE:=hide (And.intro e0 (And.intro e1 hbeV))
         have HZ:=hide (And.intro z2 hg6V2)
         clear hB hlw hlw2 hfm he hx hxm hr d0 d1 e0 e1 hbc hbe hbcV hbeV
         go_upto_region 28 with fail
         clear z2 hg6V2
         have HSB:=hide (show Below V2.heap.size V2 V2.drew from (Below.refl _ V2).drew)
         refine wp_region_mix (fun W=>Below V2.heap.size V2 W) [0,1,2,3,4,5,6,7,8,9,10,11,12,13,14,15,16,17,18,19,20,21,22,23,24,25,26] [0,1,2,3,4,5,6,7,8,9,10,11,12,13,14,15,16,17,18,19,20,21,22,23,24,25,26,27,28] mixed_ok (by kernel_rfl) ?_
         refine wpMix_q (v:=(.pointer (some ⟨g6,2,none⟩))) rfl rfl (fun _ _ _ h=>h) HSB.out ⟨rfl,fun _ _=>by simp [go_sem]⟩ ?_
         refine wpMix_q (v:=(.slice (some ⟨bc,oc9,none⟩) nc k3)) rfl rfl (fun _ _ _ h=>h) HSB.out ⟨rfl,fun _ h'=>by have a0:=(h'.cell (p:=⟨g6,2,none⟩) HZ.out.2).trans HZ.out.1;simp [go_sem,a0]⟩ ?_
         refine wpMix_q (v:=(.int .i64 k)) rfl rfl (fun _ _ _ h=>h) HSB.out ⟨rfl,fun _ _=>by simp [go_sem]⟩ ?_
         refine wpMix_q (v:=(.pointer (some ⟨bc,oc9+k*2,none⟩))) rfl rfl (fun _ _ _ h=>h) HSB.out ⟨rfl,fun _ _=>by simp [go_sem,k1']⟩ ?_
         refine wpMix_q (v:=(.pointer (some ⟨bc,oc9+k*2,none⟩))) rfl rfl (fun _ _ _ h=>h) HSB.out ⟨rfl,fun _ _=>by simp [go_sem]⟩ ?_
         refine wpMix_q (v:=(.int .i64 x1)) rfl rfl (fun _ _ _ h=>h) HSB.out ⟨rfl,fun _ h'=>by have a0:=(h'.cell (p:=⟨bc,oc9+k*2,none⟩) HD.out.2.2).trans HD.out.1;simp [go_sem,a0]⟩ ?_
         simp only [List.getElem_toArray,List.getElem_cons_succ,List.getElem_cons_zero,Act.put,List.setIfInBounds_toArray,List.set_cons_succ,List.set_cons_zero]
         refine wpMix_q (v:=(.pointer (some ⟨g6,2,none⟩))) rfl rfl (fun _ _ _ h=>h) HSB.out ⟨rfl,fun _ _=>by simp [go_sem]⟩ ?_
         refine wpMix_q (v:=(.slice (some ⟨bc,oc9,none⟩) nc k3)) rfl rfl (fun _ _ _ h=>h) HSB.out ⟨rfl,fun _ h'=>by have a0:=(h'.cell (p:=⟨g6,2,none⟩) HZ.out.2).trans HZ.out.1;simp [go_sem,a0]⟩ ?_
         refine wpMix_q (v:=(.int .i64 k)) rfl rfl (fun _ _ _ h=>h) HSB.out ⟨rfl,fun _ _=>by simp [go_sem]⟩ ?_
         refine wpMix_q (v:=(.pointer (some ⟨bc,oc9+k*2,none⟩))) rfl rfl (fun _ _ _ h=>h) HSB.out ⟨rfl,fun _ _=>by simp [go_sem,k1']⟩ ?_
         refine wpMix_q (v:=(.pointer (some ⟨bc,oc9+k*2+1,none⟩))) rfl rfl (fun _ _ _ h=>h) HSB.out ⟨rfl,fun _ _=>by simp [go_sem]⟩ ?_
         refine wpMix_q (v:=(.int .i64 x2)) rfl rfl (fun _ _ _ h=>h) HSB.out ⟨rfl,fun _ h'=>by have a0:=(h'.cell (p:=⟨bc,oc9+k*2+1,none⟩) HD.out.2.2).trans HD.out.2.1;simp [go_sem,a0]⟩ ?_
         simp only [List.getElem_toArray,List.getElem_cons_succ,List.getElem_cons_zero,Act.put,List.setIfInBounds_toArray,List.set_cons_succ,List.set_cons_zero]
         refine wpMix_q (v:=(.int .i64 m1)) rfl rfl (fun _ _ _ h=>h) HSB.out ⟨rfl,fun _ _=>by simp [go_sem,hm1]⟩ ?_
         refine wpMix_q (v:=(.pointer (some ⟨g6,2,none⟩))) rfl rfl (fun _ _ _ h=>h) HSB.out ⟨rfl,fun _ _=>by simp [go_sem]⟩ ?_
         refine wpMix_q (v:=(.slice (some ⟨bc,oc9,none⟩) nc k3)) rfl rfl (fun _ _ _ h=>h) HSB.out ⟨rfl,fun _ h'=>by have a0:=(h'.cell (p:=⟨g6,2,none⟩) HZ.out.2).trans HZ.out.1;simp [go_sem,a0]⟩ ?_
         refine wpMix_q (v:=(.int .i64 k)) rfl rfl (fun _ _ _ h=>h) HSB.out ⟨rfl,fun _ _=>by simp [go_sem]⟩ ?_
         refine wpMix_q (v:=(.pointer (some ⟨bc,oc9+k*2,none⟩))) rfl rfl (fun _ _ _ h=>h) HSB.out ⟨rfl,fun _ _=>by simp [go_sem,k1']⟩ ?_
         refine wpMix_q (v:=(.pointer (some ⟨bc,oc9+k*2,none⟩))) rfl rfl (fun _ _ _ h=>h) HSB.out ⟨rfl,fun _ _=>by simp [go_sem]⟩ ?_
         simp only [List.getElem_toArray,List.getElem_cons_succ,List.getElem_cons_zero,Act.put,List.setIfInBounds_toArray,List.set_cons_succ,List.set_cons_zero]
         refine wpMix_q (v:=(.int .i64 x1)) rfl rfl (fun _ _ _ h=>h) HSB.out ⟨rfl,fun _ h'=>by have a0:=(h'.cell (p:=⟨bc,oc9+k*2,none⟩) HD.out.2.2).trans HD.out.1;simp [go_sem,a0]⟩ ?_
         refine wpMix_q (v:=(.pointer (some ⟨g6,2,none⟩))) rfl rfl (fun _ _ _ h=>h) HSB.out ⟨rfl,fun _ _=>by simp [go_sem]⟩ ?_
         refine wpMix_q (v:=(.slice (some ⟨bc,oc9,none⟩) nc k3)) rfl rfl (fun _ _ _ h=>h) HSB.out ⟨rfl,fun _ h'=>by have a0:=(h'.cell (p:=⟨g6,2,none⟩) HZ.out.2).trans HZ.out.1;simp [go_sem,a0]⟩ ?_
         refine wpMix_q (v:=(.int .i64 k)) rfl rfl (fun _ _ _ h=>h) HSB.out ⟨rfl,fun _ _=>by simp [go_sem]⟩ ?_
         refine wpMix_q (v:=(.pointer (some ⟨bc,oc9+k*2,none⟩))) rfl rfl (fun _ _ _ h=>h) HSB.out ⟨rfl,fun _ _=>by simp [go_sem,k1']⟩ ?_
         refine wpMix_q (v:=(.pointer (some ⟨bc,oc9+k*2+1,none⟩))) rfl rfl (fun _ _ _ h=>h) HSB.out ⟨rfl,fun _ _=>by simp [go_sem]⟩ ?_
         simp only [List.getElem_toArray,List.getElem_cons_succ,List.getElem_cons_zero,Act.put,List.setIfInBounds_toArray,List.set_cons_succ,List.set_cons_zero]
         refine wpMix_q (v:=(.int .i64 x2)) rfl rfl (fun _ _ _ h=>h) HSB.out ⟨rfl,fun _ h'=>by have a0:=(h'.cell (p:=⟨bc,oc9+k*2+1,none⟩) HD.out.2.2).trans HD.out.2.1;simp [go_sem,a0]⟩ ?_
         refine wpMix_q (v:=(.int .i64 m2)) rfl rfl (fun _ _ _ h=>h) HSB.out ⟨rfl,fun _ _=>by simp [go_sem,hm2]⟩ ?_
         refine wpMix_q (v:=(.agg #[.int .i64 m1, .int .i64 m2])) rfl rfl (fun _ _ _ h=>h) HSB.out ⟨rfl,fun _ _=>by simp [go_sem]⟩ ?_
         simp only [List.getElem_toArray,List.getElem_cons_succ,List.getElem_cons_zero,Act.put,List.setIfInBounds_toArray,List.set_cons_succ,List.set_cons_zero]
         refine wpMix_n rfl rfl ?_
         go_wp2_with fail
         obtain ⟨g20,hg20⟩:∃g,g=V2.heap.size:=⟨_,rfl⟩
         obtain ⟨V3,hV3⟩:∃W,W=(V2.alloc (.cells #[.int .i64 0, .int .i64 0] 56)).drew:=⟨_,rfl⟩
         rw [←hV3]
         have hBV3:Below V2.heap.size V2 V3:=by rw [hV3];exact ((Below.refl _ V2).alloc (Nat.le_refl _) _).drew
         refine ⟨fun _=>hBV3,?_⟩
         refine wpMix_tail _ [_] (by kernel_rfl) rfl ?_
         rw [←hg20]
         have hb20:Blk V3 g20 56 #[.int .i64 0, .int .i64 0]:=by rw [hV3,hg20];exact Blk.new V2 _ _
         have f0:=hb20.frozen 0
         have f1:=hb20.frozen 1
         have k0:=hb20.cell 0
         have k1'':=hb20.cell 1
         have hl20:=hb20.lt
         have HJ:=hide (And.intro hBV3 (And.intro hb20 (show V2.heap.size≤g20 by omega)))
         clear HSB hBV3 hb20 hV3 hg20 hm1 hm2
         go_upto_region 29 with fail
         obtain ⟨V4,hV4⟩:∃W,W=(V3.setCell ⟨g20,0,none⟩ (.int .i64 m1)).setCell ⟨g20,1,none⟩ (.int .i64 m2):=⟨_,rfl⟩
         rw [←hV4]
         have hb4:Blk V4 g20 56 #[.int .i64 m1, .int .i64 m2]:=by rw [hV4];exact (HJ.out.2.1.set_ 0 _).set_ 1 _
         have hB24:Below V2.heap.size V2 V4:=by rw [hV4];exact (HJ.out.1.setCell (p:=⟨g20,0,none⟩) HJ.out.2.2 _).setCell (p:=⟨g20,1,none⟩) HJ.out.2.2 _
         clear f0 f1 k0 k1'' hl20
         have a0:=hb4.cell 0
         have a1:=hb4.cell 1
         have hl4:=hb4.lt
         have e0:=(hB24.cell (p:=⟨be,oe9+i*2,none⟩) HE.out.2.2).trans HE.out.1
         have e1:=(hB24.cell (p:=⟨be,oe9+i*2+1,none⟩) HE.out.2.2).trans HE.out.2.1
         have hbe4:be < V4.heap.size:=Nat.lt_of_lt_of_le HE.out.2.2 hB24.size
         have hBZ:=HV.out.1.trans (hB24.mono HV.out.1.size)
         have hq:=eqE2 (m1,m2) (p1,p2) HV.out.2.2.1 (HL.out.2.2.1 _ (List.mem_of_getElem? HV.out.2.2.2.1))
         by_cases heq:(m1,m2)=(p1,p2)
         ·obtain ⟨hs,z,hz⟩:=HV.out.2.1 heq
          rw [decide_eq_true heq] at hq
          have hz2:=hs.symm.trans hz
          have hfz:=HL.out.2.2.2.1 z (List.mem_of_getElem? hz)
          have hqp:=eqP z z hfz hfz
          rw [decide_eq_true rfl] at hqp
          obtain ⟨b1',o1',hA,hbb1,r0,r1,r2⟩:=(J3.out.2.1.below hBZ).pt4 hz
          subst hA
          obtain ⟨b2',o2',hA,hbb2,t0,t1,t2⟩:=(J3.out.2.2.1.below hBZ).pt4 hz2
          subst hA
          have hb1V:=Nat.lt_of_lt_of_le hbb1 hBZ.size
          have hb2V:=Nat.lt_of_lt_of_le hbb2 hBZ.size
          have q0:=(hBZ.cell (p:=⟨g6,0,none⟩) J3.out.2.2.2.2.lt).trans (J3.out.2.2.2.2.cell 0)
          have hg6V4:g6 < V4.heap.size:=Nat.lt_of_lt_of_le J3.out.2.2.2.2.lt hBZ.size
          obtain ⟨n5,hn5⟩:∃n:Nat,n=np+i:=⟨_,rfl⟩
          have t5:(np:Int)+(i:Int)=(n5:Int):=by omega
          have w5:IntKind.i64.wrap (n5:Int)=(n5:Int):=IntWalk.i64_in _ (by omega)
          have j5:(n5:Int) < (nF:Int):=by have:=HF.out.2.2.1;omega
          rw [←hn5] at r0 r1 r2 t0 t1 t2
          obtain ⟨z1,z2,z3⟩:=z
          dsimp only at r0 r1 r2 t0 t1 t2
          have HBZ:=hide hBZ
          clear heq hs hz hz2 hfz hbb1 hbb2 hn5 hBZ hb4 hB24 hV4
          go_quiet (fail)
          go_wp2
          go_roundw
          case rel=>repeat (first | exact ⟨k+1,by omega,by go_num,by first | exact below_drewN HBZ.out _ | exact HBZ.out.drew⟩ | (refine ⟨?_,rfl⟩;exact ⟨k+1,by omega,by go_num,by first | exact below_drewN HBZ.out _ | exact HBZ.out.drew⟩) | apply Exists.intro)
          case measure=>(simp [intOf];try omega)
         ·rw [decide_eq_false heq] at hq
          have HBZ:=hide hBZ
          clear heq hBZ hb4 hB24 hV4
          go_quiet (fail)
          go_wp2
          go_roundw
          case rel=>repeat (first | exact ⟨k+1,by omega,by go_num,by first | exact below_drewN HBZ.out _ | exact HBZ.out.drew⟩ | (refine ⟨?_,rfl⟩;exact ⟨k+1,by omega,by go_num,by first | exact below_drewN HBZ.out _ | exact HBZ.out.drew⟩) | apply Exists.intro)
          case measure=>(simp [intOf];try omega)
        ·obtain rfl:k=nc:=by omega
         have k1':¬(k:Int) < (k:Int):=by omega
         have HBk:=hide hB
         clear hB
         go_wp2
         go_roundw
         case rel=>repeat (first | exact ⟨i+1,by omega,by go_num,HBk.out⟩ | (refine ⟨?_,rfl⟩;exact ⟨i+1,by omega,by go_num,HBk.out⟩) | apply Exists.intro)
         case measure=>(simp [intOf];try omega)
      ·obtain rfl:i=ne:=by omega
       have i1:¬(i:Int) < (i:Int):=by omega
       have hBf:=HY.out.2.2.2.2.trans ((J3.out.2.2.2.1.trans (hB.mono J3.out.2.2.2.1.size)).mono HY.out.2.2.2.2.size)
       have HBf:=hide hBf
       clear hB hBf
       go_wp2
       go_ret
       exact ⟨rfl,HBf.out⟩
end Go.Proofs.YtmemofonebphfaaGreat
