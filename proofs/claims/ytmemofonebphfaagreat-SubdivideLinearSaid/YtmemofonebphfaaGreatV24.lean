import Derived.Test.YtmemofonebphfaaGreatV16
import Derived.Test.YtmemofonebphfaaGreatV23
namespace Go.Proofs.YtmemofonebphfaaGreat
open Go.RowKit Go.Sort Go.Lib
set_option maxRecDepth 100000
instance:Inhabited Pt:=⟨(0,0,0)⟩
instance:Inhabited Ed:=⟨((0,0,0),(0,0,0))⟩
def or2 (x y:Int):Int:=if x≠0 then x else y
set_option maxHeartbeats 1000000 in
theorem or2_any (b c:Nat) (x y:Int) (w:World) (h0:w.cell? ⟨b,0,none⟩=some (vi x)) (h1:w.cell? ⟨b,1,none⟩=some (vi y)):
  Calls Tryz.prog 104 #[.slice (some ⟨b,0,none⟩) 2 c] w fun e w'=>e= .returned (vi (or2 x y))∧w=w':=by
 by_cases hx:x=0
 ·have ex:(x !=0)=false:=by simp [hx]
  have HX:=hide hx
  clear hx
  by_cases hy:y=0
  ·have ey:(y !=0)=false:=by simp [hy]
   have HY:=hide hy
   clear hy
   go_enter Tryz.func104,Tryz.ntmps104
   go_wp2
   go_rounds 3
   go_ret
   exact ⟨by simp [or2,HX.out,HY.out],rfl⟩
  ·have ey:(y !=0)=true:=by simp [hy]
   go_enter Tryz.func104,Tryz.ntmps104
   go_wp2
   go_rounds 3
   go_ret
   exact ⟨by simp [or2,HX.out],rfl⟩
 ·have ex:(x !=0)=true:=by simp [hx]
  go_enter Tryz.func104,Tryz.ntmps104
  go_wp2
  go_rounds 3
  go_ret
  exact ⟨by simp [or2,hx],rfl⟩
section
attribute [local go_sem ↓] Go.wp_at_zero Go.wp_at_succ
end
end Go.Proofs.YtmemofonebphfaaGreat
namespace Go.Proofs.YtmemofonebphfaaGreat
open Go.RowKit Go.Sort Go.Lib
set_option maxRecDepth 100000
instance:Inhabited E2:=⟨(0,0)⟩
def cmpI9 (x y:Int):Int:=if x < y then -1 else if y < x then 1 else 0
set_option maxHeartbeats 1000000 in
theorem nan9_any (x:Int) (w:World):Calls Tryz.prog 127 #[vi x] w fun e w'=>e= .returned (.bool false)∧w'=w:=by
 have ex:(x !=x)=false:=by simp
 go_enter Tryz.func127,Tryz.ntmps127
 go_wp2
 go_ret
 exact ⟨by simp,rfl⟩
set_option maxHeartbeats 1000000 in
theorem compare9_any (x y:Int) (w:World):Calls Tryz.prog 105 #[vi x,vi y] w fun e w'=>e= .returned (vi (cmpI9 x y))∧w'=w:=by
 by_cases h1:x < y
 ·have e:cmpI9 x y= -1:=if_pos h1
  rw [e]
  clear e
  go_enter Tryz.func105,Tryz.ntmps105
  go_wp2_with (go_at_call 127;refine (nan9_any _ _).mono ?_;rintro e w1 ⟨rfl,rfl⟩)
  go_ret
  exact ⟨rfl,rfl⟩
 ·by_cases h2:y < x
  ·have e:cmpI9 x y=1:=by unfold cmpI9;rw [if_neg h1,if_pos h2]
   rw [e]
   clear e
   go_enter Tryz.func105,Tryz.ntmps105
   go_wp2_with (go_at_call 127;refine (nan9_any _ _).mono ?_;rintro e w1 ⟨rfl,rfl⟩)
   go_ret
   exact ⟨rfl,rfl⟩
  ·have e:cmpI9 x y=0:=by unfold cmpI9;rw [if_neg h1,if_neg h2]
   rw [e]
   clear e
   go_enter Tryz.func105,Tryz.ntmps105
   go_wp2_with (go_at_call 127;refine (nan9_any _ _).mono ?_;rintro e w1 ⟨rfl,rfl⟩)
   go_ret
   exact ⟨rfl,rfl⟩
def cmpSE (s t:E2):Int:=or2 (cmpI9 s.1 t.1) (cmpI9 s.2 t.2)
theorem ltOf_cmpSE:ltOf cmpSE=ltE2:=by
 funext s t
 obtain ⟨a,b⟩:=s
 obtain ⟨d,e⟩:=t
 unfold ltOf cmpSE or2 ltE2 cmpI9
 rw [Bool.eq_iff_iff]
 simp only [decide_eq_true_eq,Bool.or_eq_true,Bool.and_eq_true]
 split <;>split <;>omega
theorem sto_SE:STO ltE2:=⟨tot_E2.irr,fun x y z=>tot_E2.tr x y z,fun x y=>tot_E2.tot x y⟩
section
attribute [local go_sem ↓] Go.wp_at_zero Go.wp_at_succ
set_option maxHeartbeats 4000000 in
theorem cmpSE_any (s t:E2) (w:World):Calls Tryz.prog 103 #[vE2 s,vE2 t] w fun e w'=>e= .returned (vi (cmpSE s t))∧Lay w w':=by
 go_enter Tryz.func103,Tryz.ntmps103
 go_wp2_with fail
 obtain ⟨W,hW⟩:∃W,W=(w.alloc (.cells #[.int .i64 s.1, .int .i64 s.2] 115)).alloc (.cells #[.int .i64 t.1, .int .i64 t.2] 115):=⟨_,rfl⟩
 rw [←hW]
 have hL:Lay w W:=by rw [hW];exact ((Lay.refl _).alloc _).alloc _
 have b0:Blk W w.heap.size 115 #[.int .i64 s.1, .int .i64 s.2]:=by rw [hW];exact (Blk.new _ _ _).alloc _
 have b1:Blk W (w.heap.size+1) 115 #[.int .i64 t.1, .int .i64 t.2]:=by rw [hW];exact Blk.new' _ _ _ _ (by simp)
 clear hW
 have cl0:W.cell? ⟨w.heap.size,0,none⟩=some (.int .i64 s.1):=b0.cell 0
 have cl1:W.cell? ⟨w.heap.size,1,none⟩=some (.int .i64 s.2):=b0.cell 1
 have cl2:W.cell? ⟨w.heap.size+1,0,none⟩=some (.int .i64 t.1):=b1.cell 0
 have cl3:W.cell? ⟨w.heap.size+1,1,none⟩=some (.int .i64 t.2):=b1.cell 1
 have HB:=hide (And.intro b0 b1)
 clear b0 b1
 have hl0:w.heap.size < W.heap.size:=HB.out.1.lt
 have hl1:w.heap.size+1 < W.heap.size:=HB.out.2.lt
 have HL:=hide hL
 clear hL
 go_still_tail 10,(by kernel_rfl)
 repeat (first | still_step | still_call (compare9_any _ _ _))
 change wpList _ _ _ _ _ W.drew
 go_wp2_with (go_at_call 104;refine (or2_any _ 2 _ _ _ ((Blk.new _ 3 _).cell 0) ((Blk.new _ 3 _).cell 1)).mono ?_;rintro e wx ⟨rfl,hwx⟩;obtain rfl:=hwx)
 go_ret
 exact ⟨rfl,(Lay.drew HL.out).alloc _⟩
end
theorem sort_se_none (p:Option Addr) (c:Nat) (w:World):Calls Tryz.prog 102 #[.slice p 0 c, .func (.func 103) #[] #[]] w fun e w'=>e= .returned (.tuple #[])∧w=w':=by
 have h:=AnyF.slices_SortFunc_none sortSeL p c (.func (.func 103) #[] #[]) w
 exact h.mono fun e w' h=>⟨h.1,h.2.symm⟩
theorem sort_se_own (g cap n base:Nat) (ts:List E2) (w:World) (hO:Own encE2 2 115 w base (.slice (some ⟨g,0,none⟩) n cap) n ts) (hn:ts.length < 4611686018427387904):
  Calls Tryz.prog 102 #[.slice (some ⟨g,0,none⟩) n cap, .func (.func 103) #[] #[]] w fun e w'=>
   e= .returned (.tuple #[])∧w.grownBy w' (some g)∧Own encE2 2 115 w' base (.slice (some ⟨g,0,none⟩) n cap) n (sortG ltE2 ts):=by
 have hH:=hO.holdsK encE2_len
 have hlen:=hO.1
 rcases hO.2.2 with ⟨h0,_⟩ | ⟨g',cap',cur,hv,hbg,hg,hc,hm,hs,_⟩
 ·cases h0
 injection hv with hv _ hcc
 injection hv with hv
 injection hv with hv
 subst hv
 subst hcc
 have hlt:g < w.heap.size:=(Array.getElem?_eq_some_iff.1 hg).1
 have eg:∀args w,(callFunc 103 args).run Tryz.prog w= .ok (.enter 103 args) w:=enters_of Tryz.func103 (by kernel_rfl) rfl
 have hO:SWO (ltOf cmpSE):=by rw [ltOf_cmpSE];exact sto_SE.swo
 have hT:∀x y,ltOf cmpSE x y=false→ltOf cmpSE y x=false→x=y:=by rw [ltOf_cmpSE];exact sto_SE.total
 have h:=AnyQ.slices_SortFunc_total sortSeL 2 Tryz.isAgg115 Tryz.sizeOf115 encE2 encE2_len encE2_one cmpSE hO 103 #[] g 0 cap ts.toArray w eg
  (fun _ _ _ _ x y=>cmpSE_any x y _) hH hlt (by simpa using hn) hT
 change Calls Tryz.prog 102 _ _ _ at h
 rw [ltOf_cmpSE] at h
 rw [show ts.toArray.size=n by simp [hlen]] at h
 refine h.mono ?_
 rintro e w' ⟨rfl,m,os,rfl⟩
 refine ⟨rfl,sortWorldK_grownBy,?_⟩
 have hHs:HoldsK encE2 2 (sortWorldK encE2 2 w g 0 m (sortG ltE2 ts).toArray os) g 0 (sortG ltE2 ts).toArray:=sortWorldK_holds hlt hH (by simp [sortG])
 have hgs:∃cur',(sortWorldK encE2 2 w g 0 m (sortG ltE2 ts).toArray os).heap[g]? =some (.cells cur' 115 (0,0))∧cur'.size=cur.size:=by
  unfold sortWorldK
  rw [heap_grow_old _ _ (by simpa [putRowK] using hlt)]
  simp only [putRowK,putRow,mapBlock,heap_ahead,Array.getElem?_modify,hg,if_true,Option.map_some]
  exact ⟨_,rfl,by simp [putCells]⟩
 obtain ⟨cur',hg',hsz⟩:=hgs
 exact Own.of_holdsK encE2_len hbg hg' hc hm (by rw [hsz,hs]) (by rw [hlen];simp [sortG]) hHs
end Go.Proofs.YtmemofonebphfaaGreat
namespace Go.Proofs.YtmemofonebphfaaGreat
open Go.RowKit Go.Sort Go.WideMaps Go.Maps
def thU {κ:Type} [DecidableEq κ] (m:κ→Option Value) (x:κ × Int):κ→Option Value:=fun q=>if q=x.1 then some (vi x.2) else m q
def thF {κ:Type} [DecidableEq κ] (L:List (κ × Int)):κ→Option Value:=L.foldl thU fun _=>none
theorem thF_snoc {κ:Type} [DecidableEq κ] (L:List (κ × Int)) (p:κ) (v:Int):thF (L++ [(p,v)])=fun q=>if q=p then some (vi v) else thF L q:=by
 unfold thF
 rw [List.foldl_append]
 rfl
theorem thF_off {κ:Type} [DecidableEq κ] {q:κ}:∀(L:List (κ × Int)) (m:κ→Option Value),q ∉ L.map (·.1)→L.foldl thU m q=m q
 | [],_,_=>rfl
 | x::L,m,h=>by
  rw [List.map_cons,List.mem_cons,not_or] at h
  rw [List.foldl_cons,thF_off L _ h.2]
  exact if_neg h.1
theorem thF_on {κ:Type} [DecidableEq κ] {x:κ × Int}:∀(L:List (κ × Int)) (m:κ→Option Value),(L.map (·.1)).Nodup→x∈L→L.foldl thU m x.1=some (vi x.2)
 | [],_,_,h=>absurd h (by simp)
 | y::L,m,hn,h=>by
  rw [List.map_cons,List.nodup_cons] at hn
  rw [List.foldl_cons]
  rcases List.mem_cons.1 h with rfl | h
  ·rw [thF_off L _ hn.1];exact if_pos rfl
  ·exact thF_on L _ hn.2 h
theorem thF_get {κ:Type} [DecidableEq κ] {L:List (κ × Int)} (hn:(L.map (·.1)).Nodup) {p:κ} {v:Int} (h:(p,v)∈L):thF L p=some (vi v):=thF_on (x:=(p,v)) L _ hn h
def trip3 (x:Pt):List (E2 × Int):= [((x.1,x.2.1),x.2.2),((x.2.1,x.2.2),x.1),((x.2.2,x.1),x.2.1)]
def thL (t:List Pt):List (E2 × Int):=t.flatMap trip3
theorem thL_fst (t:List Pt):(thL t).map (·.1)=dirE t:=by
 unfold thL dirE
 rw [List.map_flatMap]
 rfl
theorem thL_third {t:List Pt} (hn:(dirE t).Nodup) {e:E2} (he:e∈dirE t):thF (thL t) e=some (vi (thirdE t e.1 e.2)):=by
 obtain ⟨x,hx,hd⟩:=mem_dirE.1 he
 have key:∀c,thr3 x e.1 e.2=some c→(e,c)∈thL t→thF (thL t) e=some (vi (thirdE t e.1 e.2)):=fun c hc hm=>by
  rw [third_is hn hx hc]
  exact thF_get (by rw [thL_fst];exact hn) hm
 obtain ⟨c,hc⟩:=thr3_has (x:=x) (a:=e.1) (b:=e.2) hd
 refine key c hc ?_
 refine List.mem_flatMap.2 ⟨x,hx,?_⟩
 have h3:=(thr3_some hc)
 unfold thr3 at hc
 obtain ⟨e1,e2⟩:=e
 obtain ⟨x1,x2,x3⟩:=x
 dsimp only at hc
 split at hc
 ·rename_i h;cases hc;obtain ⟨rfl,rfl⟩:=h;simp [trip3]
 ·split at hc
  ·rename_i h;cases hc;obtain ⟨rfl,rfl⟩:=h;simp [trip3]
  ·split at hc
   ·rename_i h;cases hc;obtain ⟨rfl,rfl⟩:=h;simp [trip3]
   ·cases hc
def nbL (E:List E2) (n:Nat):List (E2 × Int):=E.mapIdx fun i e=>(e,((n+i:Nat):Int))
theorem nbL_fst (E:List E2) (n:Nat):(nbL E n).map (·.1)=E:=by
 unfold nbL
 refine List.ext_getElem? fun i=> ?_
 rw [List.getElem?_map,List.getElem?_mapIdx]
 cases E[i]? <;>rfl
theorem nbL_take {E:List E2} {n i:Nat} {e:E2} (h:E[i]? =some e):(nbL E n).take (i+1)=(nbL E n).take i++ [(e,((n+i:Nat):Int))]:=by
 rw [List.take_add_one]
 congr 1
 unfold nbL
 rw [List.getElem?_mapIdx,h]
 rfl
theorem nbL_mid {t:List Pt} {n:Nat} (hn:(edgesE t).Nodup) {e:E2} (he:e∈edgesE t):thF (nbL (edgesE t) n) e=some (vi (midE t n e.1 e.2)):=by
 obtain ⟨i,hi⟩:=List.mem_iff_getElem?.1 he
 have hnr:nrmE e.1 e.2=e:=nrmE_up (mem_edgesE.1 he).2
 have hp:posE (edgesE t) e.1 e.2=i:=posE_at hn (by rw [hnr];exact hi)
 have hm:(e,((n+i:Nat):Int))∈nbL (edgesE t) n:=by
  refine List.mem_iff_getElem?.2 ⟨i,?_⟩
  unfold nbL
  rw [List.getElem?_mapIdx,hi]
  rfl
 rw [thF_get (by rw [nbL_fst];exact hn) hm]
 unfold midE
 rw [hp]
 congr 2
def SrpM (w:World) (cb cnt base:Nat) (G:Int→List Int):Prop:=
 ∃(mo:Int→Option Value) (m:Int→Value),MapK Tryz.prog 3 vi fits w cb cnt mo∧(∀p,(mo p).getD (.slice none 0 0)=m p)∧GpsE encZ9 1 3 w base m G
theorem infoI9:(Tryz.prog.info? 3).map (fun i=>(i.zero,i.size,i.bytes))=some (some (.int .i64 0),1,8):=by kernel_rfl
section
variable {w w':World} {cb cnt base:Nat} {G:Int→List Int}
theorem SrpM.made (w:World) (base:Nat):SrpM (w.alloc (.map #[] 0)) w.heap.size 0 base fun _=> []:=⟨_,_,MapK.made Tryz.prog 3 vi fits w,fun _=>rfl,GpsE.nil⟩
theorem SrpM.lt (h:SrpM w cb cnt base G):cb < w.heap.size:=by
 obtain ⟨mo,m,h1,_⟩:=h
 exact h1.lt
theorem SrpM.below {B:Nat} (h:SrpM w cb cnt base G) (hb:Below B w w') (hB:w.heap.size≤B):SrpM w' cb cnt base G:=by
 obtain ⟨mo,m,h1,h2,h3⟩:=h
 exact ⟨mo,m,h1.below hb (Nat.lt_of_lt_of_le h1.lt hB),h2,h3.below hb hB⟩
theorem SrpM.step {row:Option Nat} (h:SrpM w cb cnt base G) (hg:w.grownBy w' row) (hne:some cb≠row) (hr:∀r,row=some r→r < base∨∀cs,w.heap[r]? ≠some (.cells cs 3 (0,0))):SrpM w' cb cnt base G:=by
 obtain ⟨mo,m,h1,h2,h3⟩:=h
 exact ⟨mo,m,h1.kept hg hne,h2,h3.step hg hr⟩
theorem SrpM.same {G':Int→List Int} (h:SrpM w cb cnt base G) (hG:∀p,G p=G' p):SrpM w cb cnt base G':=by
 have:G=G':=funext hG
 exact this▸h
set_option maxRecDepth 100000 in
theorem SrpM.put (h:SrpM w cb cnt base G) (hn:cnt < maxLen) (p:Int) (hp:fits p) (hcb:cb < base) {A:Option Addr} {c:Nat} (hl:(Instr.lookup 88 (.map (some cb)) (vi p) false).run Tryz.prog w= .ok (.slice A (G p).length c) w)
  (x:Int) {w2:World} {v':Value} {g:Nat} (hg2:w.grownBy w2 (Value.slice A (G p).length c).ownBlock) (hv':Own encZ9 1 3 w2 base v' ((G p).length+1) (G p++ [x])) (hb':v'.ownBlock=some g) (hat:(Value.slice A (G p).length c).ownBlock=some g∨g=w.heap.size):
  ∃w3,(Instr.mapUpdate 88 (.map (some cb)) (vi p) v').run Tryz.prog w2= .ok () w3∧SrpM w3 cb (cnt+1) base (fun q=>if q=p then G p++ [x] else G q)∧w2.grownBy w3 (some cb)∧w3.heap.size=w2.heap.size:=by
 obtain ⟨mo,m,h1,h2,h3⟩:=h
 have hlt:=h1.lt
 have hl2:=h1.lookup kfI9 (t:=88) (e:=23) Tryz.underlying88 (z:= .slice none 0 0) rfl p hp
 rw [h2,hl] at hl2
 have hmp:m p= .slice A (G p).length c:=by injection hl2 with h _;exact h.symm
 have hne:some cb≠(Value.slice A (G p).length c).ownBlock:=fun e=>by
  rw [←hmp] at e
  have:=((h3.1 p).blk cb e.symm).1
  omega
 have hM2:=h1.kept hg2 hne
 obtain ⟨w3,hrun,hM3,hg3,hz3⟩:=hM2.update kfI9 (t:=88) (e:=23) Tryz.underlying88 hn p hp v'
 rw [←hmp] at hg2 hat
 refine ⟨w3,hrun,⟨_,_,hM3,fun q=> ?_,(h3.append p x hg2 hv' hb' hat).step hg3 (fun r hr=> .inl (by cases hr;exact hcb))⟩,hg3,hz3⟩
 show (if q=p then some v' else mo q).getD _=if q=p then v' else m q
 split
 ·rfl
 ·exact h2 q
end
theorem grown_bel9 {w w':World} (h:Below w.heap.size w w') (row:Option Nat):w.grownBy w' row:=⟨h.os,h.tape,h.output,h.size,fun k hk _=>h.block k hk⟩
theorem grown_new {w w1 w2:World} {row:Option Nat} {r:Nat} (h:w.grownBy w1 row) (h2:w1.grownBy w2 (some r)) (hr:w.heap.size≤r):w.grownBy w2 row:=
 ⟨h2.os.trans h.os,h2.tape.trans h.tape,h2.output.trans h.output,Nat.le_trans h.size h2.size,fun k hk hne=>(h2.block k (Nat.lt_of_lt_of_le hk h.size) (fun e=>by cases e;omega)).trans (h.block k hk hne)⟩
end Go.Proofs.YtmemofonebphfaaGreat
namespace Go.Proofs.YtmemofonebphfaaGreat
open Go.RowKit Go.Sort Go.WideMaps Go.Maps
abbrev cLvl (Ap:Option Addr) (np cp:Nat) (At:Option Addr) (nt ct:Nat) (mc mo:Nat) (a4:Option Nat) (Ae:Option Addr) (ne ce:Nat) (a6 a7:Option Nat):Array Value:=
 #[.slice Ap np cp, .slice At nt ct, .map (some mc), .map (some mo), .map a4, .slice Ae ne ce, .map a6, .map a7]
theorem Blk.eight {w:World} {g:Nat} {t:TypeId} {a b c d e f h i:Value} (hb:Blk w g t #[a,b,c,d,e,f,h,i]):w.cell? ⟨g,0,none⟩=some a∧w.cell? ⟨g,1,none⟩=some b∧w.cell? ⟨g,2,none⟩=some c∧w.cell? ⟨g,3,none⟩=some d∧w.cell? ⟨g,4,none⟩=some e∧w.cell? ⟨g,5,none⟩=some f∧w.cell? ⟨g,6,none⟩=some h∧w.cell? ⟨g,7,none⟩=some i:=
 ⟨hb.cell 0,hb.cell 1,hb.cell 2,hb.cell 3,hb.cell 4,hb.cell 5,hb.cell 6,hb.cell 7⟩
theorem lvl_noint {Ap At Ae:Option Addr} {np cp nt ct mc mo ne ce:Nat} {a4 a6 a7:Option Nat} {k:IntKind} {n:Int} (off:Nat):(cLvl Ap np cp At nt ct mc mo a4 Ae ne ce a6 a7)[off]? ≠some (.int k n):=by
 have hc:off=0∨off=1∨off=2∨off=3∨off=4∨off=5∨off=6∨off=7∨8≤off:=by omega
 rcases hc with rfl | rfl | rfl | rfl | rfl | rfl | rfl | rfl | h <;>first | (rw [Array.getElem?_eq_none (by simpa using h)];simp) | simp
theorem Sl.grownI {α:Type} {enc:α→List Value} {k:Nat} {w W:World} {B g:Nat} {A:Option Addr} {xs:List α} {t:TypeId} {cs:Array Value} (h:Sl enc k w B A xs) (hb:Blk w g t cs) (hne:∀x∈xs,∀u∈enc x,∀off:Nat,cs[off]? ≠some u) (hg:w.grownBy W (some g)) (hB:B≤w.heap.size):Sl enc k W B A xs:=by
 rcases h with h | ⟨b,o,ha,hlt,hc⟩
 ·exact .inl h
 ·refine .inr ⟨b,o,ha,hlt,fun j x hx q u hu=> ?_⟩
  have h0:=hc j x hx q u hu
  by_cases e:b=g
  ·subst e
   rw [hb.cell] at h0
   exact absurd h0 (hne x (List.mem_of_getElem? hx) u (List.mem_of_getElem? hu) _)
  ·have hbk:=hg.block b (by omega) (fun h=>e (Option.some.inj h))
   unfold World.cell? at h0⊢
   rw [hbk]
   exact h0
structure FndS (w W:World) (g base m3 mn ms cnt:Nat) (pre:Array Value) (ve:Value) (ne:Nat) (L:List (E2 × Int)) (E:List E2):Prop where
 bx:Blk W g 90 (pre++#[.map (some m3),ve, .map (some mn), .map (some ms)])
 th:MapK Tryz.prog 56 vE2 fits2 W m3 cnt (thF L)
 ed:Own encE2 2 115 W base ve ne E
 nb:MapK Tryz.prog 115 vE2 fits2 W mn 0 fun _=>none
 sh:SrpM W ms 0 base fun _=> []
 gr:w.grownBy W (some g)
 hb:base≤W.heap.size
structure FndP (w:World) (g base m3 mn ms:Nat):Prop where
 lg:g < w.heap.size
 l3:w.heap.size≤m3∧m3 < base
 ln:w.heap.size≤mn∧mn < base
 ls:w.heap.size≤ms∧ms < base
 df:m3≠mn∧m3≠ms∧mn≠ms
section
variable {w W W':World} {g base m3 mn ms cnt ne:Nat} {pre:Array Value} {ve:Value} {L:List (E2 × Int)} {E:List E2}
theorem FndS.below (h:FndS w W g base m3 mn ms cnt pre ve ne L E) (hB:Below W.heap.size W W'):FndS w W' g base m3 mn ms cnt pre ve ne L E:=
 ⟨h.bx.below hB h.bx.lt,h.th.below hB h.th.lt,h.ed.below hB (Nat.le_refl _),h.nb.below hB h.nb.lt,h.sh.below hB (Nat.le_refl _),h.gr.trans (grown_bel9 hB _),Nat.le_trans h.hb hB.size⟩
theorem FndS.put (h:FndS w W g base m3 mn ms cnt pre ve ne L E) (hp:FndP w g base m3 mn ms) (e:E2) (v:Int) (hm:MapK Tryz.prog 56 vE2 fits2 W' m3 (cnt+1) (fun q=>if q=e then some (vi v) else thF L q)) (hg:W.grownBy W' (some m3)) (hz:W'.heap.size=W.heap.size):FndS w W' g base m3 mn ms (cnt+1) pre ve ne (L++ [(e,v)]) E:=by
 have h1:=hp.lg
 have h2:=hp.l3
 have h5:=hp.df
 refine ⟨h.bx.grown hg (fun e=>by cases e;omega),by rw [thF_snoc];exact hm,h.ed.step hg (fun r hr=> .inl (by cases hr;omega)),h.nb.kept hg (fun e=>by cases e;omega),h.sh.step hg (fun e=>by cases e;omega) (fun r hr=> .inl (by cases hr;omega)),grown_new h.gr hg h2.1,by rw [hz];exact h.hb⟩
theorem FndS.app {pre:Array Value} (hpre:pre.size=4) (h:FndS w W g base m3 mn ms cnt pre ve ne L E) (hp:FndP w g base m3 mn ms) {w6:World} {v6:Value} (e:E2) (hB0:Below base W w6) (hg6:W.grownBy w6 ve.ownBlock) (ho:Own encE2 2 115 w6 base v6 (ne+1) (E++ [e])):FndS w (w6.setCell ⟨g,5,none⟩ v6) g base m3 mn ms cnt pre v6 (ne+1) L (E++ [e]):=by
 have h1:=hp.lg
 have h2:=hp.l3
 have h3:=hp.ln
 have h4:=hp.ls
 have hgs:=grown_set9 w6 g 5 v6
 have hbx:Blk w6 g 90 (pre++#[.map (some m3),ve, .map (some mn), .map (some ms)]):=h.bx.below hB0 (by omega)
 have hsh:SrpM w6 ms 0 base fun _=> []:=h.sh.step hg6 (fun e=>by have:=(h.ed.blk _ e.symm).1;omega) (own_rowT h.ed (show (115:TypeId)≠3 by decide))
 have hgr:w.grownBy w6 (some g):=⟨hB0.os.trans h.gr.os,hB0.tape.trans h.gr.tape,hB0.output.trans h.gr.output,Nat.le_trans h.gr.size hB0.size,fun k hk hne=>(hB0.block k (by omega)).trans (h.gr.block k hk hne)⟩
 refine ⟨?_,(h.th.below hB0 h2.2).kept hgs (fun e=>by cases e;omega),ho.kept hgs (.inr (blk_own_ne9 hbx ho (by decide)).symm),(h.nb.below hB0 h3.2).kept hgs (fun e=>by cases e;omega),hsh.step hgs (fun e=>by cases e;omega) (fun r hr=> .inl (by cases hr;omega)),hgr.trans hgs,by simp;exact Nat.le_trans h.hb hB0.size⟩
 have h5:=hbx.set_ 5 v6
 have e5:(pre++#[Value.map (some m3),ve, .map (some mn), .map (some ms)]).setIfInBounds 5 v6=pre++#[.map (some m3),v6, .map (some mn), .map (some ms)]:=by
  obtain ⟨l⟩:=pre
  match l,hpre with
  | [a,b,c,d],_=>rfl
 rw [←e5]
 exact h5
theorem FndS.sorted {E':List E2} (h:FndS w W g base m3 mn ms cnt pre ve ne L E) (hp:FndP w g base m3 mn ms) (hg:W.grownBy W' ve.ownBlock) (ho:Own encE2 2 115 W' base ve ne E'):FndS w W' g base m3 mn ms cnt pre ve ne L E':=by
 have h1:=hp.lg
 have h2:=hp.l3
 have h3:=hp.ln
 have h4:=hp.ls
 have hb:∀r,ve.ownBlock=some r→base≤r:=fun r hr=>(h.ed.blk r hr).1
 refine ⟨h.bx.grown hg (blk_own_ne9 h.bx h.ed (by decide)),h.th.kept hg (fun e=>by have:=hb _ e.symm;omega),ho,h.nb.kept hg (fun e=>by have:=hb _ e.symm;omega),h.sh.step hg (fun e=>by have:=hb _ e.symm;omega) (own_rowT h.ed (show (115:TypeId)≠3 by decide)),?_,Nat.le_trans h.hb hg.size⟩
 cases hv:ve.ownBlock with
 | none=>rw [hv] at hg;exact ⟨hg.os.trans h.gr.os,hg.tape.trans h.gr.tape,hg.output.trans h.gr.output,Nat.le_trans h.gr.size hg.size,fun k hk hne=>(hg.block k (Nat.lt_of_lt_of_le hk h.gr.size) (fun e=>by cases e)).trans (h.gr.block k hk hne)⟩
 | some r=>rw [hv] at hg;exact grown_new h.gr hg (by have:=hb r hv;omega)
structure FndR (w W:World) (g base m3 mn ms c3 mc ncr:Nat) (pre:Array Value) (ve:Value) (ne:Nat) (t:List Pt) (cr E:List E2):Prop where
 bx:Blk W g 90 (pre++#[.map (some m3),ve, .map (some mn), .map (some ms)])
 th:MapK Tryz.prog 56 vE2 fits2 W m3 c3 (thF (thL t))
 ed:Own encE2 2 115 W base ve ne E
 cr:MapK Tryz.prog 115 vE2 fits2 W mc ncr (setK4 cr)
 gr:w.grownBy W (some g)
 hb:base≤W.heap.size
section
variable {c3 mc ncr:Nat} {t:List Pt} {cr:List E2}
theorem FndR.below (h:FndR w W g base m3 mn ms c3 mc ncr pre ve ne t cr E) (hB:Below W.heap.size W W'):FndR w W' g base m3 mn ms c3 mc ncr pre ve ne t cr E:=
 ⟨h.bx.below hB h.bx.lt,h.th.below hB h.th.lt,h.ed.below hB (Nat.le_refl _),h.cr.below hB h.cr.lt,h.gr.trans (grown_bel9 hB _),Nat.le_trans h.hb hB.size⟩
theorem FndR.upd {r:Nat} (h:FndR w W g base m3 mn ms c3 mc ncr pre ve ne t cr E) (hp:FndP w g base m3 mn ms) (hmc:mc < w.heap.size) (hr:r=mn∨r=ms) (hg:W.grownBy W' (some r)):FndR w W' g base m3 mn ms c3 mc ncr pre ve ne t cr E:=by
 have h1:=hp.lg
 have h2:=hp.l3
 have h3:=hp.ln
 have h4:=hp.ls
 have h5:=hp.df
 exact ⟨h.bx.grown hg (fun e=>by cases e;omega),h.th.kept hg (fun e=>by cases e;omega),h.ed.step hg (fun r' hr'=> .inl (by cases hr';omega)),h.cr.kept hg (fun e=>by cases e;omega),grown_new h.gr hg (by omega),Nat.le_trans h.hb hg.size⟩
theorem FndR.app {row:Option Nat} (h:FndR w W g base m3 mn ms c3 mc ncr pre ve ne t cr E) (hp:FndP w g base m3 mn ms) (hmc:mc < w.heap.size) (hB:Below base W W') (hg:W.grownBy W' row) (hr:∀r,row=some r→r < base∨∀cs,W.heap[r]? ≠some (.cells cs 115 (0,0))):FndR w W' g base m3 mn ms c3 mc ncr pre ve ne t cr E:=by
 have h1:=hp.lg
 have h2:=hp.l3
 exact ⟨h.bx.below hB (by omega),h.th.below hB (by omega),h.ed.step hg hr,h.cr.below hB (by omega),⟨hB.os.trans h.gr.os,hB.tape.trans h.gr.tape,hB.output.trans h.gr.output,Nat.le_trans h.gr.size hB.size,fun k hk hne=>(hB.block k (by omega)).trans (h.gr.block k hk hne)⟩,Nat.le_trans h.hb hB.size⟩
theorem fnd_end {U U1 w6 w7:World} {cn ge:Nat} {M:E2→Option Value} {cs:Array Value} {v:Value} {n:Nat} {xs:List Int} (hR:FndR w U g base m3 mn ms c3 mc ncr pre ve ne t cr E) (hN:MapK Tryz.prog 115 vE2 fits2 U mn cn M) (hK:Blk U ge 115 cs) (hge:base≤ge) (hp:FndP w g base m3 mn ms) (hmc:mc < w.heap.size)
  (hB1:Below U.heap.size U U1) (ho:Own encZ9 1 3 U1 base v n xs) (hg6:U1.grownBy w6 v.ownBlock) (hB6:Below base U1 w6) (hg7:w6.grownBy w7 (some ms)):
  FndR w w7 g base m3 mn ms c3 mc ncr pre ve ne t cr E∧MapK Tryz.prog 115 vE2 fits2 w7 mn cn M∧Blk w7 ge 115 cs:=by
 have h3:=hp.ln
 have h4:=hp.ls
 have h5:=hp.df
 have hK1:=hK.below hB1 hK.lt
 refine ⟨((hR.below hB1).app hp hmc hB6 hg6 (own_rowT ho (show (3:TypeId)≠115 by decide))).upd hp hmc (.inr rfl) hg7,?_,?_⟩
 ·exact ((hN.below hB1 hN.lt).below hB6 h3.2).kept hg7 (fun e=>by cases e;omega)
 ·exact (hK1.grown hg6 (blk_own_ne9 hK1 ho (show (3:TypeId)≠115 by decide))).grown hg7 (fun e=>by cases e;omega)
end
set_option maxRecDepth 100000 in
theorem SrpM.look2 {w:World} {cb cnt base:Nat} {G:Int→List Int} (h:SrpM w cb cnt base G) (hcb:cb < base) (p:Int) (hp:fits p):∃l A c,l=G p∧(∀W,Below base w W→(Instr.lookup 88 (.map (some cb)) (vi p) false).run Tryz.prog W= .ok (.slice A l.length c) W)∧Own encZ9 1 3 w base (.slice A l.length c) l.length l:=by
 obtain ⟨mo,m,h1,h2,h3⟩:=h
 have ho:=h3.1 p
 obtain ⟨A,c,hv⟩:=ho.form
 refine ⟨G p,A,c,rfl,fun W hW=> ?_,?_⟩
 ·have hl:=(h1.below hW hcb).lookup kfI9 (t:=88) (e:=23) Tryz.underlying88 (z:= .slice none 0 0) rfl p hp
  rw [h2,hv] at hl
  exact hl
 ·rw [hv] at ho
  exact ho
theorem SrpM.put2 {w:World} {cb cnt base:Nat} {G:Int→List Int} (h:SrpM w cb cnt base G) (hn:cnt < maxLen) (p:Int) (hp:fits p) (hcb:cb < base) {l:List Int} (hG:l=G p) {A:Option Addr} {c:Nat} (hl:(Instr.lookup 88 (.map (some cb)) (vi p) false).run Tryz.prog w= .ok (.slice A l.length c) w)
  (x:Int) {w2:World} {v':Value} {g:Nat} (hg2:w.grownBy w2 (Value.slice A l.length c).ownBlock) (hv':Own encZ9 1 3 w2 base v' (l.length+1) (l++ [x])) (hb':v'.ownBlock=some g) (hat:(Value.slice A l.length c).ownBlock=some g∨g=w.heap.size):
  ∃w3,(Instr.mapUpdate 88 (.map (some cb)) (vi p) v').run Tryz.prog w2= .ok () w3∧SrpM w3 cb (cnt+1) base (fun q=>if q=p then G p++ [x] else G q)∧w2.grownBy w3 (some cb)∧w3.heap.size=w2.heap.size:=by
 subst hG
 exact h.put hn p hp hcb hl x hg2 hv' hb' hat
theorem SrpM.base_le {w:World} {cb cnt base b:Nat} {G:Int→List Int} (h:SrpM w cb cnt base G) (hb:b≤base):SrpM w cb cnt b G:=by
 obtain ⟨mo,m,h1,h2,h3⟩:=h
 exact ⟨mo,m,h1,h2,fun p=>(h3.1 p).base_le hb,h3.2⟩
theorem ends_len (F:List E2) (a:Int):(endsE F a).length≤2*F.length:=by
 unfold endsE
 induction F with
 | nil=>simp
 | cons e F ih=>
  rw [List.flatMap_cons,List.length_append,List.length_append,List.length_cons]
  have h1:((if e.1=a then [e.2] else []):List Int).length≤1:=by split <;>simp
  have h2:((if e.2=a then [e.1] else []):List Int).length≤1:=by split <;>simp
  omega
theorem ends_snoc (F:List E2) (e:E2) (a:Int):endsE (F++ [e]) a=endsE F a++((if e.1=a then [e.2] else [])++if e.2=a then [e.1] else []):=by
 unfold endsE
 rw [List.flatMap_append,List.flatMap_singleton]
theorem ends_both (F:List E2) {e:E2} (hne:e.1≠e.2):(fun q=>if q=e.2 then (if e.2=e.1 then endsE F e.1++ [e.2] else endsE F e.2)++ [e.1] else if q=e.1 then endsE F e.1++ [e.2] else endsE F q)=endsE (F++ [e]):=by
 funext q
 rw [ends_snoc,if_neg (Ne.symm hne)]
 by_cases h2:q=e.2
 ·subst h2
  rw [if_pos rfl,if_neg hne,if_pos rfl]
  rfl
 ·rw [if_neg h2,if_neg (Ne.symm h2)]
  by_cases h1:q=e.1
  ·subst h1
   rw [if_pos rfl,if_pos rfl]
   simp
  ·rw [if_neg h1,if_neg (Ne.symm h1)]
   simp
theorem filter_take {cr E:List E2} {k:Nat} {e:E2} (h:E[k]? =some e):(E.take (k+1)).filter (fun e=>decide (e∈cr))=(E.take k).filter (fun e=>decide (e∈cr))++if e∈cr then [e] else []:=by
 rw [List.take_add_one,h,Option.toList_some,List.filter_append]
 by_cases hc:e∈cr <;>simp [hc]
theorem FndS.ok5 {pre:Array Value} (hpre:pre.size=4) (h:FndS w W g base m3 mn ms cnt pre ve ne L E) (hp:FndP w g base m3 mn ms) {w6:World} (hB0:Below base W w6):w6.frozen? ⟨g,5,none⟩=false∧g < w6.heap.size∧w6.cell? ⟨g,5,none⟩=some ve:=by
 have h1:=hp.lg
 have h2:=hp.l3
 have hbx:Blk w6 g 90 (pre++#[.map (some m3),ve, .map (some mn), .map (some ms)]):=h.bx.below hB0 (by omega)
 refine ⟨hbx.frozen 5,hbx.lt,?_⟩
 rw [hbx.cell 5]
 obtain ⟨l⟩:=pre
 match l,hpre with
 | [a,b,c,d],_=>rfl
end
end Go.Proofs.YtmemofonebphfaaGreat
namespace Go.Proofs.YtmemofonebphfaaGreat
open Go.RowKit Go.Sort Go.WideMaps Go.Maps
theorem idxN0 (a b c:Value) (w:World):(Instr.index 35 (.agg #[a,b,c]) (.int .i64 0)).run Tryz.prog w= .ok a w:=by kernel_rfl
theorem idxN1 (a b c:Value) (w:World):(Instr.index 35 (.agg #[a,b,c]) (.int .i64 1)).run Tryz.prog w= .ok b w:=by kernel_rfl
theorem idxN2 (a b c:Value) (w:World):(Instr.index 35 (.agg #[a,b,c]) (.int .i64 2)).run Tryz.prog w= .ok c w:=by kernel_rfl
theorem infoSE:(Tryz.prog.info? 115).map (fun i=>(i.zero,i.size,i.bytes))=some (some (.agg #[.int .i64 0, .int .i64 0]),2,16):=by kernel_rfl
set_option maxRecDepth 100000 in
set_option maxHeartbeats 64000000 in
theorem pfind_any (g:Nat) (Ap At Ae:Option Addr) (cp ct ne ce mc mo ncr:Nat) (a4 a6 a7:Option Nat) (L:Lev) (co:List Int) (w:World) (hL:LvR L) (hb:LevB L co) (hbx:Blk w g 90 (cLvl Ap L.p.length cp At L.t.length ct mc mo a4 Ae ne ce a6 a7)) (ht:Sl encN3 3 w w.heap.size At L.t) (hcr:MapK Tryz.prog 115 vE2 fits2 w mc ncr (setK4 L.cr)):
  Calls Tryz.prog 76 #[.pointer (some ⟨g,0,none⟩)] w fun e w'=>e= .returned (.tuple #[])∧∃(m3:Nat) (A:Option Addr) (c mn ms c3 cn cs:Nat),Blk w' g 90 (cLvl Ap L.p.length cp At L.t.length ct mc mo (some m3) A (edgesE L.t).length c (some mn) (some ms))∧
   MapK Tryz.prog 56 vE2 fits2 w' m3 c3 (thF (thL L.t))∧Own encE2 2 115 w' w.heap.size (.slice A (edgesE L.t).length c) (edgesE L.t).length (edgesE L.t)∧MapK Tryz.prog 115 vE2 fits2 w' mn cn (thF (nbL (edgesE L.t) L.p.length))∧SrpM w' ms cs w.heap.size (endsE L.cr)∧w.grownBy w' (some g):=by
 obtain ⟨np,hnp⟩:∃n,n=L.p.length:=⟨_,rfl⟩
 obtain ⟨nt,hnt⟩:∃n,n=L.t.length:=⟨_,rfl⟩
 have hpl:np≤1000000:=by rw [hnp];exact hb.p
 have htl:nt≤300000:=by rw [hnt];exact hb.t
 have hfz:∀a b,(a,b)∈dirE L.t→fits2 (a,b):=fun a b hd=>by
  have:=hL.rng hd
  constructor <;>unfold fits <;>omega
 rw [←hnp,←hnt] at hbx⊢
 have hgl:=hbx.lt
 have hbX:Blk (((w.alloc (.map #[] 0)).alloc (.map #[] 0)).alloc (.map #[] 0)) g 90 (cLvl Ap np cp At nt ct mc mo a4 Ae ne ce a6 a7):=((hbx.alloc _).alloc _).alloc _
 obtain ⟨z0,z1,z2,z3,z4,z5,z6,z7⟩:=hbX.eight
 have f4:=hbX.frozen 4
 have f5:=hbX.frozen 5
 have f6:=hbX.frozen 6
 have f7:=hbX.frozen 7
 have hgX:=hbX.lt
 clear hbX
 have HS:=hide (And.intro hbx (And.intro ht (And.intro hcr (And.intro hL (And.intro hb (And.intro hnp (And.intro hnt hfz)))))))
 clear hbx ht hcr hL hb hnp hnt hfz
 have hmm:=@run_makeMap Tryz.prog
 go_enter Tryz.func76,Tryz.ntmps76
 go_upto_region 2 with fail
 obtain ⟨m3,hm3⟩:∃m,m=w.heap.size:=⟨_,rfl⟩
 obtain ⟨mn,hmn⟩:∃m,m=w.heap.size+1:=⟨_,rfl⟩
 obtain ⟨ms,hms⟩:∃m,m=w.heap.size+1+1:=⟨_,rfl⟩
 rw [←hms,←hmn,←hm3]
 clear z0 z1 z2 z3 z4 z5 z6 z7 f4 f5 f6 f7 hgX
 obtain ⟨X3,hX3⟩:∃W,W=((w.alloc (.map #[] 0)).alloc (.map #[] 0)).alloc (.map #[] 0):=⟨_,rfl⟩
 rw [←hX3]
 have hz3:X3.heap.size=w.heap.size+3:=by rw [hX3];simp
 have hB3:Below w.heap.size w X3:=by rw [hX3];exact (((Below.refl _ w).alloc (Nat.le_refl _) _).alloc (by simp) _).alloc (by simp;omega) _
 have q3:MapK Tryz.prog 56 vE2 fits2 X3 m3 0 fun _=>none:=by
  rw [hX3,hm3]
  have h1:=MapK.made Tryz.prog 56 vE2 fits2 w
  exact (h1.below ((Below.refl _ _).alloc (Nat.le_refl _) _) h1.lt).below ((Below.refl _ _).alloc (Nat.le_refl _) _) (by simp;omega)
 have qn:MapK Tryz.prog 115 vE2 fits2 X3 mn 0 fun _=>none:=by
  rw [hX3,hmn]
  have h1:=MapK.made Tryz.prog 115 vE2 fits2 (w.alloc (.map #[] 0))
  rw [show (w.alloc (.map #[] 0)).heap.size=w.heap.size+1 by simp] at h1
  exact h1.below ((Below.refl _ _).alloc (Nat.le_refl _) _) (by simp)
 have qs:SrpM X3 ms 0 X3.heap.size fun _=> []:=by
  have h1:=SrpM.made ((w.alloc (.map #[] 0)).alloc (.map #[] 0)) X3.heap.size
  rw [show ((w.alloc (.map #[] 0)).alloc (.map #[] 0)).heap.size=w.heap.size+1+1 by simp] at h1
  rw [←hX3,←hms] at h1
  exact h1
 have hP:FndP w g X3.heap.size m3 mn ms:=⟨hgl,by omega,by omega,by omega,by omega⟩
 obtain ⟨base,hbase⟩:∃n,n=X3.heap.size:=⟨_,rfl⟩
 obtain ⟨X,hX⟩:∃W,W=(((X3.setCell ⟨g,4,none⟩ (.map (some m3))).setCell ⟨g,6,none⟩ (.map (some mn))).setCell ⟨g,7,none⟩ (.map (some ms))).setCell ⟨g,5,none⟩ (.slice none 0 0):=⟨_,rfl⟩
 rw [←hX]
 obtain ⟨pre,hpre⟩:∃p,p=#[Value.slice Ap np cp, .slice At nt ct, .map (some mc), .map (some mo)]:=⟨_,rfl⟩
 have hg4:=(((grown_set9 X3 g 4 (.map (some m3))).trans (grown_set9 _ g 6 (.map (some mn)))).trans (grown_set9 _ g 7 (.map (some ms)))).trans (grown_set9 _ g 5 (.slice none 0 0))
 have hF0:FndS w X g base m3 mn ms 0 pre (.slice none 0 0) 0 [] []:=by
  rw [hX,hpre]
  rw [←hbase] at hP qs
  have hx:=HS.out.1.below hB3 hgl
  have h1:=hP.l3
  have h2:=hP.ln
  have h3:=hP.ls
  refine ⟨?_,q3.kept hg4 (fun e=>by cases e;omega),Own.nil,qn.kept hg4 (fun e=>by cases e;omega),qs.step hg4 (fun e=>by cases e;omega) (fun r hr=> .inl (by cases hr;omega)),(grown_bel9 hB3 _).trans hg4,by simp;omega⟩
  exact (((hx.set_ 4 (.map (some m3))).set_ 6 (.map (some mn))).set_ 7 (.map (some ms))).set_ 5 (.slice none 0 0)
 have HP:=hide (show FndP w g base m3 mn ms by rw [hbase];exact hP)
 have HF0:=hide hF0
 have HPre:=hide hpre
 have HPS:=hide (show pre.size=4 by rw [hpre];rfl)
 have b1:X.cell? ⟨g,1,none⟩=some (.slice At nt ct):=by have h:=hF0.bx.cell 1;rw [hpre] at h;exact h
 have hgX:=hF0.bx.lt
 clear hF0 hP q3 qn qs hB3 hz3 hX3 hX hbase hg4 hpre hm3 hmn hms hmm
 go_upto_region 3 with fail
 clear b1 hgX
 go_loopw [29] (fun iv wr=>∃(i m:Nat) (ve:Value),i≤nt∧iv= .int .i64 i∧FndS w wr g base m3 mn ms (3*i) pre ve m (thL (L.t.take i)) (upE (L.t.take i))∧m≤3*i) (fun iv _=>nt - (intOf iv).toNat)
 case atStart=>exact ⟨0,0,_,by omega,rfl,by rw [List.take_zero];exact HF0.out,by omega⟩
 case round=>
  obtain ⟨i,m,ve,hi,rfl,hF,hm⟩:=hrel
  obtain ⟨V,rfl⟩:∃x,x=wr:=⟨_,rfl⟩
  by_cases hlt:i < nt
  ·have i1:(i:Int) < (nt:Int):=by omega
   obtain ⟨x,hx⟩:∃x,L.t[i]? =some x:=⟨_,List.getElem?_eq_getElem (by rw [←HS.out.2.2.2.2.2.2.1];exact hlt)⟩
   have hst:=HS.out.2.1.grownI HS.out.1 (fun x _ u hu off=>by
    simp only [encN3,List.mem_cons,List.not_mem_nil,or_false] at hu
    rcases hu with rfl | rfl | rfl <;>exact lvl_noint off) hF.gr (Nat.le_refl _)
   obtain ⟨bb,o,hA,hbb,c0,c1,c2⟩:=hst.n3 hx
   subst hA
   have hbV:bb < V.heap.size:=Nat.lt_of_lt_of_le hbb hF.gr.size
   have hup:=upE_succ hx
   have hthl:thL (L.t.take (i+1))=thL (L.t.take i)++trip3 x:=by unfold thL;rw [List.take_add_one,hx,Option.toList_some,List.flatMap_append,List.flatMap_singleton]
   have hxm:=List.mem_of_getElem? hx
   have hd:∀e∈de3 x,fits2 e:=fun e he=>HS.out.2.2.2.2.2.2.2 e.1 e.2 (mem_dirE.2 ⟨x,hxm,he⟩)
   obtain ⟨x1,x2,x3⟩:=x
   simp only at c0 c1 c2
   have HV:=hide (And.intro hF (And.intro hup (And.intro hthl hd)))
   clear hF hup hthl hd hxm hx hst hbb
   go_upto_region 5 with fail
   obtain ⟨gt,hgt⟩:∃n,n=V.heap.size:=⟨_,rfl⟩
   obtain ⟨Y,hY⟩:∃W,W=V.alloc (.cells #[.int .i64 x1, .int .i64 x2, .int .i64 x3] 35):=⟨_,rfl⟩
   have hFY:FndS w Y g base m3 mn ms (3*i) pre ve m (thL (L.t.take i)) (upE (L.t.take i)):=by rw [hY];exact HV.out.1.below ((Below.refl _ V).alloc (Nat.le_refl _) _)
   have hbY:Blk Y gt 35 #[.int .i64 x1, .int .i64 x2, .int .i64 x3]:=by rw [hY,hgt];exact Blk.new _ _ _
   have hgtb:base≤gt:=by rw [hgt];exact HV.out.1.hb
   rw [←hY,←hgt]
   have HY:=hide (And.intro hFY (And.intro hbY hgtb))
   have y0:=hbY.cell 0
   have y1:=hbY.cell 1
   have y2:=hbY.cell 2
   have hyl:=hbY.lt
   clear hFY hbY hgtb hY hgt c0 c1 c2 hbV
   go_upto_region 6 with fail
   clear y0 y1 y2 hyl
   go_loopw [34] (fun jv wz=>∃(j m2:Nat) (ve:Value),j≤3∧jv= .int .i64 j∧FndS w wz g base m3 mn ms (3*i+j) pre ve m2 (thL (L.t.take i)++(trip3 (x1,x2,x3)).take j) (upE (L.t.take i)++upF ((de3 (x1,x2,x3)).take j))∧m2≤3*i+j∧Blk wz gt 35 #[.int .i64 x1, .int .i64 x2, .int .i64 x3]) (fun jv _=>3 - (intOf jv).toNat)
   case atStart=>exact ⟨0,m,ve,by omega,rfl,by simpa [upF] using HY.out.1,by omega,HY.out.2.1⟩
   case round=>
    obtain ⟨j,m2,ve,hj,rfl,hF,hm2,hbt⟩:=hrel
    obtain ⟨U,rfl⟩:∃x,x=wr:=⟨_,rfl⟩
    obtain ⟨Ae,ce,rfl⟩:=hF.ed.form
    have y0:U.cell? ⟨gt,0,none⟩=some (.int .i64 x1):=hbt.cell 0
    have y1:U.cell? ⟨gt,1,none⟩=some (.int .i64 x2):=hbt.cell 1
    have y2:U.cell? ⟨gt,2,none⟩=some (.int .i64 x3):=hbt.cell 2
    have hyl:=hbt.lt
    have b4:U.cell? ⟨g,4,none⟩=some (.map (some m3)):=by have h:=hF.bx.cell 4;rw [HPre.out] at h;exact h
    have hgU:=hF.bx.lt
    have a1:IntKind.i64.wrap 1=1:=by decide
    have a2:IntKind.i64.wrap 2=2:=by decide
    have a3:IntKind.i64.wrap 3=3:=by decide
    have a4:IntKind.i64.wrap 4=4:=by decide
    have a0:IntKind.i64.wrap 0=0:=by decide
    have hc:j=0∨j=1∨j=2∨j=3:=by omega
    rcases hc with rfl | rfl | rfl | rfl
    ·have hfe:=HV.out.2.2.2 (x1,x2) (by simp [de3])
     have ix:=idxN0 (.int .i64 x1) (.int .i64 x2) (.int .i64 x3)
     obtain ⟨w5,hrun,hm5,hg5,hz5⟩:=(hF.th.below (Below.refl _ U).drew hF.th.lt).update kfA2 (t:=85) (e:=3) Tryz.underlying85 (by unfold maxLen;omega) (x1,x2) hfe (vi x3)
     have hgU5:U.grownBy w5 (some m3):=⟨hg5.os,hg5.tape,hg5.output,hg5.size,hg5.block⟩
     have hF5:FndS w w5 g base m3 mn ms (3*i+0+1) pre (.slice Ae m2 ce) m2 (thL (L.t.take i)++(trip3 (x1,x2,x3)).take 1) (upE (L.t.take i)++upF ((de3 (x1,x2,x3)).take 0)):=by
      have h:=hF.put HP.out (x1,x2) x3 hm5 hgU5 hz5
      rw [List.append_assoc] at h
      exact h
     have hsu:=upF_succ (x:=(x1,x2,x3)) (j:=0) (e:=(x1,x2)) rfl
     have hbt5:=hbt.grown hgU5 (fun e=>by cases e;have:=HP.out.l3;have:=HY.out.2.2;omega)
     have b5:w5.cell? ⟨g,5,none⟩=some (.slice Ae m2 ce):=by have h:=hF5.bx.cell 5;rw [HPre.out] at h;exact h
     have hg5l:=hF5.bx.lt
     have hz5b:=hF5.hb
     by_cases h1:x1 < x2
     ·rw [if_pos h1] at hsu
      have HU:=hide (And.intro hF5 (And.intro hsu hbt5))
      clear hF hF5 hsu hbt hbt5 hm5 hg5 hgU5 hz5 hfe
      go_upto_region 9 with fail
      go_still_tail 12,(by kernel_rfl)
      repeat still_step
      change wpList _ _ _ _ _ U.drew
      go_wp2_with (at_builtin;refine wpList_append1 rfl _ _ _ rfl Tryz.underlying86 infoSE rfl (by omega) encE2_len encE2_one rfl (HU.out.1.ed.alloc _) w5.heap.size 1 ((x1,x2):E2) rfl (Blk.new _ _ _) (by unfold maxLen;omega) (by omega) (by simp;omega) ?_;intro g6 cap6 w6 hown6 hg6 hB6 hat6 hgb6 hlt6;have H6:=hide (And.intro hown6 (And.intro hg6 hB6));clear hown6 hg6 hB6 hat6 hgb6 hlt6;obtain ⟨f5,l5,k5⟩:=(HU.out.1.below ((Below.refl _ w5).alloc (Nat.le_refl _) (.cells #[.int .i64 x1, .int .i64 x2] 115))).ok5 HPS.out HP.out H6.out.2.2)
      go_roundw
      case rel=>
       have hal:=HU.out.1.below ((Below.refl _ w5).alloc (Nat.le_refl _) (.cells #[.int .i64 x1, .int .i64 x2] 115))
       have hap:=hal.app HPS.out HP.out (x1,x2) H6.out.2.2 H6.out.2.1 H6.out.1
       have hbt6:=(HU.out.2.2.alloc (.cells #[.int .i64 x1, .int .i64 x2] 115)).grown H6.out.2.1 (blk_own_ne9 (HU.out.2.2.alloc (.cells #[.int .i64 x1, .int .i64 x2] 115)) (HU.out.1.ed.alloc (.cells #[.int .i64 x1, .int .i64 x2] 115)) (show (115:TypeId)≠35 by decide))
       exact ⟨1,m2+1,_,by omega,by go_num,by rw [HU.out.2.1,←List.append_assoc];exact hap,by omega,hbt6.far (p:=⟨g,5,none⟩) (show gt≠g by have:=HP.out.lg;have:=HP.out.l3;have:=HY.out.2.2;omega) _⟩
      case measure=>(simp [intOf];try omega)
     ·rw [if_neg h1,List.append_nil] at hsu
      have HU:=hide (And.intro hF5 (And.intro hsu hbt5))
      clear hF hF5 hsu hbt hbt5 hm5 hg5 hgU5 hz5 hfe
      go_upto_region 9 with fail
      go_still_tail 12,(by kernel_rfl)
      repeat still_step
      change wpList _ _ _ _ _ U.drew
      go_wp2
      go_roundw
      case rel=>exact ⟨1,m2,_,by omega,by go_num,by rw [HU.out.2.1];exact HU.out.1,by omega,HU.out.2.2⟩
      case measure=>(simp [intOf];try omega)
    ·have hfe:=HV.out.2.2.2 (x2,x3) (by simp [de3])
     have ix:=idxN1 (.int .i64 x1) (.int .i64 x2) (.int .i64 x3)
     obtain ⟨w5,hrun,hm5,hg5,hz5⟩:=(hF.th.below (Below.refl _ U).drew hF.th.lt).update kfA2 (t:=85) (e:=3) Tryz.underlying85 (by unfold maxLen;omega) (x2,x3) hfe (vi x1)
     have hgU5:U.grownBy w5 (some m3):=⟨hg5.os,hg5.tape,hg5.output,hg5.size,hg5.block⟩
     have hF5:FndS w w5 g base m3 mn ms (3*i+1+1) pre (.slice Ae m2 ce) m2 (thL (L.t.take i)++(trip3 (x1,x2,x3)).take 2) (upE (L.t.take i)++upF ((de3 (x1,x2,x3)).take 1)):=by
      have h:=hF.put HP.out (x2,x3) x1 hm5 hgU5 hz5
      rw [List.append_assoc] at h
      exact h
     have hsu:=upF_succ (x:=(x1,x2,x3)) (j:=1) (e:=(x2,x3)) rfl
     have hbt5:=hbt.grown hgU5 (fun e=>by cases e;have:=HP.out.l3;have:=HY.out.2.2;omega)
     have b5:w5.cell? ⟨g,5,none⟩=some (.slice Ae m2 ce):=by have h:=hF5.bx.cell 5;rw [HPre.out] at h;exact h
     have hg5l:=hF5.bx.lt
     have hz5b:=hF5.hb
     by_cases h1:x2 < x3
     ·rw [if_pos h1] at hsu
      have HU:=hide (And.intro hF5 (And.intro hsu hbt5))
      clear hF hF5 hsu hbt hbt5 hm5 hg5 hgU5 hz5 hfe
      go_upto_region 9 with fail
      go_still_tail 12,(by kernel_rfl)
      repeat still_step
      change wpList _ _ _ _ _ U.drew
      go_wp2_with (at_builtin;refine wpList_append1 rfl _ _ _ rfl Tryz.underlying86 infoSE rfl (by omega) encE2_len encE2_one rfl (HU.out.1.ed.alloc _) w5.heap.size 1 ((x2,x3):E2) rfl (Blk.new _ _ _) (by unfold maxLen;omega) (by omega) (by simp;omega) ?_;intro g6 cap6 w6 hown6 hg6 hB6 hat6 hgb6 hlt6;have H6:=hide (And.intro hown6 (And.intro hg6 hB6));clear hown6 hg6 hB6 hat6 hgb6 hlt6;obtain ⟨f5,l5,k5⟩:=(HU.out.1.below ((Below.refl _ w5).alloc (Nat.le_refl _) (.cells #[.int .i64 x2, .int .i64 x3] 115))).ok5 HPS.out HP.out H6.out.2.2)
      go_roundw
      case rel=>
       have hal:=HU.out.1.below ((Below.refl _ w5).alloc (Nat.le_refl _) (.cells #[.int .i64 x2, .int .i64 x3] 115))
       have hap:=hal.app HPS.out HP.out (x2,x3) H6.out.2.2 H6.out.2.1 H6.out.1
       have hbt6:=(HU.out.2.2.alloc (.cells #[.int .i64 x2, .int .i64 x3] 115)).grown H6.out.2.1 (blk_own_ne9 (HU.out.2.2.alloc (.cells #[.int .i64 x2, .int .i64 x3] 115)) (HU.out.1.ed.alloc (.cells #[.int .i64 x2, .int .i64 x3] 115)) (show (115:TypeId)≠35 by decide))
       exact ⟨2,m2+1,_,by omega,by go_num,by rw [HU.out.2.1,←List.append_assoc];exact hap,by omega,hbt6.far (p:=⟨g,5,none⟩) (show gt≠g by have:=HP.out.lg;have:=HP.out.l3;have:=HY.out.2.2;omega) _⟩
      case measure=>(simp [intOf];try omega)
     ·rw [if_neg h1,List.append_nil] at hsu
      have HU:=hide (And.intro hF5 (And.intro hsu hbt5))
      clear hF hF5 hsu hbt hbt5 hm5 hg5 hgU5 hz5 hfe
      go_upto_region 9 with fail
      go_still_tail 12,(by kernel_rfl)
      repeat still_step
      change wpList _ _ _ _ _ U.drew
      go_wp2
      go_roundw
      case rel=>exact ⟨2,m2,_,by omega,by go_num,by rw [HU.out.2.1];exact HU.out.1,by omega,HU.out.2.2⟩
      case measure=>(simp [intOf];try omega)
    ·have hfe:=HV.out.2.2.2 (x3,x1) (by simp [de3])
     have ix:=idxN2 (.int .i64 x1) (.int .i64 x2) (.int .i64 x3)
     obtain ⟨w5,hrun,hm5,hg5,hz5⟩:=(hF.th.below (Below.refl _ U).drew hF.th.lt).update kfA2 (t:=85) (e:=3) Tryz.underlying85 (by unfold maxLen;omega) (x3,x1) hfe (vi x2)
     have hgU5:U.grownBy w5 (some m3):=⟨hg5.os,hg5.tape,hg5.output,hg5.size,hg5.block⟩
     have hF5:FndS w w5 g base m3 mn ms (3*i+2+1) pre (.slice Ae m2 ce) m2 (thL (L.t.take i)++(trip3 (x1,x2,x3)).take 3) (upE (L.t.take i)++upF ((de3 (x1,x2,x3)).take 2)):=by
      have h:=hF.put HP.out (x3,x1) x2 hm5 hgU5 hz5
      rw [List.append_assoc] at h
      exact h
     have hsu:=upF_succ (x:=(x1,x2,x3)) (j:=2) (e:=(x3,x1)) rfl
     have hbt5:=hbt.grown hgU5 (fun e=>by cases e;have:=HP.out.l3;have:=HY.out.2.2;omega)
     have b5:w5.cell? ⟨g,5,none⟩=some (.slice Ae m2 ce):=by have h:=hF5.bx.cell 5;rw [HPre.out] at h;exact h
     have hg5l:=hF5.bx.lt
     have hz5b:=hF5.hb
     by_cases h1:x3 < x1
     ·rw [if_pos h1] at hsu
      have HU:=hide (And.intro hF5 (And.intro hsu hbt5))
      clear hF hF5 hsu hbt hbt5 hm5 hg5 hgU5 hz5 hfe
      go_upto_region 9 with fail
      go_still_tail 12,(by kernel_rfl)
      repeat still_step
      change wpList _ _ _ _ _ U.drew
      go_wp2_with (at_builtin;refine wpList_append1 rfl _ _ _ rfl Tryz.underlying86 infoSE rfl (by omega) encE2_len encE2_one rfl (HU.out.1.ed.alloc _) w5.heap.size 1 ((x3,x1):E2) rfl (Blk.new _ _ _) (by unfold maxLen;omega) (by omega) (by simp;omega) ?_;intro g6 cap6 w6 hown6 hg6 hB6 hat6 hgb6 hlt6;have H6:=hide (And.intro hown6 (And.intro hg6 hB6));clear hown6 hg6 hB6 hat6 hgb6 hlt6;obtain ⟨f5,l5,k5⟩:=(HU.out.1.below ((Below.refl _ w5).alloc (Nat.le_refl _) (.cells #[.int .i64 x3, .int .i64 x1] 115))).ok5 HPS.out HP.out H6.out.2.2)
      go_roundw
      case rel=>
       have hal:=HU.out.1.below ((Below.refl _ w5).alloc (Nat.le_refl _) (.cells #[.int .i64 x3, .int .i64 x1] 115))
       have hap:=hal.app HPS.out HP.out (x3,x1) H6.out.2.2 H6.out.2.1 H6.out.1
       have hbt6:=(HU.out.2.2.alloc (.cells #[.int .i64 x3, .int .i64 x1] 115)).grown H6.out.2.1 (blk_own_ne9 (HU.out.2.2.alloc (.cells #[.int .i64 x3, .int .i64 x1] 115)) (HU.out.1.ed.alloc (.cells #[.int .i64 x3, .int .i64 x1] 115)) (show (115:TypeId)≠35 by decide))
       exact ⟨3,m2+1,_,by omega,by go_num,by rw [HU.out.2.1,←List.append_assoc];exact hap,by omega,hbt6.far (p:=⟨g,5,none⟩) (show gt≠g by have:=HP.out.lg;have:=HP.out.l3;have:=HY.out.2.2;omega) _⟩
      case measure=>(simp [intOf];try omega)
     ·rw [if_neg h1,List.append_nil] at hsu
      have HU:=hide (And.intro hF5 (And.intro hsu hbt5))
      clear hF hF5 hsu hbt hbt5 hm5 hg5 hgU5 hz5 hfe
      go_upto_region 9 with fail
      go_still_tail 12,(by kernel_rfl)
      repeat still_step
      change wpList _ _ _ _ _ U.drew
      go_wp2
      go_roundw
      case rel=>exact ⟨3,m2,_,by omega,by go_num,by rw [HU.out.2.1];exact HU.out.1,by omega,HU.out.2.2⟩
      case measure=>(simp [intOf];try omega)
    ·have HU:=hide (And.intro hF hbt)
     clear hF hbt b4 hgU
     go_wp2
     go_roundw
     case rel=>exact ⟨i+1,m2,_,by omega,by go_num,by rw [HV.out.2.1,HV.out.2.2.1,show 3*(i+1)=3*i+3 by omega];exact HU.out.1,by omega⟩
     case measure=>(simp [intOf];try omega)
  ·obtain rfl:i=nt:=by omega
   have htk:L.t.take i=L.t:=List.take_of_length_le (by rw [←HS.out.2.2.2.2.2.2.1];exact Nat.le_refl _)
   rw [htk] at hF
   obtain ⟨A5,c5,rfl⟩:=hF.ed.form
   have hso:Calls Tryz.prog 102 #[.slice A5 m c5, .func (.func 103) #[] #[]] V fun e w'=>e= .returned (.tuple #[])∧FndS w w' g base m3 mn ms (3*i) pre (.slice A5 m c5) m (thL L.t) (edgesE L.t):=by
    rcases hF.ed.2.2 with ⟨h0,hm0⟩ | ⟨g',cap',cur,hv,_⟩
    ·have hm0:m=0:=hm0
     have hu:upE L.t= []:=List.eq_nil_of_length_eq_zero (by rw [←hF.ed.1,hm0])
     subst hm0
     refine (sort_se_none A5 c5 V).mono ?_
     rintro e w' ⟨rfl,rfl⟩
     refine ⟨rfl,?_⟩
     have:edgesE L.t=upE L.t:=by unfold edgesE;rw [hu];exact (sortO_perm _).eq_nil
     rw [this]
     exact hF
    ·injection hv with hA _ hc
     subst hA
     refine (sort_se_own g' c5 m base (upE L.t) V hF.ed (by have:=hF.ed.1;omega)).mono ?_
     rintro e w' ⟨rfl,hg,ho⟩
     exact ⟨rfl,hF.sorted HP.out hg ho⟩
   have b5:V.cell? ⟨g,5,none⟩=some (.slice A5 m c5):=by have h:=hF.bx.cell 5;rw [HPre.out] at h;exact h
   have hgV:=hF.bx.lt
   have i1:¬(i:Int) < (i:Int):=by omega
   have HSO:=hide (And.intro hso hm)
   clear hso hF hm htk hi hlt
   go_wp2_with (go_at_call 102;refine HSO.out.1.mono ?_;rintro e w1 ⟨rfl,hF1⟩;have b51:w1.cell? ⟨g,5,none⟩=some (.slice A5 m c5):=(by have h:=hF1.bx.cell 5;rw [HPre.out] at h;exact h);have hg1:=hF1.bx.lt;have H1:=hide hF1;clear hF1 b5 hgV)
   clear b51 hg1 i1
   have hmcw:=HS.out.2.2.1.lt
   have HMC:=hide (show mc≠g from fun e=>by
    obtain ⟨o,ho,hc⟩:=HS.out.2.2.1.obj
    have hb:w.heap[g]? =some (.cells _ _ (0,0)):=HS.out.1
    rw [e,hb] at ho
    cases ho
    cases hc)
   have HW:=hide hmcw
   clear hmcw
   go_loopw [82] (fun jv wz=>∃(k cn cs:Nat),k≤m∧jv= .int .i64 k∧FndR w wz g base m3 mn ms (3*i) mc ncr pre (.slice A5 m c5) m L.t L.cr (edgesE L.t)∧MapK Tryz.prog 115 vE2 fits2 wz mn cn (thF ((nbL (edgesE L.t) np).take k))∧SrpM wz ms cs base (endsE (((edgesE L.t).take k).filter fun e=>decide (e∈L.cr)))∧cn≤k∧cs≤2*k) (fun jv _=>m - (intOf jv).toNat)
   case atStart=>exact ⟨0,0,0,by omega,rfl,⟨H1.out.bx,H1.out.th,H1.out.ed,HS.out.2.2.1.kept H1.out.gr (fun e=>HMC.out (Option.some.inj e)),H1.out.gr,H1.out.hb⟩,by rw [List.take_zero];exact H1.out.nb,H1.out.sh.same (fun p=>by rw [List.take_zero];rfl),by omega,by omega⟩
   case round=>
    obtain ⟨k,cn,cs,hk,rfl,hR,hN,hS,hcn,hcs⟩:=hrel
    obtain ⟨U0,rfl⟩:∃x,x=wr:=⟨_,rfl⟩
    have hEl:m=(edgesE L.t).length:=hR.ed.1
    by_cases hlt:k < m
    ·have k1:(k:Int) < (m:Int):=by omega
     obtain ⟨e,he⟩:∃x,(edgesE L.t)[k]? =some x:=⟨_,List.getElem?_eq_getElem (by omega)⟩
     obtain ⟨be,oe,hA,hbe,c0,c1⟩:=(hR.ed.sl encE2_len (Nat.le_refl _)).e2 he
     subst hA
     have hme:=mem_edgesE.1 (List.mem_of_getElem? he)
     have hfl:=filter_take (cr:=L.cr) he
     have hnt2:=nbL_take (n:=np) he
     have hmb:m≤900000:=by have:=HSO.out.2;omega
     obtain ⟨e1,e2⟩:=e
     have hfe:fits2 (e1,e2):=HS.out.2.2.2.2.2.2.2 e1 e2 hme.1
     simp only at c0 c1
     have HE:=hide (And.intro hR (And.intro hN (And.intro hS (And.intro hfl (And.intro hnt2 (And.intro hme (And.intro hfe hEl)))))))
     clear hR hN hS hfl hnt2 hme hfe hEl he
     go_upto_region 18 with fail
     obtain ⟨ge,hge⟩:∃n,n=U0.heap.size:=⟨_,rfl⟩
     obtain ⟨Y,hY⟩:∃W,W=U0.alloc (.cells #[.int .i64 e1, .int .i64 e2] 115):=⟨_,rfl⟩
     have hBY:Below U0.heap.size U0 Y:=by rw [hY];exact (Below.refl _ U0).alloc (Nat.le_refl _) _
     have hKY:Blk Y ge 115 #[.int .i64 e1, .int .i64 e2]:=by rw [hY,hge];exact Blk.new _ _ _
     have hgb:base≤ge:=by rw [hge];exact HE.out.1.hb
     rw [←hY,←hge]
     have hRY:=HE.out.1.below hBY
     have hNY:=HE.out.2.1.below hBY HE.out.2.1.lt
     have hSY:=HE.out.2.2.1.below hBY (Nat.le_refl _)
     have b6:Y.cell? ⟨g,6,none⟩=some (.map (some mn)):=by have h:=hRY.bx.cell 6;rw [HPre.out] at h;exact h
     have b0:Y.cell? ⟨g,0,none⟩=some (.slice Ap np cp):=by have h:=hRY.bx.cell 0;rw [HPre.out] at h;exact h
     have y0:Y.cell? ⟨ge,0,none⟩=some (.int .i64 e1):=hKY.cell 0
     have y1:Y.cell? ⟨ge,1,none⟩=some (.int .i64 e2):=hKY.cell 1
     have hgY:=hRY.bx.lt
     have hgeY:=hKY.lt
     obtain ⟨w5,hrun,hm5,hg5,hz5⟩:=(hNY.below (Below.refl _ Y).drew hNY.lt).update kfSE (t:=87) (e:=3) Tryz.underlying87 (by unfold maxLen;omega) (e1,e2) HE.out.2.2.2.2.2.2.1 (vi ((np:Int)+(k:Int)))
     have hgY5:Y.grownBy w5 (some mn):=⟨hg5.os,hg5.tape,hg5.output,hg5.size,hg5.block⟩
     have hR5:=hRY.upd HP.out HW.out (.inl rfl) hgY5
     have hN5:MapK Tryz.prog 115 vE2 fits2 w5 mn (cn+1) (thF ((nbL (edgesE L.t) np).take (k+1))):=by
      rw [HE.out.2.2.2.2.1,thF_snoc]
      exact hm5
     have hS5:=hSY.step hgY5 (fun e=>by cases e;have:=HP.out.df;omega) (fun r hr=> .inl (by cases hr;exact HP.out.ln.2))
     have hK5:=hKY.grown hgY5 (fun e=>by cases e;have:=HP.out.ln;omega)
     have HU:=hide (And.intro hR5 (And.intro hN5 (And.intro hS5 (And.intro hK5 hgb))))
     clear hRY hNY hSY hBY hKY hgb hY hge hm5 hg5 hgY5 hR5 hN5 hS5 hK5 hz5
     go_still_tail 12,(by kernel_rfl)
     repeat still_step
     change wpList _ _ _ _ _ Y.drew
     go_wp2_with fail
     clear hrun b6 b0 y0 y1 hgY hgeY c0 c1 hbe
     have b2:w5.cell? ⟨g,2,none⟩=some (.map (some mc)):=by have h:=HU.out.1.bx.cell 2;rw [HPre.out] at h;exact h
     have y0:w5.cell? ⟨ge,0,none⟩=some (.int .i64 e1):=HU.out.2.2.2.1.cell 0
     have y1:w5.cell? ⟨ge,1,none⟩=some (.int .i64 e2):=HU.out.2.2.2.1.cell 1
     have hgU:=HU.out.1.bx.lt
     have hgeU:=HU.out.2.2.2.1.lt
     have HM2:=hide (And.intro b2 (And.intro trivial (And.intro hgU (And.intro hgeU (And.intro y0 y1)))))
     clear b2 y0 y1 hgU hgeU
     have HLK:=hide (show∀W,Below w5.heap.size w5 W→(Instr.lookup 83 (.map (some mc)) (.agg #[.int .i64 e1, .int .i64 e2]) false).run Tryz.prog W= .ok (.bool (memB L.cr (e1,e2))) W from fun W hW=>by
      have h:=(HU.out.1.cr.below hW HU.out.1.cr.lt).lookup kfSE (t:=83) (e:=4) Tryz.underlying83 (z:= .bool false) rfl (e1,e2) HE.out.2.2.2.2.2.2.1
      rw [setK4_get] at h
      exact h)
     have HSB:=hide (show Below w5.heap.size w5 w5.drew from (Below.refl _ w5).drew)
     refine wp_region_mix (fun W=>Below w5.heap.size w5 W) [0,1,2,3,4,5] [0,1,2,3,4,5] mixed_ok (by kernel_rfl) ?_
     refine wpMix_q (v:=(.pointer (some ⟨g,0,none⟩))) rfl rfl (fun _ _ _ h=>h) HSB.out ⟨rfl,fun _ _=>by simp [go_sem]⟩ ?_
     refine wpMix_q (v:=(.pointer (some ⟨g,0,none⟩))) rfl rfl (fun _ _ _ h=>h) HSB.out ⟨rfl,fun _ _=>by simp [go_sem]⟩ ?_
     refine wpMix_q (v:=(.pointer (some ⟨g,2,none⟩))) rfl rfl (fun _ _ _ h=>h) HSB.out ⟨rfl,fun _ _=>by simp [go_sem]⟩ ?_
     refine wpMix_q (v:=(.map (some mc))) rfl rfl (fun _ _ _ h=>h) HSB.out ⟨rfl,fun _ h'=>by have a0:=(h'.cell (p:=⟨g,2,none⟩) HM2.out.2.2.1).trans HM2.out.1;simp [go_sem,a0]⟩ ?_
     refine wpMix_q (v:=(.agg #[.int .i64 e1, .int .i64 e2])) rfl rfl (fun _ _ _ h=>h) HSB.out ⟨rfl,fun _ h'=>by have a0:=(h'.cell (p:=⟨ge,0,none⟩) HM2.out.2.2.2.1).trans HM2.out.2.2.2.2.1;have a1:=(h'.cell (p:=⟨ge,1,none⟩) HM2.out.2.2.2.1).trans HM2.out.2.2.2.2.2;simp [go_sem,a0,a1]⟩ ?_
     refine wpMix_q (v:=(.bool (memB L.cr (e1,e2)))) rfl rfl (fun _ _ _ h=>h) HSB.out ⟨rfl,fun _ h'=>by have a0:=HLK.out _ h';simp [go_sem,a0]⟩ ?_
     simp only [List.getElem_toArray,List.getElem_cons_succ,List.getElem_cons_zero,Act.put,List.setIfInBounds_toArray,List.set_cons_succ,List.set_cons_zero]
     refine wpMix_nil ?_
     obtain ⟨U,hU⟩:∃W,W=w5.drew:=⟨_,rfl⟩
     rw [←hU]
     have HU2:=hide (show FndR w U g base m3 mn ms (3*i) mc ncr pre (.slice (some ⟨be,oe,none⟩) m c5) m L.t L.cr (edgesE L.t)∧MapK Tryz.prog 115 vE2 fits2 U mn (cn+1) (thF ((nbL (edgesE L.t) np).take (k+1)))∧SrpM U ms cs base (endsE (((edgesE L.t).take k).filter fun e=>decide (e∈L.cr)))∧Blk U ge 115 #[.int .i64 e1, .int .i64 e2]∧base≤ge from by
      rw [hU]
      have hd:Below w5.heap.size w5 w5.drew:=(Below.refl _ w5).drew
      exact ⟨HU.out.1.below hd,HU.out.2.1.below hd HU.out.2.1.lt,HU.out.2.2.1.below hd (Nat.le_refl _),HU.out.2.2.2.1.below hd HU.out.2.2.2.1.lt,HU.out.2.2.2.2⟩)
     clear HLK HSB HM2 HU hU
     by_cases hcr:(e1,e2)∈L.cr
     ·rw [memB_on hcr]
      have HC:=hide hcr
      clear hcr
      have hmbI:m≤900000:=hmb
      obtain ⟨F,hF⟩:∃F,F=((edgesE L.t).take k).filter fun e=>decide (e∈L.cr):=⟨_,rfl⟩
      have hFl:F.length≤k:=by rw [hF];exact Nat.le_trans (List.length_filter_le _ _) (by rw [List.length_take];omega)
      rw [←hF] at HU2
      have HF:=hide hF
      clear hF
      obtain ⟨lx,Ax,cx,hlx,hlkx,hox⟩:=HU2.out.2.2.1.look2 HP.out.ls.2 e1 HE.out.2.2.2.2.2.2.1.1
      have hllx:lx.length≤2000000:=by
       rw [hlx]
       exact Nat.le_trans (ends_len _ _) (by omega)
      have HMx:=hide (show U.cell? ⟨g,7,none⟩=some (.map (some ms))∧U.cell? ⟨ge,0,none⟩=some (.int .i64 e1)∧U.cell? ⟨ge,1,none⟩=some (.int .i64 e2) from ⟨by have h:=HU2.out.1.bx.cell 7;rw [HPre.out] at h;exact h,HU2.out.2.2.2.1.cell 0,HU2.out.2.2.2.1.cell 1⟩)
      have HLKx:=hide (And.intro hlkx (And.intro hox (And.intro hlx (And.intro (show base≤U.heap.size from HU2.out.1.hb) (show g < base by have:=HP.out.lg;have:=HP.out.l3;omega)))))
      clear hlkx hox hlx
      go_upto_region 20 with fail
      have HSB:=hide (show Below base U U.drew∧U.drew.cell? ⟨ge,0,none⟩=some (.int .i64 e1)∧U.drew.cell? ⟨ge,1,none⟩=some (.int .i64 e2) from ⟨(Below.refl _ U).drew,HMx.out.2⟩)
      refine wp_region_mix (fun W=>Below base U W∧W.cell? ⟨ge,0,none⟩=some (.int .i64 e1)∧W.cell? ⟨ge,1,none⟩=some (.int .i64 e2)) [0,1,2,3,4,5,6,7,8,9,10,11,12,13,14] [0,1,2,3,4,5,6,7,8,9,10,11,12,13,14,15,16,17] mixed_ok (by kernel_rfl) ?_
      refine wpMix_q (v:=(.pointer (some ⟨g,0,none⟩))) rfl rfl (fun _ _ _ h=>h) HSB.out ⟨rfl,fun _ _=>by simp [go_sem]⟩ ?_
      refine wpMix_q (v:=(.pointer (some ⟨g,0,none⟩))) rfl rfl (fun _ _ _ h=>h) HSB.out ⟨rfl,fun _ _=>by simp [go_sem]⟩ ?_
      refine wpMix_q (v:=(.pointer (some ⟨g,7,none⟩))) rfl rfl (fun _ _ _ h=>h) HSB.out ⟨rfl,fun _ _=>by simp [go_sem]⟩ ?_
      refine wpMix_q (v:=(.map (some ms))) rfl rfl (fun _ _ _ h=>h) HSB.out ⟨rfl,fun _ h'=>by have a0:=(h'.1.cell (p:=⟨g,7,none⟩) HLKx.out.2.2.2.2).trans HMx.out.1;simp [go_sem,a0]⟩ ?_
      refine wpMix_q (v:=(.pointer (some ⟨ge,0,none⟩))) rfl rfl (fun _ _ _ h=>h) HSB.out ⟨rfl,fun _ _=>by simp [go_sem]⟩ ?_
      refine wpMix_q (v:=(.int .i64 e1)) rfl rfl (fun _ _ _ h=>h) HSB.out ⟨rfl,fun _ h'=>by have a0:=h'.2.1;simp [go_sem,a0]⟩ ?_
      simp only [List.getElem_toArray,List.getElem_cons_succ,List.getElem_cons_zero,Act.put,List.setIfInBounds_toArray,List.set_cons_succ,List.set_cons_zero]
      refine wpMix_q (v:=(.pointer (some ⟨g,0,none⟩))) rfl rfl (fun _ _ _ h=>h) HSB.out ⟨rfl,fun _ _=>by simp [go_sem]⟩ ?_
      refine wpMix_q (v:=(.pointer (some ⟨g,0,none⟩))) rfl rfl (fun _ _ _ h=>h) HSB.out ⟨rfl,fun _ _=>by simp [go_sem]⟩ ?_
      refine wpMix_q (v:=(.pointer (some ⟨g,7,none⟩))) rfl rfl (fun _ _ _ h=>h) HSB.out ⟨rfl,fun _ _=>by simp [go_sem]⟩ ?_
      refine wpMix_q (v:=(.map (some ms))) rfl rfl (fun _ _ _ h=>h) HSB.out ⟨rfl,fun _ h'=>by have a0:=(h'.1.cell (p:=⟨g,7,none⟩) HLKx.out.2.2.2.2).trans HMx.out.1;simp [go_sem,a0]⟩ ?_
      refine wpMix_q (v:=(.pointer (some ⟨ge,0,none⟩))) rfl rfl (fun _ _ _ h=>h) HSB.out ⟨rfl,fun _ _=>by simp [go_sem]⟩ ?_
      refine wpMix_q (v:=(.int .i64 e1)) rfl rfl (fun _ _ _ h=>h) HSB.out ⟨rfl,fun _ h'=>by have a0:=h'.2.1;simp [go_sem,a0]⟩ ?_
      simp only [List.getElem_toArray,List.getElem_cons_succ,List.getElem_cons_zero,Act.put,List.setIfInBounds_toArray,List.set_cons_succ,List.set_cons_zero]
      refine wpMix_q (v:=(.slice Ax lx.length cx)) rfl rfl (fun _ _ _ h=>h) HSB.out ⟨rfl,fun _ h'=>by have a0:=HLKx.out.1 _ h'.1;simp [go_sem,a0]⟩ ?_
      refine wpMix_q (v:=(.pointer (some ⟨ge,1,none⟩))) rfl rfl (fun _ _ _ h=>h) HSB.out ⟨rfl,fun _ _=>by simp [go_sem]⟩ ?_
      refine wpMix_q (v:=(.int .i64 e2)) rfl rfl (fun _ _ _ h=>h) HSB.out ⟨rfl,fun _ h'=>by have a0:=h'.2.2;simp [go_sem,a0]⟩ ?_
      simp only [List.getElem_toArray,List.getElem_cons_succ,List.getElem_cons_zero,Act.put,List.setIfInBounds_toArray,List.set_cons_succ,List.set_cons_zero]
      have hb0:=HLKx.out.2.2.2.1
      have hBa:Below U.heap.size U (U.drew.alloc (.cells #[.int .i64 e2] 3)):=(Below.refl _ U).drew.alloc (Nat.le_refl _) _
      have hKa:=HU2.out.2.2.2.1.below hBa HU2.out.2.2.2.1.lt
      refine wpMix_n rfl rfl ?_
      go_wp2_with fail
      refine ⟨fun _=>⟨hBa.mono hb0,hKa.cell 0,hKa.cell 1⟩,?_⟩
      refine wpMix_n rfl rfl ?_
      refine wpList_append1 rfl _ _ _ rfl Tryz.underlying23 infoI9 rfl (by omega) encZ9_len encZ9_one rfl (HLKx.out.2.1.alloc _) U.heap.size 1 (e2:Int) rfl (Blk.new _ _ _) (by unfold maxLen;omega) (by omega) (by simp;omega) ?_
      intro g6 cap6 w6 hown6 hg6 hB6 hat6 hgb6 hlt6
      obtain ⟨w7,hrun7,hS7,hg7,hz7⟩:=(HU2.out.2.2.1.below hBa (Nat.le_refl _)).put2 (by unfold maxLen;omega) e1 HE.out.2.2.2.2.2.2.1.1 HP.out.ls.2 HLKx.out.2.2.1 (HLKx.out.1 _ (hBa.mono hb0)) e2 hg6 hown6 rfl hat6
      have h8:=fnd_end HU2.out.1 HU2.out.2.1 HU2.out.2.2.2.1 HU2.out.2.2.2.2 HP.out HW.out hBa (HLKx.out.2.1.alloc _) hg6 hB6 hg7
      have HVx:=hide (And.intro h8.1 (And.intro h8.2.1 (And.intro hS7 (And.intro h8.2.2 HU2.out.2.2.2.2))))
      have hK6:=hKa.grown hg6 (blk_own_ne9 hKa (HLKx.out.2.1.alloc _) (show (3:TypeId)≠115 by decide))
      have HS6:=hide (And.intro ((hBa.mono hb0).trans hB6) (And.intro (hK6.cell 0) (hK6.cell 1)))
      clear hown6 hg6 hB6 hat6 hgb6 hlt6 hS7 hg7 hz7 h8 hBa hKa hK6
      go_wp2_with fail
      refine ⟨fun _=>HS6.out,?_⟩
      refine wpMix_tail _ [_] (by kernel_rfl) rfl ?_
      go_wp2_with fail
      clear hrun7 HSB HMx HLKx HU2 HS6 hb0
      obtain ⟨ly,Ay,cy,hly,hlky,hoy⟩:=HVx.out.2.2.1.look2 HP.out.ls.2 e2 HE.out.2.2.2.2.2.2.1.2
      have hlly:ly.length≤2000000:=by
       rw [hly]
       rw [if_neg (by have h12:e1 < e2:=HE.out.2.2.2.2.2.1.2;omega)];exact Nat.le_trans (ends_len _ _) (by omega)
      have HMy:=hide (show w7.cell? ⟨g,7,none⟩=some (.map (some ms))∧w7.cell? ⟨ge,0,none⟩=some (.int .i64 e1)∧w7.cell? ⟨ge,1,none⟩=some (.int .i64 e2) from ⟨by have h:=HVx.out.1.bx.cell 7;rw [HPre.out] at h;exact h,HVx.out.2.2.2.1.cell 0,HVx.out.2.2.2.1.cell 1⟩)
      have HLKy:=hide (And.intro hlky (And.intro hoy (And.intro hly (And.intro (show base≤w7.heap.size from HVx.out.1.hb) (show g < base by have:=HP.out.lg;have:=HP.out.l3;omega)))))
      clear hlky hoy hly
      go_upto_region 21 with fail
      have HSB:=hide (show Below base w7 w7.drew∧w7.drew.cell? ⟨ge,0,none⟩=some (.int .i64 e1)∧w7.drew.cell? ⟨ge,1,none⟩=some (.int .i64 e2) from ⟨(Below.refl _ w7).drew,HMy.out.2⟩)
      refine wp_region_mix (fun W=>Below base w7 W∧W.cell? ⟨ge,0,none⟩=some (.int .i64 e1)∧W.cell? ⟨ge,1,none⟩=some (.int .i64 e2)) [0,1,2,3,4,5,6,7,8,9,10,11,12,13,14] [0,1,2,3,4,5,6,7,8,9,10,11,12,13,14,15,16,17] mixed_ok (by kernel_rfl) ?_
      refine wpMix_q (v:=(.pointer (some ⟨g,0,none⟩))) rfl rfl (fun _ _ _ h=>h) HSB.out ⟨rfl,fun _ _=>by simp [go_sem]⟩ ?_
      refine wpMix_q (v:=(.pointer (some ⟨g,0,none⟩))) rfl rfl (fun _ _ _ h=>h) HSB.out ⟨rfl,fun _ _=>by simp [go_sem]⟩ ?_
      refine wpMix_q (v:=(.pointer (some ⟨g,7,none⟩))) rfl rfl (fun _ _ _ h=>h) HSB.out ⟨rfl,fun _ _=>by simp [go_sem]⟩ ?_
      refine wpMix_q (v:=(.map (some ms))) rfl rfl (fun _ _ _ h=>h) HSB.out ⟨rfl,fun _ h'=>by have a0:=(h'.1.cell (p:=⟨g,7,none⟩) HLKy.out.2.2.2.2).trans HMy.out.1;simp [go_sem,a0]⟩ ?_
      refine wpMix_q (v:=(.pointer (some ⟨ge,1,none⟩))) rfl rfl (fun _ _ _ h=>h) HSB.out ⟨rfl,fun _ _=>by simp [go_sem]⟩ ?_
      refine wpMix_q (v:=(.int .i64 e2)) rfl rfl (fun _ _ _ h=>h) HSB.out ⟨rfl,fun _ h'=>by have a0:=h'.2.2;simp [go_sem,a0]⟩ ?_
      simp only [List.getElem_toArray,List.getElem_cons_succ,List.getElem_cons_zero,Act.put,List.setIfInBounds_toArray,List.set_cons_succ,List.set_cons_zero]
      refine wpMix_q (v:=(.pointer (some ⟨g,0,none⟩))) rfl rfl (fun _ _ _ h=>h) HSB.out ⟨rfl,fun _ _=>by simp [go_sem]⟩ ?_
      refine wpMix_q (v:=(.pointer (some ⟨g,0,none⟩))) rfl rfl (fun _ _ _ h=>h) HSB.out ⟨rfl,fun _ _=>by simp [go_sem]⟩ ?_
      refine wpMix_q (v:=(.pointer (some ⟨g,7,none⟩))) rfl rfl (fun _ _ _ h=>h) HSB.out ⟨rfl,fun _ _=>by simp [go_sem]⟩ ?_
      refine wpMix_q (v:=(.map (some ms))) rfl rfl (fun _ _ _ h=>h) HSB.out ⟨rfl,fun _ h'=>by have a0:=(h'.1.cell (p:=⟨g,7,none⟩) HLKy.out.2.2.2.2).trans HMy.out.1;simp [go_sem,a0]⟩ ?_
      refine wpMix_q (v:=(.pointer (some ⟨ge,1,none⟩))) rfl rfl (fun _ _ _ h=>h) HSB.out ⟨rfl,fun _ _=>by simp [go_sem]⟩ ?_
      refine wpMix_q (v:=(.int .i64 e2)) rfl rfl (fun _ _ _ h=>h) HSB.out ⟨rfl,fun _ h'=>by have a0:=h'.2.2;simp [go_sem,a0]⟩ ?_
      simp only [List.getElem_toArray,List.getElem_cons_succ,List.getElem_cons_zero,Act.put,List.setIfInBounds_toArray,List.set_cons_succ,List.set_cons_zero]
      refine wpMix_q (v:=(.slice Ay ly.length cy)) rfl rfl (fun _ _ _ h=>h) HSB.out ⟨rfl,fun _ h'=>by have a0:=HLKy.out.1 _ h'.1;simp [go_sem,a0]⟩ ?_
      refine wpMix_q (v:=(.pointer (some ⟨ge,0,none⟩))) rfl rfl (fun _ _ _ h=>h) HSB.out ⟨rfl,fun _ _=>by simp [go_sem]⟩ ?_
      refine wpMix_q (v:=(.int .i64 e1)) rfl rfl (fun _ _ _ h=>h) HSB.out ⟨rfl,fun _ h'=>by have a0:=h'.2.1;simp [go_sem,a0]⟩ ?_
      simp only [List.getElem_toArray,List.getElem_cons_succ,List.getElem_cons_zero,Act.put,List.setIfInBounds_toArray,List.set_cons_succ,List.set_cons_zero]
      have hb0:=HLKy.out.2.2.2.1
      have hBa:Below w7.heap.size w7 (w7.drew.alloc (.cells #[.int .i64 e1] 3)):=(Below.refl _ w7).drew.alloc (Nat.le_refl _) _
      have hKa:=HVx.out.2.2.2.1.below hBa HVx.out.2.2.2.1.lt
      refine wpMix_n rfl rfl ?_
      go_wp2_with fail
      refine ⟨fun _=>⟨hBa.mono hb0,hKa.cell 0,hKa.cell 1⟩,?_⟩
      refine wpMix_n rfl rfl ?_
      refine wpList_append1 rfl _ _ _ rfl Tryz.underlying23 infoI9 rfl (by omega) encZ9_len encZ9_one rfl (HLKy.out.2.1.alloc _) w7.heap.size 1 (e1:Int) rfl (Blk.new _ _ _) (by unfold maxLen;omega) (by omega) (by simp;omega) ?_
      intro g6 cap6 w6 hown6 hg6 hB6 hat6 hgb6 hlt6
      obtain ⟨w9,hrun7,hS7,hg7,hz7⟩:=(HVx.out.2.2.1.below hBa (Nat.le_refl _)).put2 (by unfold maxLen;omega) e2 HE.out.2.2.2.2.2.2.1.2 HP.out.ls.2 HLKy.out.2.2.1 (HLKy.out.1 _ (hBa.mono hb0)) e1 hg6 hown6 rfl hat6
      have h8:=fnd_end HVx.out.1 HVx.out.2.1 HVx.out.2.2.2.1 HVx.out.2.2.2.2 HP.out HW.out hBa (HLKy.out.2.1.alloc _) hg6 hB6 hg7
      have HVy:=hide (And.intro h8.1 (And.intro h8.2.1 (And.intro hS7 (And.intro h8.2.2 HVx.out.2.2.2.2))))
      have hK6:=hKa.grown hg6 (blk_own_ne9 hKa (HLKy.out.2.1.alloc _) (show (3:TypeId)≠115 by decide))
      have HS6:=hide (And.intro ((hBa.mono hb0).trans hB6) (And.intro (hK6.cell 0) (hK6.cell 1)))
      clear hown6 hg6 hB6 hat6 hgb6 hlt6 hS7 hg7 hz7 h8 hBa hKa hK6
      go_wp2_with fail
      refine ⟨fun _=>HS6.out,?_⟩
      refine wpMix_tail _ [_] (by kernel_rfl) rfl ?_
      go_wp2_with fail
      clear hrun7 HSB HMy HLKy HVx HS6 hb0
      go_roundw
      case rel=>
       have hfl:=HE.out.2.2.2.1
       rw [if_pos HC.out,←HF.out] at hfl
       have hs:=HVy.out.2.2.1
       have hne:(e1,e2).1≠(e1,e2).2:=by have h12:e1 < e2:=HE.out.2.2.2.2.2.1.2;show e1≠e2;omega
       have hb:=ends_both F hne
       exact ⟨k+1,cn+1,cs+1+1,by omega,by go_num,HVy.out.1,HVy.out.2.1,by rw [hfl,←hb];exact hs,by omega,by omega⟩
      case measure=>(simp [intOf];try omega)
     ·rw [memB_off hcr]
      have HC:=hide hcr
      clear hcr
      go_wp2
      go_roundw
      case rel=>
       have hfl:=HE.out.2.2.2.1
       rw [if_neg HC.out,List.append_nil] at hfl
       exact ⟨k+1,cn+1,cs,by omega,by go_num,HU2.out.1,HU2.out.2.1,by rw [hfl];exact HU2.out.2.2.1,by omega,by omega⟩
      case measure=>(simp [intOf];try omega)
    ·obtain rfl:k=m:=by omega
     have k1:¬(k:Int) < (k:Int):=by omega
     have HE:=hide (And.intro hR (And.intro hN (And.intro hS hEl)))
     clear hR hN hS hEl hlt hk hcn hcs
     go_wp2
     go_end0
     obtain ⟨hR,hN,hS,hEl⟩:=HE.out
     rw [List.take_of_length_le (by rw [←List.length_map (f:=(·.1)),nbL_fst];omega)] at hN
     rw [List.take_of_length_le (by omega),←HS.out.2.2.2.1.cr_filter] at hS
     have hwb:w.heap.size≤base:=by have:=HP.out.l3;omega
     have hbx:=hR.bx
     rw [HPre.out] at hbx
     rw [←hEl]
     exact ⟨rfl,m3,A5,c5,mn,ms,hbx,⟨_,hR.th⟩,hR.ed.base_le hwb,⟨_,hN⟩,⟨_,hS.base_le hwb⟩,hR.gr⟩
end Go.Proofs.YtmemofonebphfaaGreat
namespace Go.Proofs.YtmemofonebphfaaGreat
open Go.RowKit Go.Sort Go.WideMaps Go.Maps
def ShpM (w:World) (B cb:Nat) (G:Int→List Int):Prop:=
 ∃(cnt:Nat) (mo:Int→Option Value),MapK Tryz.prog 3 vi fits w cb cnt mo∧∀p,∃A c,(mo p).getD (.slice none 0 0)= .slice A (G p).length c∧Sl encZ9 1 w B A (G p)
theorem SrpM.shp {w:World} {cb cnt base:Nat} {G:Int→List Int} (h:SrpM w cb cnt base G):ShpM w w.heap.size cb G:=by
 obtain ⟨mo,m,h1,h2,h3⟩:=h
 refine ⟨cnt,mo,h1,fun p=> ?_⟩
 have ho:=h3.1 p
 obtain ⟨A,c,hv⟩:=ho.form
 rw [hv] at ho
 exact ⟨A,c,by rw [h2,hv],ho.sl encZ9_len (Nat.le_refl _)⟩
set_option maxRecDepth 100000 in
theorem ShpM.look {w:World} {B cb:Nat} {G:Int→List Int} (h:ShpM w B cb G) (hcb:cb < B) (p:Int) (hp:fits p):∃l A c,l=G p∧(∀W,Below B w W→(Instr.lookup 88 (.map (some cb)) (vi p) false).run Tryz.prog W= .ok (.slice A l.length c) W)∧Sl encZ9 1 w B A l:=by
 obtain ⟨cnt,mo,h1,h2⟩:=h
 obtain ⟨A,c,h3,h4⟩:=h2 p
 refine ⟨G p,A,c,rfl,fun W hW=> ?_,h4⟩
 have hl:=(h1.below hW hcb).lookup kfI9 (t:=88) (e:=23) Tryz.underlying88 (z:= .slice none 0 0) rfl p hp
 rw [h3] at hl
 exact hl
structure FouM (w:World) (B g:Nat) (Ap:Option Addr) (cp:Nat) (At:Option Addr) (ct mc mo m3 mn ms:Nat) (Ae:Option Addr) (ce:Nat) (L:Lev) (co:List Int):Prop where
 bx:Blk w g 90 (cLvl Ap L.p.length cp At L.t.length ct mc mo (some m3) Ae (edgesE L.t).length ce (some mn) (some ms))
 p:Sl encP 3 w B Ap L.p
 t:Sl encN3 3 w B At L.t
 ed:Sl encE2 2 w B Ae (edgesE L.t)
 th:∃c3,MapK Tryz.prog 56 vE2 fits2 w m3 c3 (thF (thL L.t))
 nb:∃cn,MapK Tryz.prog 115 vE2 fits2 w mn cn (thF (nbL (edgesE L.t) L.p.length))
 sh:ShpM w B ms (endsE L.cr)
 cr:∃n,MapK Tryz.prog 115 vE2 fits2 w mc n (setK4 L.cr)
 co:∃n,MapK Tryz.prog 3 vi fits w mo n (setK4 co)
 lt:g < B∧mc < B∧mo < B∧m3 < B∧mn < B∧ms < B
 hB:B≤w.heap.size
section
variable {w W:World} {B g:Nat} {Ap:Option Addr} {cp:Nat} {At:Option Addr} {ct mc mo m3 mn ms:Nat} {Ae:Option Addr} {ce:Nat} {L:Lev} {co:List Int}
theorem ShpM.below {cb:Nat} {G:Int→List Int} (h:ShpM w B cb G) (hcb:cb < B) (hb:Below B w W):ShpM W B cb G:=by
 obtain ⟨cnt,mo,h1,h2⟩:=h
 refine ⟨cnt,mo,h1.below hb hcb,fun p=> ?_⟩
 obtain ⟨A,c,h3,h4⟩:=h2 p
 exact ⟨A,c,h3,h4.below hb⟩
theorem FouM.below (h:FouM w B g Ap cp At ct mc mo m3 mn ms Ae ce L co) (hb:Below B w W):FouM W B g Ap cp At ct mc mo m3 mn ms Ae ce L co:=by
 obtain ⟨l1,l2,l3,l4,l5,l6⟩:=h.lt
 obtain ⟨c3,h3⟩:=h.th
 obtain ⟨cn,hn⟩:=h.nb
 obtain ⟨nc,hc⟩:=h.cr
 obtain ⟨no,ho⟩:=h.co
 exact ⟨h.bx.below hb l1,h.p.below hb,h.t.below hb,h.ed.below hb,⟨c3,h3.below hb l4⟩,⟨cn,hn.below hb l5⟩,h.sh.below l6 hb,⟨nc,hc.below hb l2⟩,⟨no,ho.below hb l3⟩,h.lt,Nat.le_trans h.hB hb.size⟩
def NoInt (cs:Array Value):Prop:=∀(off:Nat) (k:IntKind) (n:Int),cs[off]? ≠some (.int k n)
theorem MapK.box {P:Program} {κ:Type} {kt:TypeId} {enc:κ→Value} {ok:κ→Prop} {b n r:Nat} {m:κ→Option Value} {t:TypeId} {cs:Array Value} (h:MapK P kt enc ok w b n m) (hb:Blk w r t cs) (hg:w.grownBy W (some r)):MapK P kt enc ok W b n m:=by
 refine h.kept hg fun e=> ?_
 obtain rfl:b=r:=Option.some.inj e
 obtain ⟨o,ho,hc⟩:=h.obj
 have hb:w.heap[b]? =some (.cells _ _ (0,0)):=hb
 rw [hb] at ho
 cases ho
 cases hc
theorem FouM.box (h:FouM w B g Ap cp At ct mc mo m3 mn ms Ae ce L co) {r:Nat} {t:TypeId} {cs:Array Value} (hb:Blk w r t cs) (hn:NoInt cs) (ht:t≠90) (hg:w.grownBy W (some r)):FouM W B g Ap cp At ct mc mo m3 mn ms Ae ce L co:=by
 obtain ⟨c3,h3⟩:=h.th
 obtain ⟨cn,hnb⟩:=h.nb
 obtain ⟨nc,hc⟩:=h.cr
 obtain ⟨no,ho⟩:=h.co
 have hi:∀(k:IntKind) (n:Int) (off:Nat),cs[off]? ≠some (.int k n):=fun k n off=>hn off k n
 have hS:∀{α:Type} {enc:α→List Value} {k:Nat} {A:Option Addr} {xs:List α},Sl enc k w B A xs→(∀x∈xs,∀u∈enc x,∃n,u= .int .i64 n)→Sl enc k W B A xs:=fun h1 h2=>
  h1.grownI hb (fun x hx u hu off=>by obtain ⟨n,rfl⟩:=h2 x hx u hu;exact hi _ _ _) hg h.hB
 have e3:∀{a b c:Int} {u:Value},u∈ [Value.int .i64 a, .int .i64 b, .int .i64 c]→∃n,u= .int .i64 n:=fun hu=>by
  simp only [List.mem_cons,List.not_mem_nil,or_false] at hu
  rcases hu with rfl | rfl | rfl <;>exact ⟨_,rfl⟩
 refine ⟨h.bx.grown hg (fun e=> ?_),hS h.p fun x _ u hu=>e3 hu,hS h.t fun x _ u hu=>e3 hu,hS h.ed fun x _ u hu=> ?_,⟨c3,h3.box hb hg⟩,⟨cn,hnb.box hb hg⟩,?_,⟨nc,hc.box hb hg⟩,⟨no,ho.box hb hg⟩,h.lt,Nat.le_trans h.hB hg.size⟩
 ·obtain rfl:g=r:=Option.some.inj e
  have h1:w.heap[g]? =some (.cells _ _ (0,0)):=h.bx
  have h2:w.heap[g]? =some (.cells _ _ (0,0)):=hb
  rw [h1] at h2
  cases h2
  exact ht rfl
 ·have hu:u∈ [Value.int .i64 x.1, .int .i64 x.2]:=hu
  simp only [List.mem_cons,List.not_mem_nil,or_false] at hu
  rcases hu with rfl | rfl <;>exact ⟨_,rfl⟩
 ·obtain ⟨cnt,mo,h1,h2⟩:=h.sh
  refine ⟨cnt,mo,h1.box hb hg,fun p=> ?_⟩
  obtain ⟨A,c,h3,h4⟩:=h2 p
  refine ⟨A,c,h3,hS h4 fun x _ u hu=> ?_⟩
  have hu:u∈ [Value.int .i64 x]:=hu
  rw [List.mem_singleton] at hu
  exact ⟨_,hu⟩
end
theorem Sl.z1 {w:World} {B:Nat} {A:Option Addr} {t:List Int} (h:Sl encZ9 1 w B A t) {i:Nat} {x:Int} (hx:t[i]? =some x):
  ∃b o,A=some ⟨b,o,none⟩∧b < B∧w.cell? ⟨b,o+i,none⟩=some (.int .i64 x):=by
 obtain ⟨b,o,hA,hb,hc⟩:=h.at hx
 have:=hc 0 _ rfl
 rw [Nat.mul_one,Nat.add_zero] at this
 exact ⟨b,o,hA,hb,this⟩
theorem beyE_corner {cr:List E2} {co:List Int} {a b:Int} (h:a∈co):beyE cr co a b=a:=by unfold beyE;rw [if_pos (.inl h)]
theorem beyE_other {cr:List E2} {co:List Int} {a b:Int} (h:(endsE cr a).length≠2):beyE cr co a b=a:=by unfold beyE;rw [if_pos (.inr h)]
theorem beyE_two {cr:List E2} {co:List Int} {a b x y:Int} (h:a ∉ co) (he:endsE cr a= [x,y]):beyE cr co a b=if x=b then y else x:=by
 unfold beyE
 rw [he,if_neg (by simp [h])]
 simp
set_option maxRecDepth 100000 in
set_option maxHeartbeats 16000000 in
theorem pbeyond_any {w:World} {B g:Nat} {Ap:Option Addr} {cp:Nat} {At:Option Addr} {ct mc mo m3 mn ms:Nat} {Ae:Option Addr} {ce:Nat} {L:Lev} {co:List Int} (h:FouM w B g Ap cp At ct mc mo m3 mn ms Ae ce L co) (a b:Int) (ha:fits a):
  Calls Tryz.prog 107 #[.pointer (some ⟨g,0,none⟩), .int .i64 a, .int .i64 b] w fun e w'=>e= .returned (.int .i64 (beyE L.cr co a b))∧w'=w:=by
 obtain ⟨l,A,c,hl,hlk,hs⟩:=h.sh.look h.lt.2.2.2.2.2 a ha
 have hl1:=hlk w (Below.refl _ w)
 obtain ⟨n,hco⟩:=h.co
 have hl2:=hco.lookup kfI9 (t:=84) (e:=4) Tryz.underlying84 (z:= .bool false) rfl a ha
 rw [setK4_get] at hl2
 obtain ⟨z0,z1,z2,z3,z4,z5,z6,z7⟩:=h.bx.eight
 have hgl:=h.bx.lt
 clear hlk hco h
 by_cases h1:a∈co
 ·rw [memB_on h1] at hl2
  have HR:=hide (beyE_corner (cr:=L.cr) (b:=b) h1)
  clear h1 hs hl
  go_enter Tryz.func107,Tryz.ntmps107
  go_wp2
  go_ret
  exact ⟨by rw [HR.out];rfl,rfl⟩
 ·rw [memB_off h1] at hl2
  by_cases h2:l.length=2
  ·obtain ⟨x,y,rfl⟩:∃x y,l= [x,y]:=by
    match l,h2 with
    | [x,y],_=>exact ⟨x,y,rfl⟩
   obtain ⟨bb,o,rfl,hbb,c0⟩:=hs.z1 (i:=0) (x:=x) rfl
   obtain ⟨bb2,o2,e,_,c1⟩:=hs.z1 (i:=1) (x:=y) rfl
   obtain ⟨rfl,rfl⟩:bb=bb2∧o=o2:=by cases e;exact ⟨rfl,rfl⟩
   have hR:=beyE_two (b:=b) h1 hl.symm
   have hbw:=World.block_lt_of_cell? w _ c0
   have hl1:(Instr.lookup 88 (.map (some ms)) (vi a) false).run Tryz.prog w= .ok (.slice (some ⟨bb,o,none⟩) 2 c) w:=hl1
   rw [Nat.add_zero] at c0
   clear e h1 h2 hs hl hbb
   by_cases h3:x=b
   ·rw [if_pos h3] at hR
    have HR:=hide hR
    clear hR
    go_enter Tryz.func107,Tryz.ntmps107
    go_wp2
    go_ret
    exact ⟨by rw [HR.out];rfl,rfl⟩
   ·rw [if_neg h3] at hR
    have HR:=hide hR
    clear hR
    go_enter Tryz.func107,Tryz.ntmps107
    go_wp2
    go_ret
    exact ⟨by rw [HR.out];rfl,rfl⟩
  ·have HR:=hide (beyE_other (co:=co) (b:=b) (show (endsE L.cr a).length≠2 by rw [←hl];exact h2))
   obtain ⟨k,hk⟩:∃k,k=l.length:=⟨_,rfl⟩
   rw [←hk] at hl1 h2
   have h2:¬(k:Int)=2:=by omega
   clear h1 hs hl hk
   go_enter Tryz.func107,Tryz.ntmps107
   go_wp2
   go_ret
   exact ⟨by rw [HR.out];rfl,rfl⟩
end Go.Proofs.YtmemofonebphfaaGreat
namespace Go.Proofs.YtmemofonebphfaaGreat
open Go.RowKit Go.Sort Go.WideMaps Go.Maps
theorem Sl.pt9 {w:World} {B:Nat} {A:Option Addr} {ps:List Pt} (h:Sl encP 3 w B A ps) {i:Nat} {p:Pt} (hi:ps[i]? =some p):
  ∃b o,A=some ⟨b,o,none⟩∧b < B∧w.cell? ⟨b,o+i*3,none⟩=some (.int .i64 p.1)∧w.cell? ⟨b,o+i*3+1,none⟩=some (.int .i64 p.2.1)∧w.cell? ⟨b,o+i*3+2,none⟩=some (.int .i64 p.2.2):=by
 obtain ⟨b,o,ha,hb,hc⟩:=h.at hi
 exact ⟨b,o,ha,hb,hc 0 _ rfl,hc 1 _ rfl,hc 2 _ rfl⟩
theorem grown_bel {w W:World} {r B:Nat} (h:w.grownBy W (some r)) (hr:B≤r) (hB:B≤w.heap.size):Below B w W:=
 ⟨h.os,h.tape,h.output,h.size,fun k hk=>h.block k (by omega) (fun e=>by cases e;omega)⟩
def addsP (p:List Pt) (k:Int) (ns:List Int) (s:Pt):Pt:=ns.foldl (fun s n=>plusP s (p.getD n.toNat (0,0,0)) k) s
theorem addsP_take {p:List Pt} {k:Int} {ns:List Int} {i:Nat} {n:Int} (h:ns[i]? =some n) (s:Pt):addsP p k (ns.take (i+1)) s=plusP (addsP p k (ns.take i) s) (p.getD n.toNat (0,0,0)) k:=by
 unfold addsP
 rw [List.take_add_one,h,Option.toList_some,List.foldl_append]
 rfl
abbrev cP9 (p:Pt):Array Value:=#[.int .i64 p.1, .int .i64 p.2.1, .int .i64 p.2.2]
def cZ9 (ns:List Int):Array Value:=(ns.map fun n=>Value.int .i64 n).toArray
section
variable {w:World} {B g:Nat} {Ap:Option Addr} {cp:Nat} {At:Option Addr} {ct mc mo m3 mn ms:Nat} {Ae:Option Addr} {ce:Nat} {L:Lev} {co:List Int}
set_option maxRecDepth 100000 in
set_option maxHeartbeats 16000000 in
theorem racross_any (h:FouM w B g Ap cp At ct mc mo m3 mn ms Ae ce L co) (hL:LvR L) (hpl:L.p.length≤1000000) (gl:Nat) (hgl:Blk w gl 78 #[.pointer (some ⟨g,0,none⟩)]) (a b:Int) (hd:(a,b)∈dirE L.t):
  Calls Tryz.prog 108 #[.int .i64 a, .int .i64 b, .pointer (some ⟨gl,0,none⟩)] w fun e w'=>e= .returned (.int .i64 (thirdE L.t a b))∧w'=w:=by
 obtain ⟨c3,h3⟩:=h.th
 have hr:=hL.rng hd
 have hfe:fits2 (a,b):=by constructor <;>unfold fits <;>omega
 have hlk:=h3.lookup kfA2 (t:=85) (e:=3) Tryz.underlying85 (z:= .int .i64 0) rfl (a,b) hfe
 rw [thL_third hL.cls.nodup hd] at hlk
 obtain ⟨v,hv⟩:∃v,v=thirdE L.t a b:=⟨_,rfl⟩
 have hlk2:(Instr.lookup 85 (.map (some m3)) (.agg #[.int .i64 a, .int .i64 b]) false).run Tryz.prog w= .ok (.int .i64 v) w:=by rw [hv];exact hlk
 have z4:w.cell? ⟨g,4,none⟩=some (.map (some m3)):=h.bx.cell 4
 have y0:w.cell? ⟨gl,0,none⟩=some (.pointer (some ⟨g,0,none⟩)):=hgl.cell 0
 have hgw:=h.bx.lt
 have hglw:=hgl.lt
 rw [←hv]
 clear hlk hv h3 hr hfe h hL hgl hd hpl
 go_enter Tryz.func108,Tryz.ntmps108
 go_wp2
 go_ret
 exact ⟨rfl,rfl⟩
set_option maxRecDepth 100000 in
set_option maxHeartbeats 32000000 in
theorem radd_any (h:FouM w B g Ap cp At ct mc mo m3 mn ms Ae ce L co) (hpl:L.p.length≤1000000) (gl gs ba c:Nat) (hgl:Blk w gl 78 #[.pointer (some ⟨g,0,none⟩)]) (s:Pt) (hgs:Blk w gs 43 (cP9 s)) (hBs:B≤gs) (k:Int) (ns:List Int) (hba:Blk w ba 3 (cZ9 ns)) (hns:ns.length≤8) (hr:∀n∈ns,0≤n∧n < (L.p.length:Int)):
  Calls Tryz.prog 106 #[.int .i64 k, .slice (some ⟨ba,0,none⟩) ns.length c, .pointer (some ⟨gs,0,none⟩), .pointer (some ⟨gl,0,none⟩)] w fun e w'=>e= .returned (.tuple #[])∧Blk w' gs 43 (cP9 (addsP L.p k ns s))∧w.grownBy w' (some gs):=by
 obtain ⟨N,hN⟩:∃n,n=ns.length:=⟨_,rfl⟩
 have hlen:N≤8:=by rw [hN];exact hns
 have hcell:∀(W:World),Blk W ba 3 (cZ9 ns)→∀(i:Nat) (n:Int),ns[i]? =some n→W.cell? ⟨ba,i,none⟩=some (.int .i64 n):=fun W hW i n hi=>by
  rw [hW.cell]
  unfold cZ9
  rw [List.getElem?_toArray,List.getElem?_map,hi]
  rfl
 rw [←hN]
 have hne:ba≠gs:=fun e=>by
  subst e
  have h1:w.heap[ba]? =some (.cells _ _ (0,0)):=hba
  have h2:w.heap[ba]? =some (.cells _ _ (0,0)):=hgs
  rw [h1] at h2
  exact absurd (by injection h2 with h2;injection h2) (show (3:TypeId)≠43 by decide)
 have hne2:gl≠gs:=fun e=>by
  subst e
  have h1:w.heap[gl]? =some (.cells _ _ (0,0)):=hgl
  have h2:w.heap[gl]? =some (.cells _ _ (0,0)):=hgs
  rw [h1] at h2
  exact absurd (by injection h2 with h2;injection h2) (show (78:TypeId)≠43 by decide)
 have HK:=hide (And.intro h (And.intro hgl (And.intro hba (And.intro hcell (And.intro hr (And.intro hN (And.intro hne hne2)))))))
 have HS0:=hide hgs
 have HBs:=hide hBs
 clear h hgl hgs hba hcell hr hN hne hne2 hns hBs
 go_enter Tryz.func106,Tryz.ntmps106
 go_upto_region 1 with fail
 go_loopw [10] (fun iv wr=>∃i:Nat,i≤N∧iv= .int .i64 i∧Blk wr gs 43 (cP9 (addsP L.p k (ns.take i) s))∧w.grownBy wr (some gs)) (fun iv _=>N - (intOf iv).toNat)
 case atStart=>exact ⟨0,by omega,rfl,HS0.out,⟨rfl,rfl,rfl,Nat.le_refl _,fun _ _ _=>rfl⟩⟩
 case round=>
  obtain ⟨i,hi,rfl,hS,hG⟩:=hrel
  obtain ⟨V,rfl⟩:∃x,x=wr:=⟨_,rfl⟩
  by_cases hlt:i < N
  ·have i1:(i:Int) < (N:Int):=by omega
   obtain ⟨n,hn⟩:∃n,ns[i]? =some n:=⟨_,List.getElem?_eq_getElem (by rw [←HK.out.2.2.2.2.2.1];exact hlt)⟩
   have hnr:=HK.out.2.2.2.2.1 n (List.mem_of_getElem? hn)
   obtain ⟨m,hm⟩:∃m:Nat,n=(m:Int):=⟨n.toNat,by omega⟩
   obtain ⟨q,hq⟩:∃q,L.p[m]? =some q:=⟨_,List.getElem?_eq_getElem (by omega)⟩
   have htk:=addsP_take (p:=L.p) (k:=k) hn s
   rw [hm] at htk
   have hgd:L.p.getD ((m:Int)).toNat (0,0,0)=q:=by rw [Int.toNat_natCast,List.getD_eq_getElem?_getD,hq];rfl
   rw [hgd] at htk
   have hbel:Below B w V:=grown_bel hG HBs.out HK.out.1.hB
   have hF:=HK.out.1.below hbel
   obtain ⟨bb,o,hA,hbb,p0,p1,p2⟩:=hF.p.pt9 hq
   subst hA
   have hba:=HK.out.2.2.1.grown hG (fun e=>HK.out.2.2.2.2.2.2.1 (Option.some.inj e))
   have hgl:=HK.out.2.1.grown hG (fun e=>HK.out.2.2.2.2.2.2.2 (Option.some.inj e))
   have c0:=HK.out.2.2.2.1 V hba i n hn
   rw [hm] at c0
   have hbaV:=hba.lt
   have y0:V.cell? ⟨gl,0,none⟩=some (.pointer (some ⟨g,0,none⟩)):=hgl.cell 0
   have hglV:=hgl.lt
   have z0:V.cell? ⟨g,0,none⟩=some (.slice (some ⟨bb,o,none⟩) L.p.length cp):=hF.bx.cell 0
   have hgV:=hF.bx.lt
   have hbbV:bb < V.heap.size:=Nat.lt_of_lt_of_le hbb hF.hB
   obtain ⟨np,hnp⟩:∃n,n=L.p.length:=⟨_,rfl⟩
   have hmn:(m:Int) < (np:Int):=by omega
   rw [←hnp] at z0
   obtain ⟨sx,hsx⟩:∃x,x=addsP L.p k (ns.take i) s:=⟨_,rfl⟩
   rw [←hsx] at htk hS
   obtain ⟨s1,s2,s3⟩:=sx
   obtain ⟨q1,q2,q3⟩:=q
   obtain ⟨x0,x1,x2⟩:=(show Blk V gs 43 #[.int .i64 s1, .int .i64 s2, .int .i64 s3] from hS).three
   have hgsV:=hS.lt
   have f0:=hS.frozen 0
   simp only at p0 p1 p2
   have HV:=hide (And.intro hS (And.intro hG htk))
   have HP:=hide (And.intro hnp hpl)
   clear hS hG htk hF hbel hnr hn hq hgd hba hgl hbb hsx hnp hpl
   clear hm
   go_upto_region 3 with fail
   go_still_tail 9,(by kernel_rfl)
   repeat still_step
   change wpList _ _ _ _ _ V.drew
   go_wp2_with fail
   refine (plus_any (s1,s2,s3) (q1,q2,q3) k V.drew).mono ?_
   rintro e W1 ⟨rfl,hB1⟩
   have hS1:=(show Blk V.drew gs 43 #[.int .i64 s1, .int .i64 s2, .int .i64 s3] from HV.out.1).below hB1 hgsV
   have hgs1:=hS1.lt
   obtain ⟨e0,e1,e2⟩:=hS1.three
   have f1:=hS1.frozen 0
   have f2:=hS1.frozen 1
   have f3:=hS1.frozen 2
   obtain ⟨r,hr⟩:∃r,r=plusP (s1,s2,s3) (q1,q2,q3) k:=⟨_,rfl⟩
   rw [←hr]
   obtain ⟨r1,r2,r3⟩:=r
   have H1:=hide (And.intro hS1 (And.intro hB1 hr))
   clear hS1 hB1 hr
   go_wp2
   go_roundw
   case rel=>
    refine ⟨i+1,by omega,by go_num,?_,?_⟩
    ·rw [HV.out.2.2,←H1.out.2.2]
     exact H1.out.1.set3 _ _ _
    ·have h1:V.grownBy W1 (some gs):=grown_bel9 (show Below V.heap.size V W1 from ⟨H1.out.2.1.os,H1.out.2.1.tape,H1.out.2.1.output,H1.out.2.1.size,H1.out.2.1.block⟩) _
     exact (HV.out.2.1.trans h1).trans (((grown_set9 W1 gs 0 _).trans (grown_set9 _ gs 1 _)).trans (grown_set9 _ gs 2 _))
   case measure=>(simp [intOf];try omega)
  ·obtain rfl:i=N:=by omega
   have i1:¬(i:Int) < (i:Int):=by omega
   rw [List.take_of_length_le (by rw [←HK.out.2.2.2.2.2.1];exact Nat.le_refl _)] at hS
   have HV:=hide (And.intro hS hG)
   clear hS hG
   go_wp2
   go_end0
   exact ⟨rfl,HV.out.1,HV.out.2⟩
end
end Go.Proofs.YtmemofonebphfaaGreat
namespace Go.Proofs.YtmemofonebphfaaGreat
open Go.RowKit Go.Sort Go.WideMaps Go.Maps
theorem plusP_wrap (s q:Pt) (k:Int):plusP (wrapP s) q k=wrapP (s.1+k*q.1,s.2.1+k*q.2.1,s.2.2+k*q.2.2):=by
 simp only [plusP,wrapP,wrap64_add_l]
theorem fold_wsum (p:List Pt):∀(ws:List (Int × Int)) (s:Pt),ws.foldl (fun s x=>plusP s (p.getD x.2.toNat (0,0,0)) x.1) (wrapP s)=wrapP (s.1+(wsum p ws).1,s.2.1+(wsum p ws).2.1,s.2.2+(wsum p ws).2.2)
 | [],s=>by simp [wsum]
 | (k,i)::ws,s=>by
  rw [List.foldl_cons,plusP_wrap,fold_wsum p ws]
  simp only [wsum,Int.add_assoc]
theorem wrap0:wrapP (0,0,0)=(0,0,0):=by simp [wrapP,wrap64]
theorem wsum_fold (p:List Pt) (ws:List (Int × Int)):ws.foldl (fun s x=>plusP s (p.getD x.2.toNat (0,0,0)) x.1) (0,0,0)=wrapP (wsum p ws):=by
 have h:=fold_wsum p ws (0,0,0)
 rw [wrap0] at h
 rw [h]
 simp
def divP (s:Pt):Pt:=(s.1.tdiv 16,s.2.1.tdiv 16,s.2.2.tdiv 16)
theorem rule_crease {L:Lev} {co:List Int} {a b:Int} (hc:(a,b)∈L.cr) (hlt:a < b):∃u,addsP L.p (-1) [beyE L.cr co a b,beyE L.cr co b a] (addsP L.p 9 [a,b] (0,0,0))=wrapP u∧divP (wrapP u)=ruleE L.p L.t L.cr co a b:=by
 unfold ruleE
 have hw:wsE L.t L.cr co a b= [(9,a),(9,b),(-1,beyE L.cr co a b),(-1,beyE L.cr co b a)]:=by unfold wsE;rw [if_pos (by rw [nrmE_up hlt];exact hc)]
 rw [hw]
 exact ⟨_,wsum_fold L.p [(9,a),(9,b),(-1,beyE L.cr co a b),(-1,beyE L.cr co b a)],rfl⟩
theorem rule_plain {L:Lev} {co:List Int} {a b c d:Int} (hc:(a,b) ∉ L.cr) (hlt:a < b) (h1:c=thirdE L.t a b) (h2:d=thirdE L.t b a):
  ∃u,addsP L.p (-1) [thirdE L.t c b,thirdE L.t a c,thirdE L.t d a,thirdE L.t b d] (addsP L.p 2 [c,d] (addsP L.p 8 [a,b] (0,0,0)))=wrapP u∧divP (wrapP u)=ruleE L.p L.t L.cr co a b:=by
 subst h1 h2
 unfold ruleE
 have hw:wsE L.t L.cr co a b= [(8,a),(8,b),(2,thirdE L.t a b),(2,thirdE L.t b a),(-1,thirdE L.t (thirdE L.t a b) b),(-1,thirdE L.t a (thirdE L.t a b)),(-1,thirdE L.t (thirdE L.t b a) a),(-1,thirdE L.t b (thirdE L.t b a))]:=by
  unfold wsE;rw [if_neg (by rw [nrmE_up hlt];exact hc)]
 rw [hw]
 exact ⟨_,wsum_fold L.p [(8,a),(8,b),(2,thirdE L.t a b),(2,thirdE L.t b a),(-1,thirdE L.t (thirdE L.t a b) b),(-1,thirdE L.t a (thirdE L.t a b)),(-1,thirdE L.t (thirdE L.t b a) a),(-1,thirdE L.t b (thirdE L.t b a))],rfl⟩
structure RulP (w W:World) (gl ge gr gs g:Nat) (a b:Int) (s:Pt):Prop where
 bel:Below w.heap.size w W
 bl:Blk W gl 78 #[.pointer (some ⟨g,0,none⟩)]
 be:Blk W ge 115 #[.int .i64 a, .int .i64 b]
 br:Blk W gr 43 #[.int .i64 0, .int .i64 0, .int .i64 0]
 bs:Blk W gs 43 (cP9 s)
 hs:w.heap.size≤gs
 ne:gl≠gs∧ge≠gs∧gr≠gs
section
variable {w W W':World} {gl ge gr gs g:Nat} {a b:Int} {s s':Pt}
theorem RulP.below (h:RulP w W gl ge gr gs g a b s) (hB:Below W.heap.size W W'):RulP w W' gl ge gr gs g a b s:=
 ⟨h.bel.trans (hB.mono h.bel.size),h.bl.below hB h.bl.lt,h.be.below hB h.be.lt,h.br.below hB h.br.lt,h.bs.below hB h.bs.lt,h.hs,h.ne⟩
theorem RulP.add (h:RulP w W gl ge gr gs g a b s) (hg:W.grownBy W' (some gs)) (hb:Blk W' gs 43 (cP9 s')):RulP w W' gl ge gr gs g a b s':=
 ⟨h.bel.trans (grown_bel hg h.hs h.bel.size),h.bl.grown hg (fun e=>h.ne.1 (Option.some.inj e)),h.be.grown hg (fun e=>h.ne.2.1 (Option.some.inj e)),h.br.grown hg (fun e=>h.ne.2.2 (Option.some.inj e)),hb,h.hs,h.ne⟩
end
set_option maxRecDepth 100000 in
set_option maxHeartbeats 64000000 in
theorem prule_any {w:World} {B g:Nat} {Ap:Option Addr} {cp:Nat} {At:Option Addr} {ct mc mo m3 mn ms:Nat} {Ae:Option Addr} {ce:Nat} {L:Lev} {co:List Int} (h:FouM w B g Ap cp At ct mc mo m3 mn ms Ae ce L co) (hL:LvR L) (hpl:L.p.length≤1000000) (a b:Int) (hab:(a,b)∈edgesE L.t):
  Calls Tryz.prog 78 #[.pointer (some ⟨g,0,none⟩), .agg #[.int .i64 a, .int .i64 b]] w fun e w'=>e= .returned (vP (ruleE L.p L.t L.cr co a b))∧Below w.heap.size w w':=by
 obtain ⟨hd,hlt⟩:=mem_edgesE.1 hab
 have hlt:a < b:=hlt
 have hdb:(b,a)∈dirE L.t:=hL.cls.clos _ hd
 have hra:=hL.rng hd
 have hN2:∀n∈ [a,b],0≤n∧n < (L.p.length:Int):=fun n hn=>by
  simp only [List.mem_cons,List.not_mem_nil,or_false] at hn
  rcases hn with rfl | rfl <;>omega
 have hfe:fits2 (a,b):=by constructor <;>unfold fits <;>omega
 have HF:=hide h
 have HBl:=hide h.hB
 clear h
 go_enter Tryz.func78,Tryz.ntmps78
 have HN2:=hide hN2
 have HD:=hide (And.intro hd (And.intro hdb (And.intro hra (And.intro hfe (And.intro hlt hL)))))
 clear hd hdb hra hfe hlt hL hab hN2
 go_upto_region 3 with fail
 obtain ⟨X,hX⟩:∃W,W=(((w.alloc (.cells #[.pointer (some ⟨g,0,none⟩)] 78)).alloc (.cells #[.int .i64 a, .int .i64 b] 115)).alloc (.cells #[.int .i64 0, .int .i64 0, .int .i64 0] 43)).alloc (.cells #[.int .i64 0, .int .i64 0, .int .i64 0] 43):=⟨_,rfl⟩
 rw [←hX]
 obtain ⟨gl,hgl⟩:∃n,n=w.heap.size:=⟨_,rfl⟩
 obtain ⟨ge,hge⟩:∃n,n=w.heap.size+1:=⟨_,rfl⟩
 obtain ⟨gr,hgr⟩:∃n,n=w.heap.size+1+1:=⟨_,rfl⟩
 obtain ⟨gs,hgs⟩:∃n,n=w.heap.size+1+1+1:=⟨_,rfl⟩
 have hR0:RulP w X gl ge gr gs g a b (0,0,0):=by
  have b1:=Blk.new w 78 #[.pointer (some ⟨g,0,none⟩)]
  have b2:=Blk.new (w.alloc (.cells #[.pointer (some ⟨g,0,none⟩)] 78)) 115 #[.int .i64 a, .int .i64 b]
  have b3:=Blk.new ((w.alloc (.cells #[.pointer (some ⟨g,0,none⟩)] 78)).alloc (.cells #[.int .i64 a, .int .i64 b] 115)) 43 #[.int .i64 0, .int .i64 0, .int .i64 0]
  have b4:=Blk.new (((w.alloc (.cells #[.pointer (some ⟨g,0,none⟩)] 78)).alloc (.cells #[.int .i64 a, .int .i64 b] 115)).alloc (.cells #[.int .i64 0, .int .i64 0, .int .i64 0] 43)) 43 #[.int .i64 0, .int .i64 0, .int .i64 0]
  simp only [World.size_alloc] at b2 b3 b4
  rw [hX,hgl,hge,hgr,hgs]
  exact ⟨((((Below.refl _ w).alloc (Nat.le_refl _) _).alloc (by simp) _).alloc (by simp;omega) _).alloc (by simp;omega) _,((b1.alloc _).alloc _).alloc _,(b2.alloc _).alloc _,b3.alloc _,b4,by omega,by omega,by omega,by omega⟩
 rw [←hgs,←hgr,←hge,←hgl]
 have HBs:=hide (show B≤gs from by have:=HBl.out;omega)
 have HR0:=hide hR0
 have HGR:=hide (show w.heap.size≤gr by omega)
 clear hR0 hX hgl hge hgr hgs
 have HLK:=hide (show∀W,RulP w W gl ge gr gs g a b (0,0,0)→W.cell? ⟨g,2,none⟩=some (.map (some mc))∧(Instr.lookup 83 (.map (some mc)) (.agg #[.int .i64 a, .int .i64 b]) false).run Tryz.prog W= .ok (.bool (memB L.cr (a,b))) W from fun W hW=>by
  have hF:=HF.out.below (hW.bel.mono HF.out.hB)
  obtain ⟨n,hc⟩:=hF.cr
  refine ⟨hF.bx.cell 2,?_⟩
  have h:=hc.lookup kfSE (t:=83) (e:=4) Tryz.underlying83 (z:= .bool false) rfl (a,b) HD.out.2.2.2.1
  rw [setK4_get] at h
  exact h)
 have HSB:=hide (show RulP w X.drew gl ge gr gs g a b (0,0,0) from HR0.out.below (Below.refl _ X).drew)
 refine wp_region_mix (fun W=>RulP w W gl ge gr gs g a b (0,0,0)) [0,1,2,3,4,5] [0,1,2,3,4,5] mixed_ok (by kernel_rfl) ?_
 refine wpMix_q (v:=(.pointer (some ⟨g,0,none⟩))) rfl rfl (fun _ _ _ h=>h) HSB.out ⟨rfl,fun _ h'=>by have a0:=h'.bl.cell 0;simp only [List.getElem?_toArray,List.getElem?_cons_zero] at a0;simp [go_sem,a0]⟩ ?_
 refine wpMix_q (v:=(.pointer (some ⟨g,0,none⟩))) rfl rfl (fun _ _ _ h=>h) HSB.out ⟨rfl,fun _ _=>by simp [go_sem]⟩ ?_
 refine wpMix_q (v:=(.pointer (some ⟨g,2,none⟩))) rfl rfl (fun _ _ _ h=>h) HSB.out ⟨rfl,fun _ _=>by simp [go_sem]⟩ ?_
 refine wpMix_q (v:=(.map (some mc))) rfl rfl (fun _ _ _ h=>h) HSB.out ⟨rfl,fun _ h'=>by have a0:=(HLK.out _ h').1;simp [go_sem,a0]⟩ ?_
 refine wpMix_q (v:=(.agg #[.int .i64 a, .int .i64 b])) rfl rfl (fun _ _ _ h=>h) HSB.out ⟨rfl,fun _ h'=>by have a0:=h'.be.cell 0;have a1:=h'.be.cell 1;simp only [List.getElem?_toArray,List.getElem?_cons_zero,List.getElem?_cons_succ] at a0 a1;simp [go_sem,a0,a1]⟩ ?_
 refine wpMix_q (v:=(.bool (memB L.cr (a,b)))) rfl rfl (fun _ _ _ h=>h) HSB.out ⟨rfl,fun _ h'=>by have a0:=(HLK.out _ h').2;simp [go_sem,a0]⟩ ?_
 simp only [List.getElem_toArray,List.getElem_cons_succ,List.getElem_cons_zero,Act.put,List.setIfInBounds_toArray,List.set_cons_succ,List.set_cons_zero]
 refine wpMix_nil ?_
 obtain ⟨Y,hY⟩:∃W,W=X.drew:=⟨_,rfl⟩
 rw [←hY]
 have HY0:=hide (show RulP w Y gl ge gr gs g a b (0,0,0) from by rw [hY];exact HSB.out)
 clear HSB HR0 HLK hY
 have e0:Y.cell? ⟨ge,0,none⟩=some (.int .i64 a):=HY0.out.be.cell 0
 have e1:Y.cell? ⟨ge,1,none⟩=some (.int .i64 b):=HY0.out.be.cell 1
 have hgeY:=HY0.out.be.lt
 obtain ⟨s1,hs1⟩:∃s,s=addsP L.p 9 [a,b] (0,0,0):=⟨_,rfl⟩
 obtain ⟨s2,hs2⟩:∃s,s=addsP L.p 8 [a,b] (0,0,0):=⟨_,rfl⟩
 by_cases hc:(a,b)∈L.cr
 ·rw [memB_on hc]
  obtain ⟨x,hx⟩:∃x,x=beyE L.cr co a b:=⟨_,rfl⟩
  obtain ⟨y,hy⟩:∃x,x=beyE L.cr co b a:=⟨_,rfl⟩
  have hxr:=HD.out.2.2.2.2.2.bey co (b:=b) HD.out.2.2.1.1
  have hyr:=HD.out.2.2.2.2.2.bey co (b:=a) HD.out.2.2.1.2
  rw [←hx] at hxr
  rw [←hy] at hyr
  have HNx:=hide (show∀n∈ [x,y],0≤n∧n < (L.p.length:Int) from fun n hn=>by
   simp only [List.mem_cons,List.not_mem_nil,or_false] at hn
   rcases hn with rfl | rfl <;>omega)
  have HE:=hide (show∃u,addsP L.p (-1) [x,y] s1=wrapP u∧divP (wrapP u)=ruleE L.p L.t L.cr co a b from by rw [hx,hy,hs1];exact rule_crease hc HD.out.2.2.2.2.1)
  have HB1:=hide (show∀W,FouM W B g Ap cp At ct mc mo m3 mn ms Ae ce L co→Calls Tryz.prog 107 #[.pointer (some ⟨g,0,none⟩), .int .i64 a, .int .i64 b] W fun e w'=>e= .returned (.int .i64 x)∧w'=W from fun W hW=>by
   rw [hx];exact pbeyond_any hW a b HD.out.2.2.2.1.1)
  have HB2:=hide (show∀W,FouM W B g Ap cp At ct mc mo m3 mn ms Ae ce L co→Calls Tryz.prog 107 #[.pointer (some ⟨g,0,none⟩), .int .i64 b, .int .i64 a] W fun e w'=>e= .returned (.int .i64 y)∧w'=W from fun W hW=>by
   rw [hy];exact pbeyond_any hW b a HD.out.2.2.2.1.2)
  clear hc hx hy hxr hyr hs2 s2
  go_upto_region 5 with (go_at_call 106;have HY:=hide (HY0.out.below ((Below.refl _ Y).alloc (Nat.le_refl _) (.cells #[.int .i64 a, .int .i64 b] 3)));refine (radd_any (HF.out.below (HY.out.bel.mono HF.out.hB)) hpl gl gs Y.heap.size _ HY.out.bl (0,0,0) HY.out.bs HBs.out (9) [a,b] (show Blk _ _ _ (cZ9 [a,b]) from Blk.new _ _ _) (by simp) HN2.out).mono ?_;rintro e W1 ⟨rfl,hb,hg⟩;have H1:=hide (HY.out.add hg hb);clear hb hg HY)
  rw [←hs1] at H1
  clear hs1 e0 e1 hgeY HY0
  have HSB:=hide (show RulP w W1.drew gl ge gr gs g a b s1 from H1.out.below (Below.refl _ W1).drew)
  refine wp_region_mix (fun W=>RulP w W gl ge gr gs g a b s1) [0,1,2,3,4,5,7,8,9,10,11] [0,1,2,3,4,5,7,8,9,10,11,6,12,13,14] mixed_ok (by kernel_rfl) ?_
  refine wpMix_q (v:=(.func (.func 106) #[] #[.pointer (some ⟨gs,0,none⟩), .pointer (some ⟨gl,0,none⟩)])) rfl rfl (fun _ _ _ h=>h) HSB.out ⟨rfl,fun _ _=>by simp [go_sem]⟩ ?_
  refine wpMix_q (v:=(.pointer (some ⟨g,0,none⟩))) rfl rfl (fun _ _ _ h=>h) HSB.out ⟨rfl,fun _ h'=>by have a0:=h'.bl.cell 0;simp only [List.getElem?_toArray,List.getElem?_cons_zero] at a0;simp [go_sem,a0]⟩ ?_
  refine wpMix_q (v:=(.pointer (some ⟨ge,0,none⟩))) rfl rfl (fun _ _ _ h=>h) HSB.out ⟨rfl,fun _ _=>by simp [go_sem]⟩ ?_
  refine wpMix_q (v:=(.int .i64 a)) rfl rfl (fun _ _ _ h=>h) HSB.out ⟨rfl,fun _ h'=>by have a0:=h'.be.cell 0;simp only [List.getElem?_toArray,List.getElem?_cons_zero] at a0;simp [go_sem,a0]⟩ ?_
  refine wpMix_q (v:=(.pointer (some ⟨ge,1,none⟩))) rfl rfl (fun _ _ _ h=>h) HSB.out ⟨rfl,fun _ _=>by simp [go_sem]⟩ ?_
  refine wpMix_q (v:=(.int .i64 b)) rfl rfl (fun _ _ _ h=>h) HSB.out ⟨rfl,fun _ h'=>by have a0:=h'.be.cell 1;simp only [List.getElem?_toArray,List.getElem?_cons_zero,List.getElem?_cons_succ] at a0;simp [go_sem,a0]⟩ ?_
  simp only [List.getElem_toArray,List.getElem_cons_succ,List.getElem_cons_zero,Act.put,List.setIfInBounds_toArray,List.set_cons_succ,List.set_cons_zero]
  refine wpMix_q (v:=(.pointer (some ⟨g,0,none⟩))) rfl rfl (fun _ _ _ h=>h) HSB.out ⟨rfl,fun _ h'=>by have a0:=h'.bl.cell 0;simp only [List.getElem?_toArray,List.getElem?_cons_zero] at a0;simp [go_sem,a0]⟩ ?_
  refine wpMix_q (v:=(.pointer (some ⟨ge,1,none⟩))) rfl rfl (fun _ _ _ h=>h) HSB.out ⟨rfl,fun _ _=>by simp [go_sem]⟩ ?_
  refine wpMix_q (v:=(.int .i64 b)) rfl rfl (fun _ _ _ h=>h) HSB.out ⟨rfl,fun _ h'=>by have a0:=h'.be.cell 1;simp only [List.getElem?_toArray,List.getElem?_cons_zero,List.getElem?_cons_succ] at a0;simp [go_sem,a0]⟩ ?_
  refine wpMix_q (v:=(.pointer (some ⟨ge,0,none⟩))) rfl rfl (fun _ _ _ h=>h) HSB.out ⟨rfl,fun _ _=>by simp [go_sem]⟩ ?_
  refine wpMix_q (v:=(.int .i64 a)) rfl rfl (fun _ _ _ h=>h) HSB.out ⟨rfl,fun _ h'=>by have a0:=h'.be.cell 0;simp only [List.getElem?_toArray,List.getElem?_cons_zero] at a0;simp [go_sem,a0]⟩ ?_
  simp only [List.getElem_toArray,List.getElem_cons_succ,List.getElem_cons_zero,Act.put,List.setIfInBounds_toArray,List.set_cons_succ,List.set_cons_zero]
  refine wpMix_n rfl rfl ?_
  go_wp2_with fail
  refine (HB1.out W1.drew (HF.out.below (HSB.out.bel.mono HF.out.hB))).mono ?_
  rintro e w2 ⟨rfl,rfl⟩
  go_wp2_with fail
  refine ⟨fun _=>HSB.out,?_⟩
  refine wpMix_n rfl rfl ?_
  go_wp2_with fail
  refine (HB2.out W1.drew (HF.out.below (HSB.out.bel.mono HF.out.hB))).mono ?_
  rintro e w2 ⟨rfl,rfl⟩
  go_wp2_with fail
  refine ⟨fun _=>HSB.out,?_⟩
  refine wpMix_n rfl rfl ?_
  go_wp2_with fail
  refine ⟨fun _=>HSB.out.below ((Below.refl _ W1.drew).alloc (Nat.le_refl _) _),?_⟩
  refine wpMix_tail _ [_] (by kernel_rfl) rfl ?_
  go_wp2_with fail
  have HY:=hide (HSB.out.below ((Below.refl _ W1.drew).alloc (Nat.le_refl _) (.cells #[.int .i64 x, .int .i64 y] 3)))
  refine (radd_any (HF.out.below (HY.out.bel.mono HF.out.hB)) hpl gl gs W1.drew.heap.size _ HY.out.bl s1 HY.out.bs HBs.out (-1) [x,y] (show Blk _ _ _ (cZ9 [x,y]) from Blk.new _ _ _) (by simp) HNx.out).mono ?_
  rintro e W9 ⟨rfl,hb,hg⟩
  have H9:=hide (HY.out.add hg hb)
  clear hb hg HY
  obtain ⟨u,hu,hdv⟩:=HE.out
  rw [hu] at H9
  obtain ⟨z1,hz1⟩:∃z,z=wrap64 u.1:=⟨_,rfl⟩
  obtain ⟨z2,hz2⟩:∃z,z=wrap64 u.2.1:=⟨_,rfl⟩
  obtain ⟨z3,hz3⟩:∃z,z=wrap64 u.2.2:=⟨_,rfl⟩
  have hwu:wrapP u=(z1,z2,z3):=by rw [hz1,hz2,hz3];rfl
  have t1:wrap64 (z1.tdiv 16)=z1.tdiv 16:=by rw [hz1];exact tdiv16_wrap _
  have t2:wrap64 (z2.tdiv 16)=z2.tdiv 16:=by rw [hz2];exact tdiv16_wrap _
  have t3:wrap64 (z3.tdiv 16)=z3.tdiv 16:=by rw [hz3];exact tdiv16_wrap _
  rw [hwu] at H9 hdv
  have c0:W9.cell? ⟨gs,0,none⟩=some (.int .i64 z1):=H9.out.bs.cell 0
  have c1:W9.cell? ⟨gs,1,none⟩=some (.int .i64 z2):=H9.out.bs.cell 1
  have c2:W9.cell? ⟨gs,2,none⟩=some (.int .i64 z3):=H9.out.bs.cell 2
  have hgsW:=H9.out.bs.lt
  obtain ⟨r0,r1,r2⟩:=H9.out.br.three
  have hgrW:=H9.out.br.lt
  have f0:=H9.out.br.frozen 0
  have f1:=H9.out.br.frozen 1
  have f2:=H9.out.br.frozen 2
  have HQ:=hide (And.intro (show (z1.tdiv 16,z2.tdiv 16,z3.tdiv 16)=ruleE L.p L.t L.cr co a b from hdv) (And.intro H9.out.bel H9.out.br))
  clear H9 HE hu hdv hz1 hz2 hz3 hwu
  go_wp2
  refine ret_at (v:=vP (z1.tdiv 16,z2.tdiv 16,z3.tdiv 16)) (fun W=>Blk W gr 43 #[.int .i64 (z1.tdiv 16), .int .i64 (z2.tdiv 16), .int .i64 (z3.tdiv 16)]) ?_ (fun W hW=> ?_) rfl ⟨by rw [←HQ.out.1],?_⟩
  ·exact HQ.out.2.2.set3 _ _ _
  ·obtain ⟨a0,a1,a2⟩:=hW.three
   simp [results,Tryz.results78,go_sem,a0,a1,a2]
   try trivial
  ·exact ((HQ.out.2.1.setCell (p:=⟨gr,0,none⟩) HGR.out _).setCell (p:=⟨gr,1,none⟩) HGR.out _).setCell (p:=⟨gr,2,none⟩) HGR.out _
 ·rw [memB_off hc]
  obtain ⟨c,hcc⟩:∃x,x=thirdE L.t a b:=⟨_,rfl⟩
  obtain ⟨d,hdd⟩:∃x,x=thirdE L.t b a:=⟨_,rfl⟩
  have h1:=HD.out.2.2.2.2.2.thr HD.out.1
  have h2:=HD.out.2.2.2.2.2.thr HD.out.2.1
  have hE:=rule_plain (co:=co) hc HD.out.2.2.2.2.1 hcc hdd
  have kx:=fun (u v:Int) (huv:(u,v)∈dirE L.t) (W:World) (s:Pt) (hW:RulP w W gl ge gr gs g a b s)=>racross_any (HF.out.below (hW.bel.mono HF.out.hB)) HD.out.2.2.2.2.2 hpl gl hW.bl u v huv
  have k1:=kx a b HD.out.1
  have k2:=kx b a HD.out.2.1
  rw [←hcc] at k1 h1
  rw [←hdd] at k2 h2
  have k3:=kx c b h1.2.2.1
  have k4:=kx a c h1.2.2.2
  have k5:=kx d a h2.2.2.1
  have k6:=kx b d h2.2.2.2
  have hr1:=HD.out.2.2.2.2.2.rng h1.1
  have hr2:=HD.out.2.2.2.2.2.rng h2.1
  have r3:=HD.out.2.2.2.2.2.rng (HD.out.2.2.2.2.2.thr h1.2.2.1).1
  have r4:=HD.out.2.2.2.2.2.rng (HD.out.2.2.2.2.2.thr h1.2.2.2).1
  have r5:=HD.out.2.2.2.2.2.rng (HD.out.2.2.2.2.2.thr h2.2.2.1).1
  have r6:=HD.out.2.2.2.2.2.rng (HD.out.2.2.2.2.2.thr h2.2.2.2).1
  obtain ⟨x3,hx3⟩:∃x,x=thirdE L.t c b:=⟨_,rfl⟩
  obtain ⟨x4,hx4⟩:∃x,x=thirdE L.t a c:=⟨_,rfl⟩
  obtain ⟨x5,hx5⟩:∃x,x=thirdE L.t d a:=⟨_,rfl⟩
  obtain ⟨x6,hx6⟩:∃x,x=thirdE L.t b d:=⟨_,rfl⟩
  rw [←hx3] at k3 r3 hE
  rw [←hx4] at k4 r4 hE
  rw [←hx5] at k5 r5 hE
  rw [←hx6] at k6 r6 hE
  rw [←hs2] at hE
  obtain ⟨s3,hs3⟩:∃s,s=addsP L.p 2 [c,d] s2:=⟨_,rfl⟩
  rw [←hs3] at hE
  have HE:=hide hE
  have HNc:=hide (show∀n∈ [c,d],0≤n∧n < (L.p.length:Int) from fun n hn=>by
   simp only [List.mem_cons,List.not_mem_nil,or_false] at hn
   rcases hn with rfl | rfl <;>omega)
  have HNx:=hide (show∀n∈ [x3,x4,x5,x6],0≤n∧n < (L.p.length:Int) from fun n hn=>by
   simp only [List.mem_cons,List.not_mem_nil,or_false] at hn
   rcases hn with rfl | rfl | rfl | rfl <;>omega)
  have HK:=hide (And.intro k1 (And.intro k2 (And.intro k3 (And.intro k4 (And.intro k5 k6)))))
  clear hE k1 k2 k3 k4 k5 k6 kx h1 h2 hr1 hr2 r3 r4 r5 r6 hcc hdd hx3 hx4 hx5 hx6 hc hs1 s1 e0 e1 hgeY
  go_upto_region 7 with fail
  have HSB:=hide (show RulP w Y.drew gl ge gr gs g a b (0,0,0) from HY0.out.below (Below.refl _ Y).drew)
  refine wp_region_mix (fun W=>RulP w W gl ge gr gs g a b (0,0,0)) [0,1,2,3,4,6,7,8,9,10] [0,1,2,3,4,6,7,8,9,10,5,11,12,13] mixed_ok (by kernel_rfl) ?_
  refine wpMix_q (v:=(.func (.func 108) #[] #[.pointer (some ⟨gl,0,none⟩)])) rfl rfl (fun _ _ _ h=>h) HSB.out ⟨rfl,fun _ _=>by simp [go_sem]⟩ ?_
  refine wpMix_q (v:=(.pointer (some ⟨ge,0,none⟩))) rfl rfl (fun _ _ _ h=>h) HSB.out ⟨rfl,fun _ _=>by simp [go_sem]⟩ ?_
  refine wpMix_q (v:=(.int .i64 a)) rfl rfl (fun _ _ _ h=>h) HSB.out ⟨rfl,fun _ h'=>by have a0:=h'.be.cell 0;simp only [List.getElem?_toArray,List.getElem?_cons_zero] at a0;simp [go_sem,a0]⟩ ?_
  refine wpMix_q (v:=(.pointer (some ⟨ge,1,none⟩))) rfl rfl (fun _ _ _ h=>h) HSB.out ⟨rfl,fun _ _=>by simp [go_sem]⟩ ?_
  refine wpMix_q (v:=(.int .i64 b)) rfl rfl (fun _ _ _ h=>h) HSB.out ⟨rfl,fun _ h'=>by have a0:=h'.be.cell 1;simp only [List.getElem?_toArray,List.getElem?_cons_zero,List.getElem?_cons_succ] at a0;simp [go_sem,a0]⟩ ?_
  refine wpMix_q (v:=(.func (.func 108) #[] #[.pointer (some ⟨gl,0,none⟩)])) rfl rfl (fun _ _ _ h=>h) HSB.out ⟨rfl,fun _ _=>by simp [go_sem]⟩ ?_
  simp only [List.getElem_toArray,List.getElem_cons_succ,List.getElem_cons_zero,Act.put,List.setIfInBounds_toArray,List.set_cons_succ,List.set_cons_zero]
  refine wpMix_q (v:=(.pointer (some ⟨ge,1,none⟩))) rfl rfl (fun _ _ _ h=>h) HSB.out ⟨rfl,fun _ _=>by simp [go_sem]⟩ ?_
  refine wpMix_q (v:=(.int .i64 b)) rfl rfl (fun _ _ _ h=>h) HSB.out ⟨rfl,fun _ h'=>by have a0:=h'.be.cell 1;simp only [List.getElem?_toArray,List.getElem?_cons_zero,List.getElem?_cons_succ] at a0;simp [go_sem,a0]⟩ ?_
  refine wpMix_q (v:=(.pointer (some ⟨ge,0,none⟩))) rfl rfl (fun _ _ _ h=>h) HSB.out ⟨rfl,fun _ _=>by simp [go_sem]⟩ ?_
  refine wpMix_q (v:=(.int .i64 a)) rfl rfl (fun _ _ _ h=>h) HSB.out ⟨rfl,fun _ h'=>by have a0:=h'.be.cell 0;simp only [List.getElem?_toArray,List.getElem?_cons_zero] at a0;simp [go_sem,a0]⟩ ?_
  simp only [List.getElem_toArray,List.getElem_cons_succ,List.getElem_cons_zero,Act.put,List.setIfInBounds_toArray,List.set_cons_succ,List.set_cons_zero]
  refine wpMix_n rfl rfl ?_
  go_wp2_with fail
  refine (HK.out.1 Y.drew _ HSB.out).mono ?_
  rintro e w2 ⟨rfl,rfl⟩
  go_wp2_with fail
  refine ⟨fun _=>HSB.out,?_⟩
  refine wpMix_n rfl rfl ?_
  go_wp2_with fail
  refine (HK.out.2.1 Y.drew _ HSB.out).mono ?_
  rintro e w2 ⟨rfl,rfl⟩
  go_wp2_with fail
  refine ⟨fun _=>HSB.out,?_⟩
  refine wpMix_tail _ [_,_] (by kernel_rfl) rfl ?_
  go_upto_region 8 with fail
  obtain ⟨Z,hZ⟩:∃W,W=Y.drew:=⟨_,rfl⟩
  rw [←hZ]
  have HZ0:=hide (show RulP w Z gl ge gr gs g a b (0,0,0) from by rw [hZ];exact HSB.out)
  clear HSB HY0 hZ
  have e0:Z.cell? ⟨ge,0,none⟩=some (.int .i64 a):=HZ0.out.be.cell 0
  have e1:Z.cell? ⟨ge,1,none⟩=some (.int .i64 b):=HZ0.out.be.cell 1
  have hgeZ:=HZ0.out.be.lt
  go_upto_region 9 with (go_at_call 106;have HY:=hide (HZ0.out.below ((Below.refl _ Z).alloc (Nat.le_refl _) (.cells #[.int .i64 a, .int .i64 b] 3)));refine (radd_any (HF.out.below (HY.out.bel.mono HF.out.hB)) hpl gl gs Z.heap.size _ HY.out.bl (0,0,0) HY.out.bs HBs.out (8) [a,b] (show Blk _ _ _ (cZ9 [a,b]) from Blk.new _ _ _) (by simp) HN2.out).mono ?_;rintro e W1 ⟨rfl,hb,hg⟩;have H1:=hide (HY.out.add hg hb);clear hb hg HY)
  rw [←hs2] at H1
  clear e0 e1 hgeZ HZ0
  go_upto_region 10 with (go_at_call 106;have HY:=hide (H1.out.below ((Below.refl _ W1).alloc (Nat.le_refl _) (.cells #[.int .i64 c, .int .i64 d] 3)));refine (radd_any (HF.out.below (HY.out.bel.mono HF.out.hB)) hpl gl gs W1.heap.size _ HY.out.bl s2 HY.out.bs HBs.out (2) [c,d] (show Blk _ _ _ (cZ9 [c,d]) from Blk.new _ _ _) (by simp) HNc.out).mono ?_;rintro e W2 ⟨rfl,hb,hg⟩;have H2:=hide (HY.out.add hg hb);clear hb hg HY)
  rw [←hs3] at H2
  clear hs2 hs3 H1
  have HSB:=hide (show RulP w W2.drew gl ge gr gs g a b s3 from H2.out.below (Below.refl _ W2).drew)
  refine wp_region_mix (fun W=>RulP w W gl ge gr gs g a b s3) [0,1,2,3,4,6,7,8,9,11,12,13,14,16,17,18,19] [0,1,2,3,4,6,7,8,9,11,12,13,14,16,17,18,19,5,10,15,20,21,22] mixed_ok (by kernel_rfl) ?_
  refine wpMix_q (v:=(.func (.func 106) #[] #[.pointer (some ⟨gs,0,none⟩), .pointer (some ⟨gl,0,none⟩)])) rfl rfl (fun _ _ _ h=>h) HSB.out ⟨rfl,fun _ _=>by simp [go_sem]⟩ ?_
  refine wpMix_q (v:=(.func (.func 108) #[] #[.pointer (some ⟨gl,0,none⟩)])) rfl rfl (fun _ _ _ h=>h) HSB.out ⟨rfl,fun _ _=>by simp [go_sem]⟩ ?_
  refine wpMix_q (v:=(.int .i64 c)) rfl rfl (fun _ _ _ h=>h) HSB.out ⟨rfl,fun _ _=>by simp [go_sem]⟩ ?_
  refine wpMix_q (v:=(.pointer (some ⟨ge,1,none⟩))) rfl rfl (fun _ _ _ h=>h) HSB.out ⟨rfl,fun _ _=>by simp [go_sem]⟩ ?_
  refine wpMix_q (v:=(.int .i64 b)) rfl rfl (fun _ _ _ h=>h) HSB.out ⟨rfl,fun _ h'=>by have a0:=h'.be.cell 1;simp only [List.getElem?_toArray,List.getElem?_cons_zero,List.getElem?_cons_succ] at a0;simp [go_sem,a0]⟩ ?_
  refine wpMix_q (v:=(.func (.func 108) #[] #[.pointer (some ⟨gl,0,none⟩)])) rfl rfl (fun _ _ _ h=>h) HSB.out ⟨rfl,fun _ _=>by simp [go_sem]⟩ ?_
  simp only [List.getElem_toArray,List.getElem_cons_succ,List.getElem_cons_zero,Act.put,List.setIfInBounds_toArray,List.set_cons_succ,List.set_cons_zero]
  refine wpMix_q (v:=(.pointer (some ⟨ge,0,none⟩))) rfl rfl (fun _ _ _ h=>h) HSB.out ⟨rfl,fun _ _=>by simp [go_sem]⟩ ?_
  refine wpMix_q (v:=(.int .i64 a)) rfl rfl (fun _ _ _ h=>h) HSB.out ⟨rfl,fun _ h'=>by have a0:=h'.be.cell 0;simp only [List.getElem?_toArray,List.getElem?_cons_zero] at a0;simp [go_sem,a0]⟩ ?_
  refine wpMix_q (v:=(.int .i64 c)) rfl rfl (fun _ _ _ h=>h) HSB.out ⟨rfl,fun _ _=>by simp [go_sem]⟩ ?_
  refine wpMix_q (v:=(.func (.func 108) #[] #[.pointer (some ⟨gl,0,none⟩)])) rfl rfl (fun _ _ _ h=>h) HSB.out ⟨rfl,fun _ _=>by simp [go_sem]⟩ ?_
  refine wpMix_q (v:=(.int .i64 d)) rfl rfl (fun _ _ _ h=>h) HSB.out ⟨rfl,fun _ _=>by simp [go_sem]⟩ ?_
  refine wpMix_q (v:=(.pointer (some ⟨ge,0,none⟩))) rfl rfl (fun _ _ _ h=>h) HSB.out ⟨rfl,fun _ _=>by simp [go_sem]⟩ ?_
  simp only [List.getElem_toArray,List.getElem_cons_succ,List.getElem_cons_zero,Act.put,List.setIfInBounds_toArray,List.set_cons_succ,List.set_cons_zero]
  refine wpMix_q (v:=(.int .i64 a)) rfl rfl (fun _ _ _ h=>h) HSB.out ⟨rfl,fun _ h'=>by have a0:=h'.be.cell 0;simp only [List.getElem?_toArray,List.getElem?_cons_zero] at a0;simp [go_sem,a0]⟩ ?_
  refine wpMix_q (v:=(.func (.func 108) #[] #[.pointer (some ⟨gl,0,none⟩)])) rfl rfl (fun _ _ _ h=>h) HSB.out ⟨rfl,fun _ _=>by simp [go_sem]⟩ ?_
  refine wpMix_q (v:=(.pointer (some ⟨ge,1,none⟩))) rfl rfl (fun _ _ _ h=>h) HSB.out ⟨rfl,fun _ _=>by simp [go_sem]⟩ ?_
  refine wpMix_q (v:=(.int .i64 b)) rfl rfl (fun _ _ _ h=>h) HSB.out ⟨rfl,fun _ h'=>by have a0:=h'.be.cell 1;simp only [List.getElem?_toArray,List.getElem?_cons_zero,List.getElem?_cons_succ] at a0;simp [go_sem,a0]⟩ ?_
  refine wpMix_q (v:=(.int .i64 d)) rfl rfl (fun _ _ _ h=>h) HSB.out ⟨rfl,fun _ _=>by simp [go_sem]⟩ ?_
  simp only [List.getElem_toArray,List.getElem_cons_succ,List.getElem_cons_zero,Act.put,List.setIfInBounds_toArray,List.set_cons_succ,List.set_cons_zero]
  refine wpMix_n rfl rfl ?_
  go_wp2_with fail
  refine (HK.out.2.2.1 W2.drew _ HSB.out).mono ?_
  rintro e w2 ⟨rfl,rfl⟩
  go_wp2_with fail
  refine ⟨fun _=>HSB.out,?_⟩
  refine wpMix_n rfl rfl ?_
  go_wp2_with fail
  refine (HK.out.2.2.2.1 W2.drew _ HSB.out).mono ?_
  rintro e w2 ⟨rfl,rfl⟩
  go_wp2_with fail
  refine ⟨fun _=>HSB.out,?_⟩
  refine wpMix_n rfl rfl ?_
  go_wp2_with fail
  refine (HK.out.2.2.2.2.1 W2.drew _ HSB.out).mono ?_
  rintro e w2 ⟨rfl,rfl⟩
  go_wp2_with fail
  refine ⟨fun _=>HSB.out,?_⟩
  refine wpMix_n rfl rfl ?_
  go_wp2_with fail
  refine (HK.out.2.2.2.2.2 W2.drew _ HSB.out).mono ?_
  rintro e w2 ⟨rfl,rfl⟩
  go_wp2_with fail
  refine ⟨fun _=>HSB.out,?_⟩
  refine wpMix_n rfl rfl ?_
  go_wp2_with fail
  refine ⟨fun _=>HSB.out.below ((Below.refl _ W2.drew).alloc (Nat.le_refl _) _),?_⟩
  refine wpMix_tail _ [_] (by kernel_rfl) rfl ?_
  go_wp2_with fail
  have HY:=hide (HSB.out.below ((Below.refl _ W2.drew).alloc (Nat.le_refl _) (.cells #[.int .i64 x3, .int .i64 x4, .int .i64 x5, .int .i64 x6] 3)))
  refine (radd_any (HF.out.below (HY.out.bel.mono HF.out.hB)) hpl gl gs W2.drew.heap.size _ HY.out.bl s3 HY.out.bs HBs.out (-1) [x3,x4,x5,x6] (show Blk _ _ _ (cZ9 [x3,x4,x5,x6]) from Blk.new _ _ _) (by simp) HNx.out).mono ?_
  rintro e W9 ⟨rfl,hb,hg⟩
  have H9:=hide (HY.out.add hg hb)
  clear hb hg HY
  obtain ⟨u,hu,hdv⟩:=HE.out
  rw [hu] at H9
  obtain ⟨z1,hz1⟩:∃z,z=wrap64 u.1:=⟨_,rfl⟩
  obtain ⟨z2,hz2⟩:∃z,z=wrap64 u.2.1:=⟨_,rfl⟩
  obtain ⟨z3,hz3⟩:∃z,z=wrap64 u.2.2:=⟨_,rfl⟩
  have hwu:wrapP u=(z1,z2,z3):=by rw [hz1,hz2,hz3];rfl
  have t1:wrap64 (z1.tdiv 16)=z1.tdiv 16:=by rw [hz1];exact tdiv16_wrap _
  have t2:wrap64 (z2.tdiv 16)=z2.tdiv 16:=by rw [hz2];exact tdiv16_wrap _
  have t3:wrap64 (z3.tdiv 16)=z3.tdiv 16:=by rw [hz3];exact tdiv16_wrap _
  rw [hwu] at H9 hdv
  have c0:W9.cell? ⟨gs,0,none⟩=some (.int .i64 z1):=H9.out.bs.cell 0
  have c1:W9.cell? ⟨gs,1,none⟩=some (.int .i64 z2):=H9.out.bs.cell 1
  have c2:W9.cell? ⟨gs,2,none⟩=some (.int .i64 z3):=H9.out.bs.cell 2
  have hgsW:=H9.out.bs.lt
  obtain ⟨r0,r1,r2⟩:=H9.out.br.three
  have hgrW:=H9.out.br.lt
  have f0:=H9.out.br.frozen 0
  have f1:=H9.out.br.frozen 1
  have f2:=H9.out.br.frozen 2
  have HQ:=hide (And.intro (show (z1.tdiv 16,z2.tdiv 16,z3.tdiv 16)=ruleE L.p L.t L.cr co a b from hdv) (And.intro H9.out.bel H9.out.br))
  clear H9 HE hu hdv hz1 hz2 hz3 hwu
  go_wp2
  refine ret_at (v:=vP (z1.tdiv 16,z2.tdiv 16,z3.tdiv 16)) (fun W=>Blk W gr 43 #[.int .i64 (z1.tdiv 16), .int .i64 (z2.tdiv 16), .int .i64 (z3.tdiv 16)]) ?_ (fun W hW=> ?_) rfl ⟨by rw [←HQ.out.1],?_⟩
  ·exact HQ.out.2.2.set3 _ _ _
  ·obtain ⟨a0,a1,a2⟩:=hW.three
   simp [results,Tryz.results78,go_sem,a0,a1,a2]
   try trivial
  ·exact ((HQ.out.2.1.setCell (p:=⟨gr,0,none⟩) HGR.out _).setCell (p:=⟨gr,1,none⟩) HGR.out _).setCell (p:=⟨gr,2,none⟩) HGR.out _
end Go.Proofs.YtmemofonebphfaaGreat
namespace Go.Proofs.YtmemofonebphfaaGreat
open Go.RowKit Go.Sort Go.Shelf
theorem flat_one9 {α:Type} {enc:α→List Value} (h1:∀x,∀u∈enc x,u.oneCell'=true) (xs:List α):∀u∈xs.flatMap enc,u.oneCell'=true:=by
 intro u hu
 obtain ⟨x,_,hx⟩:=List.mem_flatMap.1 hu
 exact h1 x u hx
theorem Sl.flat9 {α : Type} {enc : α → List Value} {k : Nat} (hk : ∀ x, (enc x).length = k) {w : World} {b o : Nat} {xs : List α}
    (h : ∀ i x, xs[i]? = some x → ∀ j u, (enc x)[j]? = some u → w.cell? ⟨b, o + i * k + j, none⟩ = some u) : ∀ t u, (xs.flatMap enc)[t]? = some u → w.cell? ⟨b, o + t, none⟩ = some u := by
  intro t u hu
  have ht : t < xs.length * k := by rw [← flat_len hk xs]; exact (List.getElem?_eq_some_iff.1 hu).1
  have hk0 : 0 < k := by rcases Nat.eq_zero_or_pos k with h0 | h0; · subst h0; simp at ht
                         · exact h0
  have hi : t / k < xs.length := (Nat.div_lt_iff_lt_mul hk0).2 ht
  have hj : t % k < (enc xs[t / k]).length := by rw [hk]; exact Nat.mod_lt _ hk0
  have hx : xs[t / k]? = some xs[t / k] := List.getElem?_eq_getElem hi
  have hv : (enc xs[t / k])[t % k]? = some ((enc xs[t / k])[t % k]) := List.getElem?_eq_getElem hj
  have h2 := flat_get hk xs _ _ hx _ _ hv
  rw [Nat.div_add_mod' t k, hu] at h2
  have h3 := h _ _ hx _ _ hv
  rw [Nat.add_assoc, Nat.div_add_mod' t k, ← h2] at h3
  exact h3
theorem info_parts9 {t:TypeId} {z:Value} {n b:Nat} (h:(Tryz.prog.info? t).map (fun i=>(i.zero,i.size,i.bytes))=some (some z,n,b)):∃i,Tryz.prog.info? t=some i∧i.zero=some z∧i.size=n∧i.bytes=b:=by
 cases hi:Tryz.prog.info? t with
 | none=>rw [hi] at h;cases h
 | some i=>
  rw [hi] at h
  simp only [Option.map_some,Option.some.injEq,Prod.mk.injEq] at h
  exact ⟨i,rfl,h.1,h.2.1,h.2.2⟩
theorem cloneN3_any (A:Option Addr) (c:Nat) (ts:List Pt) (B:Nat) (w:World) (hs:Sl encN3 3 w B A ts) (hl:ts.length≤4294967296):
  Calls Tryz.prog 46 #[.slice A ts.length c] w fun e w'=>∃v,e= .returned v∧Own encN3 3 35 w' w.heap.size v ts.length ts∧Below w.heap.size w w':=by
 rcases hs with ⟨rfl,rfl⟩ | ⟨b,o,rfl,hb,hc⟩
 ·refine (AnyE.slices_Clone_nil cloneN3L 0 c w).mono ?_
  rintro e w' ⟨rfl,rfl⟩
  exact ⟨_,rfl,Own.nil,Below.refl _ _⟩
 ·obtain ⟨i,hi0,hz0,hz1,hz2⟩:=info_parts9 infoN3
  have h:=AnyE.slices_Clone cloneN3L i _ 3 24 hi0 hz0 hz1 hz2 rfl (by omega) Tryz.sizeOf35 b o ts.length c (ts.flatMap encN3) w (flat_len encN3_len ts) (by unfold maxLen;omega) (by omega) (Sl.flat9 encN3_len hc) (flat_one9 encN3_one ts)
  refine h.mono ?_
  rintro e w' ⟨v,rfl,hown,_,hB⟩
  exact ⟨v,rfl,⟨rfl,hown⟩,hB⟩
theorem cloneP_any (A:Option Addr) (c:Nat) (ts:List Pt) (B:Nat) (w:World) (hs:Sl encP 3 w B A ts) (hl:ts.length≤4294967296):
  Calls Tryz.prog 77 #[.slice A ts.length c] w fun e w'=>∃v,e= .returned v∧Own encP 3 43 w' w.heap.size v ts.length ts∧Below w.heap.size w w':=by
 rcases hs with ⟨rfl,rfl⟩ | ⟨b,o,rfl,hb,hc⟩
 ·refine (AnyE.slices_Clone_nil clonePL 0 c w).mono ?_
  rintro e w' ⟨rfl,rfl⟩
  exact ⟨_,rfl,Own.nil,Below.refl _ _⟩
 ·obtain ⟨i,hi0,hz0,hz1,hz2⟩:=info_parts9 infoP
  have h:=AnyE.slices_Clone clonePL i _ 3 24 hi0 hz0 hz1 hz2 rfl (by omega) Tryz.sizeOf43 b o ts.length c (ts.flatMap encP) w (flat_len encP_len ts) (by unfold maxLen;omega) (by omega) (Sl.flat9 encP_len hc) (flat_one9 encP_one ts)
  refine h.mono ?_
  rintro e w' ⟨v,rfl,hown,_,hB⟩
  exact ⟨v,rfl,⟨rfl,hown⟩,hB⟩
end Go.Proofs.YtmemofonebphfaaGreat
namespace Go.Proofs.YtmemofonebphfaaGreat
open Go.RowKit Go.Sort Go.WideMaps Go.Maps
structure LvlM (w:World) (b0 g:Nat) (Ap:Option Addr) (cp:Nat) (At:Option Addr) (ct mc mo:Nat) (a4:Option Nat) (Ae:Option Addr) (ne ce:Nat) (a6 a7:Option Nat) (L:Lev) (co:List Int):Prop where
 bx:Blk w g 90 (cLvl Ap L.p.length cp At L.t.length ct mc mo a4 Ae ne ce a6 a7)
 p:Own encP 3 43 w b0 (.slice Ap L.p.length cp) L.p.length L.p
 t:Sl encN3 3 w w.heap.size At L.t
 cr:∃n,MapK Tryz.prog 115 vE2 fits2 w mc n (setK4 L.cr)
 co:∃n,MapK Tryz.prog 3 vi fits w mo n (setK4 co)
inductive Kpt (B:Nat) (P:Option Nat):World→World→Prop
 | refl (W:World):Kpt B P W W
 | bel {W W1 W2:World}:Kpt B P W W1→Below W1.heap.size W1 W2→Kpt B P W W2
 | box {W W1 W2:World} {r:Nat} {t:TypeId} {cs:Array Value}:Kpt B P W W1→Blk W1 r t cs→NoInt cs→t≠90→t≠43→W1.grownBy W2 (some r)→Kpt B P W W2
 | row {W W1 W2:World} {row:Option Nat}:Kpt B P W W1→W1.grownBy W2 row→(∀r,row=some r→B≤r∧some r≠P)→Kpt B P W W2
theorem grown_belO {w W:World} {row:Option Nat} {B:Nat} (h:w.grownBy W row) (hr:∀r,row=some r→B≤r) (hB:B≤w.heap.size):Below B w W:=
 ⟨h.os,h.tape,h.output,h.size,fun k hk=>h.block k (by omega) (fun e=>by have:=hr k e.symm;omega)⟩
section
variable {w W W':World} {B g:Nat} {Ap:Option Addr} {cp:Nat} {At:Option Addr} {ct mc mo m3 mn ms:Nat} {Ae:Option Addr} {ce:Nat} {L:Lev} {co:List Int} {P:Option Nat}
theorem FouM.kpt (h:FouM W B g Ap cp At ct mc mo m3 mn ms Ae ce L co) (hk:Kpt B P W W'):FouM W' B g Ap cp At ct mc mo m3 mn ms Ae ce L co:=by
 induction hk with
 | refl=>exact h
 | bel _ hb ih=>exact ih.below (hb.mono ih.hB)
 | box _ hb hn ht _ hg ih=>exact ih.box hb hn ht hg
 | row _ hg hr ih=>exact ih.below (grown_belO hg (fun r e=>(hr r e).1) ih.hB)
theorem Own.kpt {b n:Nat} {v:Value} {xs:List Pt} (h:Own encP 3 43 W b v n xs) (hk:Kpt B v.ownBlock W W'):Own encP 3 43 W' b v n xs:=by
 induction hk with
 | refl=>exact h
 | bel _ hb ih=>exact ih.below hb (Nat.le_refl _)
 | box _ hb _ _ ht hg ih=>exact ih.kept hg (.inr (blk_own_ne9 hb ih (Ne.symm ht)).symm)
 | row _ hg hr ih=>exact ih.kept hg (by
   cases hv:v.ownBlock with
   | none=>exact .inl rfl
   | some q=>
    refine .inr fun e=> ?_
    have:=(hr q e.symm).2
    rw [hv] at this
    exact this rfl)
end
structure StbI (g B:Nat) (Inv:Nat→Option Nat→World→Prop):Prop where
 st:∀{i:Nat} {P:Option Nat} {W W':World} {row:Option Nat},Inv i P W→W.grownBy W' row→(∀r,row=some r→r=g∨B≤r∧(some r=P∨∀cs,W.heap[r]? ≠some (.cells cs 43 (0,0))))→Inv i P W'
 sw:∀{i:Nat} {P:Option Nat} {W W':World} {r:Nat},Inv i P W→W.grownBy W' P→(∀r,P=some r→B≤r)→W.heap.size≤r→r < W'.heap.size→Inv i (some r) W'
section
variable {g B i:Nat} {P:Option Nat} {W W':World} {Inv:Nat→Option Nat→World→Prop}
theorem StbI.bel (h:StbI g B Inv) (hi:Inv i P W) (hB:Below W.heap.size W W'):Inv i P W':=h.st hi (grown_bel9 hB none) (fun _ e=>by cases e)
theorem StbI.app (h:StbI g B Inv) (hi:Inv i P W) (hg:W.grownBy W' P) (hP:∀r,P=some r→B≤r) {r:Nat} (hr:P=some r∨r=W.heap.size) (hlt:r < W'.heap.size):Inv i (some r) W':=by
 rcases hr with hr | hr
 ·have:=h.st hi hg (fun q e=> .inr ⟨hP q e, .inl e.symm⟩)
  rw [hr] at this
  exact this
 ·exact h.sw hi hg hP (by omega) hlt
end
def MadeF (f:FuncId) (binds:Array Value) (ne:Nat) (rules:List Pt) (mk:Nat→Pt→Pt) (Inv:Nat→Nat→Option Nat→World→Prop):Prop:=
 ∀(B i:Nat) (P:Option Nat) (W:World) (q:Pt),i < ne→rules[i]? =some q→Inv B i P W→B≤W.heap.size→(∀r,P=some r→B≤r)→
  Calls Tryz.prog f (#[.int .i64 i,vP q]++binds) W fun e W'=>e= .returned (vP (mk i q))∧Inv B (i+1) P W'∧Kpt B P W W'
end Go.Proofs.YtmemofonebphfaaGreat
