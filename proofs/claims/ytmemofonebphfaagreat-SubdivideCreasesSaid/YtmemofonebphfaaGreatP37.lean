import Derived.Test.YtmemofonebphfaaGreatP28
import Derived.Test.YtmemofonebphfaaGreatP35
import Derived.Test.YtmemofonebphfaaGreatP36
namespace Go.Proofs.YtmemofonebphfaaGreat
open Go.RowKit Go.Sort
def RowB (w:World) (g:Nat) (F:List Bool):Prop:=Blk w g 4 (F.map Value.bool).toArray
theorem RowB.cell {w:World} {g i:Nat} {F:List Bool} {b:Bool} (h:RowB w g F) (hi:F[i]? =some b):w.cell? ⟨g,i,none⟩=some (.bool b):=by
 rw [Blk.cell h]
 simp [hi]
theorem RowB.set {w:World} {g:Nat} {F:List Bool} (h:RowB w g F) (i:Nat) (b:Bool):RowB (w.setCell ⟨g,i,none⟩ (.bool b)) g (F.set i b):=by
 have:=Blk.set_ h i (.bool b)
 unfold RowB
 rw [show ((F.set i b).map Value.bool).toArray=(F.map Value.bool).toArray.setIfInBounds i (.bool b) by simp [List.map_set]]
 exact this
theorem infoBl9:(Tryz.prog.info? 4).map (fun i=>(i.zero,i.size,i.bytes))=some (some (.bool false),1,1):=by kernel_rfl
theorem mk_bl9 (n:Nat) (hn:n≤100000000) (W:World):(Instr.makeSlice 55 (.int .i64 (n:Int)) (.int .i64 (n:Int))).run Tryz.prog W= .ok (.slice (some ⟨W.heap.size,0,none⟩) n n) (W.alloc (.cells ((List.replicate n false).map Value.bool).toArray 4)):=by
 obtain ⟨i,hi,hz,hs,hb⟩:=info_parts infoBl9
 have h:=run_make (P:=Tryz.prog) W 55 4 i (.bool false) Tryz.underlying55 hi hz .i64 .i64 n n (by omega) (by omega) (by rw [hb];omega) (by omega)
 rw [h,hs]
 have e:madeCells (Value.bool false).cells ((n:Int).toNat*1)=((List.replicate n false).map Value.bool).toArray:=by
  refine Array.ext (by simp [size_madeCells]) fun k h1 h2=> ?_
  simp [madeCells,Value.cells,Nat.mod_one]
 rw [e,Int.toNat_natCast]
set_option maxRecDepth 100000 in
theorem litsN3 (e:Pt) (h:fitsP e):Tryz.prog.keyLits 2 35 (encN3 e)=some [.int .i64 e.1, .int .i64 e.2.1, .int .i64 e.2.2]:=by
 have c:Tryz.prog.cellsOf 3=1:=by kernel_rfl
 have c2:Tryz.prog.cellsOf 35=3:=by kernel_rfl
 have w0:=fits_wf h.1
 have w1:=fits_wf h.2.1
 have w2:=fits_wf h.2.2
 simp [encN3,Program.keyLits,Tryz.underlying35,Tryz.underlying3,c,c2,List.range_succ,w0,w1,w2]
set_option maxRecDepth 100000 in
theorem eqN3 (a b:Pt) (ha:fitsP a) (hb:fitsP b) (w:World):(Op.equalIn 10000 35 (vP a) (vP b)).run Tryz.prog w= .ok (decide (a=b)) w:=by
 have c:Tryz.prog.cellsOf 35=3:=by kernel_rfl
 obtain ⟨r,hr,he⟩:=run_equalIn_deep (P:=Tryz.prog) 9998 2 35 (by kernel_rfl) w 2 2 (vP a) (vP b) _ _ (by simp [Value.formed,Tryz.underlying35,c]) (by simp [Value.formed,Tryz.underlying35,c]) (litsN3 a ha) (litsN3 b hb)
 rw [hr]
 have:r=decide (a=b):=by
  rw [Bool.eq_iff_iff,he]
  obtain ⟨a1,a2,a3⟩:=a
  obtain ⟨b1,b2,b3⟩:=b
  simp
 rw [this]
set_option maxHeartbeats 2000000 in
theorem sameTris_any (A B:Option Addr) (c d:Nat) (xs ys:List Pt) (w:World) (n1 n2:Nat) (hx:Sl encN3 3 w n1 A xs) (hy:Sl encN3 3 w n2 B ys) (hlx:xs.length≤4294967296) (_hly:ys.length≤4294967296) (hfx:∀t∈xs,fitsP t) (hfy:∀t∈ys,fitsP t):
  Calls Tryz.prog 25 #[.slice A xs.length c, .slice B ys.length d] w fun e w'=>e= .returned (.bool (decide (xs=ys)))∧∃k,w'=w.drewN k:=by
 go_enter Tryz.func25,Tryz.ntmps25
 by_cases hl:xs.length=ys.length
 ·rw [←hl]
  go_wp2
  go_loopw [5] (fun i wr=>∃k n:Nat,k≤xs.length∧i= .int .i64 k∧xs.take k=ys.take k∧wr=w.drewN n) (fun i _=>xs.length - (intOf i).toNat)
  case atStart=>exact ⟨0,0,Nat.zero_le _,rfl,rfl,rfl⟩
  case round=>
   obtain ⟨k,n,hk,rfl,htk,rfl⟩:=hrel
   by_cases hlt:k < xs.length
   ·obtain ⟨u,hu⟩:∃u,xs[k]? =some u:=⟨_,List.getElem?_eq_getElem hlt⟩
    obtain ⟨v,hv⟩:∃v,ys[k]? =some v:=⟨_,List.getElem?_eq_getElem (by omega)⟩
    obtain ⟨bA,oA,rfl,_,g0,g1,g2⟩:=hx.n3 hu
    obtain ⟨bB,oB,rfl,_,k0,k1,k2⟩:=hy.n3 hv
    have hq:=eqN3 u v (hfx u (List.mem_of_getElem? hu)) (hfy v (List.mem_of_getElem? hv))
    have H:=hide (And.intro hx (And.intro hy (And.intro hu (And.intro hv (And.intro htk hl)))))
    have i1:(k:Int) < (xs.length:Int):=by omega
    clear hx hy hu hv htk hl
    have htk1:=take_succ_eq H.out.2.2.1 H.out.2.2.2.1 H.out.2.2.2.2.1
    have HT:=hide htk1
    clear htk1
    by_cases huv:u=v
    ·have hd:decide (u=v)=true:=by simp [huv]
     rw [hd] at hq
     have HU:=hide huv
     clear huv hd
     go_wp2_with fail
     go_quiet (fail)
     go_wp2
     go_roundw
     case rel=>exact ⟨k+1,n+nq,by omega,by go_num,HT.out.2 HU.out,rfl⟩
     case measure=>simp [intOf];omega
    ·have hd:decide (u=v)=false:=by simp [huv]
     rw [hd] at hq
     have HU:=hide huv
     clear huv hd
     go_wp2_with fail
     go_quiet (fail)
     go_wp2
     go_ret
     refine ⟨?_,n+nq,by simp [World.drewN,Nat.add_assoc]⟩
     have:¬xs=ys:=fun e=>HU.out (HT.out.1 (by rw [e]))
     simp [this]
   ·have hke:k=xs.length:=by omega
    have hxy:xs=ys:=by
     rw [hke,List.take_length,hl,List.take_length] at htk
     exact htk
    have HX:=hide hxy
    clear hxy htk hx hy
    go_wp2
    go_ret
    exact ⟨by simp [HX.out],n,rfl⟩
 ·have hne:¬((xs.length:Int)=(ys.length:Int)):=by omega
  have hne2:¬xs=ys:=fun e=>hl (by rw [e])
  have HN:=hide hne2
  clear hx hy hne2
  go_wp2
  go_ret
  exact ⟨by simp [HN.out],0,rfl⟩
end Go.Proofs.YtmemofonebphfaaGreat
namespace Go.Proofs.YtmemofonebphfaaGreat
open Go.RowKit Go.Sort
def markB (U:List Bool) (l:List Int):List Bool:=l.foldl (fun U n=>U.set n.toNat true) U
theorem markB_len (l:List Int):∀U:List Bool,(markB U l).length=U.length:=by
 induction l with
 | nil=>exact fun U=>rfl
 | cons a l ih=>exact fun U=>by show (markB (U.set a.toNat true) l).length=_;rw [ih,List.length_set]
theorem markB_snoc (U:List Bool) (l:List Int) (a:Int):markB U (l++ [a])=(markB U l).set a.toNat true:=by
 unfold markB
 rw [List.foldl_append]
 rfl
theorem markB_get (l:List Int):∀(U:List Bool) (i:Nat),i < U.length→(∀a∈l,0≤a)→(markB U l)[i]? =some (U.getD i false || decide ((i:Int)∈l)):=by
 induction l with
 | nil=>
  intro U i hi _
  show U[i]? =_
  rw [List.getElem?_eq_getElem hi]
  simp [List.getD_eq_getElem?_getD,List.getElem?_eq_getElem hi]
 | cons a l ih=>
  intro U i hi hp
  show (markB (U.set a.toNat true) l)[i]? =_
  rw [ih _ i (by rw [List.length_set];exact hi) (fun b hb=>hp b (List.mem_cons_of_mem _ hb))]
  have ha:=hp a List.mem_cons_self
  congr 1
  by_cases e:(i:Int)=a
  ·have e2:a.toNat=i:=by omega
   rw [List.getD_eq_getElem?_getD,e2,List.getElem?_set_self hi]
   simp [e]
  ·have e2:a.toNat≠i:=by omega
   rw [List.getD_eq_getElem?_getD,List.getElem?_set_ne e2,←List.getD_eq_getElem?_getD]
   simp [e]
def noTwo (P:List Pt) (l:List Int) (i k:Nat):Prop:=∀a b:Nat,(a < i∨a=i∧b < k)→b < a→(a:Int)∈l→(b:Int)∈l→P.getD a (0,0,0)≠P.getD b (0,0,0)
theorem dup_of_two {P:List Pt} {l:List Int} {a b:Nat} (ha:(a:Int)∈l) (hb:(b:Int)∈l) (hlt:b < a) (e:P.getD a (0,0,0)=P.getD b (0,0,0)):dupB P l=true:=
 dup_yes ha hb (show P.getD _ _=P.getD _ _ by rw [Int.toNat_natCast,Int.toNat_natCast];exact e) (by omega)
theorem dup_none {P:List Pt} {l:List Int} {n:Nat} (h:noTwo P l n 0) (hi:∀a∈l,0≤a∧a < (n:Int)):dupB P l=false:=by
 unfold dupB
 refine List.any_eq_false.2 fun a ha=> ?_
 rw [Bool.not_eq_true]
 refine List.any_eq_false.2 fun b hb=> ?_
 simp only [decide_eq_true_eq]
 rintro ⟨e,hne⟩
 have h1:=hi a ha
 have h2:=hi b hb
 obtain ⟨x,rfl⟩:∃x:Nat,a=x:=⟨a.toNat,by omega⟩
 obtain ⟨y,rfl⟩:∃y:Nat,b=y:=⟨b.toNat,by omega⟩
 unfold gP at e
 rw [Int.toNat_natCast,Int.toNat_natCast] at e
 rcases Nat.lt_trichotomy x y with hlt | heq | hgt
 ·exact h y x (.inl (by omega)) hlt hb ha e.symm
 ·exact hne (by rw [heq])
 ·exact h x y (.inl (by omega)) hgt ha hb e
set_option maxRecDepth 100000 in
set_option maxHeartbeats 32000000 in
theorem twice9_any (A B:Option Addr) (c d:Nat) (P T:List Pt) (w:World) (hp:Sl encP 3 w w.heap.size A P) (ht:Sl encN3 3 w w.heap.size B T) (hlp:P.length≤1000000) (hlt:T.length≤1000000) (hfp:∀p∈P,fitsP p) (hix:∀x∈T,(0≤x.1∧x.1 < (P.length:Int))∧(0≤x.2.1∧x.2.1 < (P.length:Int))∧0≤x.2.2∧x.2.2 < (P.length:Int)):
  Calls Tryz.prog 68 #[.slice A P.length c, .slice B T.length d] w fun e w'=>e= .returned (.bool (dupB P (corsN T)))∧Below w.heap.size w w':=by
 have hci:∀a∈corsN T,0≤a∧a < (P.length:Int):=fun a ha=>by
  obtain ⟨x,hx,ha⟩:=List.mem_flatMap.1 ha
  have:=hix x hx
  simp only [corN3,List.mem_cons,List.not_mem_nil,or_false] at ha
  omega
 obtain ⟨D,hD⟩:∃D,D=dupB P (corsN T):=⟨_,rfl⟩
 rw [←hD]
 obtain ⟨np,hnp⟩:∃n,n=P.length:=⟨_,rfl⟩
 obtain ⟨nt,hnt⟩:∃n,n=T.length:=⟨_,rfl⟩
 rw [←hnp] at hlp hix hci
 rw [←hnt] at hlt
 rw [←hnp,←hnt]
 have hmk:=mk_bl9 np (by omega)
 obtain ⟨R0,hR0⟩:∃R:Array Value,R=((List.replicate np false).map Value.bool).toArray:=⟨_,rfl⟩
 rw [←hR0] at hmk
 have HR0:=hide hR0
 clear hR0
 have HK:=hide (And.intro hp (And.intro ht (And.intro hfp (And.intro hix (And.intro hci (And.intro hD (And.intro hnp hnt)))))))
 clear hp ht hfp hix hci hD hnp hnt
 go_enter Tryz.func68,Tryz.ntmps68
 go_upto_region 3 with fail
 clear hmk
 obtain ⟨g5,hg5⟩:∃g,g=w.heap.size:=⟨_,rfl⟩
 obtain ⟨X,hX⟩:∃W,W=w.alloc (.cells R0 4):=⟨_,rfl⟩
 rw [←hX,←hg5]
 have hR:RowB X g5 (markB (List.replicate np false) []):=by rw [hX,hg5];show Blk _ _ _ ((List.replicate np false).map Value.bool).toArray;rw [←HR0.out];exact Blk.new _ _ _
 have hB:Below w.heap.size w X:=by rw [hX];exact (Below.refl _ w).alloc (Nat.le_refl _) _
 have hgl:g5 < X.heap.size:=Blk.lt hR
 have HX:=hide (And.intro hR (And.intro hB (show w.heap.size≤g5 by omega)))
 clear hR hB hX hg5
 go_loopw [6] (fun iv wr=>∃i:Nat,i≤nt∧iv= .int .i64 i∧RowB wr g5 (markB (List.replicate np false) (corsN (T.take i)))∧Below w.heap.size w wr) (fun iv _=>nt - (intOf iv).toNat)
 case atStart=>exact ⟨0,by omega,rfl,HX.out.1,HX.out.2.1⟩
 case round=>
  obtain ⟨i,hi,rfl,hR,hB⟩:=hrel
  obtain ⟨V,rfl⟩:∃x,x=wr:=⟨_,rfl⟩
  by_cases hlt2:i < nt
  ·have i1:(i:Int) < (nt:Int):=by omega
   obtain ⟨x,hx⟩:∃x,T[i]? =some x:=⟨_,List.getElem?_eq_getElem (by rw [←HK.out.2.2.2.2.2.2.2];exact hlt2)⟩
   have htk:corsN (T.take (i+1))=corsN (T.take i)++ [x.1,x.2.1,x.2.2]:=by
    unfold corsN
    rw [List.take_add_one,hx,List.flatMap_append]
    simp [corN3]
   obtain ⟨bt,ot,hA,hbt,f0,f1,f2⟩:=HK.out.2.1.n3 hx
   subst hA
   obtain ⟨⟨a1,a2⟩,⟨b1,b2⟩,d1,d2⟩:=HK.out.2.2.2.1 x (List.mem_of_getElem? hx)
   obtain ⟨x1,x2,x3⟩:=x
   simp only at f0 f1 f2 a1 a2 b1 b2 d1 d2 htk
   obtain ⟨y1,rfl⟩:∃y:Nat,x1=y:=⟨x1.toNat,by omega⟩
   obtain ⟨y2,rfl⟩:∃y:Nat,x2=y:=⟨x2.toNat,by omega⟩
   obtain ⟨y3,rfl⟩:∃y:Nat,x3=y:=⟨x3.toNat,by omega⟩
   have HE:=hide (And.intro hR (And.intro hB (And.intro htk (And.intro f0 (And.intro f1 (And.intro f2 hbt))))))
   clear hR hB htk f0 f1 f2 hbt hx
   go_upto_region 6 with fail
   go_loopw [7] (fun jv wz=>∃j:Nat,j≤3∧jv= .int .i64 j∧RowB wz g5 (markB (List.replicate np false) (corsN (T.take i)++([(y1:Int),(y2:Int),(y3:Int)]).take j))∧Below w.heap.size w wz) (fun jv _=>3 - (intOf jv).toNat)
   case atStart=>exact ⟨0,by omega,rfl,by rw [List.take_zero,List.append_nil];exact HE.out.1,HE.out.2.1⟩
   case round=>
    obtain ⟨j,hj,rfl,hR,hB⟩:=hrel
    obtain ⟨U,rfl⟩:∃x,x=wr:=⟨_,rfl⟩
    have c0:=(hB.cell (p:=⟨bt,ot+i*3,none⟩) HE.out.2.2.2.2.2.2).trans HE.out.2.2.2.1
    have c1:=(hB.cell (p:=⟨bt,ot+i*3+1,none⟩) HE.out.2.2.2.2.2.2).trans HE.out.2.2.2.2.1
    have c2:=(hB.cell (p:=⟨bt,ot+i*3+2,none⟩) HE.out.2.2.2.2.2.2).trans HE.out.2.2.2.2.2.1
    have hbU:bt < U.heap.size:=Nat.lt_of_lt_of_le HE.out.2.2.2.2.2.2 hB.size
    have hgU:g5 < U.heap.size:=Blk.lt hR
    have cel:∀(W:World),RowB W g5 (markB (List.replicate np false) (corsN (T.take i)++([(y1:Int),(y2:Int),(y3:Int)]).take j))→∀y:Nat,y < np→W.cell? ⟨g5,y,none⟩=some (.bool (((markB (List.replicate np false) (corsN (T.take i)++([(y1:Int),(y2:Int),(y3:Int)]).take j)))[y]?.getD false)):=fun W h y hy=>by
     refine h.cell ?_
     rw [List.getElem?_eq_getElem (by rw [markB_len,List.length_replicate];exact hy)]
     rfl
    have hj4:j=0∨j=1∨j=2∨j=3:=by omega
    rcases hj4 with rfl | rfl | rfl | rfl
    ·have hs:corsN (T.take i)++([(y1:Int),(y2:Int),(y3:Int)]).take 1=(corsN (T.take i)++([(y1:Int),(y2:Int),(y3:Int)]).take 0)++ [(y1:Int)]:=by simp
     have HC:=hide (And.intro hR (And.intro hB hs))
     have e1:=cel U hR y1 (by omega)
     have f1:=hR.frozen y1
     clear hR hB hs cel
     go_wp2
     go_roundw
     case rel=>repeat (first | exact ⟨1,by omega,by first | rfl | go_num,by rw [HC.out.2.2,markB_snoc,Int.toNat_natCast];exact HC.out.1.set y1 true,HC.out.2.1.setCell (p:=⟨g5,y1,none⟩) HX.out.2.2 _⟩ | (refine ⟨?_,rfl⟩;exact ⟨1,by omega,by first | rfl | go_num,by rw [HC.out.2.2,markB_snoc,Int.toNat_natCast];exact HC.out.1.set y1 true,HC.out.2.1.setCell (p:=⟨g5,y1,none⟩) HX.out.2.2 _⟩) | apply Exists.intro)
     case measure=>(simp [intOf];try omega)
    ·have hs:corsN (T.take i)++([(y1:Int),(y2:Int),(y3:Int)]).take 2=(corsN (T.take i)++([(y1:Int),(y2:Int),(y3:Int)]).take 1)++ [(y2:Int)]:=by simp
     have HC:=hide (And.intro hR (And.intro hB hs))
     have e1:=cel U hR y2 (by omega)
     have f1:=hR.frozen y2
     clear hR hB hs cel
     go_wp2
     go_roundw
     case rel=>repeat (first | exact ⟨2,by omega,by first | rfl | go_num,by rw [HC.out.2.2,markB_snoc,Int.toNat_natCast];exact HC.out.1.set y2 true,HC.out.2.1.setCell (p:=⟨g5,y2,none⟩) HX.out.2.2 _⟩ | (refine ⟨?_,rfl⟩;exact ⟨2,by omega,by first | rfl | go_num,by rw [HC.out.2.2,markB_snoc,Int.toNat_natCast];exact HC.out.1.set y2 true,HC.out.2.1.setCell (p:=⟨g5,y2,none⟩) HX.out.2.2 _⟩) | apply Exists.intro)
     case measure=>(simp [intOf];try omega)
    ·have hs:corsN (T.take i)++([(y1:Int),(y2:Int),(y3:Int)]).take 3=(corsN (T.take i)++([(y1:Int),(y2:Int),(y3:Int)]).take 2)++ [(y3:Int)]:=by simp
     have HC:=hide (And.intro hR (And.intro hB hs))
     have e1:=cel U hR y3 (by omega)
     have f1:=hR.frozen y3
     clear hR hB hs cel
     go_wp2
     go_roundw
     case rel=>repeat (first | exact ⟨3,by omega,by first | rfl | go_num,by rw [HC.out.2.2,markB_snoc,Int.toNat_natCast];exact HC.out.1.set y3 true,HC.out.2.1.setCell (p:=⟨g5,y3,none⟩) HX.out.2.2 _⟩ | (refine ⟨?_,rfl⟩;exact ⟨3,by omega,by first | rfl | go_num,by rw [HC.out.2.2,markB_snoc,Int.toNat_natCast];exact HC.out.1.set y3 true,HC.out.2.1.setCell (p:=⟨g5,y3,none⟩) HX.out.2.2 _⟩) | apply Exists.intro)
     case measure=>(simp [intOf];try omega)
    ·have HC:=hide (And.intro hR hB)
     clear hR hB cel
     go_wp2
     go_roundw
     case rel=>repeat (first | exact ⟨i+1,by omega,by go_num,by rw [HE.out.2.2.1];exact HC.out.1,HC.out.2⟩ | (refine ⟨?_,rfl⟩;exact ⟨i+1,by omega,by go_num,by rw [HE.out.2.2.1];exact HC.out.1,HC.out.2⟩) | apply Exists.intro)
     case measure=>(simp [intOf];try omega)
  ·obtain rfl:i=nt:=by omega
   have i1:¬(i:Int) < (i:Int):=by omega
   have hti:T.take i=T:=List.take_of_length_le (by rw [←HK.out.2.2.2.2.2.2.2];omega)
   rw [hti] at hR
   have hU:∀n:Nat,n < np→(markB (List.replicate np false) (corsN T))[n]? =some (decide ((n:Int)∈corsN T)):=fun n hn=>by
    rw [markB_get _ _ n (by rw [List.length_replicate];exact hn) (fun a ha=>(HK.out.2.2.2.2.1 a ha).1)]
    simp [List.getD_eq_getElem?_getD,hn]
   have HV:=hide (And.intro hR (And.intro hB hU))
   clear hR hB hU
   go_upto_region 10 with fail
   have hgV:g5 < V.heap.size:=Blk.lt HV.out.1
   have hzV:=HV.out.2.1.size
   go_loopw [8] (fun iv wr=>∃i n:Nat,i≤np∧iv= .int .i64 i∧noTwo P (corsN T) i 0∧wr=V.drewN n) (fun iv _=>np - (intOf iv).toNat)
   case atStart=>exact ⟨0,0,by omega,rfl,fun a b h=>by omega,rfl⟩
   case round=>
    obtain ⟨a,n,ha,rfl,hno,rfl⟩:=hrel
    by_cases hlt3:a < np
    ·have j1:(a:Int) < (np:Int):=by omega
     obtain ⟨x,hx⟩:∃x,P[a]? =some x:=⟨_,List.getElem?_eq_getElem (by rw [←HK.out.2.2.2.2.2.2.1];exact hlt3)⟩
     have hxg:P.getD a (0,0,0)=x:=by rw [List.getD_eq_getElem?_getD,hx];rfl
     obtain ⟨bp,op,hA,hbp,_⟩:=HK.out.1.at hx
     subst hA
     have hfx:=HK.out.2.2.1 x (List.mem_of_getElem? hx)
     have qx:=HK.out.1.ptW (Nat.le_refl _) hx
     have HN:=hide (And.intro hno (And.intro hxg (And.intro hfx qx)))
     clear hno hxg hfx qx hx
     go_upto_region 13 with fail
     go_loopw [9] (fun jv wz=>∃b m:Nat,b≤a∧jv= .int .i64 b∧noTwo P (corsN T) a b∧wz=V.drewN m) (fun jv _=>a - (intOf jv).toNat)
     case atStart=>exact ⟨0,n,by omega,rfl,HN.out.1,rfl⟩
     case round=>
      obtain ⟨b,m,hb,rfl,hno,rfl⟩:=hrel
      by_cases hlt4:b < a
      ·have j2:(b:Int) < (a:Int):=by omega
       have j3:(b:Int) < (np:Int):=by omega
       obtain ⟨y,hy⟩:∃y,P[b]? =some y:=⟨_,List.getElem?_eq_getElem (by rw [←HK.out.2.2.2.2.2.2.1];omega)⟩
       have hyg:P.getD b (0,0,0)=y:=by rw [List.getD_eq_getElem?_getD,hy];rfl
       have hfy:=HK.out.2.2.1 y (List.mem_of_getElem? hy)
       have hq:=eqP x y HN.out.2.2.1 hfy
       obtain ⟨d0,d1,d2,hbV⟩:=HN.out.2.2.2.2 V HV.out.2.1
       obtain ⟨e0,e1,e2,_⟩:=(HK.out.1.ptW (Nat.le_refl _) hy).2 V HV.out.2.1
       obtain ⟨ua,hua⟩:∃u,u=decide ((a:Int)∈corsN T):=⟨_,rfl⟩
       obtain ⟨ub,hub⟩:∃u,u=decide ((b:Int)∈corsN T):=⟨_,rfl⟩
       have s1:V.cell? ⟨g5,a,none⟩=some (.bool ua):=HV.out.1.cell (by rw [HV.out.2.2 a hlt3,hua])
       have s2:V.cell? ⟨g5,b,none⟩=some (.bool ub):=HV.out.1.cell (by rw [HV.out.2.2 b (by omega),hub])
       by_cases hall:(ua=true∧ub=true)∧x=y
       ·obtain ⟨⟨hat,hbt⟩,hxy⟩:=hall
        have hr:D=true:=by
         rw [HK.out.2.2.2.2.2.1]
         rw [hat] at hua
         rw [hbt] at hub
         exact dup_of_two (of_decide_eq_true hua.symm) (of_decide_eq_true hub.symm) hlt4 (by rw [HN.out.2.1,hyg,hxy])
        rw [decide_eq_true hxy] at hq
        subst hat hbt
        have HR:=hide hr
        clear hua hub hr hno hyg hfy hy hxy
        go_upto_region 15 with fail
        go_quiet (fail)
        go_wp2
        go_ret
        exact ⟨by rw [HR.out];rfl,below_drewN (below_drewN HV.out.2.1 _) _⟩
       ·have hr:noTwo P (corsN T) a (b+1):=fun p q h1 h2 h3 h4=>by
         by_cases hpq:p=a∧q=b
         ·obtain ⟨rfl,rfl⟩:=hpq
          rw [HN.out.2.1,hyg]
          exact fun e=>hall ⟨⟨by rw [hua];exact decide_eq_true h3,by rw [hub];exact decide_eq_true h4⟩,e⟩
         ·exact hno p q (by omega) h2 h3 h4
        have HR:=hide hr
        clear hr hno hyg hfy hy
        by_cases hat:ua=true
        ·by_cases hbt:ub=true
         ·have hxy:¬x=y:=fun e=>hall ⟨⟨hat,hbt⟩,e⟩
          rw [decide_eq_false hxy] at hq
          subst hat hbt
          clear hua hub hall hxy
          go_upto_region 15 with fail
          go_quiet (fail)
          go_wp2
          go_roundw
          case rel=>repeat (first | exact ⟨b+1,m+nq,by omega,by go_num,HR.out,rfl⟩ | (refine ⟨?_,rfl⟩;exact ⟨b+1,m+nq,by omega,by go_num,HR.out,rfl⟩) | apply Exists.intro)
          case measure=>(simp [intOf];try omega)
         ·have hbf:ub=false:=by simpa using hbt
          subst hat hbf
          clear hua hub hall hbt hq
          go_upto_region 15 with fail
          go_quiet (fail)
          go_wp2
          go_roundw
          case rel=>repeat (first | exact ⟨b+1,m+nq,by omega,by go_num,HR.out,rfl⟩ | (refine ⟨?_,rfl⟩;exact ⟨b+1,m+nq,by omega,by go_num,HR.out,rfl⟩) | apply Exists.intro)
          case measure=>(simp [intOf];try omega)
        ·have haf:ua=false:=by simpa using hat
         subst haf
         clear hua hub hall hat hq
         go_upto_region 15 with fail
         go_quiet (fail)
         go_wp2
         go_roundw
         case rel=>repeat (first | exact ⟨b+1,m+nq,by omega,by go_num,HR.out,rfl⟩ | (refine ⟨?_,rfl⟩;exact ⟨b+1,m+nq,by omega,by go_num,HR.out,rfl⟩) | apply Exists.intro)
         case measure=>(simp [intOf];try omega)
      ·have j2:¬(b:Int) < (a:Int):=by omega
       have hr:noTwo P (corsN T) (a+1) 0:=fun p q h1 h2 h3 h4=>hno p q (by omega) h2 h3 h4
       have HR:=hide hr
       clear hr hno
       go_wp2
       go_roundw
       case rel=>repeat (first | exact ⟨a+1,m,by omega,by go_num,HR.out,rfl⟩ | (refine ⟨?_,rfl⟩;exact ⟨a+1,m,by omega,by go_num,HR.out,rfl⟩) | apply Exists.intro)
       case measure=>(simp [intOf];try omega)
    ·obtain rfl:a=np:=by omega
     have j1:¬(a:Int) < (a:Int):=by omega
     have hr:D=false:=by rw [HK.out.2.2.2.2.2.1];exact dup_none hno HK.out.2.2.2.2.1
     have HR:=hide hr
     clear hr hno
     go_wp2
     go_ret
     exact ⟨by rw [HR.out];rfl,below_drewN HV.out.2.1 _⟩
end Go.Proofs.YtmemofonebphfaaGreat
namespace Go.Proofs.YtmemofonebphfaaGreat
open Go.RowKit Go.Sort
def SlN (w:World) (A:Option Addr) (n:Nat) (ts:List Tri):Prop:=n=ts.length∧Sl encT 9 w w.heap.size A ts
theorem fits_rng {P:List Pt} (h:outR 0 2097151 P=false):∀p∈P,fitsP p:=fun p hp=>by
 have:=List.any_eq_false.1 h p hp
 simp only [decide_eq_true_eq] at this
 unfold fitsP fits
 omega
set_option maxRecDepth 100000 in
set_option maxHeartbeats 64000000 in
theorem subdivR_any (Ap At Ac Ao Ad:Option Addr) (cp ct cc oc dc:Nat) (c:Ctl) (w:World) (hm:CtlM w w.heap.size Ap At Ac Ao Ad c) (hb:CtlB c) (hfs:fits c.steps) (hnb:errC c=0→NoBack c.tris):
  Calls Tryz.prog 37 #[vCtl Ap c.points.length cp At c.tris.length ct Ac c.creases.length cc Ao c.corners.length oc c.steps Ad c.details.length dc] w fun e w'=>∃A1 n1 c1,e= .returned (.tuple #[.slice A1 n1 c1, .int .i64 (errS c)])∧SlN w' A1 n1 (subR c)∧Below w.heap.size w w':=by
 have kf:=fun (W:World) (hW:Below w.heap.size w W)=>Fine9_any Ap At Ac Ao Ad cp ct cc oc dc c W (hm.below hW hW.size) hb hfs hnb
 obtain ⟨P,hP⟩:∃p,p=finP c:=⟨_,rfl⟩
 obtain ⟨T,hT⟩:∃t,t=finT c:=⟨_,rfl⟩
 have hsz:errC c=0→P.length≤1000000∧T.length≤300000∧∀x∈T,(0≤x.1∧x.1 < (P.length:Int))∧(0≤x.2.1∧x.2.1 < (P.length:Int))∧0≤x.2.2∧x.2.2 < (P.length:Int):=fun h0=>by
  have hR:=right_of h0
  have hN:=hnb h0
  have h1:=level_small hR hN hb (k:=c.steps.toNat) (Nat.le_refl _)
  rw [hP,hT]
  unfold finP finT
  rw [if_pos h0,if_pos h0]
  exact ⟨h1.p,h1.t,(Ctl.level_right hR hN c.steps.toNat).cls.idx⟩
 have hes:errS c=if errC c≠0 then errC c else if outR 0 2097151 P=true then 3 else if dupB P (corsN T)=true then 24 else 0:=by rw [hP,hT];rfl
 have hsr:subR c=if errS c=0 then canonT (T.map (triP9 P)) else []:=by rw [hP,hT];rfl
 rw [←hP,←hT] at kf
 obtain ⟨np,hnp⟩:∃n,n=c.points.length:=⟨_,rfl⟩
 obtain ⟨nt,hnt⟩:∃n,n=c.tris.length:=⟨_,rfl⟩
 obtain ⟨nc,hnc⟩:∃n,n=c.creases.length:=⟨_,rfl⟩
 obtain ⟨no,hno⟩:∃n,n=c.corners.length:=⟨_,rfl⟩
 obtain ⟨nd,hnd⟩:∃n,n=c.details.length:=⟨_,rfl⟩
 obtain ⟨st,hst⟩:∃n,n=c.steps:=⟨_,rfl⟩
 obtain ⟨er,her⟩:∃n,n=errC c:=⟨_,rfl⟩
 obtain ⟨ES,hES⟩:∃n,n=errS c:=⟨_,rfl⟩
 obtain ⟨PN,hPN⟩:∃n,n=P.length:=⟨_,rfl⟩
 obtain ⟨TN,hTN⟩:∃n,n=T.length:=⟨_,rfl⟩
 rw [←hES] at hes hsr
 rw [←her] at hes hsz
 rw [←hPN,←hTN] at hsz
 rw [hsr,←hnp,←hnt,←hnc,←hno,←hnd,←hst,←hES]
 simp only [←hnp,←hnt,←hnc,←hno,←hnd,←hst,←her,←hPN,←hTN] at kf
 have HK:=hide (And.intro kf (And.intro hsz (And.intro hes (And.intro hPN hTN))))
 clear kf hsz hes hsr hm hb hfs hnb hP hT hnp hnt hnc hno hnd hst her hES hPN hTN
 go_enter Tryz.func37,Tryz.ntmps37
 go_upto_region 1 with fail
 obtain ⟨g1,hg1⟩:∃g,g=w.heap.size:=⟨_,rfl⟩
 obtain ⟨X0,hX⟩:∃W,W=w.alloc (.cells (cCtl Ap np cp At nt ct Ac nc cc Ao no oc st Ad nd dc) 32):=⟨_,rfl⟩
 rw [←hX,←hg1]
 have hb1:Blk X0 g1 32 (cCtl Ap np cp At nt ct Ac nc cc Ao no oc st Ad nd dc):=by rw [hX,hg1];exact Blk.new _ _ _
 have hBX:Below w.heap.size w X0:=by rw [hX];exact (Below.refl _ w).alloc (Nat.le_refl _) _
 obtain ⟨z0,z1,z2,z3,z4,z5⟩:=hb1.six9
 have hgl:=hb1.lt
 have H0:=hide hBX
 clear hb1 hBX hX hg1
 by_cases he:er=0
 ·subst he
  obtain ⟨hPl,hTl,hidx⟩:=HK.out.2.1 rfl
  have hes:=HK.out.2.2.1
  rw [if_neg (by simp)] at hes
  have HE:=hide (And.intro hes hidx)
  clear hes hidx
  go_upto_region 4 with (go_at_call 32;refine (HK.out.1 X0 H0.out).mono ?_;rintro e X1 ⟨A1,c1,A2,c2,rfl,ho1,ho2,hB⟩;have H1:=hide (And.intro (ho1.sl encP_len (Nat.le_refl _)) (And.intro (ho2.sl encN3_len (Nat.le_refl _)) (H0.out.trans (hB.mono H0.out.size))));clear ho1 ho2 hB)
  clear z0 z1 z2 z3 z4 z5 hgl
  have kr:=ranged_any A1 c1 P 0 2097151 X1 H1.out.1 (by rw [←HK.out.2.2.2.1];omega)
  obtain ⟨f1,hf1⟩:∃f,f=outR 0 2097151 P:=⟨_,rfl⟩
  rw [←hf1,←HK.out.2.2.2.1] at kr
  have HR:=hide (And.intro kr hf1)
  clear kr hf1
  cases f1 with
  | true=>
   have hes:=HE.out.1
   rw [←HR.out.2,if_pos rfl] at hes
   subst hes
   go_wp2_with (go_at_call 67;refine HR.out.1.mono ?_;rintro e X2 ⟨rfl,hB⟩;have H2:=hide (H1.out.2.2.trans (hB.mono H1.out.2.2.size));clear hB)
   go_ret2
   exact ⟨none,0,⟨0,rfl⟩,⟨rfl,Sl.nil⟩,H2.out⟩
  | false=>
   have hes:=HE.out.1
   rw [←HR.out.2,if_neg (by simp)] at hes
   have hfp:=fits_rng HR.out.2.symm
   have HQ:=hide (And.intro hes hfp)
   clear hes hfp
   go_upto_region 7 with (go_at_call 67;refine HR.out.1.mono ?_;rintro e X2 ⟨rfl,hB⟩;have H2:=hide (And.intro ((H1.out.1.below hB).more hB.size) (And.intro ((H1.out.2.1.below hB).more hB.size) (H1.out.2.2.trans (hB.mono H1.out.2.2.size))));clear hB)
   have kt:=twice9_any A1 A2 c1 c2 P T X2 H2.out.1 H2.out.2.1 (by rw [←HK.out.2.2.2.1];exact hPl) (by rw [←HK.out.2.2.2.2];omega) HQ.out.2 (by rw [←HK.out.2.2.2.1];exact HE.out.2)
   obtain ⟨f2,hf2⟩:∃f,f=dupB P (corsN T):=⟨_,rfl⟩
   rw [←hf2,←HK.out.2.2.2.1,←HK.out.2.2.2.2] at kt
   have HS:=hide (And.intro kt hf2)
   clear kt hf2
   cases f2 with
   | true=>
    have hes:=HQ.out.1
    rw [←HS.out.2,if_pos rfl] at hes
    subst hes
    go_wp2_with (go_at_call 68;refine HS.out.1.mono ?_;rintro e X3 ⟨rfl,hB⟩;have H3:=hide (H2.out.2.2.trans (hB.mono H2.out.2.2.size));clear hB)
    go_ret2
    exact ⟨none,0,⟨0,rfl⟩,⟨rfl,Sl.nil⟩,H3.out⟩
   | false=>
    have hes:=HQ.out.1
    rw [←HS.out.2,if_neg (by simp)] at hes
    subst hes
    go_upto_region 12 with (go_at_call 68;refine HS.out.1.mono ?_;rintro e X3 ⟨rfl,hB⟩;have H3:=hide (And.intro (H2.out.1.below hB) (And.intro (H2.out.2.1.below hB) (And.intro (H2.out.2.2.trans (hB.mono H2.out.2.2.size)) hB.size)));clear hB)
    go_loopw [9,10] (fun ov iv wr=>∃i:Nat,i≤TN∧iv= .int .i64 i∧Own encT 9 46 wr X3.heap.size ov i ((T.take i).map (triP9 P))∧Below X3.heap.size X3 wr) (fun _ iv _=>TN - (intOf iv).toNat)
    case atStart=>exact ⟨0,by omega,rfl,Own.nil,Below.refl _ _⟩
    case round=>
     obtain ⟨i,hi,rfl,hO,hB⟩:=hrel
     obtain ⟨U,rfl⟩:∃x,x=wr:=⟨_,rfl⟩
     obtain ⟨Al,cl,rfl⟩:=hO.form
     by_cases hlt:i < TN
     ·have i1:(i:Int) < (TN:Int):=by omega
      obtain ⟨x,hx⟩:∃x,T[i]? =some x:=⟨_,List.getElem?_eq_getElem (by rw [←HK.out.2.2.2.2];exact hlt)⟩
      obtain ⟨⟨a1,a2⟩,⟨b1,b2⟩,d1,d2⟩:=HE.out.2 x (List.mem_of_getElem? hx)
      have htk:(T.take (i+1)).map (triP9 P)=(T.take i).map (triP9 P)++ [triP9 P x]:=by rw [List.take_add_one,hx,List.map_append];rfl
      have hBu:Below X2.heap.size X2 U∨True:= .inr trivial
      obtain ⟨bt,ot,hA,hbt,f0,f1,f2⟩:=(((H3.out.2.1.more H3.out.2.2.2).below hB)).n3 hx
      subst hA
      obtain ⟨x1,x2,x3⟩:=x
      simp only at a1 a2 b1 b2 d1 d2 f0 f1 f2 htk
      obtain ⟨y1,rfl⟩:∃y:Nat,x1=y:=⟨x1.toNat,by omega⟩
      obtain ⟨y2,rfl⟩:∃y:Nat,x2=y:=⟨x2.toNat,by omega⟩
      obtain ⟨y3,rfl⟩:∃y:Nat,x3=y:=⟨x3.toNat,by omega⟩
      obtain ⟨q1,hq1⟩:∃q,P[y1]? =some q:=⟨_,List.getElem?_eq_getElem (by rw [←HK.out.2.2.2.1];omega)⟩
      have l1:(y1:Int) < (PN:Int):=by omega
      obtain ⟨q2,hq2⟩:∃q,P[y2]? =some q:=⟨_,List.getElem?_eq_getElem (by rw [←HK.out.2.2.2.1];omega)⟩
      have l2:(y2:Int) < (PN:Int):=by omega
      obtain ⟨q3,hq3⟩:∃q,P[y3]? =some q:=⟨_,List.getElem?_eq_getElem (by rw [←HK.out.2.2.2.1];omega)⟩
      have l3:(y3:Int) < (PN:Int):=by omega
      have hSP:Sl encP 3 X3 X3.heap.size A1 P:=H3.out.1.more H3.out.2.2.2
      obtain ⟨bp,op,hA,hbp,_⟩:=hSP.at hq1
      subst hA
      obtain ⟨c10,c11,c12,hbpU1⟩:=(hSP.ptW (Nat.le_refl _) hq1).2 U hB
      obtain ⟨c20,c21,c22,hbpU2⟩:=(hSP.ptW (Nat.le_refl _) hq2).2 U hB
      obtain ⟨c30,c31,c32,hbpU3⟩:=(hSP.ptW (Nat.le_refl _) hq3).2 U hB
      have htr:triP9 P ((y1:Int),(y2:Int),(y3:Int))=(q1,q2,q3):=by
       show (gP P y1,gP P y2,gP P y3)=_
       rw [gP_at hq1,gP_at hq2,gP_at hq3]
      rw [htr] at htk
      have hbtU:bt < U.heap.size:=Nat.lt_of_lt_of_le hbt hB.size
      have HU:=hide (And.intro hO (And.intro hB htk))
      have HF:=hide (And.intro f0 (And.intro f1 (And.intro f2 hbtU)))
      have HC:=hide (And.intro (And.intro c10 (And.intro c11 c12)) (And.intro (And.intro c20 (And.intro c21 c22)) (And.intro (And.intro c30 (And.intro c31 c32)) hbpU1)))
      clear hO hB htk htr f0 f1 f2 hbtU hbt hbp hSP hx hq1 hq2 hq3 c10 c11 c12 c20 c21 c22 c30 c31 c32 hbpU1 hbpU2 hbpU3 hBu
      go_upto_region 14 with fail
      have HSB:=hide (show Below U.heap.size U U.drew from (Below.refl _ U).drew)
      refine wp_region_mix (fun W=>Below U.heap.size U W) [0,1,2,3,4,5,6,7,8,9,10,11,12,13,14,15,16,17,18,19,20,21,22,23,24,25] [0,1,2,3,4,5,6,7,8,9,10,11,12,13,14,15,16,17,18,19,20,21,22,23,24,25,26,27,28] mixed_ok (by kernel_rfl) ?_
      refine wpMix_q (v:=(.slice Al i cl)) rfl rfl (fun _ _ _ h=>h) HSB.out ⟨rfl,fun _ _=>by simp [go_sem]⟩ ?_
      refine wpMix_q (v:=(.slice (some ⟨bp,op,none⟩) PN c1)) rfl rfl (fun _ _ _ h=>h) HSB.out ⟨rfl,fun _ _=>by simp [go_sem]⟩ ?_
      refine wpMix_q (v:=(.slice (some ⟨bt,ot,none⟩) TN c2)) rfl rfl (fun _ _ _ h=>h) HSB.out ⟨rfl,fun _ _=>by simp [go_sem]⟩ ?_
      refine wpMix_q (v:=(.int .i64 i)) rfl rfl (fun _ _ _ h=>h) HSB.out ⟨rfl,fun _ _=>by simp [go_sem]⟩ ?_
      refine wpMix_q (v:=(.pointer (some ⟨bt,ot+i*3,none⟩))) rfl rfl (fun _ _ _ h=>h) HSB.out ⟨rfl,fun _ _=>by simp [go_sem,i1]⟩ ?_
      refine wpMix_q (v:=(.pointer (some ⟨bt,ot+i*3,none⟩))) rfl rfl (fun _ _ _ h=>h) HSB.out ⟨rfl,fun _ _=>by simp [go_sem]⟩ ?_
      simp only [List.getElem_toArray,List.getElem_cons_succ,List.getElem_cons_zero,Act.put,List.setIfInBounds_toArray,List.set_cons_succ,List.set_cons_zero]
      refine wpMix_q (v:=(.int .i64 y1)) rfl rfl (fun _ _ _ h=>h) HSB.out ⟨rfl,fun _ h'=>by have a0:=(h'.cell (p:=⟨bt,ot+i*3,none⟩) HF.out.2.2.2).trans HF.out.1;simp [go_sem,a0]⟩ ?_
      refine wpMix_q (v:=(.pointer (some ⟨bp,op+y1*3,none⟩))) rfl rfl (fun _ _ _ h=>h) HSB.out ⟨rfl,fun _ _=>by simp [go_sem,l1]⟩ ?_
      refine wpMix_q (v:=(.agg #[.int .i64 q1.1, .int .i64 q1.2.1, .int .i64 q1.2.2])) rfl rfl (fun _ _ _ h=>h) HSB.out ⟨rfl,fun _ h'=>by have e0:=(h'.cell (p:=⟨bp,op+y1*3,none⟩) HC.out.2.2.2).trans HC.out.1.1;have e1:=(h'.cell (p:=⟨bp,op+y1*3+1,none⟩) HC.out.2.2.2).trans HC.out.1.2.1;have e2:=(h'.cell (p:=⟨bp,op+y1*3+2,none⟩) HC.out.2.2.2).trans HC.out.1.2.2;simp [go_sem,e0,e1,e2]⟩ ?_
      refine wpMix_q (v:=(.slice (some ⟨bp,op,none⟩) PN c1)) rfl rfl (fun _ _ _ h=>h) HSB.out ⟨rfl,fun _ _=>by simp [go_sem]⟩ ?_
      refine wpMix_q (v:=(.slice (some ⟨bt,ot,none⟩) TN c2)) rfl rfl (fun _ _ _ h=>h) HSB.out ⟨rfl,fun _ _=>by simp [go_sem]⟩ ?_
      refine wpMix_q (v:=(.int .i64 i)) rfl rfl (fun _ _ _ h=>h) HSB.out ⟨rfl,fun _ _=>by simp [go_sem]⟩ ?_
      simp only [List.getElem_toArray,List.getElem_cons_succ,List.getElem_cons_zero,Act.put,List.setIfInBounds_toArray,List.set_cons_succ,List.set_cons_zero]
      refine wpMix_q (v:=(.pointer (some ⟨bt,ot+i*3,none⟩))) rfl rfl (fun _ _ _ h=>h) HSB.out ⟨rfl,fun _ _=>by simp [go_sem,i1]⟩ ?_
      refine wpMix_q (v:=(.pointer (some ⟨bt,ot+i*3+1,none⟩))) rfl rfl (fun _ _ _ h=>h) HSB.out ⟨rfl,fun _ _=>by simp [go_sem]⟩ ?_
      refine wpMix_q (v:=(.int .i64 y2)) rfl rfl (fun _ _ _ h=>h) HSB.out ⟨rfl,fun _ h'=>by have a0:=(h'.cell (p:=⟨bt,ot+i*3+1,none⟩) HF.out.2.2.2).trans HF.out.2.1;simp [go_sem,a0]⟩ ?_
      refine wpMix_q (v:=(.pointer (some ⟨bp,op+y2*3,none⟩))) rfl rfl (fun _ _ _ h=>h) HSB.out ⟨rfl,fun _ _=>by simp [go_sem,l2]⟩ ?_
      refine wpMix_q (v:=(.agg #[.int .i64 q2.1, .int .i64 q2.2.1, .int .i64 q2.2.2])) rfl rfl (fun _ _ _ h=>h) HSB.out ⟨rfl,fun _ h'=>by have e0:=(h'.cell (p:=⟨bp,op+y2*3,none⟩) HC.out.2.2.2).trans HC.out.2.1.1;have e1:=(h'.cell (p:=⟨bp,op+y2*3+1,none⟩) HC.out.2.2.2).trans HC.out.2.1.2.1;have e2:=(h'.cell (p:=⟨bp,op+y2*3+2,none⟩) HC.out.2.2.2).trans HC.out.2.1.2.2;simp [go_sem,e0,e1,e2]⟩ ?_
      refine wpMix_q (v:=(.slice (some ⟨bp,op,none⟩) PN c1)) rfl rfl (fun _ _ _ h=>h) HSB.out ⟨rfl,fun _ _=>by simp [go_sem]⟩ ?_
      simp only [List.getElem_toArray,List.getElem_cons_succ,List.getElem_cons_zero,Act.put,List.setIfInBounds_toArray,List.set_cons_succ,List.set_cons_zero]
      refine wpMix_q (v:=(.slice (some ⟨bt,ot,none⟩) TN c2)) rfl rfl (fun _ _ _ h=>h) HSB.out ⟨rfl,fun _ _=>by simp [go_sem]⟩ ?_
      refine wpMix_q (v:=(.int .i64 i)) rfl rfl (fun _ _ _ h=>h) HSB.out ⟨rfl,fun _ _=>by simp [go_sem]⟩ ?_
      refine wpMix_q (v:=(.pointer (some ⟨bt,ot+i*3,none⟩))) rfl rfl (fun _ _ _ h=>h) HSB.out ⟨rfl,fun _ _=>by simp [go_sem,i1]⟩ ?_
      refine wpMix_q (v:=(.pointer (some ⟨bt,ot+i*3+2,none⟩))) rfl rfl (fun _ _ _ h=>h) HSB.out ⟨rfl,fun _ _=>by simp [go_sem]⟩ ?_
      refine wpMix_q (v:=(.int .i64 y3)) rfl rfl (fun _ _ _ h=>h) HSB.out ⟨rfl,fun _ h'=>by have a0:=(h'.cell (p:=⟨bt,ot+i*3+2,none⟩) HF.out.2.2.2).trans HF.out.2.2.1;simp [go_sem,a0]⟩ ?_
      refine wpMix_q (v:=(.pointer (some ⟨bp,op+y3*3,none⟩))) rfl rfl (fun _ _ _ h=>h) HSB.out ⟨rfl,fun _ _=>by simp [go_sem,l3]⟩ ?_
      simp only [List.getElem_toArray,List.getElem_cons_succ,List.getElem_cons_zero,Act.put,List.setIfInBounds_toArray,List.set_cons_succ,List.set_cons_zero]
      refine wpMix_q (v:=(.agg #[.int .i64 q3.1, .int .i64 q3.2.1, .int .i64 q3.2.2])) rfl rfl (fun _ _ _ h=>h) HSB.out ⟨rfl,fun _ h'=>by have e0:=(h'.cell (p:=⟨bp,op+y3*3,none⟩) HC.out.2.2.2).trans HC.out.2.2.1.1;have e1:=(h'.cell (p:=⟨bp,op+y3*3+1,none⟩) HC.out.2.2.2).trans HC.out.2.2.1.2.1;have e2:=(h'.cell (p:=⟨bp,op+y3*3+2,none⟩) HC.out.2.2.2).trans HC.out.2.2.1.2.2;simp [go_sem,e0,e1,e2]⟩ ?_
      refine wpMix_q (v:=(.agg #[.int .i64 q1.1, .int .i64 q1.2.1, .int .i64 q1.2.2, .int .i64 q2.1, .int .i64 q2.2.1, .int .i64 q2.2.2, .int .i64 q3.1, .int .i64 q3.2.1, .int .i64 q3.2.2])) rfl rfl (fun _ _ _ h=>h) HSB.out ⟨rfl,fun _ _=>by simp [go_sem]⟩ ?_
      simp only [List.getElem_toArray,List.getElem_cons_succ,List.getElem_cons_zero,Act.put,List.setIfInBounds_toArray,List.set_cons_succ,List.set_cons_zero]
      refine wpMix_n rfl rfl ?_
      go_wp2_with fail
      refine ⟨fun _=>HSB.out.alloc (Nat.le_refl _) _,?_⟩
      refine wpMix_tail _ [_,_] (by kernel_rfl) rfl ?_
      have hal:Below U.heap.size U (U.drew.alloc (.cells #[.int .i64 q1.1, .int .i64 q1.2.1, .int .i64 q1.2.2, .int .i64 q2.1, .int .i64 q2.2.1, .int .i64 q2.2.2, .int .i64 q3.1, .int .i64 q3.2.1, .int .i64 q3.2.2] 46)):=(Below.refl _ U).drew.alloc (Nat.le_refl _) _
      have hXU:=HU.out.2.1.size
      refine wpList_append1 rfl _ _ _ rfl Tryz.underlying44 infoT rfl (by omega) encT_len encT_one rfl (HU.out.1.below hal (Nat.le_refl _)) U.heap.size 1 ((q1,q2,q3):Tri) rfl (Blk.new _ _ _) (by unfold maxLen;omega) (by omega) (Nat.le_trans hXU hal.size) ?_
      intro g6 cap6 w6 hown6 hg6 hB6 hat6 hgb6 hlt6
      have hB7:=(HU.out.2.1.trans (hal.mono hXU)).trans hB6
      rw [←HU.out.2.2] at hown6
      have H6:=hide (And.intro hown6 hB7)
      clear hown6 hg6 hB6 hat6 hgb6 hlt6 hB7 hal HSB
      go_wp2
      go_roundw
      case rel=>repeat (first | exact ⟨i+1,by omega,by go_num,H6.out.1,H6.out.2⟩ | (refine ⟨?_,rfl⟩;exact ⟨i+1,by omega,by go_num,H6.out.1,H6.out.2⟩) | apply Exists.intro)
      case measure=>(simp [intOf];try omega)
     ·obtain rfl:i=TN:=by omega
      have i1:¬(i:Int) < (i:Int):=by omega
      rw [List.take_of_length_le (by rw [←HK.out.2.2.2.2];exact Nat.le_refl _)] at hO
      have hl:=hO.1
      have hcn:=canon04_any Al cl (T.map (triP9 P)) U (hO.sl encT_len (Nat.le_refl _)) (by rw [←hl];omega) (fun t ht=>by
       obtain ⟨x,hx,rfl⟩:=List.mem_map.1 ht
       have key:∀n:Int,0≤n→n < (PN:Int)→fitsP (gP P n):=fun n h0 h1=>by
        obtain ⟨m,rfl⟩:∃m:Nat,n=m:=⟨n.toNat,by omega⟩
        obtain ⟨z,hz⟩:∃z,P[m]? =some z:=⟨_,List.getElem?_eq_getElem (by rw [←HK.out.2.2.2.1];omega)⟩
        rw [gP_at hz]
        exact HQ.out.2 z (List.mem_of_getElem? hz)
       have h:=HE.out.2 x hx
       exact ⟨key _ h.1.1 h.1.2,key _ h.2.1.1 h.2.1.2,key _ h.2.2.1 h.2.2.2⟩)
      rw [←hl] at hcn
      have hcl:i=(canonT (T.map (triP9 P))).length:=by rw [hl];exact (canonO_length _).symm
      have HV:=hide (And.intro (H3.out.2.2.1.trans (hB.mono H3.out.2.2.1.size)) (And.intro hcn hcl))
      clear hO hB hl hcn hlt hi hcl
      go_wp2_with (go_at_call 30;refine HV.out.2.1.mono ?_;rintro e W9 ⟨A9,c9,rfl,hB9,hs9,_⟩;have H9:=hide (And.intro hs9 (HV.out.1.trans (hB9.mono HV.out.1.size)));clear hs9 hB9)
      go_ret2
      exact ⟨A9,i,⟨c9,rfl⟩,⟨HV.out.2.2,H9.out.1⟩,H9.out.2⟩
 ·have hes:=HK.out.2.2.1
  rw [if_pos he] at hes
  have hne:(er !=0)=true:=by simpa using he
  subst hes
  go_wp2_with (go_at_call 32;refine (HK.out.1 X0 H0.out).mono ?_;rintro e X1 ⟨A1,c1,A2,c2,rfl,ho1,ho2,hB⟩;have H1:=hide (H0.out.trans (hB.mono H0.out.size));clear ho1 ho2 hB)
  go_ret2
  first | exact ⟨none,0,⟨0,rfl⟩,⟨rfl,Sl.nil⟩,H1.out⟩ | (rw [if_neg he];exact ⟨none,0,⟨0,rfl⟩,⟨rfl,Sl.nil⟩,H1.out⟩)
end Go.Proofs.YtmemofonebphfaaGreat
