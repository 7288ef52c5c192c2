import Derived.Test.YtmemofonebphfaaGreatV19
import Derived.Test.YtmemofonebphfaaGreatV25
import Derived.Test.YtmemofonebphfaaGreatV26
namespace Go.Proofs.YtmemofonebphfaaGreat
open Go.RowKit Go.Sort Go.WideMaps Go.Maps
set_option maxRecDepth 100000
def NxtM (w:World) (b n:Nat) (nx:Ed→Option Pt):Prop:=MapK Tryz.prog 147 vE fitsE w b n fun e=>(nx e).map vP
def CntM (w:World) (b n:Nat) (ct:Pt→Nat):Prop:=∃m,MapK Tryz.prog 43 vP fitsP w b n m∧∀p,(m p).getD (.int .i64 0)= .int .i64 (ct p:Nat)
theorem NxtM.made (w:World):NxtM (w.alloc (.map #[] 0)) w.heap.size 0 fun _=>none:=MapK.made Tryz.prog 147 vE fitsE w
theorem CntM.made (w:World):CntM (w.alloc (.map #[] 0)) w.heap.size 0 fun _=>0:=⟨_,MapK.made Tryz.prog 43 vP fitsP w,fun _=>rfl⟩
theorem CntM.lt {w:World} {b n:Nat} {ct:Pt→Nat} (h:CntM w b n ct):b < w.heap.size:=by
 obtain ⟨m,h1,_⟩:=h
 exact h1.lt
theorem CntM.below {w w':World} {b n B:Nat} {ct:Pt→Nat} (h:CntM w b n ct) (hb:Below B w w') (hB:b < B):CntM w' b n ct:=by
 obtain ⟨m,h1,h2⟩:=h
 exact ⟨m,h1.below hb hB,h2⟩
theorem CntM.kept {w w':World} {b n:Nat} {ct:Pt→Nat} {row:Option Nat} (h:CntM w b n ct) (hg:w.grownBy w' row) (hne:some b≠row):CntM w' b n ct:=by
 obtain ⟨m,h1,h2⟩:=h
 exact ⟨m,h1.kept hg hne,h2⟩
theorem CntM.same {w:World} {b n:Nat} {ct ct':Pt→Nat} (h:CntM w b n ct) (he:∀p,ct p=ct' p):CntM w b n ct':=by
 have:ct=ct':=funext he
 exact this▸h
theorem CntM.look {w:World} {b n:Nat} {ct:Pt→Nat} (h:CntM w b n ct) (p:Pt) (hp:fitsP p):(Instr.lookup 95 (.map (some b)) (vP p) false).run Tryz.prog w= .ok (.int .i64 (ct p:Nat)) w:=by
 obtain ⟨m,h1,h2⟩:=h
 have:=h1.lookup kfP4 (t:=95) (e:=3) Tryz.underlying95 (z:= .int .i64 0) rfl p hp
 rw [h2] at this
 exact this
theorem NxtM.look {w:World} {b n:Nat} {nx:Ed→Option Pt} (h:NxtM w b n nx) (e:Ed) (he:fitsE e):(Instr.lookup 152 (.map (some b)) (vE e) false).run Tryz.prog w= .ok (vP ((nx e).getD (0,0,0))) w:=by
 have:=MapK.lookup kfE4 (t:=152) (e:=43) h Tryz.underlying152 (z:=vP (0,0,0)) rfl e he
 rw [this]
 cases nx e <;>rfl
theorem NxtM.look_ok {w:World} {b n:Nat} {nx:Ed→Option Pt} (h:NxtM w b n nx) (e:Ed) (he:fitsE e):(Instr.lookup 152 (.map (some b)) (vE e) true).run Tryz.prog w= .ok (.tuple #[vP ((nx e).getD (0,0,0)), .bool (nx e).isSome]) w:=by
 have:=MapK.lookup_ok kfE4 (t:=152) (e:=43) h Tryz.underlying152 (z:=vP (0,0,0)) rfl e he
 rw [this]
 cases nx e <;>rfl
theorem NxtM.put {w:World} {b n:Nat} {nx:Ed→Option Pt} (h:NxtM w b n nx) (hn:n < maxLen) (e:Ed) (he:fitsE e) (x:Pt):
  ∃w',(Instr.mapUpdate 152 (.map (some b)) (vE e) (vP x)).run Tryz.prog w= .ok () w'∧NxtM w' b (n+1) (updE nx e x)∧w.grownBy w' (some b)∧w'.heap.size=w.heap.size:=by
 obtain ⟨w',h1,h2,h3,h4⟩:=MapK.update kfE4 (t:=152) (e:=43) h Tryz.underlying152 hn e he (vP x)
 refine ⟨w',h1,h2.same fun q=> ?_,h3,h4⟩
 unfold updE
 by_cases hq:q=e
 ·rw [if_pos hq,if_pos hq];rfl
 ·rw [if_neg hq,if_neg hq]
theorem CntM.inc {w:World} {b n:Nat} {ct:Pt→Nat} (h:CntM w b n ct) (hn:n < maxLen) (p:Pt) (hp:fitsP p):
  ∃(st:Nat) (w1:World),(Instr.mapEntry 95 (.map (some b)) (vP p)).run Tryz.prog w= .ok (.tuple #[.int .i64 (ct p:Nat),goInt st]) w1∧w.grownBy w1 (some b)∧w1.heap.size=w.heap.size∧CntM w1 b (n+1) ct∧
   ∀w2:World,w2.heap[b]? =w1.heap[b]? →∃w3,(Instr.entryStore 95 (.map (some b)) (goInt st) (.int .i64 ((ct p+1:Nat):Int))).run Tryz.prog w2= .ok () w3∧CntM w3 b (n+1) (fun q=>if q=p then ct p+1 else ct q)∧w2.grownBy w3 (some b)∧w3.heap.size=w2.heap.size:=by
 obtain ⟨m,h1,h2⟩:=h
 obtain ⟨st,w1,hrun,hg1,hz1,hM1,_,hst⟩:=h1.entry4 kfP4 lawP4 (t:=95) (e:=3) Tryz.underlying95 (z:= .int .i64 0) (fun _=>rfl) hn p hp
 rw [h2] at hrun hM1
 refine ⟨st,w1,hrun,hg1,hz1,⟨_,hM1,fun q=> ?_⟩,fun w2 hw2=> ?_⟩
 ·by_cases hq:q=p
  ·subst hq;rw [if_pos rfl];rfl
  ·rw [if_neg hq];exact h2 q
 ·obtain ⟨w3,a,b',c,d⟩:=hst w2 (.int .i64 ((ct p+1:Nat):Int)) hw2
  refine ⟨w3,a,⟨_,b',fun q=> ?_⟩,c,d⟩
  show (if q=p then some (Value.int .i64 ((ct p+1:Nat):Int)) else m q).getD _= .int .i64 ((if q=p then ct p+1 else ct q:Nat):Int)
  by_cases hq:q=p
  ·rw [if_pos hq,if_pos hq];rfl
  ·rw [if_neg hq,if_neg hq];exact h2 q
theorem cntJ_le (t:Tri) (p:Pt) (j:Nat):cntJ t p j≤j:=by
 induction j with
 | zero=>exact Nat.le_refl _
 | succ j ih=>rw [cntJ_succ];split <;>omega
theorem cntC_le (l:List Tri) (p:Pt):cntC l p≤3*l.length:=by
 unfold cntC pinL
 induction l with
 | nil=>exact Nat.le_refl _
 | cons t l ih=>
  rw [List.flatMap_cons,List.length_append,List.length_cons]
  have:(pinN t p 3).length≤3:=cntJ_le t p 3
  omega
theorem edJ_fits {t:Tri} (h:fitsT t) (j:Nat):fitsE (edJ t j):=⟨corner_fits h _,corner_fits h _⟩
theorem prgO_stop (b:Pt→Option Pt) (s:Pt) (m f size:Nat) (a:Pt) (h:a=s∨m < size):prgO b s m f size a=(decide (a=s) && decide (size < m)):=by
 cases f with
 | zero=>rfl
 | succ f=>unfold prgO;rw [if_pos h]
theorem prgO_none (b:Pt→Option Pt) (s:Pt) (m f size:Nat) (a:Pt) (h:a≠s) (hb:b a=none):prgO b s m f size a=(decide (a=s) && decide (size < m)):=by
 cases f with
 | zero=>rfl
 | succ f=>
  rw [decide_eq_false h,Bool.false_and]
  unfold prgO
  rw [hb]
  split
  ·rw [decide_eq_false h,Bool.false_and]
  ·rfl
theorem prgO_some (b:Pt→Option Pt) (s:Pt) (m f size:Nat) (a x:Pt) (h:a≠s) (hm:size≤m) (hb:b a=some x):prgO b s m (f+1) size a=prgO b s m f (size+1) x:=by
 conv=>lhs;unfold prgO
 rw [hb,if_neg (by rintro (h1 | h1);exact h h1;omega)]
structure PinS (w0 w:World) (nb cb n1 n2:Nat) (nx:Ed→Option Pt) (ct:Pt→Nat):Prop where
 nxt:NxtM w nb n1 nx
 cnt:CntM w cb n2 ct
 bel:Below w0.heap.size w0 w
theorem PinS.step {w0 w w':World} {nb cb n1 n2:Nat} {nx:Ed→Option Pt} {ct:Pt→Nat} (h:PinS w0 w nb cb n1 n2 nx ct) (hb:Below w.heap.size w w'):PinS w0 w' nb cb n1 n2 nx ct:=
 ⟨h.nxt.below hb h.nxt.lt,h.cnt.below hb h.cnt.lt,h.bel.trans (hb.mono h.bel.size)⟩
end Go.Proofs.YtmemofonebphfaaGreat
namespace Go.Proofs.YtmemofonebphfaaGreat
open Go.RowKit Go.Sort Go.WideMaps Go.Maps
set_option maxRecDepth 100000
set_option maxHeartbeats 32000000 in
theorem pinched4_any (A:Option Addr) (c:Nat) (ts:List Tri) (w:World) (hs:Sl encT 9 w w.heap.size A ts) (hl:ts.length≤100000000) (hf:∀t∈ts,fitsT t) (hnd:(edgesP ts).Nodup):
  Calls Tryz.prog 81 #[.slice A ts.length c] w fun e w'=>e= .returned (.bool ((edgesP ts).any (ringM ts)))∧Below w.heap.size w w':=by
 have hmm:=@run_makeMap Tryz.prog
 obtain ⟨M,hM⟩:∃n,n=ts.length:=⟨_,rfl⟩
 rw [←hM] at hl⊢
 obtain ⟨E,hE⟩:∃E,E=edgesP ts:=⟨_,rfl⟩
 obtain ⟨Rg,hRg⟩:∃R,R=ringM ts:=⟨_,rfl⟩
 have HER:=hide (And.intro hE hRg)
 rw [←hE,←hRg]
 have HS:=hide (And.intro hs (And.intro hf (And.intro hM hnd)))
 clear hs hf hM hnd hE hRg
 go_enter Tryz.func81,Tryz.ntmps81
 go_upto_region 3 with fail
 obtain ⟨X,hX⟩:∃X,X=(w.alloc (.map #[] 0)).alloc (.map #[] 0):=⟨_,rfl⟩
 rw [←hX]
 have hPX:PinS w X w.heap.size (w.heap.size+1) 0 0 (fun _=>none) (fun _=>0):=by
  rw [hX]
  refine ⟨(NxtM.made w).below (Below.refl (w.heap.size+1) _ |>.alloc (by simp) _) (by omega),?_,((Below.refl _ w).alloc (Nat.le_refl _) _).alloc (by simp) _⟩
  have:=CntM.made (w.alloc (.map #[] 0))
  simpa using this
 obtain ⟨nb,hnb⟩:∃b,b=w.heap.size:=⟨_,rfl⟩
 obtain ⟨cb,hcb⟩:∃b,b=w.heap.size+1:=⟨_,rfl⟩
 rw [←hcb,←hnb] at hPX⊢
 have HX:=hide (And.intro hPX (And.intro hnb hcb))
 clear hX hPX hmm hnb hcb
 go_wp2_with fail
 go_loopw [18] (fun iv wr=>∃(k n1 n2:Nat),k≤M∧iv= .int .i64 k∧PinS w wr nb cb n1 n2 (nxtN (ts.take k)) (cntC (ts.take k))∧n1≤3*k∧n2≤6*k) (fun iv _=>M - (intOf iv).toNat)
 case atStart=>exact ⟨0,0,0,by omega,rfl,HX.out.1,by omega,by omega⟩
 case round=>
  obtain ⟨k,n1,n2,hk,rfl,hP,hn1,hn2⟩:=hrel
  obtain ⟨V,rfl⟩:∃V,V=wr:=⟨_,rfl⟩
  by_cases hlt:k < M
  ·obtain ⟨t,ht⟩:∃t,ts[k]? =some t:=⟨_,List.getElem?_eq_getElem (by rw [←HS.out.2.2.1];exact hlt)⟩
   have i1:(k:Int) < (M:Int):=by omega
   obtain ⟨b,o,hA,hbb,g0,g1,g2,g3,g4,g5,g6,g7,g8⟩:=(HS.out.1.below hP.bel).tri ht
   subst hA
   have hft:=HS.out.2.1 t (List.mem_of_getElem? ht)
   have hsn:=nxtN_snoc ts k t ht
   have hsc:=fun p=>cntC_snoc ts p k t ht
   have hcl:=fun p=>cntC_le (ts.take k) p
   have hcl':∀p,cntC (ts.take k) p≤3*k:=fun p=>by have:=hcl p;rw [List.length_take] at this;omega
   obtain ⟨N0,hN0⟩:∃N,N=nxtN (ts.take k):=⟨_,rfl⟩
   obtain ⟨C0,hC0⟩:∃N,N=cntC (ts.take k):=⟨_,rfl⟩
   rw [←hN0] at hP hsn
   rw [←hC0] at hP hcl'
   simp only [←hC0] at hsc
   have HK:=hide (And.intro hP (And.intro hft (And.intro hsn (And.intro hsc hcl'))))
   clear hP hft hsn hsc ht hN0 hC0 hcl hcl'
   go_upto_region 6 with fail
   obtain ⟨Y,hY⟩:∃Y,Y=V.alloc (.cells #[.int .i64 t.1.1, .int .i64 t.1.2.1, .int .i64 t.1.2.2, .int .i64 t.2.1.1, .int .i64 t.2.1.2.1, .int .i64 t.2.1.2.2, .int .i64 t.2.2.1, .int .i64 t.2.2.2.1, .int .i64 t.2.2.2.2] 46):=⟨_,rfl⟩
   rw [←hY]
   have hbY:Blk Y V.heap.size 46 (encT t).toArray:=by rw [hY];exact Blk.new _ _ _
   have hPY:PinS w Y nb cb n1 n2 (nxtJ N0 t 0) (fun p=>C0 p+cntJ t p 0):=by
    rw [hY]
    exact HK.out.1.step ((Below.refl _ V).alloc (Nat.le_refl _) _)
   obtain ⟨tb,htb⟩:∃b,b=V.heap.size:=⟨_,rfl⟩
   rw [←htb] at hbY⊢
   obtain ⟨a0,a1,a2,a3,a4,a5,a6,a7,a8⟩:=cells9z (w:=Y) (b:=tb) (ty:=46) (t:=t) hbY
   have HY:=hide (And.intro hPY (And.intro hbY htb))
   clear hY hPY hbY g0 g1 g2 g3 g4 g5 g6 g7 g8 htb
   go_wp2_with fail
   clear a0 a1 a2 a3 a4 a5 a6 a7 a8
   go_loopw [23] (fun jv wr=>∃(j m1 m2:Nat),j≤3∧jv= .int .i64 j∧PinS w wr nb cb m1 m2 (nxtJ N0 t j) (fun p=>C0 p+cntJ t p j)∧m1≤n1+j∧m2≤n2+2*j∧Blk wr tb 46 (encT t).toArray) (fun jv _=>3 - (intOf jv).toNat)
   case atStart=>exact ⟨0,n1,n2,by omega,rfl,HY.out.1,by omega,by omega,HY.out.2.1⟩
   case round=>
    obtain ⟨j,m1,m2,hj,rfl,hP,hm1,hm2,hbt⟩:=hrel
    obtain ⟨R,rfl⟩:∃V,V=wr:=⟨_,rfl⟩
    by_cases hj3:j < 3
    ·have i2:(j:Int) < 3:=by omega
     have hidx:=fun W=>idxT t j hj3 W
     have hfc:=corner_fits HK.out.2.1 j
     have hfe:=edJ_fits HK.out.2.1 j
     have hxj:nxtJ N0 t (j+1)=updE (nxtJ N0 t j) (edJ t j) (corner t ((j+2) % 3)):=rfl
     have hcj:=fun p=>cntJ_succ t p j
     have hed:edJ t j=(corner t j,corner t ((j+1) % 3)):=rfl
     obtain ⟨j1,hj1⟩:∃x,x=(j+1) % 3:=⟨_,rfl⟩
     obtain ⟨j2,hj2⟩:∃x,x=(j+2) % 3:=⟨_,rfl⟩
     rw [←hj1] at hed
     rw [←hj2] at hxj
     have t1:((j:Int)+1) % 3=(j1:Int):=by omega
     have t2:((j:Int)+2) % 3=(j2:Int):=by omega
     have t1':((j:Int)+1).tmod 3=(j1:Int):=by rw [Int.tmod_eq_emod_of_nonneg (by omega)];exact t1
     have t2':((j:Int)+2).tmod 3=(j2:Int):=by rw [Int.tmod_eq_emod_of_nonneg (by omega)];exact t2
     have wr1:IntKind.i64.wrap ((j:Int)+1)=(j:Int)+1:=IntWalk.i64_in _ (by omega)
     have wr2:IntKind.i64.wrap ((j:Int)+2)=(j:Int)+2:=IntWalk.i64_in _ (by omega)
     have l1:(j1:Int) < 3:=by omega
     have l2:(j2:Int) < 3:=by omega
     have l1n:j1 < 3:=by omega
     have l2n:j2 < 3:=by omega
     clear hj1 hj2
     obtain ⟨p,hp⟩:∃p,p=corner t j:=⟨_,rfl⟩
     obtain ⟨p1,hp1⟩:∃p,p=corner t j1:=⟨_,rfl⟩
     obtain ⟨p2,hp2⟩:∃p,p=corner t j2:=⟨_,rfl⟩
     rw [hed,←hp,←hp1] at hfe
     rw [hed,←hp,←hp1,←hp2] at hxj
     rw [←hp] at hfc
     simp only [←hp] at hidx hcj
     have HJ:=hide (And.intro hP (And.intro hm1 (And.intro hm2 (And.intro hbt (And.intro hxj (And.intro hcj (And.intro hfc hfe)))))))
     have HP:=hide (And.intro hp1 hp2)
     have hzR:=hP.bel.size
     have hltt:=hbt.lt
     have hcle:C0 p+cntJ t p j≤300000010:=by
      have:=HK.out.2.2.2.2 p
      have:=cntJ_le t p j
      omega
     obtain ⟨cp,hcp⟩:∃x,x=C0 p+cntJ t p j:=⟨_,rfl⟩
     rw [←hcp] at hcle
     have HCP:=hide hcp
     clear hP hm1 hm2 hbt hxj hcj hfc hfe hp hp1 hp2 hed hcp
     go_upto_region 9 with fail
     obtain ⟨Z,hZ⟩:∃Z,Z=R.alloc (.cells #[.int .i64 p.1, .int .i64 p.2.1, .int .i64 p.2.2] 43):=⟨_,rfl⟩
     rw [←hZ]
     have hPZ:=HJ.out.1.step (show Below R.heap.size R Z by rw [hZ];exact (Below.refl _ R).alloc (Nat.le_refl _) _)
     have hbp:Blk Z R.heap.size 43 #[.int .i64 p.1, .int .i64 p.2.1, .int .i64 p.2.2]:=by rw [hZ];exact Blk.new _ _ _
     have hbt:Blk Z tb 46 (encT t).toArray:=by rw [hZ];exact HJ.out.2.2.2.1.alloc _
     have hct:=cells9 hbt
     obtain ⟨pb,hpb⟩:∃b,b=R.heap.size:=⟨_,rfl⟩
     have HPB:=hide hpb
     rw [←hpb] at hbp hltt⊢
     obtain ⟨x0,x1,x2⟩:=hbp.three
     obtain ⟨y0,y1,y2⟩:=hct.corner8 l1n
     obtain ⟨z0,z1,z2⟩:=hct.corner8 l2n
     rw [←HP.out.1] at y0 y1 y2
     rw [←HP.out.2] at z0 z1 z2
     rw [Nat.zero_add] at y0 y1 y2 z0 z1 z2
     have hPZd:PinS w Z.drew nb cb m1 m2 _ _:=hPZ.step (Below.refl _ Z).drew
     obtain ⟨w5,hrun5,hN5,hg5,hz5⟩:=hPZd.nxt.put (by have:=HJ.out.2.1;unfold maxLen;omega) (p,p1) HJ.out.2.2.2.2.2.2.2 p2
     have hzZ:Z.heap.size=pb+1:=by rw [hZ,hpb];simp
     have hnbz:=HX.out.2.1
     have hcbz:=HX.out.2.2
     have hc5:CntM w5 cb m2 (fun p=>C0 p+cntJ t p j):=hPZd.cnt.kept hg5 (fun e=>by injection e with e;omega)
     have hB5:Below w.heap.size w w5:=hPZd.bel.grown hg5 hPZd.bel.size (fun r hr=>by injection hr with hr;omega)
     have hbp5:Blk w5 pb 43 #[.int .i64 p.1, .int .i64 p.2.1, .int .i64 p.2.2]:=hbp.drew.grown hg5 (fun e=>by injection e with e;have:=HJ.out.1.nxt.lt;omega)
     have hbt5:Blk w5 tb 46 (encT t).toArray:=hbt.drew.grown hg5 (fun e=>by injection e with e;have:=HX.out.1.nxt.lt;have:=HY.out.2.2;have:=HK.out.1.nxt.lt;omega)
     have H5:=hide (And.intro hN5 (And.intro hc5 (And.intro hB5 (And.intro hbp5 (And.intro hbt5 (show w5.heap.size=pb+1 by rw [hz5];exact hzZ))))))
     clear hPZ hPZd hbp hbt hct hN5 hg5 hz5 hc5 hB5 hbp5 hbt5 hZ hpb hzZ hnbz hcbz hidx
     go_still_tail 13,(by kernel_rfl)
     repeat still_step
     change wpList _ _ _ _ _ Z.drew
     go_upto_region 10 with fail
     clear x0 x1 x2 y0 y1 y2 z0 z1 z2 hrun5
     have hc5d:CntM w5.drew cb m2 (fun p=>C0 p+cntJ t p j):=H5.out.2.1.below (Below.refl (w5.heap.size+cb+1) w5).drew (by omega)
     have hlk0:=hc5d.look p HJ.out.2.2.2.2.2.2.1
     obtain ⟨st,w6,hrun6,hg6,hz6,hM6,hst6⟩:=hc5d.inc (by have:=HJ.out.2.2.1;unfold maxLen;omega) p HJ.out.2.2.2.2.2.2.1
     have hlk1:=hM6.look p HJ.out.2.2.2.2.2.2.1
     obtain ⟨w7,hrun7,hM7,hg7,hz7⟩:=hst6 w6 rfl
     have hcpe:C0 p+cntJ t p j=cp:=HCP.out.symm
     simp only [hcpe] at hlk0 hlk1 hrun6 hrun7 hM7
     simp only [goInt] at hrun6 hrun7
     rw [show ((cp+1:Nat):Int)=(cp:Int)+1 by omega] at hrun7
     have hcbn:cb≠nb:=by have:=HX.out.2.1;have:=HX.out.2.2;omega
     have hcbw:w.heap.size≤cb:=by have:=HX.out.2.2;omega
     have hcbp:cb < pb:=by have h1:=HX.out.1.cnt.lt;have h2:=HJ.out.1.cnt.lt;have h3:=HPB.out;omega
     have hcbt:cb≠tb:=by have h1:=HK.out.1.cnt.lt;have h2:=HY.out.2.2;omega
     have hS0:(Instr.lookup 95 (.map (some cb)) (vP p) false).run Tryz.prog w5.drew= .ok (.int .i64 (cp:Nat)) w5.drew∧(w5.drew.cell? ⟨pb,0,none⟩=some (.int .i64 p.1)∧w5.drew.cell? ⟨pb,1,none⟩=some (.int .i64 p.2.1)∧w5.drew.cell? ⟨pb,2,none⟩=some (.int .i64 p.2.2)):=⟨hlk0,H5.out.2.2.2.1.drew.three⟩
     have hb6:Blk w6 pb 43 #[.int .i64 p.1, .int .i64 p.2.1, .int .i64 p.2.2]:=H5.out.2.2.2.1.drew.grown hg6 (fun e=>by injection e with e;omega)
     have hS1:(Instr.lookup 95 (.map (some cb)) (vP p) false).run Tryz.prog w6= .ok (.int .i64 (cp:Nat)) w6∧(w6.cell? ⟨pb,0,none⟩=some (.int .i64 p.1)∧w6.cell? ⟨pb,1,none⟩=some (.int .i64 p.2.1)∧w6.cell? ⟨pb,2,none⟩=some (.int .i64 p.2.2)):=⟨hlk1,hb6.three⟩
     have hN7:NxtM w7 nb (m1+1) (nxtJ N0 t (j+1)):=by
      rw [HJ.out.2.2.2.2.1]
      have h1:NxtM w5.drew nb (m1+1) _:=H5.out.1.below (Below.refl (w5.heap.size+nb+1) w5).drew (by omega)
      exact (MapK.kept h1 hg6 (fun e=>hcbn (by injection e with e;exact e.symm))).kept hg7 (fun e=>hcbn (by injection e with e;exact e.symm))
     have hC7:CntM w7 cb (m2+1+1) (fun p=>C0 p+cntJ t p (j+1)):=by
      refine (hM7.same fun q=> ?_) |>fun h=>by
       obtain ⟨m,h1,h2⟩:=h
       exact ⟨m,h1.mono (by omega),h2⟩
      show (if q=p then cp+1 else C0 q+cntJ t q j)=C0 q+cntJ t q (j+1)
      rw [HJ.out.2.2.2.2.2.1 q,HCP.out]
      split
      ·rename_i h;subst h;omega
      ·rfl
     have hB7:Below w.heap.size w w7:=((H5.out.2.2.1.drew).grown hg6 (by have:=H5.out.2.2.1.size;simpa using this) (fun r hr=>by injection hr with hr;omega)).grown hg7 (by rw [hz6];have:=H5.out.2.2.1.size;simpa using this) (fun r hr=>by injection hr with hr;omega)
     have hbt7:Blk w7 tb 46 (encT t).toArray:=(H5.out.2.2.2.2.1.drew.grown hg6 (fun e=>hcbt (by injection e with e;exact e.symm))).grown hg7 (fun e=>hcbt (by injection e with e;exact e.symm))
     have hwr:IntKind.i64.wrap ((cp:Int)+1)=(cp:Int)+1:=IntWalk.i64_in _ (by omega)
     have HS0:=hide hS0
     have HS1:=hide hS1
     have H7:=hide (And.intro hN7 (And.intro hC7 (And.intro hB7 hbt7)))
     clear hc5d hlk0 hg6 hz6 hM6 hst6 hlk1 hM7 hg7 hz7 hcpe hcbn hcbw hcbp hcbt hS0 hS1 hb6 hN7 hC7 hB7 hbt7
     refine wp_region_mix (fun W=>(Instr.lookup 95 (.map (some cb)) (vP p) false).run Tryz.prog W= .ok (.int .i64 (cp:Nat)) W∧(W.cell? ⟨pb,0,none⟩=some (.int .i64 p.1)∧W.cell? ⟨pb,1,none⟩=some (.int .i64 p.2.1)∧W.cell? ⟨pb,2,none⟩=some (.int .i64 p.2.2))) [0,1,2,3] [0,1,2,3,4,5,6] mixed_ok (by kernel_rfl) ?_
     refine wpMix_q (v:= .map (some cb)) rfl rfl (fun _ _ _ h=>h) HS0.out ⟨rfl,fun _ h'=>by simp [go_sem]⟩ ?_
     refine wpMix_q (v:=vP p) rfl rfl (fun _ _ _ h=>h) HS0.out ⟨rfl,fun _ h'=>by obtain ⟨_,a0,a1,a2⟩:=h';simp [go_sem,a0,a1,a2]⟩ ?_
     refine wpMix_q (v:= .int .i64 (cp:Nat)) rfl rfl (fun _ _ _ h=>h) HS0.out ⟨rfl,fun _ h'=>by simp [go_sem,h'.1]⟩ ?_
     refine wpMix_q (v:= .int .i64 ((cp:Int)+1)) rfl rfl (fun _ _ _ h=>h) HS0.out ⟨rfl,fun _ h'=>by simp [go_sem,hwr]⟩ ?_
     simp only [List.getElem_toArray,List.getElem_cons_succ,List.getElem_cons_zero,Act.put,List.setIfInBounds_toArray,List.set_cons_succ,List.set_cons_zero]
     refine wpMix_n rfl rfl ?_
     go_wp2_with fail
     refine ⟨fun _=>HS1.out,?_⟩
     refine wpMix_n rfl rfl ?_
     go_wp2_with fail
     refine ⟨fun _=>HS1.out,?_⟩
     refine wpMix_n rfl rfl ?_
     go_wp2_with fail
     refine ⟨fun h=>absurd (h.symm.trans (show _=false by kernel_rfl)) (by simp),wpMix_nil ?_⟩
     go_wp2_with fail
     go_roundw
     case rel=>exact ⟨j+1,m1+1,m2+1+1,by omega,by go_num,⟨H7.out.1,H7.out.2.1,H7.out.2.2.1⟩,by have:=HJ.out.2.1;omega,by have:=HJ.out.2.2.1;omega,H7.out.2.2.2⟩
     case measure=>simp [intOf];omega
    ·have hje:j=3:=by omega
     subst hje
     have i2:¬((3:Nat):Int) < 3:=by omega
     have HE:=hide (And.intro hP (And.intro hm1 hm2))
     clear hP hm1 hm2 hbt
     go_wp2
     go_roundw
     case rel=>
      refine ⟨k+1,m1,m2,by omega,by go_num,⟨?_,?_,HE.out.1.bel⟩,by have:=HE.out.2.1;omega,by have:=HE.out.2.2;omega⟩
      ·rw [HK.out.2.2.1];exact HE.out.1.nxt
      ·exact HE.out.1.cnt.same fun p=>(HK.out.2.2.2.1 p).symm
     case measure=>simp [intOf];omega
  ·have hke:k=M:=by omega
   subst hke
   rw [List.take_of_length_le (by have:=HS.out.2.2.1;omega)] at hP
   have hx:=nxtN_beh HS.out.2.2.2
   obtain ⟨N1,hN1⟩:∃N,N=nxtN ts:=⟨_,rfl⟩
   obtain ⟨C1,hC1⟩:∃N,N=cntC ts:=⟨_,rfl⟩
   have hC1le:∀p,C1 p≤300000000:=fun p=>by rw [hC1];have:=cntC_le ts p;have:=HS.out.2.2.1;omega
   rw [←hN1,←hC1] at hP
   rw [←hN1] at hx
   have hR:∀e x,N1 e=some x→ringM ts e=prgO (fun q=>N1 (e.1,q)) e.2 (C1 e.1) (C1 e.1) 1 x:=fun e x h=>by
    rw [hx] at h
    unfold ringM
    rw [h,hC1]
    have:(fun q=>N1 (e.1,q))=fun q=>behP ts e.1 q:=funext fun q=>hx (e.1,q)
    rw [this]
   have hmem:∀e,e∈edgesP ts→∃x,N1 e=some x:=fun e he=>by rw [hx];exact behP_has he
   have hmem2:∀e x,N1 e=some x→e∈edgesP ts:=fun e x h=>by
    refine Classical.byContradiction fun hc=> ?_
    rw [hx,behP_mem hc] at h
    cases h
   have hfx:∀e x,N1 e=some x→fitsP x:=fun e x h=>by rw [hx] at h;exact behP_fits HS.out.2.1 h
   have hfe:=edgesP_fits HS.out.2.1
   rw [←HER.out.1] at hfe
   simp only [←HER.out.1] at hmem hmem2
   simp only [←HER.out.2] at hR
   have HR:=hide (And.intro hR (And.intro hmem (And.intro hmem2 (And.intro hfx (And.intro hfe hC1le)))))
   clear hR hmem hmem2 hfx hfe hx hN1 hC1 hC1le
   obtain ⟨w1,c0,hrun,hrg,hg1,hz1,_⟩:=MapK.range_le kfE4 (t:=152) (e:=43) hP.nxt Tryz.underlying152
   have hB1:=below_of_grown_none hg1 (Nat.le_refl _)
   have hcn1:=hP.cnt.below hB1 hP.cnt.lt
   have hBw1:=hP.bel.trans (hB1.mono hP.bel.size)
   have hzV:=hP.bel.size
   have hnbV:=hP.nxt.lt
   have hcbV:=hP.cnt.lt
   obtain ⟨rb,hrb⟩:∃b,b=V.heap.size:=⟨_,rfl⟩
   rw [←hrb] at hrun hrg
   have HV:=hide (And.intro hrg (And.intro hcn1 (And.intro hBw1 (And.intro (show w.heap.size≤rb by omega) (And.intro (show nb < rb by omega) (show cb < rb by omega))))))
   clear hrg hcn1 hBw1 hB1 hg1 hz1 hP hn1 hn2 hzV hnbV hcbV hrb
   go_wp2_with fail
   go_loopw [] (fun wr=>∃(left:Ed→Bool) (c:Nat),RngK Tryz.prog 147 vE fitsE wr nb rb n1 (fun e=>(N1 e).map vP) left c∧CntM wr cb n2 C1∧(∀e∈E,left e=true∨Rg e=false)∧Below w.heap.size w wr) (fun wr=>wr.rangeLeft nb rb)
   case atStart=>exact ⟨_,c0,HV.out.1,HV.out.2.1,fun e he=> .inl (by obtain ⟨x,hx⟩:=HR.out.2.1 e he;rw [hx];rfl),HV.out.2.2.1⟩
   case round=>
    obtain ⟨left,c',hrg,hC,hall,hB⟩:=hrel
    obtain ⟨U,rfl⟩:∃V,V=wr:=⟨_,rfl⟩
    have hHL:=hrg.left_eq
    rcases hrg.next kfE4 0 with ⟨_,hdone,hrunN⟩ | ⟨e,pv,w8,c'',hok,hleft,hm8,hrunN,hr8,hlt8,hg8,hz8,hent⟩
    ·have hres:E.any Rg=false:=by
      rw [List.any_eq_false]
      intro e he
      rcases hall e he with h | h
      ·rw [hdone e (HR.out.2.2.2.2.1 e he)] at h;cases h
      ·rw [h];simp
     have HE:=hide (And.intro hres hB)
     clear hrg hC hall hB hHL hdone hres hrun
     go_wp2
     go_ret
     exact ⟨by rw [HE.out.1];rfl,HE.out.2⟩
    ·obtain ⟨x,hx⟩:∃x,N1 e=some x:=by
      cases hN:N1 e with
      | none=>rw [hN] at hm8;cases hm8
      | some x=>exact ⟨x,rfl⟩
     have hfx:=HR.out.2.2.2.1 e x hx
     have hC8:CntM w8 cb n2 C1:=hC.kept hg8 (fun e=>by injection e with e;have:=HV.out.2.2.2.2.2;omega)
     have hB8:Below w.heap.size w w8:=hB.grown hg8 hB.size (fun r hr=>by injection hr with hr;have:=HV.out.2.2.2.1;omega)
     have hring:=HR.out.1 e x hx
     have HU:=hide (And.intro hr8 (And.intro hC8 (And.intro hB8 (And.intro hall (And.intro hlt8 (And.intro hHL (And.intro hx hring)))))))
     clear hrg hC hall hB hHL hr8 hC8 hB8 hlt8 hm8 hg8 hz8 hring hleft hx hrun
     go_upto_region 16 with fail
     clear hrunN hent
     obtain ⟨Y,hY⟩:∃Y,Y=w8.alloc (.cells (cE e) 147):=⟨_,rfl⟩
     rw [←hY]
     have hBY:Below w8.heap.size w8 Y:=by rw [hY];exact (Below.refl _ w8).alloc (Nat.le_refl _) _
     have heY:Blk Y w8.heap.size 147 (cE e):=by rw [hY];exact Blk.new _ _ _
     obtain ⟨eb,heb⟩:∃b,b=w8.heap.size:=⟨_,rfl⟩
     rw [←heb] at heY⊢
     have hrY:=HU.out.1.below hBY (Nat.le_refl _)
     have hCY:=HU.out.2.1.below hBY HU.out.2.1.lt
     have hlkY:(Instr.lookup 152 (.map (some nb)) (vE e) false).run Tryz.prog Y= .ok (vP x) Y:=by
      have h1:NxtM Y nb n1 N1:=hrY.map
      have:=h1.look e hok
      rw [HU.out.2.2.2.2.2.2.1] at this
      exact this
     obtain ⟨x0,x1,x2,x3,x4,x5⟩:=heY.six4
     have hzY:Y.heap.size=eb+1:=by rw [hY,heb];simp
     have HY:=hide (And.intro heY (And.intro hrY (And.intro hCY (And.intro (HU.out.2.2.1.trans (hBY.mono HU.out.2.2.1.size)) hzY))))
     clear hY hBY heY hrY hCY heb hzY
     go_upto_block 6 with fail
     obtain ⟨ab,hab⟩:∃b,b=Y.heap.size:=⟨_,rfl⟩
     rw [←hab]
     have hbx:Blk (Y.alloc (.cells #[.int .i64 x.1, .int .i64 x.2.1, .int .i64 x.2.2] 43)) ab 43 #[.int .i64 x.1, .int .i64 x.2.1, .int .i64 x.2.2]:=by rw [hab];exact Blk.new _ _ _
     have hBx:Below ab Y (Y.alloc (.cells #[.int .i64 x.1, .int .i64 x.2.1, .int .i64 x.2.2] 43)):=by rw [hab];exact (Below.refl _ Y).alloc (Nat.le_refl _) _
     have hab2:ab=eb+1:=by have:=HY.out.2.2.2.2;omega
     have HAB:=hide hab2
     have hebab:eb < ab:=by omega
     have hme:=HR.out.2.2.2.2.2 e.1
     have hring:=HU.out.2.2.2.2.2.2.2
     obtain ⟨m,hm⟩:∃m,m=C1 e.1:=⟨_,rfl⟩
     obtain ⟨bq,hbq⟩:∃b,b=fun q=>N1 (e.1,q):=⟨_,rfl⟩
     rw [←hm] at hme hring
     rw [←hbq] at hring
     have hlks:∀W,Below ab Y W→(Instr.lookup 95 (.map (some cb)) (vP e.1) false).run Tryz.prog W= .ok (.int .i64 (m:Nat)) W∧(∀a,fitsP a→(Instr.lookup 152 (.map (some nb)) (vE (e.1,a)) true).run Tryz.prog W= .ok (.tuple #[vP ((bq a).getD (0,0,0)), .bool (bq a).isSome]) W)∧Blk W eb 147 (cE e):=fun W hW=>by
      refine ⟨?_,fun a ha=> ?_,HY.out.1.below hW (by omega)⟩
      ·rw [hm]
       exact (HY.out.2.2.1.below hW (by have:=HY.out.2.2.1.lt;omega)).look e.1 hok.1
      ·rw [hbq]
       have h1:NxtM Y nb n1 N1:=HY.out.2.1.map
       exact (show NxtM W nb n1 N1 from MapK.below h1 hW (by have:=h1.lt;omega)).look_ok (e.1,a) ⟨hok.1,ha⟩
     have HL:=hide (And.intro hlks (And.intro hring (And.intro hbx (And.intro hBx (And.intro hfx (And.intro hbq hab))))))
     clear hlks hring hbx hBx hbq hm hfx hab hab2 hlkY x0 x1 x2 x3 x4 x5
     go_cut [10] (fun sv wx=>∃(size:Nat) (a:Pt),sv= .int .i64 size∧size≤m+1∧fitsP a∧Blk wx ab 43 #[.int .i64 a.1, .int .i64 a.2.1, .int .i64 a.2.2]∧Rg e=(decide (a=e.2) && decide (size < m))∧Below ab Y wx)
     case first=>
      go_wp2_with fail
      go_loopw [10] (fun sv wx=>∃(size f:Nat) (a:Pt),sv= .int .i64 size∧1≤size∧f+size=m+1∧fitsP a∧Blk wx ab 43 #[.int .i64 a.1, .int .i64 a.2.1, .int .i64 a.2.2]∧Rg e=prgO bq e.2 m f size a∧Below ab Y wx) (fun sv _=>m+2 - (intOf sv).toNat)
      case atStart=>exact ⟨1,m,x,rfl,by omega,by omega,HL.out.2.2.2.2.1,HL.out.2.2.1,HL.out.2.1,HL.out.2.2.2.1⟩
      case round=>
       obtain ⟨size,f,a,rfl,hs1,hfs,hfa,hba,hrg,hB⟩:=hrel
       obtain ⟨T,rfl⟩:∃V,V=wr:=⟨_,rfl⟩
       obtain ⟨hk1,hk2,hbe⟩:=HL.out.1 T hB
       have hk2a:=hk2 a hfa
       obtain ⟨y0,y1,y2,y3,y4,y5⟩:=hbe.six4
       obtain ⟨z0,z1,z2⟩:=hba.three
       have heq:=eqP a e.2 hfa hok.2
       have hzT:=hB.size
       have hltT:=hba.lt
       have hfra0:=hba.frozen 0
       have hfra1:=hba.frozen 1
       have hfra2:=hba.frozen 2
       by_cases has:a=e.2
       ·have hd:decide (a=e.2)=true:=decide_eq_true has
        rw [hd] at heq
        have hst:=prgO_stop bq e.2 m f size a (.inl has)
        have HT:=hide (And.intro hfa (And.intro hba (And.intro (hrg.trans hst) hB)))
        clear hfa hba hrg hB has hd hst hk2 hbe hk2a hk1
        go_wp2_with fail
        go_meet
        case rel=>exact ⟨size,a,rfl,by omega,HT.out.1,HT.out.2.1,HT.out.2.2.1,HT.out.2.2.2⟩
       ·have hd:decide (a=e.2)=false:=decide_eq_false has
        rw [hd] at heq
        by_cases hsm:size≤m
        ·have i5:(size:Int)≤(m:Int):=by omega
         obtain ⟨f',rfl⟩:∃f',f=f'+1:=⟨f - 1,by omega⟩
         cases hbn:bq a with
         | none=>
          rw [hbn] at hk2a
          have hst:=prgO_none bq e.2 m (f'+1) size a has hbn
          have HT:=hide (And.intro hfa (And.intro hba (And.intro (hrg.trans hst) hB)))
          clear hfa hba hrg hB has hd hst hk2 hbe hbn hsm
          go_wp2_with fail
          go_meet
          case rel=>
           exact ⟨size,a,rfl,by omega,HT.out.1,HT.out.2.1.alloc _,HT.out.2.2.1,HT.out.2.2.2.alloc (by omega) _⟩
         | some y=>
          rw [hbn] at hk2a
          have hst:=prgO_some bq e.2 m f' size a y has hsm hbn
          have hfy:fitsP y:=by
           have:=HL.out.2.2.2.2.2.1
           rw [this] at hbn
           exact HR.out.2.2.2.1 _ _ hbn
          have HT:=hide (And.intro hfy (And.intro hba (And.intro (hrg.trans hst) hB)))
          clear hfa hba hrg hB has hd hst hk2 hbe hbn hfy
          go_wp2_with fail
          go_roundw
          case rel=>
           refine ⟨size+1,f',y,by go_num,by omega,by omega,HT.out.1,?_,HT.out.2.2.1,?_⟩
           ·exact (HT.out.2.1.set3 _ _ _).alloc _
           ·exact (((HT.out.2.2.2.setCell (by dsimp only;omega) _).setCell (by dsimp only;omega) _).setCell (by dsimp only;omega) _).alloc (by simp [World.setCell];omega) _
          case measure=>simp [intOf];omega
        ·have i5:¬(size:Int)≤(m:Int):=by omega
         have hst:=prgO_stop bq e.2 m f size a (.inr (by omega))
         have HT:=hide (And.intro hfa (And.intro hba (And.intro (hrg.trans hst) hB)))
         clear hfa hba hrg hB has hd hst hk2 hbe hk2a
         go_wp2_with fail
         go_meet
         case rel=>exact ⟨size,a,rfl,by omega,HT.out.1,HT.out.2.1,HT.out.2.2.1,HT.out.2.2.2⟩
     case rest=>
      obtain ⟨size,a,rfl,hsz,hfa,hba,hrg,hB⟩:=hcut
      obtain ⟨T,rfl⟩:∃T,T=wc:=⟨_,rfl⟩
      obtain ⟨hk1,_,hbe⟩:=HL.out.1 T hB
      obtain ⟨y0,y1,y2,y3,y4,y5⟩:=hbe.six4
      obtain ⟨z0,z1,z2⟩:=hba.three
      have heq:=eqP a e.2 hfa hok.2
      have hBw:=HY.out.2.2.2.1.trans (hB.mono (by have:=HL.out.2.2.2.2.2.2;have:=HY.out.2.2.2.1.size;omega))
      have hrT:=HY.out.2.1.below hB (by have:=HL.out.2.2.2.2.2.2;omega)
      have hCT:=HY.out.2.2.1.below hB (by have:=HL.out.2.2.2.2.2.2;have:=HY.out.2.2.1.lt;omega)
      by_cases hyes:a=e.2∧size < m
      ·have hd:decide (a=e.2)=true:=decide_eq_true hyes.1
       rw [hd] at heq
       have i5:(size:Int) < (m:Int):=by omega
       have hres:E.any Rg=true:=List.any_eq_true.2 ⟨e,HR.out.2.2.1 e x HU.out.2.2.2.2.2.2.1,by rw [hrg,decide_eq_true hyes.1,decide_eq_true hyes.2];rfl⟩
       have HE:=hide (And.intro hres hBw)
       clear hyes hd hres hfa hba hrg hB hbe hBw hrT hCT
       go_wp2
       go_ret
       exact ⟨by rw [HE.out.1];rfl,HE.out.2⟩
      ·have hno:Rg e=false:=by
        rw [hrg,Bool.and_eq_false_iff,decide_eq_false_iff_not,decide_eq_false_iff_not]
        by_cases h1:a=e.2
        ·exact .inr fun h2=>hyes ⟨h1,h2⟩
        ·exact .inl h1
       have HE:=hide (And.intro hrT (And.intro hCT (And.intro hno hBw)))
       have fin:∀e'∈E,(left e' && !decide (e'=e))=true∨Rg e'=false:=fun e' he'=>by
        by_cases h1:e'=e
        ·rw [h1];exact .inr hno
        ·rcases HU.out.2.2.2.1 e' he' with h2 | h2
         ·exact .inl (by simp [h1,h2])
         ·exact .inr h2
       have HF:=hide fin
       clear hrg hno hBw hrT hCT hbe hB hba fin
       by_cases h1:a=e.2
       ·have i5:¬(size:Int) < (m:Int):=fun h2=>hyes ⟨h1,by omega⟩
        have hd:decide (a=e.2)=true:=decide_eq_true h1
        rw [hd] at heq
        clear hyes h1 hd hfa
        go_wp2
        go_roundw
        case rel=>exact ⟨_,c'',HE.out.1,HE.out.2.1,HF.out,HE.out.2.2.2⟩
        case measure=>
         rw [HE.out.1.left_eq,HU.out.2.2.2.2.2.1]
         exact HU.out.2.2.2.2.1
       ·have hd:decide (a=e.2)=false:=decide_eq_false h1
        rw [hd] at heq
        clear hyes h1 hd hfa
        go_wp2
        go_roundw
        case rel=>exact ⟨_,c'',HE.out.1,HE.out.2.1,HF.out,HE.out.2.2.2⟩
        case measure=>
         rw [HE.out.1.left_eq,HU.out.2.2.2.2.2.1]
         exact HU.out.2.2.2.2.1
end Go.Proofs.YtmemofonebphfaaGreat
namespace Go.Proofs.YtmemofonebphfaaGreat
open Go.RowKit Go.Sort Go.WideMaps Go.Maps
set_option maxRecDepth 100000
theorem flatT_no {t:Tri} (h1:t.1≠t.2.1) (h2:t.2.1≠t.2.2) (h3:t.2.2≠t.1):flatT t=false:=by
 unfold flatT
 rw [decide_eq_false h1,decide_eq_false h2,decide_eq_false h3];rfl
theorem flatT_yes {t:Tri} (h:t.1=t.2.1∨t.2.1=t.2.2∨t.2.2=t.1):flatT t=true:=by
 unfold flatT
 rcases h with h | h | h
 ·rw [decide_eq_true h];rfl
 ·rw [decide_eq_true h];simp
 ·rw [decide_eq_true h];simp
theorem lenE4 {w:World} {ob m:Nat} {K:List Ed} (hM:SetEM w ob m K) (hn:K.Nodup) (hf:∀p∈K,fitsE p):(Builtin.len_ #[122] 3 #[.map (some ob)]).run Tryz.prog w= .ok (.int .i64 K.length) w:=by
 refine MapK.len kfE4 (t:=122) (e:=4) hM Tryz.underlying122 _ hn hf (fun p _=> ?_) _
 unfold setK4
 by_cases h:p∈K
 ·rw [if_pos h];exact ⟨fun _ e=>(by cases e),fun _=>h⟩
 ·rw [if_neg h];exact ⟨fun h'=>absurd h' h,fun h'=>absurd rfl h'⟩
set_option maxHeartbeats 16000000 in
theorem check4_any (A:Option Addr) (c:Nat) (ts:List Tri) (op:Bool) (w:World) (hs:Sl encT 9 w w.heap.size A ts) (hl:ts.length≤100000000) (hf:∀t∈ts,fitsT t):
  Calls Tryz.prog 47 #[.slice A ts.length c, .bool op] w fun e w'=>e= .returned (.int .i64 (checkP ts op))∧Below w.heap.size w w':=by
 obtain ⟨R,hR⟩:∃R,R=checkP ts op:=⟨_,rfl⟩
 rw [←hR]
 rw [check_is] at hR
 have hcd:=fun W (hW:Below w.heap.size w W)=>directed4_any A c ts W ((hs.below hW).more hW.size) hl hf
 have hpi:=fun (hnd:(edgesP ts).Nodup) W (hW:Below w.heap.size w W)=>pinched4_any A c ts W ((hs.below hW).more hW.size) hl hf hnd
 have hdl:=dedup_length (edgesP ts)
 have hel:=edgesP_length ts
 have hfe:∀p∈dedup (edgesP ts),fitsE p:=fun p hp=>edgesP_fits hf p (dedup_mem.1 hp)
 have hbo:=fun W mb n (hM:SetEM W mb n (dedup (edgesP ts)))=>border4_any mb n _ W hM (dedup_nodup _) hfe (by omega)
 have hln:=fun W ob m (K:List Ed) (hM:SetEM W ob m K) (hn:K.Nodup) (hm:∀p,p∈K ↔ p∈dedup (edgesP ts)∧swapE p ∉ dedup (edgesP ts))=>by
  have h0:=lenE4 hM hn (fun p hp=>hfe p ((hm p).1 hp).1)
  have hse:sortG ltE K=borderP ts:=border_sort hn fun e=>by rw [hm,dedup_mem,dedup_mem]
  rw [show K.length=(borderP ts).length by rw [←hse,sortG_length]] at h0
  exact h0
 have hnb:ndB (edgesP ts)=true ↔ (edgesP ts).Nodup:=ndB_iff
 obtain ⟨E,hE⟩:∃E,E=edgesP ts:=⟨_,rfl⟩
 obtain ⟨B,hB⟩:∃B,B=(borderP ts).length:=⟨_,rfl⟩
 obtain ⟨M,hM⟩:∃n,n=ts.length:=⟨_,rfl⟩
 have hBb:B≤300000000:=by rw [hB];have:=borderP_le ts;omega
 rw [←hE] at hR hcd hpi hbo hln hnb
 rw [←hB] at hR hln
 rw [←hM] at hl hcd hpi⊢
 obtain ⟨Rg,hRg⟩:∃b,b=E.any (ringM ts):=⟨_,rfl⟩
 rw [←hRg] at hR hpi
 obtain ⟨f0,hf0⟩:∃b,b=ndB E:=⟨_,rfl⟩
 rw [←hf0] at hcd hnb
 have HS:=hide (And.intro hs (And.intro hf (And.intro hM hR)))
 have HC:=hide (And.intro hcd (And.intro hpi (And.intro hbo (And.intro hln hnb))))
 clear hs hf hM hR hcd hpi hdl hel hfe hbo hln hnb hE hB hRg hf0
 go_enter Tryz.func47,Tryz.ntmps47
 go_wp2_with fail
 go_loopw [11] (fun iv wr=>∃k:Nat,k≤M∧iv= .int .i64 k∧(∀i t,i < k→ts[i]? =some t→flatT t=false)∧Below w.heap.size w wr) (fun iv _=>M - (intOf iv).toNat)
 case atStart=>exact ⟨0,by omega,rfl,fun i t h=>absurd h (by omega),Below.refl _ w⟩
 case round=>
  obtain ⟨k,hk,rfl,hno,hB⟩:=hrel
  obtain ⟨V,rfl⟩:∃V,V=wr:=⟨_,rfl⟩
  by_cases hlt:k < M
  ·obtain ⟨t,ht⟩:∃t,ts[k]? =some t:=⟨_,List.getElem?_eq_getElem (by rw [←HS.out.2.2.1];exact hlt)⟩
   have i1:(k:Int) < (M:Int):=by omega
   obtain ⟨b,o,hA,hbb,g0,g1,g2,g3,g4,g5,g6,g7,g8⟩:=(HS.out.1.below hB).tri ht
   subst hA
   have hft:=HS.out.2.1 t (List.mem_of_getElem? ht)
   have e1:=eqP t.1 t.2.1 hft.1 hft.2.1
   have e2:=eqP t.2.1 t.2.2 hft.2.1 hft.2.2
   have e3:=eqP t.2.2 t.1 hft.2.2 hft.1
   have hzV:=hB.size
   have hbad:flatT t=true→R=20:=fun h=>by rw [HS.out.2.2.2,if_pos (List.any_eq_true.2 ⟨t,List.mem_of_getElem? ht,h⟩)]
   have HK:=hide (And.intro hno (And.intro hB (And.intro ht hbad)))
   clear hno hB ht hft hbad
   by_cases h1:t.1=t.2.1
   ·rw [decide_eq_true h1] at e1
    have hR:=HK.out.2.2.2 (flatT_yes (.inl h1))
    have HR:=hide hR
    clear hR h1 e2 e3
    go_wp2
    go_ret
    exact ⟨by rw [HR.out];rfl,HK.out.2.1.alloc hzV _⟩
   ·rw [decide_eq_false h1] at e1
    by_cases h2:t.2.1=t.2.2
    ·rw [decide_eq_true h2] at e2
     have hR:=HK.out.2.2.2 (flatT_yes (.inr (.inl h2)))
     have HR:=hide hR
     clear hR h1 h2 e3
     go_wp2
     go_ret
     exact ⟨by rw [HR.out];rfl,HK.out.2.1.alloc hzV _⟩
    ·rw [decide_eq_false h2] at e2
     by_cases h3:t.2.2=t.1
     ·rw [decide_eq_true h3] at e3
      have hR:=HK.out.2.2.2 (flatT_yes (.inr (.inr h3)))
      have HR:=hide hR
      clear hR h1 h2 h3
      go_wp2
      go_ret
      exact ⟨by rw [HR.out];rfl,HK.out.2.1.alloc hzV _⟩
     ·rw [decide_eq_false h3] at e3
      have HN:=hide (flatT_no h1 h2 h3)
      clear h1 h2 h3
      go_wp2
      go_roundw
      case rel=>
       refine ⟨k+1,by omega,by go_num,fun i u hi hu=> ?_,HK.out.2.1.alloc hzV _⟩
       rcases Nat.lt_or_ge i k with h | h
       ·exact HK.out.1 i u h hu
       ·have e:i=k:=by omega
        subst e
        rw [HK.out.2.2.1] at hu
        cases hu
        exact HN.out
      case measure=>simp [intOf];omega
  ·have hke:k=M:=by omega
   subst hke
   have hany:ts.any flatT=false:=any_none HS.out.2.2.1 (Nat.le_refl _) hno
   have hR:=HS.out.2.2.2
   rw [if_neg (by rw [hany];simp)] at hR
   have hcd:=HC.out.1 V hB
   have HV:=hide (And.intro hR hB)
   have hzV:=hB.size
   have HD:=hide hcd
   clear hno hB hany hR hcd hlt
   cases hf0:f0 with
   | false=>
    subst hf0
    have hR:R=21:=by
     rw [HV.out.1,if_pos]
     intro hc
     have:=HC.out.2.2.2.2.2 hc
     cases this
    have HR:=hide hR
    clear hR
    go_wp2_with (go_at_call 79;refine (unhide HD).mono ?_;rintro e w1 ⟨mb,n,rfl,hM1,hn1,hmb1,hB1⟩)
    go_ret
    exact ⟨by rw [HR.out];rfl,HV.out.2.trans (hB1.mono hzV)⟩
   | true=>
    subst hf0
    have hnd:=HC.out.2.2.2.2.1 rfl
    have hR:=HV.out.1
    rw [if_neg (fun h=>h hnd)] at hR
    have hpi:=HC.out.2.1 hnd
    have HP:=hide (And.intro hR hpi)
    clear hR hpi hnd
    cases hop:op with
    | true=>
     subst hop
     have hR:=HP.out.1
     rw [if_neg (by simp)] at hR
     cases hrg:Rg with
     | true=>
      subst hrg
      rw [if_pos rfl] at hR
      have HR:=hide hR
      clear hR
      go_wp2_with (first
       | (go_at_call 79;refine (unhide HD).mono ?_;rintro e w1 ⟨mb,n,rfl,hM1,hn1,hmb1,hB1⟩;have hB1':=HV.out.2.trans (hB1.mono hzV);have HB1:=hide hB1';clear hM1 hn1 hmb1 hB1 hB1')
       | (go_at_call 81;refine (HP.out.2 w1 HB1.out).mono ?_;rintro e w2 ⟨rfl,hB2⟩))
      go_ret
      exact ⟨by rw [HR.out];rfl,HB1.out.trans (hB2.mono HB1.out.size)⟩
     | false=>
      subst hrg
      rw [if_neg (by simp)] at hR
      have HR:=hide hR
      clear hR
      go_wp2_with (first
       | (go_at_call 79;refine (unhide HD).mono ?_;rintro e w1 ⟨mb,n,rfl,hM1,hn1,hmb1,hB1⟩;have hB1':=HV.out.2.trans (hB1.mono hzV);have HB1:=hide hB1';clear hM1 hn1 hmb1 hB1 hB1')
       | (go_at_call 81;refine (HP.out.2 w1 HB1.out).mono ?_;rintro e w2 ⟨rfl,hB2⟩))
      go_ret
      exact ⟨by rw [HR.out];rfl,HB1.out.trans (hB2.mono HB1.out.size)⟩
    | false=>
     subst hop
     by_cases hb0:0 < B
     ·have i5:(0:Int) < (B:Int):=by omega
      have hR:=HP.out.1
      rw [if_pos (by simpa using hb0)] at hR
      have HR:=hide hR
      clear hR hb0
      go_wp2_with (first
       | (go_at_call 79;refine (unhide HD).mono ?_;rintro e w1 ⟨mb,n,rfl,hM1,hn1,hmb1,hB1⟩;have hB1':=HV.out.2.trans (hB1.mono hzV);have HB1:=hide (And.intro hB1' (HC.out.2.2.1 w1 mb n hM1));clear hM1 hn1 hmb1 hB1 hB1')
       | (go_at_call 80;refine (unhide HB1).2.mono ?_;rintro e w2 ⟨ob,m,K,rfl,hM2,hn2,hm2,hob2,hB2⟩;have hl2:=HC.out.2.2.2.1 w2 ob m K hM2 hn2 hm2;have HB2:=hide (HB1.out.1.trans (hB2.mono HB1.out.1.size));clear hM2 hn2 hm2 hob2 hB2))
      go_ret
      exact ⟨by rw [HR.out];rfl,HB2.out⟩
     ·have i5:¬(0:Int) < (B:Int):=by omega
      have hR:=HP.out.1
      rw [if_neg (by simpa using hb0)] at hR
      clear hb0
      cases hrg:Rg with
      | true=>
       subst hrg
       rw [if_pos rfl] at hR
       have HR:=hide hR
       clear hR
       go_wp2_with (first
        | (go_at_call 79;refine (unhide HD).mono ?_;rintro e w1 ⟨mb,n,rfl,hM1,hn1,hmb1,hB1⟩;have hB1':=HV.out.2.trans (hB1.mono hzV);have HB1:=hide (And.intro hB1' (HC.out.2.2.1 w1 mb n hM1));clear hM1 hn1 hmb1 hB1 hB1')
        | (go_at_call 80;refine (unhide HB1).2.mono ?_;rintro e w2 ⟨ob,m,K,rfl,hM2,hn2,hm2,hob2,hB2⟩;have hl2:=HC.out.2.2.2.1 w2 ob m K hM2 hn2 hm2;have HB2:=hide (HB1.out.1.trans (hB2.mono HB1.out.1.size));clear hM2 hn2 hm2 hob2 hB2)
        | (go_at_call 81;refine (HP.out.2 w2 HB2.out).mono ?_;rintro e w3 ⟨rfl,hB3⟩))
       go_ret
       exact ⟨by rw [HR.out];rfl,HB2.out.trans (hB3.mono HB2.out.size)⟩
      | false=>
       subst hrg
       rw [if_neg (by simp)] at hR
       have HR:=hide hR
       clear hR
       go_wp2_with (first
        | (go_at_call 79;refine (unhide HD).mono ?_;rintro e w1 ⟨mb,n,rfl,hM1,hn1,hmb1,hB1⟩;have hB1':=HV.out.2.trans (hB1.mono hzV);have HB1:=hide (And.intro hB1' (HC.out.2.2.1 w1 mb n hM1));clear hM1 hn1 hmb1 hB1 hB1')
        | (go_at_call 80;refine (unhide HB1).2.mono ?_;rintro e w2 ⟨ob,m,K,rfl,hM2,hn2,hm2,hob2,hB2⟩;have hl2:=HC.out.2.2.2.1 w2 ob m K hM2 hn2 hm2;have HB2:=hide (HB1.out.1.trans (hB2.mono HB1.out.1.size));clear hM2 hn2 hm2 hob2 hB2)
        | (go_at_call 81;refine (HP.out.2 w2 HB2.out).mono ?_;rintro e w3 ⟨rfl,hB3⟩))
       go_ret
       exact ⟨by rw [HR.out];rfl,HB2.out.trans (hB3.mono HB2.out.size)⟩
theorem Check4_any (A:Option Addr) (c:Nat) (ts:List Tri) (w:World) (hs:Sl encT 9 w w.heap.size A ts) (hl:ts.length≤100000000) (hf:∀t∈ts,fitsT t):
  Calls Tryz.prog 19 #[.slice A ts.length c] w fun e w'=>e= .returned (.int .i64 (checkP ts false))∧Below w.heap.size w w':=by
 have hc:=check4_any A c ts false w hs hl hf
 obtain ⟨R,hR⟩:∃R,R=checkP ts false:=⟨_,rfl⟩
 obtain ⟨M,hM⟩:∃R,R=ts.length:=⟨_,rfl⟩
 rw [←hR,←hM] at hc⊢
 have HC:=hide hc
 clear hs hf hR hM hc hl
 go_enter Tryz.func19,Tryz.ntmps19
 go_wp2_with (go_at_call 47;refine (unhide HC).mono ?_;rintro e w1 ⟨rfl,hB1⟩)
 go_ret
 exact ⟨rfl,hB1⟩
end Go.Proofs.YtmemofonebphfaaGreat
namespace Go.Proofs.YtmemofonebphfaaGreat
open Go.RowKit Go.Sort Go.WideMaps Go.Maps Go.Shelf
def nrmL (t:List Pt):List E2:=(dirE t).map fun e=>nrmE e.1 e.2
theorem nrmL_take {t:List Pt} {i:Nat} {x:Pt} (h:t[i]? =some x):nrmL (t.take (i+1))=nrmL (t.take i)++ [nrmE x.1 x.2.1,nrmE x.2.1 x.2.2,nrmE x.2.2 x.1]:=by
 unfold nrmL dirE
 rw [take_at h,List.flatMap_append,List.flatMap_singleton,List.map_append]
 rfl
theorem lenE9 {w:World} {ob m:Nat} {J K:List E2} (hM:MapK Tryz.prog 115 vE2 fits2 w ob m (setK4 J)) (hn:K.Nodup) (hf:∀p∈K,fits2 p) (hk:∀p,p∈K ↔ p∈J):(Builtin.len_ #[83] 3 #[.map (some ob)]).run Tryz.prog w= .ok (.int .i64 K.length) w:=by
 refine MapK.len kfSE (t:=83) (e:=4) hM Tryz.underlying83 K hn hf (fun p _=> ?_) _
 rw [hk]
 unfold setK4
 by_cases h:p∈J
 ·rw [if_pos h];exact ⟨fun _ e=>(by cases e),fun _=>h⟩
 ·rw [if_neg h];exact ⟨fun h'=>absurd h' h,fun h'=>absurd rfl h'⟩
theorem nrmL_mem {t:List Pt} (h:checkP (t.map numT) false=0) {q:E2}:q∈nrmL t ↔ q∈edgesE t:=by
 obtain ⟨h1,_,h3,_⟩:=check_num.1 h
 unfold nrmL
 rw [List.mem_map]
 constructor
 ·rintro ⟨e,he,rfl⟩
  have hs:=h3 e he
  have hne:e.1≠e.2:=by
   obtain ⟨x,hx,hd⟩:=mem_dirE.1 he
   have:=h1 x hx
   rcases mem_de3.1 hd with rfl | rfl | rfl
   ·exact this.1
   ·exact this.2.1
   ·exact this.2.2
  rcases Int.lt_or_gt_of_ne hne with hlt | hlt
  ·rw [nrmE_up hlt];exact mem_edgesE.2 ⟨he,hlt⟩
  ·rw [nrmE_sym,nrmE_up hlt];exact mem_edgesE.2 ⟨hs,hlt⟩
 ·intro hq
  obtain ⟨hd,hlt⟩:=mem_edgesE.1 hq
  exact ⟨q,hd,nrmE_up hlt⟩
theorem nrmL_memB {t:List Pt} (h:checkP (t.map numT) false=0) (q:E2):memB (nrmL t) q=(edgesE t).contains q:=by
 rw [Bool.eq_iff_iff,memB_iff,List.contains_iff_mem]
 exact nrmL_mem h
structure WrS (w W:World) (g gj mj cnt:Nat) (ctl:Array Value) (nv:Value) (n:Nat) (xs:List Tri) (J:List E2):Prop where
 bel:Below w.heap.size w W
 b1:Blk W g 32 ctl
 bj:Blk W gj 83 #[.map (some mj)]
 op:Own encT 9 46 W w.heap.size nv n xs
 mp:MapK Tryz.prog 115 vE2 fits2 W mj cnt (setK4 J)
 le:w.heap.size≤mj
 ne:g≠mj∧gj≠mj
section
variable {w W W':World} {g gj mj cnt:Nat} {ctl:Array Value} {nv:Value} {n:Nat} {xs:List Tri} {J:List E2}
theorem WrS.below (h:WrS w W g gj mj cnt ctl nv n xs J) (hB:Below W.heap.size W W'):WrS w W' g gj mj cnt ctl nv n xs J:=
 ⟨h.bel.trans (hB.mono h.bel.size),h.b1.below hB h.b1.lt,h.bj.below hB h.bj.lt,h.op.below hB (Nat.le_refl _),h.mp.below hB h.mp.lt,h.le,h.ne⟩
theorem WrS.upj {J':List E2} {cnt':Nat} (h:WrS w W g gj mj cnt ctl nv n xs J) (hg:W.grownBy W' (some mj)) (hm:MapK Tryz.prog 115 vE2 fits2 W' mj cnt' (setK4 J')):WrS w W' g gj mj cnt' ctl nv n xs J':=
 ⟨h.bel.trans (grown_bel hg h.le h.bel.size),h.b1.grown hg (fun e=>h.ne.1 (Option.some.inj e)),h.bj.grown hg (fun e=>h.ne.2 (Option.some.inj e)),h.op.kept hg (.inr (own_map_ne h.op h.mp)),hm,h.le,h.ne⟩
theorem WrS.app {v6:Value} {n':Nat} {xs':List Tri} (h:WrS w W g gj mj cnt ctl nv n xs J) (hg:W.grownBy W' nv.ownBlock) (ho:Own encT 9 46 W' w.heap.size v6 n' xs'):WrS w W' g gj mj cnt ctl v6 n' xs' J:=
 ⟨h.bel.trans (grown_belO hg (fun r hr=>(h.op.blk r hr).1) h.bel.size),h.b1.grown hg (blk_own_ne9 h.b1 h.op (show (46:TypeId)≠32 by decide)),h.bj.grown hg (blk_own_ne9 h.bj h.op (show (46:TypeId)≠83 by decide)),ho,h.mp.kept hg (Ne.symm (own_map_ne h.op h.mp)),h.le,h.ne⟩
end
theorem ent_wr (args:Array Value) (W:World):(callFunc 75 args).run Tryz.prog W= .ok (.enter 75 args) W:=
 enters_of Tryz.func75 (by kernel_rfl) rfl args W
set_option maxRecDepth 100000 in
set_option maxHeartbeats 32000000 in
theorem offJ_any (gj mj cnt:Nat) (J:List E2) (x:E2) (w:World) (hj:Blk w gj 83 #[.map (some mj)]) (hm:MapK Tryz.prog 115 vE2 fits2 w mj cnt (setK4 J)) (hf:fits2 x):
  Calls Tryz.prog 75 #[vE2 x, .pointer (some ⟨gj,0,none⟩)] w fun e w'=>e= .returned (.bool (!memB J (nrmE x.1 x.2)))∧Below w.heap.size w w':=by
 have hfx:=nrm1_fits hf
 have hbt:=between_any x.1 x.2
 have hlk:∀W,Below w.heap.size w W→(Instr.lookup 83 (.map (some mj)) (vE2 (nrmE x.1 x.2)) false).run Tryz.prog W= .ok (.bool (memB J (nrmE x.1 x.2))) W:=fun W hW=>by
  have h:=(hm.below hW hm.lt).lookup kfSE (t:=83) (e:=4) Tryz.underlying83 (z:= .bool false) rfl (nrmE x.1 x.2) hfx
  rw [setK4_get] at h
  exact h
 obtain ⟨p,hp⟩:∃p,p=nrmE x.1 x.2:=⟨_,rfl⟩
 rw [←hp] at hlk hbt⊢
 obtain ⟨b,hb⟩:∃b,b=memB J p:=⟨_,rfl⟩
 rw [←hb] at hlk⊢
 obtain ⟨x1,x2⟩:=x
 obtain ⟨gb,hgb⟩:∃n,n=w.heap.size:=⟨_,rfl⟩
 obtain ⟨X,hX⟩:∃W,W=w.alloc (.cells #[.int .i64 x1, .int .i64 x2] 56):=⟨_,rfl⟩
 have hBX:Below w.heap.size w X:=by rw [hX];exact (Below.refl _ w).alloc (Nat.le_refl _) _
 have hKX:Blk X gb 56 #[.int .i64 x1, .int .i64 x2]:=by rw [hX,hgb];exact Blk.new _ _ _
 have HK:=hide (And.intro hlk (And.intro hbt (And.intro hBX (And.intro hKX (hj.below hBX hj.lt)))))
 clear hlk hbt hBX hKX hj hm hf hfx hp hb
 go_enter Tryz.func75,Tryz.ntmps75
 go_upto_region 1 with fail
 rw [←hX,←hgb]
 clear hX hgb
 have HSB:=hide (show Below X.heap.size X X.drew from (Below.refl _ X).drew)
 refine wp_region_mix (fun W=>Below X.heap.size X W) [0,1,2,3,4,6,7,8] [0,1,2,3,4,5,6,7,8] mixed_ok (by kernel_rfl) ?_
 refine wpMix_q (v:=(.map (some mj))) rfl rfl (fun _ _ _ h=>h) HSB.out ⟨rfl,fun _ h'=>by have a0:=(h'.cell (p:=⟨gj,0,none⟩) HK.out.2.2.2.2.lt).trans (HK.out.2.2.2.2.cell 0);simp only [List.getElem?_toArray,List.getElem?_cons_zero] at a0;simp [go_sem,a0]⟩ ?_
 refine wpMix_q (v:=(.pointer (some ⟨gb,0,none⟩))) rfl rfl (fun _ _ _ h=>h) HSB.out ⟨rfl,fun _ _=>by simp [go_sem]⟩ ?_
 refine wpMix_q (v:=(.int .i64 x1)) rfl rfl (fun _ _ _ h=>h) HSB.out ⟨rfl,fun _ h'=>by have a0:=(h'.cell (p:=⟨gb,0,none⟩) HK.out.2.2.2.1.lt).trans (HK.out.2.2.2.1.cell 0);simp only [List.getElem?_toArray,List.getElem?_cons_zero] at a0;simp [go_sem,a0]⟩ ?_
 refine wpMix_q (v:=(.pointer (some ⟨gb,1,none⟩))) rfl rfl (fun _ _ _ h=>h) HSB.out ⟨rfl,fun _ _=>by simp [go_sem]⟩ ?_
 refine wpMix_q (v:=(.int .i64 x2)) rfl rfl (fun _ _ _ h=>h) HSB.out ⟨rfl,fun _ h'=>by have a1:=(h'.cell (p:=⟨gb,1,none⟩) HK.out.2.2.2.1.lt).trans (HK.out.2.2.2.1.cell 1);simp only [List.getElem?_toArray,List.getElem?_cons_zero,List.getElem?_cons_succ] at a1;simp [go_sem,a1]⟩ ?_
 simp only [List.getElem_toArray,List.getElem_cons_succ,List.getElem_cons_zero,Act.put,List.setIfInBounds_toArray,List.set_cons_succ,List.set_cons_zero]
 refine wpMix_n rfl rfl ?_
 go_wp2_with fail
 refine (HK.out.2.1 X.drew).mono ?_
 rintro e W5 ⟨rfl,hB⟩
 have HSC:=hide (HSB.out.trans (hB.mono HSB.out.size))
 clear hB HSB
 go_wp2_with fail
 refine ⟨fun _=>HSC.out,?_⟩
 refine wpMix_q (v:=(.bool b)) rfl rfl (fun _ _ _ h=>h) HSC.out ⟨rfl,fun _ h'=>by have a0:=HK.out.1 _ (HK.out.2.2.1.trans (h'.mono HK.out.2.2.1.size));simp [go_sem,a0]⟩ ?_
 refine wpMix_q (v:=(.bool (!b))) rfl rfl (fun _ _ _ h=>h) HSC.out ⟨rfl,fun _ _=>by simp [go_sem]⟩ ?_
 refine wpMix_q (v:=(.bool (!b))) rfl rfl (fun _ _ _ h=>h) HSC.out ⟨rfl,fun _ _=>by simp [go_sem]⟩ ?_
 simp only [List.getElem_toArray,List.getElem_cons_succ,List.getElem_cons_zero,Act.put,List.setIfInBounds_toArray,List.set_cons_succ,List.set_cons_zero]
 refine wpMix_nil ?_
 go_wp2
 go_ret
 exact ⟨rfl,HK.out.2.2.1.trans (HSC.out.mono HK.out.2.2.1.size)⟩
set_option maxRecDepth 100000 in
set_option maxHeartbeats 64000000 in
theorem wrong_any (Ap At Ac Ao Ad:Option Addr) (cp ct cc oc dc:Nat) (c:Ctl) (w:World) (hm:CtlM w w.heap.size Ap At Ac Ao Ad c) (hb:CtlB c) (hfs:fits c.steps):
  Calls Tryz.prog 40 #[vCtl Ap c.points.length cp At c.tris.length ct Ac c.creases.length cc Ao c.corners.length oc c.steps Ad c.details.length dc] w fun e w'=>e= .returned (.int .i64 (errC c))∧Below w.heap.size w w':=by
 have ki:=fun (W:World) (hW:Below w.heap.size w W)=>known_any Ap At Ac Ao Ad cp ct cc oc c.details.length dc c W (hm.below hW hW.size) hb
 have kr:=fun (W:World) (hW:Below w.heap.size w W) (hi:Int)=>inRange_any Ap cp c.points 0 hi W ((hm.below hW hW.size).p) (by have:=hb.p;omega)
 obtain ⟨np,hnp⟩:∃n,n=c.points.length:=⟨_,rfl⟩
 obtain ⟨nt,hnt⟩:∃n,n=c.tris.length:=⟨_,rfl⟩
 obtain ⟨nc,hnc⟩:∃n,n=c.creases.length:=⟨_,rfl⟩
 obtain ⟨no,hno⟩:∃n,n=c.corners.length:=⟨_,rfl⟩
 obtain ⟨nd,hnd⟩:∃n,n=c.details.length:=⟨_,rfl⟩
 obtain ⟨st,hst⟩:∃s,s=c.steps:=⟨_,rfl⟩
 obtain ⟨R,hR⟩:∃R,R=errC c:=⟨_,rfl⟩
 have hpl:np≤100000:=by rw [hnp];exact hb.p
 have htl:nt≤100000:=by rw [hnt];exact hb.t
 have hcl:nc≤100000:=by rw [hnc];exact hb.cr
 have hol:no≤100000:=by rw [hno];exact hb.o
 have hdl:nd≤100000:=by rw [hnd];exact hb.d
 have ha:argC c=(decide (st < 0) || decide (4 < st) || decide (st < (nd:Int))):=by rw [hst,hnd];rfl
 have r1:argC c=true→R=1:=fun h=>by rw [hR];unfold errC;rw [if_pos h]
 have r2:argC c=false→badIx c=true→R=14:=fun h1 h2=>by rw [hR];unfold errC;rw [if_neg (by rw [h1];simp),if_pos h2]
 have r3:argC c=false→badIx c=false→checkP (c.tris.map numT) false≠0→R=checkP (c.tris.map numT) false:=fun h1 h2 h3=>by rw [hR];unfold errC;rw [if_neg (by rw [h1];simp),if_neg (by rw [h2];simp),if_pos h3]
 have r4:argC c=false→badIx c=false→checkP (c.tris.map numT) false=0→R=if noEdge c.tris c.creases=true then 13 else if manyC c=true then 2 else if farC c=true then 3 else 0:=fun h1 h2 h3=>by rw [hR];unfold errC;rw [if_neg (by rw [h1];simp),if_neg (by rw [h2];simp),if_neg (by simpa using h3)]
 rw [←hR,←hnp,←hnt,←hnc,←hno,←hnd,←hst]
 simp only [←hnp,←hnt,←hnc,←hno,←hnd,←hst] at ki kr
 have hfs': -9223372036854775808≤st∧st≤9223372036854775807:=by rw [hst];exact hfs
 have HS:=hide (And.intro hm (And.intro hb (And.intro hnp (And.intro hnt (And.intro hnc (And.intro hno (And.intro hnd hst)))))))
 have HK:=hide (And.intro ki kr)
 have HR:=hide (And.intro r1 (And.intro r2 (And.intro r3 (And.intro r4 ha))))
 clear hm hb hnp hnt hnc hno hnd hst hR r1 r2 r3 r4 ki kr ha hfs
 have hmm:=@run_makeMap Tryz.prog
 go_enter Tryz.func40,Tryz.ntmps40
 go_upto_region 1 with fail
 obtain ⟨g,hg⟩:∃g,g=w.heap.size:=⟨_,rfl⟩
 obtain ⟨X,hX⟩:∃W,W=w.alloc (.cells (cCtl Ap np cp At nt ct Ac nc cc Ao no oc st Ad nd dc) 32):=⟨_,rfl⟩
 rw [←hX,←hg]
 have hbX:Blk X g 32 (cCtl Ap np cp At nt ct Ac nc cc Ao no oc st Ad nd dc):=by rw [hX,hg];exact Blk.new _ _ _
 have hBX:Below w.heap.size w X:=by rw [hX];exact (Below.refl _ w).alloc (Nat.le_refl _) _
 obtain ⟨z0,z1,z2,z3,z4,z5⟩:=hbX.six9
 have hgl:=hbX.lt
 have HX:=hide (And.intro hbX hBX)
 clear hbX hBX hX hg
 by_cases s1:st < 0
 ·have hr:=HR.out.1 (by rw [HR.out.2.2.2.2];simp [s1])
  have HQ:=hide hr
  clear hr
  go_wp2
  go_ret
  exact ⟨by rw [HQ.out];rfl,HX.out.2⟩
 ·by_cases s2:4 < st
  ·have hr:=HR.out.1 (by rw [HR.out.2.2.2.2];simp [s2])
   have HQ:=hide hr
   clear hr
   go_wp2
   go_ret
   exact ⟨by rw [HQ.out];rfl,HX.out.2⟩
  ·by_cases s3:st < (nd:Int)
   ·have hr:=HR.out.1 (by rw [HR.out.2.2.2.2];simp [s3])
    have HQ:=hide hr
    clear hr
    go_wp2
    go_ret
    exact ⟨by rw [HQ.out];rfl,HX.out.2⟩
   ·have hA:argC c=false:=by rw [HR.out.2.2.2.2];simp [s1,s2,s3]
    obtain ⟨sn,hsn⟩:∃n:Nat,st=n:=⟨st.toNat,by omega⟩
    subst hsn
    have hs4:sn≤4:=by omega
    have hsd:nd≤sn:=by omega
    have HA:=hide hA
    have k1:=HK.out.1 X HX.out.2
    cases hix:badIx c with
    | true=>
     rw [hix] at k1
     have hr:=HR.out.2.1 hA hix
     have HQ:=hide (And.intro hr k1)
     clear hr k1 hA hix
     go_wp2_with (go_at_call 72;refine HQ.out.2.mono ?_;rintro e W1 ⟨rfl,hB⟩;have H1:=hide (HX.out.2.trans (hB.mono HX.out.2.size));clear hB)
     go_ret
     exact ⟨by rw [HQ.out.1];rfl,H1.out⟩
    | false=>
     rw [hix] at k1
     have HI:=hide (And.intro hix k1)
     clear k1 hA hix
     go_upto_region 5 with (go_at_call 72;refine HI.out.2.mono ?_;rintro e W1 ⟨rfl,hB⟩;have H1:=hide (And.intro (HX.out.2.trans (hB.mono HX.out.2.size)) (HX.out.1.below hB HX.out.1.lt));clear hB)
     clear z0 z1 z2 z3 z4 z5 hgl
     go_upto_region 7 with fail
     clear hmm
     obtain ⟨mj,hmj⟩:∃n,n=W1.heap.size:=⟨_,rfl⟩
     obtain ⟨gj,hgj⟩:∃n,n=W1.heap.size+1:=⟨_,rfl⟩
     obtain ⟨X2,hX2⟩:∃W,W=(W1.alloc (.map #[] 0)).alloc (.cells #[.map (some W1.heap.size)] 83):=⟨_,rfl⟩
     rw [←hX2,←hgj]
     have hS0:WrS w X2 g gj mj 0 (cCtl Ap np cp At nt ct Ac nc cc Ao no oc sn Ad nd dc) (.slice none 0 0) 0 [] []:=by
      have hm1:=MapK.made Tryz.prog 115 vE2 fits2 W1
      rw [←hmj] at hm1
      have e1:(fun _=>none:E2→Option Value)=setK4 []:=by funext q;simp [setK4]
      rw [e1] at hm1
      have a1:Below W1.heap.size W1 (W1.alloc (.map #[] 0)):=(Below.refl _ _).alloc (Nat.le_refl _) _
      have a2:Below (W1.alloc (.map #[] 0)).heap.size (W1.alloc (.map #[] 0)) X2:=by rw [hX2];exact (Below.refl _ _).alloc (Nat.le_refl _) _
      have hsz:=H1.out.1.size
      have hgl:=H1.out.2.lt
      have b1:=(H1.out.2.below a1 hgl).below a2 (H1.out.2.below a1 hgl).lt
      have bj:Blk X2 gj 83 #[.map (some mj)]:=by rw [hX2,hgj,hmj];exact Blk.new' _ _ _ _ (by simp)
      have B1:=H1.out.1.trans (a1.mono hsz)
      exact ⟨B1.trans (a2.mono B1.size),b1,bj,Own.nil,hm1.below a2 hm1.lt,by omega,by omega⟩
     have z1:X2.cell? ⟨g,1,none⟩=some (.slice At nt ct):=hS0.b1.cell 1
     have hgl:=hS0.b1.lt
     have HS0:=hide hS0
     clear hS0 hX2 hmj hgj
     go_upto_region 8 with fail
     clear z1 hgl
     go_loopw [3,41] (fun nv iv wr=>∃i cnt:Nat,i≤nt∧iv= .int .i64 i∧WrS w wr g gj mj cnt (cCtl Ap np cp At nt ct Ac nc cc Ao no oc sn Ad nd dc) nv i ((c.tris.take i).map numT) (nrmL (c.tris.take i))∧cnt≤3*i) (fun _ iv _=>nt - (intOf iv).toNat)
     case atStart=>exact ⟨0,0,by omega,rfl,by rw [List.take_zero];exact HS0.out,by omega⟩
     case round=>
      obtain ⟨i,cnt,hi,rfl,hS,hcnt⟩:=hrel
      obtain ⟨V,rfl⟩:∃x,x=wr:=⟨_,rfl⟩
      obtain ⟨Al,cl,rfl⟩:=hS.op.form
      have hix9:∀x∈c.tris,∀n∈corN3 x,0≤n∧n < (np:Int):=fun x hx n hn=>by
       have h:=HI.out.1
       unfold badIx at h
       simp only [Bool.or_eq_false_iff] at h
       rw [HS.out.2.2.1]
       exact outE_no h.1.1 n (List.mem_flatMap.2 ⟨x,hx,hn⟩)
      by_cases hlt:i < nt
      ·have i1:(i:Int) < (nt:Int):=by omega
       obtain ⟨x,hx⟩:∃x,c.tris[i]? =some x:=⟨_,List.getElem?_eq_getElem (by rw [←HS.out.2.2.2.1];exact hlt)⟩
       obtain ⟨bb,o,hAt,hbb,c0,c1,c2⟩:=(HS.out.1.t.below hS.bel).n3 hx
       subst hAt
       have hbV2:bb < V.heap.size:=Nat.lt_of_lt_of_le hbb hS.bel.size
       have htk:(c.tris.take (i+1)).map numT=(c.tris.take i).map numT++ [numT x]:=by rw [List.take_add_one,hx,List.map_append];rfl
       have hnk:=nrmL_take hx
       have hxf:∀n∈corN3 x,fits n:=fun n hn=>by have:=hix9 x (List.mem_of_getElem? hx) n hn;unfold fits;omega
       obtain ⟨x1,x2,x3⟩:=x
       simp only at c0 c1 c2
       have hf1:=hxf x1 (by simp [corN3])
       have hf2:=hxf x2 (by simp [corN3])
       have hf3:=hxf x3 (by simp [corN3])
       have HV:=hide (And.intro hS (And.intro htk (And.intro hnk (And.intro hf1 (And.intro hf2 hf3)))))
       clear hS htk hnk hx hbb hxf hf1 hf2 hf3 hix9
       go_upto_region 10 with fail
       obtain ⟨Y,hY⟩:∃W,W=V.alloc (.cells #[.int .i64 x1, .int .i64 x2, .int .i64 x3] 35):=⟨_,rfl⟩
       obtain ⟨gy,hgy⟩:∃g,g=V.heap.size:=⟨_,rfl⟩
       have hbY:Blk Y gy 35 #[.int .i64 x1, .int .i64 x2, .int .i64 x3]:=by rw [hY,hgy];exact Blk.new _ _ _
       have hSY:=HV.out.1.below (show Below V.heap.size V Y by rw [hY];exact (Below.refl _ V).alloc (Nat.le_refl _) _)
       have hgo:gy≠mj:=by have:=HV.out.1.mp.lt;omega
       rw [←hY,←hgy]
       have HY:=hide (And.intro hSY (And.intro hbY hgo))
       obtain ⟨y0,y1,y2⟩:=hbY.three
       have hgyl:=hbY.lt
       have hzY:=hSY.bel.size
       clear c0 c1 c2 hbV2 hY hgy hbY hSY hgo
       go_upto_region 11 with (at_builtin;refine wpList_append1 rfl _ _ _ rfl Tryz.underlying44 infoT rfl (by omega) encT_len encT_one rfl (HY.out.1.op.alloc _) Y.heap.size 1 (numT (x1,x2,x3):Tri) rfl (Blk.new _ _ _) (by unfold maxLen;omega) (by omega) (by simp;omega) ?_;intro g5 cap5 w5 hown5 hg5 hB5 hat5 hgb5 hlt5;have H5:=hide (And.intro hown5 hg5);clear hown5 hg5 hB5 hat5 hgb5 hlt5)
       clear y0 y1 y2 hgyl hzY
       have hal:Below Y.heap.size Y (Y.alloc (.cells (encT (numT (x1,x2,x3))).toArray 46)):=(Below.refl _ Y).alloc (Nat.le_refl _) _
       have hSa:=HY.out.1.below hal
       have hS5:=hSa.app H5.out.2 H5.out.1
       have hKa:=HY.out.2.1.below hal HY.out.2.1.lt
       have hK5:=hKa.grown H5.out.2 (blk_own_ne9 hKa hSa.op (show (46:TypeId)≠35 by decide))
       have y0:w5.cell? ⟨gy,0,none⟩=some (.int .i64 x1):=hK5.cell 0
       have y1:w5.cell? ⟨gy,1,none⟩=some (.int .i64 x2):=hK5.cell 1
       have y2:w5.cell? ⟨gy,2,none⟩=some (.int .i64 x3):=hK5.cell 2
       have hgyl:=hK5.lt
       rw [←HV.out.2.1] at hS5
       have H6:=hide (And.intro hS5 hK5)
       clear hal hSa hS5 hKa hK5
       go_upto_region 12 with fail
       clear y0 y1 y2 hgyl
       go_loopw [59] (fun jv wz=>∃(j cn:Nat),j≤3∧jv= .int .i64 j∧WrS w wz g gj mj cn (cCtl Ap np cp (some ⟨bb,o,none⟩) nt ct Ac nc cc Ao no oc sn Ad nd dc) (.slice (some ⟨g5,0,none⟩) (i+1) cap5) (i+1) ((c.tris.take (i+1)).map numT) (nrmL (c.tris.take i)++ [nrmE x1 x2,nrmE x2 x3,nrmE x3 x1].take j)∧Blk wz gy 35 #[.int .i64 x1, .int .i64 x2, .int .i64 x3]∧cn≤cnt+j) (fun jv _=>3 - (intOf jv).toNat)
       case atStart=>exact ⟨0,cnt,by omega,rfl,by rw [List.take_zero,List.append_nil];exact H6.out.1,H6.out.2,by omega⟩
       case round=>
        obtain ⟨j,cn,hj,rfl,hS,hK,hcn⟩:=hrel
        obtain ⟨U,rfl⟩:∃x,x=wr:=⟨_,rfl⟩
        have a1:IntKind.i64.wrap 1=1:=by decide
        have a2:IntKind.i64.wrap 2=2:=by decide
        have a3:IntKind.i64.wrap 3=3:=by decide
        have a0:IntKind.i64.wrap 0=0:=by decide
        have hc:j=0∨j=1∨j=2∨j=3:=by omega
        rcases hc with rfl | rfl | rfl | rfl
        ·have ix:=idxN0 (.int .i64 x1) (.int .i64 x2) (.int .i64 x3)
         have hbt:=between_any x1 x2
         have hfp:fits2 (nrmE x1 x2):=nrm1_fits (e:=(x1,x2)) ⟨HV.out.2.2.2.1,HV.out.2.2.2.2.1⟩
         obtain ⟨p,hp⟩:∃p,p=nrmE x1 x2:=⟨_,rfl⟩
         have hfp2:fits2 p:=by rw [hp];exact hfp
         rw [←hp] at hbt
         have hsnoc:nrmL (c.tris.take i)++ [nrmE x1 x2,nrmE x2 x3,nrmE x3 x1].take (0+1)=(nrmL (c.tris.take i)++ [nrmE x1 x2,nrmE x2 x3,nrmE x3 x1].take 0)++ [p]:=by rw [hp];simp
         have HU:=hide (And.intro hS (And.intro hK (And.intro hbt (And.intro hfp2 hsnoc))))
         clear hS hK hbt hfp hfp2 hsnoc hp
         go_upto_region 14 with fail
         have HSB:=hide (show Below U.heap.size U U.drew from (Below.refl _ U).drew)
         refine wp_region_mix (fun W=>Below U.heap.size U W) [0,1,2,3,4,5,6] [0,1,2,3,4,5,6,7,8] mixed_ok (by kernel_rfl) ?_
         refine wpMix_q (v:=(.map (some mj))) rfl rfl (fun _ _ _ h=>h) HSB.out ⟨rfl,fun _ h'=>by have a0:=(h'.cell (p:=⟨gj,0,none⟩) HU.out.1.bj.lt).trans (HU.out.1.bj.cell 0);simp only [List.getElem?_toArray,List.getElem?_cons_zero] at a0;simp [go_sem,a0]⟩ ?_
         refine wpMix_q (v:=(.int .i64 x1)) rfl rfl (fun _ _ _ h=>h) HSB.out ⟨rfl,fun _ _=>by simp [go_sem]⟩ ?_
         refine wpMix_q (v:=(.int .i64 0)) rfl rfl (fun _ _ _ h=>h) HSB.out ⟨rfl,fun _ _=>by simp [go_sem]⟩ ?_
         refine wpMix_q (v:=(.int .i64 1)) rfl rfl (fun _ _ _ h=>h) HSB.out ⟨rfl,fun _ _=>by simp [go_sem,a1]⟩ ?_
         refine wpMix_q (v:=(.int .i64 1)) rfl rfl (fun _ _ _ h=>h) HSB.out ⟨rfl,fun _ _=>by simp [go_sem]⟩ ?_
         refine wpMix_q (v:=(.pointer (some ⟨gy,1,none⟩))) rfl rfl (fun _ _ _ h=>h) HSB.out ⟨rfl,fun _ _=>by simp [go_sem]⟩ ?_
         simp only [List.getElem_toArray,List.getElem_cons_succ,List.getElem_cons_zero,Act.put,List.setIfInBounds_toArray,List.set_cons_succ,List.set_cons_zero]
         refine wpMix_q (v:=(.int .i64 x2)) rfl rfl (fun _ _ _ h=>h) HSB.out ⟨rfl,fun _ h'=>by have a0:=(h'.cell (p:=⟨gy,1,none⟩) HU.out.2.1.lt).trans (HU.out.2.1.cell 1);simp only [List.getElem?_toArray,List.getElem?_cons_zero,List.getElem?_cons_succ] at a0;simp [go_sem,a0]⟩ ?_
         simp only [List.getElem_toArray,List.getElem_cons_succ,List.getElem_cons_zero,Act.put,List.setIfInBounds_toArray,List.set_cons_succ,List.set_cons_zero]
         refine wpMix_n rfl rfl ?_
         go_wp2_with fail
         refine (HU.out.2.2.1 U.drew).mono ?_
         rintro e W5 ⟨rfl,hB⟩
         have hBU:=HSB.out.trans (hB.mono HSB.out.size)
         have hS5:=HU.out.1.below hBU
         obtain ⟨w6,hrun,hm6,hg6,hz6⟩:=hS5.mp.update kfSE (t:=83) (e:=4) Tryz.underlying83 (by unfold maxLen;omega) p HU.out.2.2.2.1 (.bool true)
         rw [setK4_one,←HU.out.2.2.2.2] at hm6
         have H7:=hide (And.intro hBU (And.intro (hS5.upj hg6 hm6) ((HU.out.2.1.below hBU HU.out.2.1.lt).grown hg6 (fun e=>HY.out.2.2 (Option.some.inj e)))))
         clear hB hBU hS5 hg6 hm6 hz6
         go_wp2_with fail
         refine ⟨fun _=>H7.out.1,?_⟩
         refine wpMix_tail _ [_] (by kernel_rfl) rfl ?_
         go_wp2
         go_roundw
         case rel=>exact ⟨1,cn+1,by omega,by go_num,H7.out.2.1,H7.out.2.2,by omega⟩
         case measure=>(simp [intOf];try omega)
        ·have ix:=idxN1 (.int .i64 x1) (.int .i64 x2) (.int .i64 x3)
         have hbt:=between_any x2 x3
         have hfp:fits2 (nrmE x2 x3):=nrm1_fits (e:=(x2,x3)) ⟨HV.out.2.2.2.2.1,HV.out.2.2.2.2.2⟩
         obtain ⟨p,hp⟩:∃p,p=nrmE x2 x3:=⟨_,rfl⟩
         have hfp2:fits2 p:=by rw [hp];exact hfp
         rw [←hp] at hbt
         have hsnoc:nrmL (c.tris.take i)++ [nrmE x1 x2,nrmE x2 x3,nrmE x3 x1].take (1+1)=(nrmL (c.tris.take i)++ [nrmE x1 x2,nrmE x2 x3,nrmE x3 x1].take 1)++ [p]:=by rw [hp];simp
         have HU:=hide (And.intro hS (And.intro hK (And.intro hbt (And.intro hfp2 hsnoc))))
         clear hS hK hbt hfp hfp2 hsnoc hp
         go_upto_region 14 with fail
         have HSB:=hide (show Below U.heap.size U U.drew from (Below.refl _ U).drew)
         refine wp_region_mix (fun W=>Below U.heap.size U W) [0,1,2,3,4,5,6] [0,1,2,3,4,5,6,7,8] mixed_ok (by kernel_rfl) ?_
         refine wpMix_q (v:=(.map (some mj))) rfl rfl (fun _ _ _ h=>h) HSB.out ⟨rfl,fun _ h'=>by have a0:=(h'.cell (p:=⟨gj,0,none⟩) HU.out.1.bj.lt).trans (HU.out.1.bj.cell 0);simp only [List.getElem?_toArray,List.getElem?_cons_zero] at a0;simp [go_sem,a0]⟩ ?_
         refine wpMix_q (v:=(.int .i64 x2)) rfl rfl (fun _ _ _ h=>h) HSB.out ⟨rfl,fun _ _=>by simp [go_sem]⟩ ?_
         refine wpMix_q (v:=(.int .i64 1)) rfl rfl (fun _ _ _ h=>h) HSB.out ⟨rfl,fun _ _=>by simp [go_sem]⟩ ?_
         refine wpMix_q (v:=(.int .i64 2)) rfl rfl (fun _ _ _ h=>h) HSB.out ⟨rfl,fun _ _=>by simp [go_sem,a2]⟩ ?_
         refine wpMix_q (v:=(.int .i64 2)) rfl rfl (fun _ _ _ h=>h) HSB.out ⟨rfl,fun _ _=>by simp [go_sem]⟩ ?_
         refine wpMix_q (v:=(.pointer (some ⟨gy,2,none⟩))) rfl rfl (fun _ _ _ h=>h) HSB.out ⟨rfl,fun _ _=>by simp [go_sem]⟩ ?_
         simp only [List.getElem_toArray,List.getElem_cons_succ,List.getElem_cons_zero,Act.put,List.setIfInBounds_toArray,List.set_cons_succ,List.set_cons_zero]
         refine wpMix_q (v:=(.int .i64 x3)) rfl rfl (fun _ _ _ h=>h) HSB.out ⟨rfl,fun _ h'=>by have a0:=(h'.cell (p:=⟨gy,2,none⟩) HU.out.2.1.lt).trans (HU.out.2.1.cell 2);simp only [List.getElem?_toArray,List.getElem?_cons_zero,List.getElem?_cons_succ] at a0;simp [go_sem,a0]⟩ ?_
         simp only [List.getElem_toArray,List.getElem_cons_succ,List.getElem_cons_zero,Act.put,List.setIfInBounds_toArray,List.set_cons_succ,List.set_cons_zero]
         refine wpMix_n rfl rfl ?_
         go_wp2_with fail
         refine (HU.out.2.2.1 U.drew).mono ?_
         rintro e W5 ⟨rfl,hB⟩
         have hBU:=HSB.out.trans (hB.mono HSB.out.size)
         have hS5:=HU.out.1.below hBU
         obtain ⟨w6,hrun,hm6,hg6,hz6⟩:=hS5.mp.update kfSE (t:=83) (e:=4) Tryz.underlying83 (by unfold maxLen;omega) p HU.out.2.2.2.1 (.bool true)
         rw [setK4_one,←HU.out.2.2.2.2] at hm6
         have H7:=hide (And.intro hBU (And.intro (hS5.upj hg6 hm6) ((HU.out.2.1.below hBU HU.out.2.1.lt).grown hg6 (fun e=>HY.out.2.2 (Option.some.inj e)))))
         clear hB hBU hS5 hg6 hm6 hz6
         go_wp2_with fail
         refine ⟨fun _=>H7.out.1,?_⟩
         refine wpMix_tail _ [_] (by kernel_rfl) rfl ?_
         go_wp2
         go_roundw
         case rel=>exact ⟨2,cn+1,by omega,by go_num,H7.out.2.1,H7.out.2.2,by omega⟩
         case measure=>(simp [intOf];try omega)
        ·have ix:=idxN2 (.int .i64 x1) (.int .i64 x2) (.int .i64 x3)
         have hbt:=between_any x3 x1
         have hfp:fits2 (nrmE x3 x1):=nrm1_fits (e:=(x3,x1)) ⟨HV.out.2.2.2.2.2,HV.out.2.2.2.1⟩
         obtain ⟨p,hp⟩:∃p,p=nrmE x3 x1:=⟨_,rfl⟩
         have hfp2:fits2 p:=by rw [hp];exact hfp
         rw [←hp] at hbt
         have hsnoc:nrmL (c.tris.take i)++ [nrmE x1 x2,nrmE x2 x3,nrmE x3 x1].take (2+1)=(nrmL (c.tris.take i)++ [nrmE x1 x2,nrmE x2 x3,nrmE x3 x1].take 2)++ [p]:=by rw [hp];simp
         have HU:=hide (And.intro hS (And.intro hK (And.intro hbt (And.intro hfp2 hsnoc))))
         clear hS hK hbt hfp hfp2 hsnoc hp
         go_upto_region 14 with fail
         have HSB:=hide (show Below U.heap.size U U.drew from (Below.refl _ U).drew)
         refine wp_region_mix (fun W=>Below U.heap.size U W) [0,1,2,3,4,5,6] [0,1,2,3,4,5,6,7,8] mixed_ok (by kernel_rfl) ?_
         refine wpMix_q (v:=(.map (some mj))) rfl rfl (fun _ _ _ h=>h) HSB.out ⟨rfl,fun _ h'=>by have a0:=(h'.cell (p:=⟨gj,0,none⟩) HU.out.1.bj.lt).trans (HU.out.1.bj.cell 0);simp only [List.getElem?_toArray,List.getElem?_cons_zero] at a0;simp [go_sem,a0]⟩ ?_
         refine wpMix_q (v:=(.int .i64 x3)) rfl rfl (fun _ _ _ h=>h) HSB.out ⟨rfl,fun _ _=>by simp [go_sem]⟩ ?_
         refine wpMix_q (v:=(.int .i64 2)) rfl rfl (fun _ _ _ h=>h) HSB.out ⟨rfl,fun _ _=>by simp [go_sem]⟩ ?_
         refine wpMix_q (v:=(.int .i64 3)) rfl rfl (fun _ _ _ h=>h) HSB.out ⟨rfl,fun _ _=>by simp [go_sem,a3]⟩ ?_
         refine wpMix_q (v:=(.int .i64 0)) rfl rfl (fun _ _ _ h=>h) HSB.out ⟨rfl,fun _ _=>by simp [go_sem]⟩ ?_
         refine wpMix_q (v:=(.pointer (some ⟨gy,0,none⟩))) rfl rfl (fun _ _ _ h=>h) HSB.out ⟨rfl,fun _ _=>by simp [go_sem]⟩ ?_
         simp only [List.getElem_toArray,List.getElem_cons_succ,List.getElem_cons_zero,Act.put,List.setIfInBounds_toArray,List.set_cons_succ,List.set_cons_zero]
         refine wpMix_q (v:=(.int .i64 x1)) rfl rfl (fun _ _ _ h=>h) HSB.out ⟨rfl,fun _ h'=>by have a0:=(h'.cell (p:=⟨gy,0,none⟩) HU.out.2.1.lt).trans (HU.out.2.1.cell 0);simp only [List.getElem?_toArray,List.getElem?_cons_zero] at a0;simp [go_sem,a0]⟩ ?_
         simp only [List.getElem_toArray,List.getElem_cons_succ,List.getElem_cons_zero,Act.put,List.setIfInBounds_toArray,List.set_cons_succ,List.set_cons_zero]
         refine wpMix_n rfl rfl ?_
         go_wp2_with fail
         refine (HU.out.2.2.1 U.drew).mono ?_
         rintro e W5 ⟨rfl,hB⟩
         have hBU:=HSB.out.trans (hB.mono HSB.out.size)
         have hS5:=HU.out.1.below hBU
         obtain ⟨w6,hrun,hm6,hg6,hz6⟩:=hS5.mp.update kfSE (t:=83) (e:=4) Tryz.underlying83 (by unfold maxLen;omega) p HU.out.2.2.2.1 (.bool true)
         rw [setK4_one,←HU.out.2.2.2.2] at hm6
         have H7:=hide (And.intro hBU (And.intro (hS5.upj hg6 hm6) ((HU.out.2.1.below hBU HU.out.2.1.lt).grown hg6 (fun e=>HY.out.2.2 (Option.some.inj e)))))
         clear hB hBU hS5 hg6 hm6 hz6
         go_wp2_with fail
         refine ⟨fun _=>H7.out.1,?_⟩
         refine wpMix_tail _ [_] (by kernel_rfl) rfl ?_
         go_wp2
         go_roundw
         case rel=>exact ⟨3,cn+1,by omega,by go_num,H7.out.2.1,H7.out.2.2,by omega⟩
         case measure=>(simp [intOf];try omega)
        ·have HU:=hide hS
         clear hS hK
         go_wp2
         go_roundw
         case rel=>exact ⟨i+1,cn,by omega,by go_num,by rw [HV.out.2.2.1];exact HU.out,by omega⟩
         case measure=>(simp [intOf];try omega)
      ·obtain rfl:i=nt:=by omega
       have i1:¬(i:Int) < (i:Int):=by omega
       rw [List.take_of_length_le (by rw [←HS.out.2.2.2.1];exact Nat.le_refl _)] at hS
       have hixo:∀x∈c.tris,fitsT (numT x):=fun x hx=>numT_fits (n:=np) (by omega) (hix9 x hx)
       have hml:=hS.op.1
       have kc:=Check4_any Al cl (c.tris.map numT) V (hS.op.sl encT_len (Nat.le_refl _)) (by omega) (fun t ht=>by
        obtain ⟨x,hx,rfl⟩:=List.mem_map.1 ht
        exact hixo x hx)
       rw [←hml] at kc
       obtain ⟨ck,hck⟩:∃x,x=checkP (c.tris.map numT) false:=⟨_,rfl⟩
       rw [←hck] at kc
       have HV:=hide (And.intro hS (And.intro kc (And.intro hck hix9)))
       clear hS hixo hml kc hck hix9 hlt hi hcnt
       by_cases hc0:ck=0
       ·subst hc0
        go_upto_region 20 with (go_at_call 19;refine HV.out.2.1.mono ?_;rintro e W2 ⟨rfl,hB⟩;have H2:=hide (HV.out.1.below hB);clear hB)
        have hck:=HV.out.2.2.1.symm
        have hst':c.steps.toNat=sn:=by have:=HS.out.2.2.2.2.2.2.2;omega
        have hr:=HR.out.2.2.2.1 HA.out HI.out.1 hck
        have hcnt:=sp_len hck
        rw [←HS.out.2.2.2.1] at hcnt
        have hcro:∀x∈c.creases,fits2 x:=fun x hx=>by
         have h:=HI.out.1
         unfold badIx at h
         simp only [Bool.or_eq_false_iff] at h
         have h1:=outE_no h.1.2 x.1 (List.mem_flatMap.2 ⟨x,hx,by simp⟩)
         have h2:=outE_no h.1.2 x.2 (List.mem_flatMap.2 ⟨x,hx,by simp⟩)
         rw [←HS.out.2.2.1] at h1 h2
         constructor <;>unfold fits <;>omega
        have hEf:∀e∈edgesE c.tris,fits2 e:=fun e he=>by
         obtain ⟨x,hx,hd⟩:=mem_dirE.1 (mem_edgesE.1 he).1
         have h1:=HV.out.2.2.2 x hx x.1 (by simp [corN3])
         have h2:=HV.out.2.2.2 x hx x.2.1 (by simp [corN3])
         have h3:=HV.out.2.2.2 x hx x.2.2 (by simp [corN3])
         rcases mem_de3.1 hd with rfl | rfl | rfl <;>constructor <;>unfold fits <;>dsimp only <;>omega
        have hne:noEdge c.tris c.creases=c.creases.any fun e=> !memB (nrmL c.tris) (nrmE e.1 e.2):=by
         unfold noEdge
         congr 1
         funext e
         rw [nrmL_memB hck]
        have hmc:manyC c=(manyE c.details sn (3*i / 2) || decide (65536 < 4^sn*i)):=by unfold manyC;rw [hst',←HS.out.2.2.2.1]
        have hfc:farC c=(outR 0 (2097151 / 16^sn) c.points || c.details.any (outR (-2097151) 2097151)):=by unfold farC;rw [hst']
        obtain ⟨nb,hnb⟩:∃b,b=c.creases.any fun e=> !memB (nrmL c.tris) (nrmE e.1 e.2):=⟨_,rfl⟩
        rw [hne,←hnb,hmc,hfc] at hr
        have kct:=contE_any Ac cc c.creases W2 ((HS.out.1.cr.below H2.out.bel).more H2.out.bel.size) (by rw [←HS.out.2.2.2.2.1];omega) 75 #[.pointer (some ⟨gj,0,none⟩)] (fun e=> !memB (nrmL c.tris) (nrmE e.1 e.2)) ent_wr (fun W hW x hx=>offJ_any gj mj cnt (nrmL c.tris) x W (H2.out.bj.below hW H2.out.bj.lt) (H2.out.mp.below hW H2.out.mp.lt) (hcro x hx))
        rw [←hnb,←HS.out.2.2.2.2.1] at kct
        have kle:=fun (W:World) (hW:Below W2.heap.size W2 W)=>lenE9 (H2.out.mp.below hW H2.out.mp.lt) (edgesE_nodup (check_num.1 hck).2.1) hEf (fun p=>(nrmL_mem hck).symm)
        obtain ⟨EN,hEN⟩:∃n,n=(edgesE c.tris).length:=⟨_,rfl⟩
        rw [←hEN] at hcnt
        simp only [←hEN] at kle
        have hE2:3*i / 2=EN:=by omega
        rw [hE2] at hr
        have z2:W2.cell? ⟨g,2,none⟩=some (.slice Ac nc cc):=H2.out.b1.cell 2
        have hgl:=H2.out.b1.lt
        have HM:=hide (And.intro hr (And.intro kct (And.intro kle hcnt)))
        have hENl:EN≤150000:=by omega
        clear hr kct kle hcnt hcro hEf hne hmc hfc hnb hEN hE2 hck hst'
        cases nb with
        | true=>
         have hr:=HM.out.1
         rw [if_pos rfl] at hr
         have HQ:=hide hr
         clear hr
         go_wp2_with (go_at_call 74;refine HM.out.2.1.mono ?_;rintro e W3 ⟨rfl,hB⟩;have H3:=hide (H2.out.bel.trans (hB.mono H2.out.bel.size));clear hB)
         go_ret
         exact ⟨by rw [HQ.out];rfl,H3.out⟩
        | false=>
         have hr:=HM.out.1
         rw [if_neg (by simp)] at hr
         have HQ0:=hide hr
         clear hr
         go_upto_region 22 with (go_at_call 74;refine HM.out.2.1.mono ?_;rintro e W3 ⟨rfl,hB⟩;have H3:=hide (And.intro (H2.out.below hB) (HM.out.2.2.1 W3 hB));clear hB)
         clear z2 hgl
         have j0:W3.cell? ⟨gj,0,none⟩=some (.map (some mj)):=H3.out.1.bj.cell 0
         have hgjl:=H3.out.1.bj.lt
         have hln:=H3.out.2
         obtain ⟨z0,z1,z2,z3,z4,z5⟩:=H3.out.1.b1.six9
         have hgl:=H3.out.1.b1.lt
         go_upto_region 24 with fail
         clear j0 hgjl hln
         obtain ⟨M,hM⟩:∃M,M=manyE c.details sn EN:=⟨_,rfl⟩
         have hr:=HQ0.out
         rw [←hM] at hr
         have HU:=hide (And.intro hr hM)
         clear hr hM
         go_loopw [10,87] (fun nv kv wr=>∃(j m:Nat),j≤nd∧nv= .int .i64 m∧kv= .int .i64 j∧m=4^j*EN∧manyE (c.details.drop j) (sn - j) m=M∧wr=W3) (fun _ kv _=>nd - (intOf kv).toNat)
         case atStart=>exact ⟨0,EN,by omega,rfl,rfl,by simp,HU.out.2.symm,rfl⟩
         case round=>
          obtain ⟨j,m,hj,rfl,rfl,hm4,hM,hw⟩:=hrel
          subst hw
          have hmb:m≤256*150000:=by
           rw [hm4]
           exact Nat.mul_le_mul (Nat.le_trans (Nat.pow_le_pow_right (by omega) (show j≤4 by omega)) (by decide)) hENl
          by_cases hjn:j < nd
          ·have l2:(j:Int) < (nd:Int):=by omega
           have hsub:sn - j=(sn - (j+1))+1:=by omega
           rw [hsub] at hM
           obtain ⟨d,hd⟩:∃d,c.details[j]? =some d:=⟨_,List.getElem?_eq_getElem (by rw [←HS.out.2.2.2.2.2.2.1];exact hjn)⟩
           rw [manyE_drop hd] at hM
           obtain ⟨bd,od,Ax,kx,hAd,hbd,cd,_⟩:=HS.out.1.det hd
           subst hAd
           have cd:=(H3.out.1.bel.cell (p:=⟨bd,od+j,none⟩) hbd).trans cd
           have hbdU:bd < wr.heap.size:=Nat.lt_of_lt_of_le hbd H3.out.1.bel.size
           obtain ⟨dl,hdl2⟩:∃n,n=d.length:=⟨_,rfl⟩
           rw [←hdl2] at hM cd
           have hdl3:dl≤1000000:=by rw [hdl2];exact HS.out.2.1.dd d (List.mem_of_getElem? hd)
           by_cases hov:m < dl
           ·have hr:=HU.out.1
            rw [←hM,decide_eq_true hov,Bool.true_or,Bool.true_or,if_pos rfl] at hr
            have HQ:=hide hr
            have l3:(m:Int) < (dl:Int):=by omega
            clear hr hM hd hm4 hsub hdl2 hbd
            go_wp2
            go_ret
            exact ⟨by rw [HQ.out];rfl,H3.out.1.bel⟩
           ·rw [decide_eq_false hov,Bool.false_or] at hM
            have HQ:=hide (And.intro hM hm4)
            have l3:¬(m:Int) < (dl:Int):=by omega
            clear hM hd hm4 hsub hdl2 hbd
            go_wp2
            go_roundw
            case rel=>exact ⟨j+1,4*m,by omega,by go_num,by go_num,by rw [HQ.out.2,Nat.pow_succ,←Nat.mul_assoc,Nat.mul_comm 4],HQ.out.1,by trivial⟩
            case measure=>(simp [intOf];try omega)
          ·obtain rfl:j=nd:=by omega
           have l2:¬(j:Int) < (j:Int):=by omega
           have hnil:c.details.drop j= []:=List.drop_eq_nil_of_le (by rw [←HS.out.2.2.2.2.2.2.1];exact Nat.le_refl _)
           rw [hnil,manyE_nil] at hM
           have hr:=HU.out.1
           rw [←hM,Bool.false_or] at hr
           obtain ⟨q,hq⟩:∃q,q=4^sn*i:=⟨_,rfl⟩
           rw [←hq] at hr
           have HQ:=hide (And.intro hr hq)
           clear hr hM hq hnil hm4
           obtain ⟨s2,hs2⟩:∃s,s=2*sn:=⟨_,rfl⟩
           have t1:2*(sn:Int)=(s2:Int):=by omega
           have t2:(i:Int)*2^s2=(q:Int):=by
            have key:∀s:Nat,s≤4→(2:Int)^(2*s)=((4^s:Nat):Int):=by decide
            rw [HQ.out.2,hs2,key sn hs4,Nat.mul_comm]
            exact (Int.natCast_mul _ _).symm
           have qb:q≤25600000:=by
            have key:∀s:Nat,s≤4→4^s≤256:=by decide
            rw [HQ.out.2]
            exact Nat.mul_le_mul (key sn hs4) htl
           by_cases hqm:65536 < q
           ·have hr:=HQ.out.1
            rw [decide_eq_true hqm,if_pos rfl] at hr
            have HQ9:=hide hr
            have l3:(65536:Int) < (q:Int):=by omega
            clear hr hqm hs2 HQ
            go_wp2
            go_ret
            exact ⟨by rw [HQ9.out];rfl,H3.out.1.bel⟩
           ·have hr:=HQ.out.1
            rw [decide_eq_false hqm,if_neg (by simp)] at hr
            have l3:¬(65536:Int) < (q:Int):=by omega
            obtain ⟨pw,mx,hpw,hmx,t3,t4,pb⟩:∃pw mx:Int,(16:Int)^sn=pw∧2097151 / (16:Int)^sn=mx∧(2097151:Int).tdiv pw=mx∧(2097151:Int) / pw=mx∧((1≤pw∧pw≤65536)∧0≤mx∧mx≤2097151):=by
             have hc:sn=0∨sn=1∨sn=2∨sn=3∨sn=4:=by omega
             rcases hc with rfl | rfl | rfl | rfl | rfl <;>exact ⟨_,_,rfl,rfl,by decide,by decide,by decide⟩
            have kp:=fun W=>scale_any sn hs4 W
            simp only [hpw] at kp
            rw [hmx] at hr
            have krg:=HK.out.2 wr.drew H3.out.1.bel.drew mx
            obtain ⟨f1,hf1⟩:∃f,f= !outR 0 mx c.points:=⟨_,rfl⟩
            rw [←hf1] at krg
            have HQ9:=hide (And.intro hr (And.intro hf1 (And.intro kp krg)))
            clear hr hqm hs2 HQ hpw hmx hf1 kp krg
            have pw0:¬pw=0:=by omega
            have wmx:IntKind.i64.wrap mx=mx:=IntWalk.i64_in _ (by omega)
            go_upto_region 32 with fail
            have HZ:=hide (And.intro z0 (And.intro z4 hgl))
            have HSB:=hide (show Below wr.heap.size wr wr.drew from (Below.refl _ wr).drew)
            refine wp_region_mix (fun W=>Below wr.heap.size wr W) [0,1,2,3,5] [0,1,2,3,4,5,6,7] mixed_ok (by kernel_rfl) ?_
            refine wpMix_q (v:=(.pointer (some ⟨g,0,none⟩))) rfl rfl (fun _ _ _ h=>h) HSB.out ⟨rfl,fun _ _=>by simp [go_sem]⟩ ?_
            refine wpMix_q (v:=(.slice Ap np cp)) rfl rfl (fun _ _ _ h=>h) HSB.out ⟨rfl,fun _ h'=>by have a0:=(h'.cell (p:=⟨g,0,none⟩) HZ.out.2.2).trans HZ.out.1;simp [go_sem,a0]⟩ ?_
            refine wpMix_q (v:=(.pointer (some ⟨g,4,none⟩))) rfl rfl (fun _ _ _ h=>h) HSB.out ⟨rfl,fun _ _=>by simp [go_sem]⟩ ?_
            refine wpMix_q (v:=(.int .i64 sn)) rfl rfl (fun _ _ _ h=>h) HSB.out ⟨rfl,fun _ h'=>by have a0:=(h'.cell (p:=⟨g,4,none⟩) HZ.out.2.2).trans HZ.out.2.1;simp [go_sem,a0]⟩ ?_
            simp only [List.getElem_toArray,List.getElem_cons_succ,List.getElem_cons_zero,Act.put,List.setIfInBounds_toArray,List.set_cons_succ,List.set_cons_zero]
            refine wpMix_n rfl rfl ?_
            go_wp2_with fail
            refine (HQ9.out.2.2.1 wr.drew).mono ?_
            rintro e W4 ⟨rfl,rfl⟩
            go_wp2_with fail
            refine ⟨fun _=>HSB.out,?_⟩
            refine wpMix_q (v:=(.int .i64 mx)) rfl rfl (fun _ _ _ h=>h) HSB.out ⟨rfl,fun _ _=>by simp [go_sem,pw0,t3,wmx]⟩ ?_
            refine wpMix_tail _ [_,_] (by kernel_rfl) rfl ?_
            go_upto_region 33 with (go_at_call 49;refine HQ9.out.2.2.2.mono ?_;rintro e W5 ⟨rfl,hB⟩;have H5:=hide (H3.out.1.below (undrew9 hB));clear hB)
            clear z0 z1 z2 z3 z4 z5 hgl HSB HZ
            have z5:W5.cell? ⟨g,5,none⟩=some (.slice Ad j dc):=H5.out.b1.cell 5
            have hgl:=H5.out.b1.lt
            go_upto_region 34 with fail
            clear z5 hgl
            go_loopw [13,116] (fun fv kv wz=>∃l:Nat,l≤j∧fv= .bool (f1 && (c.details.take l).all fun d=> !outR (-2097151) 2097151 d)∧kv= .int .i64 l∧Below W5.heap.size W5 wz) (fun _ kv _=>j - (intOf kv).toNat)
            case atStart=>exact ⟨0,by omega,by rw [List.take_zero];simp,rfl,Below.refl _ W5⟩
            case round=>
             obtain ⟨l,hl,rfl,rfl,hB⟩:=hrel
             obtain ⟨Q,rfl⟩:∃x,x=wr:=⟨_,rfl⟩
             have hBw:=H5.out.bel.trans (hB.mono H5.out.bel.size)
             obtain ⟨F,hF⟩:∃F,F=(f1 && (c.details.take l).all fun d=> !outR (-2097151) 2097151 d):=⟨_,rfl⟩
             rw [←hF]
             by_cases hln:l < j
             ·have l2:(l:Int) < (j:Int):=by omega
              obtain ⟨d,hd⟩:∃d,c.details[l]? =some d:=⟨_,List.getElem?_eq_getElem (by rw [←HS.out.2.2.2.2.2.2.1];exact hln)⟩
              obtain ⟨bd,od,Ax,kx,hAd,hbd,cd,hsd2⟩:=HS.out.1.det hd
              subst hAd
              have cd:=(hBw.cell (p:=⟨bd,od+l,none⟩) hbd).trans cd
              have hbdQ:bd < Q.heap.size:=Nat.lt_of_lt_of_le hbd hBw.size
              have hdl3:d.length≤1000000:=HS.out.2.1.dd d (List.mem_of_getElem? hd)
              have kd:=inRange_any Ax kx d (-2097151) 2097151 Q ((hsd2.below hBw).more hBw.size) (by omega)
              have hF2:(f1 && (c.details.take (l+1)).all fun d=> !outR (-2097151) 2097151 d)=(F && !outR (-2097151) 2097151 d):=by rw [List.take_add_one,hd,hF,Option.toList_some,List.all_append,Bool.and_assoc];simp
              obtain ⟨fd,hfd⟩:∃f,f= !outR (-2097151) 2097151 d:=⟨_,rfl⟩
              obtain ⟨dl,hdl2⟩:∃n,n=d.length:=⟨_,rfl⟩
              rw [←hfd] at kd hF2
              rw [←hdl2] at kd cd
              have HD:=hide (And.intro hF2 (And.intro kd hB))
              clear hF2 kd hB hd hsd2 hfd hdl2 hdl3 hbd hBw hF
              cases F with
              | true=>
               go_wp2_with (go_at_call 49;refine HD.out.2.1.mono ?_;rintro e W6 ⟨rfl,hB6⟩;have H6:=hide (HD.out.2.2.trans (hB6.mono HD.out.2.2.size));clear hB6)
               go_roundw
               case rel=>exact ⟨l+1,by omega,by rw [HD.out.1];simp,by go_num,H6.out⟩
               case measure=>(simp [intOf];try omega)
              | false=>
               go_wp2
               go_roundw
               case rel=>exact ⟨l+1,by omega,by rw [HD.out.1];simp,by go_num,HD.out.2.2⟩
               case measure=>(simp [intOf];try omega)
             ·obtain rfl:l=j:=by omega
              have l2:¬(l:Int) < (l:Int):=by omega
              have hr:=HQ9.out.1
              have ht:c.details.take l=c.details:=by rw [HS.out.2.2.2.2.2.2.1];exact List.take_length
              rw [ht] at hF
              have hFf:(outR 0 mx c.points || c.details.any (outR (-2097151) 2097151))= !F:=by
               rw [hF,HQ9.out.2.1,Bool.not_and,Bool.not_not,←List.not_any_eq_all_not,Bool.not_not]
              rw [hFf] at hr
              have HD:=hide (And.intro hr hBw)
              clear hr ht hF hFf hB hBw
              cases F with
              | true=>
               go_wp2
               go_ret
               exact ⟨by rw [HD.out.1];rfl,HD.out.2⟩
              | false=>
               go_wp2
               go_ret
               exact ⟨by rw [HD.out.1];rfl,HD.out.2⟩
       ·have hr:=HR.out.2.2.1 HA.out HI.out.1 (by rw [←HV.out.2.2.1];exact hc0)
        have HQ:=hide hr
        have hne:(ck !=0)=true:=by simpa using hc0
        clear hr
        go_wp2_with (go_at_call 19;refine HV.out.2.1.mono ?_;rintro e W2 ⟨rfl,hB⟩;have H2:=hide (HV.out.1.bel.trans (hB.mono HV.out.1.bel.size));clear hB)
        go_ret
        exact ⟨by rw [HQ.out,←HV.out.2.2.1];rfl,H2.out⟩
end Go.Proofs.YtmemofonebphfaaGreat
namespace Go.Proofs.YtmemofonebphfaaGreat
open Go.RowKit Go.Sort Go.WideMaps Go.Maps Go.Shelf
def fineMk (c:Ctl) (sn k i:Nat) (p:Pt):Pt:=match (c.details.getD k [])[i]? with
 | some d=>plusP p d (16^(sn - 1 - k))
 | none=>p
theorem fineMk_det (c:Ctl) (sn k:Nat) (a:List Pt):a.mapIdx (fineMk c sn k)=detE a (c.details.getD k []) (16^(sn - 1 - k)):=rfl
set_option maxRecDepth 100000 in
set_option maxHeartbeats 32000000 in
theorem fine1_any (Ap At Ac Ao Ad:Option Addr) (np cp nt ct nc cc no oc dc:Nat) (c:Ctl) (sn gk g1 k i:Nat) (p:Pt) (w:World) (hm:CtlM w w.heap.size Ap At Ac Ao Ad c) (hb:CtlB c) (hk:Blk w gk 3 #[.int .i64 k]) (h1:Blk w g1 32 (cCtl Ap np cp At nt ct Ac nc cc Ao no oc sn Ad c.details.length dc)) (hks:k < sn) (hs4:sn≤4) (_hi:i≤1000000):
  Calls Tryz.prog 43 #[.int .i64 i,vP p, .pointer (some ⟨gk,0,none⟩), .pointer (some ⟨g1,0,none⟩)] w fun e w'=>e= .returned (vP (fineMk c sn k i p))∧Below w.heap.size w w':=by
 obtain ⟨p1,p2,p3⟩:=p
 obtain ⟨gp,hgp⟩:∃n,n=w.heap.size:=⟨_,rfl⟩
 obtain ⟨gr,hgr⟩:∃n,n=w.heap.size+1:=⟨_,rfl⟩
 obtain ⟨X,hX⟩:∃W,W=(w.alloc (.cells #[.int .i64 p1, .int .i64 p2, .int .i64 p3] 43)).alloc (.cells #[.int .i64 0, .int .i64 0, .int .i64 0] 43):=⟨_,rfl⟩
 have hB:Below w.heap.size w X:=by rw [hX];exact ((Below.refl _ w).alloc (Nat.le_refl _) _).alloc (by simp) _
 have hbp:Blk X gp 43 #[.int .i64 p1, .int .i64 p2, .int .i64 p3]:=by rw [hX,hgp];exact (Blk.new _ _ _).alloc _
 have hbr:Blk X gr 43 #[.int .i64 0, .int .i64 0, .int .i64 0]:=by rw [hX,hgr];exact Blk.new' _ _ _ _ (by simp)
 have hkX:=hk.below hB hk.lt
 have h1X:=h1.below hB h1.lt
 have hgw:w.heap.size≤gr:=by omega
 have k0:X.cell? ⟨gk,0,none⟩=some (.int .i64 k):=hkX.cell 0
 have z5:X.cell? ⟨g1,5,none⟩=some (.slice Ad c.details.length dc):=h1X.cell 5
 have hkl:=hkX.lt
 have h1l:=h1X.lt
 obtain ⟨nd,hnd⟩:∃n,n=c.details.length:=⟨_,rfl⟩
 rw [←hnd] at z5
 have hdl:nd≤100000:=by rw [hnd];exact hb.d
 have HX:=hide (And.intro hB (And.intro hbp (And.intro hbr (And.intro hkX (And.intro h1X hgw)))))
 have HM:=hide (And.intro hm (And.intro hb hnd))
 clear hm hb hk h1 hB hbp hbr hkX h1X hgw hnd
 obtain ⟨R,hR⟩:∃r,r=fineMk c sn k i (p1,p2,p3):=⟨_,rfl⟩
 rw [←hR]
 go_enter Tryz.func43,Tryz.ntmps43
 go_upto_region 1 with fail
 rw [←hX,←hgr,←hgp]
 clear hX hgr hgp
 by_cases hkd:k < nd
 ·obtain ⟨d,hd⟩:∃d,c.details[k]? =some d:=⟨_,List.getElem?_eq_getElem (by rw [←HM.out.2.2];exact hkd)⟩
  have hgd:c.details.getD k []=d:=by rw [List.getD_eq_getElem?_getD,hd];rfl
  obtain ⟨bd,od,Ax,kx,hAd,hbd,cd,hsd⟩:=HM.out.1.det hd
  subst hAd
  have cd:=(HX.out.1.cell (p:=⟨bd,od+k,none⟩) hbd).trans cd
  have hbX:bd < X.heap.size:=Nat.lt_of_lt_of_le hbd HX.out.1.size
  have hsX:=hsd.below HX.out.1
  have hdl3:d.length≤1000000:=HM.out.2.1.dd d (List.mem_of_getElem? hd)
  have e1:(k:Int) < (nd:Int):=by omega
  obtain ⟨dl,hdl2⟩:∃n,n=d.length:=⟨_,rfl⟩
  rw [←hdl2] at cd
  by_cases hid:i < dl
  ·have e2:(i:Int) < (dl:Int):=by omega
   obtain ⟨x,hx⟩:∃x,d[i]? =some x:=⟨_,List.getElem?_eq_getElem (by omega)⟩
   obtain ⟨bx,ox,hAx,hbx,d0,d1,d2⟩:=hsX.pt9 hx
   subst hAx
   have hbxX:bx < X.heap.size:=Nat.lt_of_lt_of_le hbx HX.out.1.size
   have hRx:R=plusP (p1,p2,p3) x (16^(sn - 1 - k)):=by rw [hR];unfold fineMk;rw [hgd,hx]
   obtain ⟨s,hs⟩:∃s:Nat,s=sn - 1 - k:=⟨_,rfl⟩
   rw [←hs] at hRx
   have ks:=fun W=>scale_any s (by omega) W
   obtain ⟨pw,hpw⟩:∃p,p=(16:Int)^s:=⟨_,rfl⟩
   simp only [←hpw] at ks
   rw [←hpw] at hRx
   have t1:(sn:Int) - 1=((sn - 1:Nat):Int):=by omega
   obtain ⟨s1,hs1⟩:∃s1:Nat,s1=sn - 1:=⟨_,rfl⟩
   rw [←hs1] at t1
   have t2:(s1:Int) - (k:Int)=(s:Int):=by omega
   have hs1b:s1≤4:=by omega
   have hsb:s≤4:=by omega
   have kp:=plus_any (p1,p2,p3) x pw
   rw [←hRx] at kp
   obtain ⟨x1,x2,x3⟩:=x
   simp only at d0 d1 d2
   have HK:=hide (And.intro ks (And.intro kp (And.intro cd (And.intro hbX (And.intro d0 (And.intro d1 (And.intro d2 hbxX)))))))
   clear ks kp hR hRx hpw hd hgd hbd hsd hsX hx hbx hdl2 d0 d1 d2 hs hs1
   go_upto_region 2 with fail
   have HSB:=hide (show Below X.heap.size X X.drew from (Below.refl _ X).drew)
   refine wp_region_mix (fun W=>Below X.heap.size X W) [0,1,2,3,4,5,6,7,8,9,10,11,12,13] [0,1,2,3,4,5,6,7,8,9,10,11,12,13,14,15,16] mixed_ok (by kernel_rfl) ?_
   refine wpMix_q (v:=(.agg #[.int .i64 p1, .int .i64 p2, .int .i64 p3])) rfl rfl (fun _ _ _ h=>h) HSB.out ⟨rfl,fun _ h'=>by have a0:=(h'.cell (p:=⟨gp,0,none⟩) HX.out.2.1.lt).trans (HX.out.2.1.cell 0);simp only [List.getElem?_toArray,List.getElem?_cons_zero] at a0;have a1:=(h'.cell (p:=⟨gp,1,none⟩) HX.out.2.1.lt).trans (HX.out.2.1.cell 1);simp only [List.getElem?_toArray,List.getElem?_cons_zero,List.getElem?_cons_succ] at a1;have a2:=(h'.cell (p:=⟨gp,2,none⟩) HX.out.2.1.lt).trans (HX.out.2.1.cell 2);simp only [List.getElem?_toArray,List.getElem?_cons_zero,List.getElem?_cons_succ] at a2;simp [go_sem,a0,a1,a2]⟩ ?_
   refine wpMix_q (v:=(.pointer (some ⟨g1,5,none⟩))) rfl rfl (fun _ _ _ h=>h) HSB.out ⟨rfl,fun _ _=>by simp [go_sem]⟩ ?_
   refine wpMix_q (v:=(.slice (some ⟨bd,od,none⟩) nd dc)) rfl rfl (fun _ _ _ h=>h) HSB.out ⟨rfl,fun _ h'=>by have a0:=(h'.cell (p:=⟨g1,5,none⟩) HX.out.2.2.2.2.1.lt).trans z5;simp [go_sem,a0]⟩ ?_
   refine wpMix_q (v:=(.int .i64 k)) rfl rfl (fun _ _ _ h=>h) HSB.out ⟨rfl,fun _ h'=>by have a0:=(h'.cell (p:=⟨gk,0,none⟩) HX.out.2.2.2.1.lt).trans k0;simp [go_sem,a0]⟩ ?_
   refine wpMix_q (v:=(.pointer (some ⟨bd,od+k,none⟩))) rfl rfl (fun _ _ _ h=>h) HSB.out ⟨rfl,fun _ _=>by simp [go_sem,e1]⟩ ?_
   refine wpMix_q (v:=(.slice (some ⟨bx,ox,none⟩) dl kx)) rfl rfl (fun _ _ _ h=>h) HSB.out ⟨rfl,fun _ h'=>by have a0:=(h'.cell (p:=⟨bd,od+k,none⟩) HK.out.2.2.2.1).trans HK.out.2.2.1;simp [go_sem,a0]⟩ ?_
   simp only [List.getElem_toArray,List.getElem_cons_succ,List.getElem_cons_zero,Act.put,List.setIfInBounds_toArray,List.set_cons_succ,List.set_cons_zero]
   refine wpMix_q (v:=(.int .i64 i)) rfl rfl (fun _ _ _ h=>h) HSB.out ⟨rfl,fun _ _=>by simp [go_sem]⟩ ?_
   refine wpMix_q (v:=(.pointer (some ⟨bx,ox+i*3,none⟩))) rfl rfl (fun _ _ _ h=>h) HSB.out ⟨rfl,fun _ _=>by simp [go_sem,e2]⟩ ?_
   refine wpMix_q (v:=(.agg #[.int .i64 x1, .int .i64 x2, .int .i64 x3])) rfl rfl (fun _ _ _ h=>h) HSB.out ⟨rfl,fun _ h'=>by have a0:=(h'.cell (p:=⟨bx,ox+i*3,none⟩) HK.out.2.2.2.2.2.2.2).trans HK.out.2.2.2.2.1;have a1:=(h'.cell (p:=⟨bx,ox+i*3+1,none⟩) HK.out.2.2.2.2.2.2.2).trans HK.out.2.2.2.2.2.1;have a2:=(h'.cell (p:=⟨bx,ox+i*3+2,none⟩) HK.out.2.2.2.2.2.2.2).trans HK.out.2.2.2.2.2.2.1;simp [go_sem,a0,a1,a2]⟩ ?_
   refine wpMix_q (v:=(.pointer (some ⟨g1,4,none⟩))) rfl rfl (fun _ _ _ h=>h) HSB.out ⟨rfl,fun _ _=>by simp [go_sem]⟩ ?_
   refine wpMix_q (v:=(.int .i64 sn)) rfl rfl (fun _ _ _ h=>h) HSB.out ⟨rfl,fun _ h'=>by have a4:=(h'.cell (p:=⟨g1,4,none⟩) HX.out.2.2.2.2.1.lt).trans (HX.out.2.2.2.2.1.cell 4);simp only [List.getElem?_toArray,List.getElem?_cons_zero,List.getElem?_cons_succ] at a4;simp [go_sem,a4]⟩ ?_
   refine wpMix_q (v:=(.int .i64 s1)) rfl rfl (fun _ _ _ h=>h) HSB.out ⟨rfl,fun _ _=>by have w1:IntKind.i64.wrap (s1:Int)=s1:=IntWalk.i64_in _ (by omega);simp [go_sem,t1,w1]⟩ ?_
   simp only [List.getElem_toArray,List.getElem_cons_succ,List.getElem_cons_zero,Act.put,List.setIfInBounds_toArray,List.set_cons_succ,List.set_cons_zero]
   refine wpMix_q (v:=(.int .i64 k)) rfl rfl (fun _ _ _ h=>h) HSB.out ⟨rfl,fun _ h'=>by have a0:=(h'.cell (p:=⟨gk,0,none⟩) HX.out.2.2.2.1.lt).trans k0;simp [go_sem,a0]⟩ ?_
   refine wpMix_q (v:=(.int .i64 s)) rfl rfl (fun _ _ _ h=>h) HSB.out ⟨rfl,fun _ _=>by have w1:IntKind.i64.wrap (s:Int)=s:=IntWalk.i64_in _ (by omega);simp [go_sem,t2,w1]⟩ ?_
   simp only [List.getElem_toArray,List.getElem_cons_succ,List.getElem_cons_zero,Act.put,List.setIfInBounds_toArray,List.set_cons_succ,List.set_cons_zero]
   refine wpMix_n rfl rfl ?_
   go_wp2_with fail
   refine (HK.out.1 X.drew).mono ?_
   rintro e W1 ⟨rfl,rfl⟩
   go_wp2_with fail
   refine ⟨fun _=>HSB.out,?_⟩
   refine wpMix_tail _ [_,_] (by kernel_rfl) rfl ?_
   go_wp2_with fail
   refine (HK.out.2.1 X.drew).mono ?_
   rintro e W2 ⟨rfl,hB2⟩
   obtain ⟨R1,R2,R3⟩:=R
   have hBX2:Below X.heap.size X W2:=undrew9 hB2
   have hrW:=HX.out.2.2.1.below hBX2 HX.out.2.2.1.lt
   obtain ⟨r0,r1,r2⟩:=hrW.three
   have hrl:=hrW.lt
   have f0:=hrW.frozen 0
   have f1:=hrW.frozen 1
   have f2:=hrW.frozen 2
   have H9:=hide (And.intro hrW (HX.out.1.trans ((hBX2).mono HX.out.1.size)))
   clear hrW
   go_wp2
   refine ret_at (v:=vP (R1,R2,R3)) (fun W=>Blk W gr 43 #[.int .i64 R1, .int .i64 R2, .int .i64 R3]) ?_ (fun W hW=> ?_) rfl ⟨rfl,?_⟩
   ·exact H9.out.1.set3 _ _ _
   ·obtain ⟨a0,a1,a2⟩:=hW.three
    simp [results,Tryz.results43,go_sem,a0,a1,a2]
    try trivial
   ·exact ((H9.out.2.setCell (p:=⟨gr,0,none⟩) HX.out.2.2.2.2.2 _).setCell (p:=⟨gr,1,none⟩) HX.out.2.2.2.2.2 _).setCell (p:=⟨gr,2,none⟩) HX.out.2.2.2.2.2 _
  ·have e2:¬(i:Int) < (dl:Int):=by omega
   have hRx:R=(p1,p2,p3):=by rw [hR];unfold fineMk;rw [hgd,List.getElem?_eq_none (by omega)]
   subst hRx
   obtain ⟨q0,q1,q2⟩:=HX.out.2.1.three
   have hpl:=HX.out.2.1.lt
   obtain ⟨r0,r1,r2⟩:=HX.out.2.2.1.three
   have hrl:=HX.out.2.2.1.lt
   have f0:=HX.out.2.2.1.frozen 0
   have f1:=HX.out.2.2.1.frozen 1
   have f2:=HX.out.2.2.1.frozen 2
   clear hR hd hgd hbd hsd hsX hdl2
   go_wp2
   refine ret_at (v:=vP (p1,p2,p3)) (fun W=>Blk W gr 43 #[.int .i64 p1, .int .i64 p2, .int .i64 p3]) ?_ (fun W hW=> ?_) rfl ⟨rfl,?_⟩
   ·exact HX.out.2.2.1.set3 _ _ _
   ·obtain ⟨a0,a1,a2⟩:=hW.three
    simp [results,Tryz.results43,go_sem,a0,a1,a2]
    try trivial
   ·exact ((HX.out.1.setCell (p:=⟨gr,0,none⟩) HX.out.2.2.2.2.2 _).setCell (p:=⟨gr,1,none⟩) HX.out.2.2.2.2.2 _).setCell (p:=⟨gr,2,none⟩) HX.out.2.2.2.2.2 _
 ·have e1:¬(k:Int) < (nd:Int):=by omega
  have hRx:R=(p1,p2,p3):=by rw [hR];unfold fineMk;rw [show c.details.getD k []= [] by rw [List.getD_eq_getElem?_getD,List.getElem?_eq_none (by rw [←HM.out.2.2];omega)];rfl];rfl
  subst hRx
  obtain ⟨q0,q1,q2⟩:=HX.out.2.1.three
  have hpl:=HX.out.2.1.lt
  obtain ⟨r0,r1,r2⟩:=HX.out.2.2.1.three
  have hrl:=HX.out.2.2.1.lt
  have f0:=HX.out.2.2.1.frozen 0
  have f1:=HX.out.2.2.1.frozen 1
  have f2:=HX.out.2.2.1.frozen 2
  clear hR
  go_wp2
  refine ret_at (v:=vP (p1,p2,p3)) (fun W=>Blk W gr 43 #[.int .i64 p1, .int .i64 p2, .int .i64 p3]) ?_ (fun W hW=> ?_) rfl ⟨rfl,?_⟩
  ·exact HX.out.2.2.1.set3 _ _ _
  ·obtain ⟨a0,a1,a2⟩:=hW.three
   simp [results,Tryz.results43,go_sem,a0,a1,a2]
   try trivial
  ·exact ((HX.out.1.setCell (p:=⟨gr,0,none⟩) HX.out.2.2.2.2.2 _).setCell (p:=⟨gr,1,none⟩) HX.out.2.2.2.2.2 _).setCell (p:=⟨gr,2,none⟩) HX.out.2.2.2.2.2 _
end Go.Proofs.YtmemofonebphfaaGreat
namespace Go.Proofs.YtmemofonebphfaaGreat
open Go.RowKit Go.Sort Go.WideMaps Go.Maps Go.Shelf
theorem ent_fine (args:Array Value) (W:World):(callFunc 43 args).run Tryz.prog W= .ok (.enter 43 args) W:=
 enters_of Tryz.func43 (by kernel_rfl) rfl args W
theorem stb_grown {Y:World} {g B:Nat} (hB:Y.heap.size≤B):StbI g B fun _ _ W=>Y.grownBy W (some g) where
 st:=fun {_ _ _ _ _} h hg hr=>⟨hg.os.trans h.os,hg.tape.trans h.tape,hg.output.trans h.output,Nat.le_trans h.size hg.size,fun k hk hne=>(hg.block k (Nat.lt_of_lt_of_le hk h.size) (fun e=>by
  rcases hr k e.symm with h2 | h2
  ·exact hne (by rw [h2])
  ·omega)).trans (h.block k hk hne)⟩
 sw:=fun {_ _ _ _ _} h hg hP _ _=>⟨hg.os.trans h.os,hg.tape.trans h.tape,hg.output.trans h.output,Nat.le_trans h.size hg.size,fun k hk hne=>(hg.block k (Nat.lt_of_lt_of_le hk h.size) (fun e=>by have:=hP k e.symm;omega)).trans (h.block k hk hne)⟩
def FinL (w W:World) (b0 g g1 mo:Nat) (ctl:Array Value) (L:Lev) (co:List Int):Prop:=
 (∃(Ap:Option Addr) (cp:Nat) (At:Option Addr) (ct mc:Nat) (a4:Option Nat) (Ae:Option Addr) (ne ce:Nat) (a6 a7:Option Nat),LvlM W b0 g Ap cp At ct mc mo a4 Ae ne ce a6 a7 L co)∧Blk W g1 32 ctl∧Below w.heap.size w W
theorem LvlM.below {w W:World} {b0 g:Nat} {Ap:Option Addr} {cp:Nat} {At:Option Addr} {ct mc mo:Nat} {a4:Option Nat} {Ae:Option Addr} {ne ce:Nat} {a6 a7:Option Nat} {L:Lev} {co:List Int} (h:LvlM w b0 g Ap cp At ct mc mo a4 Ae ne ce a6 a7 L co) (hB:Below w.heap.size w W):LvlM W b0 g Ap cp At ct mc mo a4 Ae ne ce a6 a7 L co:=by
 obtain ⟨n1,h1⟩:=h.cr
 obtain ⟨n2,h2⟩:=h.co
 exact ⟨h.bx.below hB h.bx.lt,h.p.below hB (Nat.le_refl _),(h.t.below hB).more hB.size,⟨n1,h1.below hB h1.lt⟩,⟨n2,h2.below hB h2.lt⟩⟩
set_option maxRecDepth 100000 in
set_option maxHeartbeats 64000000 in
theorem fine_any (Ap At Ac Ao Ad:Option Addr) (cp ct cc oc dc:Nat) (c:Ctl) (w:World) (hm:CtlM w w.heap.size Ap At Ac Ao Ad c) (hb:CtlB c) (hfs:fits c.steps) (hnb:errC c=0→NoBack c.tris):
  Calls Tryz.prog 18 #[vCtl Ap c.points.length cp At c.tris.length ct Ac c.creases.length cc Ao c.corners.length oc c.steps Ad c.details.length dc] w fun e w'=>∃A1 c1 A2 c2,e= .returned (.tuple #[.slice A1 (finP c).length c1, .slice A2 (finT c).length c2, .int .i64 (errC c)])∧Own encP 3 43 w' w.heap.size (.slice A1 (finP c).length c1) (finP c).length (finP c)∧Own encN3 3 35 w' w.heap.size (.slice A2 (finT c).length c2) (finT c).length (finT c)∧Below w.heap.size w w':=by
 have kw:=fun (W:World) (hW:Below w.heap.size w W)=>wrong_any Ap At Ac Ao Ad cp ct cc oc dc c W (hm.below hW hW.size) hb hfs
 by_cases herr:errC c=0
 ·have hR:=right_of herr
  have hN:=hnb herr
  have hst:=hR.st
  have hf2:∀e∈c.creases,fits2 e:=fun e he=>by
   obtain ⟨hd,hl⟩:=mem_edgesE.1 (hR.cre e he)
   obtain ⟨x,hx,hx2⟩:=mem_dirE.1 hd
   have hi:=hR.idx x hx
   have hp:=hb.p
   have:0≤min e.1 e.2∧max e.1 e.2 < (c.points.length:Int):=by
    rcases mem_de3.1 hx2 with h | h | h <;>simp only [nrmE,Prod.mk.injEq] at h <;>omega
   constructor <;>unfold fits <;>omega
  have hfo:∀i∈c.corners,fits i:=fun i hi=>by
   have:=hR.cor i hi
   have:=hb.p
   unfold fits
   omega
  have kb:=fun (W:World) (hW:Below w.heap.size w W)=>pbegin_any Ap At Ac Ao Ad cp ct cc oc c.details.length dc c W (hm.below hW hW.size) hb hst hf2 hfo
  obtain ⟨sn,hsn⟩:∃n:Nat,c.steps=n:=⟨c.steps.toNat,by omega⟩
  have hsn':c.steps.toNat=sn:=by omega
  have hs4:sn≤4:=by omega
  have hLR:=fun k=>Ctl.level_right hR hN k
  have hLB:=fun k (hk:k≤sn)=>level_small hR hN hb (k:=k) (by rw [hsn'];exact hk)
  have hdf:=fun k d (hk:k < sn) (hd:c.details[k]? =some d)=>det_few hR hN (k:=k) (by rw [hsn'];exact hk) hd
  have hfp:finP c=(c.level sn).p:=by unfold finP;rw [if_pos herr,hsn']
  have hft:finT c=(c.level sn).t:=by unfold finT;rw [if_pos herr,hsn']
  have hlv:∀k,c.level (k+1)=(c.level k).step (detE ((c.level k).rules c.corners) (c.details.getD k []) (16^(sn - 1 - k))):=fun k=>by rw [←hsn'];rfl
  have hl0:c.level 0=c.begin:=rfl
  rw [hfp,hft,herr,hsn]
  rw [herr] at kw
  obtain ⟨np,hnp⟩:∃n,n=c.points.length:=⟨_,rfl⟩
  obtain ⟨nt,hnt⟩:∃n,n=c.tris.length:=⟨_,rfl⟩
  obtain ⟨nc,hnc⟩:∃n,n=c.creases.length:=⟨_,rfl⟩
  obtain ⟨no,hno⟩:∃n,n=c.corners.length:=⟨_,rfl⟩
  obtain ⟨nd,hnd⟩:∃n,n=c.details.length:=⟨_,rfl⟩
  have hnol:no≤100000:=by rw [hno];exact hb.o
  have hndl:nd≤sn:=by have:=hR.det;omega
  rw [←hnp,←hnt,←hnc,←hno,←hnd]
  simp only [←hnp,←hnt,←hnc,←hno,←hnd,hsn] at kw kb
  have HK:=hide (And.intro kw (And.intro kb (And.intro hLR (And.intro hLB (And.intro hdf (And.intro hlv hl0))))))
  have HM:=hide (And.intro hm (And.intro hb (And.intro hnt (And.intro hno hnd))))
  clear hfo kw kb hLR hLB hdf hlv hl0 hm hb hnp hnt hnc hno hnd hR hN hst hf2 hsn hsn' hfp hft herr hnb hfs
  go_enter Tryz.func18,Tryz.ntmps18
  go_upto_region 1 with fail
  obtain ⟨g1,hg1⟩:∃g,g=w.heap.size:=⟨_,rfl⟩
  obtain ⟨X0,hX⟩:∃W,W=w.alloc (.cells (cCtl Ap np cp At nt ct Ac nc cc Ao no oc sn Ad nd dc) 32):=⟨_,rfl⟩
  rw [←hX,←hg1]
  have hb1:Blk X0 g1 32 (cCtl Ap np cp At nt ct Ac nc cc Ao no oc sn Ad nd dc):=by rw [hX,hg1];exact Blk.new _ _ _
  have hBX:Below w.heap.size w X0:=by rw [hX];exact (Below.refl _ w).alloc (Nat.le_refl _) _
  have hgl:=hb1.lt
  obtain ⟨z0,z1,z2,z3,z4,z5⟩:=hb1.six9
  have H0:=hide (And.intro hb1 hBX)
  have hg1w:w.heap.size≤g1:=by omega
  clear hb1 hBX hX hg1
  go_upto_region 4 with (go_at_call 40;refine (HK.out.1 X0 H0.out.2).mono ?_;rintro e X1 ⟨rfl,hB⟩;have H1:=hide (And.intro (H0.out.2.trans (hB.mono H0.out.2.size)) (H0.out.1.below hB H0.out.1.lt));clear hB)
  clear z0 z1 z2 z3 z4 z5 hgl
  obtain ⟨z0,z1,z2,z3,z4,z5⟩:=H1.out.2.six9
  have hgl:=H1.out.2.lt
  go_upto_region 5 with (go_at_call 41;refine (HK.out.2.1 X1 H1.out.1).mono ?_;rintro e X2 ⟨g,Ag,cg,mc,mo,rfl,hgw,hlv,hB⟩;have H2:=hide (show FinL w X2 X1.heap.size g g1 mo (cCtl Ap np cp At nt ct Ac nc cc Ao no oc sn Ad nd dc) (c.level 0) c.corners from ⟨⟨_,_,_,_,_,_,_,_,_,_,_,by rw [HK.out.2.2.2.2.2.2];exact hlv⟩,H1.out.2.below hB H1.out.2.lt,H1.out.1.trans (hB.mono H1.out.1.size)⟩);have HG:=hide (show X1.heap.size≤g∧g1 < X1.heap.size∧w.heap.size≤X1.heap.size from ⟨hgw,H1.out.2.lt,H1.out.1.size⟩);clear hB hlv hgw)
  clear z0 z1 z2 z3 z4 z5 hgl
  have z4:X2.cell? ⟨g1,4,none⟩=some (.int .i64 sn):=H2.out.2.1.cell 4
  have hgl:=H2.out.2.1.lt
  go_upto_region 6 with fail
  clear z4 hgl
  go_loopw [17] (fun kv wr=>∃k:Nat,k≤sn∧kv= .int .i64 k∧FinL w wr X1.heap.size g g1 mo (cCtl Ap np cp At nt ct Ac nc cc Ao no oc sn Ad nd dc) (c.level k) c.corners∧X1.heap.size≤wr.heap.size) (fun kv _=>sn - (intOf kv).toNat)
  case atStart=>
   refine ⟨0,by omega,rfl,H2.out,?_⟩
   obtain ⟨_,_,_,_,_,_,_,_,_,_,_,h⟩:=H2.out.1
   have:=h.bx.lt
   have:=HG.out.1
   omega
  case round=>
   obtain ⟨k,hk,rfl,hF,hzV⟩:=hrel
   obtain ⟨V,rfl⟩:∃x,x=wr:=⟨_,rfl⟩
   by_cases hlt:k < sn
   ·have k1:(k:Int) < (sn:Int):=by omega
    have HV:=hide hF
    clear hF
    go_upto_region 8 with fail
    obtain ⟨gk,hgk⟩:∃n,n=V.heap.size:=⟨_,rfl⟩
    obtain ⟨Y,hY⟩:∃W,W=V.alloc (.cells #[.int .i64 k] 3):=⟨_,rfl⟩
    have hBY:Below V.heap.size V Y:=by rw [hY];exact (Below.refl _ V).alloc (Nat.le_refl _) _
    have hKY:Blk Y gk 3 #[.int .i64 k]:=by rw [hY,hgk];exact Blk.new _ _ _
    rw [←hY,←hgk]
    obtain ⟨⟨Al,cl,Bl,dl,ml,b4,El,nl,fl,b6,b7,hl⟩,hb1,hbel⟩:=HV.out
    have hgkg:gk≠g:=by have:=hl.bx.lt;omega
    have hlY:=hl.below hBY
    have hb1Y:=hb1.below hBY hb1.lt
    have hbY:=hbel.trans (hBY.mono hbel.size)
    have hng:g1≠g:=by have:=HG.out;omega
    have hgw2:w.heap.size≤g:=by have:=HG.out;omega
    have hnel:(edgesE (c.level k).t).length≤900000:=by have:=(HK.out.2.2.2.1 k hk).t;have:=edgesE_le (c.level k).t;omega
    have kst:=pstep_any hlY (Nat.le_trans hzV hBY.size) (HK.out.2.2.1 k) (HK.out.2.2.2.1 k hk) 43 #[.pointer (some ⟨gk,0,none⟩), .pointer (some ⟨g1,0,none⟩)] (fineMk c sn k) (fun _ _ _ W=>Y.grownBy W (some g)) (fun w1 h1=>⟨stb_grown h1.size,h1⟩) (fun B i P W q hi _ hI hBW hP=>by
     have hBw:Below w.heap.size w W:=hbY.trans (grown_bel hI hgw2 hbY.size)
     have h1:=hb1Y.grown hI (fun e=>hng (Option.some.inj e))
     rw [HM.out.2.2.2.2] at h1
     refine (fine1_any Ap At Ac Ao Ad np cp nt ct nc cc no oc dc c sn gk g1 k i q W (HM.out.1.below hBw hBw.size) HM.out.2.1 (hKY.grown hI (fun e=>hgkg (Option.some.inj e))) h1 hlt hs4 (by omega)).mono ?_
     rintro e W' ⟨he,hB⟩
     exact ⟨he,hI.trans (grown_bel9 hB _),Kpt.bel (Kpt.refl W) hB⟩) ent_fine
    rw [fineMk_det,←HK.out.2.2.2.2.2.1 k] at kst
    have HS:=hide (And.intro kst (And.intro hb1Y (And.intro hbY (And.intro hng hgw2))))
    have hzY:=hBY.size
    clear kst hb1Y hbY hng hgw2 hlY hl hb1 hbel hgkg hBY hKY hY hgk hnel
    go_upto_region 9 with (go_at_call 42;refine HS.out.1.mono ?_;rintro e W5 ⟨rfl,hR⟩;have H5:=hide hR;clear hR)
    go_wp2
    go_roundw
    case rel=>
     obtain ⟨A5,c5,B5,d5,m5,a54,E5,n5,f5,a56,a57,BB,P5,hl5,_,hI5,_⟩:=H5.out
     obtain ⟨_,h1,h2,h3,h4⟩:=HS.out
     exact ⟨k+1,by omega,by go_num,⟨⟨_,_,_,_,_,_,_,_,_,_,_,hl5⟩,h1.grown hI5 (fun e=>h3 (Option.some.inj e)),h2.trans (grown_bel hI5 h4 h2.size)⟩,Nat.le_trans hzV (Nat.le_trans hzY hI5.size)⟩
    case measure=>(simp [intOf];try omega)
   ·obtain rfl:k=sn:=by omega
    have k1:¬(k:Int) < (k:Int):=by omega
    obtain ⟨⟨Al,cl,Bl,dl,ml,b4,El,nl,fl,b6,b7,hl⟩,hb1,hbel⟩:=hF
    have hkc:=fun (W:World) (hW:Below V.heap.size V W)=>cloneN3_any Bl dl (c.level k).t W.heap.size W ((hl.t.below hW).more hW.size) (by have:=(HK.out.2.2.2.1 k (Nat.le_refl _)).t;omega)
    obtain ⟨n1,hn1⟩:∃n,n=(c.level k).p.length:=⟨_,rfl⟩
    obtain ⟨n2,hn2⟩:∃n,n=(c.level k).t.length:=⟨_,rfl⟩
    have hz0:V.cell? ⟨g,0,none⟩=some (.slice Al n1 cl):=by rw [hn1];exact hl.bx.cell 0
    have hz1:V.cell? ⟨g,1,none⟩=some (.slice Bl n2 dl):=by rw [hn2];exact hl.bx.cell 1
    have hp:=hl.p
    rw [←hn1] at hp
    rw [←hn2] at hkc
    have HN:=hide (And.intro hn1 hn2)
    have HV:=hide (And.intro hz0 (And.intro hz1 (And.intro hl.bx.lt (And.intro hp (And.intro hbel hkc)))))
    clear hz0 hz1 hp hbel hkc hl hb1 hn1 hn2
    go_upto_region 10 with fail
    have HSB:=hide (show Below V.heap.size V V.drew from (Below.refl _ V).drew)
    refine wp_region_mix (fun W=>Below V.heap.size V W) [0,1,2,3,4,5,6,7] [0,1,2,3,4,5,6,7,8,9,10,11] mixed_ok (by kernel_rfl) ?_
    refine wpMix_q (v:=(.pointer (some ⟨g,0,none⟩))) rfl rfl (fun _ _ _ h=>h) HSB.out ⟨rfl,fun _ _=>by simp [go_sem]⟩ ?_
    refine wpMix_q (v:=(.pointer (some ⟨g,0,none⟩))) rfl rfl (fun _ _ _ h=>h) HSB.out ⟨rfl,fun _ _=>by simp [go_sem]⟩ ?_
    refine wpMix_q (v:=(.pointer (some ⟨g,0,none⟩))) rfl rfl (fun _ _ _ h=>h) HSB.out ⟨rfl,fun _ _=>by simp [go_sem]⟩ ?_
    refine wpMix_q (v:=(.slice Al n1 cl)) rfl rfl (fun _ _ _ h=>h) HSB.out ⟨rfl,fun _ h'=>by have a0:=(h'.cell (p:=⟨g,0,none⟩) HV.out.2.2.1).trans HV.out.1;simp [go_sem,a0]⟩ ?_
    refine wpMix_q (v:=(.pointer (some ⟨g,0,none⟩))) rfl rfl (fun _ _ _ h=>h) HSB.out ⟨rfl,fun _ _=>by simp [go_sem]⟩ ?_
    refine wpMix_q (v:=(.pointer (some ⟨g,0,none⟩))) rfl rfl (fun _ _ _ h=>h) HSB.out ⟨rfl,fun _ _=>by simp [go_sem]⟩ ?_
    simp only [List.getElem_toArray,List.getElem_cons_succ,List.getElem_cons_zero,Act.put,List.setIfInBounds_toArray,List.set_cons_succ,List.set_cons_zero]
    refine wpMix_q (v:=(.pointer (some ⟨g,1,none⟩))) rfl rfl (fun _ _ _ h=>h) HSB.out ⟨rfl,fun _ _=>by simp [go_sem]⟩ ?_
    refine wpMix_q (v:=(.slice Bl n2 dl)) rfl rfl (fun _ _ _ h=>h) HSB.out ⟨rfl,fun _ h'=>by have a0:=(h'.cell (p:=⟨g,1,none⟩) HV.out.2.2.1).trans HV.out.2.1;simp [go_sem,a0]⟩ ?_
    simp only [List.getElem_toArray,List.getElem_cons_succ,List.getElem_cons_zero,Act.put,List.setIfInBounds_toArray,List.set_cons_succ,List.set_cons_zero]
    refine wpMix_n rfl rfl ?_
    go_wp2_with fail
    refine (HV.out.2.2.2.2.2 V.drew HSB.out).mono ?_
    rintro e W9 ⟨v9,rfl,ho9,hB9⟩
    have H9:=hide (And.intro ho9 (HSB.out.trans hB9))
    clear ho9 hB9
    obtain ⟨A9,c9,rfl⟩:=H9.out.1.form
    go_wp2_with fail
    refine ⟨fun _=>H9.out.2,?_⟩
    refine wpMix_tail _ [_,_,_] (by kernel_rfl) rfl ?_
    go_wp2
    go_ret3
    rw [←HN.out.1,←HN.out.2]
    exact ⟨_,_,_,_,rfl,(HV.out.2.2.2.1.below H9.out.2 (Nat.le_refl _)).base_le HG.out.2.2,H9.out.1.base_le HV.out.2.2.2.2.1.size,HV.out.2.2.2.2.1.trans (H9.out.2.mono HV.out.2.2.2.2.1.size)⟩
 ·have hfp:finP c= []:=by unfold finP;rw [if_neg herr]
  have hft:finT c= []:=by unfold finT;rw [if_neg herr]
  rw [hfp,hft]
  obtain ⟨np,hnp⟩:∃n,n=c.points.length:=⟨_,rfl⟩
  obtain ⟨nt,hnt⟩:∃n,n=c.tris.length:=⟨_,rfl⟩
  obtain ⟨nc,hnc⟩:∃n,n=c.creases.length:=⟨_,rfl⟩
  obtain ⟨no,hno⟩:∃n,n=c.corners.length:=⟨_,rfl⟩
  obtain ⟨nd,hnd⟩:∃n,n=c.details.length:=⟨_,rfl⟩
  obtain ⟨sn,hsn⟩:∃n,n=c.steps:=⟨_,rfl⟩
  obtain ⟨er,her⟩:∃n,n=errC c:=⟨_,rfl⟩
  rw [←hnp,←hnt,←hnc,←hno,←hnd,←hsn,←her]
  simp only [←hnp,←hnt,←hnc,←hno,←hnd,←hsn,←her] at kw
  have hne:(er !=0)=true:=by rw [her];simpa using herr
  have HK:=hide kw
  clear kw hfp hft hnp hnt hnc hno hnd hsn her herr hm hb hfs hnb
  go_enter Tryz.func18,Tryz.ntmps18
  go_upto_region 1 with fail
  obtain ⟨g1,hg1⟩:∃g,g=w.heap.size:=⟨_,rfl⟩
  obtain ⟨X0,hX⟩:∃W,W=w.alloc (.cells (cCtl Ap np cp At nt ct Ac nc cc Ao no oc sn Ad nd dc) 32):=⟨_,rfl⟩
  rw [←hX,←hg1]
  have hb1:Blk X0 g1 32 (cCtl Ap np cp At nt ct Ac nc cc Ao no oc sn Ad nd dc):=by rw [hX,hg1];exact Blk.new _ _ _
  have hBX:Below w.heap.size w X0:=by rw [hX];exact (Below.refl _ w).alloc (Nat.le_refl _) _
  obtain ⟨z0,z1,z2,z3,z4,z5⟩:=hb1.six9
  have hgl:=hb1.lt
  have H0:=hide (And.intro hb1 hBX)
  clear hb1 hBX hX hg1
  go_wp2_with (go_at_call 40;refine (HK.out X0 H0.out.2).mono ?_;rintro e X1 ⟨rfl,hB⟩;have H1:=hide (H0.out.2.trans (hB.mono H0.out.2.size));clear hB)
  go_ret3
  exact ⟨_,_,_,_,rfl,Own.nil,Own.nil,H1.out⟩
end Go.Proofs.YtmemofonebphfaaGreat
namespace Go.Proofs.YtmemofonebphfaaGreat
open Go.RowKit Go.Sort Go.WideMaps Go.Maps Go.Shelf
def gP (p:List Pt) (n:Int):Pt:=p.getD n.toNat (0,0,0)
def dupB (p:List Pt) (l:List Int):Bool:=l.any fun a=>l.any fun b=>decide (gP p a=gP p b∧a≠b)
def triP9 (p:List Pt) (x:Pt):Tri:=(gP p x.1,gP p x.2.1,gP p x.2.2)
def subT (c:Ctl):List Tri:=(finT c).map (triP9 (finP c))
def errS (c:Ctl):Int:=if errC c≠0 then errC c else if outR 0 2097151 (finP c)=true then 3 else if dupB (finP c) (corsN (finT c))=true then 24 else 0
def subR (c:Ctl):List Tri:=if errS c=0 then canonT (subT c) else []
structure AtP (p:List Pt) (m:Pt→Option Value) (l:List Int):Prop where
 on:∀n∈l,m (gP p n)=some (vi n)
 off:∀q,m q≠none→∃n∈l,gP p n=q∧m q=some (vi n)
theorem AtP.one {p:List Pt} {m:Pt→Option Value} {l:List Int} (h:AtP p m l):dupB p l=false:=by
 unfold dupB
 refine List.any_eq_false.2 fun a ha=> ?_
 rw [Bool.not_eq_true]
 refine List.any_eq_false.2 fun b hb=> ?_
 simp only [decide_eq_true_eq]
 rintro ⟨e,hne⟩
 have h1:=h.on a ha
 have h2:=h.on b hb
 rw [e,h2] at h1
 simp at h1
 exact hne h1.symm
theorem AtP.put {p:List Pt} {m:Pt→Option Value} {l:List Int} (h:AtP p m l) (n:Int) (hn:m (gP p n)=none∨m (gP p n)=some (vi n)):AtP p (fun q=>if q=gP p n then some (vi n) else m q) (l++ [n]):=by
 constructor
 ·intro a ha
  show (if gP p a=gP p n then some (vi n) else m (gP p a))=_
  by_cases e:gP p a=gP p n
  ·rw [if_pos e]
   rcases List.mem_append.1 ha with ha | ha
   ·have h1:=h.on a ha
    rw [e] at h1
    rcases hn with hn | hn
    ·rw [hn] at h1;cases h1
    ·rw [hn] at h1;exact h1
   ·rw [List.mem_singleton.1 ha]
  ·rw [if_neg e]
   rcases List.mem_append.1 ha with ha | ha
   ·exact h.on a ha
   ·rw [List.mem_singleton.1 ha] at e;exact absurd rfl e
 ·intro q hq
  by_cases e:q=gP p n
  ·exact ⟨n,by simp,e.symm,if_pos e⟩
  ·have hq:m q≠none:=fun h'=>hq (by show (if q=gP p n then some (vi n) else m q)=none;rw [if_neg e];exact h')
   obtain ⟨a,ha,h1,h2⟩:=h.off q hq
   exact ⟨a,List.mem_append.2 (.inl ha),h1,by show (if q=gP p n then some (vi n) else m q)=_;rw [if_neg e];exact h2⟩
theorem dup_yes {p:List Pt} {l:List Int} {a b:Int} (ha:a∈l) (hb:b∈l) (e:gP p a=gP p b) (hne:a≠b):dupB p l=true:=
 List.any_eq_true.2 ⟨a,ha,List.any_eq_true.2 ⟨b,hb,by simp [e,hne]⟩⟩
theorem gP_at {p:List Pt} {n:Nat} {q:Pt} (h:p[n]? =some q):gP p (n:Int)=q:=by
 unfold gP
 rw [Int.toNat_natCast,List.getD_eq_getElem?_getD,h]
 rfl
structure SubS (P:List Pt) (X W:World) (mq gy cn:Nat) (a1 a2 a3:Nat) (ov:Value) (n:Nat) (ts:List Tri) (m:Pt→Option Value) (l:List Int):Prop where
 op:Own encT 9 46 W X.heap.size ov n ts
 mp:MapK Tryz.prog 43 vP fitsP W mq cn m
 at_:AtP P m l
 bel:Below X.heap.size X W
 bx:Blk W gy 35 #[.int .i64 a1, .int .i64 a2, .int .i64 a3]
theorem subS_intro {P:List Pt} {X V Y:World} {mq gy cnt:Nat} {a1 a2 a3:Nat} {ov:Value} {n:Nat} {ts:List Tri} {m:Pt→Option Value} {l:List Int} (ho:Own encT 9 46 V X.heap.size ov n ts) (hm:MapK Tryz.prog 43 vP fitsP V mq cnt m) (ha:AtP P m l) (hB:Below X.heap.size X V) (hBY:Below V.heap.size V Y) (hb:Blk Y gy 35 #[.int .i64 a1, .int .i64 a2, .int .i64 a3]) (_:gy≠mq):SubS P X Y mq gy cnt a1 a2 a3 ov n ts m l:=
 ⟨ho.below hBY (Nat.le_refl _),hm.below hBY hm.lt,ha,hB.trans (hBY.mono hB.size),hb⟩
theorem SubS.put {P:List Pt} {X W W':World} {mq gy cn cn':Nat} {a1 a2 a3:Nat} {ov:Value} {n:Nat} {ts:List Tri} {m m':Pt→Option Value} {l l':List Int} (h:SubS P X W mq gy cn a1 a2 a3 ov n ts m l) (hg:W.grownBy W' (some mq)) (hq:X.heap.size≤mq) (hgo:gy≠mq) (hm:MapK Tryz.prog 43 vP fitsP W' mq cn' m') (ha:AtP P m' l'):SubS P X W' mq gy cn' a1 a2 a3 ov n ts m' l':=
 ⟨h.op.kept hg (.inr (own_map_ne h.op h.mp)),hm,ha,h.bel.trans (grown_bel hg hq h.bel.size),h.bx.grown hg (fun e=>hgo (Option.some.inj e))⟩
set_option maxRecDepth 100000 in
set_option maxHeartbeats 64000000 in
theorem subdiv_any (Ap At Ac Ao Ad:Option Addr) (cp ct cc oc dc:Nat) (c:Ctl) (w:World) (hm:CtlM w w.heap.size Ap At Ac Ao Ad c) (hb:CtlB c) (hfs:fits c.steps) (hnb:errC c=0→NoBack c.tris):
  Calls Tryz.prog 27 #[vCtl Ap c.points.length cp At c.tris.length ct Ac c.creases.length cc Ao c.corners.length oc c.steps Ad c.details.length dc] w fun e w'=>∃A1 n1 c1,e= .returned (.tuple #[.slice A1 n1 c1, .int .i64 (errS c)])∧Own encT 9 46 w' w.heap.size (.slice A1 n1 c1) n1 (subR c)∧Below w.heap.size w w':=by
 have kf:=fun (W:World) (hW:Below w.heap.size w W)=>fine_any Ap At Ac Ao Ad cp ct cc oc dc c W (hm.below hW hW.size) hb hfs hnb
 obtain ⟨P,hP⟩:∃p,p=finP c:=⟨_,rfl⟩
 obtain ⟨T,hT⟩:∃t,t=finT c:=⟨_,rfl⟩
 have hsz:errC c=0→P.length≤1000000∧T.length≤300000∧∀x∈T,(0≤x.1∧x.1 < (P.length:Int))∧(0≤x.2.1∧x.2.1 < (P.length:Int))∧0≤x.2.2∧x.2.2 < (P.length:Int):=fun h0=>by
  have hR:=right_of h0
  have hN:=hnb h0
  have h1:=level_small hR hN hb (k:=c.steps.toNat) (Nat.le_refl _)
  rw [hP,hT]
  unfold finP finT
  rw [if_pos h0,if_pos h0]
  exact ⟨h1.p,h1.t,(Ctl.level_right hR hN c.steps.toNat).cls.idx⟩
 have hes:errS c=if errC c≠0 then errC c else if outR 0 2097151 P=true then 3 else if dupB P (corsN T)=true then 24 else 0:=by rw [hP,hT];rfl
 have hsr:subR c=if errS c=0 then canonT (T.map (triP9 P)) else []:=by rw [hP,hT];rfl
 rw [←hP,←hT] at kf
 obtain ⟨np,hnp⟩:∃n,n=c.points.length:=⟨_,rfl⟩
 obtain ⟨nt,hnt⟩:∃n,n=c.tris.length:=⟨_,rfl⟩
 obtain ⟨nc,hnc⟩:∃n,n=c.creases.length:=⟨_,rfl⟩
 obtain ⟨no,hno⟩:∃n,n=c.corners.length:=⟨_,rfl⟩
 obtain ⟨nd,hnd⟩:∃n,n=c.details.length:=⟨_,rfl⟩
 obtain ⟨st,hst⟩:∃n,n=c.steps:=⟨_,rfl⟩
 obtain ⟨er,her⟩:∃n,n=errC c:=⟨_,rfl⟩
 obtain ⟨ES,hES⟩:∃n,n=errS c:=⟨_,rfl⟩
 obtain ⟨PN,hPN⟩:∃n,n=P.length:=⟨_,rfl⟩
 obtain ⟨TN,hTN⟩:∃n,n=T.length:=⟨_,rfl⟩
 rw [←hES] at hes hsr
 rw [←her] at hes hsz
 rw [←hPN,←hTN] at hsz
 rw [hsr,←hnp,←hnt,←hnc,←hno,←hnd,←hst,←hES]
 simp only [←hnp,←hnt,←hnc,←hno,←hnd,←hst,←her,←hPN,←hTN] at kf
 have HK:=hide (And.intro kf (And.intro hsz (And.intro hes (And.intro hPN hTN))))
 clear kf hsz hes hsr hm hb hfs hnb hP hT hnp hnt hnc hno hnd hst her hES hPN hTN
 go_enter Tryz.func27,Tryz.ntmps27
 go_upto_region 1 with fail
 obtain ⟨g1,hg1⟩:∃g,g=w.heap.size:=⟨_,rfl⟩
 obtain ⟨X0,hX⟩:∃W,W=w.alloc (.cells (cCtl Ap np cp At nt ct Ac nc cc Ao no oc st Ad nd dc) 32):=⟨_,rfl⟩
 rw [←hX,←hg1]
 have hb1:Blk X0 g1 32 (cCtl Ap np cp At nt ct Ac nc cc Ao no oc st Ad nd dc):=by rw [hX,hg1];exact Blk.new _ _ _
 have hBX:Below w.heap.size w X0:=by rw [hX];exact (Below.refl _ w).alloc (Nat.le_refl _) _
 obtain ⟨z0,z1,z2,z3,z4,z5⟩:=hb1.six9
 have hgl:=hb1.lt
 have H0:=hide hBX
 clear hb1 hBX hX hg1
 by_cases he:er=0
 ·subst he
  obtain ⟨hPl,hTl,hidx⟩:=HK.out.2.1 rfl
  have hes:=HK.out.2.2.1
  rw [if_neg (by simp)] at hes
  have HE:=hide (And.intro hes hidx)
  clear hes hidx
  go_upto_region 4 with (go_at_call 18;refine (HK.out.1 X0 H0.out).mono ?_;rintro e X1 ⟨A1,c1,A2,c2,rfl,ho1,ho2,hB⟩;have H1:=hide (And.intro (ho1.sl encP_len (Nat.le_refl _)) (And.intro (ho2.sl encN3_len (Nat.le_refl _)) (H0.out.trans (hB.mono H0.out.size))));clear ho1 ho2 hB)
  clear z0 z1 z2 z3 z4 z5 hgl
  have kr:=inRange_any A1 c1 P 0 2097151 X1 H1.out.1 (by rw [←HK.out.2.2.2.1];omega)
  obtain ⟨f1,hf1⟩:∃f,f=outR 0 2097151 P:=⟨_,rfl⟩
  rw [←hf1,←HK.out.2.2.2.1] at kr
  have HR:=hide (And.intro kr hf1)
  clear kr hf1
  cases f1 with
  | true=>
   have hes:=HE.out.1
   rw [←HR.out.2,if_pos rfl] at hes
   subst hes
   go_wp2_with (go_at_call 49;refine HR.out.1.mono ?_;rintro e X2 ⟨rfl,hB⟩;have H2:=hide (H1.out.2.2.trans (hB.mono H1.out.2.2.size));clear hB)
   go_ret2
   exact ⟨none,0,0,rfl,Own.nil,H2.out⟩
  | false=>
   have hes:=HE.out.1
   rw [←HR.out.2,if_neg (by simp)] at hes
   have HQ:=hide hes
   clear hes
   go_upto_region 6 with (go_at_call 49;refine HR.out.1.mono ?_;rintro e X2 ⟨rfl,hB⟩;have H2:=hide (And.intro (H1.out.1.below hB) (And.intro (H1.out.2.1.below hB) (And.intro (H1.out.2.2.trans (hB.mono H1.out.2.2.size)) hB.size)));clear hB)
   have hmm:=@run_makeMap Tryz.prog
   go_upto_region 9 with fail
   clear hmm
   obtain ⟨mq,hmq⟩:∃n,n=X2.heap.size:=⟨_,rfl⟩
   obtain ⟨X3,hX3⟩:∃W,W=X2.alloc (.map #[] 0):=⟨_,rfl⟩
   rw [←hX3,←hmq]
   have hM0:MapK Tryz.prog 43 vP fitsP X3 mq 0 fun _=>none:=by rw [hX3,hmq];exact MapK.made _ _ _ _ X2
   have hB3:Below X2.heap.size X2 X3:=by rw [hX3];exact (Below.refl _ X2).alloc (Nat.le_refl _) _
   have hpf:∀n:Nat,∀q,P[n]? =some q→fitsP q:=fun n q hq=>by
    have h:=outR_no HR.out.2.symm q (List.mem_of_getElem? hq)
    unfold fitsP fits
    omega
   have H3:=hide (And.intro hM0 (And.intro hB3 (And.intro hmq hpf)))
   clear hM0 hB3 hX3 hmq hpf
   go_loopw [7,32] (fun ov iv wr=>∃(i cnt:Nat) (m:Pt→Option Value),i≤TN∧iv= .int .i64 i∧Own encT 9 46 wr X2.heap.size ov i ((T.take i).map (triP9 P))∧MapK Tryz.prog 43 vP fitsP wr mq cnt m∧AtP P m (corsN (T.take i))∧cnt≤3*i∧Below X2.heap.size X2 wr) (fun _ iv _=>TN - (intOf iv).toNat)
   case atStart=>exact ⟨0,0,_,by omega,rfl,by rw [List.take_zero];exact Own.nil,H3.out.1,⟨fun n hn=>(by rw [List.take_zero] at hn;exact absurd hn (by simp [corsN])),fun q hq=>absurd rfl hq⟩,by omega,H3.out.2.1⟩
   case round=>
    obtain ⟨i,cnt,m,hi,rfl,hO,hM,hA,hcnt,hB⟩:=hrel
    obtain ⟨V,rfl⟩:∃x,x=wr:=⟨_,rfl⟩
    obtain ⟨Al,cl,rfl⟩:=hO.form
    by_cases hlt:i < TN
    ·have i1:(i:Int) < (TN:Int):=by omega
     obtain ⟨x,hx⟩:∃x,T[i]? =some x:=⟨_,List.getElem?_eq_getElem (by rw [←HK.out.2.2.2.2];exact hlt)⟩
     obtain ⟨bb,ob,hAt,hbb,d0,d1,d2⟩:=((H2.out.2.1.more H2.out.2.2.2).below hB).n3 hx
     subst hAt
     have hbV:bb < V.heap.size:=Nat.lt_of_lt_of_le hbb hB.size
     have hxm:=List.mem_of_getElem? hx
     have hid:=HE.out.2 x hxm
     have htk:(T.take (i+1)).map (triP9 P)=(T.take i).map (triP9 P)++ [triP9 P x]:=by rw [take_at hx,List.map_append];rfl
     have hck:=corsN_take hx
     obtain ⟨x1,x2,x3⟩:=x
     simp only at d0 d1 d2 hid
     obtain ⟨a1,rfl⟩:∃a:Nat,x1=(a:Int):=⟨x1.toNat,by omega⟩
     obtain ⟨a2,rfl⟩:∃a:Nat,x2=(a:Int):=⟨x2.toNat,by omega⟩
     obtain ⟨a3,rfl⟩:∃a:Nat,x3=(a:Int):=⟨x3.toNat,by omega⟩
     have l1:(a1:Int) < (PN:Int):=by omega
     have l2:(a2:Int) < (PN:Int):=by omega
     have l3:(a3:Int) < (PN:Int):=by omega
     obtain ⟨q1,hq1⟩:∃q,P[a1]? =some q:=⟨_,List.getElem?_eq_getElem (by rw [←HK.out.2.2.2.1];omega)⟩
     obtain ⟨q2,hq2⟩:∃q,P[a2]? =some q:=⟨_,List.getElem?_eq_getElem (by rw [←HK.out.2.2.2.1];omega)⟩
     obtain ⟨q3,hq3⟩:∃q,P[a3]? =some q:=⟨_,List.getElem?_eq_getElem (by rw [←HK.out.2.2.2.1];omega)⟩
     have htr:triP9 P ((a1:Int),(a2:Int),(a3:Int))=(q1,q2,q3):=by unfold triP9;rw [gP_at hq1,gP_at hq2,gP_at hq3]
     rw [htr] at htk
     have hPs:=H2.out.1.more H2.out.2.2.2
     obtain ⟨bp,op,hA1,hbp,p10,p11,p12⟩:=hPs.pt9 hq1
     subst hA1
     obtain ⟨bp2,op2,e,_,p20,p21,p22⟩:=hPs.pt9 hq2
     cases e
     obtain ⟨bp3,op3,e,_,p30,p31,p32⟩:=hPs.pt9 hq3
     cases e
     have hbpV:bp < V.heap.size:=Nat.lt_of_lt_of_le hbp hB.size
     have HC:=hide (And.intro p10 (And.intro p11 (And.intro p12 (And.intro p20 (And.intro p21 (And.intro p22 (And.intro p30 (And.intro p31 (And.intro p32 hbp)))))))))
     have hmem:∀n∈ [(a1:Int),(a2:Int),(a3:Int)],n∈corsN T:=fun n hn=>List.mem_flatMap.2 ⟨_,hxm,hn⟩
     have HV:=hide (And.intro hO (And.intro hM (And.intro hA (And.intro hB (And.intro htk (And.intro hck (And.intro hmem (And.intro hq1 (And.intro hq2 hq3)))))))))
     clear hO hM hA hB htk hck hmem hq1 hq2 hq3 htr hPs hid hxm hx hbb hbp p10 p11 p12 p20 p21 p22 p30 p31 p32 hbpV
     go_upto_region 11 with fail
     obtain ⟨Y,hY⟩:∃W,W=V.alloc (.cells #[.int .i64 a1, .int .i64 a2, .int .i64 a3] 35):=⟨_,rfl⟩
     obtain ⟨gy,hgy⟩:∃g,g=V.heap.size:=⟨_,rfl⟩
     have hbY:Blk Y gy 35 #[.int .i64 a1, .int .i64 a2, .int .i64 a3]:=by rw [hY,hgy];exact Blk.new _ _ _
     have hBY:Below V.heap.size V Y:=by rw [hY];exact (Below.refl _ V).alloc (Nat.le_refl _) _
     have hgo:gy≠mq:=by have:=HV.out.2.1.lt;omega
     rw [←hY,←hgy]
     have hS:=subS_intro HV.out.1 HV.out.2.1 HV.out.2.2.1 HV.out.2.2.2.1 hBY hbY hgo
     have y0:Y.cell? ⟨gy,0,none⟩=some (.int .i64 a1):=hbY.cell 0
     have y1:Y.cell? ⟨gy,1,none⟩=some (.int .i64 a2):=hbY.cell 1
     have y2:Y.cell? ⟨gy,2,none⟩=some (.int .i64 a3):=hbY.cell 2
     have hgyl:=hbY.lt
     have HS:=hide (And.intro hS hgo)
     clear hY hgy hbY hBY hS hgo d0 d1 d2 hbV
     go_upto_region 12 with fail
     clear y0 y1 y2 hgyl
     go_loopw [37] (fun jv wz=>∃(j cn:Nat) (m2:Pt→Option Value),j≤3∧jv= .int .i64 j∧SubS P X2 wz mq gy cn a1 a2 a3 (.slice Al i cl) i ((T.take i).map (triP9 P)) m2 (corsN (T.take i)++ [(a1:Int),(a2:Int),(a3:Int)].take j)∧cn≤cnt+j) (fun jv _=>3 - (intOf jv).toNat)
     case atStart=>exact ⟨0,cnt,m,by omega,rfl,by rw [List.take_zero,List.append_nil];exact HS.out.1,by omega⟩
     case round=>
      obtain ⟨j,cn,m2,hj,rfl,hS,hcn⟩:=hrel
      obtain ⟨U,rfl⟩:∃x,x=wr:=⟨_,rfl⟩
      have a1':IntKind.i64.wrap 1=1:=by decide
      have a2':IntKind.i64.wrap 2=2:=by decide
      have hc:j=0∨j=1∨j=2∨j=3:=by omega
      rcases hc with rfl | rfl | rfl | rfl
      ·have ix:=idxN0 (.int .i64 a1) (.int .i64 a2) (.int .i64 a3)
       have hqj:=HV.out.2.2.2.2.2.2.2.1
       have hgp:=gP_at hqj
       have hfq:=H3.out.2.2.2 a1 _ hqj
       have hlk:=hS.mp.lookup_ok kfP4 (t:=95) (e:=3) Tryz.underlying95 (z:= .int .i64 0) rfl q1 hfq
       have hBU:=hS.bel
       have c0:=HC.out.1
       have c1:=HC.out.2.1
       have c2:=HC.out.2.2.1
       have hBVU:∀o v,X2.cell? ⟨bp,o,none⟩=some v→U.cell? ⟨bp,o,none⟩=some v:=fun o v h=>(hBU.cell (p:=⟨bp,o,none⟩) HC.out.2.2.2.2.2.2.2.2.2).trans h
       have c0:=hBVU _ _ c0
       have c1:=hBVU _ _ c1
       have c2:=hBVU _ _ c2
       have hbpU:bp < U.heap.size:=Nat.lt_of_lt_of_le HC.out.2.2.2.2.2.2.2.2.2 hBU.size
       have hsn:corsN (T.take i)++ [(a1:Int),(a2:Int),(a3:Int)].take (0+1)=(corsN (T.take i)++ [(a1:Int),(a2:Int),(a3:Int)].take 0)++ [(a1:Int)]:=by simp
       obtain ⟨ms,hms⟩:∃v,v=m2 q1:=⟨_,rfl⟩
       rw [←hms] at hlk
       have hup:=hS.mp.update kfP4 (t:=95) (e:=3) Tryz.underlying95 (by unfold maxLen;omega) q1 hfq (vi a1)
       obtain ⟨w6,hrun,hm6,hg6,hz6⟩:=hup
       obtain ⟨b1,b2,b3⟩:=q1
       simp only at c0 c1 c2
       cases ms with
       | none=>
        have hat:=hS.at_.put (a1:Int) (.inl (by rw [hgp,←hms]))
        rw [hgp,←hsn] at hat
        have HU:=hide (hS.put hg6 (by rw [H3.out.2.2.1];exact Nat.le_refl _) HS.out.2 hm6 hat)
        clear hS hqj hgp hfq hBU hBVU hsn hms hm6 hg6 hz6 hat
        have hlk2:(Instr.lookup 95 (.map (some mq)) (.agg #[.int .i64 b1, .int .i64 b2, .int .i64 b3]) true).run Tryz.prog U= .ok (.tuple #[.int .i64 0, .bool false]) U:=hlk
        clear hlk
        go_wp2
        go_roundw
        case rel=>exact ⟨1,cn+1,_,by omega,by go_num,HU.out,by omega⟩
        case measure=>(simp [intOf];try omega)
       | some v=>
        obtain ⟨n0,hn0,hg0,hv0⟩:=hS.at_.off (b1,b2,b3) (by rw [←hms];simp)
        have hv:v=vi n0:=by rw [←hms] at hv0;exact Option.some.inj hv0
        subst hv
        have hlk2:(Instr.lookup 95 (.map (some mq)) (.agg #[.int .i64 b1, .int .i64 b2, .int .i64 b3]) true).run Tryz.prog U= .ok (.tuple #[.int .i64 n0, .bool true]) U:=hlk
        clear hlk
        by_cases hnn:n0=(a1:Int)
        ·subst hnn
         have hat:=hS.at_.put (a1:Int) (.inr (by rw [hgp,←hms]))
         rw [hgp,←hsn] at hat
         have HU:=hide (hS.put hg6 (by rw [H3.out.2.2.1];exact Nat.le_refl _) HS.out.2 hm6 hat)
         clear hS hqj hgp hfq hBU hBVU hsn hms hm6 hg6 hz6 hat hn0 hg0 hv0
         go_wp2
         go_roundw
         case rel=>exact ⟨1,cn+1,_,by omega,by go_num,HU.out,by omega⟩
         case measure=>(simp [intOf];try omega)
        ·have hmo:∀n∈corsN (T.take i)++ [(a1:Int),(a2:Int),(a3:Int)].take 0,n∈corsN T:=fun n hn=>by
          rcases List.mem_append.1 hn with h | h
          ·obtain ⟨y,hy,hyn⟩:=List.mem_flatMap.1 h
           exact List.mem_flatMap.2 ⟨y,List.mem_of_mem_take hy,hyn⟩
          ·exact HV.out.2.2.2.2.2.2.1 n (List.mem_of_mem_take h)
         have hdup:dupB P (corsN T)=true:=dup_yes (hmo n0 hn0) (HV.out.2.2.2.2.2.2.1 (a1:Int) (by simp)) (hg0.trans hgp.symm) hnn
         have hes:=HQ.out
         rw [hdup,if_pos rfl] at hes
         subst hes
         have HU:=hide (H2.out.2.2.1.trans (hBU.mono H2.out.2.2.1.size))
         clear hS hqj hgp hfq hBU hBVU hsn hms hm6 hg6 hz6 hn0 hg0 hv0 hmo hdup hrun
         go_wp2
         go_ret2
         exact ⟨none,0,0,rfl,Own.nil,HU.out⟩
      ·have ix:=idxN1 (.int .i64 a1) (.int .i64 a2) (.int .i64 a3)
       have hqj:=HV.out.2.2.2.2.2.2.2.2.1
       have hgp:=gP_at hqj
       have hfq:=H3.out.2.2.2 a2 _ hqj
       have hlk:=hS.mp.lookup_ok kfP4 (t:=95) (e:=3) Tryz.underlying95 (z:= .int .i64 0) rfl q2 hfq
       have hBU:=hS.bel
       have c0:=HC.out.2.2.2.1
       have c1:=HC.out.2.2.2.2.1
       have c2:=HC.out.2.2.2.2.2.1
       have hBVU:∀o v,X2.cell? ⟨bp,o,none⟩=some v→U.cell? ⟨bp,o,none⟩=some v:=fun o v h=>(hBU.cell (p:=⟨bp,o,none⟩) HC.out.2.2.2.2.2.2.2.2.2).trans h
       have c0:=hBVU _ _ c0
       have c1:=hBVU _ _ c1
       have c2:=hBVU _ _ c2
       have hbpU:bp < U.heap.size:=Nat.lt_of_lt_of_le HC.out.2.2.2.2.2.2.2.2.2 hBU.size
       have hsn:corsN (T.take i)++ [(a1:Int),(a2:Int),(a3:Int)].take (1+1)=(corsN (T.take i)++ [(a1:Int),(a2:Int),(a3:Int)].take 1)++ [(a2:Int)]:=by simp
       obtain ⟨ms,hms⟩:∃v,v=m2 q2:=⟨_,rfl⟩
       rw [←hms] at hlk
       have hup:=hS.mp.update kfP4 (t:=95) (e:=3) Tryz.underlying95 (by unfold maxLen;omega) q2 hfq (vi a2)
       obtain ⟨w6,hrun,hm6,hg6,hz6⟩:=hup
       obtain ⟨b1,b2,b3⟩:=q2
       simp only at c0 c1 c2
       cases ms with
       | none=>
        have hat:=hS.at_.put (a2:Int) (.inl (by rw [hgp,←hms]))
        rw [hgp,←hsn] at hat
        have HU:=hide (hS.put hg6 (by rw [H3.out.2.2.1];exact Nat.le_refl _) HS.out.2 hm6 hat)
        clear hS hqj hgp hfq hBU hBVU hsn hms hm6 hg6 hz6 hat
        have hlk2:(Instr.lookup 95 (.map (some mq)) (.agg #[.int .i64 b1, .int .i64 b2, .int .i64 b3]) true).run Tryz.prog U= .ok (.tuple #[.int .i64 0, .bool false]) U:=hlk
        clear hlk
        go_wp2
        go_roundw
        case rel=>exact ⟨2,cn+1,_,by omega,by go_num,HU.out,by omega⟩
        case measure=>(simp [intOf];try omega)
       | some v=>
        obtain ⟨n0,hn0,hg0,hv0⟩:=hS.at_.off (b1,b2,b3) (by rw [←hms];simp)
        have hv:v=vi n0:=by rw [←hms] at hv0;exact Option.some.inj hv0
        subst hv
        have hlk2:(Instr.lookup 95 (.map (some mq)) (.agg #[.int .i64 b1, .int .i64 b2, .int .i64 b3]) true).run Tryz.prog U= .ok (.tuple #[.int .i64 n0, .bool true]) U:=hlk
        clear hlk
        by_cases hnn:n0=(a2:Int)
        ·subst hnn
         have hat:=hS.at_.put (a2:Int) (.inr (by rw [hgp,←hms]))
         rw [hgp,←hsn] at hat
         have HU:=hide (hS.put hg6 (by rw [H3.out.2.2.1];exact Nat.le_refl _) HS.out.2 hm6 hat)
         clear hS hqj hgp hfq hBU hBVU hsn hms hm6 hg6 hz6 hat hn0 hg0 hv0
         go_wp2
         go_roundw
         case rel=>exact ⟨2,cn+1,_,by omega,by go_num,HU.out,by omega⟩
         case measure=>(simp [intOf];try omega)
        ·have hmo:∀n∈corsN (T.take i)++ [(a1:Int),(a2:Int),(a3:Int)].take 1,n∈corsN T:=fun n hn=>by
          rcases List.mem_append.1 hn with h | h
          ·obtain ⟨y,hy,hyn⟩:=List.mem_flatMap.1 h
           exact List.mem_flatMap.2 ⟨y,List.mem_of_mem_take hy,hyn⟩
          ·exact HV.out.2.2.2.2.2.2.1 n (List.mem_of_mem_take h)
         have hdup:dupB P (corsN T)=true:=dup_yes (hmo n0 hn0) (HV.out.2.2.2.2.2.2.1 (a2:Int) (by simp)) (hg0.trans hgp.symm) hnn
         have hes:=HQ.out
         rw [hdup,if_pos rfl] at hes
         subst hes
         have HU:=hide (H2.out.2.2.1.trans (hBU.mono H2.out.2.2.1.size))
         clear hS hqj hgp hfq hBU hBVU hsn hms hm6 hg6 hz6 hn0 hg0 hv0 hmo hdup hrun
         go_wp2
         go_ret2
         exact ⟨none,0,0,rfl,Own.nil,HU.out⟩
      ·have ix:=idxN2 (.int .i64 a1) (.int .i64 a2) (.int .i64 a3)
       have hqj:=HV.out.2.2.2.2.2.2.2.2.2
       have hgp:=gP_at hqj
       have hfq:=H3.out.2.2.2 a3 _ hqj
       have hlk:=hS.mp.lookup_ok kfP4 (t:=95) (e:=3) Tryz.underlying95 (z:= .int .i64 0) rfl q3 hfq
       have hBU:=hS.bel
       have c0:=HC.out.2.2.2.2.2.2.1
       have c1:=HC.out.2.2.2.2.2.2.2.1
       have c2:=HC.out.2.2.2.2.2.2.2.2.1
       have hBVU:∀o v,X2.cell? ⟨bp,o,none⟩=some v→U.cell? ⟨bp,o,none⟩=some v:=fun o v h=>(hBU.cell (p:=⟨bp,o,none⟩) HC.out.2.2.2.2.2.2.2.2.2).trans h
       have c0:=hBVU _ _ c0
       have c1:=hBVU _ _ c1
       have c2:=hBVU _ _ c2
       have hbpU:bp < U.heap.size:=Nat.lt_of_lt_of_le HC.out.2.2.2.2.2.2.2.2.2 hBU.size
       have hsn:corsN (T.take i)++ [(a1:Int),(a2:Int),(a3:Int)].take (2+1)=(corsN (T.take i)++ [(a1:Int),(a2:Int),(a3:Int)].take 2)++ [(a3:Int)]:=by simp
       obtain ⟨ms,hms⟩:∃v,v=m2 q3:=⟨_,rfl⟩
       rw [←hms] at hlk
       have hup:=hS.mp.update kfP4 (t:=95) (e:=3) Tryz.underlying95 (by unfold maxLen;omega) q3 hfq (vi a3)
       obtain ⟨w6,hrun,hm6,hg6,hz6⟩:=hup
       obtain ⟨b1,b2,b3⟩:=q3
       simp only at c0 c1 c2
       cases ms with
       | none=>
        have hat:=hS.at_.put (a3:Int) (.inl (by rw [hgp,←hms]))
        rw [hgp,←hsn] at hat
        have HU:=hide (hS.put hg6 (by rw [H3.out.2.2.1];exact Nat.le_refl _) HS.out.2 hm6 hat)
        clear hS hqj hgp hfq hBU hBVU hsn hms hm6 hg6 hz6 hat
        have hlk2:(Instr.lookup 95 (.map (some mq)) (.agg #[.int .i64 b1, .int .i64 b2, .int .i64 b3]) true).run Tryz.prog U= .ok (.tuple #[.int .i64 0, .bool false]) U:=hlk
        clear hlk
        go_wp2
        go_roundw
        case rel=>exact ⟨3,cn+1,_,by omega,by go_num,HU.out,by omega⟩
        case measure=>(simp [intOf];try omega)
       | some v=>
        obtain ⟨n0,hn0,hg0,hv0⟩:=hS.at_.off (b1,b2,b3) (by rw [←hms];simp)
        have hv:v=vi n0:=by rw [←hms] at hv0;exact Option.some.inj hv0
        subst hv
        have hlk2:(Instr.lookup 95 (.map (some mq)) (.agg #[.int .i64 b1, .int .i64 b2, .int .i64 b3]) true).run Tryz.prog U= .ok (.tuple #[.int .i64 n0, .bool true]) U:=hlk
        clear hlk
        by_cases hnn:n0=(a3:Int)
        ·subst hnn
         have hat:=hS.at_.put (a3:Int) (.inr (by rw [hgp,←hms]))
         rw [hgp,←hsn] at hat
         have HU:=hide (hS.put hg6 (by rw [H3.out.2.2.1];exact Nat.le_refl _) HS.out.2 hm6 hat)
         clear hS hqj hgp hfq hBU hBVU hsn hms hm6 hg6 hz6 hat hn0 hg0 hv0
         go_wp2
         go_roundw
         case rel=>exact ⟨3,cn+1,_,by omega,by go_num,HU.out,by omega⟩
         case measure=>(simp [intOf];try omega)
        ·have hmo:∀n∈corsN (T.take i)++ [(a1:Int),(a2:Int),(a3:Int)].take 2,n∈corsN T:=fun n hn=>by
          rcases List.mem_append.1 hn with h | h
          ·obtain ⟨y,hy,hyn⟩:=List.mem_flatMap.1 h
           exact List.mem_flatMap.2 ⟨y,List.mem_of_mem_take hy,hyn⟩
          ·exact HV.out.2.2.2.2.2.2.1 n (List.mem_of_mem_take h)
         have hdup:dupB P (corsN T)=true:=dup_yes (hmo n0 hn0) (HV.out.2.2.2.2.2.2.1 (a3:Int) (by simp)) (hg0.trans hgp.symm) hnn
         have hes:=HQ.out
         rw [hdup,if_pos rfl] at hes
         subst hes
         have HU:=hide (H2.out.2.2.1.trans (hBU.mono H2.out.2.2.1.size))
         clear hS hqj hgp hfq hBU hBVU hsn hms hm6 hg6 hz6 hn0 hg0 hv0 hmo hdup hrun
         go_wp2
         go_ret2
         exact ⟨none,0,0,rfl,Own.nil,HU.out⟩
      ·have hBU:=hS.bel
       have hBVU:∀o v,X2.cell? ⟨bp,o,none⟩=some v→U.cell? ⟨bp,o,none⟩=some v:=fun o v h=>(hBU.cell (p:=⟨bp,o,none⟩) HC.out.2.2.2.2.2.2.2.2.2).trans h
       have HCU:=hide (And.intro (hBVU _ _ HC.out.1) (And.intro (hBVU _ _ HC.out.2.1) (And.intro (hBVU _ _ HC.out.2.2.1) (And.intro (hBVU _ _ HC.out.2.2.2.1) (And.intro (hBVU _ _ HC.out.2.2.2.2.1) (And.intro (hBVU _ _ HC.out.2.2.2.2.2.1) (And.intro (hBVU _ _ HC.out.2.2.2.2.2.2.1) (And.intro (hBVU _ _ HC.out.2.2.2.2.2.2.2.1) (And.intro (hBVU _ _ HC.out.2.2.2.2.2.2.2.2.1) (show bp < U.heap.size from Nat.lt_of_lt_of_le HC.out.2.2.2.2.2.2.2.2.2 hBU.size))))))))))
       have HU:=hide hS
       clear hS hBU hBVU
       go_upto_region 19 with fail
       have HSB:=hide (show Below U.heap.size U U.drew from (Below.refl _ U).drew)
       refine wp_region_mix (fun W=>Below U.heap.size U W) [0,1,2,3,4,5,6,7,8,9,10,11,12,13,14,15,16] [0,1,2,3,4,5,6,7,8,9,10,11,12,13,14,15,16,17,18,19] mixed_ok (by kernel_rfl) ?_
       refine wpMix_q (v:=(.slice Al i cl)) rfl rfl (fun _ _ _ h=>h) HSB.out ⟨rfl,fun _ _=>by simp [go_sem]⟩ ?_
       refine wpMix_q (v:=(.slice (some ⟨bp,op,none⟩) PN c1)) rfl rfl (fun _ _ _ h=>h) HSB.out ⟨rfl,fun _ _=>by simp [go_sem]⟩ ?_
       refine wpMix_q (v:=(.pointer (some ⟨gy,0,none⟩))) rfl rfl (fun _ _ _ h=>h) HSB.out ⟨rfl,fun _ _=>by simp [go_sem]⟩ ?_
       refine wpMix_q (v:=(.int .i64 a1)) rfl rfl (fun _ _ _ h=>h) HSB.out ⟨rfl,fun _ h'=>by have a0:=(h'.cell (p:=⟨gy,0,none⟩) HU.out.bx.lt).trans (HU.out.bx.cell 0);simp only [List.getElem?_toArray,List.getElem?_cons_zero] at a0;simp [go_sem,a0]⟩ ?_
       refine wpMix_q (v:=(.pointer (some ⟨bp,op+a1*3,none⟩))) rfl rfl (fun _ _ _ h=>h) HSB.out ⟨rfl,fun _ _=>by simp [go_sem,l1]⟩ ?_
       refine wpMix_q (v:=(.agg #[.int .i64 q1.1, .int .i64 q1.2.1, .int .i64 q1.2.2])) rfl rfl (fun _ _ _ h=>h) HSB.out ⟨rfl,fun _ h'=>by have f0:=(h'.cell (p:=⟨bp,op+a1*3,none⟩) HCU.out.2.2.2.2.2.2.2.2.2).trans HCU.out.1;have f1:=(h'.cell (p:=⟨bp,op+a1*3+1,none⟩) HCU.out.2.2.2.2.2.2.2.2.2).trans HCU.out.2.1;have f2:=(h'.cell (p:=⟨bp,op+a1*3+2,none⟩) HCU.out.2.2.2.2.2.2.2.2.2).trans HCU.out.2.2.1;simp [go_sem,f0,f1,f2]⟩ ?_
       simp only [List.getElem_toArray,List.getElem_cons_succ,List.getElem_cons_zero,Act.put,List.setIfInBounds_toArray,List.set_cons_succ,List.set_cons_zero]
       refine wpMix_q (v:=(.slice (some ⟨bp,op,none⟩) PN c1)) rfl rfl (fun _ _ _ h=>h) HSB.out ⟨rfl,fun _ _=>by simp [go_sem]⟩ ?_
       refine wpMix_q (v:=(.pointer (some ⟨gy,1,none⟩))) rfl rfl (fun _ _ _ h=>h) HSB.out ⟨rfl,fun _ _=>by simp [go_sem]⟩ ?_
       refine wpMix_q (v:=(.int .i64 a2)) rfl rfl (fun _ _ _ h=>h) HSB.out ⟨rfl,fun _ h'=>by have a0:=(h'.cell (p:=⟨gy,1,none⟩) HU.out.bx.lt).trans (HU.out.bx.cell 1);simp only [List.getElem?_toArray,List.getElem?_cons_zero,List.getElem?_cons_succ] at a0;simp [go_sem,a0]⟩ ?_
       refine wpMix_q (v:=(.pointer (some ⟨bp,op+a2*3,none⟩))) rfl rfl (fun _ _ _ h=>h) HSB.out ⟨rfl,fun _ _=>by simp [go_sem,l2]⟩ ?_
       refine wpMix_q (v:=(.agg #[.int .i64 q2.1, .int .i64 q2.2.1, .int .i64 q2.2.2])) rfl rfl (fun _ _ _ h=>h) HSB.out ⟨rfl,fun _ h'=>by have f0:=(h'.cell (p:=⟨bp,op+a2*3,none⟩) HCU.out.2.2.2.2.2.2.2.2.2).trans HCU.out.2.2.2.1;have f1:=(h'.cell (p:=⟨bp,op+a2*3+1,none⟩) HCU.out.2.2.2.2.2.2.2.2.2).trans HCU.out.2.2.2.2.1;have f2:=(h'.cell (p:=⟨bp,op+a2*3+2,none⟩) HCU.out.2.2.2.2.2.2.2.2.2).trans HCU.out.2.2.2.2.2.1;simp [go_sem,f0,f1,f2]⟩ ?_
       refine wpMix_q (v:=(.slice (some ⟨bp,op,none⟩) PN c1)) rfl rfl (fun _ _ _ h=>h) HSB.out ⟨rfl,fun _ _=>by simp [go_sem]⟩ ?_
       simp only [List.getElem_toArray,List.getElem_cons_succ,List.getElem_cons_zero,Act.put,List.setIfInBounds_toArray,List.set_cons_succ,List.set_cons_zero]
       refine wpMix_q (v:=(.pointer (some ⟨gy,2,none⟩))) rfl rfl (fun _ _ _ h=>h) HSB.out ⟨rfl,fun _ _=>by simp [go_sem]⟩ ?_
       refine wpMix_q (v:=(.int .i64 a3)) rfl rfl (fun _ _ _ h=>h) HSB.out ⟨rfl,fun _ h'=>by have a0:=(h'.cell (p:=⟨gy,2,none⟩) HU.out.bx.lt).trans (HU.out.bx.cell 2);simp only [List.getElem?_toArray,List.getElem?_cons_zero,List.getElem?_cons_succ] at a0;simp [go_sem,a0]⟩ ?_
       refine wpMix_q (v:=(.pointer (some ⟨bp,op+a3*3,none⟩))) rfl rfl (fun _ _ _ h=>h) HSB.out ⟨rfl,fun _ _=>by simp [go_sem,l3]⟩ ?_
       refine wpMix_q (v:=(.agg #[.int .i64 q3.1, .int .i64 q3.2.1, .int .i64 q3.2.2])) rfl rfl (fun _ _ _ h=>h) HSB.out ⟨rfl,fun _ h'=>by have f0:=(h'.cell (p:=⟨bp,op+a3*3,none⟩) HCU.out.2.2.2.2.2.2.2.2.2).trans HCU.out.2.2.2.2.2.2.1;have f1:=(h'.cell (p:=⟨bp,op+a3*3+1,none⟩) HCU.out.2.2.2.2.2.2.2.2.2).trans HCU.out.2.2.2.2.2.2.2.1;have f2:=(h'.cell (p:=⟨bp,op+a3*3+2,none⟩) HCU.out.2.2.2.2.2.2.2.2.2).trans HCU.out.2.2.2.2.2.2.2.2.1;simp [go_sem,f0,f1,f2]⟩ ?_
       refine wpMix_q (v:=(.agg #[.int .i64 q1.1, .int .i64 q1.2.1, .int .i64 q1.2.2, .int .i64 q2.1, .int .i64 q2.2.1, .int .i64 q2.2.2, .int .i64 q3.1, .int .i64 q3.2.1, .int .i64 q3.2.2])) rfl rfl (fun _ _ _ h=>h) HSB.out ⟨rfl,fun _ _=>by simp [go_sem]⟩ ?_
       simp only [List.getElem_toArray,List.getElem_cons_succ,List.getElem_cons_zero,Act.put,List.setIfInBounds_toArray,List.set_cons_succ,List.set_cons_zero]
       have hal:Below U.heap.size U (U.drew.alloc (.cells #[.int .i64 q1.1, .int .i64 q1.2.1, .int .i64 q1.2.2, .int .i64 q2.1, .int .i64 q2.2.1, .int .i64 q2.2.2, .int .i64 q3.1, .int .i64 q3.2.1, .int .i64 q3.2.2] 46)):=(Below.refl _ U).drew.alloc (Nat.le_refl _) _
       refine wpMix_n rfl rfl ?_
       go_wp2_with fail
       refine ⟨fun _=>hal,?_⟩
       refine wpMix_tail _ [_,_] (by kernel_rfl) rfl ?_
       have hzU:=HU.out.bel.size
       refine wpList_append1 rfl _ _ _ rfl Tryz.underlying44 infoT rfl (by omega) encT_len encT_one rfl (HU.out.op.below hal (Nat.le_refl _)) U.heap.size 1 ((q1,q2,q3):Tri) rfl (Blk.new _ _ _) (by unfold maxLen;omega) (by omega) (by simp;omega) ?_
       intro g6 cap6 w6 hown6 hg6 hB6 hat6 hgb6 hlt6
       have ho2:=HU.out.op.below hal (Nat.le_refl _)
       have hm2:=HU.out.mp.below hal HU.out.mp.lt
       have H6:=hide (And.intro hown6 (And.intro (hm2.kept hg6 (Ne.symm (own_map_ne ho2 hm2))) (((HU.out.bel.trans (hal.mono HU.out.bel.size)).trans hB6))))
       clear hown6 hg6 hB6 hat6 hgb6 hlt6 ho2 hm2 hal hzU
       go_wp2_with fail
       go_roundw
       case rel=>exact ⟨i+1,cn,m2,by omega,by go_num,by rw [HV.out.2.2.2.2.1];exact H6.out.1,H6.out.2.1,by rw [HV.out.2.2.2.2.2.1];exact HU.out.at_,by omega,H6.out.2.2⟩
       case measure=>(simp [intOf];try omega)
    ·obtain rfl:i=TN:=by omega
     have i1:¬(i:Int) < (i:Int):=by omega
     rw [List.take_of_length_le (by rw [←HK.out.2.2.2.2];exact Nat.le_refl _)] at hO hA
     have hes:=HQ.out
     rw [hA.one,if_neg (by simp)] at hes
     subst hes
     have hl:=hO.1
     have hcn:=canon_own Al cl (T.map (triP9 P)) V (hO.sl encT_len (Nat.le_refl _)) (by rw [←hl];omega)
     rw [←hl] at hcn
     have HV:=hide (And.intro (H2.out.2.2.1.trans (hB.mono H2.out.2.2.1.size)) hcn)
     clear hO hM hA hB hl hcn hcnt hlt hi
     go_wp2_with (go_at_call 50;refine HV.out.2.mono ?_;rintro e W9 ⟨v9,rfl,ho9,hB9⟩;obtain ⟨A9,c9,rfl⟩:=ho9.form;have H9:=hide (And.intro (ho9.base_le HV.out.1.size) (HV.out.1.trans (hB9.mono HV.out.1.size)));clear ho9 hB9)
     go_ret2
     exact ⟨A9,i,c9,rfl,H9.out.1,H9.out.2⟩
 ·have hes:=HK.out.2.2.1
  rw [if_pos he] at hes
  have hne:(er !=0)=true:=by simpa using he
  subst hes
  go_wp2_with (go_at_call 18;refine (HK.out.1 X0 H0.out).mono ?_;rintro e X1 ⟨A1,c1,A2,c2,rfl,ho1,ho2,hB⟩;have H1:=hide (H0.out.trans (hB.mono H0.out.size));clear ho1 ho2 hB)
  go_ret2
  exact ⟨none,0,0,rfl,Own.nil,H1.out⟩
end Go.Proofs.YtmemofonebphfaaGreat
namespace Go.Proofs.YtmemofonebphfaaGreat
open Go.RowKit Go.Sort
def tetC (cr:List E2) (ds:List (List Pt)):Ctl:=⟨[(0,0,0),(16,0,0),(0,16,0),(0,0,16)],tetB,cr, [],1,ds⟩
theorem tet_edges:edgesE tetB= [(0,1),(0,2),(0,3),(1,2),(1,3),(2,3)]:=
 sorted_uniq (edgesE_sorted _) (by decide) ((sortO_perm _).trans (by decide))
theorem set_nil:setE []= []:=(sortO_perm _).eq_nil
theorem set_one:setE [(0,1)]= [(0,1)]:=sorted_uniq (setE_sorted _) (by decide) ((sortO_perm _).trans (by decide))
theorem set_two:setE [(0,1),(2,1)]= [(0,1),(1,2)]:=sorted_uniq (setE_sorted _) (by decide) ((sortO_perm _).trans (by decide))
theorem tet_err {cr:List E2} {ds:List (List Pt)} (h1:argC (tetC cr ds)=false) (h2:badIx (tetC cr ds)=false) (h3:∀e∈cr,nrmE e.1 e.2∈ [((0:Int),(1:Int)),(0,2),(0,3),(1,2),(1,3),(2,3)]) (h4:manyC (tetC cr ds)=false) (h5:farC (tetC cr ds)=false):errC (tetC cr ds)=0:=
 right_iff.2 ⟨h1,h2,tet_right.chk,noEdge_no.2 fun e he=>(by show _∈edgesE tetB;rw [tet_edges];exact h3 e he),h4,h5⟩
theorem err_a:errC (tetC [] [])=0:=tet_err (by decide) (by decide) (fun e he=>by cases he) (by decide) (by decide)
theorem err_b:errC (tetC [(0,1)] [])=0:=tet_err (by decide) (by decide) (by decide) (by decide) (by decide)
theorem err_c:errC (tetC [(0,1),(2,1)] [])=0:=tet_err (by decide) (by decide) (by decide) (by decide) (by decide)
theorem err_d:errC (tetC [] [[(1,2,3)]])=0:=tet_err (by decide) (by decide) (fun e he=>by cases he) (by decide) (by decide)
def tetQ:List Pt:= [(0,0,0),(256,0,0),(0,256,0),(0,0,256)]
def tetE:List E2:= [(0,1),(0,2),(0,3),(1,2),(1,3),(2,3)]
theorem tet_fin {cr S:List E2} {ds:List (List Pt)} (hS:setE cr=S) (h0:errC (tetC cr ds)=0):finP (tetC cr ds)=tetQ++detE (tetE.map fun e=>ruleE tetQ tetB S [] e.1 e.2) (ds.getD 0 []) 1:=by
 unfold finP
 rw [if_pos h0]
 have hp:(tetC cr ds).begin.p=tetQ:=by
  show ([(0,0,0),(16,0,0),(0,16,0),(0,0,16)]:List Pt).map (fun p=>plusP (0,0,0) p (16^(1:Int).toNat))=tetQ
  decide+kernel
 show (tetC cr ds).begin.p++detE ((edgesE tetB).map fun e=>ruleE (tetC cr ds).begin.p tetB (setE cr) [] e.1 e.2) (ds.getD 0 []) (16^((1:Int).toNat - 1 - 0))=_
 rw [hp,tet_edges,hS]
 rfl
theorem new_a:(finP (tetC [] [])).length=10∧(finP (tetC [] []))[4]? =some (128,0,0):=by rw [tet_fin set_nil err_a];decide+kernel
theorem new_b:(finP (tetC [(0,1)] [])).length=10∧(finP (tetC [(0,1)] []))[4]? =some (128,0,0):=by rw [tet_fin set_one err_b];decide+kernel
theorem new_c:(finP (tetC [(0,1),(2,1)] [])).length=10∧(finP (tetC [(0,1),(2,1)] []))[4]? =some (144,-16,0):=by rw [tet_fin set_two err_c];decide+kernel
theorem new_d:(finP (tetC [] [[(1,2,3)]])).length=10∧(finP (tetC [] [[(1,2,3)]]))[4]? =some (129,2,3):=by rw [tet_fin set_nil err_d];decide+kernel
theorem tet_finT:finT (tetC [] [])=stepT (fun a b=>4+posE tetE a b) tetB:=by
 unfold finT
 rw [if_pos err_a]
 show stepT (midE tetB ((tetC [] []).begin.p.length:Nat)) tetB=_
 unfold midE
 rw [tet_edges]
 rfl
theorem errS_a:errS (tetC [] [])=0:=by
 unfold errS
 rw [if_neg (by rw [err_a];simp),tet_finT,tet_fin set_nil err_a]
 decide+kernel
theorem tet_back (cr:List E2) (ds:List (List Pt)):NoBack (tetC cr ds).tris:=tet_right.back
end Go.Proofs.YtmemofonebphfaaGreat
namespace Go.Proofs.YtmemofonebphfaaGreat
open Go.RowKit Go.Sort Go.WideMaps Go.Maps Go.Shelf
set_option maxRecDepth 100000 in
set_option maxHeartbeats 32000000 in
theorem new4_any (Ap At Ac Ao Ad:Option Addr) (cp ct cc oc dc:Nat) (c:Ctl) (q:Pt) (w:World) (hm:CtlM w w.heap.size Ap At Ac Ao Ad c) (hb:CtlB c) (hfs:fits c.steps) (hnb:NoBack c.tris) (h0:errC c=0) (hl:(finP c).length=10) (hq:(finP c)[4]? =some q):
  Calls Tryz.prog 36 #[vCtl Ap c.points.length cp At c.tris.length ct Ac c.creases.length cc Ao c.corners.length oc c.steps Ad c.details.length dc] w fun e w'=>e= .returned (vP q)∧Below w.heap.size w w':=by
 have kf:=fun (W:World) (hW:Below w.heap.size w W)=>fine_any Ap At Ac Ao Ad cp ct cc oc dc c W (hm.below hW hW.size) hb hfs (fun _=>hnb)
 obtain ⟨P,hP⟩:∃p,p=finP c:=⟨_,rfl⟩
 obtain ⟨T,hT⟩:∃t,t=finT c:=⟨_,rfl⟩
 obtain ⟨np,hnp⟩:∃n,n=c.points.length:=⟨_,rfl⟩
 obtain ⟨nt,hnt⟩:∃n,n=c.tris.length:=⟨_,rfl⟩
 obtain ⟨nc,hnc⟩:∃n,n=c.creases.length:=⟨_,rfl⟩
 obtain ⟨no,hno⟩:∃n,n=c.corners.length:=⟨_,rfl⟩
 obtain ⟨nd,hnd⟩:∃n,n=c.details.length:=⟨_,rfl⟩
 obtain ⟨st,hst⟩:∃n,n=c.steps:=⟨_,rfl⟩
 rw [h0] at kf
 rw [←hP] at kf hl hq
 rw [hl] at kf
 obtain ⟨TN,hTN⟩:∃n,n=T.length:=⟨_,rfl⟩
 rw [←hT,←hTN] at kf
 rw [←hnp,←hnt,←hnc,←hno,←hnd,←hst]
 simp only [←hnp,←hnt,←hnc,←hno,←hnd,←hst] at kf
 have HK:=hide (And.intro kf hq)
 clear kf hq hm hb hfs hnb h0 hP hT hnp hnt hnc hno hnd hst hTN hl
 go_enter Tryz.func36,Tryz.ntmps36
 go_upto_region 1 with fail
 obtain ⟨g1,hg1⟩:∃g,g=w.heap.size:=⟨_,rfl⟩
 obtain ⟨g2,hg2⟩:∃g,g=w.heap.size+1:=⟨_,rfl⟩
 obtain ⟨X0,hX⟩:∃W,W=(w.alloc (.cells (cCtl Ap np cp At nt ct Ac nc cc Ao no oc st Ad nd dc) 32)).alloc (.cells #[.int .i64 0, .int .i64 0, .int .i64 0] 43):=⟨_,rfl⟩
 rw [←hX,←hg2,←hg1]
 have hb1:Blk X0 g1 32 (cCtl Ap np cp At nt ct Ac nc cc Ao no oc st Ad nd dc):=by rw [hX,hg1];exact (Blk.new _ _ _).alloc _
 have hb2:Blk X0 g2 43 #[.int .i64 0, .int .i64 0, .int .i64 0]:=by rw [hX,hg2];exact Blk.new' _ _ _ _ (by simp)
 have hBX:Below w.heap.size w X0:=by rw [hX];exact ((Below.refl _ w).alloc (Nat.le_refl _) _).alloc (by simp) _
 obtain ⟨z0,z1,z2,z3,z4,z5⟩:=hb1.six9
 have hgl:=hb1.lt
 have H0:=hide (And.intro hBX (And.intro hb2 (show w.heap.size≤g2 by omega)))
 clear hb1 hb2 hBX hX hg1 hg2
 go_upto_region 2 with (go_at_call 18;refine (HK.out.1 X0 H0.out.1).mono ?_;rintro e X1 ⟨A1,c1,A2,c2,rfl,ho1,ho2,hB⟩;have H1:=hide (And.intro (ho1.sl encP_len (Nat.le_refl _)) (And.intro (H0.out.1.trans (hB.mono H0.out.1.size)) (H0.out.2.1.below hB H0.out.2.1.lt)));clear ho1 ho2 hB)
 clear z0 z1 z2 z3 z4 z5 hgl
 obtain ⟨bb,ob,hA,hbb,d0,d1,d2⟩:=H1.out.1.pt9 HK.out.2
 subst hA
 obtain ⟨r0,r1,r2⟩:=H1.out.2.2.three
 have hrl:=H1.out.2.2.lt
 have f0:=H1.out.2.2.frozen 0
 have f1:=H1.out.2.2.frozen 1
 have f2:=H1.out.2.2.frozen 2
 obtain ⟨q1,q2,q3⟩:=q
 simp only at d0 d1 d2
 go_wp2
 refine ret_at (v:=vP (q1,q2,q3)) (fun W=>Blk W g2 43 #[.int .i64 q1, .int .i64 q2, .int .i64 q3]) ?_ (fun W hW=> ?_) rfl ⟨rfl,?_⟩
 ·exact H1.out.2.2.set3 _ _ _
 ·obtain ⟨a0,a1,a2⟩:=hW.three
  simp [results,Tryz.results36,go_sem,a0,a1,a2]
  try trivial
 ·exact ((H1.out.2.1.setCell (p:=⟨g2,0,none⟩) H0.out.2.2 _).setCell (p:=⟨g2,1,none⟩) H0.out.2.2 _).setCell (p:=⟨g2,2,none⟩) H0.out.2.2 _
set_option maxRecDepth 100000 in
set_option maxHeartbeats 32000000 in
theorem tetra_any (w:World):
  Calls Tryz.prog 35 #[] w fun e w'=>∃Ap At,e= .returned (vCtl Ap 4 4 At 4 4 none 0 0 none 0 0 1 none 0 0)∧CtlM w' w'.heap.size Ap At none none none (tetC [] [])∧Below w.heap.size w w':=by
 go_enter Tryz.func35,Tryz.ntmps35
 go_upto_region 1 with fail
 obtain ⟨g0,hg0⟩:∃g,g=w.heap.size:=⟨_,rfl⟩
 obtain ⟨X,hX⟩:∃W,W=w.alloc (.cells (cCtl none 0 0 none 0 0 none 0 0 none 0 0 0 none 0 0) 32):=⟨_,rfl⟩
 rw [←hX,←hg0]
 have hb0:Blk X g0 32 (cCtl none 0 0 none 0 0 none 0 0 none 0 0 0 none 0 0):=by rw [hX,hg0];exact Blk.new _ _ _
 have hBX:Below w.heap.size w X:=by rw [hX];exact (Below.refl _ w).alloc (Nat.le_refl _) _
 obtain ⟨gp,hgp⟩:∃g,g=X.heap.size:=⟨_,rfl⟩
 obtain ⟨gt,hgt⟩:∃g,g=X.heap.size+1:=⟨_,rfl⟩
 obtain ⟨Y,hY⟩:∃W,W=(X.alloc (.cells ([((0:Int),(0:Int),(0:Int)),(16,0,0),(0,16,0),(0,0,16)].flatMap encP).toArray 43)).alloc (.cells (tetB.flatMap encN3).toArray 35):=⟨_,rfl⟩
 have hBY:Below X.heap.size X Y:=by rw [hY];exact ((Below.refl _ X).alloc (Nat.le_refl _) _).alloc (by simp) _
 have hbY:=hb0.below hBY hb0.lt
 have hp0:=own_lits encP_len 43 X [((0:Int),(0:Int),(0:Int)),(16,0,0),(0,16,0),(0,0,16)] (Nat.le_refl _) (by simp)
 have hp1:Own encP 3 43 Y X.heap.size (.slice (some ⟨gp,0,none⟩) 4 4) 4 [((0:Int),(0:Int),(0:Int)),(16,0,0),(0,16,0),(0,0,16)]:=by
  rw [hY,hgp]
  exact hp0.alloc _
 have ht0:=own_lits' (base:=X.heap.size) (g:=gt) encN3_len 35 (w:=X.alloc (.cells ([((0:Int),(0:Int),(0:Int)),(16,0,0),(0,16,0),(0,0,16)].flatMap encP).toArray 43)) tetB (by simp [hgt]) (by omega) (by simp [tetB])
 have ht1:Own encN3 3 35 Y X.heap.size (.slice (some ⟨gt,0,none⟩) 4 4) 4 tetB:=by
  rw [hY]
  exact ht0
 have hz:=hbY.six9
 have hf:=fun k=>hbY.frozen k
 have hgl:=hbY.lt
 rw [hY] at hz hf hgl
 obtain ⟨z0,z1,z2,z3,z4,z5⟩:=(show ((X.alloc (.cells #[.int .i64 0, .int .i64 0, .int .i64 0, .int .i64 16, .int .i64 0, .int .i64 0, .int .i64 0, .int .i64 16, .int .i64 0, .int .i64 0, .int .i64 0, .int .i64 16] 43)).alloc (.cells #[.int .i64 0, .int .i64 2, .int .i64 1, .int .i64 0, .int .i64 1, .int .i64 3, .int .i64 1, .int .i64 2, .int .i64 3, .int .i64 2, .int .i64 0, .int .i64 3] 35)).cell? ⟨g0,0,none⟩=some (.slice none 0 0)∧((X.alloc (.cells #[.int .i64 0, .int .i64 0, .int .i64 0, .int .i64 16, .int .i64 0, .int .i64 0, .int .i64 0, .int .i64 16, .int .i64 0, .int .i64 0, .int .i64 0, .int .i64 16] 43)).alloc (.cells #[.int .i64 0, .int .i64 2, .int .i64 1, .int .i64 0, .int .i64 1, .int .i64 3, .int .i64 1, .int .i64 2, .int .i64 3, .int .i64 2, .int .i64 0, .int .i64 3] 35)).cell? ⟨g0,1,none⟩=some (.slice none 0 0)∧((X.alloc (.cells #[.int .i64 0, .int .i64 0, .int .i64 0, .int .i64 16, .int .i64 0, .int .i64 0, .int .i64 0, .int .i64 16, .int .i64 0, .int .i64 0, .int .i64 0, .int .i64 16] 43)).alloc (.cells #[.int .i64 0, .int .i64 2, .int .i64 1, .int .i64 0, .int .i64 1, .int .i64 3, .int .i64 1, .int .i64 2, .int .i64 3, .int .i64 2, .int .i64 0, .int .i64 3] 35)).cell? ⟨g0,2,none⟩=some (.slice none 0 0)∧((X.alloc (.cells #[.int .i64 0, .int .i64 0, .int .i64 0, .int .i64 16, .int .i64 0, .int .i64 0, .int .i64 0, .int .i64 16, .int .i64 0, .int .i64 0, .int .i64 0, .int .i64 16] 43)).alloc (.cells #[.int .i64 0, .int .i64 2, .int .i64 1, .int .i64 0, .int .i64 1, .int .i64 3, .int .i64 1, .int .i64 2, .int .i64 3, .int .i64 2, .int .i64 0, .int .i64 3] 35)).cell? ⟨g0,3,none⟩=some (.slice none 0 0)∧((X.alloc (.cells #[.int .i64 0, .int .i64 0, .int .i64 0, .int .i64 16, .int .i64 0, .int .i64 0, .int .i64 0, .int .i64 16, .int .i64 0, .int .i64 0, .int .i64 0, .int .i64 16] 43)).alloc (.cells #[.int .i64 0, .int .i64 2, .int .i64 1, .int .i64 0, .int .i64 1, .int .i64 3, .int .i64 1, .int .i64 2, .int .i64 3, .int .i64 2, .int .i64 0, .int .i64 3] 35)).cell? ⟨g0,4,none⟩=some (.int .i64 0)∧((X.alloc (.cells #[.int .i64 0, .int .i64 0, .int .i64 0, .int .i64 16, .int .i64 0, .int .i64 0, .int .i64 0, .int .i64 16, .int .i64 0, .int .i64 0, .int .i64 0, .int .i64 16] 43)).alloc (.cells #[.int .i64 0, .int .i64 2, .int .i64 1, .int .i64 0, .int .i64 1, .int .i64 3, .int .i64 1, .int .i64 2, .int .i64 3, .int .i64 2, .int .i64 0, .int .i64 3] 35)).cell? ⟨g0,5,none⟩=some (.slice none 0 0) from hz)
 have f0:((X.alloc (.cells #[.int .i64 0, .int .i64 0, .int .i64 0, .int .i64 16, .int .i64 0, .int .i64 0, .int .i64 0, .int .i64 16, .int .i64 0, .int .i64 0, .int .i64 0, .int .i64 16] 43)).alloc (.cells #[.int .i64 0, .int .i64 2, .int .i64 1, .int .i64 0, .int .i64 1, .int .i64 3, .int .i64 1, .int .i64 2, .int .i64 3, .int .i64 2, .int .i64 0, .int .i64 3] 35)).frozen? ⟨g0,0,none⟩=false:=hf 0
 have f1:((X.alloc (.cells #[.int .i64 0, .int .i64 0, .int .i64 0, .int .i64 16, .int .i64 0, .int .i64 0, .int .i64 0, .int .i64 16, .int .i64 0, .int .i64 0, .int .i64 0, .int .i64 16] 43)).alloc (.cells #[.int .i64 0, .int .i64 2, .int .i64 1, .int .i64 0, .int .i64 1, .int .i64 3, .int .i64 1, .int .i64 2, .int .i64 3, .int .i64 2, .int .i64 0, .int .i64 3] 35)).frozen? ⟨g0,1,none⟩=false:=hf 1
 have f2:((X.alloc (.cells #[.int .i64 0, .int .i64 0, .int .i64 0, .int .i64 16, .int .i64 0, .int .i64 0, .int .i64 0, .int .i64 16, .int .i64 0, .int .i64 0, .int .i64 0, .int .i64 16] 43)).alloc (.cells #[.int .i64 0, .int .i64 2, .int .i64 1, .int .i64 0, .int .i64 1, .int .i64 3, .int .i64 1, .int .i64 2, .int .i64 3, .int .i64 2, .int .i64 0, .int .i64 3] 35)).frozen? ⟨g0,2,none⟩=false:=hf 2
 have f3:((X.alloc (.cells #[.int .i64 0, .int .i64 0, .int .i64 0, .int .i64 16, .int .i64 0, .int .i64 0, .int .i64 0, .int .i64 16, .int .i64 0, .int .i64 0, .int .i64 0, .int .i64 16] 43)).alloc (.cells #[.int .i64 0, .int .i64 2, .int .i64 1, .int .i64 0, .int .i64 1, .int .i64 3, .int .i64 1, .int .i64 2, .int .i64 3, .int .i64 2, .int .i64 0, .int .i64 3] 35)).frozen? ⟨g0,3,none⟩=false:=hf 3
 have f4:((X.alloc (.cells #[.int .i64 0, .int .i64 0, .int .i64 0, .int .i64 16, .int .i64 0, .int .i64 0, .int .i64 0, .int .i64 16, .int .i64 0, .int .i64 0, .int .i64 0, .int .i64 16] 43)).alloc (.cells #[.int .i64 0, .int .i64 2, .int .i64 1, .int .i64 0, .int .i64 1, .int .i64 3, .int .i64 1, .int .i64 2, .int .i64 3, .int .i64 2, .int .i64 0, .int .i64 3] 35)).frozen? ⟨g0,4,none⟩=false:=hf 4
 have f5:((X.alloc (.cells #[.int .i64 0, .int .i64 0, .int .i64 0, .int .i64 16, .int .i64 0, .int .i64 0, .int .i64 0, .int .i64 16, .int .i64 0, .int .i64 0, .int .i64 0, .int .i64 16] 43)).alloc (.cells #[.int .i64 0, .int .i64 2, .int .i64 1, .int .i64 0, .int .i64 1, .int .i64 3, .int .i64 1, .int .i64 2, .int .i64 3, .int .i64 2, .int .i64 0, .int .i64 3] 35)).frozen? ⟨g0,5,none⟩=false:=hf 5
 have hgl:g0 < ((X.alloc (.cells #[.int .i64 0, .int .i64 0, .int .i64 0, .int .i64 16, .int .i64 0, .int .i64 0, .int .i64 0, .int .i64 16, .int .i64 0, .int .i64 0, .int .i64 0, .int .i64 16] 43)).alloc (.cells #[.int .i64 0, .int .i64 2, .int .i64 1, .int .i64 0, .int .i64 1, .int .i64 3, .int .i64 1, .int .i64 2, .int .i64 3, .int .i64 2, .int .i64 0, .int .i64 3] 35)).heap.size:=hgl
 have hYE:Y=((X.alloc (.cells #[.int .i64 0, .int .i64 0, .int .i64 0, .int .i64 16, .int .i64 0, .int .i64 0, .int .i64 0, .int .i64 16, .int .i64 0, .int .i64 0, .int .i64 0, .int .i64 16] 43)).alloc (.cells #[.int .i64 0, .int .i64 2, .int .i64 1, .int .i64 0, .int .i64 1, .int .i64 3, .int .i64 1, .int .i64 2, .int .i64 3, .int .i64 2, .int .i64 0, .int .i64 3] 35)):=hY
 have HY:=hide (And.intro hbY (And.intro hp1 (And.intro ht1 (And.intro hBX (And.intro hBY (And.intro (show w.heap.size≤g0 by omega) hYE))))))
 clear hb0 hBX hBY hbY hp0 hp1 ht0 ht1 hX hg0 hY hYE hz hf
 go_wp2
 have hgt2:gt=gp+1:=by omega
 rw [←HY.out.2.2.2.2.2.2,←hgp,←hgt2]
 have hE:=(((((HY.out.1.set_ 0 (.slice (some ⟨gp,0,none⟩) 4 4)).set_ 1 (.slice (some ⟨gt,0,none⟩) 4 4)).set_ 2 (.slice none 0 0)).set_ 3 (.slice none 0 0)).set_ 4 (.int .i64 1)).set_ 5 (.slice none 0 0)
 refine ret_at (v:=vCtl (some ⟨gp,0,none⟩) 4 4 (some ⟨gt,0,none⟩) 4 4 none 0 0 none 0 0 1 none 0 0) (fun W=>Blk W g0 32 (cCtl (some ⟨gp,0,none⟩) 4 4 (some ⟨gt,0,none⟩) 4 4 none 0 0 none 0 0 1 none 0 0)) hE (fun W hW=> ?_) rfl ⟨_,_,rfl,?_,?_⟩
 ·obtain ⟨a0,a1,a2,a3,a4,a5⟩:=hW.six9
  simp [results,Tryz.results35,go_sem,a0,a1,a2,a3,a4,a5]
  try trivial
 ·have hP:=HY.out.2.1
  have hT:=HY.out.2.2.1
  have hg:=(((((grown_set9 Y g0 0 (.slice (some ⟨gp,0,none⟩) 4 4)).trans (grown_set9 _ g0 1 (.slice (some ⟨gt,0,none⟩) 4 4))).trans (grown_set9 _ g0 2 (.slice none 0 0))).trans (grown_set9 _ g0 3 (.slice none 0 0))).trans (grown_set9 _ g0 4 (.int .i64 1))).trans (grown_set9 _ g0 5 (.slice none 0 0))
  exact ⟨(hP.kept hg (.inr (blk_own_ne9 HY.out.1 hP (show (43:TypeId)≠32 by decide)).symm)).sl encP_len (Nat.le_refl _),(hT.kept hg (.inr (blk_own_ne9 HY.out.1 hT (show (35:TypeId)≠32 by decide)).symm)).sl encN3_len (Nat.le_refl _), .inl ⟨rfl,rfl⟩, .inl ⟨rfl,rfl⟩,⟨[], .inl ⟨rfl,rfl⟩,rfl,fun i d h=>by simp [tetC] at h⟩⟩
 ·have h:=HY.out.2.2.2.1.trans (HY.out.2.2.2.2.1.mono HY.out.2.2.2.1.size)
  have hl:=HY.out.2.2.2.2.2.1
  exact (((((h.setCell (p:=⟨g0,0,none⟩) hl _).setCell (p:=⟨g0,1,none⟩) hl _).setCell (p:=⟨g0,2,none⟩) hl _).setCell (p:=⟨g0,3,none⟩) hl _).setCell (p:=⟨g0,4,none⟩) hl _).setCell (p:=⟨g0,5,none⟩) hl _
end Go.Proofs.YtmemofonebphfaaGreat
namespace Go.Proofs.YtmemofonebphfaaGreat
open Go.RowKit Go.Sort Go.WideMaps Go.Maps Go.Shelf
theorem sl_of_blk {α:Type} {enc:α→List Value} {k:Nat} (hk:∀x,(enc x).length=k) {w:World} {g:Nat} {t:TypeId} {xs:List α} {cs:Array Value} (hb:Blk w g t cs) (hcs:cs=(xs.flatMap enc).toArray):Sl enc k w w.heap.size (some ⟨g,0,none⟩) xs:=by
 refine .inr ⟨g,0,rfl,hb.lt,fun i x hx j u hu=> ?_⟩
 have h:=flat_get hk xs i x hx j u hu
 rw [hb.cell,hcs,List.getElem?_toArray,show 0+i*k+j=i*k+j by omega]
 exact h
theorem tet_small (cr:List E2) (ds:List (List Pt)) (h1:cr.length≤10) (h2:ds.length≤10) (h3:∀d∈ds,d.length≤10):CtlB (tetC cr ds):=⟨(by decide:4≤100000),(by decide:4≤100000),Nat.le_trans h1 (by decide),(by decide:0≤100000),Nat.le_trans h2 (by decide),fun d hd=>Nat.le_trans (h3 d hd) (by decide)⟩
def HldC (W:World) (g:Nat) (cs:Array Value) (Ap At Ac Ad:Option Addr) (c:Ctl):Prop:=Blk W g 32 cs∧CtlM W W.heap.size Ap At Ac none Ad c
theorem HldC.below {W W':World} {g:Nat} {cs:Array Value} {Ap At Ac Ad:Option Addr} {c:Ctl} (h:HldC W g cs Ap At Ac Ad c) (hB:Below W.heap.size W W'):HldC W' g cs Ap At Ac Ad c:=⟨h.1.below hB h.1.lt,h.2.below hB hB.size⟩
set_option maxRecDepth 100000 in
set_option maxHeartbeats 64000000 in
theorem sanity9_any (w:World):Calls Tryz.prog 13 #[] w fun e w'=>e= .returned (.bool true)∧Below w.heap.size w w':=by
 go_enter Tryz.func13,Tryz.ntmps13
 have HB1:=hide (Below.refl w.heap.size w)
 go_upto_region 2 with (go_at_call 35;refine (tetra_any _).mono ?_;rintro e W1 ⟨Ap1,At1,rfl,hm1,hB⟩;have HW1:=hide (And.intro hm1 hB);clear hm1 hB)
 obtain ⟨g1,hg1⟩:∃n,n=W1.heap.size:=⟨_,rfl⟩
 obtain ⟨X2,hX2⟩:∃W,W=W1.alloc (.cells (cCtl Ap1 4 4 At1 4 4 none 0 0 none 0 0 1 none 0 0) 32):=⟨_,rfl⟩
 have hb1:Blk X2 g1 32 (cCtl Ap1 4 4 At1 4 4 none 0 0 none 0 0 1 none 0 0):=by rw [hX2,hg1];exact Blk.new _ _ _
 have hBa:Below W1.heap.size W1 X2:=by rw [hX2];exact (Below.refl _ _).alloc (Nat.le_refl _) _
 rw [←hX2,←hg1]
 have HA:=hide (And.intro (show HldC X2 g1 (cCtl Ap1 4 4 At1 4 4 none 0 0 none 0 0 1 none 0 0) Ap1 At1 none none (tetC [] []) from ⟨hb1,HW1.out.1.below hBa hBa.size⟩) (HW1.out.2.trans (hBa.mono HW1.out.2.size)))
 clear hb1 hBa hX2 hg1 HW1 HB1
 go_upto_region 3 with (go_at_call 35;refine (tetra_any _).mono ?_;rintro e W2 ⟨Ap2,At2,rfl,hm2,hB⟩;have HW2:=hide (And.intro hm2 hB);clear hm2 hB)
 obtain ⟨g2,hg2⟩:∃n,n=W2.heap.size:=⟨_,rfl⟩
 obtain ⟨Z2,hZ2⟩:∃W,W=W2.alloc (.cells (cCtl Ap2 4 4 At2 4 4 none 0 0 none 0 0 1 none 0 0) 32):=⟨_,rfl⟩
 have hb2:Blk Z2 g2 32 (cCtl Ap2 4 4 At2 4 4 none 0 0 none 0 0 1 none 0 0):=by rw [hZ2,hg2];exact Blk.new _ _ _
 have hBa:Below W2.heap.size W2 Z2:=by rw [hZ2];exact (Below.refl _ _).alloc (Nat.le_refl _) _
 rw [←hZ2,←hg2]
 obtain ⟨gs2,hgs2⟩:∃n,n=Z2.heap.size:=⟨_,rfl⟩
 have hbl:Below Z2.heap.size Z2 (Z2.alloc (.cells #[.int .i64 0, .int .i64 1] 56)):=((Below.refl _ _).alloc (Nat.le_refl _) _)
 have hbb:=hb2.below hbl hb2.lt
 have hsb:Blk (Z2.alloc (.cells #[.int .i64 0, .int .i64 1] 56)) gs2 56 #[.int .i64 0, .int .i64 1]:=by rw [hgs2];exact Blk.new _ _ _
 have hne:gs2≠g2:=by have:=hb2.lt;omega
 have zz:(Z2.alloc (.cells #[.int .i64 0, .int .i64 1] 56)).cell? ⟨g2,2,none⟩=some (.slice none 0 0):=hbb.cell 2
 have ff:=hbb.frozen 2
 have gl:=hbb.lt
 have HZ2:=hide (And.intro hbb (And.intro hsb (And.intro hne (And.intro hBa (And.intro hbl (And.intro (And.intro hg2 hgs2) trivial))))))
 clear hbb hsb hne hBa hbl hb2 hZ2 hg2 hgs2
 go_upto_region 4 with fail
 clear zz ff gl
 rw [←HZ2.out.2.2.2.2.2.1.2]
 obtain ⟨X3,hX3⟩:∃W,W=(Z2.alloc (.cells #[.int .i64 0, .int .i64 1] 56)).setCell ⟨g2,2,none⟩ (.slice (some ⟨gs2,0,none⟩) 1 1):=⟨_,rfl⟩
 rw [←hX3]
 have hgz:W2.heap.size≤g2:=by rw [HZ2.out.2.2.2.2.2.1.1];exact Nat.le_refl _
 have hBW:Below W2.heap.size W2 X3:=by
  rw [hX3]
  exact (HZ2.out.2.2.2.1.trans (HZ2.out.2.2.2.2.1.mono HZ2.out.2.2.2.1.size)).setCell (p:=⟨g2,2,none⟩) hgz _
 have hbN:Blk X3 g2 32 (cCtl Ap2 4 4 At2 4 4 (some ⟨gs2,0,none⟩) 1 1 none 0 0 1 none 0 0):=by rw [hX3];exact HZ2.out.1.set_ 2 _
 have hsN:Blk X3 gs2 56 #[.int .i64 0, .int .i64 1]:=by rw [hX3];exact HZ2.out.2.1.far (p:=⟨g2,2,none⟩) HZ2.out.2.2.1 _
 have hmN:CtlM X3 X3.heap.size Ap2 At2 (some ⟨gs2,0,none⟩) none none (tetC [(0,1)] []):=
  ⟨(HW2.out.1.p.below hBW).more hBW.size,(HW2.out.1.t.below hBW).more hBW.size,sl_of_blk encE2_len hsN rfl, .inl ⟨rfl,rfl⟩,⟨[], .inl ⟨rfl,rfl⟩,rfl,fun i d h=>by simp [tetC] at h⟩⟩
 have H2:=hide (And.intro (show HldC X3 g2 (cCtl Ap2 4 4 At2 4 4 (some ⟨gs2,0,none⟩) 1 1 none 0 0 1 none 0 0) Ap2 At2 (some ⟨gs2,0,none⟩) none (tetC [(0,1)] []) from ⟨hbN,hmN⟩) (HW2.out.2.trans (hBW.mono HW2.out.2.size)))
 clear hBW hbN hsN hmN hgz hX3 HZ2 HW2
 go_upto_region 5 with (go_at_call 35;refine (tetra_any _).mono ?_;rintro e W3 ⟨Ap3,At3,rfl,hm3,hB⟩;have HW3:=hide (And.intro hm3 hB);clear hm3 hB)
 obtain ⟨g3,hg3⟩:∃n,n=W3.heap.size:=⟨_,rfl⟩
 obtain ⟨Z3,hZ3⟩:∃W,W=W3.alloc (.cells (cCtl Ap3 4 4 At3 4 4 none 0 0 none 0 0 1 none 0 0) 32):=⟨_,rfl⟩
 have hb3:Blk Z3 g3 32 (cCtl Ap3 4 4 At3 4 4 none 0 0 none 0 0 1 none 0 0):=by rw [hZ3,hg3];exact Blk.new _ _ _
 have hBa:Below W3.heap.size W3 Z3:=by rw [hZ3];exact (Below.refl _ _).alloc (Nat.le_refl _) _
 rw [←hZ3,←hg3]
 obtain ⟨gs3,hgs3⟩:∃n,n=Z3.heap.size:=⟨_,rfl⟩
 have hbl:Below Z3.heap.size Z3 (Z3.alloc (.cells #[.int .i64 0, .int .i64 1, .int .i64 2, .int .i64 1] 56)):=((Below.refl _ _).alloc (Nat.le_refl _) _)
 have hbb:=hb3.below hbl hb3.lt
 have hsb:Blk (Z3.alloc (.cells #[.int .i64 0, .int .i64 1, .int .i64 2, .int .i64 1] 56)) gs3 56 #[.int .i64 0, .int .i64 1, .int .i64 2, .int .i64 1]:=by rw [hgs3];exact Blk.new _ _ _
 have hne:gs3≠g3:=by have:=hb3.lt;omega
 have zz:(Z3.alloc (.cells #[.int .i64 0, .int .i64 1, .int .i64 2, .int .i64 1] 56)).cell? ⟨g3,2,none⟩=some (.slice none 0 0):=hbb.cell 2
 have ff:=hbb.frozen 2
 have gl:=hbb.lt
 have HZ3:=hide (And.intro hbb (And.intro hsb (And.intro hne (And.intro hBa (And.intro hbl (And.intro (And.intro hg3 hgs3) trivial))))))
 clear hbb hsb hne hBa hbl hb3 hZ3 hg3 hgs3
 go_upto_region 6 with fail
 clear zz ff gl
 rw [←HZ3.out.2.2.2.2.2.1.2]
 obtain ⟨X4,hX4⟩:∃W,W=(Z3.alloc (.cells #[.int .i64 0, .int .i64 1, .int .i64 2, .int .i64 1] 56)).setCell ⟨g3,2,none⟩ (.slice (some ⟨gs3,0,none⟩) 2 2):=⟨_,rfl⟩
 rw [←hX4]
 have hgz:W3.heap.size≤g3:=by rw [HZ3.out.2.2.2.2.2.1.1];exact Nat.le_refl _
 have hBW:Below W3.heap.size W3 X4:=by
  rw [hX4]
  exact (HZ3.out.2.2.2.1.trans (HZ3.out.2.2.2.2.1.mono HZ3.out.2.2.2.1.size)).setCell (p:=⟨g3,2,none⟩) hgz _
 have hbN:Blk X4 g3 32 (cCtl Ap3 4 4 At3 4 4 (some ⟨gs3,0,none⟩) 2 2 none 0 0 1 none 0 0):=by rw [hX4];exact HZ3.out.1.set_ 2 _
 have hsN:Blk X4 gs3 56 #[.int .i64 0, .int .i64 1, .int .i64 2, .int .i64 1]:=by rw [hX4];exact HZ3.out.2.1.far (p:=⟨g3,2,none⟩) HZ3.out.2.2.1 _
 have hmN:CtlM X4 X4.heap.size Ap3 At3 (some ⟨gs3,0,none⟩) none none (tetC [(0,1),(2,1)] []):=
  ⟨(HW3.out.1.p.below hBW).more hBW.size,(HW3.out.1.t.below hBW).more hBW.size,sl_of_blk encE2_len hsN rfl, .inl ⟨rfl,rfl⟩,⟨[], .inl ⟨rfl,rfl⟩,rfl,fun i d h=>by simp [tetC] at h⟩⟩
 have H3:=hide (And.intro (show HldC X4 g3 (cCtl Ap3 4 4 At3 4 4 (some ⟨gs3,0,none⟩) 2 2 none 0 0 1 none 0 0) Ap3 At3 (some ⟨gs3,0,none⟩) none (tetC [(0,1),(2,1)] []) from ⟨hbN,hmN⟩) (HW3.out.2.trans (hBW.mono HW3.out.2.size)))
 clear hBW hbN hsN hmN hgz hX4 HZ3 HW3
 go_upto_region 7 with (go_at_call 35;refine (tetra_any _).mono ?_;rintro e W4 ⟨Ap4,At4,rfl,hm4,hB⟩;have HW4:=hide (And.intro hm4 hB);clear hm4 hB)
 obtain ⟨g4,hg4⟩:∃n,n=W4.heap.size:=⟨_,rfl⟩
 obtain ⟨Z4,hZ4⟩:∃W,W=W4.alloc (.cells (cCtl Ap4 4 4 At4 4 4 none 0 0 none 0 0 1 none 0 0) 32):=⟨_,rfl⟩
 have hb4:Blk Z4 g4 32 (cCtl Ap4 4 4 At4 4 4 none 0 0 none 0 0 1 none 0 0):=by rw [hZ4,hg4];exact Blk.new _ _ _
 have hBa:Below W4.heap.size W4 Z4:=by rw [hZ4];exact (Below.refl _ _).alloc (Nat.le_refl _) _
 rw [←hZ4,←hg4]
 obtain ⟨gp4,hgp4⟩:∃n,n=Z4.heap.size:=⟨_,rfl⟩
 obtain ⟨gs4,hgs4⟩:∃n,n=Z4.heap.size+1:=⟨_,rfl⟩
 have hbl:Below Z4.heap.size Z4 ((Z4.alloc (.cells #[.int .i64 1, .int .i64 2, .int .i64 3] 43)).alloc (.cells #[.slice (some ⟨Z4.heap.size,0,none⟩) 1 1] 28)):=((Below.refl _ _).alloc (Nat.le_refl _) _).alloc (by simp) _
 have hbb:=hb4.below hbl hb4.lt
 have hpb:Blk ((Z4.alloc (.cells #[.int .i64 1, .int .i64 2, .int .i64 3] 43)).alloc (.cells #[.slice (some ⟨Z4.heap.size,0,none⟩) 1 1] 28)) gp4 43 #[.int .i64 1, .int .i64 2, .int .i64 3]:=by rw [hgp4];exact (Blk.new _ _ _).alloc _
 have hsb:Blk ((Z4.alloc (.cells #[.int .i64 1, .int .i64 2, .int .i64 3] 43)).alloc (.cells #[.slice (some ⟨Z4.heap.size,0,none⟩) 1 1] 28)) gs4 28 #[.slice (some ⟨gp4,0,none⟩) 1 1]:=by rw [hgs4,hgp4];exact Blk.new' _ _ _ _ (by simp)
 have hne:gs4≠g4:=by have:=hb4.lt;omega
 have hne2:gp4≠g4:=by have:=hb4.lt;omega
 have zz:((Z4.alloc (.cells #[.int .i64 1, .int .i64 2, .int .i64 3] 43)).alloc (.cells #[.slice (some ⟨Z4.heap.size,0,none⟩) 1 1] 28)).cell? ⟨g4,5,none⟩=some (.slice none 0 0):=hbb.cell 5
 have ff:=hbb.frozen 5
 have gl:=hbb.lt
 have HZ4:=hide (And.intro hbb (And.intro hsb (And.intro hne (And.intro hBa (And.intro hbl (And.intro (And.intro hg4 hgs4) (And.intro hpb hne2)))))))
 clear hbb hsb hne hBa hbl hb4 hZ4 hg4 hgs4 hpb hne2 hgp4
 go_upto_region 8 with fail
 clear zz ff gl
 rw [←HZ4.out.2.2.2.2.2.1.2]
 obtain ⟨X5,hX5⟩:∃W,W=((Z4.alloc (.cells #[.int .i64 1, .int .i64 2, .int .i64 3] 43)).alloc (.cells #[.slice (some ⟨Z4.heap.size,0,none⟩) 1 1] 28)).setCell ⟨g4,5,none⟩ (.slice (some ⟨gs4,0,none⟩) 1 1):=⟨_,rfl⟩
 rw [←hX5]
 have hgz:W4.heap.size≤g4:=by rw [HZ4.out.2.2.2.2.2.1.1];exact Nat.le_refl _
 have hBW:Below W4.heap.size W4 X5:=by
  rw [hX5]
  exact (HZ4.out.2.2.2.1.trans (HZ4.out.2.2.2.2.1.mono HZ4.out.2.2.2.1.size)).setCell (p:=⟨g4,5,none⟩) hgz _
 have hbN:Blk X5 g4 32 (cCtl Ap4 4 4 At4 4 4 none 0 0 none 0 0 1 (some ⟨gs4,0,none⟩) 1 1):=by rw [hX5];exact HZ4.out.1.set_ 5 _
 have hsN:Blk X5 gs4 28 #[.slice (some ⟨gp4,0,none⟩) 1 1]:=by rw [hX5];exact HZ4.out.2.1.far (p:=⟨g4,5,none⟩) HZ4.out.2.2.1 _
 have hpN:Blk X5 gp4 43 #[.int .i64 1, .int .i64 2, .int .i64 3]:=by rw [hX5];exact HZ4.out.2.2.2.2.2.2.1.far (p:=⟨g4,5,none⟩) HZ4.out.2.2.2.2.2.2.2 _
 have hmN:CtlM X5 X5.heap.size Ap4 At4 none none (some ⟨gs4,0,none⟩) (tetC [] [[(1,2,3)]]):=
  ⟨(HW4.out.1.p.below hBW).more hBW.size,(HW4.out.1.t.below hBW).more hBW.size, .inl ⟨rfl,rfl⟩, .inl ⟨rfl,rfl⟩,⟨[(some ⟨gp4,0,none⟩,1,1)],sl_of_blk (enc:=encS) (k:=1) (fun _=>rfl) hsN rfl,rfl,fun i d h=>by
   match i,h with
   | 0,h=>
    obtain rfl: [((1:Int),(2:Int),(3:Int))]=d:=by simpa [tetC] using h
    exact ⟨_,_,rfl,sl_of_blk encP_len hpN rfl⟩
   | i+1,h=>simp [tetC] at h⟩⟩
 have H4:=hide (And.intro (show HldC X5 g4 (cCtl Ap4 4 4 At4 4 4 none 0 0 none 0 0 1 (some ⟨gs4,0,none⟩) 1 1) Ap4 At4 none (some ⟨gs4,0,none⟩) (tetC [] [[(1,2,3)]]) from ⟨hbN,hmN⟩) (HW4.out.2.trans (hBW.mono HW4.out.2.size)))
 clear hBW hbN hsN hmN hgz hX5 HZ4 HW4 hpN
 have hB45:=H4.out.2
 have hB34:=H3.out.2
 have hB23:=H2.out.2
 have hB35:=hB34.trans (hB45.mono hB34.size)
 have hB25:=hB23.trans (hB35.mono hB23.size)
 have hBw:=HA.out.2.trans (hB25.mono HA.out.2.size)
 have kA:=HA.out.1.below hB25
 have kB:=H2.out.1.below hB35
 have kC:=H3.out.1.below hB45
 have HF:=hide (And.intro kA (And.intro kB (And.intro kC (And.intro H4.out.1 hBw))))
 clear hB45 hB34 hB23 hB35 hB25 hBw kA kB kC HA H2 H3 H4
 obtain ⟨a0,a1,a2,a3,a4,a5⟩:=HF.out.1.1.six9
 have hga:=HF.out.1.1.lt
 have ks:=subdiv_any Ap1 At1 none none none 4 4 0 0 0 (tetC [] []) X5 HF.out.1.2 (tet_small _ _ (by decide) (by decide) (fun d hd=>by cases hd)) (by unfold fits;decide) (fun _=>tet_back _ _)
 rw [errS_a] at ks
 have HS:=hide ks
 clear ks
 go_upto_region 9 with (go_at_call 27;refine HS.out.mono ?_;rintro e Y ⟨A9,n9,c9,rfl,_,hBY⟩;have HY:=hide hBY;clear hBY)
 clear a0 a1 a2 a3 a4 a5 hga
 have kA:=HF.out.1.below HY.out
 have kB:=HF.out.2.1.below HY.out
 have kC:=HF.out.2.2.1.below HY.out
 have kD:=HF.out.2.2.2.1.below HY.out
 have nA:=fun (W:World) (hW:Below Y.heap.size Y W)=>new4_any Ap1 At1 none none none 4 4 0 0 0 (tetC [] []) (128,0,0) W (kA.2.below hW hW.size) (tet_small _ _ (by decide) (by decide) (fun d hd=>by cases hd)) (by unfold fits;decide) (tet_back _ _) err_a new_a.1 new_a.2
 have nB:=fun (W:World) (hW:Below Y.heap.size Y W)=>new4_any Ap2 At2 (some ⟨gs2,0,none⟩) none none 4 4 1 0 0 (tetC [(0,1)] []) (128,0,0) W (kB.2.below hW hW.size) (tet_small _ _ (by decide) (by decide) (fun d hd=>by cases hd)) (by unfold fits;decide) (tet_back _ _) err_b new_b.1 new_b.2
 have nC:=fun (W:World) (hW:Below Y.heap.size Y W)=>new4_any Ap3 At3 (some ⟨gs3,0,none⟩) none none 4 4 2 0 0 (tetC [(0,1),(2,1)] []) (144,-16,0) W (kC.2.below hW hW.size) (tet_small _ _ (by decide) (by decide) (fun d hd=>by cases hd)) (by unfold fits;decide) (tet_back _ _) err_c new_c.1 new_c.2
 have nD:=fun (W:World) (hW:Below Y.heap.size Y W)=>new4_any Ap4 At4 none none (some ⟨gs4,0,none⟩) 4 4 0 0 1 (tetC [] [[(1,2,3)]]) (129,2,3) W (kD.2.below hW hW.size) (tet_small _ _ (by decide) (by decide) (by decide)) (by unfold fits;decide) (tet_back _ _) err_d new_d.1 new_d.2
 have HG:=hide (And.intro kA.1 (And.intro kB.1 (And.intro kC.1 (And.intro kD.1 (HF.out.2.2.2.2.trans (HY.out.mono HF.out.2.2.2.2.size))))))
 have HNN:=hide (And.intro nA (And.intro nB (And.intro nC nD)))
 clear kA kB kC kD nA nB nC nD HS HY HF
 obtain ⟨a0,a1,a2,a3,a4,a5⟩:=HG.out.1.six9
 have hga:=HG.out.1.lt
 go_wp2_with fail
 refine (HNN.out.1 Y (Below.refl _ Y)).mono ?_
 rintro e V1 ⟨rfl,hB1⟩
 have HV1:=hide hB1
 clear hB1 a0 a1 a2 a3 a4 a5 hga
 obtain ⟨b0,b1,b2,b3,b4,b5⟩:=(HG.out.2.1.below HV1.out HG.out.2.1.lt).six9
 have hgb:=(HG.out.2.1.below HV1.out HG.out.2.1.lt).lt
 go_wp2_with fail
 refine (HNN.out.2.1 V1 HV1.out).mono ?_
 rintro e V2 ⟨rfl,hB1⟩
 have HV2:=hide (HV1.out.trans (hB1.mono HV1.out.size))
 clear hB1 b0 b1 b2 b3 b4 b5 hgb
 obtain ⟨b0,b1,b2,b3,b4,b5⟩:=(HG.out.2.2.1.below HV2.out HG.out.2.2.1.lt).six9
 have hgb:=(HG.out.2.2.1.below HV2.out HG.out.2.2.1.lt).lt
 go_wp2_with fail
 refine (HNN.out.2.2.1 V2 HV2.out).mono ?_
 rintro e V3 ⟨rfl,hB1⟩
 have HV3:=hide (HV2.out.trans (hB1.mono HV2.out.size))
 clear hB1 b0 b1 b2 b3 b4 b5 hgb
 obtain ⟨b0,b1,b2,b3,b4,b5⟩:=(HG.out.2.2.2.1.below HV3.out HG.out.2.2.2.1.lt).six9
 have hgb:=(HG.out.2.2.2.1.below HV3.out HG.out.2.2.2.1.lt).lt
 go_wp2_with fail
 refine (HNN.out.2.2.2 V3 HV3.out).mono ?_
 rintro e V4 ⟨rfl,hB1⟩
 have HV4:=hide (HV3.out.trans (hB1.mono HV3.out.size))
 clear hB1 b0 b1 b2 b3 b4 b5 hgb
 go_wp2
 go_ret
 exact ⟨rfl,HG.out.2.2.2.2.trans (HV4.out.mono HG.out.2.2.2.2.size)⟩
end Go.Proofs.YtmemofonebphfaaGreat
