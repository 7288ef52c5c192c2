import Derived.Test.YtmemofonebphfaaGreatZ26
import Derived.Test.YtmemofonebphfaaGreatZ27
namespace Go.Proofs.YtmemofonebphfaaGreat
open Go.RowKit Go.Sort Go.WideMaps Go.Maps
set_option maxRecDepth 100000
def NxtM (w:World) (b n:Nat) (nx:Ed→Option Pt):Prop:=MapK Tryz.prog 147 vE vF w b n fun e=>(nx e).map vP
def CntM (w:World) (b n:Nat) (ct:Pt→Nat):Prop:=∃m,MapK Tryz.prog 43 vP yJ w b n m∧∀p,(m p).getD (.int .i64 0)= .int .i64 (ct p:Nat)
theorem NxtM.made (w:World):NxtM (w.alloc (.map #[] 0)) w.heap.size 0 fun _=>none:=MapK.made Tryz.prog 147 vE vF w
theorem CntM.made (w:World):CntM (w.alloc (.map #[] 0)) w.heap.size 0 fun _=>0:=⟨_,MapK.made Tryz.prog 43 vP yJ w,fun _=>rfl⟩
theorem CntM.lt {w:World} {b n:Nat} {ct:Pt→Nat} (h:CntM w b n ct):b < w.heap.size:=by
 obtain ⟨m,h1,_⟩:=h
 exact h1.lt
theorem CntM.below {w w':World} {b n B:Nat} {ct:Pt→Nat} (h:CntM w b n ct) (hb:Below B w w') (hB:b < B):CntM w' b n ct:=by
 obtain ⟨m,h1,h2⟩:=h
 exact ⟨m,h1.below hb hB,h2⟩
theorem CntM.kept {w w':World} {b n:Nat} {ct:Pt→Nat} {row:Option Nat} (h:CntM w b n ct) (hg:w.grownBy w' row) (hne:some b≠row):CntM w' b n ct:=by
 obtain ⟨m,h1,h2⟩:=h
 exact ⟨m,h1.kept hg hne,h2⟩
theorem CntM.same {w:World} {b n:Nat} {ct ct':Pt→Nat} (h:CntM w b n ct) (he:∀p,ct p=ct' p):CntM w b n ct':=by
 have:ct=ct':=funext he
 exact this▸h
theorem CntM.look {w:World} {b n:Nat} {ct:Pt→Nat} (h:CntM w b n ct) (p:Pt) (hp:yJ p):(Instr.lookup 95 (.map (some b)) (vP p) false).run Tryz.prog w= .ok (.int .i64 (ct p:Nat)) w:=by
 obtain ⟨m,h1,h2⟩:=h
 have:=h1.lookup kfP4 (t:=95) (e:=3) Tryz.underlying95 (z:= .int .i64 0) rfl p hp
 rw [h2] at this
 exact this
theorem NxtM.look {w:World} {b n:Nat} {nx:Ed→Option Pt} (h:NxtM w b n nx) (e:Ed) (he:vF e):(Instr.lookup 152 (.map (some b)) (vE e) false).run Tryz.prog w= .ok (vP ((nx e).getD (0,0,0))) w:=by
 have:=MapK.lookup kfE4 (t:=152) (e:=43) h Tryz.underlying152 (z:=vP (0,0,0)) rfl e he
 rw [this]
 cases nx e <;>rfl
theorem NxtM.look_ok {w:World} {b n:Nat} {nx:Ed→Option Pt} (h:NxtM w b n nx) (e:Ed) (he:vF e):(Instr.lookup 152 (.map (some b)) (vE e) true).run Tryz.prog w= .ok (.tuple #[vP ((nx e).getD (0,0,0)), .bool (nx e).isSome]) w:=by
 have:=MapK.lookup_ok kfE4 (t:=152) (e:=43) h Tryz.underlying152 (z:=vP (0,0,0)) rfl e he
 rw [this]
 cases nx e <;>rfl
theorem NxtM.put {w:World} {b n:Nat} {nx:Ed→Option Pt} (h:NxtM w b n nx) (hn:n < maxLen) (e:Ed) (he:vF e) (x:Pt):
  ∃w',(Instr.mapUpdate 152 (.map (some b)) (vE e) (vP x)).run Tryz.prog w= .ok () w'∧NxtM w' b (n+1) (updE nx e x)∧w.grownBy w' (some b)∧w'.heap.size=w.heap.size:=by
 obtain ⟨w',h1,h2,h3,h4⟩:=MapK.update kfE4 (t:=152) (e:=43) h Tryz.underlying152 hn e he (vP x)
 refine ⟨w',h1,h2.same fun q=> ?_,h3,h4⟩
 unfold updE
 by_cases hq:q=e
 ·rw [if_pos hq,if_pos hq];rfl
 ·rw [if_neg hq,if_neg hq]
theorem CntM.inc {w:World} {b n:Nat} {ct:Pt→Nat} (h:CntM w b n ct) (hn:n < maxLen) (p:Pt) (hp:yJ p):
  ∃(st:Nat) (w1:World),(Instr.mapEntry 95 (.map (some b)) (vP p)).run Tryz.prog w= .ok (.tuple #[.int .i64 (ct p:Nat),goInt st]) w1∧w.grownBy w1 (some b)∧w1.heap.size=w.heap.size∧CntM w1 b (n+1) ct∧
   ∀w2:World,w2.heap[b]? =w1.heap[b]? →∃w3,(Instr.entryStore 95 (.map (some b)) (goInt st) (.int .i64 ((ct p+1:Nat):Int))).run Tryz.prog w2= .ok () w3∧CntM w3 b (n+1) (fun q=>if q=p then ct p+1 else ct q)∧w2.grownBy w3 (some b)∧w3.heap.size=w2.heap.size:=by
 obtain ⟨m,h1,h2⟩:=h
 obtain ⟨st,w1,hrun,hg1,hz1,hM1,_,hst⟩:=h1.entry4 kfP4 zOX (t:=95) (e:=3) Tryz.underlying95 (z:= .int .i64 0) (fun _=>rfl) hn p hp
 rw [h2] at hrun hM1
 refine ⟨st,w1,hrun,hg1,hz1,⟨_,hM1,fun q=> ?_⟩,fun w2 hw2=> ?_⟩
 ·by_cases hq:q=p
  ·subst hq;rw [if_pos rfl];rfl
  ·rw [if_neg hq];exact h2 q
 ·obtain ⟨w3,a,b',c,d⟩:=hst w2 (.int .i64 ((ct p+1:Nat):Int)) hw2
  refine ⟨w3,a,⟨_,b',fun q=> ?_⟩,c,d⟩
  show (if q=p then some (Value.int .i64 ((ct p+1:Nat):Int)) else m q).getD _= .int .i64 ((if q=p then ct p+1 else ct q:Nat):Int)
  by_cases hq:q=p
  ·rw [if_pos hq,if_pos hq];rfl
  ·rw [if_neg hq,if_neg hq];exact h2 q
theorem zI7 (t:Tri) (p:Pt) (j:Nat):cntJ t p j≤j:=by
 induction j with
 | zero=>exact Nat.le_refl _
 | succ j ih=>rw [zCY];split <;>omega
theorem zKE (l:List Tri) (p:Pt):cntC l p≤3*l.length:=by
 unfold cntC pinL
 induction l with
 | nil=>exact Nat.le_refl _
 | cons t l ih=>
  rw [List.flatMap_cons,List.length_append,List.length_cons]
  have:(pinN t p 3).length≤3:=zI7 t p 3
  omega
theorem zLA {t:Tri} (h:fitsT t) (j:Nat):vF (edJ t j):=⟨qZ h _,qZ h _⟩
theorem zDT (b:Pt→Option Pt) (s:Pt) (m f size:Nat) (a:Pt) (h:a=s∨m < size):prgO b s m f size a=(decide (a=s) && decide (size < m)):=by
 cases f with
 | zero=>rfl
 | succ f=>unfold prgO;rw [if_pos h]
theorem zJX (b:Pt→Option Pt) (s:Pt) (m f size:Nat) (a:Pt) (h:a≠s) (hb:b a=none):prgO b s m f size a=(decide (a=s) && decide (size < m)):=by
 cases f with
 | zero=>rfl
 | succ f=>
  rw [decide_eq_false h,Bool.false_and]
  unfold prgO
  rw [hb]
  split
  ·rw [decide_eq_false h,Bool.false_and]
  ·rfl
theorem zIP (b:Pt→Option Pt) (s:Pt) (m f size:Nat) (a x:Pt) (h:a≠s) (hm:size≤m) (hb:b a=some x):prgO b s m (f+1) size a=prgO b s m f (size+1) x:=by
 conv=>lhs;unfold prgO
 rw [hb,if_neg (by rintro (h1 | h1);exact h h1;omega)]
structure PinS (w0 w:World) (nb cb n1 n2:Nat) (nx:Ed→Option Pt) (ct:Pt→Nat):Prop where
 nxt:NxtM w nb n1 nx
 cnt:CntM w cb n2 ct
 bel:Below w0.heap.size w0 w
theorem PinS.step {w0 w w':World} {nb cb n1 n2:Nat} {nx:Ed→Option Pt} {ct:Pt→Nat} (h:PinS w0 w nb cb n1 n2 nx ct) (hb:Below w.heap.size w w'):PinS w0 w' nb cb n1 n2 nx ct:=
 ⟨h.nxt.below hb h.nxt.lt,h.cnt.below hb h.cnt.lt,h.bel.trans (hb.mono h.bel.size)⟩
end Go.Proofs.YtmemofonebphfaaGreat
namespace Go.Proofs.YtmemofonebphfaaGreat
open Go.RowKit Go.Sort Go.WideMaps Go.Maps
set_option maxRecDepth 100000
set_option maxHeartbeats 32000000 in
theorem zD3 (A:Option Addr) (c:Nat) (ts:List Tri) (w:World) (hs:Sl encT 9 w w.heap.size A ts) (hl:ts.length≤100000000) (hf:∀t∈ts,fitsT t) (hnd:(zK ts).Nodup):
  Calls Tryz.prog 81 #[.slice A ts.length c] w fun e w'=>e= .returned (.bool ((zK ts).any (wK ts)))∧Below w.heap.size w w':=by
 have hmm:=@run_makeMap Tryz.prog
 obtain ⟨M,hM⟩:=ex9 (ts.length)
 rw [←hM] at hl⊢
 obtain ⟨E,hE⟩:=ex9 (zK ts)
 obtain ⟨Rg,hRg⟩:=ex9 (wK ts)
 have HER:=hide (ai9 hE hRg)
 rw [←hE,←hRg]
 have HS:=hide (ai9 hs (ai9 hf (ai9 hM hnd)))
 clear hs hf hM hnd hE hRg
 go_enter Tryz.func81,Tryz.ntmps81
 go_upto_region 3 with fail
 obtain ⟨X,hX⟩:=ex9 ((w.alloc (.map #[] 0)).alloc (.map #[] 0))
 rw [←hX]
 have hPX:PinS w X w.heap.size (w.heap.size+1) 0 0 (fun _=>none) (fun _=>0):=by
  rw [hX]
  refine ⟨(NxtM.made w).below (Below.refl (w.heap.size+1) _ |>.alloc (by simp) _) (by omega),?_,((Below.refl _ w).alloc lr9 _).alloc (by simp) _⟩
  have:=CntM.made (w.alloc (.map #[] 0))
  simpa using this
 obtain ⟨nb,hnb⟩:=ex9 (w.heap.size)
 obtain ⟨cb,hcb⟩:=ex9 (w.heap.size+1)
 rw [←hcb,←hnb] at hPX⊢
 have HX:=hide (ai9 hPX (ai9 hnb hcb))
 clear hX hPX hmm hnb hcb
 go_wp2_with fail
 go_loopw [18] (fun iv wr=>∃(k n1 n2:Nat),k≤M∧iv= .int .i64 k∧PinS w wr nb cb n1 n2 (nxtN (ts.take k)) (cntC (ts.take k))∧n1≤3*k∧n2≤6*k) (fun iv _=>M - (intOf iv).toNat)
 case atStart=>exact ⟨0,0,0,by omega,rfl,HX.o.1,by omega,by omega⟩
 case round=>
  obtain ⟨k,n1,n2,hk,rfl,hP,hn1,hn2⟩:=hrel
  obtain ⟨V,rfl⟩:=ex9 (wr)
  by_cases hlt:k < M
  ·obtain ⟨t,ht⟩:∃t,ts[k]? =some t:=⟨_,List.getElem?_eq_getElem (by rw [←HS.o.2.2.1];exact hlt)⟩
   have i1:(k:Int) < (M:Int):=by omega
   obtain ⟨b,o,hA,hbb,g0,g1,g2,g3,g4,g5,g6,g7,g8⟩:=(HS.o.1.below hP.bel).tri ht
   subst hA
   have hft:=HS.o.2.1 t (List.mem_of_getElem? ht)
   have hsn:=zC3 ts k t ht
   have hsc:=fun p=>zIK ts p k t ht
   have hcl:=fun p=>zKE (ts.take k) p
   have hcl':∀p,cntC (ts.take k) p≤3*k:=fun p=>by have:=hcl p;rw [List.length_take] at this;omega
   obtain ⟨N0,hN0⟩:=ex9 (nxtN (ts.take k))
   obtain ⟨C0,hC0⟩:=ex9 (cntC (ts.take k))
   rw [←hN0] at hP hsn
   rw [←hC0] at hP hcl'
   simp only [←hC0] at hsc
   have HK:=hide (ai9 hP (ai9 hft (ai9 hsn (ai9 hsc hcl'))))
   clear hP hft hsn hsc ht hN0 hC0 hcl hcl'
   go_upto_region 6 with fail
   obtain ⟨Y,hY⟩:=ex9 (V.alloc (.cells #[.int .i64 t.1.1, .int .i64 t.1.2.1, .int .i64 t.1.2.2, .int .i64 t.2.1.1, .int .i64 t.2.1.2.1, .int .i64 t.2.1.2.2, .int .i64 t.2.2.1, .int .i64 t.2.2.2.1, .int .i64 t.2.2.2.2] 46))
   rw [←hY]
   have hbY:Blk Y V.heap.size 46 (encT t).toArray:=by rw [hY];exact Blk.new _ _ _
   have hPY:PinS w Y nb cb n1 n2 (nxtJ N0 t 0) (fun p=>C0 p+cntJ t p 0):=by
    rw [hY]
    exact HK.o.1.step ((Below.refl _ V).alloc lr9 _)
   obtain ⟨tb,htb⟩:=ex9 (V.heap.size)
   rw [←htb] at hbY⊢
   obtain ⟨a0,a1,a2,a3,a4,a5,a6,a7,a8⟩:=zJU (w:=Y) (b:=tb) (ty:=46) (t:=t) hbY
   have HY:=hide (ai9 hPY (ai9 hbY htb))
   clear hY hPY hbY g0 g1 g2 g3 g4 g5 g6 g7 g8 htb
   go_wp2_with fail
   clear a0 a1 a2 a3 a4 a5 a6 a7 a8
   go_loopw [23] (fun jv wr=>∃(j m1 m2:Nat),j≤3∧jv= .int .i64 j∧PinS w wr nb cb m1 m2 (nxtJ N0 t j) (fun p=>C0 p+cntJ t p j)∧m1≤n1+j∧m2≤n2+2*j∧Blk wr tb 46 (encT t).toArray) (fun jv _=>3 - (intOf jv).toNat)
   case atStart=>exact ⟨0,n1,n2,by omega,rfl,HY.o.1,by omega,by omega,HY.o.2.1⟩
   case round=>
    obtain ⟨j,m1,m2,hj,rfl,hP,hm1,hm2,hbt⟩:=hrel
    obtain ⟨R,rfl⟩:=ex9 (wr)
    by_cases hj3:j < 3
    ·have i2:(j:Int) < 3:=by omega
     have hidx:=fun W=>idxT t j hj3 W
     have hfc:=qZ HK.o.2.1 j
     have hfe:=zLA HK.o.2.1 j
     have hxj:nxtJ N0 t (j+1)=updE (nxtJ N0 t j) (edJ t j) (zT t ((j+2) % 3)):=rfl
     have hcj:=fun p=>zCY t p j
     have hed:edJ t j=(zT t j,zT t ((j+1) % 3)):=rfl
     obtain ⟨j1,hj1⟩:=ex9 ((j+1) % 3)
     obtain ⟨j2,hj2⟩:=ex9 ((j+2) % 3)
     rw [←hj1] at hed
     rw [←hj2] at hxj
     have t1:((j:Int)+1) % 3=(j1:Int):=by omega
     have t2:((j:Int)+2) % 3=(j2:Int):=by omega
     have t1':((j:Int)+1).tmod 3=(j1:Int):=by rw [Int.tmod_eq_emod_of_nonneg (by omega)];exact t1
     have t2':((j:Int)+2).tmod 3=(j2:Int):=by rw [Int.tmod_eq_emod_of_nonneg (by omega)];exact t2
     have wr1:IntKind.i64.wrap ((j:Int)+1)=(j:Int)+1:=IntWalk.i64_in _ (by omega)
     have wr2:IntKind.i64.wrap ((j:Int)+2)=(j:Int)+2:=IntWalk.i64_in _ (by omega)
     have l1:(j1:Int) < 3:=by omega
     have l2:(j2:Int) < 3:=by omega
     have l1n:j1 < 3:=by omega
     have l2n:j2 < 3:=by omega
     clear hj1 hj2
     obtain ⟨p,hp⟩:=ex9 (zT t j)
     obtain ⟨p1,hp1⟩:=ex9 (zT t j1)
     obtain ⟨p2,hp2⟩:=ex9 (zT t j2)
     rw [hed,←hp,←hp1] at hfe
     rw [hed,←hp,←hp1,←hp2] at hxj
     rw [←hp] at hfc
     simp only [←hp] at hidx hcj
     have HJ:=hide (ai9 hP (ai9 hm1 (ai9 hm2 (ai9 hbt (ai9 hxj (ai9 hcj (ai9 hfc hfe)))))))
     have HP:=hide (ai9 hp1 hp2)
     have hzR:=hP.bel.size
     have hltt:=hbt.lt
     have hcle:C0 p+cntJ t p j≤300000010:=by
      have:=HK.o.2.2.2.2 p
      have:=zI7 t p j
      omega
     obtain ⟨cp,hcp⟩:=ex9 (C0 p+cntJ t p j)
     rw [←hcp] at hcle
     have HCP:=hide hcp
     clear hP hm1 hm2 hbt hxj hcj hfc hfe hp hp1 hp2 hed hcp
     go_upto_region 9 with fail
     obtain ⟨Z,hZ⟩:=ex9 (R.alloc (.cells #[.int .i64 p.1, .int .i64 p.2.1, .int .i64 p.2.2] 43))
     rw [←hZ]
     have hPZ:=HJ.o.1.step (show Below R.heap.size R Z by rw [hZ];exact (Below.refl _ R).alloc lr9 _)
     have hbp:Blk Z R.heap.size 43 #[.int .i64 p.1, .int .i64 p.2.1, .int .i64 p.2.2]:=by rw [hZ];exact Blk.new _ _ _
     have hbt:Blk Z tb 46 (encT t).toArray:=by rw [hZ];exact HJ.o.2.2.2.1.alloc _
     have hct:=cells9 hbt
     obtain ⟨pb,hpb⟩:=ex9 (R.heap.size)
     have HPB:=hide hpb
     rw [←hpb] at hbp hltt⊢
     obtain ⟨x0,x1,x2⟩:=hbp.three
     obtain ⟨y0,y1,y2⟩:=hct.corner8 l1n
     obtain ⟨z0,z1,z2⟩:=hct.corner8 l2n
     rw [←HP.o.1] at y0 y1 y2
     rw [←HP.o.2] at z0 z1 z2
     rw [Nat.zero_add] at y0 y1 y2 z0 z1 z2
     have hPZd:PinS w Z.drew nb cb m1 m2 _ _:=hPZ.step (Below.refl _ Z).drew
     obtain ⟨w5,hrun5,hN5,hg5,hz5⟩:=hPZd.nxt.put (by have:=HJ.o.2.1;unfold maxLen;omega) (p,p1) HJ.o.2.2.2.2.2.2.2 p2
     have hzZ:Z.heap.size=pb+1:=by rw [hZ,hpb];simp
     have hnbz:=HX.o.2.1
     have hcbz:=HX.o.2.2
     have hc5:CntM w5 cb m2 (fun p=>C0 p+cntJ t p j):=hPZd.cnt.kept hg5 (fun e=>by injection e with e;omega)
     have hB5:Below w.heap.size w w5:=hPZd.bel.grown hg5 hPZd.bel.size (fun r hr=>by injection hr with hr;omega)
     have hbp5:Blk w5 pb 43 #[.int .i64 p.1, .int .i64 p.2.1, .int .i64 p.2.2]:=hbp.drew.grown hg5 (fun e=>by injection e with e;have:=HJ.o.1.nxt.lt;omega)
     have hbt5:Blk w5 tb 46 (encT t).toArray:=hbt.drew.grown hg5 (fun e=>by injection e with e;have:=HX.o.1.nxt.lt;have:=HY.o.2.2;have:=HK.o.1.nxt.lt;omega)
     have H5:=hide (ai9 hN5 (ai9 hc5 (ai9 hB5 (ai9 hbp5 (ai9 hbt5 (show w5.heap.size=pb+1 by rw [hz5];exact hzZ))))))
     clear hPZ hPZd hbp hbt hct hN5 hg5 hz5 hc5 hB5 hbp5 hbt5 hZ hpb hzZ hnbz hcbz hidx
     go_still_tail 13,(by kernel_rfl)
     repeat still_step
     change wpList _ _ _ _ _ Z.drew
     go_upto_region 10 with fail
     clear x0 x1 x2 y0 y1 y2 z0 z1 z2 hrun5
     have hc5d:CntM w5.drew cb m2 (fun p=>C0 p+cntJ t p j):=H5.o.2.1.below (Below.refl (w5.heap.size+cb+1) w5).drew (by omega)
     have hlk0:=hc5d.look p HJ.o.2.2.2.2.2.2.1
     obtain ⟨st,w6,hrun6,hg6,hz6,hM6,hst6⟩:=hc5d.inc (by have:=HJ.o.2.2.1;unfold maxLen;omega) p HJ.o.2.2.2.2.2.2.1
     have hlk1:=hM6.look p HJ.o.2.2.2.2.2.2.1
     obtain ⟨w7,hrun7,hM7,hg7,hz7⟩:=hst6 w6 rfl
     have hcpe:C0 p+cntJ t p j=cp:=HCP.o.symm
     simp only [hcpe] at hlk0 hlk1 hrun6 hrun7 hM7
     simp only [goInt] at hrun6 hrun7
     rw [show ((cp+1:Nat):Int)=(cp:Int)+1 by omega] at hrun7
     have hcbn:cb≠nb:=by have:=HX.o.2.1;have:=HX.o.2.2;omega
     have hcbw:w.heap.size≤cb:=by have:=HX.o.2.2;omega
     have hcbp:cb < pb:=by have h1:=HX.o.1.cnt.lt;have h2:=HJ.o.1.cnt.lt;have h3:=HPB.o;omega
     have hcbt:cb≠tb:=by have h1:=HK.o.1.cnt.lt;have h2:=HY.o.2.2;omega
     have hS0:(Instr.lookup 95 (.map (some cb)) (vP p) false).run Tryz.prog w5.drew= .ok (.int .i64 (cp:Nat)) w5.drew∧(w5.drew.cell? ⟨pb,0,none⟩=some (.int .i64 p.1)∧w5.drew.cell? ⟨pb,1,none⟩=some (.int .i64 p.2.1)∧w5.drew.cell? ⟨pb,2,none⟩=some (.int .i64 p.2.2)):=⟨hlk0,H5.o.2.2.2.1.drew.three⟩
     have hb6:Blk w6 pb 43 #[.int .i64 p.1, .int .i64 p.2.1, .int .i64 p.2.2]:=H5.o.2.2.2.1.drew.grown hg6 (fun e=>by injection e with e;omega)
     have hS1:(Instr.lookup 95 (.map (some cb)) (vP p) false).run Tryz.prog w6= .ok (.int .i64 (cp:Nat)) w6∧(w6.cell? ⟨pb,0,none⟩=some (.int .i64 p.1)∧w6.cell? ⟨pb,1,none⟩=some (.int .i64 p.2.1)∧w6.cell? ⟨pb,2,none⟩=some (.int .i64 p.2.2)):=⟨hlk1,hb6.three⟩
     have hN7:NxtM w7 nb (m1+1) (nxtJ N0 t (j+1)):=by
      rw [HJ.o.2.2.2.2.1]
      have h1:NxtM w5.drew nb (m1+1) _:=H5.o.1.below (Below.refl (w5.heap.size+nb+1) w5).drew (by omega)
      exact (MapK.kept h1 hg6 (fun e=>hcbn (by injection e with e;exact e.symm))).kept hg7 (fun e=>hcbn (by injection e with e;exact e.symm))
     have hC7:CntM w7 cb (m2+1+1) (fun p=>C0 p+cntJ t p (j+1)):=by
      refine (hM7.same fun q=> ?_) |>fun h=>by
       obtain ⟨m,h1,h2⟩:=h
       exact ⟨m,h1.mono (by omega),h2⟩
      show (if q=p then cp+1 else C0 q+cntJ t q j)=C0 q+cntJ t q (j+1)
      rw [HJ.o.2.2.2.2.2.1 q,HCP.o]
      split
      ·rename_i h;subst h;omega
      ·rfl
     have hB7:Below w.heap.size w w7:=((H5.o.2.2.1.drew).grown hg6 (by have:=H5.o.2.2.1.size;simpa using this) (fun r hr=>by injection hr with hr;omega)).grown hg7 (by rw [hz6];have:=H5.o.2.2.1.size;simpa using this) (fun r hr=>by injection hr with hr;omega)
     have hbt7:Blk w7 tb 46 (encT t).toArray:=(H5.o.2.2.2.2.1.drew.grown hg6 (fun e=>hcbt (by injection e with e;exact e.symm))).grown hg7 (fun e=>hcbt (by injection e with e;exact e.symm))
     have hwr:IntKind.i64.wrap ((cp:Int)+1)=(cp:Int)+1:=IntWalk.i64_in _ (by omega)
     have HS0:=hide hS0
     have HS1:=hide hS1
     have H7:=hide (ai9 hN7 (ai9 hC7 (ai9 hB7 hbt7)))
     clear hc5d hlk0 hg6 hz6 hM6 hst6 hlk1 hM7 hg7 hz7 hcpe hcbn hcbw hcbp hcbt hS0 hS1 hb6 hN7 hC7 hB7 hbt7
     refine zB (fun W=>(Instr.lookup 95 (.map (some cb)) (vP p) false).run Tryz.prog W= .ok (.int .i64 (cp:Nat)) W∧(W.cell? ⟨pb,0,none⟩=some (.int .i64 p.1)∧W.cell? ⟨pb,1,none⟩=some (.int .i64 p.2.1)∧W.cell? ⟨pb,2,none⟩=some (.int .i64 p.2.2))) [0,1,2,3] [0,1,2,3,4,5,6] zL (by kernel_rfl) ?_
     refine zA (v:= .map (some cb)) rfl rfl (fun _ _ _ h=>h) HS0.o ⟨rfl,fun _ h'=>by simp [go_sem]⟩ ?_
     refine zA (v:=vP p) rfl rfl (fun _ _ _ h=>h) HS0.o ⟨rfl,fun _ h'=>by obtain ⟨_,a0,a1,a2⟩:=h';simp [go_sem,a0,a1,a2]⟩ ?_
     refine zA (v:= .int .i64 (cp:Nat)) rfl rfl (fun _ _ _ h=>h) HS0.o ⟨rfl,fun _ h'=>by simp [go_sem,h'.1]⟩ ?_
     refine zA (v:= .int .i64 ((cp:Int)+1)) rfl rfl (fun _ _ _ h=>h) HS0.o ⟨rfl,fun _ h'=>by simp [go_sem,hwr]⟩ ?_
     simp only [List.getElem_toArray,List.getElem_cons_succ,List.getElem_cons_zero,Act.put,List.setIfInBounds_toArray,List.set_cons_succ,List.set_cons_zero]
     refine zD rfl rfl ?_
     go_wp2_with fail
     refine ⟨fun _=>HS1.o,?_⟩
     refine zD rfl rfl ?_
     go_wp2_with fail
     refine ⟨fun _=>HS1.o,?_⟩
     refine zD rfl rfl ?_
     go_wp2_with fail
     refine ⟨fun h=>absurd (h.symm.trans (show _=false by kernel_rfl)) (by simp),xB ?_⟩
     go_wp2_with fail
     go_roundw
     case rel=>exact ⟨j+1,m1+1,m2+1+1,by omega,by go_num,⟨H7.o.1,H7.o.2.1,H7.o.2.2.1⟩,by have:=HJ.o.2.1;omega,by have:=HJ.o.2.2.1;omega,H7.o.2.2.2⟩
     case measure=>simp [intOf];omega
    ·have hje:j=3:=by omega
     subst hje
     have i2:¬((3:Nat):Int) < 3:=by omega
     have HE:=hide (ai9 hP (ai9 hm1 hm2))
     clear hP hm1 hm2 hbt
     go_wp2
     go_roundw
     case rel=>
      refine ⟨k+1,m1,m2,by omega,by go_num,⟨?_,?_,HE.o.1.bel⟩,by have:=HE.o.2.1;omega,by have:=HE.o.2.2;omega⟩
      ·rw [HK.o.2.2.1];exact HE.o.1.nxt
      ·exact HE.o.1.cnt.same fun p=>(HK.o.2.2.2.1 p).symm
     case measure=>simp [intOf];omega
  ·have hke:k=M:=by omega
   subst hke
   rw [List.take_of_length_le (by have:=HS.o.2.2.1;omega)] at hP
   have hx:=zKZ HS.o.2.2.2
   obtain ⟨N1,hN1⟩:=ex9 (nxtN ts)
   obtain ⟨C1,hC1⟩:=ex9 (cntC ts)
   have hC1le:∀p,C1 p≤300000000:=fun p=>by rw [hC1];have:=zKE ts p;have:=HS.o.2.2.1;omega
   rw [←hN1,←hC1] at hP
   rw [←hN1] at hx
   have hR:∀e x,N1 e=some x→wK ts e=prgO (fun q=>N1 (e.1,q)) e.2 (C1 e.1) (C1 e.1) 1 x:=fun e x h=>by
    rw [hx] at h
    unfold wK
    rw [h,hC1]
    have:(fun q=>N1 (e.1,q))=fun q=>behP ts e.1 q:=funext fun q=>hx (e.1,q)
    rw [this]
   have hmem:∀e,e∈zK ts→∃x,N1 e=some x:=fun e he=>by rw [hx];exact zB8 he
   have hmem2:∀e x,N1 e=some x→e∈zK ts:=fun e x h=>by
    refine Classical.byContradiction fun hc=> ?_
    rw [hx,zFZ hc] at h
    cases h
   have hfx:∀e x,N1 e=some x→yJ x:=fun e x h=>by rw [hx] at h;exact zDM HS.o.2.1 h
   have hfe:=kM HS.o.2.1
   rw [←HER.o.1] at hfe
   simp only [←HER.o.1] at hmem hmem2
   simp only [←HER.o.2] at hR
   have HR:=hide (ai9 hR (ai9 hmem (ai9 hmem2 (ai9 hfx (ai9 hfe hC1le)))))
   clear hR hmem hmem2 hfx hfe hx hN1 hC1 hC1le
   obtain ⟨w1,c0,hrun,hrg,hg1,hz1,_⟩:=MapK.range_le kfE4 (t:=152) (e:=43) hP.nxt Tryz.underlying152
   have hB1:=xZ hg1 lr9
   have hcn1:=hP.cnt.below hB1 hP.cnt.lt
   have hBw1:=hP.bel.trans (hB1.mono hP.bel.size)
   have hzV:=hP.bel.size
   have hnbV:=hP.nxt.lt
   have hcbV:=hP.cnt.lt
   obtain ⟨rb,hrb⟩:=ex9 (V.heap.size)
   rw [←hrb] at hrun hrg
   have HV:=hide (ai9 hrg (ai9 hcn1 (ai9 hBw1 (ai9 (show w.heap.size≤rb by omega) (ai9 (show nb < rb by omega) (show cb < rb by omega))))))
   clear hrg hcn1 hBw1 hB1 hg1 hz1 hP hn1 hn2 hzV hnbV hcbV hrb
   go_wp2_with fail
   go_loopw [] (fun wr=>∃(left:Ed→Bool) (c:Nat),RngK Tryz.prog 147 vE vF wr nb rb n1 (fun e=>(N1 e).map vP) left c∧CntM wr cb n2 C1∧(∀e∈E,left e=true∨Rg e=false)∧Below w.heap.size w wr) (fun wr=>wr.rangeLeft nb rb)
   case atStart=>exact ⟨_,c0,HV.o.1,HV.o.2.1,fun e he=> .inl (by obtain ⟨x,hx⟩:=HR.o.2.1 e he;rw [hx];rfl),HV.o.2.2.1⟩
   case round=>
    obtain ⟨left,c',hrg,hC,hall,hB⟩:=hrel
    obtain ⟨U,rfl⟩:=ex9 (wr)
    have hHL:=hrg.left_eq
    rcases hrg.next kfE4 0 with ⟨_,hdone,hrunN⟩ | ⟨e,pv,w8,c'',hok,hleft,hm8,hrunN,hr8,hlt8,hg8,hz8,hent⟩
    ·have hres:E.any Rg=false:=by
      rw [List.any_eq_false]
      intro e he
      rcases hall e he with h | h
      ·rw [hdone e (HR.o.2.2.2.2.1 e he)] at h;cases h
      ·rw [h];simp
     have HE:=hide (ai9 hres hB)
     clear hrg hC hall hB hHL hdone hres hrun
     go_wp2
     go_ret
     exact ⟨by rw [HE.o.1];rfl,HE.o.2⟩
    ·obtain ⟨x,hx⟩:∃x,N1 e=some x:=by
      cases hN:N1 e with
      | none=>rw [hN] at hm8;cases hm8
      | some x=>exact ⟨x,rfl⟩
     have hfx:=HR.o.2.2.2.1 e x hx
     have hC8:CntM w8 cb n2 C1:=hC.kept hg8 (fun e=>by injection e with e;have:=HV.o.2.2.2.2.2;omega)
     have hB8:Below w.heap.size w w8:=hB.grown hg8 hB.size (fun r hr=>by injection hr with hr;have:=HV.o.2.2.2.1;omega)
     have hring:=HR.o.1 e x hx
     have HU:=hide (ai9 hr8 (ai9 hC8 (ai9 hB8 (ai9 hall (ai9 hlt8 (ai9 hHL (ai9 hx hring)))))))
     clear hrg hC hall hB hHL hr8 hC8 hB8 hlt8 hm8 hg8 hz8 hring hleft hx hrun
     go_upto_region 16 with fail
     clear hrunN hent
     obtain ⟨Y,hY⟩:=ex9 (w8.alloc (.cells (cE e) 147))
     rw [←hY]
     have hBY:Below w8.heap.size w8 Y:=by rw [hY];exact (Below.refl _ w8).alloc lr9 _
     have heY:Blk Y w8.heap.size 147 (cE e):=by rw [hY];exact Blk.new _ _ _
     obtain ⟨eb,heb⟩:=ex9 (w8.heap.size)
     rw [←heb] at heY⊢
     have hrY:=HU.o.1.below hBY lr9
     have hCY:=HU.o.2.1.below hBY HU.o.2.1.lt
     have hlkY:(Instr.lookup 152 (.map (some nb)) (vE e) false).run Tryz.prog Y= .ok (vP x) Y:=by
      have h1:NxtM Y nb n1 N1:=hrY.map
      have:=h1.look e hok
      rw [HU.o.2.2.2.2.2.2.1] at this
      exact this
     obtain ⟨x0,x1,x2,x3,x4,x5⟩:=heY.six4
     have hzY:Y.heap.size=eb+1:=by rw [hY,heb];simp
     have HY:=hide (ai9 heY (ai9 hrY (ai9 hCY (ai9 (HU.o.2.2.1.trans (hBY.mono HU.o.2.2.1.size)) hzY))))
     clear hY hBY heY hrY hCY heb hzY
     go_upto_block 6 with fail
     obtain ⟨ab,hab⟩:=ex9 (Y.heap.size)
     rw [←hab]
     have hbx:Blk (Y.alloc (.cells #[.int .i64 x.1, .int .i64 x.2.1, .int .i64 x.2.2] 43)) ab 43 #[.int .i64 x.1, .int .i64 x.2.1, .int .i64 x.2.2]:=by rw [hab];exact Blk.new _ _ _
     have hBx:Below ab Y (Y.alloc (.cells #[.int .i64 x.1, .int .i64 x.2.1, .int .i64 x.2.2] 43)):=by rw [hab];exact (Below.refl _ Y).alloc lr9 _
     have hab2:ab=eb+1:=by have:=HY.o.2.2.2.2;omega
     have HAB:=hide hab2
     have hebab:eb < ab:=by omega
     have hme:=HR.o.2.2.2.2.2 e.1
     have hring:=HU.o.2.2.2.2.2.2.2
     obtain ⟨m,hm⟩:=ex9 (C1 e.1)
     obtain ⟨bq,hbq⟩:=ex9 (fun q=>N1 (e.1,q))
     rw [←hm] at hme hring
     rw [←hbq] at hring
     have hlks:∀W,Below ab Y W→(Instr.lookup 95 (.map (some cb)) (vP e.1) false).run Tryz.prog W= .ok (.int .i64 (m:Nat)) W∧(∀a,yJ a→(Instr.lookup 152 (.map (some nb)) (vE (e.1,a)) true).run Tryz.prog W= .ok (.tuple #[vP ((bq a).getD (0,0,0)), .bool (bq a).isSome]) W)∧Blk W eb 147 (cE e):=fun W hW=>by
      refine ⟨?_,fun a ha=> ?_,HY.o.1.below hW (by omega)⟩
      ·rw [hm]
       exact (HY.o.2.2.1.below hW (by have:=HY.o.2.2.1.lt;omega)).look e.1 hok.1
      ·rw [hbq]
       have h1:NxtM Y nb n1 N1:=HY.o.2.1.map
       exact (show NxtM W nb n1 N1 from MapK.below h1 hW (by have:=h1.lt;omega)).look_ok (e.1,a) ⟨hok.1,ha⟩
     have HL:=hide (ai9 hlks (ai9 hring (ai9 hbx (ai9 hBx (ai9 hfx (ai9 hbq hab))))))
     clear hlks hring hbx hBx hbq hm hfx hab hab2 hlkY x0 x1 x2 x3 x4 x5
     go_cut [10] (fun sv wx=>∃(size:Nat) (a:Pt),sv= .int .i64 size∧size≤m+1∧yJ a∧Blk wx ab 43 #[.int .i64 a.1, .int .i64 a.2.1, .int .i64 a.2.2]∧Rg e=(decide (a=e.2) && decide (size < m))∧Below ab Y wx)
     case first=>
      go_wp2_with fail
      go_loopw [10] (fun sv wx=>∃(size f:Nat) (a:Pt),sv= .int .i64 size∧1≤size∧f+size=m+1∧yJ a∧Blk wx ab 43 #[.int .i64 a.1, .int .i64 a.2.1, .int .i64 a.2.2]∧Rg e=prgO bq e.2 m f size a∧Below ab Y wx) (fun sv _=>m+2 - (intOf sv).toNat)
      case atStart=>exact ⟨1,m,x,rfl,by omega,by omega,HL.o.2.2.2.2.1,HL.o.2.2.1,HL.o.2.1,HL.o.2.2.2.1⟩
      case round=>
       obtain ⟨size,f,a,rfl,hs1,hfs,hfa,hba,hrg,hB⟩:=hrel
       obtain ⟨T,rfl⟩:=ex9 (wr)
       obtain ⟨hk1,hk2,hbe⟩:=HL.o.1 T hB
       have hk2a:=hk2 a hfa
       obtain ⟨y0,y1,y2,y3,y4,y5⟩:=hbe.six4
       obtain ⟨z0,z1,z2⟩:=hba.three
       have heq:=eqP a e.2 hfa hok.2
       have hzT:=hB.size
       have hltT:=hba.lt
       have hfra0:=hba.frozen 0
       have hfra1:=hba.frozen 1
       have hfra2:=hba.frozen 2
       by_cases has:a=e.2
       ·have hd:decide (a=e.2)=true:=decide_eq_true has
        rw [hd] at heq
        have hst:=zDT bq e.2 m f size a (.inl has)
        have HT:=hide (ai9 hfa (ai9 hba (ai9 (hrg.trans hst) hB)))
        clear hfa hba hrg hB has hd hst hk2 hbe hk2a hk1
        go_wp2_with fail
        go_meet
        case rel=>exact ⟨size,a,rfl,by omega,HT.o.1,HT.o.2.1,HT.o.2.2.1,HT.o.2.2.2⟩
       ·have hd:decide (a=e.2)=false:=decide_eq_false has
        rw [hd] at heq
        by_cases hsm:size≤m
        ·have i5:(size:Int)≤(m:Int):=by omega
         obtain ⟨f',rfl⟩:∃f',f=f'+1:=⟨f - 1,by omega⟩
         cases hbn:bq a with
         | none=>
          rw [hbn] at hk2a
          have hst:=zJX bq e.2 m (f'+1) size a has hbn
          have HT:=hide (ai9 hfa (ai9 hba (ai9 (hrg.trans hst) hB)))
          clear hfa hba hrg hB has hd hst hk2 hbe hbn hsm
          go_wp2_with fail
          go_meet
          case rel=>
           exact ⟨size,a,rfl,by omega,HT.o.1,HT.o.2.1.alloc _,HT.o.2.2.1,HT.o.2.2.2.alloc (by omega) _⟩
         | some y=>
          rw [hbn] at hk2a
          have hst:=zIP bq e.2 m f' size a y has hsm hbn
          have hfy:yJ y:=by
           have:=HL.o.2.2.2.2.2.1
           rw [this] at hbn
           exact HR.o.2.2.2.1 _ _ hbn
          have HT:=hide (ai9 hfy (ai9 hba (ai9 (hrg.trans hst) hB)))
          clear hfa hba hrg hB has hd hst hk2 hbe hbn hfy
          go_wp2_with fail
          go_roundw
          case rel=>
           refine ⟨size+1,f',y,by go_num,by omega,by omega,HT.o.1,?_,HT.o.2.2.1,?_⟩
           ·exact (HT.o.2.1.set3 _ _ _).alloc _
           ·exact (((HT.o.2.2.2.setCell (by dsimp only;omega) _).setCell (by dsimp only;omega) _).setCell (by dsimp only;omega) _).alloc (by simp [World.setCell];omega) _
          case measure=>simp [intOf];omega
        ·have i5:¬(size:Int)≤(m:Int):=by omega
         have hst:=zDT bq e.2 m f size a (.inr (by omega))
         have HT:=hide (ai9 hfa (ai9 hba (ai9 (hrg.trans hst) hB)))
         clear hfa hba hrg hB has hd hst hk2 hbe hk2a
         go_wp2_with fail
         go_meet
         case rel=>exact ⟨size,a,rfl,by omega,HT.o.1,HT.o.2.1,HT.o.2.2.1,HT.o.2.2.2⟩
     case rest=>
      obtain ⟨size,a,rfl,hsz,hfa,hba,hrg,hB⟩:=hcut
      obtain ⟨T,rfl⟩:=ex9 (wc)
      obtain ⟨hk1,_,hbe⟩:=HL.o.1 T hB
      obtain ⟨y0,y1,y2,y3,y4,y5⟩:=hbe.six4
      obtain ⟨z0,z1,z2⟩:=hba.three
      have heq:=eqP a e.2 hfa hok.2
      have hBw:=HY.o.2.2.2.1.trans (hB.mono (by have:=HL.o.2.2.2.2.2.2;have:=HY.o.2.2.2.1.size;omega))
      have hrT:=HY.o.2.1.below hB (by have:=HL.o.2.2.2.2.2.2;omega)
      have hCT:=HY.o.2.2.1.below hB (by have:=HL.o.2.2.2.2.2.2;have:=HY.o.2.2.1.lt;omega)
      by_cases hyes:a=e.2∧size < m
      ·have hd:decide (a=e.2)=true:=decide_eq_true hyes.1
       rw [hd] at heq
       have i5:(size:Int) < (m:Int):=by omega
       have hres:E.any Rg=true:=List.any_eq_true.2 ⟨e,HR.o.2.2.1 e x HU.o.2.2.2.2.2.2.1,by rw [hrg,decide_eq_true hyes.1,decide_eq_true hyes.2];rfl⟩
       have HE:=hide (ai9 hres hBw)
       clear hyes hd hres hfa hba hrg hB hbe hBw hrT hCT
       go_wp2
       go_ret
       exact ⟨by rw [HE.o.1];rfl,HE.o.2⟩
      ·have hno:Rg e=false:=by
        rw [hrg,Bool.and_eq_false_iff,decide_eq_false_iff_not,decide_eq_false_iff_not]
        by_cases h1:a=e.2
        ·exact .inr fun h2=>hyes ⟨h1,h2⟩
        ·exact .inl h1
       have HE:=hide (ai9 hrT (ai9 hCT (ai9 hno hBw)))
       have fin:∀e'∈E,(left e' && !decide (e'=e))=true∨Rg e'=false:=fun e' he'=>by
        by_cases h1:e'=e
        ·rw [h1];exact .inr hno
        ·rcases HU.o.2.2.2.1 e' he' with h2 | h2
         ·exact .inl (by simp [h1,h2])
         ·exact .inr h2
       have HF:=hide fin
       clear hrg hno hBw hrT hCT hbe hB hba fin
       by_cases h1:a=e.2
       ·have i5:¬(size:Int) < (m:Int):=fun h2=>hyes ⟨h1,by omega⟩
        have hd:decide (a=e.2)=true:=decide_eq_true h1
        rw [hd] at heq
        clear hyes h1 hd hfa
        go_wp2
        go_roundw
        case rel=>exact ⟨_,c'',HE.o.1,HE.o.2.1,HF.o,HE.o.2.2.2⟩
        case measure=>
         rw [HE.o.1.left_eq,HU.o.2.2.2.2.2.1]
         exact HU.o.2.2.2.2.1
       ·have hd:decide (a=e.2)=false:=decide_eq_false h1
        rw [hd] at heq
        clear hyes h1 hd hfa
        go_wp2
        go_roundw
        case rel=>exact ⟨_,c'',HE.o.1,HE.o.2.1,HF.o,HE.o.2.2.2⟩
        case measure=>
         rw [HE.o.1.left_eq,HU.o.2.2.2.2.2.1]
         exact HU.o.2.2.2.2.1
end Go.Proofs.YtmemofonebphfaaGreat
namespace Go.Proofs.YtmemofonebphfaaGreat
open Go.RowKit Go.Sort Go.WideMaps Go.Maps
set_option maxRecDepth 100000
theorem zK6 {t:Tri} (h1:t.1≠t.2.1) (h2:t.2.1≠t.2.2) (h3:t.2.2≠t.1):qJ t=false:=by
 unfold qJ
 rw [decide_eq_false h1,decide_eq_false h2,decide_eq_false h3];rfl
theorem zAN {t:Tri} (h:t.1=t.2.1∨t.2.1=t.2.2∨t.2.2=t.1):qJ t=true:=by
 unfold qJ
 rcases h with h | h | h
 ·rw [decide_eq_true h];rfl
 ·rw [decide_eq_true h];simp
 ·rw [decide_eq_true h];simp
theorem zPP {w:World} {ob m:Nat} {K:List Ed} (hM:jD w ob m K) (hn:K.Nodup) (hf:∀p∈K,vF p):(Builtin.len_ #[122] 3 #[.map (some ob)]).run Tryz.prog w= .ok (.int .i64 K.length) w:=by
 refine MapK.len kfE4 (t:=122) (e:=4) hM Tryz.underlying122 _ hn hf (fun p _=> ?_) _
 unfold yR
 by_cases h:p∈K
 ·rw [if_pos h];exact ⟨fun _ e=>(by cases e),fun _=>h⟩
 ·rw [if_neg h];exact ⟨fun h'=>absurd h' h,fun h'=>absurd rfl h'⟩
set_option maxHeartbeats 16000000 in
theorem zHM (A:Option Addr) (c:Nat) (ts:List Tri) (op:Bool) (w:World) (hs:Sl encT 9 w w.heap.size A ts) (hl:ts.length≤100000000) (hf:∀t∈ts,fitsT t):
  Calls Tryz.prog 47 #[.slice A ts.length c, .bool op] w fun e w'=>e= .returned (.int .i64 (yN ts op))∧Below w.heap.size w w':=by
 obtain ⟨R,hR⟩:=ex9 (yN ts op)
 rw [←hR]
 rw [zFI] at hR
 have hcd:=fun W (hW:Below w.heap.size w W)=>zB4 A c ts W ((hs.below hW).more hW.size) hl hf
 have hpi:=fun (hnd:(zK ts).Nodup) W (hW:Below w.heap.size w W)=>zD3 A c ts W ((hs.below hW).more hW.size) hl hf hnd
 have hdl:=uO (zK ts)
 have hel:=vM ts
 have hfe:∀p∈x9 (zK ts),vF p:=fun p hp=>kM hf p (vZ.1 hp)
 have hbo:=fun W mb n (hM:jD W mb n (x9 (zK ts)))=>zEX mb n _ W hM (wS _) hfe (by omega)
 have hln:=fun W ob m (K:List Ed) (hM:jD W ob m K) (hn:K.Nodup) (hm:∀p,p∈K ↔ p∈x9 (zK ts)∧vK p ∉ x9 (zK ts))=>by
  have h0:=zPP hM hn (fun p hp=>hfe p ((hm p).1 hp).1)
  have hse:wU ltE K=yV ts:=zEU hn fun e=>by rw [hm,vZ,vZ]
  rw [show K.length=(yV ts).length by rw [←hse,zDE]] at h0
  exact h0
 have hnb:ndB (zK ts)=true ↔ (zK ts).Nodup:=zEB
 obtain ⟨E,hE⟩:=ex9 (zK ts)
 obtain ⟨B,hB⟩:=ex9 ((yV ts).length)
 obtain ⟨M,hM⟩:=ex9 (ts.length)
 have hBb:B≤300000000:=by rw [hB];have:=zHC ts;omega
 rw [←hE] at hR hcd hpi hbo hln hnb
 rw [←hB] at hR hln
 rw [←hM] at hl hcd hpi⊢
 obtain ⟨Rg,hRg⟩:=ex9 (E.any (wK ts))
 rw [←hRg] at hR hpi
 obtain ⟨f0,hf0⟩:=ex9 (ndB E)
 rw [←hf0] at hcd hnb
 have HS:=hide (ai9 hs (ai9 hf (ai9 hM hR)))
 have HC:=hide (ai9 hcd (ai9 hpi (ai9 hbo (ai9 hln hnb))))
 clear hs hf hM hR hcd hpi hdl hel hfe hbo hln hnb hE hB hRg hf0
 go_enter Tryz.func47,Tryz.ntmps47
 go_wp2_with fail
 go_loopw [11] (fun iv wr=>∃k:Nat,k≤M∧iv= .int .i64 k∧(∀i t,i < k→ts[i]? =some t→qJ t=false)∧Below w.heap.size w wr) (fun iv _=>M - (intOf iv).toNat)
 case atStart=>exact ⟨0,by omega,rfl,fun i t h=>absurd h (by omega),Below.refl _ w⟩
 case round=>
  obtain ⟨k,hk,rfl,hno,hB⟩:=hrel
  obtain ⟨V,rfl⟩:=ex9 (wr)
  by_cases hlt:k < M
  ·obtain ⟨t,ht⟩:∃t,ts[k]? =some t:=⟨_,List.getElem?_eq_getElem (by rw [←HS.o.2.2.1];exact hlt)⟩
   have i1:(k:Int) < (M:Int):=by omega
   obtain ⟨b,o,hA,hbb,g0,g1,g2,g3,g4,g5,g6,g7,g8⟩:=(HS.o.1.below hB).tri ht
   subst hA
   have hft:=HS.o.2.1 t (List.mem_of_getElem? ht)
   have e1:=eqP t.1 t.2.1 hft.1 hft.2.1
   have e2:=eqP t.2.1 t.2.2 hft.2.1 hft.2.2
   have e3:=eqP t.2.2 t.1 hft.2.2 hft.1
   have hzV:=hB.size
   have hbad:qJ t=true→R=20:=fun h=>by rw [HS.o.2.2.2,if_pos (List.any_eq_true.2 ⟨t,List.mem_of_getElem? ht,h⟩)]
   have HK:=hide (ai9 hno (ai9 hB (ai9 ht hbad)))
   clear hno hB ht hft hbad
   by_cases h1:t.1=t.2.1
   ·rw [decide_eq_true h1] at e1
    have hR:=HK.o.2.2.2 (zAN (.inl h1))
    have HR:=hide hR
    clear hR h1 e2 e3
    go_wp2
    go_ret
    exact ⟨by rw [HR.o];rfl,HK.o.2.1.alloc hzV _⟩
   ·rw [decide_eq_false h1] at e1
    by_cases h2:t.2.1=t.2.2
    ·rw [decide_eq_true h2] at e2
     have hR:=HK.o.2.2.2 (zAN (.inr (.inl h2)))
     have HR:=hide hR
     clear hR h1 h2 e3
     go_wp2
     go_ret
     exact ⟨by rw [HR.o];rfl,HK.o.2.1.alloc hzV _⟩
    ·rw [decide_eq_false h2] at e2
     by_cases h3:t.2.2=t.1
     ·rw [decide_eq_true h3] at e3
      have hR:=HK.o.2.2.2 (zAN (.inr (.inr h3)))
      have HR:=hide hR
      clear hR h1 h2 h3
      go_wp2
      go_ret
      exact ⟨by rw [HR.o];rfl,HK.o.2.1.alloc hzV _⟩
     ·rw [decide_eq_false h3] at e3
      have HN:=hide (zK6 h1 h2 h3)
      clear h1 h2 h3
      go_wp2
      go_roundw
      case rel=>
       refine ⟨k+1,by omega,by go_num,fun i u hi hu=> ?_,HK.o.2.1.alloc hzV _⟩
       rcases Nat.lt_or_ge i k with h | h
       ·exact HK.o.1 i u h hu
       ·have e:i=k:=by omega
        subst e
        rw [HK.o.2.2.1] at hu
        cases hu
        exact HN.o
      case measure=>simp [intOf];omega
  ·have hke:k=M:=by omega
   subst hke
   have hany:ts.any qJ=false:=fO HS.o.2.2.1 lr9 hno
   have hR:=HS.o.2.2.2
   rw [if_neg (by rw [hany];simp)] at hR
   have hcd:=HC.o.1 V hB
   have HV:=hide (ai9 hR hB)
   have hzV:=hB.size
   have HD:=hide hcd
   clear hno hB hany hR hcd hlt
   cases hf0:f0 with
   | false=>
    subst hf0
    have hR:R=21:=by
     rw [HV.o.1,if_pos]
     intro hc
     have:=HC.o.2.2.2.2.2 hc
     cases this
    have HR:=hide hR
    clear hR
    go_wp2_with (go_at_call 79;refine (qR HD).mono ?_;rintro e w1 ⟨mb,n,rfl,hM1,hn1,hmb1,hB1⟩)
    go_ret
    exact ⟨by rw [HR.o];rfl,HV.o.2.trans (hB1.mono hzV)⟩
   | true=>
    subst hf0
    have hnd:=HC.o.2.2.2.2.1 rfl
    have hR:=HV.o.1
    rw [if_neg (fun h=>h hnd)] at hR
    have hpi:=HC.o.2.1 hnd
    have HP:=hide (ai9 hR hpi)
    clear hR hpi hnd
    cases hop:op with
    | true=>
     subst hop
     have hR:=HP.o.1
     rw [if_neg (by simp)] at hR
     cases hrg:Rg with
     | true=>
      subst hrg
      rw [if_pos rfl] at hR
      have HR:=hide hR
      clear hR
      go_wp2_with (first
       | (go_at_call 79;refine (qR HD).mono ?_;rintro e w1 ⟨mb,n,rfl,hM1,hn1,hmb1,hB1⟩;have hB1':=HV.o.2.trans (hB1.mono hzV);have HB1:=hide hB1';clear hM1 hn1 hmb1 hB1 hB1')
       | (go_at_call 81;refine (HP.o.2 w1 HB1.o).mono ?_;rintro e w2 ⟨rfl,hB2⟩))
      go_ret
      exact ⟨by rw [HR.o];rfl,HB1.o.trans (hB2.mono HB1.o.size)⟩
     | false=>
      subst hrg
      rw [if_neg (by simp)] at hR
      have HR:=hide hR
      clear hR
      go_wp2_with (first
       | (go_at_call 79;refine (qR HD).mono ?_;rintro e w1 ⟨mb,n,rfl,hM1,hn1,hmb1,hB1⟩;have hB1':=HV.o.2.trans (hB1.mono hzV);have HB1:=hide hB1';clear hM1 hn1 hmb1 hB1 hB1')
       | (go_at_call 81;refine (HP.o.2 w1 HB1.o).mono ?_;rintro e w2 ⟨rfl,hB2⟩))
      go_ret
      exact ⟨by rw [HR.o];rfl,HB1.o.trans (hB2.mono HB1.o.size)⟩
    | false=>
     subst hop
     by_cases hb0:0 < B
     ·have i5:(0:Int) < (B:Int):=by omega
      have hR:=HP.o.1
      rw [if_pos (by simpa using hb0)] at hR
      have HR:=hide hR
      clear hR hb0
      go_wp2_with (first
       | (go_at_call 79;refine (qR HD).mono ?_;rintro e w1 ⟨mb,n,rfl,hM1,hn1,hmb1,hB1⟩;have hB1':=HV.o.2.trans (hB1.mono hzV);have HB1:=hide (ai9 hB1' (HC.o.2.2.1 w1 mb n hM1));clear hM1 hn1 hmb1 hB1 hB1')
       | (go_at_call 80;refine (qR HB1).2.mono ?_;rintro e w2 ⟨ob,m,K,rfl,hM2,hn2,hm2,hob2,hB2⟩;have hl2:=HC.o.2.2.2.1 w2 ob m K hM2 hn2 hm2;have HB2:=hide (HB1.o.1.trans (hB2.mono HB1.o.1.size));clear hM2 hn2 hm2 hob2 hB2))
      go_ret
      exact ⟨by rw [HR.o];rfl,HB2.o⟩
     ·have i5:¬(0:Int) < (B:Int):=by omega
      have hR:=HP.o.1
      rw [if_neg (by simpa using hb0)] at hR
      clear hb0
      cases hrg:Rg with
      | true=>
       subst hrg
       rw [if_pos rfl] at hR
       have HR:=hide hR
       clear hR
       go_wp2_with (first
        | (go_at_call 79;refine (qR HD).mono ?_;rintro e w1 ⟨mb,n,rfl,hM1,hn1,hmb1,hB1⟩;have hB1':=HV.o.2.trans (hB1.mono hzV);have HB1:=hide (ai9 hB1' (HC.o.2.2.1 w1 mb n hM1));clear hM1 hn1 hmb1 hB1 hB1')
        | (go_at_call 80;refine (qR HB1).2.mono ?_;rintro e w2 ⟨ob,m,K,rfl,hM2,hn2,hm2,hob2,hB2⟩;have hl2:=HC.o.2.2.2.1 w2 ob m K hM2 hn2 hm2;have HB2:=hide (HB1.o.1.trans (hB2.mono HB1.o.1.size));clear hM2 hn2 hm2 hob2 hB2)
        | (go_at_call 81;refine (HP.o.2 w2 HB2.o).mono ?_;rintro e w3 ⟨rfl,hB3⟩))
       go_ret
       exact ⟨by rw [HR.o];rfl,HB2.o.trans (hB3.mono HB2.o.size)⟩
      | false=>
       subst hrg
       rw [if_neg (by simp)] at hR
       have HR:=hide hR
       clear hR
       go_wp2_with (first
        | (go_at_call 79;refine (qR HD).mono ?_;rintro e w1 ⟨mb,n,rfl,hM1,hn1,hmb1,hB1⟩;have hB1':=HV.o.2.trans (hB1.mono hzV);have HB1:=hide (ai9 hB1' (HC.o.2.2.1 w1 mb n hM1));clear hM1 hn1 hmb1 hB1 hB1')
        | (go_at_call 80;refine (qR HB1).2.mono ?_;rintro e w2 ⟨ob,m,K,rfl,hM2,hn2,hm2,hob2,hB2⟩;have hl2:=HC.o.2.2.2.1 w2 ob m K hM2 hn2 hm2;have HB2:=hide (HB1.o.1.trans (hB2.mono HB1.o.1.size));clear hM2 hn2 hm2 hob2 hB2)
        | (go_at_call 81;refine (HP.o.2 w2 HB2.o).mono ?_;rintro e w3 ⟨rfl,hB3⟩))
       go_ret
       exact ⟨by rw [HR.o];rfl,HB2.o.trans (hB3.mono HB2.o.size)⟩
theorem zG8 (A:Option Addr) (c:Nat) (ts:List Tri) (w:World) (hs:Sl encT 9 w w.heap.size A ts) (hl:ts.length≤100000000) (hf:∀t∈ts,fitsT t):
  Calls Tryz.prog 19 #[.slice A ts.length c] w fun e w'=>e= .returned (.int .i64 (yN ts false))∧Below w.heap.size w w':=by
 have hc:=zHM A c ts false w hs hl hf
 obtain ⟨R,hR⟩:=ex9 (yN ts false)
 obtain ⟨M,hM⟩:=ex9 (ts.length)
 rw [←hR,←hM] at hc⊢
 have HC:=hide hc
 clear hs hf hR hM hc hl
 go_enter Tryz.func19,Tryz.ntmps19
 go_wp2_with (go_at_call 47;refine (qR HC).mono ?_;rintro e w1 ⟨rfl,hB1⟩)
 go_ret
 exact ⟨rfl,hB1⟩
end Go.Proofs.YtmemofonebphfaaGreat
namespace Go.Proofs.YtmemofonebphfaaGreat
open Go.RowKit Go.Sort Go.WideMaps Go.Maps Go.Shelf
def nrmL (t:List Pt):List E2:=(dirE t).map fun e=>nrmE e.1 e.2
theorem zI1 {t:List Pt} {i:Nat} {x:Pt} (h:t[i]? =some x):nrmL (t.take (i+1))=nrmL (t.take i)++ [nrmE x.1 x.2.1,nrmE x.2.1 x.2.2,nrmE x.2.2 x.1]:=by
 unfold nrmL dirE
 rw [take_at h,List.flatMap_append,List.flatMap_singleton,List.map_append]
 rfl
theorem zPF {w:World} {ob m:Nat} {J K:List E2} (hM:MapK Tryz.prog 115 vE2 yG w ob m (yR J)) (hn:K.Nodup) (hf:∀p∈K,yG p) (hk:∀p,p∈K ↔ p∈J):(Builtin.len_ #[83] 3 #[.map (some ob)]).run Tryz.prog w= .ok (.int .i64 K.length) w:=by
 refine MapK.len kfSE (t:=83) (e:=4) hM Tryz.underlying83 K hn hf (fun p _=> ?_) _
 rw [hk]
 unfold yR
 by_cases h:p∈J
 ·rw [if_pos h];exact ⟨fun _ e=>(by cases e),fun _=>h⟩
 ·rw [if_neg h];exact ⟨fun h'=>absurd h' h,fun h'=>absurd rfl h'⟩
theorem zFK {t:List Pt} (h:yN (t.map numT) false=0) {q:E2}:q∈nrmL t ↔ q∈zH t:=by
 obtain ⟨h1,_,h3,_⟩:=vW.1 h
 unfold nrmL
 rw [List.mem_map]
 constructor
 ·rintro ⟨e,he,rfl⟩
  have hs:=h3 e he
  have hne:e.1≠e.2:=by
   obtain ⟨x,hx,hd⟩:=zX.1 he
   have:=h1 x hx
   rcases yM.1 hd with rfl | rfl | rfl
   ·exact this.1
   ·exact this.2.1
   ·exact this.2.2
  rcases Int.lt_or_gt_of_ne hne with hlt | hlt
  ·rw [qB hlt];exact zZ.2 ⟨he,hlt⟩
  ·rw [dK,qB hlt];exact zZ.2 ⟨hs,hlt⟩
 ·intro hq
  obtain ⟨hd,hlt⟩:=zZ.1 hq
  exact ⟨q,hd,qB hlt⟩
theorem zI5 {t:List Pt} (h:yN (t.map numT) false=0) (q:E2):memB (nrmL t) q=(zH t).contains q:=by
 rw [Bool.eq_iff_iff,zBU,List.contains_iff_mem]
 exact zFK h
structure WrS (w W:World) (g gj mj cnt:Nat) (ctl:Array Value) (nv:Value) (n:Nat) (xs:List Tri) (J:List E2):Prop where
 bel:Below w.heap.size w W
 b1:Blk W g 32 ctl
 bj:Blk W gj 83 #[.map (some mj)]
 op:Own encT 9 46 W w.heap.size nv n xs
 mp:MapK Tryz.prog 115 vE2 yG W mj cnt (yR J)
 le:w.heap.size≤mj
 ne:g≠mj∧gj≠mj
section
variable {w W W':World} {g gj mj cnt:Nat} {ctl:Array Value} {nv:Value} {n:Nat} {xs:List Tri} {J:List E2}
theorem WrS.below (h:WrS w W g gj mj cnt ctl nv n xs J) (hB:Below W.heap.size W W'):WrS w W' g gj mj cnt ctl nv n xs J:=
 ⟨h.bel.trans (hB.mono h.bel.size),h.b1.below hB h.b1.lt,h.bj.below hB h.bj.lt,h.op.below hB lr9,h.mp.below hB h.mp.lt,h.le,h.ne⟩
theorem WrS.upj {J':List E2} {cnt':Nat} (h:WrS w W g gj mj cnt ctl nv n xs J) (hg:W.grownBy W' (some mj)) (hm:MapK Tryz.prog 115 vE2 yG W' mj cnt' (yR J')):WrS w W' g gj mj cnt' ctl nv n xs J':=
 ⟨h.bel.trans (yK hg h.le h.bel.size),h.b1.grown hg (fun e=>h.ne.1 (Option.some.inj e)),h.bj.grown hg (fun e=>h.ne.2 (Option.some.inj e)),h.op.kept hg (.inr (vI h.op h.mp)),hm,h.le,h.ne⟩
theorem WrS.app {v6:Value} {n':Nat} {xs':List Tri} (h:WrS w W g gj mj cnt ctl nv n xs J) (hg:W.grownBy W' nv.ownBlock) (ho:Own encT 9 46 W' w.heap.size v6 n' xs'):WrS w W' g gj mj cnt ctl v6 n' xs' J:=
 ⟨h.bel.trans (qP hg (fun r hr=>(h.op.blk r hr).1) h.bel.size),h.b1.grown hg (zF h.b1 h.op (show (46:TypeId)≠32 by decide)),h.bj.grown hg (zF h.bj h.op (show (46:TypeId)≠83 by decide)),ho,h.mp.kept hg (Ne.symm (vI h.op h.mp)),h.le,h.ne⟩
end
theorem zN8 (args:Array Value) (W:World):(callFunc 75 args).run Tryz.prog W= .ok (.enter 75 args) W:=
 enters_of Tryz.func75 (by kernel_rfl) rfl args W
set_option maxRecDepth 100000 in
set_option maxHeartbeats 32000000 in
theorem zLP (gj mj cnt:Nat) (J:List E2) (x:E2) (w:World) (hj:Blk w gj 83 #[.map (some mj)]) (hm:MapK Tryz.prog 115 vE2 yG w mj cnt (yR J)) (hf:yG x):
  Calls Tryz.prog 75 #[vE2 x, .pointer (some ⟨gj,0,none⟩)] w fun e w'=>e= .returned (.bool (!memB J (nrmE x.1 x.2)))∧Below w.heap.size w w':=by
 have hfx:=vS hf
 have hbt:=y8 x.1 x.2
 have hlk:∀W,Below w.heap.size w W→(Instr.lookup 83 (.map (some mj)) (vE2 (nrmE x.1 x.2)) false).run Tryz.prog W= .ok (.bool (memB J (nrmE x.1 x.2))) W:=fun W hW=>by
  have h:=(hm.below hW hm.lt).lookup kfSE (t:=83) (e:=4) Tryz.underlying83 (z:= .bool false) rfl (nrmE x.1 x.2) hfx
  rw [qV] at h
  exact h
 obtain ⟨p,hp⟩:=ex9 (nrmE x.1 x.2)
 rw [←hp] at hlk hbt⊢
 obtain ⟨b,hb⟩:=ex9 (memB J p)
 rw [←hb] at hlk⊢
 obtain ⟨x1,x2⟩:=x
 obtain ⟨gb,hgb⟩:=ex9 (w.heap.size)
 obtain ⟨X,hX⟩:=ex9 (w.alloc (.cells #[.int .i64 x1, .int .i64 x2] 56))
 have hBX:Below w.heap.size w X:=by rw [hX];exact (Below.refl _ w).alloc lr9 _
 have hKX:Blk X gb 56 #[.int .i64 x1, .int .i64 x2]:=by rw [hX,hgb];exact Blk.new _ _ _
 have HK:=hide (ai9 hlk (ai9 hbt (ai9 hBX (ai9 hKX (hj.below hBX hj.lt)))))
 clear hlk hbt hBX hKX hj hm hf hfx hp hb
 go_enter Tryz.func75,Tryz.ntmps75
 go_upto_region 1 with fail
 rw [←hX,←hgb]
 clear hX hgb
 have HSB:=hide (show Below X.heap.size X X.drew from (Below.refl _ X).drew)
 refine zB (fun W=>Below X.heap.size X W) [0,1,2,3,4,6,7,8] [0,1,2,3,4,5,6,7,8] zL (by kernel_rfl) ?_
 refine zA (v:=(.map (some mj))) rfl rfl (fun _ _ _ h=>h) HSB.o ⟨rfl,fun _ h'=>by have a0:=(h'.cell (p:=⟨gj,0,none⟩) HK.o.2.2.2.2.lt).trans (HK.o.2.2.2.2.cell 0);simp only [List.getElem?_toArray,List.getElem?_cons_zero] at a0;simp [go_sem,a0]⟩ ?_
 refine zA (v:=(.pointer (some ⟨gb,0,none⟩))) rfl rfl (fun _ _ _ h=>h) HSB.o ⟨rfl,fun _ _=>by simp [go_sem]⟩ ?_
 refine zA (v:=(.int .i64 x1)) rfl rfl (fun _ _ _ h=>h) HSB.o ⟨rfl,fun _ h'=>by have a0:=(h'.cell (p:=⟨gb,0,none⟩) HK.o.2.2.2.1.lt).trans (HK.o.2.2.2.1.cell 0);simp only [List.getElem?_toArray,List.getElem?_cons_zero] at a0;simp [go_sem,a0]⟩ ?_
 refine zA (v:=(.pointer (some ⟨gb,1,none⟩))) rfl rfl (fun _ _ _ h=>h) HSB.o ⟨rfl,fun _ _=>by simp [go_sem]⟩ ?_
 refine zA (v:=(.int .i64 x2)) rfl rfl (fun _ _ _ h=>h) HSB.o ⟨rfl,fun _ h'=>by have a1:=(h'.cell (p:=⟨gb,1,none⟩) HK.o.2.2.2.1.lt).trans (HK.o.2.2.2.1.cell 1);simp only [List.getElem?_toArray,List.getElem?_cons_zero,List.getElem?_cons_succ] at a1;simp [go_sem,a1]⟩ ?_
 simp only [List.getElem_toArray,List.getElem_cons_succ,List.getElem_cons_zero,Act.put,List.setIfInBounds_toArray,List.set_cons_succ,List.set_cons_zero]
 refine zD rfl rfl ?_
 go_wp2_with fail
 refine (HK.o.2.1 X.drew).mono ?_
 rintro e W5 ⟨rfl,hB⟩
 have HSC:=hide (HSB.o.trans (hB.mono HSB.o.size))
 clear hB HSB
 go_wp2_with fail
 refine ⟨fun _=>HSC.o,?_⟩
 refine zA (v:=(.bool b)) rfl rfl (fun _ _ _ h=>h) HSC.o ⟨rfl,fun _ h'=>by have a0:=HK.o.1 _ (HK.o.2.2.1.trans (h'.mono HK.o.2.2.1.size));simp [go_sem,a0]⟩ ?_
 refine zA (v:=(.bool (!b))) rfl rfl (fun _ _ _ h=>h) HSC.o ⟨rfl,fun _ _=>by simp [go_sem]⟩ ?_
 refine zA (v:=(.bool (!b))) rfl rfl (fun _ _ _ h=>h) HSC.o ⟨rfl,fun _ _=>by simp [go_sem]⟩ ?_
 simp only [List.getElem_toArray,List.getElem_cons_succ,List.getElem_cons_zero,Act.put,List.setIfInBounds_toArray,List.set_cons_succ,List.set_cons_zero]
 refine xB ?_
 go_wp2
 go_ret
 exact ⟨rfl,HK.o.2.2.1.trans (HSC.o.mono HK.o.2.2.1.size)⟩
set_option maxRecDepth 100000 in set_option maxHeartbeats 64000000 in
theorem zHV (Ap At Ac Ao Ad:Option Addr) (cp ct cc oc dc:Nat) (c:Ctl) (w:World) (hm:CtlM w w.heap.size Ap At Ac Ao Ad c) (hb:CtlB c) (hfs:fits c.steps):
  Calls Tryz.prog 40 #[vCtl Ap c.points.length cp At c.tris.length ct Ac c.creases.length cc Ao c.corners.length oc c.steps Ad c.details.length dc] w fun e w'=>e= .returned (.int .i64 (errC c))∧Below w.heap.size w w':=by
 have ki:=fun (W:World) (hW:Below w.heap.size w W)=>zH7 Ap At Ac Ao Ad cp ct cc oc c.details.length dc c W (hm.below hW hW.size) hb
 have kr:=fun (W:World) (hW:Below w.heap.size w W) (hi:Int)=>wR Ap cp c.points 0 hi W ((hm.below hW hW.size).p) (by have:=hb.p;omega)
 obtain ⟨np,hnp⟩:=ex9 (c.points.length)
 obtain ⟨nt,hnt⟩:=ex9 (c.tris.length)
 obtain ⟨nc,hnc⟩:=ex9 (c.creases.length)
 obtain ⟨no,hno⟩:=ex9 (c.corners.length)
 obtain ⟨nd,hnd⟩:=ex9 (c.details.length)
 obtain ⟨st,hst⟩:=ex9 (c.steps)
 obtain ⟨R,hR⟩:=ex9 (errC c)
 have hpl:np≤100000:=by rw [hnp];exact hb.p
 have htl:nt≤100000:=by rw [hnt];exact hb.t
 have hcl:nc≤100000:=by rw [hnc];exact hb.cr
 have hol:no≤100000:=by rw [hno];exact hb.o
 have hdl:nd≤100000:=by rw [hnd];exact hb.d
 have ha:argC c=(decide (st < 0) || decide (4 < st) || decide (st < (nd:Int))):=by rw [hst,hnd];rfl
 have r1:argC c=true→R=1:=fun h=>by rw [hR];unfold errC;rw [if_pos h]
 have r2:argC c=false→qA c=true→R=14:=fun h1 h2=>by rw [hR];unfold errC;rw [if_neg (by rw [h1];simp),if_pos h2]
 have r3:argC c=false→qA c=false→yN (c.tris.map numT) false≠0→R=yN (c.tris.map numT) false:=fun h1 h2 h3=>by rw [hR];unfold errC;rw [if_neg (by rw [h1];simp),if_neg (by rw [h2];simp),if_pos h3]
 have r4:argC c=false→qA c=false→yN (c.tris.map numT) false=0→R=if wM c.tris c.creases=true then 13 else if bZ c=true then 2 else if farC c=true then 3 else 0:=fun h1 h2 h3=>by rw [hR];unfold errC;rw [if_neg (by rw [h1];simp),if_neg (by rw [h2];simp),if_neg (by simpa using h3)]
 rw [←hR,←hnp,←hnt,←hnc,←hno,←hnd,←hst]
 simp only [←hnp,←hnt,←hnc,←hno,←hnd,←hst] at ki kr
 have hfs': -9223372036854775808≤st∧st≤9223372036854775807:=by rw [hst];exact hfs
 have HS:=hide (ai9 hm (ai9 hb (ai9 hnp (ai9 hnt (ai9 hnc (ai9 hno (ai9 hnd hst)))))))
 have HK:=hide (ai9 ki kr)
 have HR:=hide (ai9 r1 (ai9 r2 (ai9 r3 (ai9 r4 ha))))
 clear hm hb hnp hnt hnc hno hnd hst hR r1 r2 r3 r4 ki kr ha hfs
 have hmm:=@run_makeMap Tryz.prog
 go_enter Tryz.func40,Tryz.ntmps40
 go_upto_region 1 with fail
 obtain ⟨g,hg⟩:=ex9 (w.heap.size)
 obtain ⟨X,hX⟩:=ex9 (w.alloc (.cells (cCtl Ap np cp At nt ct Ac nc cc Ao no oc st Ad nd dc) 32))
 rw [←hX,←hg]
 have hbX:Blk X g 32 (cCtl Ap np cp At nt ct Ac nc cc Ao no oc st Ad nd dc):=by rw [hX,hg];exact Blk.new _ _ _
 have hBX:Below w.heap.size w X:=by rw [hX];exact (Below.refl _ w).alloc lr9 _
 obtain ⟨z0,z1,z2,z3,z4,z5⟩:=hbX.six9
 have hgl:=hbX.lt
 have HX:=hide (ai9 hbX hBX)
 clear hbX hBX hX hg
 by_cases s1:st < 0
 ·have hr:=HR.o.1 (by rw [HR.o.2.2.2.2];simp [s1])
  have HQ:=hide hr
  clear hr
  go_wp2
  go_ret
  exact ⟨by rw [HQ.o];rfl,HX.o.2⟩
 ·by_cases s2:4 < st
  ·have hr:=HR.o.1 (by rw [HR.o.2.2.2.2];simp [s2])
   have HQ:=hide hr
   clear hr
   go_wp2
   go_ret
   exact ⟨by rw [HQ.o];rfl,HX.o.2⟩
  ·by_cases s3:st < (nd:Int)
   ·have hr:=HR.o.1 (by rw [HR.o.2.2.2.2];simp [s3])
    have HQ:=hide hr
    clear hr
    go_wp2
    go_ret
    exact ⟨by rw [HQ.o];rfl,HX.o.2⟩
   ·have hA:argC c=false:=by rw [HR.o.2.2.2.2];simp [s1,s2,s3]
    obtain ⟨sn,hsn⟩:∃n:Nat,st=n:=⟨st.toNat,by omega⟩
    subst hsn
    have hs4:sn≤4:=by omega
    have hsd:nd≤sn:=by omega
    have HA:=hide hA
    have k1:=HK.o.1 X HX.o.2
    cases hix:qA c with
    | true=>
     rw [hix] at k1
     have hr:=HR.o.2.1 hA hix
     have HQ:=hide (ai9 hr k1)
     clear hr k1 hA hix
     go_wp2_with (go_at_call 72;refine HQ.o.2.mono ?_;rintro e W1 ⟨rfl,hB⟩;have H1:=hide (HX.o.2.trans (hB.mono HX.o.2.size));clear hB)
     go_ret
     exact ⟨by rw [HQ.o.1];rfl,H1.o⟩
    | false=>
     rw [hix] at k1
     have HI:=hide (ai9 hix k1)
     clear k1 hA hix
     go_upto_region 5 with (go_at_call 72;refine HI.o.2.mono ?_;rintro e W1 ⟨rfl,hB⟩;have H1:=hide (ai9 (HX.o.2.trans (hB.mono HX.o.2.size)) (HX.o.1.below hB HX.o.1.lt));clear hB)
     clear z0 z1 z2 z3 z4 z5 hgl
     go_upto_region 7 with fail
     clear hmm
     obtain ⟨mj,hmj⟩:=ex9 (W1.heap.size)
     obtain ⟨gj,hgj⟩:=ex9 (W1.heap.size+1)
     obtain ⟨X2,hX2⟩:=ex9 ((W1.alloc (.map #[] 0)).alloc (.cells #[.map (some W1.heap.size)] 83))
     rw [←hX2,←hgj]
     have hS0:WrS w X2 g gj mj 0 (cCtl Ap np cp At nt ct Ac nc cc Ao no oc sn Ad nd dc) (.slice none 0 0) 0 [] []:=by
      have hm1:=MapK.made Tryz.prog 115 vE2 yG W1
      rw [←hmj] at hm1
      have e1:(fun _=>none:E2→Option Value)=yR []:=by funext q;simp [yR]
      rw [e1] at hm1
      have a1:Below W1.heap.size W1 (W1.alloc (.map #[] 0)):=(Below.refl _ _).alloc lr9 _
      have a2:Below (W1.alloc (.map #[] 0)).heap.size (W1.alloc (.map #[] 0)) X2:=by rw [hX2];exact (Below.refl _ _).alloc lr9 _
      have hsz:=H1.o.1.size
      have hgl:=H1.o.2.lt
      have b1:=(H1.o.2.below a1 hgl).below a2 (H1.o.2.below a1 hgl).lt
      have bj:Blk X2 gj 83 #[.map (some mj)]:=by rw [hX2,hgj,hmj];exact Blk.new' _ _ _ _ (by simp)
      have B1:=H1.o.1.trans (a1.mono hsz)
      exact ⟨B1.trans (a2.mono B1.size),b1,bj,Own.nil,hm1.below a2 hm1.lt,by omega,by omega⟩
     have z1:X2.cell? ⟨g,1,none⟩=some (.slice At nt ct):=hS0.b1.cell 1
     have hgl:=hS0.b1.lt
     have HS0:=hide hS0
     clear hS0 hX2 hmj hgj
     go_upto_region 8 with fail
     clear z1 hgl
     go_loopw [3,41] (fun nv iv wr=>∃i cnt:Nat,i≤nt∧iv= .int .i64 i∧WrS w wr g gj mj cnt (cCtl Ap np cp At nt ct Ac nc cc Ao no oc sn Ad nd dc) nv i ((c.tris.take i).map numT) (nrmL (c.tris.take i))∧cnt≤3*i) (fun _ iv _=>nt - (intOf iv).toNat)
     case atStart=>exact ⟨0,0,by omega,rfl,by rw [List.take_zero];exact HS0.o,by omega⟩
     case round=>
      obtain ⟨i,cnt,hi,rfl,hS,hcnt⟩:=hrel
      obtain ⟨V,rfl⟩:=ex9 (wr)
      obtain ⟨Al,cl,rfl⟩:=hS.op.form
      have hix9:∀x∈c.tris,∀n∈xK x,0≤n∧n < (np:Int):=fun x hx n hn=>by
       have h:=HI.o.1
       unfold qA at h
       simp only [Bool.or_eq_false_iff] at h
       rw [HS.o.2.2.1]
       exact jR h.1.1 n (List.mem_flatMap.2 ⟨x,hx,hn⟩)
      by_cases hlt:i < nt
      ·have i1:(i:Int) < (nt:Int):=by omega
       obtain ⟨x,hx⟩:∃x,c.tris[i]? =some x:=⟨_,List.getElem?_eq_getElem (by rw [←HS.o.2.2.2.1];exact hlt)⟩
       obtain ⟨bb,o,hAt,hbb,c0,c1,c2⟩:=(HS.o.1.t.below hS.bel).n3 hx
       subst hAt
       have hbV2:bb < V.heap.size:=Nat.lt_of_lt_of_le hbb hS.bel.size
       have htk:(c.tris.take (i+1)).map numT=(c.tris.take i).map numT++ [numT x]:=by rw [List.take_add_one,hx,List.map_append];rfl
       have hnk:=zI1 hx
       have hxf:∀n∈xK x,fits n:=fun n hn=>by have:=hix9 x (List.mem_of_getElem? hx) n hn;unfold fits;omega
       obtain ⟨x1,x2,x3⟩:=x
       simp only at c0 c1 c2
       have hf1:=hxf x1 (by simp [xK])
       have hf2:=hxf x2 (by simp [xK])
       have hf3:=hxf x3 (by simp [xK])
       have HV:=hide (ai9 hS (ai9 htk (ai9 hnk (ai9 hf1 (ai9 hf2 hf3)))))
       clear hS htk hnk hx hbb hxf hf1 hf2 hf3 hix9
       go_upto_region 10 with fail
       obtain ⟨Y,hY⟩:=ex9 (V.alloc (.cells #[.int .i64 x1, .int .i64 x2, .int .i64 x3] 35))
       obtain ⟨gy,hgy⟩:=ex9 (V.heap.size)
       have hbY:Blk Y gy 35 #[.int .i64 x1, .int .i64 x2, .int .i64 x3]:=by rw [hY,hgy];exact Blk.new _ _ _
       have hSY:=HV.o.1.below (show Below V.heap.size V Y by rw [hY];exact (Below.refl _ V).alloc lr9 _)
       have hgo:gy≠mj:=by have:=HV.o.1.mp.lt;omega
       rw [←hY,←hgy]
       have HY:=hide (ai9 hSY (ai9 hbY hgo))
       obtain ⟨y0,y1,y2⟩:=hbY.three
       have hgyl:=hbY.lt
       have hzY:=hSY.bel.size
       clear c0 c1 c2 hbV2 hY hgy hbY hSY hgo
       go_upto_region 11 with (at_builtin;refine zC rfl _ _ _ rfl Tryz.underlying44 kF rfl (by omega) zW yU rfl (HY.o.1.op.alloc _) Y.heap.size 1 (numT (x1,x2,x3):Tri) rfl (Blk.new _ _ _) (by unfold maxLen;omega) (by omega) (by simp;omega) ?_;intro g5 cap5 w5 hown5 hg5 hB5 hat5 hgb5 hlt5;have H5:=hide (ai9 hown5 hg5);clear hown5 hg5 hB5 hat5 hgb5 hlt5)
       clear y0 y1 y2 hgyl hzY
       have hal:Below Y.heap.size Y (Y.alloc (.cells (encT (numT (x1,x2,x3))).toArray 46)):=(Below.refl _ Y).alloc lr9 _
       have hSa:=HY.o.1.below hal
       have hS5:=hSa.app H5.o.2 H5.o.1
       have hKa:=HY.o.2.1.below hal HY.o.2.1.lt
       have hK5:=hKa.grown H5.o.2 (zF hKa hSa.op (show (46:TypeId)≠35 by decide))
       have y0:w5.cell? ⟨gy,0,none⟩=some (.int .i64 x1):=hK5.cell 0
       have y1:w5.cell? ⟨gy,1,none⟩=some (.int .i64 x2):=hK5.cell 1
       have y2:w5.cell? ⟨gy,2,none⟩=some (.int .i64 x3):=hK5.cell 2
       have hgyl:=hK5.lt
       rw [←HV.o.2.1] at hS5
       have H6:=hide (ai9 hS5 hK5)
       clear hal hSa hS5 hKa hK5
       go_upto_region 12 with fail
       clear y0 y1 y2 hgyl
       go_loopw [59] (fun jv wz=>∃(j cn:Nat),j≤3∧jv= .int .i64 j∧WrS w wz g gj mj cn (cCtl Ap np cp (some ⟨bb,o,none⟩) nt ct Ac nc cc Ao no oc sn Ad nd dc) (.slice (some ⟨g5,0,none⟩) (i+1) cap5) (i+1) ((c.tris.take (i+1)).map numT) (nrmL (c.tris.take i)++ [nrmE x1 x2,nrmE x2 x3,nrmE x3 x1].take j)∧Blk wz gy 35 #[.int .i64 x1, .int .i64 x2, .int .i64 x3]∧cn≤cnt+j) (fun jv _=>3 - (intOf jv).toNat)
       case atStart=>exact ⟨0,cnt,by omega,rfl,by rw [List.take_zero,List.append_nil];exact H6.o.1,H6.o.2,by omega⟩
       case round=>
        obtain ⟨j,cn,hj,rfl,hS,hK,hcn⟩:=hrel
        obtain ⟨U,rfl⟩:=ex9 (wr)
        have a1:IntKind.i64.wrap 1=1:=by decide
        have a2:IntKind.i64.wrap 2=2:=by decide
        have a3:IntKind.i64.wrap 3=3:=by decide
        have a0:IntKind.i64.wrap 0=0:=by decide
        have hc:j=0∨j=1∨j=2∨j=3:=by omega
        rcases hc with rfl | rfl | rfl | rfl
        ·have ix:=zM4 (.int .i64 x1) (.int .i64 x2) (.int .i64 x3)
         have hbt:=y8 x1 x2
         have hfp:yG (nrmE x1 x2):=vS (e:=(x1,x2)) ⟨HV.o.2.2.2.1,HV.o.2.2.2.2.1⟩
         obtain ⟨p,hp⟩:=ex9 (nrmE x1 x2)
         have hfp2:yG p:=by rw [hp];exact hfp
         rw [←hp] at hbt
         have hsnoc:nrmL (c.tris.take i)++ [nrmE x1 x2,nrmE x2 x3,nrmE x3 x1].take (0+1)=(nrmL (c.tris.take i)++ [nrmE x1 x2,nrmE x2 x3,nrmE x3 x1].take 0)++ [p]:=by rw [hp];simp
         have HU:=hide (ai9 hS (ai9 hK (ai9 hbt (ai9 hfp2 hsnoc))))
         clear hS hK hbt hfp hfp2 hsnoc hp
         go_upto_region 14 with fail
         have HSB:=hide (show Below U.heap.size U U.drew from (Below.refl _ U).drew)
         refine zB (fun W=>Below U.heap.size U W) [0,1,2,3,4,5,6] [0,1,2,3,4,5,6,7,8] zL (by kernel_rfl) ?_
         refine zA (v:=(.map (some mj))) rfl rfl (fun _ _ _ h=>h) HSB.o ⟨rfl,fun _ h'=>by have a0:=(h'.cell (p:=⟨gj,0,none⟩) HU.o.1.bj.lt).trans (HU.o.1.bj.cell 0);simp only [List.getElem?_toArray,List.getElem?_cons_zero] at a0;simp [go_sem,a0]⟩ ?_
         refine zA (v:=(.int .i64 x1)) rfl rfl (fun _ _ _ h=>h) HSB.o ⟨rfl,fun _ _=>by simp [go_sem]⟩ ?_
         refine zA (v:=(.int .i64 0)) rfl rfl (fun _ _ _ h=>h) HSB.o ⟨rfl,fun _ _=>by simp [go_sem]⟩ ?_
         refine zA (v:=(.int .i64 1)) rfl rfl (fun _ _ _ h=>h) HSB.o ⟨rfl,fun _ _=>by simp [go_sem,a1]⟩ ?_
         refine zA (v:=(.int .i64 1)) rfl rfl (fun _ _ _ h=>h) HSB.o ⟨rfl,fun _ _=>by simp [go_sem]⟩ ?_
         refine zA (v:=(.pointer (some ⟨gy,1,none⟩))) rfl rfl (fun _ _ _ h=>h) HSB.o ⟨rfl,fun _ _=>by simp [go_sem]⟩ ?_
         simp only [List.getElem_toArray,List.getElem_cons_succ,List.getElem_cons_zero,Act.put,List.setIfInBounds_toArray,List.set_cons_succ,List.set_cons_zero]
         refine zA (v:=(.int .i64 x2)) rfl rfl (fun _ _ _ h=>h) HSB.o ⟨rfl,fun _ h'=>by have a0:=(h'.cell (p:=⟨gy,1,none⟩) HU.o.2.1.lt).trans (HU.o.2.1.cell 1);simp only [List.getElem?_toArray,List.getElem?_cons_zero,List.getElem?_cons_succ] at a0;simp [go_sem,a0]⟩ ?_
         simp only [List.getElem_toArray,List.getElem_cons_succ,List.getElem_cons_zero,Act.put,List.setIfInBounds_toArray,List.set_cons_succ,List.set_cons_zero]
         refine zD rfl rfl ?_
         go_wp2_with fail
         refine (HU.o.2.2.1 U.drew).mono ?_
         rintro e W5 ⟨rfl,hB⟩
         have hBU:=HSB.o.trans (hB.mono HSB.o.size)
         have hS5:=HU.o.1.below hBU
         obtain ⟨w6,hrun,hm6,hg6,hz6⟩:=hS5.mp.update kfSE (t:=83) (e:=4) Tryz.underlying83 (by unfold maxLen;omega) p HU.o.2.2.2.1 (.bool true)
         rw [gB,←HU.o.2.2.2.2] at hm6
         have H7:=hide (ai9 hBU (ai9 (hS5.upj hg6 hm6) ((HU.o.2.1.below hBU HU.o.2.1.lt).grown hg6 (fun e=>HY.o.2.2 (Option.some.inj e)))))
         clear hB hBU hS5 hg6 hm6 hz6
         go_wp2_with fail
         refine ⟨fun _=>H7.o.1,?_⟩
         refine zJ _ [_] (by kernel_rfl) rfl ?_
         go_wp2
         go_roundw
         case rel=>exact ⟨1,cn+1,by omega,by go_num,H7.o.2.1,H7.o.2.2,by omega⟩
         case measure=>(simp [intOf];try omega)
        ·have ix:=zNC (.int .i64 x1) (.int .i64 x2) (.int .i64 x3)
         have hbt:=y8 x2 x3
         have hfp:yG (nrmE x2 x3):=vS (e:=(x2,x3)) ⟨HV.o.2.2.2.2.1,HV.o.2.2.2.2.2⟩
         obtain ⟨p,hp⟩:=ex9 (nrmE x2 x3)
         have hfp2:yG p:=by rw [hp];exact hfp
         rw [←hp] at hbt
         have hsnoc:nrmL (c.tris.take i)++ [nrmE x1 x2,nrmE x2 x3,nrmE x3 x1].take (1+1)=(nrmL (c.tris.take i)++ [nrmE x1 x2,nrmE x2 x3,nrmE x3 x1].take 1)++ [p]:=by rw [hp];simp
         have HU:=hide (ai9 hS (ai9 hK (ai9 hbt (ai9 hfp2 hsnoc))))
         clear hS hK hbt hfp hfp2 hsnoc hp
         go_upto_region 14 with fail
         have HSB:=hide (show Below U.heap.size U U.drew from (Below.refl _ U).drew)
         refine zB (fun W=>Below U.heap.size U W) [0,1,2,3,4,5,6] [0,1,2,3,4,5,6,7,8] zL (by kernel_rfl) ?_
         refine zA (v:=(.map (some mj))) rfl rfl (fun _ _ _ h=>h) HSB.o ⟨rfl,fun _ h'=>by have a0:=(h'.cell (p:=⟨gj,0,none⟩) HU.o.1.bj.lt).trans (HU.o.1.bj.cell 0);simp only [List.getElem?_toArray,List.getElem?_cons_zero] at a0;simp [go_sem,a0]⟩ ?_
         refine zA (v:=(.int .i64 x2)) rfl rfl (fun _ _ _ h=>h) HSB.o ⟨rfl,fun _ _=>by simp [go_sem]⟩ ?_
         refine zA (v:=(.int .i64 1)) rfl rfl (fun _ _ _ h=>h) HSB.o ⟨rfl,fun _ _=>by simp [go_sem]⟩ ?_
         refine zA (v:=(.int .i64 2)) rfl rfl (fun _ _ _ h=>h) HSB.o ⟨rfl,fun _ _=>by simp [go_sem,a2]⟩ ?_
         refine zA (v:=(.int .i64 2)) rfl rfl (fun _ _ _ h=>h) HSB.o ⟨rfl,fun _ _=>by simp [go_sem]⟩ ?_
         refine zA (v:=(.pointer (some ⟨gy,2,none⟩))) rfl rfl (fun _ _ _ h=>h) HSB.o ⟨rfl,fun _ _=>by simp [go_sem]⟩ ?_
         simp only [List.getElem_toArray,List.getElem_cons_succ,List.getElem_cons_zero,Act.put,List.setIfInBounds_toArray,List.set_cons_succ,List.set_cons_zero]
         refine zA (v:=(.int .i64 x3)) rfl rfl (fun _ _ _ h=>h) HSB.o ⟨rfl,fun _ h'=>by have a0:=(h'.cell (p:=⟨gy,2,none⟩) HU.o.2.1.lt).trans (HU.o.2.1.cell 2);simp only [List.getElem?_toArray,List.getElem?_cons_zero,List.getElem?_cons_succ] at a0;simp [go_sem,a0]⟩ ?_
         simp only [List.getElem_toArray,List.getElem_cons_succ,List.getElem_cons_zero,Act.put,List.setIfInBounds_toArray,List.set_cons_succ,List.set_cons_zero]
         refine zD rfl rfl ?_
         go_wp2_with fail
         refine (HU.o.2.2.1 U.drew).mono ?_
         rintro e W5 ⟨rfl,hB⟩
         have hBU:=HSB.o.trans (hB.mono HSB.o.size)
         have hS5:=HU.o.1.below hBU
         obtain ⟨w6,hrun,hm6,hg6,hz6⟩:=hS5.mp.update kfSE (t:=83) (e:=4) Tryz.underlying83 (by unfold maxLen;omega) p HU.o.2.2.2.1 (.bool true)
         rw [gB,←HU.o.2.2.2.2] at hm6
         have H7:=hide (ai9 hBU (ai9 (hS5.upj hg6 hm6) ((HU.o.2.1.below hBU HU.o.2.1.lt).grown hg6 (fun e=>HY.o.2.2 (Option.some.inj e)))))
         clear hB hBU hS5 hg6 hm6 hz6
         go_wp2_with fail
         refine ⟨fun _=>H7.o.1,?_⟩
         refine zJ _ [_] (by kernel_rfl) rfl ?_
         go_wp2
         go_roundw
         case rel=>exact ⟨2,cn+1,by omega,by go_num,H7.o.2.1,H7.o.2.2,by omega⟩
         case measure=>(simp [intOf];try omega)
        ·have ix:=zMS (.int .i64 x1) (.int .i64 x2) (.int .i64 x3)
         have hbt:=y8 x3 x1
         have hfp:yG (nrmE x3 x1):=vS (e:=(x3,x1)) ⟨HV.o.2.2.2.2.2,HV.o.2.2.2.1⟩
         obtain ⟨p,hp⟩:=ex9 (nrmE x3 x1)
         have hfp2:yG p:=by rw [hp];exact hfp
         rw [←hp] at hbt
         have hsnoc:nrmL (c.tris.take i)++ [nrmE x1 x2,nrmE x2 x3,nrmE x3 x1].take (2+1)=(nrmL (c.tris.take i)++ [nrmE x1 x2,nrmE x2 x3,nrmE x3 x1].take 2)++ [p]:=by rw [hp];simp
         have HU:=hide (ai9 hS (ai9 hK (ai9 hbt (ai9 hfp2 hsnoc))))
         clear hS hK hbt hfp hfp2 hsnoc hp
         go_upto_region 14 with fail
         have HSB:=hide (show Below U.heap.size U U.drew from (Below.refl _ U).drew)
         refine zB (fun W=>Below U.heap.size U W) [0,1,2,3,4,5,6] [0,1,2,3,4,5,6,7,8] zL (by kernel_rfl) ?_
         refine zA (v:=(.map (some mj))) rfl rfl (fun _ _ _ h=>h) HSB.o ⟨rfl,fun _ h'=>by have a0:=(h'.cell (p:=⟨gj,0,none⟩) HU.o.1.bj.lt).trans (HU.o.1.bj.cell 0);simp only [List.getElem?_toArray,List.getElem?_cons_zero] at a0;simp [go_sem,a0]⟩ ?_
         refine zA (v:=(.int .i64 x3)) rfl rfl (fun _ _ _ h=>h) HSB.o ⟨rfl,fun _ _=>by simp [go_sem]⟩ ?_
         refine zA (v:=(.int .i64 2)) rfl rfl (fun _ _ _ h=>h) HSB.o ⟨rfl,fun _ _=>by simp [go_sem]⟩ ?_
         refine zA (v:=(.int .i64 3)) rfl rfl (fun _ _ _ h=>h) HSB.o ⟨rfl,fun _ _=>by simp [go_sem,a3]⟩ ?_
         refine zA (v:=(.int .i64 0)) rfl rfl (fun _ _ _ h=>h) HSB.o ⟨rfl,fun _ _=>by simp [go_sem]⟩ ?_
         refine zA (v:=(.pointer (some ⟨gy,0,none⟩))) rfl rfl (fun _ _ _ h=>h) HSB.o ⟨rfl,fun _ _=>by simp [go_sem]⟩ ?_
         simp only [List.getElem_toArray,List.getElem_cons_succ,List.getElem_cons_zero,Act.put,List.setIfInBounds_toArray,List.set_cons_succ,List.set_cons_zero]
         refine zA (v:=(.int .i64 x1)) rfl rfl (fun _ _ _ h=>h) HSB.o ⟨rfl,fun _ h'=>by have a0:=(h'.cell (p:=⟨gy,0,none⟩) HU.o.2.1.lt).trans (HU.o.2.1.cell 0);simp only [List.getElem?_toArray,List.getElem?_cons_zero] at a0;simp [go_sem,a0]⟩ ?_
         simp only [List.getElem_toArray,List.getElem_cons_succ,List.getElem_cons_zero,Act.put,List.setIfInBounds_toArray,List.set_cons_succ,List.set_cons_zero]
         refine zD rfl rfl ?_
         go_wp2_with fail
         refine (HU.o.2.2.1 U.drew).mono ?_
         rintro e W5 ⟨rfl,hB⟩
         have hBU:=HSB.o.trans (hB.mono HSB.o.size)
         have hS5:=HU.o.1.below hBU
         obtain ⟨w6,hrun,hm6,hg6,hz6⟩:=hS5.mp.update kfSE (t:=83) (e:=4) Tryz.underlying83 (by unfold maxLen;omega) p HU.o.2.2.2.1 (.bool true)
         rw [gB,←HU.o.2.2.2.2] at hm6
         have H7:=hide (ai9 hBU (ai9 (hS5.upj hg6 hm6) ((HU.o.2.1.below hBU HU.o.2.1.lt).grown hg6 (fun e=>HY.o.2.2 (Option.some.inj e)))))
         clear hB hBU hS5 hg6 hm6 hz6
         go_wp2_with fail
         refine ⟨fun _=>H7.o.1,?_⟩
         refine zJ _ [_] (by kernel_rfl) rfl ?_
         go_wp2
         go_roundw
         case rel=>exact ⟨3,cn+1,by omega,by go_num,H7.o.2.1,H7.o.2.2,by omega⟩
         case measure=>(simp [intOf];try omega)
        ·have HU:=hide hS
         clear hS hK
         go_wp2
         go_roundw
         case rel=>exact ⟨i+1,cn,by omega,by go_num,by rw [HV.o.2.2.1];exact HU.o,by omega⟩
         case measure=>(simp [intOf];try omega)
      ·obtain rfl:i=nt:=by omega
       have i1:¬(i:Int) < (i:Int):=by omega
       rw [List.take_of_length_le (by rw [←HS.o.2.2.2.1];exact Nat.le_refl _)] at hS
       have hixo:∀x∈c.tris,fitsT (numT x):=fun x hx=>zCJ (n:=np) (by omega) (hix9 x hx)
       have hml:=hS.op.1
       have kc:=zG8 Al cl (c.tris.map numT) V (hS.op.sl zW lr9) (by omega) (fun t ht=>by
        obtain ⟨x,hx,rfl⟩:=List.mem_map.1 ht
        exact hixo x hx)
       rw [←hml] at kc
       obtain ⟨ck,hck⟩:=ex9 (yN (c.tris.map numT) false)
       rw [←hck] at kc
       have HV:=hide (ai9 hS (ai9 kc (ai9 hck hix9)))
       clear hS hixo hml kc hck hix9 hlt hi hcnt
       by_cases hc0:ck=0
       ·subst hc0
        go_upto_region 20 with (go_at_call 19;refine HV.o.2.1.mono ?_;rintro e W2 ⟨rfl,hB⟩;have H2:=hide (HV.o.1.below hB);clear hB)
        have hck:=HV.o.2.2.1.symm
        have hst':c.steps.toNat=sn:=by have:=HS.o.2.2.2.2.2.2.2;omega
        have hr:=HR.o.2.2.2.1 HA.o HI.o.1 hck
        have hcnt:=zMF hck
        rw [←HS.o.2.2.2.1] at hcnt
        have hcro:∀x∈c.creases,yG x:=fun x hx=>by
         have h:=HI.o.1
         unfold qA at h
         simp only [Bool.or_eq_false_iff] at h
         have h1:=jR h.1.2 x.1 (List.mem_flatMap.2 ⟨x,hx,by simp⟩)
         have h2:=jR h.1.2 x.2 (List.mem_flatMap.2 ⟨x,hx,by simp⟩)
         rw [←HS.o.2.2.1] at h1 h2
         constructor <;>unfold fits <;>omega
        have hEf:∀e∈zH c.tris,yG e:=fun e he=>by
         obtain ⟨x,hx,hd⟩:=zX.1 (zZ.1 he).1
         have h1:=HV.o.2.2.2 x hx x.1 (by simp [xK])
         have h2:=HV.o.2.2.2 x hx x.2.1 (by simp [xK])
         have h3:=HV.o.2.2.2 x hx x.2.2 (by simp [xK])
         rcases yM.1 hd with rfl | rfl | rfl <;>constructor <;>unfold fits <;>dsimp only <;>omega
        have hne:wM c.tris c.creases=c.creases.any fun e=> !memB (nrmL c.tris) (nrmE e.1 e.2):=by
         unfold wM
         congr 1
         funext e
         rw [zI5 hck]
        have hmc:bZ c=(jQ c.details sn (3*i / 2) || decide (65536 < 4^sn*i)):=by unfold bZ;rw [hst',←HS.o.2.2.2.1]
        have hfc:farC c=(outR 0 (2097151 / 16^sn) c.points || c.details.any (outR (-2097151) 2097151)):=by unfold farC;rw [hst']
        obtain ⟨nb,hnb⟩:=ex9 (c.creases.any fun e=> !memB (nrmL c.tris) (nrmE e.1 e.2))
        rw [hne,←hnb,hmc,hfc] at hr
        have kct:=zI8 Ac cc c.creases W2 ((HS.o.1.cr.below H2.o.bel).more H2.o.bel.size) (by rw [←HS.o.2.2.2.2.1];omega) 75 #[.pointer (some ⟨gj,0,none⟩)] (fun e=> !memB (nrmL c.tris) (nrmE e.1 e.2)) zN8 (fun W hW x hx=>zLP gj mj cnt (nrmL c.tris) x W (H2.o.bj.below hW H2.o.bj.lt) (H2.o.mp.below hW H2.o.mp.lt) (hcro x hx))
        rw [←hnb,←HS.o.2.2.2.2.1] at kct
        have kle:=fun (W:World) (hW:Below W2.heap.size W2 W)=>zPF (H2.o.mp.below hW H2.o.mp.lt) (qK (vW.1 hck).2.1) hEf (fun p=>(zFK hck).symm)
        obtain ⟨EN,hEN⟩:=ex9 ((zH c.tris).length)
        rw [←hEN] at hcnt
        simp only [←hEN] at kle
        have hE2:3*i / 2=EN:=by omega
        rw [hE2] at hr
        have z2:W2.cell? ⟨g,2,none⟩=some (.slice Ac nc cc):=H2.o.b1.cell 2
        have hgl:=H2.o.b1.lt
        have HM:=hide (ai9 hr (ai9 kct (ai9 kle hcnt)))
        have hENl:EN≤150000:=by omega
        clear hr kct kle hcnt hcro hEf hne hmc hfc hnb hEN hE2 hck hst'
        cases nb with
        | true=>
         have hr:=HM.o.1
         rw [if_pos rfl] at hr
         have HQ:=hide hr
         clear hr
         go_wp2_with (go_at_call 74;refine HM.o.2.1.mono ?_;rintro e W3 ⟨rfl,hB⟩;have H3:=hide (H2.o.bel.trans (hB.mono H2.o.bel.size));clear hB)
         go_ret
         exact ⟨by rw [HQ.o];rfl,H3.o⟩
        | false=>
         have hr:=HM.o.1
         rw [if_neg (by simp)] at hr
         have HQ0:=hide hr
         clear hr
         go_upto_region 22 with (go_at_call 74;refine HM.o.2.1.mono ?_;rintro e W3 ⟨rfl,hB⟩;have H3:=hide (ai9 (H2.o.below hB) (HM.o.2.2.1 W3 hB));clear hB)
         clear z2 hgl
         have j0:W3.cell? ⟨gj,0,none⟩=some (.map (some mj)):=H3.o.1.bj.cell 0
         have hgjl:=H3.o.1.bj.lt
         have hln:=H3.o.2
         obtain ⟨z0,z1,z2,z3,z4,z5⟩:=H3.o.1.b1.six9
         have hgl:=H3.o.1.b1.lt
         go_upto_region 24 with fail
         clear j0 hgjl hln
         obtain ⟨M,hM⟩:=ex9 (jQ c.details sn EN)
         have hr:=HQ0.o
         rw [←hM] at hr
         have HU:=hide (ai9 hr hM)
         clear hr hM
         go_loopw [10,87] (fun nv kv wr=>∃(j m:Nat),j≤nd∧nv= .int .i64 m∧kv= .int .i64 j∧m=4^j*EN∧jQ (c.details.drop j) (sn - j) m=M∧wr=W3) (fun _ kv _=>nd - (intOf kv).toNat)
         case atStart=>exact ⟨0,EN,by omega,rfl,rfl,by simp,HU.o.2.symm,rfl⟩
         case round=>
          obtain ⟨j,m,hj,rfl,rfl,hm4,hM,hw⟩:=hrel
          subst hw
          have hmb:m≤256*150000:=by
           rw [hm4]
           exact Nat.mul_le_mul (Nat.le_trans (Nat.pow_le_pow_right (by omega) (show j≤4 by omega)) (by decide)) hENl
          by_cases hjn:j < nd
          ·have l2:(j:Int) < (nd:Int):=by omega
           have hsub:sn - j=(sn - (j+1))+1:=by omega
           rw [hsub] at hM
           obtain ⟨d,hd⟩:∃d,c.details[j]? =some d:=⟨_,List.getElem?_eq_getElem (by rw [←HS.o.2.2.2.2.2.2.1];exact hjn)⟩
           rw [zA5 hd] at hM
           obtain ⟨bd,od,Ax,kx,hAd,hbd,cd,_⟩:=HS.o.1.det hd
           subst hAd
           have cd:=(H3.o.1.bel.cell (p:=⟨bd,od+j,none⟩) hbd).trans cd
           have hbdU:bd < wr.heap.size:=Nat.lt_of_lt_of_le hbd H3.o.1.bel.size
           obtain ⟨dl,hdl2⟩:=ex9 (d.length)
           rw [←hdl2] at hM cd
           have hdl3:dl≤1000000:=by rw [hdl2];exact HS.o.2.1.dd d (List.mem_of_getElem? hd)
           by_cases hov:m < dl
           ·have hr:=HU.o.1
            rw [←hM,decide_eq_true hov,Bool.true_or,Bool.true_or,if_pos rfl] at hr
            have HQ:=hide hr
            have l3:(m:Int) < (dl:Int):=by omega
            clear hr hM hd hm4 hsub hdl2 hbd
            go_wp2
            go_ret
            exact ⟨by rw [HQ.o];rfl,H3.o.1.bel⟩
           ·rw [decide_eq_false hov,Bool.false_or] at hM
            have HQ:=hide (ai9 hM hm4)
            have l3:¬(m:Int) < (dl:Int):=by omega
            clear hM hd hm4 hsub hdl2 hbd
            go_wp2
            go_roundw
            case rel=>exact ⟨j+1,4*m,by omega,by go_num,by go_num,by rw [HQ.o.2,Nat.pow_succ,←Nat.mul_assoc,Nat.mul_comm 4],HQ.o.1,by trivial⟩
            case measure=>(simp [intOf];try omega)
          ·obtain rfl:j=nd:=by omega
           have l2:¬(j:Int) < (j:Int):=by omega
           have hnil:c.details.drop j= []:=List.drop_eq_nil_of_le (by rw [←HS.o.2.2.2.2.2.2.1];exact Nat.le_refl _)
           rw [hnil,dM] at hM
           have hr:=HU.o.1
           rw [←hM,Bool.false_or] at hr
           obtain ⟨q,hq⟩:=ex9 (4^sn*i)
           rw [←hq] at hr
           have HQ:=hide (ai9 hr hq)
           clear hr hM hq hnil hm4
           obtain ⟨s2,hs2⟩:=ex9 (2*sn)
           have t1:2*(sn:Int)=(s2:Int):=by omega
           have t2:(i:Int)*2^s2=(q:Int):=by
            have key:∀s:Nat,s≤4→(2:Int)^(2*s)=((4^s:Nat):Int):=by decide
            rw [HQ.o.2,hs2,key sn hs4,Nat.mul_comm]
            exact (Int.natCast_mul _ _).symm
           have qb:q≤25600000:=by
            have key:∀s:Nat,s≤4→4^s≤256:=by decide
            rw [HQ.o.2]
            exact Nat.mul_le_mul (key sn hs4) htl
           by_cases hqm:65536 < q
           ·have hr:=HQ.o.1
            rw [decide_eq_true hqm,if_pos rfl] at hr
            have HQ9:=hide hr
            have l3:(65536:Int) < (q:Int):=by omega
            clear hr hqm hs2 HQ
            go_wp2
            go_ret
            exact ⟨by rw [HQ9.o];rfl,H3.o.1.bel⟩
           ·have hr:=HQ.o.1
            rw [decide_eq_false hqm,if_neg (by simp)] at hr
            have l3:¬(65536:Int) < (q:Int):=by omega
            obtain ⟨pw,mx,hpw,hmx,t3,t4,pb⟩:∃pw mx:Int,(16:Int)^sn=pw∧2097151 / (16:Int)^sn=mx∧(2097151:Int).tdiv pw=mx∧(2097151:Int) / pw=mx∧((1≤pw∧pw≤65536)∧0≤mx∧mx≤2097151):=by
             have hc:sn=0∨sn=1∨sn=2∨sn=3∨sn=4:=by omega
             rcases hc with rfl | rfl | rfl | rfl | rfl <;>exact ⟨_,_,rfl,rfl,by decide,by decide,by decide⟩
            have kp:=fun W=>zAD sn hs4 W
            simp only [hpw] at kp
            rw [hmx] at hr
            have krg:=HK.o.2 wr.drew H3.o.1.bel.drew mx
            obtain ⟨f1,hf1⟩:=ex9 ( !outR 0 mx c.points)
            rw [←hf1] at krg
            have HQ9:=hide (ai9 hr (ai9 hf1 (ai9 kp krg)))
            clear hr hqm hs2 HQ hpw hmx hf1 kp krg
            have pw0:¬pw=0:=by omega
            have wmx:IntKind.i64.wrap mx=mx:=IntWalk.i64_in _ (by omega)
            go_upto_region 32 with fail
            have HZ:=hide (ai9 z0 (ai9 z4 hgl))
            have HSB:=hide (show Below wr.heap.size wr wr.drew from (Below.refl _ wr).drew)
            refine zB (fun W=>Below wr.heap.size wr W) [0,1,2,3,5] [0,1,2,3,4,5,6,7] zL (by kernel_rfl) ?_
            refine zA (v:=(.pointer (some ⟨g,0,none⟩))) rfl rfl (fun _ _ _ h=>h) HSB.o ⟨rfl,fun _ _=>by simp [go_sem]⟩ ?_
            refine zA (v:=(.slice Ap np cp)) rfl rfl (fun _ _ _ h=>h) HSB.o ⟨rfl,fun _ h'=>by have a0:=(h'.cell (p:=⟨g,0,none⟩) HZ.o.2.2).trans HZ.o.1;simp [go_sem,a0]⟩ ?_
            refine zA (v:=(.pointer (some ⟨g,4,none⟩))) rfl rfl (fun _ _ _ h=>h) HSB.o ⟨rfl,fun _ _=>by simp [go_sem]⟩ ?_
            refine zA (v:=(.int .i64 sn)) rfl rfl (fun _ _ _ h=>h) HSB.o ⟨rfl,fun _ h'=>by have a0:=(h'.cell (p:=⟨g,4,none⟩) HZ.o.2.2).trans HZ.o.2.1;simp [go_sem,a0]⟩ ?_
            simp only [List.getElem_toArray,List.getElem_cons_succ,List.getElem_cons_zero,Act.put,List.setIfInBounds_toArray,List.set_cons_succ,List.set_cons_zero]
            refine zD rfl rfl ?_
            go_wp2_with fail
            refine (HQ9.o.2.2.1 wr.drew).mono ?_
            rintro e W4 ⟨rfl,rfl⟩
            go_wp2_with fail
            refine ⟨fun _=>HSB.o,?_⟩
            refine zA (v:=(.int .i64 mx)) rfl rfl (fun _ _ _ h=>h) HSB.o ⟨rfl,fun _ _=>by simp [go_sem,pw0,t3,wmx]⟩ ?_
            refine zJ _ [_,_] (by kernel_rfl) rfl ?_
            go_upto_region 33 with (go_at_call 49;refine HQ9.o.2.2.2.mono ?_;rintro e W5 ⟨rfl,hB⟩;have H5:=hide (H3.o.1.below (qY hB));clear hB)
            clear z0 z1 z2 z3 z4 z5 hgl HSB HZ
            have z5:W5.cell? ⟨g,5,none⟩=some (.slice Ad j dc):=H5.o.b1.cell 5
            have hgl:=H5.o.b1.lt
            go_upto_region 34 with fail
            clear z5 hgl
            go_loopw [13,116] (fun fv kv wz=>∃l:Nat,l≤j∧fv= .bool (f1 && (c.details.take l).all fun d=> !outR (-2097151) 2097151 d)∧kv= .int .i64 l∧Below W5.heap.size W5 wz) (fun _ kv _=>j - (intOf kv).toNat)
            case atStart=>exact ⟨0,by omega,by rw [List.take_zero];simp,rfl,Below.refl _ W5⟩
            case round=>
             obtain ⟨l,hl,rfl,rfl,hB⟩:=hrel
             obtain ⟨Q,rfl⟩:=ex9 (wr)
             have hBw:=H5.o.bel.trans (hB.mono H5.o.bel.size)
             obtain ⟨F,hF⟩:=ex9 ((f1 && (c.details.take l).all fun d=> !outR (-2097151) 2097151 d))
             rw [←hF]
             by_cases hln:l < j
             ·have l2:(l:Int) < (j:Int):=by omega
              obtain ⟨d,hd⟩:∃d,c.details[l]? =some d:=⟨_,List.getElem?_eq_getElem (by rw [←HS.o.2.2.2.2.2.2.1];exact hln)⟩
              obtain ⟨bd,od,Ax,kx,hAd,hbd,cd,hsd2⟩:=HS.o.1.det hd
              subst hAd
              have cd:=(hBw.cell (p:=⟨bd,od+l,none⟩) hbd).trans cd
              have hbdQ:bd < Q.heap.size:=Nat.lt_of_lt_of_le hbd hBw.size
              have hdl3:d.length≤1000000:=HS.o.2.1.dd d (List.mem_of_getElem? hd)
              have kd:=wR Ax kx d (-2097151) 2097151 Q ((hsd2.below hBw).more hBw.size) (by omega)
              have hF2:(f1 && (c.details.take (l+1)).all fun d=> !outR (-2097151) 2097151 d)=(F && !outR (-2097151) 2097151 d):=by rw [List.take_add_one,hd,hF,Option.toList_some,List.all_append,Bool.and_assoc];simp
              obtain ⟨fd,hfd⟩:=ex9 ( !outR (-2097151) 2097151 d)
              obtain ⟨dl,hdl2⟩:=ex9 (d.length)
              rw [←hfd] at kd hF2
              rw [←hdl2] at kd cd
              have HD:=hide (ai9 hF2 (ai9 kd hB))
              clear hF2 kd hB hd hsd2 hfd hdl2 hdl3 hbd hBw hF
              cases F with
              | true=>
               go_wp2_with (go_at_call 49;refine HD.o.2.1.mono ?_;rintro e W6 ⟨rfl,hB6⟩;have H6:=hide (HD.o.2.2.trans (hB6.mono HD.o.2.2.size));clear hB6)
               go_roundw
               case rel=>exact ⟨l+1,by omega,by rw [HD.o.1];simp,by go_num,H6.o⟩
               case measure=>(simp [intOf];try omega)
              | false=>
               go_wp2
               go_roundw
               case rel=>exact ⟨l+1,by omega,by rw [HD.o.1];simp,by go_num,HD.o.2.2⟩
               case measure=>(simp [intOf];try omega)
             ·obtain rfl:l=j:=by omega
              have l2:¬(l:Int) < (l:Int):=by omega
              have hr:=HQ9.o.1
              have ht:c.details.take l=c.details:=by rw [HS.o.2.2.2.2.2.2.1];exact List.take_length
              rw [ht] at hF
              have hFf:(outR 0 mx c.points || c.details.any (outR (-2097151) 2097151))= !F:=by
               rw [hF,HQ9.o.2.1,Bool.not_and,Bool.not_not,←List.not_any_eq_all_not,Bool.not_not]
              rw [hFf] at hr
              have HD:=hide (ai9 hr hBw)
              clear hr ht hF hFf hB hBw
              cases F with
              | true=>
               go_wp2
               go_ret
               exact ⟨by rw [HD.o.1];rfl,HD.o.2⟩
              | false=>
               go_wp2
               go_ret
               exact ⟨by rw [HD.o.1];rfl,HD.o.2⟩
       ·have hr:=HR.o.2.2.1 HA.o HI.o.1 (by rw [←HV.o.2.2.1];exact hc0)
        have HQ:=hide hr
        have hne:(ck !=0)=true:=by simpa using hc0
        clear hr
        go_wp2_with (go_at_call 19;refine HV.o.2.1.mono ?_;rintro e W2 ⟨rfl,hB⟩;have H2:=hide (HV.o.1.bel.trans (hB.mono HV.o.1.bel.size));clear hB)
        go_ret
        exact ⟨by rw [HQ.o,←HV.o.2.2.1];rfl,H2.o⟩
end Go.Proofs.YtmemofonebphfaaGreat
namespace Go.Proofs.YtmemofonebphfaaGreat
open Go.RowKit Go.Sort Go.WideMaps Go.Maps Go.Shelf
def dO (c:Ctl) (sn k i:Nat) (p:Pt):Pt:=match (c.details.getD k [])[i]? with
 | some d=>xU p d (16^(sn - 1 - k))
 | none=>p
theorem zHL (c:Ctl) (sn k:Nat) (a:List Pt):a.mapIdx (dO c sn k)=detE a (c.details.getD k []) (16^(sn - 1 - k)):=rfl
set_option maxRecDepth 100000 in
set_option maxHeartbeats 32000000 in
theorem zJE (Ap At Ac Ao Ad:Option Addr) (np cp nt ct nc cc no oc dc:Nat) (c:Ctl) (sn gk g1 k i:Nat) (p:Pt) (w:World) (hm:CtlM w w.heap.size Ap At Ac Ao Ad c) (hb:CtlB c) (hk:Blk w gk 3 #[.int .i64 k]) (h1:Blk w g1 32 (cCtl Ap np cp At nt ct Ac nc cc Ao no oc sn Ad c.details.length dc)) (hks:k < sn) (hs4:sn≤4) (_hi:i≤1000000):
  Calls Tryz.prog 43 #[.int .i64 i,vP p, .pointer (some ⟨gk,0,none⟩), .pointer (some ⟨g1,0,none⟩)] w fun e w'=>e= .returned (vP (dO c sn k i p))∧Below w.heap.size w w':=by
 obtain ⟨p1,p2,p3⟩:=p
 obtain ⟨gp,hgp⟩:=ex9 (w.heap.size)
 obtain ⟨gr,hgr⟩:=ex9 (w.heap.size+1)
 obtain ⟨X,hX⟩:=ex9 ((w.alloc (.cells #[.int .i64 p1, .int .i64 p2, .int .i64 p3] 43)).alloc (.cells #[.int .i64 0, .int .i64 0, .int .i64 0] 43))
 have hB:Below w.heap.size w X:=by rw [hX];exact ((Below.refl _ w).alloc lr9 _).alloc (by simp) _
 have hbp:Blk X gp 43 #[.int .i64 p1, .int .i64 p2, .int .i64 p3]:=by rw [hX,hgp];exact (Blk.new _ _ _).alloc _
 have hbr:Blk X gr 43 #[.int .i64 0, .int .i64 0, .int .i64 0]:=by rw [hX,hgr];exact Blk.new' _ _ _ _ (by simp)
 have hkX:=hk.below hB hk.lt
 have h1X:=h1.below hB h1.lt
 have hgw:w.heap.size≤gr:=by omega
 have k0:X.cell? ⟨gk,0,none⟩=some (.int .i64 k):=hkX.cell 0
 have z5:X.cell? ⟨g1,5,none⟩=some (.slice Ad c.details.length dc):=h1X.cell 5
 have hkl:=hkX.lt
 have h1l:=h1X.lt
 obtain ⟨nd,hnd⟩:=ex9 (c.details.length)
 rw [←hnd] at z5
 have hdl:nd≤100000:=by rw [hnd];exact hb.d
 have HX:=hide (ai9 hB (ai9 hbp (ai9 hbr (ai9 hkX (ai9 h1X hgw)))))
 have HM:=hide (ai9 hm (ai9 hb hnd))
 clear hm hb hk h1 hB hbp hbr hkX h1X hgw hnd
 obtain ⟨R,hR⟩:=ex9 (dO c sn k i (p1,p2,p3))
 rw [←hR]
 go_enter Tryz.func43,Tryz.ntmps43
 go_upto_region 1 with fail
 rw [←hX,←hgr,←hgp]
 clear hX hgr hgp
 by_cases hkd:k < nd
 ·obtain ⟨d,hd⟩:∃d,c.details[k]? =some d:=⟨_,List.getElem?_eq_getElem (by rw [←HM.o.2.2];exact hkd)⟩
  have hgd:c.details.getD k []=d:=by rw [List.getD_eq_getElem?_getD,hd];rfl
  obtain ⟨bd,od,Ax,kx,hAd,hbd,cd,hsd⟩:=HM.o.1.det hd
  subst hAd
  have cd:=(HX.o.1.cell (p:=⟨bd,od+k,none⟩) hbd).trans cd
  have hbX:bd < X.heap.size:=Nat.lt_of_lt_of_le hbd HX.o.1.size
  have hsX:=hsd.below HX.o.1
  have hdl3:d.length≤1000000:=HM.o.2.1.dd d (List.mem_of_getElem? hd)
  have e1:(k:Int) < (nd:Int):=by omega
  obtain ⟨dl,hdl2⟩:=ex9 (d.length)
  rw [←hdl2] at cd
  by_cases hid:i < dl
  ·have e2:(i:Int) < (dl:Int):=by omega
   obtain ⟨x,hx⟩:∃x,d[i]? =some x:=⟨_,List.getElem?_eq_getElem (by omega)⟩
   obtain ⟨bx,ox,hAx,hbx,d0,d1,d2⟩:=hsX.pt9 hx
   subst hAx
   have hbxX:bx < X.heap.size:=Nat.lt_of_lt_of_le hbx HX.o.1.size
   have hRx:R=xU (p1,p2,p3) x (16^(sn - 1 - k)):=by rw [hR];unfold dO;rw [hgd,hx]
   obtain ⟨s,hs⟩:∃s:Nat,s=sn - 1 - k:=⟨_,rfl⟩
   rw [←hs] at hRx
   have ks:=fun W=>zAD s (by omega) W
   obtain ⟨pw,hpw⟩:=ex9 ((16:Int)^s)
   simp only [←hpw] at ks
   rw [←hpw] at hRx
   have t1:(sn:Int) - 1=((sn - 1:Nat):Int):=by omega
   obtain ⟨s1,hs1⟩:∃s1:Nat,s1=sn - 1:=⟨_,rfl⟩
   rw [←hs1] at t1
   have t2:(s1:Int) - (k:Int)=(s:Int):=by omega
   have hs1b:s1≤4:=by omega
   have hsb:s≤4:=by omega
   have kp:=zBT (p1,p2,p3) x pw
   rw [←hRx] at kp
   obtain ⟨x1,x2,x3⟩:=x
   simp only at d0 d1 d2
   have HK:=hide (ai9 ks (ai9 kp (ai9 cd (ai9 hbX (ai9 d0 (ai9 d1 (ai9 d2 hbxX)))))))
   clear ks kp hR hRx hpw hd hgd hbd hsd hsX hx hbx hdl2 d0 d1 d2 hs hs1
   go_upto_region 2 with fail
   have HSB:=hide (show Below X.heap.size X X.drew from (Below.refl _ X).drew)
   refine zB (fun W=>Below X.heap.size X W) [0,1,2,3,4,5,6,7,8,9,10,11,12,13] [0,1,2,3,4,5,6,7,8,9,10,11,12,13,14,15,16] zL (by kernel_rfl) ?_
   refine zA (v:=(.agg #[.int .i64 p1, .int .i64 p2, .int .i64 p3])) rfl rfl (fun _ _ _ h=>h) HSB.o ⟨rfl,fun _ h'=>by have a0:=(h'.cell (p:=⟨gp,0,none⟩) HX.o.2.1.lt).trans (HX.o.2.1.cell 0);simp only [List.getElem?_toArray,List.getElem?_cons_zero] at a0;have a1:=(h'.cell (p:=⟨gp,1,none⟩) HX.o.2.1.lt).trans (HX.o.2.1.cell 1);simp only [List.getElem?_toArray,List.getElem?_cons_zero,List.getElem?_cons_succ] at a1;have a2:=(h'.cell (p:=⟨gp,2,none⟩) HX.o.2.1.lt).trans (HX.o.2.1.cell 2);simp only [List.getElem?_toArray,List.getElem?_cons_zero,List.getElem?_cons_succ] at a2;simp [go_sem,a0,a1,a2]⟩ ?_
   refine zA (v:=(.pointer (some ⟨g1,5,none⟩))) rfl rfl (fun _ _ _ h=>h) HSB.o ⟨rfl,fun _ _=>by simp [go_sem]⟩ ?_
   refine zA (v:=(.slice (some ⟨bd,od,none⟩) nd dc)) rfl rfl (fun _ _ _ h=>h) HSB.o ⟨rfl,fun _ h'=>by have a0:=(h'.cell (p:=⟨g1,5,none⟩) HX.o.2.2.2.2.1.lt).trans z5;simp [go_sem,a0]⟩ ?_
   refine zA (v:=(.int .i64 k)) rfl rfl (fun _ _ _ h=>h) HSB.o ⟨rfl,fun _ h'=>by have a0:=(h'.cell (p:=⟨gk,0,none⟩) HX.o.2.2.2.1.lt).trans k0;simp [go_sem,a0]⟩ ?_
   refine zA (v:=(.pointer (some ⟨bd,od+k,none⟩))) rfl rfl (fun _ _ _ h=>h) HSB.o ⟨rfl,fun _ _=>by simp [go_sem,e1]⟩ ?_
   refine zA (v:=(.slice (some ⟨bx,ox,none⟩) dl kx)) rfl rfl (fun _ _ _ h=>h) HSB.o ⟨rfl,fun _ h'=>by have a0:=(h'.cell (p:=⟨bd,od+k,none⟩) HK.o.2.2.2.1).trans HK.o.2.2.1;simp [go_sem,a0]⟩ ?_
   simp only [List.getElem_toArray,List.getElem_cons_succ,List.getElem_cons_zero,Act.put,List.setIfInBounds_toArray,List.set_cons_succ,List.set_cons_zero]
   refine zA (v:=(.int .i64 i)) rfl rfl (fun _ _ _ h=>h) HSB.o ⟨rfl,fun _ _=>by simp [go_sem]⟩ ?_
   refine zA (v:=(.pointer (some ⟨bx,ox+i*3,none⟩))) rfl rfl (fun _ _ _ h=>h) HSB.o ⟨rfl,fun _ _=>by simp [go_sem,e2]⟩ ?_
   refine zA (v:=(.agg #[.int .i64 x1, .int .i64 x2, .int .i64 x3])) rfl rfl (fun _ _ _ h=>h) HSB.o ⟨rfl,fun _ h'=>by have a0:=(h'.cell (p:=⟨bx,ox+i*3,none⟩) HK.o.2.2.2.2.2.2.2).trans HK.o.2.2.2.2.1;have a1:=(h'.cell (p:=⟨bx,ox+i*3+1,none⟩) HK.o.2.2.2.2.2.2.2).trans HK.o.2.2.2.2.2.1;have a2:=(h'.cell (p:=⟨bx,ox+i*3+2,none⟩) HK.o.2.2.2.2.2.2.2).trans HK.o.2.2.2.2.2.2.1;simp [go_sem,a0,a1,a2]⟩ ?_
   refine zA (v:=(.pointer (some ⟨g1,4,none⟩))) rfl rfl (fun _ _ _ h=>h) HSB.o ⟨rfl,fun _ _=>by simp [go_sem]⟩ ?_
   refine zA (v:=(.int .i64 sn)) rfl rfl (fun _ _ _ h=>h) HSB.o ⟨rfl,fun _ h'=>by have a4:=(h'.cell (p:=⟨g1,4,none⟩) HX.o.2.2.2.2.1.lt).trans (HX.o.2.2.2.2.1.cell 4);simp only [List.getElem?_toArray,List.getElem?_cons_zero,List.getElem?_cons_succ] at a4;simp [go_sem,a4]⟩ ?_
   refine zA (v:=(.int .i64 s1)) rfl rfl (fun _ _ _ h=>h) HSB.o ⟨rfl,fun _ _=>by have w1:IntKind.i64.wrap (s1:Int)=s1:=IntWalk.i64_in _ (by omega);simp [go_sem,t1,w1]⟩ ?_
   simp only [List.getElem_toArray,List.getElem_cons_succ,List.getElem_cons_zero,Act.put,List.setIfInBounds_toArray,List.set_cons_succ,List.set_cons_zero]
   refine zA (v:=(.int .i64 k)) rfl rfl (fun _ _ _ h=>h) HSB.o ⟨rfl,fun _ h'=>by have a0:=(h'.cell (p:=⟨gk,0,none⟩) HX.o.2.2.2.1.lt).trans k0;simp [go_sem,a0]⟩ ?_
   refine zA (v:=(.int .i64 s)) rfl rfl (fun _ _ _ h=>h) HSB.o ⟨rfl,fun _ _=>by have w1:IntKind.i64.wrap (s:Int)=s:=IntWalk.i64_in _ (by omega);simp [go_sem,t2,w1]⟩ ?_
   simp only [List.getElem_toArray,List.getElem_cons_succ,List.getElem_cons_zero,Act.put,List.setIfInBounds_toArray,List.set_cons_succ,List.set_cons_zero]
   refine zD rfl rfl ?_
   go_wp2_with fail
   refine (HK.o.1 X.drew).mono ?_
   rintro e W1 ⟨rfl,rfl⟩
   go_wp2_with fail
   refine ⟨fun _=>HSB.o,?_⟩
   refine zJ _ [_,_] (by kernel_rfl) rfl ?_
   go_wp2_with fail
   refine (HK.o.2.1 X.drew).mono ?_
   rintro e W2 ⟨rfl,hB2⟩
   obtain ⟨R1,R2,R3⟩:=R
   have hBX2:Below X.heap.size X W2:=qY hB2
   have hrW:=HX.o.2.2.1.below hBX2 HX.o.2.2.1.lt
   obtain ⟨r0,r1,r2⟩:=hrW.three
   have hrl:=hrW.lt
   have f0:=hrW.frozen 0
   have f1:=hrW.frozen 1
   have f2:=hrW.frozen 2
   have H9:=hide (ai9 hrW (HX.o.1.trans ((hBX2).mono HX.o.1.size)))
   clear hrW
   go_wp2
   refine yX (v:=vP (R1,R2,R3)) (fun W=>Blk W gr 43 #[.int .i64 R1, .int .i64 R2, .int .i64 R3]) ?_ (fun W hW=> ?_) rfl ⟨rfl,?_⟩
   ·exact H9.o.1.set3 _ _ _
   ·obtain ⟨a0,a1,a2⟩:=hW.three
    simp [results,Tryz.results43,go_sem,a0,a1,a2]
    try trivial
   ·exact ((H9.o.2.setCell (p:=⟨gr,0,none⟩) HX.o.2.2.2.2.2 _).setCell (p:=⟨gr,1,none⟩) HX.o.2.2.2.2.2 _).setCell (p:=⟨gr,2,none⟩) HX.o.2.2.2.2.2 _
  ·have e2:¬(i:Int) < (dl:Int):=by omega
   have hRx:R=(p1,p2,p3):=by rw [hR];unfold dO;rw [hgd,List.getElem?_eq_none (by omega)]
   subst hRx
   obtain ⟨q0,q1,q2⟩:=HX.o.2.1.three
   have hpl:=HX.o.2.1.lt
   obtain ⟨r0,r1,r2⟩:=HX.o.2.2.1.three
   have hrl:=HX.o.2.2.1.lt
   have f0:=HX.o.2.2.1.frozen 0
   have f1:=HX.o.2.2.1.frozen 1
   have f2:=HX.o.2.2.1.frozen 2
   clear hR hd hgd hbd hsd hsX hdl2
   go_wp2
   refine yX (v:=vP (p1,p2,p3)) (fun W=>Blk W gr 43 #[.int .i64 p1, .int .i64 p2, .int .i64 p3]) ?_ (fun W hW=> ?_) rfl ⟨rfl,?_⟩
   ·exact HX.o.2.2.1.set3 _ _ _
   ·obtain ⟨a0,a1,a2⟩:=hW.three
    simp [results,Tryz.results43,go_sem,a0,a1,a2]
    try trivial
   ·exact ((HX.o.1.setCell (p:=⟨gr,0,none⟩) HX.o.2.2.2.2.2 _).setCell (p:=⟨gr,1,none⟩) HX.o.2.2.2.2.2 _).setCell (p:=⟨gr,2,none⟩) HX.o.2.2.2.2.2 _
 ·have e1:¬(k:Int) < (nd:Int):=by omega
  have hRx:R=(p1,p2,p3):=by rw [hR];unfold dO;rw [show c.details.getD k []= [] by rw [List.getD_eq_getElem?_getD,List.getElem?_eq_none (by rw [←HM.o.2.2];omega)];rfl];rfl
  subst hRx
  obtain ⟨q0,q1,q2⟩:=HX.o.2.1.three
  have hpl:=HX.o.2.1.lt
  obtain ⟨r0,r1,r2⟩:=HX.o.2.2.1.three
  have hrl:=HX.o.2.2.1.lt
  have f0:=HX.o.2.2.1.frozen 0
  have f1:=HX.o.2.2.1.frozen 1
  have f2:=HX.o.2.2.1.frozen 2
  clear hR
  go_wp2
  refine yX (v:=vP (p1,p2,p3)) (fun W=>Blk W gr 43 #[.int .i64 p1, .int .i64 p2, .int .i64 p3]) ?_ (fun W hW=> ?_) rfl ⟨rfl,?_⟩
  ·exact HX.o.2.2.1.set3 _ _ _
  ·obtain ⟨a0,a1,a2⟩:=hW.three
   simp [results,Tryz.results43,go_sem,a0,a1,a2]
   try trivial
  ·exact ((HX.o.1.setCell (p:=⟨gr,0,none⟩) HX.o.2.2.2.2.2 _).setCell (p:=⟨gr,1,none⟩) HX.o.2.2.2.2.2 _).setCell (p:=⟨gr,2,none⟩) HX.o.2.2.2.2.2 _
end Go.Proofs.YtmemofonebphfaaGreat
namespace Go.Proofs.YtmemofonebphfaaGreat
open Go.RowKit Go.Sort Go.WideMaps Go.Maps Go.Shelf
theorem zK9 (args:Array Value) (W:World):(callFunc 43 args).run Tryz.prog W= .ok (.enter 43 args) W:=
 enters_of Tryz.func43 (by kernel_rfl) rfl args W
theorem zJW {Y:World} {g B:Nat} (hB:Y.heap.size≤B):StbI g B fun _ _ W=>Y.grownBy W (some g) where
 st:=fun {_ _ _ _ _} h hg hr=>⟨hg.os.trans h.os,hg.tape.trans h.tape,hg.output.trans h.output,Nat.le_trans h.size hg.size,fun k hk hne=>(hg.block k (Nat.lt_of_lt_of_le hk h.size) (fun e=>by
  rcases hr k e.symm with h2 | h2
  ·exact hne (by rw [h2])
  ·omega)).trans (h.block k hk hne)⟩
 sw:=fun {_ _ _ _ _} h hg hP _ _=>⟨hg.os.trans h.os,hg.tape.trans h.tape,hg.output.trans h.output,Nat.le_trans h.size hg.size,fun k hk hne=>(hg.block k (Nat.lt_of_lt_of_le hk h.size) (fun e=>by have:=hP k e.symm;omega)).trans (h.block k hk hne)⟩
def FinL (w W:World) (b0 g g1 mo:Nat) (ctl:Array Value) (L:Lev) (co:List Int):Prop:=
 (∃(Ap:Option Addr) (cp:Nat) (At:Option Addr) (ct mc:Nat) (a4:Option Nat) (Ae:Option Addr) (ne ce:Nat) (a6 a7:Option Nat),LvlM W b0 g Ap cp At ct mc mo a4 Ae ne ce a6 a7 L co)∧Blk W g1 32 ctl∧Below w.heap.size w W
theorem LvlM.below {w W:World} {b0 g:Nat} {Ap:Option Addr} {cp:Nat} {At:Option Addr} {ct mc mo:Nat} {a4:Option Nat} {Ae:Option Addr} {ne ce:Nat} {a6 a7:Option Nat} {L:Lev} {co:List Int} (h:LvlM w b0 g Ap cp At ct mc mo a4 Ae ne ce a6 a7 L co) (hB:Below w.heap.size w W):LvlM W b0 g Ap cp At ct mc mo a4 Ae ne ce a6 a7 L co:=by
 obtain ⟨n1,h1⟩:=h.cr
 obtain ⟨n2,h2⟩:=h.co
 exact ⟨h.bx.below hB h.bx.lt,h.p.below hB lr9,(h.t.below hB).more hB.size,⟨n1,h1.below hB h1.lt⟩,⟨n2,h2.below hB h2.lt⟩⟩
set_option maxRecDepth 100000 in set_option maxHeartbeats 64000000 in
theorem zCD (Ap At Ac Ao Ad:Option Addr) (cp ct cc oc dc:Nat) (c:Ctl) (w:World) (hm:CtlM w w.heap.size Ap At Ac Ao Ad c) (hb:CtlB c) (hfs:fits c.steps) (hnb:errC c=0→xE c.tris):
  Calls Tryz.prog 18 #[vCtl Ap c.points.length cp At c.tris.length ct Ac c.creases.length cc Ao c.corners.length oc c.steps Ad c.details.length dc] w fun e w'=>∃A1 c1 A2 c2,e= .returned (.tuple #[.slice A1 (finP c).length c1, .slice A2 (finT c).length c2, .int .i64 (errC c)])∧Own encP 3 43 w' w.heap.size (.slice A1 (finP c).length c1) (finP c).length (finP c)∧Own yF 3 35 w' w.heap.size (.slice A2 (finT c).length c2) (finT c).length (finT c)∧Below w.heap.size w w':=by
 have kw:=fun (W:World) (hW:Below w.heap.size w W)=>zHV Ap At Ac Ao Ad cp ct cc oc dc c W (hm.below hW hW.size) hb hfs
 by_cases herr:errC c=0
 ·have hR:=uY herr
  have hN:=hnb herr
  have hst:=hR.st
  have hf2:∀e∈c.creases,yG e:=fun e he=>by
   obtain ⟨hd,hl⟩:=zZ.1 (hR.cre e he)
   obtain ⟨x,hx,hx2⟩:=zX.1 hd
   have hi:=hR.idx x hx
   have hp:=hb.p
   have:0≤min e.1 e.2∧max e.1 e.2 < (c.points.length:Int):=by
    rcases yM.1 hx2 with h | h | h <;>simp only [nrmE,Prod.mk.injEq] at h <;>omega
   constructor <;>unfold fits <;>omega
  have hfo:∀i∈c.corners,fits i:=fun i hi=>by
   have:=hR.cor i hi
   have:=hb.p
   unfold fits
   omega
  have kb:=fun (W:World) (hW:Below w.heap.size w W)=>zGX Ap At Ac Ao Ad cp ct cc oc c.details.length dc c W (hm.below hW hW.size) hb hst hf2 hfo
  obtain ⟨sn,hsn⟩:∃n:Nat,c.steps=n:=⟨c.steps.toNat,by omega⟩
  have hsn':c.steps.toNat=sn:=by omega
  have hs4:sn≤4:=by omega
  have hLR:=fun k=>Ctl.level_right hR hN k
  have hLB:=fun k (hk:k≤sn)=>jV hR hN hb (k:=k) (by rw [hsn'];exact hk)
  have hdf:=fun k d (hk:k < sn) (hd:c.details[k]? =some d)=>zKF hR hN (k:=k) (by rw [hsn'];exact hk) hd
  have hfp:finP c=(c.level sn).p:=by unfold finP;rw [if_pos herr,hsn']
  have hft:finT c=(c.level sn).t:=by unfold finT;rw [if_pos herr,hsn']
  have hlv:∀k,c.level (k+1)=(c.level k).step (detE ((c.level k).rules c.corners) (c.details.getD k []) (16^(sn - 1 - k))):=fun k=>by rw [←hsn'];rfl
  have hl0:c.level 0=c.begin:=rfl
  rw [hfp,hft,herr,hsn]
  rw [herr] at kw
  obtain ⟨np,hnp⟩:=ex9 (c.points.length)
  obtain ⟨nt,hnt⟩:=ex9 (c.tris.length)
  obtain ⟨nc,hnc⟩:=ex9 (c.creases.length)
  obtain ⟨no,hno⟩:=ex9 (c.corners.length)
  obtain ⟨nd,hnd⟩:=ex9 (c.details.length)
  have hnol:no≤100000:=by rw [hno];exact hb.o
  have hndl:nd≤sn:=by have:=hR.det;omega
  rw [←hnp,←hnt,←hnc,←hno,←hnd]
  simp only [←hnp,←hnt,←hnc,←hno,←hnd,hsn] at kw kb
  have HK:=hide (ai9 kw (ai9 kb (ai9 hLR (ai9 hLB (ai9 hdf (ai9 hlv hl0))))))
  have HM:=hide (ai9 hm (ai9 hb (ai9 hnt (ai9 hno hnd))))
  clear hfo kw kb hLR hLB hdf hlv hl0 hm hb hnp hnt hnc hno hnd hR hN hst hf2 hsn hsn' hfp hft herr hnb hfs
  go_enter Tryz.func18,Tryz.ntmps18
  go_upto_region 1 with fail
  obtain ⟨g1,hg1⟩:=ex9 (w.heap.size)
  obtain ⟨X0,hX⟩:=ex9 (w.alloc (.cells (cCtl Ap np cp At nt ct Ac nc cc Ao no oc sn Ad nd dc) 32))
  rw [←hX,←hg1]
  have hb1:Blk X0 g1 32 (cCtl Ap np cp At nt ct Ac nc cc Ao no oc sn Ad nd dc):=by rw [hX,hg1];exact Blk.new _ _ _
  have hBX:Below w.heap.size w X0:=by rw [hX];exact (Below.refl _ w).alloc lr9 _
  have hgl:=hb1.lt
  obtain ⟨z0,z1,z2,z3,z4,z5⟩:=hb1.six9
  have H0:=hide (ai9 hb1 hBX)
  have hg1w:w.heap.size≤g1:=by omega
  clear hb1 hBX hX hg1
  go_upto_region 4 with (go_at_call 40;refine (HK.o.1 X0 H0.o.2).mono ?_;rintro e X1 ⟨rfl,hB⟩;have H1:=hide (ai9 (H0.o.2.trans (hB.mono H0.o.2.size)) (H0.o.1.below hB H0.o.1.lt));clear hB)
  clear z0 z1 z2 z3 z4 z5 hgl
  obtain ⟨z0,z1,z2,z3,z4,z5⟩:=H1.o.2.six9
  have hgl:=H1.o.2.lt
  go_upto_region 5 with (go_at_call 41;refine (HK.o.2.1 X1 H1.o.1).mono ?_;rintro e X2 ⟨g,Ag,cg,mc,mo,rfl,hgw,hlv,hB⟩;have H2:=hide (show FinL w X2 X1.heap.size g g1 mo (cCtl Ap np cp At nt ct Ac nc cc Ao no oc sn Ad nd dc) (c.level 0) c.corners from ⟨⟨_,_,_,_,_,_,_,_,_,_,_,by rw [HK.o.2.2.2.2.2.2];exact hlv⟩,H1.o.2.below hB H1.o.2.lt,H1.o.1.trans (hB.mono H1.o.1.size)⟩);have HG:=hide (show X1.heap.size≤g∧g1 < X1.heap.size∧w.heap.size≤X1.heap.size from ⟨hgw,H1.o.2.lt,H1.o.1.size⟩);clear hB hlv hgw)
  clear z0 z1 z2 z3 z4 z5 hgl
  have z4:X2.cell? ⟨g1,4,none⟩=some (.int .i64 sn):=H2.o.2.1.cell 4
  have hgl:=H2.o.2.1.lt
  go_upto_region 6 with fail
  clear z4 hgl
  go_loopw [17] (fun kv wr=>∃k:Nat,k≤sn∧kv= .int .i64 k∧FinL w wr X1.heap.size g g1 mo (cCtl Ap np cp At nt ct Ac nc cc Ao no oc sn Ad nd dc) (c.level k) c.corners∧X1.heap.size≤wr.heap.size) (fun kv _=>sn - (intOf kv).toNat)
  case atStart=>
   refine ⟨0,by omega,rfl,H2.o,?_⟩
   obtain ⟨_,_,_,_,_,_,_,_,_,_,_,h⟩:=H2.o.1
   have:=h.bx.lt
   have:=HG.o.1
   omega
  case round=>
   obtain ⟨k,hk,rfl,hF,hzV⟩:=hrel
   obtain ⟨V,rfl⟩:=ex9 (wr)
   by_cases hlt:k < sn
   ·have k1:(k:Int) < (sn:Int):=by omega
    have HV:=hide hF
    clear hF
    go_upto_region 8 with fail
    obtain ⟨gk,hgk⟩:=ex9 (V.heap.size)
    obtain ⟨Y,hY⟩:=ex9 (V.alloc (.cells #[.int .i64 k] 3))
    have hBY:Below V.heap.size V Y:=by rw [hY];exact (Below.refl _ V).alloc lr9 _
    have hKY:Blk Y gk 3 #[.int .i64 k]:=by rw [hY,hgk];exact Blk.new _ _ _
    rw [←hY,←hgk]
    obtain ⟨⟨Al,cl,Bl,dl,ml,b4,El,nl,fl,b6,b7,hl⟩,hb1,hbel⟩:=HV.o
    have hgkg:gk≠g:=by have:=hl.bx.lt;omega
    have hlY:=hl.below hBY
    have hb1Y:=hb1.below hBY hb1.lt
    have hbY:=hbel.trans (hBY.mono hbel.size)
    have hng:g1≠g:=by have:=HG.o;omega
    have hgw2:w.heap.size≤g:=by have:=HG.o;omega
    have hnel:(zH (c.level k).t).length≤900000:=by have:=(HK.o.2.2.2.1 k hk).t;have:=qW (c.level k).t;omega
    have kst:=zH0 hlY (Nat.le_trans hzV hBY.size) (HK.o.2.2.1 k) (HK.o.2.2.2.1 k hk) 43 #[.pointer (some ⟨gk,0,none⟩), .pointer (some ⟨g1,0,none⟩)] (dO c sn k) (fun _ _ _ W=>Y.grownBy W (some g)) (fun w1 h1=>⟨zJW h1.size,h1⟩) (fun B i P W q hi _ hI hBW hP=>by
     have hBw:Below w.heap.size w W:=hbY.trans (yK hI hgw2 hbY.size)
     have h1:=hb1Y.grown hI (fun e=>hng (Option.some.inj e))
     rw [HM.o.2.2.2.2] at h1
     refine (zJE Ap At Ac Ao Ad np cp nt ct nc cc no oc dc c sn gk g1 k i q W (HM.o.1.below hBw hBw.size) HM.o.2.1 (hKY.grown hI (fun e=>hgkg (Option.some.inj e))) h1 hlt hs4 (by omega)).mono ?_
     rintro e W' ⟨he,hB⟩
     exact ⟨he,hI.trans (xR hB _),Kpt.bel (Kpt.refl W) hB⟩) zK9
    rw [zHL,←HK.o.2.2.2.2.2.1 k] at kst
    have HS:=hide (ai9 kst (ai9 hb1Y (ai9 hbY (ai9 hng hgw2))))
    have hzY:=hBY.size
    clear kst hb1Y hbY hng hgw2 hlY hl hb1 hbel hgkg hBY hKY hY hgk hnel
    go_upto_region 9 with (go_at_call 42;refine HS.o.1.mono ?_;rintro e W5 ⟨rfl,hR⟩;have H5:=hide hR;clear hR)
    go_wp2
    go_roundw
    case rel=>
     obtain ⟨A5,c5,B5,d5,m5,a54,E5,n5,f5,a56,a57,BB,P5,hl5,_,hI5,_⟩:=H5.o
     obtain ⟨_,h1,h2,h3,h4⟩:=HS.o
     exact ⟨k+1,by omega,by go_num,⟨⟨_,_,_,_,_,_,_,_,_,_,_,hl5⟩,h1.grown hI5 (fun e=>h3 (Option.some.inj e)),h2.trans (yK hI5 h4 h2.size)⟩,Nat.le_trans hzV (Nat.le_trans hzY hI5.size)⟩
    case measure=>(simp [intOf];try omega)
   ·obtain rfl:k=sn:=by omega
    have k1:¬(k:Int) < (k:Int):=by omega
    obtain ⟨⟨Al,cl,Bl,dl,ml,b4,El,nl,fl,b6,b7,hl⟩,hb1,hbel⟩:=hF
    have hkc:=fun (W:World) (hW:Below V.heap.size V W)=>zE1 Bl dl (c.level k).t W.heap.size W ((hl.t.below hW).more hW.size) (by have:=(HK.o.2.2.2.1 k lr9).t;omega)
    obtain ⟨n1,hn1⟩:=ex9 ((c.level k).p.length)
    obtain ⟨n2,hn2⟩:=ex9 ((c.level k).t.length)
    have hz0:V.cell? ⟨g,0,none⟩=some (.slice Al n1 cl):=by rw [hn1];exact hl.bx.cell 0
    have hz1:V.cell? ⟨g,1,none⟩=some (.slice Bl n2 dl):=by rw [hn2];exact hl.bx.cell 1
    have hp:=hl.p
    rw [←hn1] at hp
    rw [←hn2] at hkc
    have HN:=hide (ai9 hn1 hn2)
    have HV:=hide (ai9 hz0 (ai9 hz1 (ai9 hl.bx.lt (ai9 hp (ai9 hbel hkc)))))
    clear hz0 hz1 hp hbel hkc hl hb1 hn1 hn2
    go_upto_region 10 with fail
    have HSB:=hide (show Below V.heap.size V V.drew from (Below.refl _ V).drew)
    refine zB (fun W=>Below V.heap.size V W) [0,1,2,3,4,5,6,7] [0,1,2,3,4,5,6,7,8,9,10,11] zL (by kernel_rfl) ?_
    refine zA (v:=(.pointer (some ⟨g,0,none⟩))) rfl rfl (fun _ _ _ h=>h) HSB.o ⟨rfl,fun _ _=>by simp [go_sem]⟩ ?_
    refine zA (v:=(.pointer (some ⟨g,0,none⟩))) rfl rfl (fun _ _ _ h=>h) HSB.o ⟨rfl,fun _ _=>by simp [go_sem]⟩ ?_
    refine zA (v:=(.pointer (some ⟨g,0,none⟩))) rfl rfl (fun _ _ _ h=>h) HSB.o ⟨rfl,fun _ _=>by simp [go_sem]⟩ ?_
    refine zA (v:=(.slice Al n1 cl)) rfl rfl (fun _ _ _ h=>h) HSB.o ⟨rfl,fun _ h'=>by have a0:=(h'.cell (p:=⟨g,0,none⟩) HV.o.2.2.1).trans HV.o.1;simp [go_sem,a0]⟩ ?_
    refine zA (v:=(.pointer (some ⟨g,0,none⟩))) rfl rfl (fun _ _ _ h=>h) HSB.o ⟨rfl,fun _ _=>by simp [go_sem]⟩ ?_
    refine zA (v:=(.pointer (some ⟨g,0,none⟩))) rfl rfl (fun _ _ _ h=>h) HSB.o ⟨rfl,fun _ _=>by simp [go_sem]⟩ ?_
    simp only [List.getElem_toArray,List.getElem_cons_succ,List.getElem_cons_zero,Act.put,List.setIfInBounds_toArray,List.set_cons_succ,List.set_cons_zero]
    refine zA (v:=(.pointer (some ⟨g,1,none⟩))) rfl rfl (fun _ _ _ h=>h) HSB.o ⟨rfl,fun _ _=>by simp [go_sem]⟩ ?_
    refine zA (v:=(.slice Bl n2 dl)) rfl rfl (fun _ _ _ h=>h) HSB.o ⟨rfl,fun _ h'=>by have a0:=(h'.cell (p:=⟨g,1,none⟩) HV.o.2.2.1).trans HV.o.2.1;simp [go_sem,a0]⟩ ?_
    simp only [List.getElem_toArray,List.getElem_cons_succ,List.getElem_cons_zero,Act.put,List.setIfInBounds_toArray,List.set_cons_succ,List.set_cons_zero]
    refine zD rfl rfl ?_
    go_wp2_with fail
    refine (HV.o.2.2.2.2.2 V.drew HSB.o).mono ?_
    rintro e W9 ⟨v9,rfl,ho9,hB9⟩
    have H9:=hide (ai9 ho9 (HSB.o.trans hB9))
    clear ho9 hB9
    obtain ⟨A9,c9,rfl⟩:=H9.o.1.form
    go_wp2_with fail
    refine ⟨fun _=>H9.o.2,?_⟩
    refine zJ _ [_,_,_] (by kernel_rfl) rfl ?_
    go_wp2
    go_ret3
    rw [←HN.o.1,←HN.o.2]
    exact ⟨_,_,_,_,rfl,(HV.o.2.2.2.1.below H9.o.2 lr9).base_le HG.o.2.2,H9.o.1.base_le HV.o.2.2.2.2.1.size,HV.o.2.2.2.2.1.trans (H9.o.2.mono HV.o.2.2.2.2.1.size)⟩
 ·have hfp:finP c= []:=by unfold finP;rw [if_neg herr]
  have hft:finT c= []:=by unfold finT;rw [if_neg herr]
  rw [hfp,hft]
  obtain ⟨np,hnp⟩:=ex9 (c.points.length)
  obtain ⟨nt,hnt⟩:=ex9 (c.tris.length)
  obtain ⟨nc,hnc⟩:=ex9 (c.creases.length)
  obtain ⟨no,hno⟩:=ex9 (c.corners.length)
  obtain ⟨nd,hnd⟩:=ex9 (c.details.length)
  obtain ⟨sn,hsn⟩:=ex9 (c.steps)
  obtain ⟨er,her⟩:=ex9 (errC c)
  rw [←hnp,←hnt,←hnc,←hno,←hnd,←hsn,←her]
  simp only [←hnp,←hnt,←hnc,←hno,←hnd,←hsn,←her] at kw
  have hne:(er !=0)=true:=by rw [her];simpa using herr
  have HK:=hide kw
  clear kw hfp hft hnp hnt hnc hno hnd hsn her herr hm hb hfs hnb
  go_enter Tryz.func18,Tryz.ntmps18
  go_upto_region 1 with fail
  obtain ⟨g1,hg1⟩:=ex9 (w.heap.size)
  obtain ⟨X0,hX⟩:=ex9 (w.alloc (.cells (cCtl Ap np cp At nt ct Ac nc cc Ao no oc sn Ad nd dc) 32))
  rw [←hX,←hg1]
  have hb1:Blk X0 g1 32 (cCtl Ap np cp At nt ct Ac nc cc Ao no oc sn Ad nd dc):=by rw [hX,hg1];exact Blk.new _ _ _
  have hBX:Below w.heap.size w X0:=by rw [hX];exact (Below.refl _ w).alloc lr9 _
  obtain ⟨z0,z1,z2,z3,z4,z5⟩:=hb1.six9
  have hgl:=hb1.lt
  have H0:=hide (ai9 hb1 hBX)
  clear hb1 hBX hX hg1
  go_wp2_with (go_at_call 40;refine (HK.o X0 H0.o.2).mono ?_;rintro e X1 ⟨rfl,hB⟩;have H1:=hide (H0.o.2.trans (hB.mono H0.o.2.size));clear hB)
  go_ret3
  exact ⟨_,_,_,_,rfl,Own.nil,Own.nil,H1.o⟩
end Go.Proofs.YtmemofonebphfaaGreat
namespace Go.Proofs.YtmemofonebphfaaGreat
open Go.RowKit Go.Sort Go.WideMaps Go.Maps Go.Shelf
def gP (p:List Pt) (n:Int):Pt:=p.getD n.toNat (0,0,0)
def dupB (p:List Pt) (l:List Int):Bool:=l.any fun a=>l.any fun b=>decide (gP p a=gP p b∧a≠b)
def kX (p:List Pt) (x:Pt):Tri:=(gP p x.1,gP p x.2.1,gP p x.2.2)
def subT (c:Ctl):List Tri:=(finT c).map (kX (finP c))
def errS (c:Ctl):Int:=if errC c≠0 then errC c else if outR 0 2097151 (finP c)=true then 3 else if dupB (finP c) (yL (finT c))=true then 24 else 0
def subR (c:Ctl):List Tri:=if errS c=0 then bT (subT c) else []
structure AtP (p:List Pt) (m:Pt→Option Value) (l:List Int):Prop where
 on:∀n∈l,m (gP p n)=some (vi n)
 off:∀q,m q≠none→∃n∈l,gP p n=q∧m q=some (vi n)
theorem AtP.one {p:List Pt} {m:Pt→Option Value} {l:List Int} (h:AtP p m l):dupB p l=false:=by
 unfold dupB
 refine List.any_eq_false.2 fun a ha=> ?_
 rw [Bool.not_eq_true]
 refine List.any_eq_false.2 fun b hb=> ?_
 simp only [decide_eq_true_eq]
 rintro ⟨e,hne⟩
 have h1:=h.on a ha
 have h2:=h.on b hb
 rw [e,h2] at h1
 simp at h1
 exact hne h1.symm
theorem AtP.put {p:List Pt} {m:Pt→Option Value} {l:List Int} (h:AtP p m l) (n:Int) (hn:m (gP p n)=none∨m (gP p n)=some (vi n)):AtP p (fun q=>if q=gP p n then some (vi n) else m q) (l++ [n]):=by
 constructor
 ·intro a ha
  show (if gP p a=gP p n then some (vi n) else m (gP p a))=_
  by_cases e:gP p a=gP p n
  ·rw [if_pos e]
   rcases List.mem_append.1 ha with ha | ha
   ·have h1:=h.on a ha
    rw [e] at h1
    rcases hn with hn | hn
    ·rw [hn] at h1;cases h1
    ·rw [hn] at h1;exact h1
   ·rw [List.mem_singleton.1 ha]
  ·rw [if_neg e]
   rcases List.mem_append.1 ha with ha | ha
   ·exact h.on a ha
   ·rw [List.mem_singleton.1 ha] at e;exact absurd rfl e
 ·intro q hq
  by_cases e:q=gP p n
  ·exact ⟨n,by simp,e.symm,if_pos e⟩
  ·have hq:m q≠none:=fun h'=>hq (by show (if q=gP p n then some (vi n) else m q)=none;rw [if_neg e];exact h')
   obtain ⟨a,ha,h1,h2⟩:=h.off q hq
   exact ⟨a,List.mem_append.2 (.inl ha),h1,by show (if q=gP p n then some (vi n) else m q)=_;rw [if_neg e];exact h2⟩
theorem zBQ {p:List Pt} {l:List Int} {a b:Int} (ha:a∈l) (hb:b∈l) (e:gP p a=gP p b) (hne:a≠b):dupB p l=true:=
 List.any_eq_true.2 ⟨a,ha,List.any_eq_true.2 ⟨b,hb,by simp [e,hne]⟩⟩
theorem zAZ {p:List Pt} {n:Nat} {q:Pt} (h:p[n]? =some q):gP p (n:Int)=q:=by
 unfold gP
 rw [Int.toNat_natCast,List.getD_eq_getElem?_getD,h]
 rfl
structure SubS (P:List Pt) (X W:World) (mq gy cn:Nat) (a1 a2 a3:Nat) (ov:Value) (n:Nat) (ts:List Tri) (m:Pt→Option Value) (l:List Int):Prop where
 op:Own encT 9 46 W X.heap.size ov n ts
 mp:MapK Tryz.prog 43 vP yJ W mq cn m
 at_:AtP P m l
 bel:Below X.heap.size X W
 bx:Blk W gy 35 #[.int .i64 a1, .int .i64 a2, .int .i64 a3]
theorem zHB {P:List Pt} {X V Y:World} {mq gy cnt:Nat} {a1 a2 a3:Nat} {ov:Value} {n:Nat} {ts:List Tri} {m:Pt→Option Value} {l:List Int} (ho:Own encT 9 46 V X.heap.size ov n ts) (hm:MapK Tryz.prog 43 vP yJ V mq cnt m) (ha:AtP P m l) (hB:Below X.heap.size X V) (hBY:Below V.heap.size V Y) (hb:Blk Y gy 35 #[.int .i64 a1, .int .i64 a2, .int .i64 a3]) (_:gy≠mq):SubS P X Y mq gy cnt a1 a2 a3 ov n ts m l:=
 ⟨ho.below hBY lr9,hm.below hBY hm.lt,ha,hB.trans (hBY.mono hB.size),hb⟩
theorem SubS.put {P:List Pt} {X W W':World} {mq gy cn cn':Nat} {a1 a2 a3:Nat} {ov:Value} {n:Nat} {ts:List Tri} {m m':Pt→Option Value} {l l':List Int} (h:SubS P X W mq gy cn a1 a2 a3 ov n ts m l) (hg:W.grownBy W' (some mq)) (hq:X.heap.size≤mq) (hgo:gy≠mq) (hm:MapK Tryz.prog 43 vP yJ W' mq cn' m') (ha:AtP P m' l'):SubS P X W' mq gy cn' a1 a2 a3 ov n ts m' l':=
 ⟨h.op.kept hg (.inr (vI h.op h.mp)),hm,ha,h.bel.trans (yK hg hq h.bel.size),h.bx.grown hg (fun e=>hgo (Option.some.inj e))⟩
set_option maxRecDepth 100000 in set_option maxHeartbeats 64000000 in
theorem zA8 (Ap At Ac Ao Ad:Option Addr) (cp ct cc oc dc:Nat) (c:Ctl) (w:World) (hm:CtlM w w.heap.size Ap At Ac Ao Ad c) (hb:CtlB c) (hfs:fits c.steps) (hnb:errC c=0→xE c.tris):
  Calls Tryz.prog 27 #[vCtl Ap c.points.length cp At c.tris.length ct Ac c.creases.length cc Ao c.corners.length oc c.steps Ad c.details.length dc] w fun e w'=>∃A1 n1 c1,e= .returned (.tuple #[.slice A1 n1 c1, .int .i64 (errS c)])∧Own encT 9 46 w' w.heap.size (.slice A1 n1 c1) n1 (subR c)∧Below w.heap.size w w':=by
 have kf:=fun (W:World) (hW:Below w.heap.size w W)=>zCD Ap At Ac Ao Ad cp ct cc oc dc c W (hm.below hW hW.size) hb hfs hnb
 obtain ⟨P,hP⟩:=ex9 (finP c)
 obtain ⟨T,hT⟩:=ex9 (finT c)
 have hsz:errC c=0→P.length≤1000000∧T.length≤300000∧∀x∈T,(0≤x.1∧x.1 < (P.length:Int))∧(0≤x.2.1∧x.2.1 < (P.length:Int))∧0≤x.2.2∧x.2.2 < (P.length:Int):=fun h0=>by
  have hR:=uY h0
  have hN:=hnb h0
  have h1:=jV hR hN hb (k:=c.steps.toNat) lr9
  rw [hP,hT]
  unfold finP finT
  rw [if_pos h0,if_pos h0]
  exact ⟨h1.p,h1.t,(Ctl.level_right hR hN c.steps.toNat).cls.idx⟩
 have hes:errS c=if errC c≠0 then errC c else if outR 0 2097151 P=true then 3 else if dupB P (yL T)=true then 24 else 0:=by rw [hP,hT];rfl
 have hsr:subR c=if errS c=0 then bT (T.map (kX P)) else []:=by rw [hP,hT];rfl
 rw [←hP,←hT] at kf
 obtain ⟨np,hnp⟩:=ex9 (c.points.length)
 obtain ⟨nt,hnt⟩:=ex9 (c.tris.length)
 obtain ⟨nc,hnc⟩:=ex9 (c.creases.length)
 obtain ⟨no,hno⟩:=ex9 (c.corners.length)
 obtain ⟨nd,hnd⟩:=ex9 (c.details.length)
 obtain ⟨st,hst⟩:=ex9 (c.steps)
 obtain ⟨er,her⟩:=ex9 (errC c)
 obtain ⟨ES,hES⟩:=ex9 (errS c)
 obtain ⟨PN,hPN⟩:=ex9 (P.length)
 obtain ⟨TN,hTN⟩:=ex9 (T.length)
 rw [←hES] at hes hsr
 rw [←her] at hes hsz
 rw [←hPN,←hTN] at hsz
 rw [hsr,←hnp,←hnt,←hnc,←hno,←hnd,←hst,←hES]
 simp only [←hnp,←hnt,←hnc,←hno,←hnd,←hst,←her,←hPN,←hTN] at kf
 have HK:=hide (ai9 kf (ai9 hsz (ai9 hes (ai9 hPN hTN))))
 clear kf hsz hes hsr hm hb hfs hnb hP hT hnp hnt hnc hno hnd hst her hES hPN hTN
 go_enter Tryz.func27,Tryz.ntmps27
 go_upto_region 1 with fail
 obtain ⟨g1,hg1⟩:=ex9 (w.heap.size)
 obtain ⟨X0,hX⟩:=ex9 (w.alloc (.cells (cCtl Ap np cp At nt ct Ac nc cc Ao no oc st Ad nd dc) 32))
 rw [←hX,←hg1]
 have hb1:Blk X0 g1 32 (cCtl Ap np cp At nt ct Ac nc cc Ao no oc st Ad nd dc):=by rw [hX,hg1];exact Blk.new _ _ _
 have hBX:Below w.heap.size w X0:=by rw [hX];exact (Below.refl _ w).alloc lr9 _
 obtain ⟨z0,z1,z2,z3,z4,z5⟩:=hb1.six9
 have hgl:=hb1.lt
 have H0:=hide hBX
 clear hb1 hBX hX hg1
 by_cases he:er=0
 ·subst he
  obtain ⟨hPl,hTl,hidx⟩:=HK.o.2.1 rfl
  have hes:=HK.o.2.2.1
  rw [if_neg (by simp)] at hes
  have HE:=hide (ai9 hes hidx)
  clear hes hidx
  go_upto_region 4 with (go_at_call 18;refine (HK.o.1 X0 H0.o).mono ?_;rintro e X1 ⟨A1,c1,A2,c2,rfl,ho1,ho2,hB⟩;have H1:=hide (ai9 (ho1.sl zO lr9) (ai9 (ho2.sl zS lr9) (H0.o.trans (hB.mono H0.o.size))));clear ho1 ho2 hB)
  clear z0 z1 z2 z3 z4 z5 hgl
  have kr:=wR A1 c1 P 0 2097151 X1 H1.o.1 (by rw [←HK.o.2.2.2.1];omega)
  obtain ⟨f1,hf1⟩:=ex9 (outR 0 2097151 P)
  rw [←hf1,←HK.o.2.2.2.1] at kr
  have HR:=hide (ai9 kr hf1)
  clear kr hf1
  cases f1 with
  | true=>
   have hes:=HE.o.1
   rw [←HR.o.2,if_pos rfl] at hes
   subst hes
   go_wp2_with (go_at_call 49;refine HR.o.1.mono ?_;rintro e X2 ⟨rfl,hB⟩;have H2:=hide (H1.o.2.2.trans (hB.mono H1.o.2.2.size));clear hB)
   go_ret2
   exact ⟨none,0,0,rfl,Own.nil,H2.o⟩
  | false=>
   have hes:=HE.o.1
   rw [←HR.o.2,if_neg (by simp)] at hes
   have HQ:=hide hes
   clear hes
   go_upto_region 6 with (go_at_call 49;refine HR.o.1.mono ?_;rintro e X2 ⟨rfl,hB⟩;have H2:=hide (ai9 (H1.o.1.below hB) (ai9 (H1.o.2.1.below hB) (ai9 (H1.o.2.2.trans (hB.mono H1.o.2.2.size)) hB.size)));clear hB)
   have hmm:=@run_makeMap Tryz.prog
   go_upto_region 9 with fail
   clear hmm
   obtain ⟨mq,hmq⟩:=ex9 (X2.heap.size)
   obtain ⟨X3,hX3⟩:=ex9 (X2.alloc (.map #[] 0))
   rw [←hX3,←hmq]
   have hM0:MapK Tryz.prog 43 vP yJ X3 mq 0 fun _=>none:=by rw [hX3,hmq];exact MapK.made _ _ _ _ X2
   have hB3:Below X2.heap.size X2 X3:=by rw [hX3];exact (Below.refl _ X2).alloc lr9 _
   have hpf:∀n:Nat,∀q,P[n]? =some q→yJ q:=fun n q hq=>by
    have h:=zMQ HR.o.2.symm q (List.mem_of_getElem? hq)
    unfold yJ fits
    omega
   have H3:=hide (ai9 hM0 (ai9 hB3 (ai9 hmq hpf)))
   clear hM0 hB3 hX3 hmq hpf
   go_loopw [7,32] (fun ov iv wr=>∃(i cnt:Nat) (m:Pt→Option Value),i≤TN∧iv= .int .i64 i∧Own encT 9 46 wr X2.heap.size ov i ((T.take i).map (kX P))∧MapK Tryz.prog 43 vP yJ wr mq cnt m∧AtP P m (yL (T.take i))∧cnt≤3*i∧Below X2.heap.size X2 wr) (fun _ iv _=>TN - (intOf iv).toNat)
   case atStart=>exact ⟨0,0,_,by omega,rfl,by rw [List.take_zero];exact Own.nil,H3.o.1,⟨fun n hn=>(by rw [List.take_zero] at hn;exact absurd hn (by simp [yL])),fun q hq=>absurd rfl hq⟩,by omega,H3.o.2.1⟩
   case round=>
    obtain ⟨i,cnt,m,hi,rfl,hO,hM,hA,hcnt,hB⟩:=hrel
    obtain ⟨V,rfl⟩:=ex9 (wr)
    obtain ⟨Al,cl,rfl⟩:=hO.form
    by_cases hlt:i < TN
    ·have i1:(i:Int) < (TN:Int):=by omega
     obtain ⟨x,hx⟩:∃x,T[i]? =some x:=⟨_,List.getElem?_eq_getElem (by rw [←HK.o.2.2.2.2];exact hlt)⟩
     obtain ⟨bb,ob,hAt,hbb,d0,d1,d2⟩:=((H2.o.2.1.more H2.o.2.2.2).below hB).n3 hx
     subst hAt
     have hbV:bb < V.heap.size:=Nat.lt_of_lt_of_le hbb hB.size
     have hxm:=List.mem_of_getElem? hx
     have hid:=HE.o.2 x hxm
     have htk:(T.take (i+1)).map (kX P)=(T.take i).map (kX P)++ [kX P x]:=by rw [take_at hx,List.map_append];rfl
     have hck:=zA0 hx
     obtain ⟨x1,x2,x3⟩:=x
     simp only at d0 d1 d2 hid
     obtain ⟨a1,rfl⟩:∃a:Nat,x1=(a:Int):=⟨x1.toNat,by omega⟩
     obtain ⟨a2,rfl⟩:∃a:Nat,x2=(a:Int):=⟨x2.toNat,by omega⟩
     obtain ⟨a3,rfl⟩:∃a:Nat,x3=(a:Int):=⟨x3.toNat,by omega⟩
     have l1:(a1:Int) < (PN:Int):=by omega
     have l2:(a2:Int) < (PN:Int):=by omega
     have l3:(a3:Int) < (PN:Int):=by omega
     obtain ⟨q1,hq1⟩:∃q,P[a1]? =some q:=⟨_,List.getElem?_eq_getElem (by rw [←HK.o.2.2.2.1];omega)⟩
     obtain ⟨q2,hq2⟩:∃q,P[a2]? =some q:=⟨_,List.getElem?_eq_getElem (by rw [←HK.o.2.2.2.1];omega)⟩
     obtain ⟨q3,hq3⟩:∃q,P[a3]? =some q:=⟨_,List.getElem?_eq_getElem (by rw [←HK.o.2.2.2.1];omega)⟩
     have htr:kX P ((a1:Int),(a2:Int),(a3:Int))=(q1,q2,q3):=by unfold kX;rw [zAZ hq1,zAZ hq2,zAZ hq3]
     rw [htr] at htk
     have hPs:=H2.o.1.more H2.o.2.2.2
     obtain ⟨bp,op,hA1,hbp,p10,p11,p12⟩:=hPs.pt9 hq1
     subst hA1
     obtain ⟨bp2,op2,e,_,p20,p21,p22⟩:=hPs.pt9 hq2
     cases e
     obtain ⟨bp3,op3,e,_,p30,p31,p32⟩:=hPs.pt9 hq3
     cases e
     have hbpV:bp < V.heap.size:=Nat.lt_of_lt_of_le hbp hB.size
     have HC:=hide (ai9 p10 (ai9 p11 (ai9 p12 (ai9 p20 (ai9 p21 (ai9 p22 (ai9 p30 (ai9 p31 (ai9 p32 hbp)))))))))
     have hmem:∀n∈ [(a1:Int),(a2:Int),(a3:Int)],n∈yL T:=fun n hn=>List.mem_flatMap.2 ⟨_,hxm,hn⟩
     have HV:=hide (ai9 hO (ai9 hM (ai9 hA (ai9 hB (ai9 htk (ai9 hck (ai9 hmem (ai9 hq1 (ai9 hq2 hq3)))))))))
     clear hO hM hA hB htk hck hmem hq1 hq2 hq3 htr hPs hid hxm hx hbb hbp p10 p11 p12 p20 p21 p22 p30 p31 p32 hbpV
     go_upto_region 11 with fail
     obtain ⟨Y,hY⟩:=ex9 (V.alloc (.cells #[.int .i64 a1, .int .i64 a2, .int .i64 a3] 35))
     obtain ⟨gy,hgy⟩:=ex9 (V.heap.size)
     have hbY:Blk Y gy 35 #[.int .i64 a1, .int .i64 a2, .int .i64 a3]:=by rw [hY,hgy];exact Blk.new _ _ _
     have hBY:Below V.heap.size V Y:=by rw [hY];exact (Below.refl _ V).alloc lr9 _
     have hgo:gy≠mq:=by have:=HV.o.2.1.lt;omega
     rw [←hY,←hgy]
     have hS:=zHB HV.o.1 HV.o.2.1 HV.o.2.2.1 HV.o.2.2.2.1 hBY hbY hgo
     have y0:Y.cell? ⟨gy,0,none⟩=some (.int .i64 a1):=hbY.cell 0
     have y1:Y.cell? ⟨gy,1,none⟩=some (.int .i64 a2):=hbY.cell 1
     have y2:Y.cell? ⟨gy,2,none⟩=some (.int .i64 a3):=hbY.cell 2
     have hgyl:=hbY.lt
     have HS:=hide (ai9 hS hgo)
     clear hY hgy hbY hBY hS hgo d0 d1 d2 hbV
     go_upto_region 12 with fail
     clear y0 y1 y2 hgyl
     go_loopw [37] (fun jv wz=>∃(j cn:Nat) (m2:Pt→Option Value),j≤3∧jv= .int .i64 j∧SubS P X2 wz mq gy cn a1 a2 a3 (.slice Al i cl) i ((T.take i).map (kX P)) m2 (yL (T.take i)++ [(a1:Int),(a2:Int),(a3:Int)].take j)∧cn≤cnt+j) (fun jv _=>3 - (intOf jv).toNat)
     case atStart=>exact ⟨0,cnt,m,by omega,rfl,by rw [List.take_zero,List.append_nil];exact HS.o.1,by omega⟩
     case round=>
      obtain ⟨j,cn,m2,hj,rfl,hS,hcn⟩:=hrel
      obtain ⟨U,rfl⟩:=ex9 (wr)
      have a1':IntKind.i64.wrap 1=1:=by decide
      have a2':IntKind.i64.wrap 2=2:=by decide
      have hc:j=0∨j=1∨j=2∨j=3:=by omega
      rcases hc with rfl | rfl | rfl | rfl
      ·have ix:=zM4 (.int .i64 a1) (.int .i64 a2) (.int .i64 a3)
       have hqj:=HV.o.2.2.2.2.2.2.2.1
       have hgp:=zAZ hqj
       have hfq:=H3.o.2.2.2 a1 _ hqj
       have hlk:=hS.mp.lookup_ok kfP4 (t:=95) (e:=3) Tryz.underlying95 (z:= .int .i64 0) rfl q1 hfq
       have hBU:=hS.bel
       have c0:=HC.o.1
       have c1:=HC.o.2.1
       have c2:=HC.o.2.2.1
       have hBVU:∀o v,X2.cell? ⟨bp,o,none⟩=some v→U.cell? ⟨bp,o,none⟩=some v:=fun o v h=>(hBU.cell (p:=⟨bp,o,none⟩) HC.o.2.2.2.2.2.2.2.2.2).trans h
       have c0:=hBVU _ _ c0
       have c1:=hBVU _ _ c1
       have c2:=hBVU _ _ c2
       have hbpU:bp < U.heap.size:=Nat.lt_of_lt_of_le HC.o.2.2.2.2.2.2.2.2.2 hBU.size
       have hsn:yL (T.take i)++ [(a1:Int),(a2:Int),(a3:Int)].take (0+1)=(yL (T.take i)++ [(a1:Int),(a2:Int),(a3:Int)].take 0)++ [(a1:Int)]:=by simp
       obtain ⟨ms,hms⟩:=ex9 (m2 q1)
       rw [←hms] at hlk
       have hup:=hS.mp.update kfP4 (t:=95) (e:=3) Tryz.underlying95 (by unfold maxLen;omega) q1 hfq (vi a1)
       obtain ⟨w6,hrun,hm6,hg6,hz6⟩:=hup
       obtain ⟨b1,b2,b3⟩:=q1
       simp only at c0 c1 c2
       cases ms with
       | none=>
        have hat:=hS.at_.put (a1:Int) (.inl (by rw [hgp,←hms]))
        rw [hgp,←hsn] at hat
        have HU:=hide (hS.put hg6 (by rw [H3.o.2.2.1];exact Nat.le_refl _) HS.o.2 hm6 hat)
        clear hS hqj hgp hfq hBU hBVU hsn hms hm6 hg6 hz6 hat
        have hlk2:(Instr.lookup 95 (.map (some mq)) (.agg #[.int .i64 b1, .int .i64 b2, .int .i64 b3]) true).run Tryz.prog U= .ok (.tuple #[.int .i64 0, .bool false]) U:=hlk
        clear hlk
        go_wp2
        go_roundw
        case rel=>exact ⟨1,cn+1,_,by omega,by go_num,HU.o,by omega⟩
        case measure=>(simp [intOf];try omega)
       | some v=>
        obtain ⟨n0,hn0,hg0,hv0⟩:=hS.at_.off (b1,b2,b3) (by rw [←hms];simp)
        have hv:v=vi n0:=by rw [←hms] at hv0;exact Option.some.inj hv0
        subst hv
        have hlk2:(Instr.lookup 95 (.map (some mq)) (.agg #[.int .i64 b1, .int .i64 b2, .int .i64 b3]) true).run Tryz.prog U= .ok (.tuple #[.int .i64 n0, .bool true]) U:=hlk
        clear hlk
        by_cases hnn:n0=(a1:Int)
        ·subst hnn
         have hat:=hS.at_.put (a1:Int) (.inr (by rw [hgp,←hms]))
         rw [hgp,←hsn] at hat
         have HU:=hide (hS.put hg6 (by rw [H3.o.2.2.1];exact Nat.le_refl _) HS.o.2 hm6 hat)
         clear hS hqj hgp hfq hBU hBVU hsn hms hm6 hg6 hz6 hat hn0 hg0 hv0
         go_wp2
         go_roundw
         case rel=>exact ⟨1,cn+1,_,by omega,by go_num,HU.o,by omega⟩
         case measure=>(simp [intOf];try omega)
        ·have hmo:∀n∈yL (T.take i)++ [(a1:Int),(a2:Int),(a3:Int)].take 0,n∈yL T:=fun n hn=>by
          rcases List.mem_append.1 hn with h | h
          ·obtain ⟨y,hy,hyn⟩:=List.mem_flatMap.1 h
           exact List.mem_flatMap.2 ⟨y,List.mem_of_mem_take hy,hyn⟩
          ·exact HV.o.2.2.2.2.2.2.1 n (List.mem_of_mem_take h)
         have hdup:dupB P (yL T)=true:=zBQ (hmo n0 hn0) (HV.o.2.2.2.2.2.2.1 (a1:Int) (by simp)) (hg0.trans hgp.symm) hnn
         have hes:=HQ.o
         rw [hdup,if_pos rfl] at hes
         subst hes
         have HU:=hide (H2.o.2.2.1.trans (hBU.mono H2.o.2.2.1.size))
         clear hS hqj hgp hfq hBU hBVU hsn hms hm6 hg6 hz6 hn0 hg0 hv0 hmo hdup hrun
         go_wp2
         go_ret2
         exact ⟨none,0,0,rfl,Own.nil,HU.o⟩
      ·have ix:=zNC (.int .i64 a1) (.int .i64 a2) (.int .i64 a3)
       have hqj:=HV.o.2.2.2.2.2.2.2.2.1
       have hgp:=zAZ hqj
       have hfq:=H3.o.2.2.2 a2 _ hqj
       have hlk:=hS.mp.lookup_ok kfP4 (t:=95) (e:=3) Tryz.underlying95 (z:= .int .i64 0) rfl q2 hfq
       have hBU:=hS.bel
       have c0:=HC.o.2.2.2.1
       have c1:=HC.o.2.2.2.2.1
       have c2:=HC.o.2.2.2.2.2.1
       have hBVU:∀o v,X2.cell? ⟨bp,o,none⟩=some v→U.cell? ⟨bp,o,none⟩=some v:=fun o v h=>(hBU.cell (p:=⟨bp,o,none⟩) HC.o.2.2.2.2.2.2.2.2.2).trans h
       have c0:=hBVU _ _ c0
       have c1:=hBVU _ _ c1
       have c2:=hBVU _ _ c2
       have hbpU:bp < U.heap.size:=Nat.lt_of_lt_of_le HC.o.2.2.2.2.2.2.2.2.2 hBU.size
       have hsn:yL (T.take i)++ [(a1:Int),(a2:Int),(a3:Int)].take (1+1)=(yL (T.take i)++ [(a1:Int),(a2:Int),(a3:Int)].take 1)++ [(a2:Int)]:=by simp
       obtain ⟨ms,hms⟩:=ex9 (m2 q2)
       rw [←hms] at hlk
       have hup:=hS.mp.update kfP4 (t:=95) (e:=3) Tryz.underlying95 (by unfold maxLen;omega) q2 hfq (vi a2)
       obtain ⟨w6,hrun,hm6,hg6,hz6⟩:=hup
       obtain ⟨b1,b2,b3⟩:=q2
       simp only at c0 c1 c2
       cases ms with
       | none=>
        have hat:=hS.at_.put (a2:Int) (.inl (by rw [hgp,←hms]))
        rw [hgp,←hsn] at hat
        have HU:=hide (hS.put hg6 (by rw [H3.o.2.2.1];exact Nat.le_refl _) HS.o.2 hm6 hat)
        clear hS hqj hgp hfq hBU hBVU hsn hms hm6 hg6 hz6 hat
        have hlk2:(Instr.lookup 95 (.map (some mq)) (.agg #[.int .i64 b1, .int .i64 b2, .int .i64 b3]) true).run Tryz.prog U= .ok (.tuple #[.int .i64 0, .bool false]) U:=hlk
        clear hlk
        go_wp2
        go_roundw
        case rel=>exact ⟨2,cn+1,_,by omega,by go_num,HU.o,by omega⟩
        case measure=>(simp [intOf];try omega)
       | some v=>
        obtain ⟨n0,hn0,hg0,hv0⟩:=hS.at_.off (b1,b2,b3) (by rw [←hms];simp)
        have hv:v=vi n0:=by rw [←hms] at hv0;exact Option.some.inj hv0
        subst hv
        have hlk2:(Instr.lookup 95 (.map (some mq)) (.agg #[.int .i64 b1, .int .i64 b2, .int .i64 b3]) true).run Tryz.prog U= .ok (.tuple #[.int .i64 n0, .bool true]) U:=hlk
        clear hlk
        by_cases hnn:n0=(a2:Int)
        ·subst hnn
         have hat:=hS.at_.put (a2:Int) (.inr (by rw [hgp,←hms]))
         rw [hgp,←hsn] at hat
         have HU:=hide (hS.put hg6 (by rw [H3.o.2.2.1];exact Nat.le_refl _) HS.o.2 hm6 hat)
         clear hS hqj hgp hfq hBU hBVU hsn hms hm6 hg6 hz6 hat hn0 hg0 hv0
         go_wp2
         go_roundw
         case rel=>exact ⟨2,cn+1,_,by omega,by go_num,HU.o,by omega⟩
         case measure=>(simp [intOf];try omega)
        ·have hmo:∀n∈yL (T.take i)++ [(a1:Int),(a2:Int),(a3:Int)].take 1,n∈yL T:=fun n hn=>by
          rcases List.mem_append.1 hn with h | h
          ·obtain ⟨y,hy,hyn⟩:=List.mem_flatMap.1 h
           exact List.mem_flatMap.2 ⟨y,List.mem_of_mem_take hy,hyn⟩
          ·exact HV.o.2.2.2.2.2.2.1 n (List.mem_of_mem_take h)
         have hdup:dupB P (yL T)=true:=zBQ (hmo n0 hn0) (HV.o.2.2.2.2.2.2.1 (a2:Int) (by simp)) (hg0.trans hgp.symm) hnn
         have hes:=HQ.o
         rw [hdup,if_pos rfl] at hes
         subst hes
         have HU:=hide (H2.o.2.2.1.trans (hBU.mono H2.o.2.2.1.size))
         clear hS hqj hgp hfq hBU hBVU hsn hms hm6 hg6 hz6 hn0 hg0 hv0 hmo hdup hrun
         go_wp2
         go_ret2
         exact ⟨none,0,0,rfl,Own.nil,HU.o⟩
      ·have ix:=zMS (.int .i64 a1) (.int .i64 a2) (.int .i64 a3)
       have hqj:=HV.o.2.2.2.2.2.2.2.2.2
       have hgp:=zAZ hqj
       have hfq:=H3.o.2.2.2 a3 _ hqj
       have hlk:=hS.mp.lookup_ok kfP4 (t:=95) (e:=3) Tryz.underlying95 (z:= .int .i64 0) rfl q3 hfq
       have hBU:=hS.bel
       have c0:=HC.o.2.2.2.2.2.2.1
       have c1:=HC.o.2.2.2.2.2.2.2.1
       have c2:=HC.o.2.2.2.2.2.2.2.2.1
       have hBVU:∀o v,X2.cell? ⟨bp,o,none⟩=some v→U.cell? ⟨bp,o,none⟩=some v:=fun o v h=>(hBU.cell (p:=⟨bp,o,none⟩) HC.o.2.2.2.2.2.2.2.2.2).trans h
       have c0:=hBVU _ _ c0
       have c1:=hBVU _ _ c1
       have c2:=hBVU _ _ c2
       have hbpU:bp < U.heap.size:=Nat.lt_of_lt_of_le HC.o.2.2.2.2.2.2.2.2.2 hBU.size
       have hsn:yL (T.take i)++ [(a1:Int),(a2:Int),(a3:Int)].take (2+1)=(yL (T.take i)++ [(a1:Int),(a2:Int),(a3:Int)].take 2)++ [(a3:Int)]:=by simp
       obtain ⟨ms,hms⟩:=ex9 (m2 q3)
       rw [←hms] at hlk
       have hup:=hS.mp.update kfP4 (t:=95) (e:=3) Tryz.underlying95 (by unfold maxLen;omega) q3 hfq (vi a3)
       obtain ⟨w6,hrun,hm6,hg6,hz6⟩:=hup
       obtain ⟨b1,b2,b3⟩:=q3
       simp only at c0 c1 c2
       cases ms with
       | none=>
        have hat:=hS.at_.put (a3:Int) (.inl (by rw [hgp,←hms]))
        rw [hgp,←hsn] at hat
        have HU:=hide (hS.put hg6 (by rw [H3.o.2.2.1];exact Nat.le_refl _) HS.o.2 hm6 hat)
        clear hS hqj hgp hfq hBU hBVU hsn hms hm6 hg6 hz6 hat
        have hlk2:(Instr.lookup 95 (.map (some mq)) (.agg #[.int .i64 b1, .int .i64 b2, .int .i64 b3]) true).run Tryz.prog U= .ok (.tuple #[.int .i64 0, .bool false]) U:=hlk
        clear hlk
        go_wp2
        go_roundw
        case rel=>exact ⟨3,cn+1,_,by omega,by go_num,HU.o,by omega⟩
        case measure=>(simp [intOf];try omega)
       | some v=>
        obtain ⟨n0,hn0,hg0,hv0⟩:=hS.at_.off (b1,b2,b3) (by rw [←hms];simp)
        have hv:v=vi n0:=by rw [←hms] at hv0;exact Option.some.inj hv0
        subst hv
        have hlk2:(Instr.lookup 95 (.map (some mq)) (.agg #[.int .i64 b1, .int .i64 b2, .int .i64 b3]) true).run Tryz.prog U= .ok (.tuple #[.int .i64 n0, .bool true]) U:=hlk
        clear hlk
        by_cases hnn:n0=(a3:Int)
        ·subst hnn
         have hat:=hS.at_.put (a3:Int) (.inr (by rw [hgp,←hms]))
         rw [hgp,←hsn] at hat
         have HU:=hide (hS.put hg6 (by rw [H3.o.2.2.1];exact Nat.le_refl _) HS.o.2 hm6 hat)
         clear hS hqj hgp hfq hBU hBVU hsn hms hm6 hg6 hz6 hat hn0 hg0 hv0
         go_wp2
         go_roundw
         case rel=>exact ⟨3,cn+1,_,by omega,by go_num,HU.o,by omega⟩
         case measure=>(simp [intOf];try omega)
        ·have hmo:∀n∈yL (T.take i)++ [(a1:Int),(a2:Int),(a3:Int)].take 2,n∈yL T:=fun n hn=>by
          rcases List.mem_append.1 hn with h | h
          ·obtain ⟨y,hy,hyn⟩:=List.mem_flatMap.1 h
           exact List.mem_flatMap.2 ⟨y,List.mem_of_mem_take hy,hyn⟩
          ·exact HV.o.2.2.2.2.2.2.1 n (List.mem_of_mem_take h)
         have hdup:dupB P (yL T)=true:=zBQ (hmo n0 hn0) (HV.o.2.2.2.2.2.2.1 (a3:Int) (by simp)) (hg0.trans hgp.symm) hnn
         have hes:=HQ.o
         rw [hdup,if_pos rfl] at hes
         subst hes
         have HU:=hide (H2.o.2.2.1.trans (hBU.mono H2.o.2.2.1.size))
         clear hS hqj hgp hfq hBU hBVU hsn hms hm6 hg6 hz6 hn0 hg0 hv0 hmo hdup hrun
         go_wp2
         go_ret2
         exact ⟨none,0,0,rfl,Own.nil,HU.o⟩
      ·have hBU:=hS.bel
       have hBVU:∀o v,X2.cell? ⟨bp,o,none⟩=some v→U.cell? ⟨bp,o,none⟩=some v:=fun o v h=>(hBU.cell (p:=⟨bp,o,none⟩) HC.o.2.2.2.2.2.2.2.2.2).trans h
       have HCU:=hide (ai9 (hBVU _ _ HC.o.1) (ai9 (hBVU _ _ HC.o.2.1) (ai9 (hBVU _ _ HC.o.2.2.1) (ai9 (hBVU _ _ HC.o.2.2.2.1) (ai9 (hBVU _ _ HC.o.2.2.2.2.1) (ai9 (hBVU _ _ HC.o.2.2.2.2.2.1) (ai9 (hBVU _ _ HC.o.2.2.2.2.2.2.1) (ai9 (hBVU _ _ HC.o.2.2.2.2.2.2.2.1) (ai9 (hBVU _ _ HC.o.2.2.2.2.2.2.2.2.1) (show bp < U.heap.size from Nat.lt_of_lt_of_le HC.o.2.2.2.2.2.2.2.2.2 hBU.size))))))))))
       have HU:=hide hS
       clear hS hBU hBVU
       go_upto_region 19 with fail
       have HSB:=hide (show Below U.heap.size U U.drew from (Below.refl _ U).drew)
       refine zB (fun W=>Below U.heap.size U W) [0,1,2,3,4,5,6,7,8,9,10,11,12,13,14,15,16] [0,1,2,3,4,5,6,7,8,9,10,11,12,13,14,15,16,17,18,19] zL (by kernel_rfl) ?_
       refine zA (v:=(.slice Al i cl)) rfl rfl (fun _ _ _ h=>h) HSB.o ⟨rfl,fun _ _=>by simp [go_sem]⟩ ?_
       refine zA (v:=(.slice (some ⟨bp,op,none⟩) PN c1)) rfl rfl (fun _ _ _ h=>h) HSB.o ⟨rfl,fun _ _=>by simp [go_sem]⟩ ?_
       refine zA (v:=(.pointer (some ⟨gy,0,none⟩))) rfl rfl (fun _ _ _ h=>h) HSB.o ⟨rfl,fun _ _=>by simp [go_sem]⟩ ?_
       refine zA (v:=(.int .i64 a1)) rfl rfl (fun _ _ _ h=>h) HSB.o ⟨rfl,fun _ h'=>by have a0:=(h'.cell (p:=⟨gy,0,none⟩) HU.o.bx.lt).trans (HU.o.bx.cell 0);simp only [List.getElem?_toArray,List.getElem?_cons_zero] at a0;simp [go_sem,a0]⟩ ?_
       refine zA (v:=(.pointer (some ⟨bp,op+a1*3,none⟩))) rfl rfl (fun _ _ _ h=>h) HSB.o ⟨rfl,fun _ _=>by simp [go_sem,l1]⟩ ?_
       refine zA (v:=(.agg #[.int .i64 q1.1, .int .i64 q1.2.1, .int .i64 q1.2.2])) rfl rfl (fun _ _ _ h=>h) HSB.o ⟨rfl,fun _ h'=>by have f0:=(h'.cell (p:=⟨bp,op+a1*3,none⟩) HCU.o.2.2.2.2.2.2.2.2.2).trans HCU.o.1;have f1:=(h'.cell (p:=⟨bp,op+a1*3+1,none⟩) HCU.o.2.2.2.2.2.2.2.2.2).trans HCU.o.2.1;have f2:=(h'.cell (p:=⟨bp,op+a1*3+2,none⟩) HCU.o.2.2.2.2.2.2.2.2.2).trans HCU.o.2.2.1;simp [go_sem,f0,f1,f2]⟩ ?_
       simp only [List.getElem_toArray,List.getElem_cons_succ,List.getElem_cons_zero,Act.put,List.setIfInBounds_toArray,List.set_cons_succ,List.set_cons_zero]
       refine zA (v:=(.slice (some ⟨bp,op,none⟩) PN c1)) rfl rfl (fun _ _ _ h=>h) HSB.o ⟨rfl,fun _ _=>by simp [go_sem]⟩ ?_
       refine zA (v:=(.pointer (some ⟨gy,1,none⟩))) rfl rfl (fun _ _ _ h=>h) HSB.o ⟨rfl,fun _ _=>by simp [go_sem]⟩ ?_
       refine zA (v:=(.int .i64 a2)) rfl rfl (fun _ _ _ h=>h) HSB.o ⟨rfl,fun _ h'=>by have a0:=(h'.cell (p:=⟨gy,1,none⟩) HU.o.bx.lt).trans (HU.o.bx.cell 1);simp only [List.getElem?_toArray,List.getElem?_cons_zero,List.getElem?_cons_succ] at a0;simp [go_sem,a0]⟩ ?_
       refine zA (v:=(.pointer (some ⟨bp,op+a2*3,none⟩))) rfl rfl (fun _ _ _ h=>h) HSB.o ⟨rfl,fun _ _=>by simp [go_sem,l2]⟩ ?_
       refine zA (v:=(.agg #[.int .i64 q2.1, .int .i64 q2.2.1, .int .i64 q2.2.2])) rfl rfl (fun _ _ _ h=>h) HSB.o ⟨rfl,fun _ h'=>by have f0:=(h'.cell (p:=⟨bp,op+a2*3,none⟩) HCU.o.2.2.2.2.2.2.2.2.2).trans HCU.o.2.2.2.1;have f1:=(h'.cell (p:=⟨bp,op+a2*3+1,none⟩) HCU.o.2.2.2.2.2.2.2.2.2).trans HCU.o.2.2.2.2.1;have f2:=(h'.cell (p:=⟨bp,op+a2*3+2,none⟩) HCU.o.2.2.2.2.2.2.2.2.2).trans HCU.o.2.2.2.2.2.1;simp [go_sem,f0,f1,f2]⟩ ?_
       refine zA (v:=(.slice (some ⟨bp,op,none⟩) PN c1)) rfl rfl (fun _ _ _ h=>h) HSB.o ⟨rfl,fun _ _=>by simp [go_sem]⟩ ?_
       simp only [List.getElem_toArray,List.getElem_cons_succ,List.getElem_cons_zero,Act.put,List.setIfInBounds_toArray,List.set_cons_succ,List.set_cons_zero]
       refine zA (v:=(.pointer (some ⟨gy,2,none⟩))) rfl rfl (fun _ _ _ h=>h) HSB.o ⟨rfl,fun _ _=>by simp [go_sem]⟩ ?_
       refine zA (v:=(.int .i64 a3)) rfl rfl (fun _ _ _ h=>h) HSB.o ⟨rfl,fun _ h'=>by have a0:=(h'.cell (p:=⟨gy,2,none⟩) HU.o.bx.lt).trans (HU.o.bx.cell 2);simp only [List.getElem?_toArray,List.getElem?_cons_zero,List.getElem?_cons_succ] at a0;simp [go_sem,a0]⟩ ?_
       refine zA (v:=(.pointer (some ⟨bp,op+a3*3,none⟩))) rfl rfl (fun _ _ _ h=>h) HSB.o ⟨rfl,fun _ _=>by simp [go_sem,l3]⟩ ?_
       refine zA (v:=(.agg #[.int .i64 q3.1, .int .i64 q3.2.1, .int .i64 q3.2.2])) rfl rfl (fun _ _ _ h=>h) HSB.o ⟨rfl,fun _ h'=>by have f0:=(h'.cell (p:=⟨bp,op+a3*3,none⟩) HCU.o.2.2.2.2.2.2.2.2.2).trans HCU.o.2.2.2.2.2.2.1;have f1:=(h'.cell (p:=⟨bp,op+a3*3+1,none⟩) HCU.o.2.2.2.2.2.2.2.2.2).trans HCU.o.2.2.2.2.2.2.2.1;have f2:=(h'.cell (p:=⟨bp,op+a3*3+2,none⟩) HCU.o.2.2.2.2.2.2.2.2.2).trans HCU.o.2.2.2.2.2.2.2.2.1;simp [go_sem,f0,f1,f2]⟩ ?_
       refine zA (v:=(.agg #[.int .i64 q1.1, .int .i64 q1.2.1, .int .i64 q1.2.2, .int .i64 q2.1, .int .i64 q2.2.1, .int .i64 q2.2.2, .int .i64 q3.1, .int .i64 q3.2.1, .int .i64 q3.2.2])) rfl rfl (fun _ _ _ h=>h) HSB.o ⟨rfl,fun _ _=>by simp [go_sem]⟩ ?_
       simp only [List.getElem_toArray,List.getElem_cons_succ,List.getElem_cons_zero,Act.put,List.setIfInBounds_toArray,List.set_cons_succ,List.set_cons_zero]
       have hal:Below U.heap.size U (U.drew.alloc (.cells #[.int .i64 q1.1, .int .i64 q1.2.1, .int .i64 q1.2.2, .int .i64 q2.1, .int .i64 q2.2.1, .int .i64 q2.2.2, .int .i64 q3.1, .int .i64 q3.2.1, .int .i64 q3.2.2] 46)):=(Below.refl _ U).drew.alloc lr9 _
       refine zD rfl rfl ?_
       go_wp2_with fail
       refine ⟨fun _=>hal,?_⟩
       refine zJ _ [_,_] (by kernel_rfl) rfl ?_
       have hzU:=HU.o.bel.size
       refine zC rfl _ _ _ rfl Tryz.underlying44 kF rfl (by omega) zW yU rfl (HU.o.op.below hal lr9) U.heap.size 1 ((q1,q2,q3):Tri) rfl (Blk.new _ _ _) (by unfold maxLen;omega) (by omega) (by simp;omega) ?_
       intro g6 cap6 w6 hown6 hg6 hB6 hat6 hgb6 hlt6
       have ho2:=HU.o.op.below hal lr9
       have hm2:=HU.o.mp.below hal HU.o.mp.lt
       have H6:=hide (ai9 hown6 (ai9 (hm2.kept hg6 (Ne.symm (vI ho2 hm2))) (((HU.o.bel.trans (hal.mono HU.o.bel.size)).trans hB6))))
       clear hown6 hg6 hB6 hat6 hgb6 hlt6 ho2 hm2 hal hzU
       go_wp2_with fail
       go_roundw
       case rel=>exact ⟨i+1,cn,m2,by omega,by go_num,by rw [HV.o.2.2.2.2.1];exact H6.o.1,H6.o.2.1,by rw [HV.o.2.2.2.2.2.1];exact HU.o.at_,by omega,H6.o.2.2⟩
       case measure=>(simp [intOf];try omega)
    ·obtain rfl:i=TN:=by omega
     have i1:¬(i:Int) < (i:Int):=by omega
     rw [List.take_of_length_le (by rw [←HK.o.2.2.2.2];exact Nat.le_refl _)] at hO hA
     have hes:=HQ.o
     rw [hA.one,if_neg (by simp)] at hes
     subst hes
     have hl:=hO.1
     have hcn:=zI4 Al cl (T.map (kX P)) V (hO.sl zW lr9) (by rw [←hl];omega)
     rw [←hl] at hcn
     have HV:=hide (ai9 (H2.o.2.2.1.trans (hB.mono H2.o.2.2.1.size)) hcn)
     clear hO hM hA hB hl hcn hcnt hlt hi
     go_wp2_with (go_at_call 50;refine HV.o.2.mono ?_;rintro e W9 ⟨v9,rfl,ho9,hB9⟩;obtain ⟨A9,c9,rfl⟩:=ho9.form;have H9:=hide (ai9 (ho9.base_le HV.o.1.size) (HV.o.1.trans (hB9.mono HV.o.1.size)));clear ho9 hB9)
     go_ret2
     exact ⟨A9,i,c9,rfl,H9.o.1,H9.o.2⟩
 ·have hes:=HK.o.2.2.1
  rw [if_pos he] at hes
  have hne:(er !=0)=true:=by simpa using he
  subst hes
  go_wp2_with (go_at_call 18;refine (HK.o.1 X0 H0.o).mono ?_;rintro e X1 ⟨A1,c1,A2,c2,rfl,ho1,ho2,hB⟩;have H1:=hide (H0.o.trans (hB.mono H0.o.size));clear ho1 ho2 hB)
  go_ret2
  exact ⟨none,0,0,rfl,Own.nil,H1.o⟩
end Go.Proofs.YtmemofonebphfaaGreat
namespace Go.Proofs.YtmemofonebphfaaGreat
open Go.RowKit Go.Sort
def RowB (w:World) (g:Nat) (F:List Bool):Prop:=Blk w g 4 (F.map Value.bool).toArray
theorem RowB.cell {w:World} {g i:Nat} {F:List Bool} {b:Bool} (h:RowB w g F) (hi:F[i]? =some b):w.cell? ⟨g,i,none⟩=some (.bool b):=by
 rw [Blk.cell h]
 simp [hi]
theorem RowB.set {w:World} {g:Nat} {F:List Bool} (h:RowB w g F) (i:Nat) (b:Bool):RowB (w.setCell ⟨g,i,none⟩ (.bool b)) g (F.set i b):=by
 have:=Blk.set_ h i (.bool b)
 unfold RowB
 rw [show ((F.set i b).map Value.bool).toArray=(F.map Value.bool).toArray.setIfInBounds i (.bool b) by simp [List.map_set]]
 exact this
theorem zMZ:(Tryz.prog.info? 4).map (fun i=>(i.zero,i.size,i.bytes))=some (some (.bool false),1,1):=by kernel_rfl
theorem zOU (n:Nat) (hn:n≤100000000) (W:World):(Instr.makeSlice 55 (.int .i64 (n:Int)) (.int .i64 (n:Int))).run Tryz.prog W= .ok (.slice (some ⟨W.heap.size,0,none⟩) n n) (W.alloc (.cells ((List.replicate n false).map Value.bool).toArray 4)):=by
 obtain ⟨i,hi,hz,hs,hb⟩:=info_parts zMZ
 have h:=run_make (P:=Tryz.prog) W 55 4 i (.bool false) Tryz.underlying55 hi hz .i64 .i64 n n (by omega) (by omega) (by rw [hb];omega) (by omega)
 rw [h,hs]
 have e:madeCells (Value.bool false).cells ((n:Int).toNat*1)=((List.replicate n false).map Value.bool).toArray:=by
  refine Array.ext (by simp [size_madeCells]) fun k h1 h2=> ?_
  simp [madeCells,Value.cells,Nat.mod_one]
 rw [e,Int.toNat_natCast]
set_option maxRecDepth 100000 in
theorem zL9 (e:Pt) (h:yJ e):Tryz.prog.keyLits 2 35 (yF e)=some [.int .i64 e.1, .int .i64 e.2.1, .int .i64 e.2.2]:=by
 have c:Tryz.prog.cellsOf 3=1:=by kernel_rfl
 have c2:Tryz.prog.cellsOf 35=3:=by kernel_rfl
 have w0:=uD h.1
 have w1:=uD h.2.1
 have w2:=uD h.2.2
 simp [yF,Program.keyLits,Tryz.underlying35,Tryz.underlying3,c,c2,List.range_succ,w0,w1,w2]
set_option maxRecDepth 100000 in
theorem eqN3 (a b:Pt) (ha:yJ a) (hb:yJ b) (w:World):(Op.equalIn 10000 35 (vP a) (vP b)).run Tryz.prog w= .ok (decide (a=b)) w:=by
 have c:Tryz.prog.cellsOf 35=3:=by kernel_rfl
 obtain ⟨r,hr,he⟩:=run_equalIn_deep (P:=Tryz.prog) 9998 2 35 (by kernel_rfl) w 2 2 (vP a) (vP b) _ _ (by simp [Value.formed,Tryz.underlying35,c]) (by simp [Value.formed,Tryz.underlying35,c]) (zL9 a ha) (zL9 b hb)
 rw [hr]
 have:r=decide (a=b):=by
  rw [Bool.eq_iff_iff,he]
  obtain ⟨a1,a2,a3⟩:=a
  obtain ⟨b1,b2,b3⟩:=b
  simp
 rw [this]
set_option maxHeartbeats 2000000 in
theorem zCO (A B:Option Addr) (c d:Nat) (xs ys:List Pt) (w:World) (n1 n2:Nat) (hx:Sl yF 3 w n1 A xs) (hy:Sl yF 3 w n2 B ys) (hlx:xs.length≤4294967296) (_hly:ys.length≤4294967296) (hfx:∀t∈xs,yJ t) (hfy:∀t∈ys,yJ t):
  Calls Tryz.prog 25 #[.slice A xs.length c, .slice B ys.length d] w fun e w'=>e= .returned (.bool (decide (xs=ys)))∧∃k,w'=w.drewN k:=by
 go_enter Tryz.func25,Tryz.ntmps25
 by_cases hl:xs.length=ys.length
 ·rw [←hl]
  go_wp2
  go_loopw [5] (fun i wr=>∃k n:Nat,k≤xs.length∧i= .int .i64 k∧xs.take k=ys.take k∧wr=w.drewN n) (fun i _=>xs.length - (intOf i).toNat)
  case atStart=>exact ⟨0,0,Nat.zero_le _,rfl,rfl,rfl⟩
  case round=>
   obtain ⟨k,n,hk,rfl,htk,rfl⟩:=hrel
   by_cases hlt:k < xs.length
   ·obtain ⟨u,hu⟩:∃u,xs[k]? =some u:=⟨_,List.getElem?_eq_getElem hlt⟩
    obtain ⟨v,hv⟩:∃v,ys[k]? =some v:=⟨_,List.getElem?_eq_getElem (by omega)⟩
    obtain ⟨bA,oA,rfl,_,g0,g1,g2⟩:=hx.n3 hu
    obtain ⟨bB,oB,rfl,_,k0,k1,k2⟩:=hy.n3 hv
    have hq:=eqN3 u v (hfx u (List.mem_of_getElem? hu)) (hfy v (List.mem_of_getElem? hv))
    have H:=hide (ai9 hx (ai9 hy (ai9 hu (ai9 hv (ai9 htk hl)))))
    have i1:(k:Int) < (xs.length:Int):=by omega
    clear hx hy hu hv htk hl
    have htk1:=uI H.o.2.2.1 H.o.2.2.2.1 H.o.2.2.2.2.1
    have HT:=hide htk1
    clear htk1
    by_cases huv:u=v
    ·have hd:decide (u=v)=true:=by simp [huv]
     rw [hd] at hq
     have HU:=hide huv
     clear huv hd
     go_wp2_with fail
     go_quiet (fail)
     go_wp2
     go_roundw
     case rel=>exact ⟨k+1,n+nq,by omega,by go_num,HT.o.2 HU.o,rfl⟩
     case measure=>simp [intOf];omega
    ·have hd:decide (u=v)=false:=by simp [huv]
     rw [hd] at hq
     have HU:=hide huv
     clear huv hd
     go_wp2_with fail
     go_quiet (fail)
     go_wp2
     go_ret
     refine ⟨?_,n+nq,by simp [World.drewN,Nat.add_assoc]⟩
     have:¬xs=ys:=fun e=>HU.o (HT.o.1 (by rw [e]))
     simp [this]
   ·have hke:k=xs.length:=by omega
    have hxy:xs=ys:=by
     rw [hke,List.take_length,hl,List.take_length] at htk
     exact htk
    have HX:=hide hxy
    clear hxy htk hx hy
    go_wp2
    go_ret
    exact ⟨by simp [HX.o],n,rfl⟩
 ·have hne:¬((xs.length:Int)=(ys.length:Int)):=by omega
  have hne2:¬xs=ys:=fun e=>hl (by rw [e])
  have HN:=hide hne2
  clear hx hy hne2
  go_wp2
  go_ret
  exact ⟨by simp [HN.o],0,rfl⟩
end Go.Proofs.YtmemofonebphfaaGreat
namespace Go.Proofs.YtmemofonebphfaaGreat
open Go.RowKit Go.Sort
def gX (U:List Bool) (l:List Int):List Bool:=l.foldl (fun U n=>U.set n.toNat true) U
theorem zJK (l:List Int):∀U:List Bool,(gX U l).length=U.length:=by
 induction l with
 | nil=>exact fun U=>rfl
 | cons a l ih=>exact fun U=>by show (gX (U.set a.toNat true) l).length=_;rw [ih,List.length_set]
theorem qQ (U:List Bool) (l:List Int) (a:Int):gX U (l++ [a])=(gX U l).set a.toNat true:=by
 unfold gX
 rw [List.foldl_append]
 rfl
theorem zHO (l:List Int):∀(U:List Bool) (i:Nat),i < U.length→(∀a∈l,0≤a)→(gX U l)[i]? =some (U.getD i false || decide ((i:Int)∈l)):=by
 induction l with
 | nil=>
  intro U i hi _
  show U[i]? =_
  rw [List.getElem?_eq_getElem hi]
  simp [List.getD_eq_getElem?_getD,List.getElem?_eq_getElem hi]
 | cons a l ih=>
  intro U i hi hp
  show (gX (U.set a.toNat true) l)[i]? =_
  rw [ih _ i (by rw [List.length_set];exact hi) (fun b hb=>hp b (List.mem_cons_of_mem _ hb))]
  have ha:=hp a List.mem_cons_self
  congr 1
  by_cases e:(i:Int)=a
  ·have e2:a.toNat=i:=by omega
   rw [List.getD_eq_getElem?_getD,e2,List.getElem?_set_self hi]
   simp [e]
  ·have e2:a.toNat≠i:=by omega
   rw [List.getD_eq_getElem?_getD,List.getElem?_set_ne e2,←List.getD_eq_getElem?_getD]
   simp [e]
def noTwo (P:List Pt) (l:List Int) (i k:Nat):Prop:=∀a b:Nat,(a < i∨a=i∧b < k)→b < a→(a:Int)∈l→(b:Int)∈l→P.getD a (0,0,0)≠P.getD b (0,0,0)
theorem zHJ {P:List Pt} {l:List Int} {a b:Nat} (ha:(a:Int)∈l) (hb:(b:Int)∈l) (hlt:b < a) (e:P.getD a (0,0,0)=P.getD b (0,0,0)):dupB P l=true:=
 zBQ ha hb (show P.getD _ _=P.getD _ _ by rw [Int.toNat_natCast,Int.toNat_natCast];exact e) (by omega)
theorem zLB {P:List Pt} {l:List Int} {n:Nat} (h:noTwo P l n 0) (hi:∀a∈l,0≤a∧a < (n:Int)):dupB P l=false:=by
 unfold dupB
 refine List.any_eq_false.2 fun a ha=> ?_
 rw [Bool.not_eq_true]
 refine List.any_eq_false.2 fun b hb=> ?_
 simp only [decide_eq_true_eq]
 rintro ⟨e,hne⟩
 have h1:=hi a ha
 have h2:=hi b hb
 obtain ⟨x,rfl⟩:∃x:Nat,a=x:=⟨a.toNat,by omega⟩
 obtain ⟨y,rfl⟩:∃y:Nat,b=y:=⟨b.toNat,by omega⟩
 unfold gP at e
 rw [Int.toNat_natCast,Int.toNat_natCast] at e
 rcases Nat.lt_trichotomy x y with hlt | heq | hgt
 ·exact h y x (.inl (by omega)) hlt hb ha e.symm
 ·exact hne (by rw [heq])
 ·exact h x y (.inl (by omega)) hgt ha hb e
set_option maxRecDepth 100000 in
set_option maxHeartbeats 32000000 in
theorem zGD (A B:Option Addr) (c d:Nat) (P T:List Pt) (w:World) (hp:Sl encP 3 w w.heap.size A P) (ht:Sl yF 3 w w.heap.size B T) (hlp:P.length≤1000000) (hlt:T.length≤1000000) (hfp:∀p∈P,yJ p) (hix:∀x∈T,(0≤x.1∧x.1 < (P.length:Int))∧(0≤x.2.1∧x.2.1 < (P.length:Int))∧0≤x.2.2∧x.2.2 < (P.length:Int)):
  Calls Tryz.prog 68 #[.slice A P.length c, .slice B T.length d] w fun e w'=>e= .returned (.bool (dupB P (yL T)))∧Below w.heap.size w w':=by
 have hci:∀a∈yL T,0≤a∧a < (P.length:Int):=fun a ha=>by
  obtain ⟨x,hx,ha⟩:=List.mem_flatMap.1 ha
  have:=hix x hx
  simp only [xK,List.mem_cons,List.not_mem_nil,or_false] at ha
  omega
 obtain ⟨D,hD⟩:=ex9 (dupB P (yL T))
 rw [←hD]
 obtain ⟨np,hnp⟩:=ex9 (P.length)
 obtain ⟨nt,hnt⟩:=ex9 (T.length)
 rw [←hnp] at hlp hix hci
 rw [←hnt] at hlt
 rw [←hnp,←hnt]
 have hmk:=zOU np (by omega)
 obtain ⟨R0,hR0⟩:∃R:Array Value,R=((List.replicate np false).map Value.bool).toArray:=⟨_,rfl⟩
 rw [←hR0] at hmk
 have HR0:=hide hR0
 clear hR0
 have HK:=hide (ai9 hp (ai9 ht (ai9 hfp (ai9 hix (ai9 hci (ai9 hD (ai9 hnp hnt)))))))
 clear hp ht hfp hix hci hD hnp hnt
 go_enter Tryz.func68,Tryz.ntmps68
 go_upto_region 3 with fail
 clear hmk
 obtain ⟨g5,hg5⟩:=ex9 (w.heap.size)
 obtain ⟨X,hX⟩:=ex9 (w.alloc (.cells R0 4))
 rw [←hX,←hg5]
 have hR:RowB X g5 (gX (List.replicate np false) []):=by rw [hX,hg5];show Blk _ _ _ ((List.replicate np false).map Value.bool).toArray;rw [←HR0.o];exact Blk.new _ _ _
 have hB:Below w.heap.size w X:=by rw [hX];exact (Below.refl _ w).alloc lr9 _
 have hgl:g5 < X.heap.size:=Blk.lt hR
 have HX:=hide (ai9 hR (ai9 hB (show w.heap.size≤g5 by omega)))
 clear hR hB hX hg5
 go_loopw [6] (fun iv wr=>∃i:Nat,i≤nt∧iv= .int .i64 i∧RowB wr g5 (gX (List.replicate np false) (yL (T.take i)))∧Below w.heap.size w wr) (fun iv _=>nt - (intOf iv).toNat)
 case atStart=>exact ⟨0,by omega,rfl,HX.o.1,HX.o.2.1⟩
 case round=>
  obtain ⟨i,hi,rfl,hR,hB⟩:=hrel
  obtain ⟨V,rfl⟩:=ex9 (wr)
  by_cases hlt2:i < nt
  ·have i1:(i:Int) < (nt:Int):=by omega
   obtain ⟨x,hx⟩:∃x,T[i]? =some x:=⟨_,List.getElem?_eq_getElem (by rw [←HK.o.2.2.2.2.2.2.2];exact hlt2)⟩
   have htk:yL (T.take (i+1))=yL (T.take i)++ [x.1,x.2.1,x.2.2]:=by
    unfold yL
    rw [List.take_add_one,hx,List.flatMap_append]
    simp [xK]
   obtain ⟨bt,ot,hA,hbt,f0,f1,f2⟩:=HK.o.2.1.n3 hx
   subst hA
   obtain ⟨⟨a1,a2⟩,⟨b1,b2⟩,d1,d2⟩:=HK.o.2.2.2.1 x (List.mem_of_getElem? hx)
   obtain ⟨x1,x2,x3⟩:=x
   simp only at f0 f1 f2 a1 a2 b1 b2 d1 d2 htk
   obtain ⟨y1,rfl⟩:∃y:Nat,x1=y:=⟨x1.toNat,by omega⟩
   obtain ⟨y2,rfl⟩:∃y:Nat,x2=y:=⟨x2.toNat,by omega⟩
   obtain ⟨y3,rfl⟩:∃y:Nat,x3=y:=⟨x3.toNat,by omega⟩
   have HE:=hide (ai9 hR (ai9 hB (ai9 htk (ai9 f0 (ai9 f1 (ai9 f2 hbt))))))
   clear hR hB htk f0 f1 f2 hbt hx
   go_upto_region 6 with fail
   go_loopw [7] (fun jv wz=>∃j:Nat,j≤3∧jv= .int .i64 j∧RowB wz g5 (gX (List.replicate np false) (yL (T.take i)++([(y1:Int),(y2:Int),(y3:Int)]).take j))∧Below w.heap.size w wz) (fun jv _=>3 - (intOf jv).toNat)
   case atStart=>exact ⟨0,by omega,rfl,by rw [List.take_zero,List.append_nil];exact HE.o.1,HE.o.2.1⟩
   case round=>
    obtain ⟨j,hj,rfl,hR,hB⟩:=hrel
    obtain ⟨U,rfl⟩:=ex9 (wr)
    have c0:=(hB.cell (p:=⟨bt,ot+i*3,none⟩) HE.o.2.2.2.2.2.2).trans HE.o.2.2.2.1
    have c1:=(hB.cell (p:=⟨bt,ot+i*3+1,none⟩) HE.o.2.2.2.2.2.2).trans HE.o.2.2.2.2.1
    have c2:=(hB.cell (p:=⟨bt,ot+i*3+2,none⟩) HE.o.2.2.2.2.2.2).trans HE.o.2.2.2.2.2.1
    have hbU:bt < U.heap.size:=Nat.lt_of_lt_of_le HE.o.2.2.2.2.2.2 hB.size
    have hgU:g5 < U.heap.size:=Blk.lt hR
    have cel:∀(W:World),RowB W g5 (gX (List.replicate np false) (yL (T.take i)++([(y1:Int),(y2:Int),(y3:Int)]).take j))→∀y:Nat,y < np→W.cell? ⟨g5,y,none⟩=some (.bool (((gX (List.replicate np false) (yL (T.take i)++([(y1:Int),(y2:Int),(y3:Int)]).take j)))[y]?.getD false)):=fun W h y hy=>by
     refine h.cell ?_
     rw [List.getElem?_eq_getElem (by rw [zJK,List.length_replicate];exact hy)]
     rfl
    have hj4:j=0∨j=1∨j=2∨j=3:=by omega
    rcases hj4 with rfl | rfl | rfl | rfl
    ·have hs:yL (T.take i)++([(y1:Int),(y2:Int),(y3:Int)]).take 1=(yL (T.take i)++([(y1:Int),(y2:Int),(y3:Int)]).take 0)++ [(y1:Int)]:=by simp
     have HC:=hide (ai9 hR (ai9 hB hs))
     have e1:=cel U hR y1 (by omega)
     have f1:=hR.frozen y1
     clear hR hB hs cel
     go_wp2
     go_roundw
     case rel=>repeat (first | exact ⟨1,by omega,by first | rfl | go_num,by rw [HC.o.2.2,qQ,Int.toNat_natCast];exact HC.o.1.set y1 true,HC.o.2.1.setCell (p:=⟨g5,y1,none⟩) HX.o.2.2 _⟩ | (refine ⟨?_,rfl⟩;exact ⟨1,by omega,by first | rfl | go_num,by rw [HC.o.2.2,qQ,Int.toNat_natCast];exact HC.o.1.set y1 true,HC.o.2.1.setCell (p:=⟨g5,y1,none⟩) HX.o.2.2 _⟩) | apply Exists.intro)
     case measure=>(simp [intOf];try omega)
    ·have hs:yL (T.take i)++([(y1:Int),(y2:Int),(y3:Int)]).take 2=(yL (T.take i)++([(y1:Int),(y2:Int),(y3:Int)]).take 1)++ [(y2:Int)]:=by simp
     have HC:=hide (ai9 hR (ai9 hB hs))
     have e1:=cel U hR y2 (by omega)
     have f1:=hR.frozen y2
     clear hR hB hs cel
     go_wp2
     go_roundw
     case rel=>repeat (first | exact ⟨2,by omega,by first | rfl | go_num,by rw [HC.o.2.2,qQ,Int.toNat_natCast];exact HC.o.1.set y2 true,HC.o.2.1.setCell (p:=⟨g5,y2,none⟩) HX.o.2.2 _⟩ | (refine ⟨?_,rfl⟩;exact ⟨2,by omega,by first | rfl | go_num,by rw [HC.o.2.2,qQ,Int.toNat_natCast];exact HC.o.1.set y2 true,HC.o.2.1.setCell (p:=⟨g5,y2,none⟩) HX.o.2.2 _⟩) | apply Exists.intro)
     case measure=>(simp [intOf];try omega)
    ·have hs:yL (T.take i)++([(y1:Int),(y2:Int),(y3:Int)]).take 3=(yL (T.take i)++([(y1:Int),(y2:Int),(y3:Int)]).take 2)++ [(y3:Int)]:=by simp
     have HC:=hide (ai9 hR (ai9 hB hs))
     have e1:=cel U hR y3 (by omega)
     have f1:=hR.frozen y3
     clear hR hB hs cel
     go_wp2
     go_roundw
     case rel=>repeat (first | exact ⟨3,by omega,by first | rfl | go_num,by rw [HC.o.2.2,qQ,Int.toNat_natCast];exact HC.o.1.set y3 true,HC.o.2.1.setCell (p:=⟨g5,y3,none⟩) HX.o.2.2 _⟩ | (refine ⟨?_,rfl⟩;exact ⟨3,by omega,by first | rfl | go_num,by rw [HC.o.2.2,qQ,Int.toNat_natCast];exact HC.o.1.set y3 true,HC.o.2.1.setCell (p:=⟨g5,y3,none⟩) HX.o.2.2 _⟩) | apply Exists.intro)
     case measure=>(simp [intOf];try omega)
    ·have HC:=hide (ai9 hR hB)
     clear hR hB cel
     go_wp2
     go_roundw
     case rel=>repeat (first | exact ⟨i+1,by omega,by go_num,by rw [HE.o.2.2.1];exact HC.o.1,HC.o.2⟩ | (refine ⟨?_,rfl⟩;exact ⟨i+1,by omega,by go_num,by rw [HE.o.2.2.1];exact HC.o.1,HC.o.2⟩) | apply Exists.intro)
     case measure=>(simp [intOf];try omega)
  ·obtain rfl:i=nt:=by omega
   have i1:¬(i:Int) < (i:Int):=by omega
   have hti:T.take i=T:=List.take_of_length_le (by rw [←HK.o.2.2.2.2.2.2.2];omega)
   rw [hti] at hR
   have hU:∀n:Nat,n < np→(gX (List.replicate np false) (yL T))[n]? =some (decide ((n:Int)∈yL T)):=fun n hn=>by
    rw [zHO _ _ n (by rw [List.length_replicate];exact hn) (fun a ha=>(HK.o.2.2.2.2.1 a ha).1)]
    simp [List.getD_eq_getElem?_getD,hn]
   have HV:=hide (ai9 hR (ai9 hB hU))
   clear hR hB hU
   go_upto_region 10 with fail
   have hgV:g5 < V.heap.size:=Blk.lt HV.o.1
   have hzV:=HV.o.2.1.size
   go_loopw [8] (fun iv wr=>∃i n:Nat,i≤np∧iv= .int .i64 i∧noTwo P (yL T) i 0∧wr=V.drewN n) (fun iv _=>np - (intOf iv).toNat)
   case atStart=>exact ⟨0,0,by omega,rfl,fun a b h=>by omega,rfl⟩
   case round=>
    obtain ⟨a,n,ha,rfl,hno,rfl⟩:=hrel
    by_cases hlt3:a < np
    ·have j1:(a:Int) < (np:Int):=by omega
     obtain ⟨x,hx⟩:∃x,P[a]? =some x:=⟨_,List.getElem?_eq_getElem (by rw [←HK.o.2.2.2.2.2.2.1];exact hlt3)⟩
     have hxg:P.getD a (0,0,0)=x:=by rw [List.getD_eq_getElem?_getD,hx];rfl
     obtain ⟨bp,op,hA,hbp,_⟩:=HK.o.1.at hx
     subst hA
     have hfx:=HK.o.2.2.1 x (List.mem_of_getElem? hx)
     have qx:=HK.o.1.ptW lr9 hx
     have HN:=hide (ai9 hno (ai9 hxg (ai9 hfx qx)))
     clear hno hxg hfx qx hx
     go_upto_region 13 with fail
     go_loopw [9] (fun jv wz=>∃b m:Nat,b≤a∧jv= .int .i64 b∧noTwo P (yL T) a b∧wz=V.drewN m) (fun jv _=>a - (intOf jv).toNat)
     case atStart=>exact ⟨0,n,by omega,rfl,HN.o.1,rfl⟩
     case round=>
      obtain ⟨b,m,hb,rfl,hno,rfl⟩:=hrel
      by_cases hlt4:b < a
      ·have j2:(b:Int) < (a:Int):=by omega
       have j3:(b:Int) < (np:Int):=by omega
       obtain ⟨y,hy⟩:∃y,P[b]? =some y:=⟨_,List.getElem?_eq_getElem (by rw [←HK.o.2.2.2.2.2.2.1];omega)⟩
       have hyg:P.getD b (0,0,0)=y:=by rw [List.getD_eq_getElem?_getD,hy];rfl
       have hfy:=HK.o.2.2.1 y (List.mem_of_getElem? hy)
       have hq:=eqP x y HN.o.2.2.1 hfy
       obtain ⟨d0,d1,d2,hbV⟩:=HN.o.2.2.2.2 V HV.o.2.1
       obtain ⟨e0,e1,e2,_⟩:=(HK.o.1.ptW lr9 hy).2 V HV.o.2.1
       obtain ⟨ua,hua⟩:=ex9 (decide ((a:Int)∈yL T))
       obtain ⟨ub,hub⟩:=ex9 (decide ((b:Int)∈yL T))
       have s1:V.cell? ⟨g5,a,none⟩=some (.bool ua):=HV.o.1.cell (by rw [HV.o.2.2 a hlt3,hua])
       have s2:V.cell? ⟨g5,b,none⟩=some (.bool ub):=HV.o.1.cell (by rw [HV.o.2.2 b (by omega),hub])
       by_cases hall:(ua=true∧ub=true)∧x=y
       ·obtain ⟨⟨hat,hbt⟩,hxy⟩:=hall
        have hr:D=true:=by
         rw [HK.o.2.2.2.2.2.1]
         rw [hat] at hua
         rw [hbt] at hub
         exact zHJ (of_decide_eq_true hua.symm) (of_decide_eq_true hub.symm) hlt4 (by rw [HN.o.2.1,hyg,hxy])
        rw [decide_eq_true hxy] at hq
        subst hat hbt
        have HR:=hide hr
        clear hua hub hr hno hyg hfy hy hxy
        go_upto_region 15 with fail
        go_quiet (fail)
        go_wp2
        go_ret
        exact ⟨by rw [HR.o];rfl,below_drewN (below_drewN HV.o.2.1 _) _⟩
       ·have hr:noTwo P (yL T) a (b+1):=fun p q h1 h2 h3 h4=>by
         by_cases hpq:p=a∧q=b
         ·obtain ⟨rfl,rfl⟩:=hpq
          rw [HN.o.2.1,hyg]
          exact fun e=>hall ⟨⟨by rw [hua];exact decide_eq_true h3,by rw [hub];exact decide_eq_true h4⟩,e⟩
         ·exact hno p q (by omega) h2 h3 h4
        have HR:=hide hr
        clear hr hno hyg hfy hy
        by_cases hat:ua=true
        ·by_cases hbt:ub=true
         ·have hxy:¬x=y:=fun e=>hall ⟨⟨hat,hbt⟩,e⟩
          rw [decide_eq_false hxy] at hq
          subst hat hbt
          clear hua hub hall hxy
          go_upto_region 15 with fail
          go_quiet (fail)
          go_wp2
          go_roundw
          case rel=>repeat (first | exact ⟨b+1,m+nq,by omega,by go_num,HR.o,rfl⟩ | (refine ⟨?_,rfl⟩;exact ⟨b+1,m+nq,by omega,by go_num,HR.o,rfl⟩) | apply Exists.intro)
          case measure=>(simp [intOf];try omega)
         ·have hbf:ub=false:=by simpa using hbt
          subst hat hbf
          clear hua hub hall hbt hq
          go_upto_region 15 with fail
          go_quiet (fail)
          go_wp2
          go_roundw
          case rel=>repeat (first | exact ⟨b+1,m+nq,by omega,by go_num,HR.o,rfl⟩ | (refine ⟨?_,rfl⟩;exact ⟨b+1,m+nq,by omega,by go_num,HR.o,rfl⟩) | apply Exists.intro)
          case measure=>(simp [intOf];try omega)
        ·have haf:ua=false:=by simpa using hat
         subst haf
         clear hua hub hall hat hq
         go_upto_region 15 with fail
         go_quiet (fail)
         go_wp2
         go_roundw
         case rel=>repeat (first | exact ⟨b+1,m+nq,by omega,by go_num,HR.o,rfl⟩ | (refine ⟨?_,rfl⟩;exact ⟨b+1,m+nq,by omega,by go_num,HR.o,rfl⟩) | apply Exists.intro)
         case measure=>(simp [intOf];try omega)
      ·have j2:¬(b:Int) < (a:Int):=by omega
       have hr:noTwo P (yL T) (a+1) 0:=fun p q h1 h2 h3 h4=>hno p q (by omega) h2 h3 h4
       have HR:=hide hr
       clear hr hno
       go_wp2
       go_roundw
       case rel=>repeat (first | exact ⟨a+1,m,by omega,by go_num,HR.o,rfl⟩ | (refine ⟨?_,rfl⟩;exact ⟨a+1,m,by omega,by go_num,HR.o,rfl⟩) | apply Exists.intro)
       case measure=>(simp [intOf];try omega)
    ·obtain rfl:a=np:=by omega
     have j1:¬(a:Int) < (a:Int):=by omega
     have hr:D=false:=by rw [HK.o.2.2.2.2.2.1];exact zLB hno HK.o.2.2.2.2.1
     have HR:=hide hr
     clear hr hno
     go_wp2
     go_ret
     exact ⟨by rw [HR.o];rfl,below_drewN HV.o.2.1 _⟩
end Go.Proofs.YtmemofonebphfaaGreat
namespace Go.Proofs.YtmemofonebphfaaGreat
open Go.RowKit Go.Sort
def SlN (w:World) (A:Option Addr) (n:Nat) (ts:List Tri):Prop:=n=ts.length∧Sl encT 9 w w.heap.size A ts
theorem zL0 {P:List Pt} (h:outR 0 2097151 P=false):∀p∈P,yJ p:=fun p hp=>by
 have:=List.any_eq_false.1 h p hp
 simp only [decide_eq_true_eq] at this
 unfold yJ fits
 omega
set_option maxRecDepth 100000 in set_option maxHeartbeats 64000000 in
theorem zD7 (Ap At Ac Ao Ad:Option Addr) (cp ct cc oc dc:Nat) (c:Ctl) (w:World) (hm:CtlM w w.heap.size Ap At Ac Ao Ad c) (hb:CtlB c) (hfs:fits c.steps) (hnb:errC c=0→xE c.tris):
  Calls Tryz.prog 37 #[vCtl Ap c.points.length cp At c.tris.length ct Ac c.creases.length cc Ao c.corners.length oc c.steps Ad c.details.length dc] w fun e w'=>∃A1 n1 c1,e= .returned (.tuple #[.slice A1 n1 c1, .int .i64 (errS c)])∧SlN w' A1 n1 (subR c)∧Below w.heap.size w w':=by
 have kf:=fun (W:World) (hW:Below w.heap.size w W)=>zC0 Ap At Ac Ao Ad cp ct cc oc dc c W (hm.below hW hW.size) hb hfs hnb
 obtain ⟨P,hP⟩:=ex9 (finP c)
 obtain ⟨T,hT⟩:=ex9 (finT c)
 have hsz:errC c=0→P.length≤1000000∧T.length≤300000∧∀x∈T,(0≤x.1∧x.1 < (P.length:Int))∧(0≤x.2.1∧x.2.1 < (P.length:Int))∧0≤x.2.2∧x.2.2 < (P.length:Int):=fun h0=>by
  have hR:=uY h0
  have hN:=hnb h0
  have h1:=jV hR hN hb (k:=c.steps.toNat) lr9
  rw [hP,hT]
  unfold finP finT
  rw [if_pos h0,if_pos h0]
  exact ⟨h1.p,h1.t,(Ctl.level_right hR hN c.steps.toNat).cls.idx⟩
 have hes:errS c=if errC c≠0 then errC c else if outR 0 2097151 P=true then 3 else if dupB P (yL T)=true then 24 else 0:=by rw [hP,hT];rfl
 have hsr:subR c=if errS c=0 then bT (T.map (kX P)) else []:=by rw [hP,hT];rfl
 rw [←hP,←hT] at kf
 obtain ⟨np,hnp⟩:=ex9 (c.points.length)
 obtain ⟨nt,hnt⟩:=ex9 (c.tris.length)
 obtain ⟨nc,hnc⟩:=ex9 (c.creases.length)
 obtain ⟨no,hno⟩:=ex9 (c.corners.length)
 obtain ⟨nd,hnd⟩:=ex9 (c.details.length)
 obtain ⟨st,hst⟩:=ex9 (c.steps)
 obtain ⟨er,her⟩:=ex9 (errC c)
 obtain ⟨ES,hES⟩:=ex9 (errS c)
 obtain ⟨PN,hPN⟩:=ex9 (P.length)
 obtain ⟨TN,hTN⟩:=ex9 (T.length)
 rw [←hES] at hes hsr
 rw [←her] at hes hsz
 rw [←hPN,←hTN] at hsz
 rw [hsr,←hnp,←hnt,←hnc,←hno,←hnd,←hst,←hES]
 simp only [←hnp,←hnt,←hnc,←hno,←hnd,←hst,←her,←hPN,←hTN] at kf
 have HK:=hide (ai9 kf (ai9 hsz (ai9 hes (ai9 hPN hTN))))
 clear kf hsz hes hsr hm hb hfs hnb hP hT hnp hnt hnc hno hnd hst her hES hPN hTN
 go_enter Tryz.func37,Tryz.ntmps37
 go_upto_region 1 with fail
 obtain ⟨g1,hg1⟩:=ex9 (w.heap.size)
 obtain ⟨X0,hX⟩:=ex9 (w.alloc (.cells (cCtl Ap np cp At nt ct Ac nc cc Ao no oc st Ad nd dc) 32))
 rw [←hX,←hg1]
 have hb1:Blk X0 g1 32 (cCtl Ap np cp At nt ct Ac nc cc Ao no oc st Ad nd dc):=by rw [hX,hg1];exact Blk.new _ _ _
 have hBX:Below w.heap.size w X0:=by rw [hX];exact (Below.refl _ w).alloc lr9 _
 obtain ⟨z0,z1,z2,z3,z4,z5⟩:=hb1.six9
 have hgl:=hb1.lt
 have H0:=hide hBX
 clear hb1 hBX hX hg1
 by_cases he:er=0
 ·subst he
  obtain ⟨hPl,hTl,hidx⟩:=HK.o.2.1 rfl
  have hes:=HK.o.2.2.1
  rw [if_neg (by simp)] at hes
  have HE:=hide (ai9 hes hidx)
  clear hes hidx
  go_upto_region 4 with (go_at_call 32;refine (HK.o.1 X0 H0.o).mono ?_;rintro e X1 ⟨A1,c1,A2,c2,rfl,ho1,ho2,hB⟩;have H1:=hide (ai9 (ho1.sl zO lr9) (ai9 (ho2.sl zS lr9) (H0.o.trans (hB.mono H0.o.size))));clear ho1 ho2 hB)
  clear z0 z1 z2 z3 z4 z5 hgl
  have kr:=bK A1 c1 P 0 2097151 X1 H1.o.1 (by rw [←HK.o.2.2.2.1];omega)
  obtain ⟨f1,hf1⟩:=ex9 (outR 0 2097151 P)
  rw [←hf1,←HK.o.2.2.2.1] at kr
  have HR:=hide (ai9 kr hf1)
  clear kr hf1
  cases f1 with
  | true=>
   have hes:=HE.o.1
   rw [←HR.o.2,if_pos rfl] at hes
   subst hes
   go_wp2_with (go_at_call 67;refine HR.o.1.mono ?_;rintro e X2 ⟨rfl,hB⟩;have H2:=hide (H1.o.2.2.trans (hB.mono H1.o.2.2.size));clear hB)
   go_ret2
   exact ⟨none,0,⟨0,rfl⟩,⟨rfl,Sl.nil⟩,H2.o⟩
  | false=>
   have hes:=HE.o.1
   rw [←HR.o.2,if_neg (by simp)] at hes
   have hfp:=zL0 HR.o.2.symm
   have HQ:=hide (ai9 hes hfp)
   clear hes hfp
   go_upto_region 7 with (go_at_call 67;refine HR.o.1.mono ?_;rintro e X2 ⟨rfl,hB⟩;have H2:=hide (ai9 ((H1.o.1.below hB).more hB.size) (ai9 ((H1.o.2.1.below hB).more hB.size) (H1.o.2.2.trans (hB.mono H1.o.2.2.size))));clear hB)
   have kt:=zGD A1 A2 c1 c2 P T X2 H2.o.1 H2.o.2.1 (by rw [←HK.o.2.2.2.1];exact hPl) (by rw [←HK.o.2.2.2.2];omega) HQ.o.2 (by rw [←HK.o.2.2.2.1];exact HE.o.2)
   obtain ⟨f2,hf2⟩:=ex9 (dupB P (yL T))
   rw [←hf2,←HK.o.2.2.2.1,←HK.o.2.2.2.2] at kt
   have HS:=hide (ai9 kt hf2)
   clear kt hf2
   cases f2 with
   | true=>
    have hes:=HQ.o.1
    rw [←HS.o.2,if_pos rfl] at hes
    subst hes
    go_wp2_with (go_at_call 68;refine HS.o.1.mono ?_;rintro e X3 ⟨rfl,hB⟩;have H3:=hide (H2.o.2.2.trans (hB.mono H2.o.2.2.size));clear hB)
    go_ret2
    exact ⟨none,0,⟨0,rfl⟩,⟨rfl,Sl.nil⟩,H3.o⟩
   | false=>
    have hes:=HQ.o.1
    rw [←HS.o.2,if_neg (by simp)] at hes
    subst hes
    go_upto_region 12 with (go_at_call 68;refine HS.o.1.mono ?_;rintro e X3 ⟨rfl,hB⟩;have H3:=hide (ai9 (H2.o.1.below hB) (ai9 (H2.o.2.1.below hB) (ai9 (H2.o.2.2.trans (hB.mono H2.o.2.2.size)) hB.size)));clear hB)
    go_loopw [9,10] (fun ov iv wr=>∃i:Nat,i≤TN∧iv= .int .i64 i∧Own encT 9 46 wr X3.heap.size ov i ((T.take i).map (kX P))∧Below X3.heap.size X3 wr) (fun _ iv _=>TN - (intOf iv).toNat)
    case atStart=>exact ⟨0,by omega,rfl,Own.nil,Below.refl _ _⟩
    case round=>
     obtain ⟨i,hi,rfl,hO,hB⟩:=hrel
     obtain ⟨U,rfl⟩:=ex9 (wr)
     obtain ⟨Al,cl,rfl⟩:=hO.form
     by_cases hlt:i < TN
     ·have i1:(i:Int) < (TN:Int):=by omega
      obtain ⟨x,hx⟩:∃x,T[i]? =some x:=⟨_,List.getElem?_eq_getElem (by rw [←HK.o.2.2.2.2];exact hlt)⟩
      obtain ⟨⟨a1,a2⟩,⟨b1,b2⟩,d1,d2⟩:=HE.o.2 x (List.mem_of_getElem? hx)
      have htk:(T.take (i+1)).map (kX P)=(T.take i).map (kX P)++ [kX P x]:=by rw [List.take_add_one,hx,List.map_append];rfl
      have hBu:Below X2.heap.size X2 U∨True:= .inr trivial
      obtain ⟨bt,ot,hA,hbt,f0,f1,f2⟩:=(((H3.o.2.1.more H3.o.2.2.2).below hB)).n3 hx
      subst hA
      obtain ⟨x1,x2,x3⟩:=x
      simp only at a1 a2 b1 b2 d1 d2 f0 f1 f2 htk
      obtain ⟨y1,rfl⟩:∃y:Nat,x1=y:=⟨x1.toNat,by omega⟩
      obtain ⟨y2,rfl⟩:∃y:Nat,x2=y:=⟨x2.toNat,by omega⟩
      obtain ⟨y3,rfl⟩:∃y:Nat,x3=y:=⟨x3.toNat,by omega⟩
      obtain ⟨q1,hq1⟩:∃q,P[y1]? =some q:=⟨_,List.getElem?_eq_getElem (by rw [←HK.o.2.2.2.1];omega)⟩
      have l1:(y1:Int) < (PN:Int):=by omega
      obtain ⟨q2,hq2⟩:∃q,P[y2]? =some q:=⟨_,List.getElem?_eq_getElem (by rw [←HK.o.2.2.2.1];omega)⟩
      have l2:(y2:Int) < (PN:Int):=by omega
      obtain ⟨q3,hq3⟩:∃q,P[y3]? =some q:=⟨_,List.getElem?_eq_getElem (by rw [←HK.o.2.2.2.1];omega)⟩
      have l3:(y3:Int) < (PN:Int):=by omega
      have hSP:Sl encP 3 X3 X3.heap.size A1 P:=H3.o.1.more H3.o.2.2.2
      obtain ⟨bp,op,hA,hbp,_⟩:=hSP.at hq1
      subst hA
      obtain ⟨c10,c11,c12,hbpU1⟩:=(hSP.ptW lr9 hq1).2 U hB
      obtain ⟨c20,c21,c22,hbpU2⟩:=(hSP.ptW lr9 hq2).2 U hB
      obtain ⟨c30,c31,c32,hbpU3⟩:=(hSP.ptW lr9 hq3).2 U hB
      have htr:kX P ((y1:Int),(y2:Int),(y3:Int))=(q1,q2,q3):=by
       show (gP P y1,gP P y2,gP P y3)=_
       rw [zAZ hq1,zAZ hq2,zAZ hq3]
      rw [htr] at htk
      have hbtU:bt < U.heap.size:=Nat.lt_of_lt_of_le hbt hB.size
      have HU:=hide (ai9 hO (ai9 hB htk))
      have HF:=hide (ai9 f0 (ai9 f1 (ai9 f2 hbtU)))
      have HC:=hide (ai9 (ai9 c10 (ai9 c11 c12)) (ai9 (ai9 c20 (ai9 c21 c22)) (ai9 (ai9 c30 (ai9 c31 c32)) hbpU1)))
      clear hO hB htk htr f0 f1 f2 hbtU hbt hbp hSP hx hq1 hq2 hq3 c10 c11 c12 c20 c21 c22 c30 c31 c32 hbpU1 hbpU2 hbpU3 hBu
      go_upto_region 14 with fail
      have HSB:=hide (show Below U.heap.size U U.drew from (Below.refl _ U).drew)
      refine zB (fun W=>Below U.heap.size U W) [0,1,2,3,4,5,6,7,8,9,10,11,12,13,14,15,16,17,18,19,20,21,22,23,24,25] [0,1,2,3,4,5,6,7,8,9,10,11,12,13,14,15,16,17,18,19,20,21,22,23,24,25,26,27,28] zL (by kernel_rfl) ?_
      refine zA (v:=(.slice Al i cl)) rfl rfl (fun _ _ _ h=>h) HSB.o ⟨rfl,fun _ _=>by simp [go_sem]⟩ ?_
      refine zA (v:=(.slice (some ⟨bp,op,none⟩) PN c1)) rfl rfl (fun _ _ _ h=>h) HSB.o ⟨rfl,fun _ _=>by simp [go_sem]⟩ ?_
      refine zA (v:=(.slice (some ⟨bt,ot,none⟩) TN c2)) rfl rfl (fun _ _ _ h=>h) HSB.o ⟨rfl,fun _ _=>by simp [go_sem]⟩ ?_
      refine zA (v:=(.int .i64 i)) rfl rfl (fun _ _ _ h=>h) HSB.o ⟨rfl,fun _ _=>by simp [go_sem]⟩ ?_
      refine zA (v:=(.pointer (some ⟨bt,ot+i*3,none⟩))) rfl rfl (fun _ _ _ h=>h) HSB.o ⟨rfl,fun _ _=>by simp [go_sem,i1]⟩ ?_
      refine zA (v:=(.pointer (some ⟨bt,ot+i*3,none⟩))) rfl rfl (fun _ _ _ h=>h) HSB.o ⟨rfl,fun _ _=>by simp [go_sem]⟩ ?_
      simp only [List.getElem_toArray,List.getElem_cons_succ,List.getElem_cons_zero,Act.put,List.setIfInBounds_toArray,List.set_cons_succ,List.set_cons_zero]
      refine zA (v:=(.int .i64 y1)) rfl rfl (fun _ _ _ h=>h) HSB.o ⟨rfl,fun _ h'=>by have a0:=(h'.cell (p:=⟨bt,ot+i*3,none⟩) HF.o.2.2.2).trans HF.o.1;simp [go_sem,a0]⟩ ?_
      refine zA (v:=(.pointer (some ⟨bp,op+y1*3,none⟩))) rfl rfl (fun _ _ _ h=>h) HSB.o ⟨rfl,fun _ _=>by simp [go_sem,l1]⟩ ?_
      refine zA (v:=(.agg #[.int .i64 q1.1, .int .i64 q1.2.1, .int .i64 q1.2.2])) rfl rfl (fun _ _ _ h=>h) HSB.o ⟨rfl,fun _ h'=>by have e0:=(h'.cell (p:=⟨bp,op+y1*3,none⟩) HC.o.2.2.2).trans HC.o.1.1;have e1:=(h'.cell (p:=⟨bp,op+y1*3+1,none⟩) HC.o.2.2.2).trans HC.o.1.2.1;have e2:=(h'.cell (p:=⟨bp,op+y1*3+2,none⟩) HC.o.2.2.2).trans HC.o.1.2.2;simp [go_sem,e0,e1,e2]⟩ ?_
      refine zA (v:=(.slice (some ⟨bp,op,none⟩) PN c1)) rfl rfl (fun _ _ _ h=>h) HSB.o ⟨rfl,fun _ _=>by simp [go_sem]⟩ ?_
      refine zA (v:=(.slice (some ⟨bt,ot,none⟩) TN c2)) rfl rfl (fun _ _ _ h=>h) HSB.o ⟨rfl,fun _ _=>by simp [go_sem]⟩ ?_
      refine zA (v:=(.int .i64 i)) rfl rfl (fun _ _ _ h=>h) HSB.o ⟨rfl,fun _ _=>by simp [go_sem]⟩ ?_
      simp only [List.getElem_toArray,List.getElem_cons_succ,List.getElem_cons_zero,Act.put,List.setIfInBounds_toArray,List.set_cons_succ,List.set_cons_zero]
      refine zA (v:=(.pointer (some ⟨bt,ot+i*3,none⟩))) rfl rfl (fun _ _ _ h=>h) HSB.o ⟨rfl,fun _ _=>by simp [go_sem,i1]⟩ ?_
      refine zA (v:=(.pointer (some ⟨bt,ot+i*3+1,none⟩))) rfl rfl (fun _ _ _ h=>h) HSB.o ⟨rfl,fun _ _=>by simp [go_sem]⟩ ?_
      refine zA (v:=(.int .i64 y2)) rfl rfl (fun _ _ _ h=>h) HSB.o ⟨rfl,fun _ h'=>by have a0:=(h'.cell (p:=⟨bt,ot+i*3+1,none⟩) HF.o.2.2.2).trans HF.o.2.1;simp [go_sem,a0]⟩ ?_
      refine zA (v:=(.pointer (some ⟨bp,op+y2*3,none⟩))) rfl rfl (fun _ _ _ h=>h) HSB.o ⟨rfl,fun _ _=>by simp [go_sem,l2]⟩ ?_
      refine zA (v:=(.agg #[.int .i64 q2.1, .int .i64 q2.2.1, .int .i64 q2.2.2])) rfl rfl (fun _ _ _ h=>h) HSB.o ⟨rfl,fun _ h'=>by have e0:=(h'.cell (p:=⟨bp,op+y2*3,none⟩) HC.o.2.2.2).trans HC.o.2.1.1;have e1:=(h'.cell (p:=⟨bp,op+y2*3+1,none⟩) HC.o.2.2.2).trans HC.o.2.1.2.1;have e2:=(h'.cell (p:=⟨bp,op+y2*3+2,none⟩) HC.o.2.2.2).trans HC.o.2.1.2.2;simp [go_sem,e0,e1,e2]⟩ ?_
      refine zA (v:=(.slice (some ⟨bp,op,none⟩) PN c1)) rfl rfl (fun _ _ _ h=>h) HSB.o ⟨rfl,fun _ _=>by simp [go_sem]⟩ ?_
      simp only [List.getElem_toArray,List.getElem_cons_succ,List.getElem_cons_zero,Act.put,List.setIfInBounds_toArray,List.set_cons_succ,List.set_cons_zero]
      refine zA (v:=(.slice (some ⟨bt,ot,none⟩) TN c2)) rfl rfl (fun _ _ _ h=>h) HSB.o ⟨rfl,fun _ _=>by simp [go_sem]⟩ ?_
      refine zA (v:=(.int .i64 i)) rfl rfl (fun _ _ _ h=>h) HSB.o ⟨rfl,fun _ _=>by simp [go_sem]⟩ ?_
      refine zA (v:=(.pointer (some ⟨bt,ot+i*3,none⟩))) rfl rfl (fun _ _ _ h=>h) HSB.o ⟨rfl,fun _ _=>by simp [go_sem,i1]⟩ ?_
      refine zA (v:=(.pointer (some ⟨bt,ot+i*3+2,none⟩))) rfl rfl (fun _ _ _ h=>h) HSB.o ⟨rfl,fun _ _=>by simp [go_sem]⟩ ?_
      refine zA (v:=(.int .i64 y3)) rfl rfl (fun _ _ _ h=>h) HSB.o ⟨rfl,fun _ h'=>by have a0:=(h'.cell (p:=⟨bt,ot+i*3+2,none⟩) HF.o.2.2.2).trans HF.o.2.2.1;simp [go_sem,a0]⟩ ?_
      refine zA (v:=(.pointer (some ⟨bp,op+y3*3,none⟩))) rfl rfl (fun _ _ _ h=>h) HSB.o ⟨rfl,fun _ _=>by simp [go_sem,l3]⟩ ?_
      simp only [List.getElem_toArray,List.getElem_cons_succ,List.getElem_cons_zero,Act.put,List.setIfInBounds_toArray,List.set_cons_succ,List.set_cons_zero]
      refine zA (v:=(.agg #[.int .i64 q3.1, .int .i64 q3.2.1, .int .i64 q3.2.2])) rfl rfl (fun _ _ _ h=>h) HSB.o ⟨rfl,fun _ h'=>by have e0:=(h'.cell (p:=⟨bp,op+y3*3,none⟩) HC.o.2.2.2).trans HC.o.2.2.1.1;have e1:=(h'.cell (p:=⟨bp,op+y3*3+1,none⟩) HC.o.2.2.2).trans HC.o.2.2.1.2.1;have e2:=(h'.cell (p:=⟨bp,op+y3*3+2,none⟩) HC.o.2.2.2).trans HC.o.2.2.1.2.2;simp [go_sem,e0,e1,e2]⟩ ?_
      refine zA (v:=(.agg #[.int .i64 q1.1, .int .i64 q1.2.1, .int .i64 q1.2.2, .int .i64 q2.1, .int .i64 q2.2.1, .int .i64 q2.2.2, .int .i64 q3.1, .int .i64 q3.2.1, .int .i64 q3.2.2])) rfl rfl (fun _ _ _ h=>h) HSB.o ⟨rfl,fun _ _=>by simp [go_sem]⟩ ?_
      simp only [List.getElem_toArray,List.getElem_cons_succ,List.getElem_cons_zero,Act.put,List.setIfInBounds_toArray,List.set_cons_succ,List.set_cons_zero]
      refine zD rfl rfl ?_
      go_wp2_with fail
      refine ⟨fun _=>HSB.o.alloc lr9 _,?_⟩
      refine zJ _ [_,_] (by kernel_rfl) rfl ?_
      have hal:Below U.heap.size U (U.drew.alloc (.cells #[.int .i64 q1.1, .int .i64 q1.2.1, .int .i64 q1.2.2, .int .i64 q2.1, .int .i64 q2.2.1, .int .i64 q2.2.2, .int .i64 q3.1, .int .i64 q3.2.1, .int .i64 q3.2.2] 46)):=(Below.refl _ U).drew.alloc lr9 _
      have hXU:=HU.o.2.1.size
      refine zC rfl _ _ _ rfl Tryz.underlying44 kF rfl (by omega) zW yU rfl (HU.o.1.below hal lr9) U.heap.size 1 ((q1,q2,q3):Tri) rfl (Blk.new _ _ _) (by unfold maxLen;omega) (by omega) (Nat.le_trans hXU hal.size) ?_
      intro g6 cap6 w6 hown6 hg6 hB6 hat6 hgb6 hlt6
      have hB7:=(HU.o.2.1.trans (hal.mono hXU)).trans hB6
      rw [←HU.o.2.2] at hown6
      have H6:=hide (ai9 hown6 hB7)
      clear hown6 hg6 hB6 hat6 hgb6 hlt6 hB7 hal HSB
      go_wp2
      go_roundw
      case rel=>repeat (first | exact ⟨i+1,by omega,by go_num,H6.o.1,H6.o.2⟩ | (refine ⟨?_,rfl⟩;exact ⟨i+1,by omega,by go_num,H6.o.1,H6.o.2⟩) | apply Exists.intro)
      case measure=>(simp [intOf];try omega)
     ·obtain rfl:i=TN:=by omega
      have i1:¬(i:Int) < (i:Int):=by omega
      rw [List.take_of_length_le (by rw [←HK.o.2.2.2.2];exact Nat.le_refl _)] at hO
      have hl:=hO.1
      have hcn:=zE2 Al cl (T.map (kX P)) U (hO.sl zW lr9) (by rw [←hl];omega) (fun t ht=>by
       obtain ⟨x,hx,rfl⟩:=List.mem_map.1 ht
       have key:∀n:Int,0≤n→n < (PN:Int)→yJ (gP P n):=fun n h0 h1=>by
        obtain ⟨m,rfl⟩:∃m:Nat,n=m:=⟨n.toNat,by omega⟩
        obtain ⟨z,hz⟩:∃z,P[m]? =some z:=⟨_,List.getElem?_eq_getElem (by rw [←HK.o.2.2.2.1];omega)⟩
        rw [zAZ hz]
        exact HQ.o.2 z (List.mem_of_getElem? hz)
       have h:=HE.o.2 x hx
       exact ⟨key _ h.1.1 h.1.2,key _ h.2.1.1 h.2.1.2,key _ h.2.2.1 h.2.2.2⟩)
      rw [←hl] at hcn
      have hcl:i=(bT (T.map (kX P))).length:=by rw [hl];exact (fC _).symm
      have HV:=hide (ai9 (H3.o.2.2.1.trans (hB.mono H3.o.2.2.1.size)) (ai9 hcn hcl))
      clear hO hB hl hcn hlt hi hcl
      go_wp2_with (go_at_call 30;refine HV.o.2.1.mono ?_;rintro e W9 ⟨A9,c9,rfl,hB9,hs9,_⟩;have H9:=hide (ai9 hs9 (HV.o.1.trans (hB9.mono HV.o.1.size)));clear hs9 hB9)
      go_ret2
      exact ⟨A9,i,⟨c9,rfl⟩,⟨HV.o.2.2,H9.o.1⟩,H9.o.2⟩
 ·have hes:=HK.o.2.2.1
  rw [if_pos he] at hes
  have hne:(er !=0)=true:=by simpa using he
  subst hes
  go_wp2_with (go_at_call 32;refine (HK.o.1 X0 H0.o).mono ?_;rintro e X1 ⟨A1,c1,A2,c2,rfl,ho1,ho2,hB⟩;have H1:=hide (H0.o.trans (hB.mono H0.o.size));clear ho1 ho2 hB)
  go_ret2
  first | exact ⟨none,0,⟨0,rfl⟩,⟨rfl,Sl.nil⟩,H1.o⟩ | (rw [if_neg he];exact ⟨none,0,⟨0,rfl⟩,⟨rfl,Sl.nil⟩,H1.o⟩)
end Go.Proofs.YtmemofonebphfaaGreat
namespace Go.Proofs.YtmemofonebphfaaGreat
open Go.RowKit Go.Sort
def tetC (cr:List E2) (ds:List (List Pt)):Ctl:=⟨[(0,0,0),(16,0,0),(0,16,0),(0,0,16)],tetB,cr, [],1,ds⟩
theorem zAG:zH tetB= [(0,1),(0,2),(0,3),(1,2),(1,3),(2,3)]:=
 jX (qL _) (by decide) ((y7 _).trans (by decide))
theorem zEE:setE []= []:=(y7 _).eq_nil
theorem zNO:setE [(0,1)]= [(0,1)]:=jX (kJ _) (by decide) ((y7 _).trans (by decide))
theorem zMT:setE [(0,1),(2,1)]= [(0,1),(1,2)]:=jX (kJ _) (by decide) ((y7 _).trans (by decide))
theorem zBS {cr:List E2} {ds:List (List Pt)} (h1:argC (tetC cr ds)=false) (h2:qA (tetC cr ds)=false) (h3:∀e∈cr,nrmE e.1 e.2∈ [((0:Int),(1:Int)),(0,2),(0,3),(1,2),(1,3),(2,3)]) (h4:bZ (tetC cr ds)=false) (h5:farC (tetC cr ds)=false):errC (tetC cr ds)=0:=
 dR.2 ⟨h1,h2,wZ.chk,zAJ.2 fun e he=>(by show _∈zH tetB;rw [zAG];exact h3 e he),h4,h5⟩
theorem zJS:errC (tetC [] [])=0:=zBS (by decide) (by decide) (fun e he=>by cases he) (by decide) (by decide)
theorem zOD:errC (tetC [(0,1)] [])=0:=zBS (by decide) (by decide) (by decide) (by decide) (by decide)
theorem zN6:errC (tetC [(0,1),(2,1)] [])=0:=zBS (by decide) (by decide) (by decide) (by decide) (by decide)
theorem zOY:errC (tetC [] [[(1,2,3)]])=0:=zBS (by decide) (by decide) (fun e he=>by cases he) (by decide) (by decide)
def tetQ:List Pt:= [(0,0,0),(256,0,0),(0,256,0),(0,0,256)]
def tetE:List E2:= [(0,1),(0,2),(0,3),(1,2),(1,3),(2,3)]
theorem dS {cr S:List E2} {ds:List (List Pt)} (hS:setE cr=S) (h0:errC (tetC cr ds)=0):finP (tetC cr ds)=tetQ++detE (tetE.map fun e=>jC tetQ tetB S [] e.1 e.2) (ds.getD 0 []) 1:=by
 unfold finP
 rw [if_pos h0]
 have hp:(tetC cr ds).begin.p=tetQ:=by
  show ([(0,0,0),(16,0,0),(0,16,0),(0,0,16)]:List Pt).map (fun p=>xU (0,0,0) p (16^(1:Int).toNat))=tetQ
  decide+kernel
 show (tetC cr ds).begin.p++detE ((zH tetB).map fun e=>jC (tetC cr ds).begin.p tetB (setE cr) [] e.1 e.2) (ds.getD 0 []) (16^((1:Int).toNat - 1 - 0))=_
 rw [hp,zAG,hS]
 rfl
theorem zOI:(finP (tetC [] [])).length=10∧(finP (tetC [] []))[4]? =some (128,0,0):=by rw [dS zEE zJS];decide+kernel
theorem zN7:(finP (tetC [(0,1)] [])).length=10∧(finP (tetC [(0,1)] []))[4]? =some (128,0,0):=by rw [dS zNO zOD];decide+kernel
theorem new_c:(finP (tetC [(0,1),(2,1)] [])).length=10∧(finP (tetC [(0,1),(2,1)] []))[4]? =some (144,-16,0):=by rw [dS zMT zN6];decide+kernel
theorem zOV:(finP (tetC [] [[(1,2,3)]])).length=10∧(finP (tetC [] [[(1,2,3)]]))[4]? =some (129,2,3):=by rw [dS zEE zOY];decide+kernel
theorem zLN:finT (tetC [] [])=stepT (fun a b=>4+posE tetE a b) tetB:=by
 unfold finT
 rw [if_pos zJS]
 show stepT (midE tetB ((tetC [] []).begin.p.length:Nat)) tetB=_
 unfold midE
 rw [zAG]
 rfl
theorem zO5:errS (tetC [] [])=0:=by
 unfold errS
 rw [if_neg (by rw [zJS];simp),zLN,dS zEE zJS]
 decide+kernel
theorem fG (cr:List E2) (ds:List (List Pt)):xE (tetC cr ds).tris:=wZ.back
end Go.Proofs.YtmemofonebphfaaGreat
namespace Go.Proofs.YtmemofonebphfaaGreat
open Go.RowKit Go.Sort Go.WideMaps Go.Maps Go.Shelf
set_option maxRecDepth 100000 in
set_option maxHeartbeats 32000000 in
theorem cO (Ap At Ac Ao Ad:Option Addr) (cp ct cc oc dc:Nat) (c:Ctl) (q:Pt) (w:World) (hm:CtlM w w.heap.size Ap At Ac Ao Ad c) (hb:CtlB c) (hfs:fits c.steps) (hnb:xE c.tris) (h0:errC c=0) (hl:(finP c).length=10) (hq:(finP c)[4]? =some q):
  Calls Tryz.prog 36 #[vCtl Ap c.points.length cp At c.tris.length ct Ac c.creases.length cc Ao c.corners.length oc c.steps Ad c.details.length dc] w fun e w'=>e= .returned (vP q)∧Below w.heap.size w w':=by
 have kf:=fun (W:World) (hW:Below w.heap.size w W)=>zCD Ap At Ac Ao Ad cp ct cc oc dc c W (hm.below hW hW.size) hb hfs (fun _=>hnb)
 obtain ⟨P,hP⟩:=ex9 (finP c)
 obtain ⟨T,hT⟩:=ex9 (finT c)
 obtain ⟨np,hnp⟩:=ex9 (c.points.length)
 obtain ⟨nt,hnt⟩:=ex9 (c.tris.length)
 obtain ⟨nc,hnc⟩:=ex9 (c.creases.length)
 obtain ⟨no,hno⟩:=ex9 (c.corners.length)
 obtain ⟨nd,hnd⟩:=ex9 (c.details.length)
 obtain ⟨st,hst⟩:=ex9 (c.steps)
 rw [h0] at kf
 rw [←hP] at kf hl hq
 rw [hl] at kf
 obtain ⟨TN,hTN⟩:=ex9 (T.length)
 rw [←hT,←hTN] at kf
 rw [←hnp,←hnt,←hnc,←hno,←hnd,←hst]
 simp only [←hnp,←hnt,←hnc,←hno,←hnd,←hst] at kf
 have HK:=hide (ai9 kf hq)
 clear kf hq hm hb hfs hnb h0 hP hT hnp hnt hnc hno hnd hst hTN hl
 go_enter Tryz.func36,Tryz.ntmps36
 go_upto_region 1 with fail
 obtain ⟨g1,hg1⟩:=ex9 (w.heap.size)
 obtain ⟨g2,hg2⟩:=ex9 (w.heap.size+1)
 obtain ⟨X0,hX⟩:=ex9 ((w.alloc (.cells (cCtl Ap np cp At nt ct Ac nc cc Ao no oc st Ad nd dc) 32)).alloc (.cells #[.int .i64 0, .int .i64 0, .int .i64 0] 43))
 rw [←hX,←hg2,←hg1]
 have hb1:Blk X0 g1 32 (cCtl Ap np cp At nt ct Ac nc cc Ao no oc st Ad nd dc):=by rw [hX,hg1];exact (Blk.new _ _ _).alloc _
 have hb2:Blk X0 g2 43 #[.int .i64 0, .int .i64 0, .int .i64 0]:=by rw [hX,hg2];exact Blk.new' _ _ _ _ (by simp)
 have hBX:Below w.heap.size w X0:=by rw [hX];exact ((Below.refl _ w).alloc lr9 _).alloc (by simp) _
 obtain ⟨z0,z1,z2,z3,z4,z5⟩:=hb1.six9
 have hgl:=hb1.lt
 have H0:=hide (ai9 hBX (ai9 hb2 (show w.heap.size≤g2 by omega)))
 clear hb1 hb2 hBX hX hg1 hg2
 go_upto_region 2 with (go_at_call 18;refine (HK.o.1 X0 H0.o.1).mono ?_;rintro e X1 ⟨A1,c1,A2,c2,rfl,ho1,ho2,hB⟩;have H1:=hide (ai9 (ho1.sl zO lr9) (ai9 (H0.o.1.trans (hB.mono H0.o.1.size)) (H0.o.2.1.below hB H0.o.2.1.lt)));clear ho1 ho2 hB)
 clear z0 z1 z2 z3 z4 z5 hgl
 obtain ⟨bb,ob,hA,hbb,d0,d1,d2⟩:=H1.o.1.pt9 HK.o.2
 subst hA
 obtain ⟨r0,r1,r2⟩:=H1.o.2.2.three
 have hrl:=H1.o.2.2.lt
 have f0:=H1.o.2.2.frozen 0
 have f1:=H1.o.2.2.frozen 1
 have f2:=H1.o.2.2.frozen 2
 obtain ⟨q1,q2,q3⟩:=q
 simp only at d0 d1 d2
 go_wp2
 refine yX (v:=vP (q1,q2,q3)) (fun W=>Blk W g2 43 #[.int .i64 q1, .int .i64 q2, .int .i64 q3]) ?_ (fun W hW=> ?_) rfl ⟨rfl,?_⟩
 ·exact H1.o.2.2.set3 _ _ _
 ·obtain ⟨a0,a1,a2⟩:=hW.three
  simp [results,Tryz.results36,go_sem,a0,a1,a2]
  try trivial
 ·exact ((H1.o.2.1.setCell (p:=⟨g2,0,none⟩) H0.o.2.2 _).setCell (p:=⟨g2,1,none⟩) H0.o.2.2 _).setCell (p:=⟨g2,2,none⟩) H0.o.2.2 _
set_option maxRecDepth 100000 in
set_option maxHeartbeats 32000000 in
theorem gV (w:World):
  Calls Tryz.prog 35 #[] w fun e w'=>∃Ap At,e= .returned (vCtl Ap 4 4 At 4 4 none 0 0 none 0 0 1 none 0 0)∧CtlM w' w'.heap.size Ap At none none none (tetC [] [])∧Below w.heap.size w w':=by
 go_enter Tryz.func35,Tryz.ntmps35
 go_upto_region 1 with fail
 obtain ⟨g0,hg0⟩:=ex9 (w.heap.size)
 obtain ⟨X,hX⟩:=ex9 (w.alloc (.cells (cCtl none 0 0 none 0 0 none 0 0 none 0 0 0 none 0 0) 32))
 rw [←hX,←hg0]
 have hb0:Blk X g0 32 (cCtl none 0 0 none 0 0 none 0 0 none 0 0 0 none 0 0):=by rw [hX,hg0];exact Blk.new _ _ _
 have hBX:Below w.heap.size w X:=by rw [hX];exact (Below.refl _ w).alloc lr9 _
 obtain ⟨gp,hgp⟩:=ex9 (X.heap.size)
 obtain ⟨gt,hgt⟩:=ex9 (X.heap.size+1)
 obtain ⟨Y,hY⟩:=ex9 ((X.alloc (.cells ([((0:Int),(0:Int),(0:Int)),(16,0,0),(0,16,0),(0,0,16)].flatMap encP).toArray 43)).alloc (.cells (tetB.flatMap yF).toArray 35))
 have hBY:Below X.heap.size X Y:=by rw [hY];exact ((Below.refl _ X).alloc lr9 _).alloc (by simp) _
 have hbY:=hb0.below hBY hb0.lt
 have hp0:=jK zO 43 X [((0:Int),(0:Int),(0:Int)),(16,0,0),(0,16,0),(0,0,16)] lr9 (by simp)
 have hp1:Own encP 3 43 Y X.heap.size (.slice (some ⟨gp,0,none⟩) 4 4) 4 [((0:Int),(0:Int),(0:Int)),(16,0,0),(0,16,0),(0,0,16)]:=by
  rw [hY,hgp]
  exact hp0.alloc _
 have ht0:=kY (base:=X.heap.size) (g:=gt) zS 35 (w:=X.alloc (.cells ([((0:Int),(0:Int),(0:Int)),(16,0,0),(0,16,0),(0,0,16)].flatMap encP).toArray 43)) tetB (by simp [hgt]) (by omega) (by simp [tetB])
 have ht1:Own yF 3 35 Y X.heap.size (.slice (some ⟨gt,0,none⟩) 4 4) 4 tetB:=by
  rw [hY]
  exact ht0
 have hz:=hbY.six9
 have hf:=fun k=>hbY.frozen k
 have hgl:=hbY.lt
 rw [hY] at hz hf hgl
 obtain ⟨z0,z1,z2,z3,z4,z5⟩:=(show ((X.alloc (.cells #[.int .i64 0, .int .i64 0, .int .i64 0, .int .i64 16, .int .i64 0, .int .i64 0, .int .i64 0, .int .i64 16, .int .i64 0, .int .i64 0, .int .i64 0, .int .i64 16] 43)).alloc (.cells #[.int .i64 0, .int .i64 2, .int .i64 1, .int .i64 0, .int .i64 1, .int .i64 3, .int .i64 1, .int .i64 2, .int .i64 3, .int .i64 2, .int .i64 0, .int .i64 3] 35)).cell? ⟨g0,0,none⟩=some (.slice none 0 0)∧((X.alloc (.cells #[.int .i64 0, .int .i64 0, .int .i64 0, .int .i64 16, .int .i64 0, .int .i64 0, .int .i64 0, .int .i64 16, .int .i64 0, .int .i64 0, .int .i64 0, .int .i64 16] 43)).alloc (.cells #[.int .i64 0, .int .i64 2, .int .i64 1, .int .i64 0, .int .i64 1, .int .i64 3, .int .i64 1, .int .i64 2, .int .i64 3, .int .i64 2, .int .i64 0, .int .i64 3] 35)).cell? ⟨g0,1,none⟩=some (.slice none 0 0)∧((X.alloc (.cells #[.int .i64 0, .int .i64 0, .int .i64 0, .int .i64 16, .int .i64 0, .int .i64 0, .int .i64 0, .int .i64 16, .int .i64 0, .int .i64 0, .int .i64 0, .int .i64 16] 43)).alloc (.cells #[.int .i64 0, .int .i64 2, .int .i64 1, .int .i64 0, .int .i64 1, .int .i64 3, .int .i64 1, .int .i64 2, .int .i64 3, .int .i64 2, .int .i64 0, .int .i64 3] 35)).cell? ⟨g0,2,none⟩=some (.slice none 0 0)∧((X.alloc (.cells #[.int .i64 0, .int .i64 0, .int .i64 0, .int .i64 16, .int .i64 0, .int .i64 0, .int .i64 0, .int .i64 16, .int .i64 0, .int .i64 0, .int .i64 0, .int .i64 16] 43)).alloc (.cells #[.int .i64 0, .int .i64 2, .int .i64 1, .int .i64 0, .int .i64 1, .int .i64 3, .int .i64 1, .int .i64 2, .int .i64 3, .int .i64 2, .int .i64 0, .int .i64 3] 35)).cell? ⟨g0,3,none⟩=some (.slice none 0 0)∧((X.alloc (.cells #[.int .i64 0, .int .i64 0, .int .i64 0, .int .i64 16, .int .i64 0, .int .i64 0, .int .i64 0, .int .i64 16, .int .i64 0, .int .i64 0, .int .i64 0, .int .i64 16] 43)).alloc (.cells #[.int .i64 0, .int .i64 2, .int .i64 1, .int .i64 0, .int .i64 1, .int .i64 3, .int .i64 1, .int .i64 2, .int .i64 3, .int .i64 2, .int .i64 0, .int .i64 3] 35)).cell? ⟨g0,4,none⟩=some (.int .i64 0)∧((X.alloc (.cells #[.int .i64 0, .int .i64 0, .int .i64 0, .int .i64 16, .int .i64 0, .int .i64 0, .int .i64 0, .int .i64 16, .int .i64 0, .int .i64 0, .int .i64 0, .int .i64 16] 43)).alloc (.cells #[.int .i64 0, .int .i64 2, .int .i64 1, .int .i64 0, .int .i64 1, .int .i64 3, .int .i64 1, .int .i64 2, .int .i64 3, .int .i64 2, .int .i64 0, .int .i64 3] 35)).cell? ⟨g0,5,none⟩=some (.slice none 0 0) from hz)
 have f0:((X.alloc (.cells #[.int .i64 0, .int .i64 0, .int .i64 0, .int .i64 16, .int .i64 0, .int .i64 0, .int .i64 0, .int .i64 16, .int .i64 0, .int .i64 0, .int .i64 0, .int .i64 16] 43)).alloc (.cells #[.int .i64 0, .int .i64 2, .int .i64 1, .int .i64 0, .int .i64 1, .int .i64 3, .int .i64 1, .int .i64 2, .int .i64 3, .int .i64 2, .int .i64 0, .int .i64 3] 35)).frozen? ⟨g0,0,none⟩=false:=hf 0
 have f1:((X.alloc (.cells #[.int .i64 0, .int .i64 0, .int .i64 0, .int .i64 16, .int .i64 0, .int .i64 0, .int .i64 0, .int .i64 16, .int .i64 0, .int .i64 0, .int .i64 0, .int .i64 16] 43)).alloc (.cells #[.int .i64 0, .int .i64 2, .int .i64 1, .int .i64 0, .int .i64 1, .int .i64 3, .int .i64 1, .int .i64 2, .int .i64 3, .int .i64 2, .int .i64 0, .int .i64 3] 35)).frozen? ⟨g0,1,none⟩=false:=hf 1
 have f2:((X.alloc (.cells #[.int .i64 0, .int .i64 0, .int .i64 0, .int .i64 16, .int .i64 0, .int .i64 0, .int .i64 0, .int .i64 16, .int .i64 0, .int .i64 0, .int .i64 0, .int .i64 16] 43)).alloc (.cells #[.int .i64 0, .int .i64 2, .int .i64 1, .int .i64 0, .int .i64 1, .int .i64 3, .int .i64 1, .int .i64 2, .int .i64 3, .int .i64 2, .int .i64 0, .int .i64 3] 35)).frozen? ⟨g0,2,none⟩=false:=hf 2
 have f3:((X.alloc (.cells #[.int .i64 0, .int .i64 0, .int .i64 0, .int .i64 16, .int .i64 0, .int .i64 0, .int .i64 0, .int .i64 16, .int .i64 0, .int .i64 0, .int .i64 0, .int .i64 16] 43)).alloc (.cells #[.int .i64 0, .int .i64 2, .int .i64 1, .int .i64 0, .int .i64 1, .int .i64 3, .int .i64 1, .int .i64 2, .int .i64 3, .int .i64 2, .int .i64 0, .int .i64 3] 35)).frozen? ⟨g0,3,none⟩=false:=hf 3
 have f4:((X.alloc (.cells #[.int .i64 0, .int .i64 0, .int .i64 0, .int .i64 16, .int .i64 0, .int .i64 0, .int .i64 0, .int .i64 16, .int .i64 0, .int .i64 0, .int .i64 0, .int .i64 16] 43)).alloc (.cells #[.int .i64 0, .int .i64 2, .int .i64 1, .int .i64 0, .int .i64 1, .int .i64 3, .int .i64 1, .int .i64 2, .int .i64 3, .int .i64 2, .int .i64 0, .int .i64 3] 35)).frozen? ⟨g0,4,none⟩=false:=hf 4
 have f5:((X.alloc (.cells #[.int .i64 0, .int .i64 0, .int .i64 0, .int .i64 16, .int .i64 0, .int .i64 0, .int .i64 0, .int .i64 16, .int .i64 0, .int .i64 0, .int .i64 0, .int .i64 16] 43)).alloc (.cells #[.int .i64 0, .int .i64 2, .int .i64 1, .int .i64 0, .int .i64 1, .int .i64 3, .int .i64 1, .int .i64 2, .int .i64 3, .int .i64 2, .int .i64 0, .int .i64 3] 35)).frozen? ⟨g0,5,none⟩=false:=hf 5
 have hgl:g0 < ((X.alloc (.cells #[.int .i64 0, .int .i64 0, .int .i64 0, .int .i64 16, .int .i64 0, .int .i64 0, .int .i64 0, .int .i64 16, .int .i64 0, .int .i64 0, .int .i64 0, .int .i64 16] 43)).alloc (.cells #[.int .i64 0, .int .i64 2, .int .i64 1, .int .i64 0, .int .i64 1, .int .i64 3, .int .i64 1, .int .i64 2, .int .i64 3, .int .i64 2, .int .i64 0, .int .i64 3] 35)).heap.size:=hgl
 have hYE:Y=((X.alloc (.cells #[.int .i64 0, .int .i64 0, .int .i64 0, .int .i64 16, .int .i64 0, .int .i64 0, .int .i64 0, .int .i64 16, .int .i64 0, .int .i64 0, .int .i64 0, .int .i64 16] 43)).alloc (.cells #[.int .i64 0, .int .i64 2, .int .i64 1, .int .i64 0, .int .i64 1, .int .i64 3, .int .i64 1, .int .i64 2, .int .i64 3, .int .i64 2, .int .i64 0, .int .i64 3] 35)):=hY
 have HY:=hide (ai9 hbY (ai9 hp1 (ai9 ht1 (ai9 hBX (ai9 hBY (ai9 (show w.heap.size≤g0 by omega) hYE))))))
 clear hb0 hBX hBY hbY hp0 hp1 ht0 ht1 hX hg0 hY hYE hz hf
 go_wp2
 have hgt2:gt=gp+1:=by omega
 rw [←HY.o.2.2.2.2.2.2,←hgp,←hgt2]
 have hE:=(((((HY.o.1.set_ 0 (.slice (some ⟨gp,0,none⟩) 4 4)).set_ 1 (.slice (some ⟨gt,0,none⟩) 4 4)).set_ 2 (.slice none 0 0)).set_ 3 (.slice none 0 0)).set_ 4 (.int .i64 1)).set_ 5 (.slice none 0 0)
 refine yX (v:=vCtl (some ⟨gp,0,none⟩) 4 4 (some ⟨gt,0,none⟩) 4 4 none 0 0 none 0 0 1 none 0 0) (fun W=>Blk W g0 32 (cCtl (some ⟨gp,0,none⟩) 4 4 (some ⟨gt,0,none⟩) 4 4 none 0 0 none 0 0 1 none 0 0)) hE (fun W hW=> ?_) rfl ⟨_,_,rfl,?_,?_⟩
 ·obtain ⟨a0,a1,a2,a3,a4,a5⟩:=hW.six9
  simp [results,Tryz.results35,go_sem,a0,a1,a2,a3,a4,a5]
  try trivial
 ·have hP:=HY.o.2.1
  have hT:=HY.o.2.2.1
  have hg:=(((((zG Y g0 0 (.slice (some ⟨gp,0,none⟩) 4 4)).trans (zG _ g0 1 (.slice (some ⟨gt,0,none⟩) 4 4))).trans (zG _ g0 2 (.slice none 0 0))).trans (zG _ g0 3 (.slice none 0 0))).trans (zG _ g0 4 (.int .i64 1))).trans (zG _ g0 5 (.slice none 0 0))
  exact ⟨(hP.kept hg (.inr (zF HY.o.1 hP (show (43:TypeId)≠32 by decide)).symm)).sl zO lr9,(hT.kept hg (.inr (zF HY.o.1 hT (show (35:TypeId)≠32 by decide)).symm)).sl zS lr9, .inl ⟨rfl,rfl⟩, .inl ⟨rfl,rfl⟩,⟨[], .inl ⟨rfl,rfl⟩,rfl,fun i d h=>by simp [tetC] at h⟩⟩
 ·have h:=HY.o.2.2.2.1.trans (HY.o.2.2.2.2.1.mono HY.o.2.2.2.1.size)
  have hl:=HY.o.2.2.2.2.2.1
  exact (((((h.setCell (p:=⟨g0,0,none⟩) hl _).setCell (p:=⟨g0,1,none⟩) hl _).setCell (p:=⟨g0,2,none⟩) hl _).setCell (p:=⟨g0,3,none⟩) hl _).setCell (p:=⟨g0,4,none⟩) hl _).setCell (p:=⟨g0,5,none⟩) hl _
end Go.Proofs.YtmemofonebphfaaGreat
namespace Go.Proofs.YtmemofonebphfaaGreat
open Go.RowKit Go.Sort Go.WideMaps Go.Maps Go.Shelf
theorem fK {α:Type} {enc:α→List Value} {k:Nat} (hk:∀x,(enc x).length=k) {w:World} {g:Nat} {t:TypeId} {xs:List α} {cs:Array Value} (hb:Blk w g t cs) (hcs:cs=(xs.flatMap enc).toArray):Sl enc k w w.heap.size (some ⟨g,0,none⟩) xs:=by
 refine .inr ⟨g,0,rfl,hb.lt,fun i x hx j u hu=> ?_⟩
 have h:=flat_get hk xs i x hx j u hu
 rw [hb.cell,hcs,List.getElem?_toArray,show 0+i*k+j=i*k+j by omega]
 exact h
theorem uB (cr:List E2) (ds:List (List Pt)) (h1:cr.length≤10) (h2:ds.length≤10) (h3:∀d∈ds,d.length≤10):CtlB (tetC cr ds):=⟨(by decide:4≤100000),(by decide:4≤100000),Nat.le_trans h1 (by decide),(by decide:0≤100000),Nat.le_trans h2 (by decide),fun d hd=>Nat.le_trans (h3 d hd) (by decide)⟩
def HldC (W:World) (g:Nat) (cs:Array Value) (Ap At Ac Ad:Option Addr) (c:Ctl):Prop:=Blk W g 32 cs∧CtlM W W.heap.size Ap At Ac none Ad c
theorem HldC.below {W W':World} {g:Nat} {cs:Array Value} {Ap At Ac Ad:Option Addr} {c:Ctl} (h:HldC W g cs Ap At Ac Ad c) (hB:Below W.heap.size W W'):HldC W' g cs Ap At Ac Ad c:=⟨h.1.below hB h.1.lt,h.2.below hB hB.size⟩
set_option maxRecDepth 100000 in set_option maxHeartbeats 64000000 in
theorem zEI (w:World):Calls Tryz.prog 13 #[] w fun e w'=>e= .returned (.bool true)∧Below w.heap.size w w':=by
 go_enter Tryz.func13,Tryz.ntmps13
 have HB1:=hide (Below.refl w.heap.size w)
 go_upto_region 2 with (go_at_call 35;refine (gV _).mono ?_;rintro e W1 ⟨Ap1,At1,rfl,hm1,hB⟩;have HW1:=hide (ai9 hm1 hB);clear hm1 hB)
 obtain ⟨g1,hg1⟩:=ex9 (W1.heap.size)
 obtain ⟨X2,hX2⟩:=ex9 (W1.alloc (.cells (cCtl Ap1 4 4 At1 4 4 none 0 0 none 0 0 1 none 0 0) 32))
 have hb1:Blk X2 g1 32 (cCtl Ap1 4 4 At1 4 4 none 0 0 none 0 0 1 none 0 0):=by rw [hX2,hg1];exact Blk.new _ _ _
 have hBa:Below W1.heap.size W1 X2:=by rw [hX2];exact (Below.refl _ _).alloc lr9 _
 rw [←hX2,←hg1]
 have HA:=hide (ai9 (show HldC X2 g1 (cCtl Ap1 4 4 At1 4 4 none 0 0 none 0 0 1 none 0 0) Ap1 At1 none none (tetC [] []) from ⟨hb1,HW1.o.1.below hBa hBa.size⟩) (HW1.o.2.trans (hBa.mono HW1.o.2.size)))
 clear hb1 hBa hX2 hg1 HW1 HB1
 go_upto_region 3 with (go_at_call 35;refine (gV _).mono ?_;rintro e W2 ⟨Ap2,At2,rfl,hm2,hB⟩;have HW2:=hide (ai9 hm2 hB);clear hm2 hB)
 obtain ⟨g2,hg2⟩:=ex9 (W2.heap.size)
 obtain ⟨Z2,hZ2⟩:=ex9 (W2.alloc (.cells (cCtl Ap2 4 4 At2 4 4 none 0 0 none 0 0 1 none 0 0) 32))
 have hb2:Blk Z2 g2 32 (cCtl Ap2 4 4 At2 4 4 none 0 0 none 0 0 1 none 0 0):=by rw [hZ2,hg2];exact Blk.new _ _ _
 have hBa:Below W2.heap.size W2 Z2:=by rw [hZ2];exact (Below.refl _ _).alloc lr9 _
 rw [←hZ2,←hg2]
 obtain ⟨gs2,hgs2⟩:=ex9 (Z2.heap.size)
 have hbl:Below Z2.heap.size Z2 (Z2.alloc (.cells #[.int .i64 0, .int .i64 1] 56)):=((Below.refl _ _).alloc lr9 _)
 have hbb:=hb2.below hbl hb2.lt
 have hsb:Blk (Z2.alloc (.cells #[.int .i64 0, .int .i64 1] 56)) gs2 56 #[.int .i64 0, .int .i64 1]:=by rw [hgs2];exact Blk.new _ _ _
 have hne:gs2≠g2:=by have:=hb2.lt;omega
 have zz:(Z2.alloc (.cells #[.int .i64 0, .int .i64 1] 56)).cell? ⟨g2,2,none⟩=some (.slice none 0 0):=hbb.cell 2
 have ff:=hbb.frozen 2
 have gl:=hbb.lt
 have HZ2:=hide (ai9 hbb (ai9 hsb (ai9 hne (ai9 hBa (ai9 hbl (ai9 (ai9 hg2 hgs2) trivial))))))
 clear hbb hsb hne hBa hbl hb2 hZ2 hg2 hgs2
 go_upto_region 4 with fail
 clear zz ff gl
 rw [←HZ2.o.2.2.2.2.2.1.2]
 obtain ⟨X3,hX3⟩:=ex9 ((Z2.alloc (.cells #[.int .i64 0, .int .i64 1] 56)).setCell ⟨g2,2,none⟩ (.slice (some ⟨gs2,0,none⟩) 1 1))
 rw [←hX3]
 have hgz:W2.heap.size≤g2:=by rw [HZ2.o.2.2.2.2.2.1.1];exact Nat.le_refl _
 have hBW:Below W2.heap.size W2 X3:=by
  rw [hX3]
  exact (HZ2.o.2.2.2.1.trans (HZ2.o.2.2.2.2.1.mono HZ2.o.2.2.2.1.size)).setCell (p:=⟨g2,2,none⟩) hgz _
 have hbN:Blk X3 g2 32 (cCtl Ap2 4 4 At2 4 4 (some ⟨gs2,0,none⟩) 1 1 none 0 0 1 none 0 0):=by rw [hX3];exact HZ2.o.1.set_ 2 _
 have hsN:Blk X3 gs2 56 #[.int .i64 0, .int .i64 1]:=by rw [hX3];exact HZ2.o.2.1.far (p:=⟨g2,2,none⟩) HZ2.o.2.2.1 _
 have hmN:CtlM X3 X3.heap.size Ap2 At2 (some ⟨gs2,0,none⟩) none none (tetC [(0,1)] []):=
  ⟨(HW2.o.1.p.below hBW).more hBW.size,(HW2.o.1.t.below hBW).more hBW.size,fK zU hsN rfl, .inl ⟨rfl,rfl⟩,⟨[], .inl ⟨rfl,rfl⟩,rfl,fun i d h=>by simp [tetC] at h⟩⟩
 have H2:=hide (ai9 (show HldC X3 g2 (cCtl Ap2 4 4 At2 4 4 (some ⟨gs2,0,none⟩) 1 1 none 0 0 1 none 0 0) Ap2 At2 (some ⟨gs2,0,none⟩) none (tetC [(0,1)] []) from ⟨hbN,hmN⟩) (HW2.o.2.trans (hBW.mono HW2.o.2.size)))
 clear hBW hbN hsN hmN hgz hX3 HZ2 HW2
 go_upto_region 5 with (go_at_call 35;refine (gV _).mono ?_;rintro e W3 ⟨Ap3,At3,rfl,hm3,hB⟩;have HW3:=hide (ai9 hm3 hB);clear hm3 hB)
 obtain ⟨g3,hg3⟩:=ex9 (W3.heap.size)
 obtain ⟨Z3,hZ3⟩:=ex9 (W3.alloc (.cells (cCtl Ap3 4 4 At3 4 4 none 0 0 none 0 0 1 none 0 0) 32))
 have hb3:Blk Z3 g3 32 (cCtl Ap3 4 4 At3 4 4 none 0 0 none 0 0 1 none 0 0):=by rw [hZ3,hg3];exact Blk.new _ _ _
 have hBa:Below W3.heap.size W3 Z3:=by rw [hZ3];exact (Below.refl _ _).alloc lr9 _
 rw [←hZ3,←hg3]
 obtain ⟨gs3,hgs3⟩:=ex9 (Z3.heap.size)
 have hbl:Below Z3.heap.size Z3 (Z3.alloc (.cells #[.int .i64 0, .int .i64 1, .int .i64 2, .int .i64 1] 56)):=((Below.refl _ _).alloc lr9 _)
 have hbb:=hb3.below hbl hb3.lt
 have hsb:Blk (Z3.alloc (.cells #[.int .i64 0, .int .i64 1, .int .i64 2, .int .i64 1] 56)) gs3 56 #[.int .i64 0, .int .i64 1, .int .i64 2, .int .i64 1]:=by rw [hgs3];exact Blk.new _ _ _
 have hne:gs3≠g3:=by have:=hb3.lt;omega
 have zz:(Z3.alloc (.cells #[.int .i64 0, .int .i64 1, .int .i64 2, .int .i64 1] 56)).cell? ⟨g3,2,none⟩=some (.slice none 0 0):=hbb.cell 2
 have ff:=hbb.frozen 2
 have gl:=hbb.lt
 have HZ3:=hide (ai9 hbb (ai9 hsb (ai9 hne (ai9 hBa (ai9 hbl (ai9 (ai9 hg3 hgs3) trivial))))))
 clear hbb hsb hne hBa hbl hb3 hZ3 hg3 hgs3
 go_upto_region 6 with fail
 clear zz ff gl
 rw [←HZ3.o.2.2.2.2.2.1.2]
 obtain ⟨X4,hX4⟩:=ex9 ((Z3.alloc (.cells #[.int .i64 0, .int .i64 1, .int .i64 2, .int .i64 1] 56)).setCell ⟨g3,2,none⟩ (.slice (some ⟨gs3,0,none⟩) 2 2))
 rw [←hX4]
 have hgz:W3.heap.size≤g3:=by rw [HZ3.o.2.2.2.2.2.1.1];exact Nat.le_refl _
 have hBW:Below W3.heap.size W3 X4:=by
  rw [hX4]
  exact (HZ3.o.2.2.2.1.trans (HZ3.o.2.2.2.2.1.mono HZ3.o.2.2.2.1.size)).setCell (p:=⟨g3,2,none⟩) hgz _
 have hbN:Blk X4 g3 32 (cCtl Ap3 4 4 At3 4 4 (some ⟨gs3,0,none⟩) 2 2 none 0 0 1 none 0 0):=by rw [hX4];exact HZ3.o.1.set_ 2 _
 have hsN:Blk X4 gs3 56 #[.int .i64 0, .int .i64 1, .int .i64 2, .int .i64 1]:=by rw [hX4];exact HZ3.o.2.1.far (p:=⟨g3,2,none⟩) HZ3.o.2.2.1 _
 have hmN:CtlM X4 X4.heap.size Ap3 At3 (some ⟨gs3,0,none⟩) none none (tetC [(0,1),(2,1)] []):=
  ⟨(HW3.o.1.p.below hBW).more hBW.size,(HW3.o.1.t.below hBW).more hBW.size,fK zU hsN rfl, .inl ⟨rfl,rfl⟩,⟨[], .inl ⟨rfl,rfl⟩,rfl,fun i d h=>by simp [tetC] at h⟩⟩
 have H3:=hide (ai9 (show HldC X4 g3 (cCtl Ap3 4 4 At3 4 4 (some ⟨gs3,0,none⟩) 2 2 none 0 0 1 none 0 0) Ap3 At3 (some ⟨gs3,0,none⟩) none (tetC [(0,1),(2,1)] []) from ⟨hbN,hmN⟩) (HW3.o.2.trans (hBW.mono HW3.o.2.size)))
 clear hBW hbN hsN hmN hgz hX4 HZ3 HW3
 go_upto_region 7 with (go_at_call 35;refine (gV _).mono ?_;rintro e W4 ⟨Ap4,At4,rfl,hm4,hB⟩;have HW4:=hide (ai9 hm4 hB);clear hm4 hB)
 obtain ⟨g4,hg4⟩:=ex9 (W4.heap.size)
 obtain ⟨Z4,hZ4⟩:=ex9 (W4.alloc (.cells (cCtl Ap4 4 4 At4 4 4 none 0 0 none 0 0 1 none 0 0) 32))
 have hb4:Blk Z4 g4 32 (cCtl Ap4 4 4 At4 4 4 none 0 0 none 0 0 1 none 0 0):=by rw [hZ4,hg4];exact Blk.new _ _ _
 have hBa:Below W4.heap.size W4 Z4:=by rw [hZ4];exact (Below.refl _ _).alloc lr9 _
 rw [←hZ4,←hg4]
 obtain ⟨gp4,hgp4⟩:=ex9 (Z4.heap.size)
 obtain ⟨gs4,hgs4⟩:=ex9 (Z4.heap.size+1)
 have hbl:Below Z4.heap.size Z4 ((Z4.alloc (.cells #[.int .i64 1, .int .i64 2, .int .i64 3] 43)).alloc (.cells #[.slice (some ⟨Z4.heap.size,0,none⟩) 1 1] 28)):=((Below.refl _ _).alloc lr9 _).alloc (by simp) _
 have hbb:=hb4.below hbl hb4.lt
 have hpb:Blk ((Z4.alloc (.cells #[.int .i64 1, .int .i64 2, .int .i64 3] 43)).alloc (.cells #[.slice (some ⟨Z4.heap.size,0,none⟩) 1 1] 28)) gp4 43 #[.int .i64 1, .int .i64 2, .int .i64 3]:=by rw [hgp4];exact (Blk.new _ _ _).alloc _
 have hsb:Blk ((Z4.alloc (.cells #[.int .i64 1, .int .i64 2, .int .i64 3] 43)).alloc (.cells #[.slice (some ⟨Z4.heap.size,0,none⟩) 1 1] 28)) gs4 28 #[.slice (some ⟨gp4,0,none⟩) 1 1]:=by rw [hgs4,hgp4];exact Blk.new' _ _ _ _ (by simp)
 have hne:gs4≠g4:=by have:=hb4.lt;omega
 have hne2:gp4≠g4:=by have:=hb4.lt;omega
 have zz:((Z4.alloc (.cells #[.int .i64 1, .int .i64 2, .int .i64 3] 43)).alloc (.cells #[.slice (some ⟨Z4.heap.size,0,none⟩) 1 1] 28)).cell? ⟨g4,5,none⟩=some (.slice none 0 0):=hbb.cell 5
 have ff:=hbb.frozen 5
 have gl:=hbb.lt
 have HZ4:=hide (ai9 hbb (ai9 hsb (ai9 hne (ai9 hBa (ai9 hbl (ai9 (ai9 hg4 hgs4) (ai9 hpb hne2)))))))
 clear hbb hsb hne hBa hbl hb4 hZ4 hg4 hgs4 hpb hne2 hgp4
 go_upto_region 8 with fail
 clear zz ff gl
 rw [←HZ4.o.2.2.2.2.2.1.2]
 obtain ⟨X5,hX5⟩:=ex9 (((Z4.alloc (.cells #[.int .i64 1, .int .i64 2, .int .i64 3] 43)).alloc (.cells #[.slice (some ⟨Z4.heap.size,0,none⟩) 1 1] 28)).setCell ⟨g4,5,none⟩ (.slice (some ⟨gs4,0,none⟩) 1 1))
 rw [←hX5]
 have hgz:W4.heap.size≤g4:=by rw [HZ4.o.2.2.2.2.2.1.1];exact Nat.le_refl _
 have hBW:Below W4.heap.size W4 X5:=by
  rw [hX5]
  exact (HZ4.o.2.2.2.1.trans (HZ4.o.2.2.2.2.1.mono HZ4.o.2.2.2.1.size)).setCell (p:=⟨g4,5,none⟩) hgz _
 have hbN:Blk X5 g4 32 (cCtl Ap4 4 4 At4 4 4 none 0 0 none 0 0 1 (some ⟨gs4,0,none⟩) 1 1):=by rw [hX5];exact HZ4.o.1.set_ 5 _
 have hsN:Blk X5 gs4 28 #[.slice (some ⟨gp4,0,none⟩) 1 1]:=by rw [hX5];exact HZ4.o.2.1.far (p:=⟨g4,5,none⟩) HZ4.o.2.2.1 _
 have hpN:Blk X5 gp4 43 #[.int .i64 1, .int .i64 2, .int .i64 3]:=by rw [hX5];exact HZ4.o.2.2.2.2.2.2.1.far (p:=⟨g4,5,none⟩) HZ4.o.2.2.2.2.2.2.2 _
 have hmN:CtlM X5 X5.heap.size Ap4 At4 none none (some ⟨gs4,0,none⟩) (tetC [] [[(1,2,3)]]):=
  ⟨(HW4.o.1.p.below hBW).more hBW.size,(HW4.o.1.t.below hBW).more hBW.size, .inl ⟨rfl,rfl⟩, .inl ⟨rfl,rfl⟩,⟨[(some ⟨gp4,0,none⟩,1,1)],fK (enc:=encS) (k:=1) (fun _=>rfl) hsN rfl,rfl,fun i d h=>by
   match i,h with
   | 0,h=>
    obtain rfl: [((1:Int),(2:Int),(3:Int))]=d:=by simpa [tetC] using h
    exact ⟨_,_,rfl,fK zO hpN rfl⟩
   | i+1,h=>simp [tetC] at h⟩⟩
 have H4:=hide (ai9 (show HldC X5 g4 (cCtl Ap4 4 4 At4 4 4 none 0 0 none 0 0 1 (some ⟨gs4,0,none⟩) 1 1) Ap4 At4 none (some ⟨gs4,0,none⟩) (tetC [] [[(1,2,3)]]) from ⟨hbN,hmN⟩) (HW4.o.2.trans (hBW.mono HW4.o.2.size)))
 clear hBW hbN hsN hmN hgz hX5 HZ4 HW4 hpN
 have hB45:=H4.o.2
 have hB34:=H3.o.2
 have hB23:=H2.o.2
 have hB35:=hB34.trans (hB45.mono hB34.size)
 have hB25:=hB23.trans (hB35.mono hB23.size)
 have hBw:=HA.o.2.trans (hB25.mono HA.o.2.size)
 have kA:=HA.o.1.below hB25
 have kB:=H2.o.1.below hB35
 have kC:=H3.o.1.below hB45
 have HF:=hide (ai9 kA (ai9 kB (ai9 kC (ai9 H4.o.1 hBw))))
 clear hB45 hB34 hB23 hB35 hB25 hBw kA kB kC HA H2 H3 H4
 obtain ⟨a0,a1,a2,a3,a4,a5⟩:=HF.o.1.1.six9
 have hga:=HF.o.1.1.lt
 have ks:=zA8 Ap1 At1 none none none 4 4 0 0 0 (tetC [] []) X5 HF.o.1.2 (uB _ _ (by decide) (by decide) (fun d hd=>by cases hd)) (by unfold fits;decide) (fun _=>fG _ _)
 rw [zO5] at ks
 have HS:=hide ks
 clear ks
 go_upto_region 9 with (go_at_call 27;refine HS.o.mono ?_;rintro e Y ⟨A9,n9,c9,rfl,_,hBY⟩;have HY:=hide hBY;clear hBY)
 clear a0 a1 a2 a3 a4 a5 hga
 have kA:=HF.o.1.below HY.o
 have kB:=HF.o.2.1.below HY.o
 have kC:=HF.o.2.2.1.below HY.o
 have kD:=HF.o.2.2.2.1.below HY.o
 have nA:=fun (W:World) (hW:Below Y.heap.size Y W)=>cO Ap1 At1 none none none 4 4 0 0 0 (tetC [] []) (128,0,0) W (kA.2.below hW hW.size) (uB _ _ (by decide) (by decide) (fun d hd=>by cases hd)) (by unfold fits;decide) (fG _ _) zJS zOI.1 zOI.2
 have nB:=fun (W:World) (hW:Below Y.heap.size Y W)=>cO Ap2 At2 (some ⟨gs2,0,none⟩) none none 4 4 1 0 0 (tetC [(0,1)] []) (128,0,0) W (kB.2.below hW hW.size) (uB _ _ (by decide) (by decide) (fun d hd=>by cases hd)) (by unfold fits;decide) (fG _ _) zOD zN7.1 zN7.2
 have nC:=fun (W:World) (hW:Below Y.heap.size Y W)=>cO Ap3 At3 (some ⟨gs3,0,none⟩) none none 4 4 2 0 0 (tetC [(0,1),(2,1)] []) (144,-16,0) W (kC.2.below hW hW.size) (uB _ _ (by decide) (by decide) (fun d hd=>by cases hd)) (by unfold fits;decide) (fG _ _) zN6 new_c.1 new_c.2
 have nD:=fun (W:World) (hW:Below Y.heap.size Y W)=>cO Ap4 At4 none none (some ⟨gs4,0,none⟩) 4 4 0 0 1 (tetC [] [[(1,2,3)]]) (129,2,3) W (kD.2.below hW hW.size) (uB _ _ (by decide) (by decide) (by decide)) (by unfold fits;decide) (fG _ _) zOY zOV.1 zOV.2
 have HG:=hide (ai9 kA.1 (ai9 kB.1 (ai9 kC.1 (ai9 kD.1 (HF.o.2.2.2.2.trans (HY.o.mono HF.o.2.2.2.2.size))))))
 have HNN:=hide (ai9 nA (ai9 nB (ai9 nC nD)))
 clear kA kB kC kD nA nB nC nD HS HY HF
 obtain ⟨a0,a1,a2,a3,a4,a5⟩:=HG.o.1.six9
 have hga:=HG.o.1.lt
 go_wp2_with fail
 refine (HNN.o.1 Y (Below.refl _ Y)).mono ?_
 rintro e V1 ⟨rfl,hB1⟩
 have HV1:=hide hB1
 clear hB1 a0 a1 a2 a3 a4 a5 hga
 obtain ⟨b0,b1,b2,b3,b4,b5⟩:=(HG.o.2.1.below HV1.o HG.o.2.1.lt).six9
 have hgb:=(HG.o.2.1.below HV1.o HG.o.2.1.lt).lt
 go_wp2_with fail
 refine (HNN.o.2.1 V1 HV1.o).mono ?_
 rintro e V2 ⟨rfl,hB1⟩
 have HV2:=hide (HV1.o.trans (hB1.mono HV1.o.size))
 clear hB1 b0 b1 b2 b3 b4 b5 hgb
 obtain ⟨b0,b1,b2,b3,b4,b5⟩:=(HG.o.2.2.1.below HV2.o HG.o.2.2.1.lt).six9
 have hgb:=(HG.o.2.2.1.below HV2.o HG.o.2.2.1.lt).lt
 go_wp2_with fail
 refine (HNN.o.2.2.1 V2 HV2.o).mono ?_
 rintro e V3 ⟨rfl,hB1⟩
 have HV3:=hide (HV2.o.trans (hB1.mono HV2.o.size))
 clear hB1 b0 b1 b2 b3 b4 b5 hgb
 obtain ⟨b0,b1,b2,b3,b4,b5⟩:=(HG.o.2.2.2.1.below HV3.o HG.o.2.2.2.1.lt).six9
 have hgb:=(HG.o.2.2.2.1.below HV3.o HG.o.2.2.2.1.lt).lt
 go_wp2_with fail
 refine (HNN.o.2.2.2 V3 HV3.o).mono ?_
 rintro e V4 ⟨rfl,hB1⟩
 have HV4:=hide (HV3.o.trans (hB1.mono HV3.o.size))
 clear hB1 b0 b1 b2 b3 b4 b5 hgb
 go_wp2
 go_ret
 exact ⟨rfl,HG.o.2.2.2.2.trans (HV4.o.mono HG.o.2.2.2.2.size)⟩
end Go.Proofs.YtmemofonebphfaaGreat
