import Derived.Deep.WholeRow
import Derived.Test.YtmemofonebphfaaGreatV24
namespace Go.Proofs.YtmemofonebphfaaGreat
open Go.RowKit Go.Sort Go.WideMaps Go.Maps
set_option maxRecDepth 100000
set_option maxHeartbeats 4000000 in
theorem opp_any (e:Ed) (w:World):Calls Tryz.prog 111 #[vE e] w fun r w'=>r= .returned (vE (swapE e))∧Below w.heap.size w w':=by
 go_enter Tryz.func111,Tryz.ntmps111
 go_wp2
 refine ret_at (v:=vE (swapE e)) (fun W=>Blk W (w.heap.size+1) 147 (cE (swapE e))) (Blk.new' _ _ _ _ (by simp)) (fun W h=> ?_) rfl ⟨rfl,((Below.refl _ w).alloc (Nat.le_refl _) _).alloc (by simp) _⟩
 obtain ⟨a0,a1,a2,a3,a4,a5⟩:=h.six4
 simp [results,Tryz.results111,go_sem,a0,a1,a2,a3,a4,a5]
abbrev cE3 (t:Tri):Array Value:=#[.int .i64 t.1.1, .int .i64 t.1.2.1, .int .i64 t.1.2.2, .int .i64 t.2.1.1, .int .i64 t.2.1.2.1, .int .i64 t.2.1.2.2, .int .i64 t.2.1.1, .int .i64 t.2.1.2.1, .int .i64 t.2.1.2.2, .int .i64 t.2.2.1, .int .i64 t.2.2.2.1, .int .i64 t.2.2.2.2, .int .i64 t.2.2.1, .int .i64 t.2.2.2.1, .int .i64 t.2.2.2.2, .int .i64 t.1.1, .int .i64 t.1.2.1, .int .i64 t.1.2.2]
abbrev vE3 (t:Tri):Value:= .agg (cE3 t)
theorem idxE30 (t:Tri) (w:World):(Instr.index 148 (vE3 t) (.int .i64 0)).run Tryz.prog w= .ok (vE (t.1,t.2.1)) w:=by kernel_rfl
theorem idxE31 (t:Tri) (w:World):(Instr.index 148 (vE3 t) (.int .i64 1)).run Tryz.prog w= .ok (vE (t.2.1,t.2.2)) w:=by kernel_rfl
theorem idxE32 (t:Tri) (w:World):(Instr.index 148 (vE3 t) (.int .i64 2)).run Tryz.prog w= .ok (vE (t.2.2,t.1)) w:=by kernel_rfl
def edK (t:Tri) (j:Nat):Ed:=if j=0 then (t.1,t.2.1) else if j=1 then (t.2.1,t.2.2) else (t.2.2,t.1)
theorem idxE3 (t:Tri) (j:Nat) (hj:j < 3) (w:World):(Instr.index 148 (vE3 t) (.int .i64 j)).run Tryz.prog w= .ok (vE (edK t j)) w:=by
 have:j=0∨j=1∨j=2:=by omega
 rcases this with rfl | rfl | rfl
 ·exact idxE30 t w
 ·exact idxE31 t w
 ·exact idxE32 t w
set_option maxHeartbeats 4000000 in
theorem edges4_let (a b c d e f g h i:Value) (ha:a.oneCell'=true) (hb:b.oneCell'=true) (hc:c.oneCell'=true) (hd:d.oneCell'=true) (he:e.oneCell'=true) (hf:f.oneCell'=true) (hg:g.oneCell'=true) (hh:h.oneCell'=true) (hi:i.oneCell'=true) (w:World):Calls Tryz.prog 109 #[.agg #[a,b,c,d,e,f,g,h,i]] w fun r w'=>r= .returned (.agg #[a,b,c,d,e,f,d,e,f,g,h,i,g,h,i,a,b,c])∧Below w.heap.size w w':=by
 have hone:(#[a,b,c,d,e,f,d,e,f,g,h,i,g,h,i,a,b,c]:Array Value).all (·.oneCell')=true:=by simp [ha,hb,hc,hd,he,hf,hg,hh,hi]
 have HONE:=hide hone
 clear ha hb hc hd he hf hg hh hi hone
 go_enter Tryz.func109,Tryz.ntmps109
 go_upto_region 1 with fail
 obtain ⟨W1,hW1⟩:∃X,X=w.alloc (.cells #[a,b,c,d,e,f,g,h,i] 46):=⟨_,rfl⟩
 rw [←hW1]
 have hz1:w.heap.size+1=W1.heap.size:=by rw [hW1];simp
 rw [hz1]
 obtain ⟨X,hX⟩:∃X,X=W1.alloc (.cells #[.int .i64 0, .int .i64 0, .int .i64 0, .int .i64 0, .int .i64 0, .int .i64 0, .int .i64 0, .int .i64 0, .int .i64 0, .int .i64 0, .int .i64 0, .int .i64 0, .int .i64 0, .int .i64 0, .int .i64 0, .int .i64 0, .int .i64 0, .int .i64 0] 148):=⟨_,rfl⟩
 have hst:=run_storeAt_new (P:=Tryz.prog) W1 148 #[.int .i64 0, .int .i64 0, .int .i64 0, .int .i64 0, .int .i64 0, .int .i64 0, .int .i64 0, .int .i64 0, .int .i64 0, .int .i64 0, .int .i64 0, .int .i64 0, .int .i64 0, .int .i64 0, .int .i64 0, .int .i64 0, .int .i64 0, .int .i64 0] #[a,b,c,d,e,f,d,e,f,g,h,i,g,h,i,a,b,c] (by kernel_rfl) rfl HONE.out
 rw [←hX] at hst⊢
 obtain ⟨g0,hg0⟩:∃n,n=w.heap.size:=⟨_,rfl⟩
 have hb0:Blk X g0 46 #[a,b,c,d,e,f,g,h,i]:=by rw [hX,hg0,hW1];exact (Blk.new _ _ _).alloc _
 obtain ⟨Z,hZ⟩:∃Z,Z=W1.alloc (.cells #[a,b,c,d,e,f,d,e,f,g,h,i,g,h,i,a,b,c] 148):=⟨_,rfl⟩
 rw [←hZ] at hst
 obtain ⟨g1,hg1⟩:∃n,n=W1.heap.size:=⟨_,rfl⟩
 have hb1:Blk Z g1 148 #[a,b,c,d,e,f,d,e,f,g,h,i,g,h,i,a,b,c]:=by rw [hZ,hg1];exact Blk.new _ _ _
 have hBZ:Below w.heap.size w Z:=by rw [hZ,hW1];exact ((Below.refl _ w).alloc (Nat.le_refl _) _).alloc (by simp) _
 rw [←hg1] at hst⊢
 have HX:=hide (And.intro hb1 hBZ)
 have c0:=hb0.cell 0
 have c1:=hb0.cell 1
 have c2:=hb0.cell 2
 have c3:=hb0.cell 3
 have c4:=hb0.cell 4
 have c5:=hb0.cell 5
 have c6:=hb0.cell 6
 have c7:=hb0.cell 7
 have c8:=hb0.cell 8
 simp only [List.getElem?_toArray,List.getElem?_cons_zero,List.getElem?_cons_succ] at c0 c1 c2 c3 c4 c5 c6 c7 c8
 rw [←hg0]
 clear hX hg0 hb0 hb1 hBZ hZ hW1 hz1 hg1
 simp [go_sem] at hst
 go_wp2
 clear hst
 refine ret_at (v:= .agg #[a,b,c,d,e,f,d,e,f,g,h,i,g,h,i,a,b,c]) (fun W=>Blk W g1 148 #[a,b,c,d,e,f,d,e,f,g,h,i,g,h,i,a,b,c]) HX.out.1 (fun W hb=> ?_) rfl ⟨rfl,HX.out.2⟩
 clear HX c0 c1 c2 c3 c4 c5 c6 c7 c8
 have c0:=hb.cell 0
 have c1:=hb.cell 1
 have c2:=hb.cell 2
 have c3:=hb.cell 3
 have c4:=hb.cell 4
 have c5:=hb.cell 5
 have c6:=hb.cell 6
 have c7:=hb.cell 7
 have c8:=hb.cell 8
 have c9:=hb.cell 9
 have c10:=hb.cell 10
 have c11:=hb.cell 11
 have c12:=hb.cell 12
 have c13:=hb.cell 13
 have c14:=hb.cell 14
 have c15:=hb.cell 15
 have c16:=hb.cell 16
 have c17:=hb.cell 17
 clear hb
 simp [results,Tryz.results109,go_sem,c0,c1,c2,c3,c4,c5,c6,c7,c8,c9,c10,c11,c12,c13,c14,c15,c16,c17]
theorem edges4_any (t:Tri) (w:World):Calls Tryz.prog 109 #[vT t] w fun r w'=>r= .returned (vE3 t)∧Below w.heap.size w w':=edges4_let _ _ _ _ _ _ _ _ _ rfl rfl rfl rfl rfl rfl rfl rfl rfl w
end Go.Proofs.YtmemofonebphfaaGreat
namespace Go.Proofs.YtmemofonebphfaaGreat
open Go.RowKit Go.Sort Go.WideMaps Go.Maps
set_option maxRecDepth 100000
theorem nodup_sub_len {α:Type} [DecidableEq α]:∀{ks L:List α},ks.Nodup→(∀p∈ks,p∈L)→ks.length≤L.length
 | [],_,_,_=>Nat.zero_le _
 | k::ks,L,hn,h=>by
  rw [List.nodup_cons] at hn
  have hk:k∈L:=h k (by simp)
  have ih:=nodup_sub_len (L:=L.erase k) hn.2 (fun p hp=>(List.mem_erase_of_ne (fun e=>hn.1 (by rw [←e];exact hp))).2 (h p (by simp [hp])))
  rw [List.length_erase_of_mem hk] at ih
  have:=List.length_pos_of_mem hk
  simp only [List.length_cons]
  omega
end Go.Proofs.YtmemofonebphfaaGreat
namespace Go.Proofs.YtmemofonebphfaaGreat
open Go.RowKit Go.Sort Go.WideMaps Go.Maps
set_option maxRecDepth 100000
theorem cors3_succ (t:Tri) {j:Nat} (hj:j < 3):(cors3 t).take (j+1)=(cors3 t).take j++ [corner t j]:=by
 have hc:j=0∨j=1∨j=2:=by omega
 rcases hc with rfl | rfl | rfl <;>rfl
theorem edges3_succ (t:Tri) {j:Nat} (hj:j < 3):(edges3 t).take (j+1)=(edges3 t).take j++ [edK t j]:=by
 have hc:j=0∨j=1∨j=2:=by omega
 rcases hc with rfl | rfl | rfl <;>rfl
theorem edK_fits {t:Tri} (h:fitsT t) (j:Nat):fitsE (edK t j):=by
 unfold edK
 split
 ·exact ⟨h.1,h.2.1⟩
 ·split
  ·exact ⟨h.2.1,h.2.2⟩
  ·exact ⟨h.2.2,h.1⟩
end Go.Proofs.YtmemofonebphfaaGreat
namespace Go.Proofs.YtmemofonebphfaaGreat
open Go.RowKit Go.Sort Go.WideMaps Go.Maps
set_option maxRecDepth 100000
def ndB (es:List Ed):Bool:=decide es.Nodup
theorem ndB_iff {es:List Ed}:ndB es=true ↔ es.Nodup:=decide_eq_true_iff
theorem ndB_snoc (es:List Ed) (e:Ed):ndB (es++ [e])=(ndB es && !memB (dedup es) e):=by
 rw [Bool.eq_iff_iff,Bool.and_eq_true,ndB_iff,ndB_iff,nodup_snoc,Bool.not_eq_true']
 constructor
 ·rintro ⟨h1,h2⟩
  exact ⟨h1,memB_off fun h=>h2 (dedup_mem.1 h)⟩
 ·rintro ⟨h1,h2⟩
  exact ⟨h1,fun h=>by rw [memB_on (dedup_mem.2 h)] at h2;cases h2⟩
set_option maxHeartbeats 8000000 in
theorem directed4_any (A:Option Addr) (c:Nat) (ts:List Tri) (w:World) (hs:Sl encT 9 w w.heap.size A ts) (hl:ts.length≤100000000) (hf:∀t∈ts,fitsT t):
  Calls Tryz.prog 79 #[.slice A ts.length c] w fun e w'=>∃mb n,e= .returned (.tuple #[.map (some mb), .bool (ndB (edgesP ts))])∧SetEM w' mb n (dedup (edgesP ts))∧n≤300000000∧w.heap.size≤mb∧Below w.heap.size w w':=by
 have hmm:=@run_makeMap Tryz.prog
 obtain ⟨M,hM⟩:∃n,n=ts.length:=⟨_,rfl⟩
 rw [←hM] at hl⊢
 have HS:=hide (And.intro hs (And.intro hf hM))
 clear hs hf hM
 go_enter Tryz.func79,Tryz.ntmps79
 go_upto_region 2 with fail
 obtain ⟨X,hX⟩:∃X,X=w.alloc (.map #[] 0):=⟨_,rfl⟩
 rw [←hX]
 have hBX:Below w.heap.size w X:=by rw [hX];exact (Below.refl _ w).alloc (Nat.le_refl _) _
 have hMX:SetEM X w.heap.size 0 []:=by rw [hX];exact (MapK.made Tryz.prog 147 vE fitsE w).same fun p=>by simp [setK4]
 obtain ⟨mb,hmb⟩:∃b,b=w.heap.size:=⟨_,rfl⟩
 rw [←hmb] at hMX⊢
 have HX:=hide (And.intro hBX (And.intro hMX hmb))
 clear hX hBX hMX hmm hmb
 go_wp2_with fail
 go_loopw [5,13] (fun fv iv wr=>∃(k n:Nat),k≤M∧iv= .int .i64 k∧fv= .bool (ndB (edgesP (ts.take k)))∧SetEM wr mb n (dedup (edgesP (ts.take k)))∧n≤3*k∧Below w.heap.size w wr) (fun _ iv _=>M - (intOf iv).toNat)
 case atStart=>exact ⟨0,0,by omega,rfl,rfl,HX.out.2.1,by omega,HX.out.1⟩
 case round=>
  obtain ⟨k,n,hk,rfl,rfl,hMr,hn,hB⟩:=hrel
  obtain ⟨V,rfl⟩:∃V,V=wr:=⟨_,rfl⟩
  obtain ⟨f0,hf0⟩:∃b,b=ndB (edgesP (ts.take k)):=⟨_,rfl⟩
  rw [←hf0]
  by_cases hlt:k < M
  ·obtain ⟨t,ht⟩:∃t,ts[k]? =some t:=⟨_,List.getElem?_eq_getElem (by rw [←HS.out.2.2];exact hlt)⟩
   have i1:(k:Int) < (M:Int):=by omega
   obtain ⟨b,o,hA,hbb,g0,g1,g2,g3,g4,g5,g6,g7,g8⟩:=(HS.out.1.below hB).tri ht
   subst hA
   have hft:=HS.out.2.1 t (List.mem_of_getElem? ht)
   have hsn:=edgesP_snoc ts k t ht
   obtain ⟨L0,hL0⟩:∃L,L=edgesP (ts.take k):=⟨_,rfl⟩
   rw [←hL0] at hMr hsn hf0
   have hzV:=hB.size
   have HK:=hide (And.intro hMr (And.intro hn (And.intro hB (And.intro hft (And.intro hsn hf0)))))
   clear hMr hn hB hft hsn ht hL0 hf0
   go_upto_region 6 with fail
   obtain ⟨Y,hY⟩:∃Y,Y=V.alloc (.cells #[.int .i64 t.1.1, .int .i64 t.1.2.1, .int .i64 t.1.2.2, .int .i64 t.2.1.1, .int .i64 t.2.1.2.1, .int .i64 t.2.1.2.2, .int .i64 t.2.2.1, .int .i64 t.2.2.2.1, .int .i64 t.2.2.2.2] 46):=⟨_,rfl⟩
   rw [←hY]
   have hBY:Below w.heap.size w Y:=by rw [hY];exact HK.out.2.2.1.alloc hzV _
   have hMY:SetEM Y mb n (dedup (L0++(edges3 t).take 0)):=by
    rw [hY,List.take_zero,List.append_nil]
    exact HK.out.1.below ((Below.refl V.heap.size V).alloc (Nat.le_refl _) _) HK.out.1.lt
   obtain ⟨a0,a1,a2,a3,a4,a5,a6,a7,a8⟩:=cells9z (w:=Y) (b:=V.heap.size) (ty:=46) (t:=t) (by rw [hY];exact Blk.new _ _ _)
   have HY:=hide (And.intro hMY hBY)
   have hzY:=hBY.size
   clear hY hBY hMY g0 g1 g2 g3 g4 g5 g6 g7 g8
   go_wp2_with (go_at_call 109;refine (edges4_any t _).mono ?_;rintro e w4 ⟨rfl,hB4⟩)
   have hM4:SetEM w4 mb n (dedup (L0++(edges3 t).take 0)):=HY.out.1.below hB4 HY.out.1.lt
   have hB4':=HY.out.2.trans (hB4.mono hzY)
   have H4:=hide (And.intro hM4 hB4')
   clear hM4 hB4' hB4 a0 a1 a2 a3 a4 a5 a6 a7 a8
   go_loopw [5,19] (fun fv jv wr=>∃(j n':Nat),j≤3∧jv= .int .i64 j∧fv= .bool (ndB (L0++(edges3 t).take j))∧SetEM wr mb n' (dedup (L0++(edges3 t).take j))∧n'≤n+j∧Below w.heap.size w wr) (fun _ jv _=>3 - (intOf jv).toNat)
   case atStart=>exact ⟨0,n,by omega,rfl,by rw [HK.out.2.2.2.2.2,List.take_zero,List.append_nil],H4.out.1,by omega,H4.out.2⟩
   case round=>
    obtain ⟨j,n',hj,rfl,rfl,hMr,hn',hB⟩:=hrel
    obtain ⟨R,rfl⟩:∃V,V=wr:=⟨_,rfl⟩
    obtain ⟨f1,hf1⟩:∃b,b=ndB (L0++(edges3 t).take j):=⟨_,rfl⟩
    rw [←hf1]
    by_cases hj3:j < 3
    ·have i2:(j:Int) < 3:=by omega
     have hidx:=fun W=>idxE3 t j hj3 W
     have hcs:=edges3_succ t hj3
     have hfc:=edK_fits HK.out.2.2.2.1 j
     obtain ⟨p,hp⟩:∃p,p=edK t j:=⟨_,rfl⟩
     rw [←hp] at hcs hfc
     simp only [←hp] at hidx
     have HJ:=hide (And.intro hMr (And.intro hn' (And.intro hB (And.intro hcs (And.intro hfc hf1)))))
     have hzR:=hB.size
     clear hMr hn' hB hcs hfc hp hf1
     have hnb:n' < maxLen:=by have:=HJ.out.2.1;have:=HK.out.2.1;unfold maxLen;omega
     go_upto_region 9 with fail
     obtain ⟨Z,hZ⟩:∃Z,Z=R.alloc (.cells (cE p) 147):=⟨_,rfl⟩
     rw [←hZ]
     have hBZ:Below w.heap.size w Z:=by rw [hZ];exact HJ.out.2.2.1.alloc hzR _
     have hMZ:SetEM Z mb n' (dedup (L0++(edges3 t).take j)):=by rw [hZ];exact HJ.out.1.below ((Below.refl R.heap.size R).alloc (Nat.le_refl _) _) HJ.out.1.lt
     obtain ⟨x0,x1,x2,x3,x4,x5⟩:=(show Blk Z R.heap.size 147 (cE p) by rw [hZ];exact Blk.new _ _ _).six4
     have hcal:=addE_any mb n' _ p Z hMZ HJ.out.2.2.2.2.1 hnb
     have hsn:=ndB_snoc (L0++(edges3 t).take j) p
     rw [List.append_assoc,←HJ.out.2.2.2.1,←HJ.out.2.2.2.2.2] at hsn
     have hds:=dedup_snoc (L0++(edges3 t).take j) p
     rw [List.append_assoc,←HJ.out.2.2.2.1] at hds
     obtain ⟨D,hD⟩:∃D,D=dedup (L0++(edges3 t).take j):=⟨_,rfl⟩
     rw [←hD] at hcal hsn hds
     obtain ⟨mm,hmm⟩:∃b,b=memB D p:=⟨_,rfl⟩
     rw [←hmm] at hcal hsn
     have HZ:=hide (And.intro hcal (And.intro hBZ (And.intro hsn hds)))
     clear hZ hBZ hMZ hcal hidx hsn hds hD hmm
     cases mm with
     | false=>
      go_wp2_with (go_at_call 110;refine (unhide HZ).1.mono ?_;rintro e w5 ⟨rfl,hM5,hg5⟩)
      go_roundw
      case rel=>
       refine ⟨j+1,n'+1,by omega,by go_num,?_,?_,by have:=HJ.out.2.1;omega,HZ.out.2.1.grown hg5 HZ.out.2.1.size (fun r hr=>by injection hr with hr;have:=HX.out.2.2;omega)⟩
       ·rw [HZ.out.2.2.1];simp
       ·rw [HZ.out.2.2.2];exact hM5
      case measure=>simp [intOf];omega
     | true=>
      go_wp2_with (go_at_call 110;refine (unhide HZ).1.mono ?_;rintro e w5 ⟨rfl,hM5,hg5⟩)
      go_roundw
      case rel=>
       refine ⟨j+1,n'+1,by omega,by go_num,?_,?_,by have:=HJ.out.2.1;omega,HZ.out.2.1.grown hg5 HZ.out.2.1.size (fun r hr=>by injection hr with hr;have:=HX.out.2.2;omega)⟩
       ·rw [HZ.out.2.2.1];simp
       ·rw [HZ.out.2.2.2];exact hM5
      case measure=>simp [intOf];omega
    ·have hje:j=3:=by omega
     subst hje
     have i2:¬((3:Nat):Int) < 3:=by omega
     have h3:L0++(edges3 t).take 3=edgesP (ts.take (k+1)):=HK.out.2.2.2.2.1.symm
     rw [h3] at hMr hf1
     have HE:=hide (And.intro hMr (And.intro hn' (And.intro hB hf1)))
     clear hMr hn' hB h3 hf1
     go_wp2
     go_roundw
     case rel=>exact ⟨k+1,n',by omega,by go_num,by rw [HE.out.2.2.2],HE.out.1,by have:=HE.out.2.1;have:=HK.out.2.1;omega,HE.out.2.2.1⟩
     case measure=>simp [intOf];omega
  ·have hke:k=M:=by omega
   subst hke
   rw [List.take_of_length_le (by have:=HS.out.2.2;omega)] at hMr hf0
   have HE:=hide (And.intro hMr (And.intro hB (And.intro hf0 hn)))
   clear hMr hn hB hf0
   go_wp2
   go_ret2
   exact ⟨mb,n,by rw [HE.out.2.2.1];rfl,HE.out.1,by have:=HE.out.2.2.2;omega,by rw [HX.out.2.2];exact Nat.le_refl _,HE.out.2.1⟩
set_option maxHeartbeats 8000000 in
theorem border4_any (mb n:Nat) (L:List Ed) (w:World) (hM:SetEM w mb n L) (hn:L.Nodup) (hf:∀p∈L,fitsE p) (hl:L.length≤300000000):
  Calls Tryz.prog 80 #[.map (some mb)] w fun e w'=>∃ob m K,e= .returned (.map (some ob))∧SetEM w' ob m K∧K.Nodup∧(∀p,p∈K ↔ p∈L∧swapE p ∉ L)∧w.heap.size≤ob∧Below w.heap.size w w':=by
 have hmm:=@run_makeMap Tryz.prog
 have HS:=hide (And.intro hM (And.intro hn (And.intro hf hl)))
 clear hM hn hf hl
 go_enter Tryz.func80,Tryz.ntmps80
 go_upto_region 2 with fail
 obtain ⟨X,hX⟩:∃X,X=w.alloc (.map #[] 0):=⟨_,rfl⟩
 rw [←hX]
 have hBX:Below w.heap.size w X:=by rw [hX];exact (Below.refl _ w).alloc (Nat.le_refl _) _
 have hzX:X.heap.size=w.heap.size+1:=by rw [hX];simp
 have hOX:SetEM X w.heap.size 0 []:=by rw [hX];exact (MapK.made Tryz.prog 147 vE fitsE w).same fun p=>by simp [setK4]
 have hMX:SetEM X mb n L:=HS.out.1.below hBX HS.out.1.lt
 have hmb:=HS.out.1.lt
 obtain ⟨w1,c0,hrun,hrg,hg1,hz1,_⟩:=MapK.range_le kfE4 (t:=122) (e:=4) (show MapK Tryz.prog 147 vE fitsE X mb n (setK4 L) from hMX) Tryz.underlying122
 have hB1:=below_of_grown_none hg1 (Nat.le_refl _)
 have hO1:SetEM w1 w.heap.size 0 []:=hOX.below hB1 (by omega)
 have hrg0:∀p,(setK4 L p).isSome=true ↔ p∈L:=fun p=>by
  unfold setK4
  by_cases h:p∈L
  ·rw [if_pos h];exact ⟨fun _=>h,fun _=>rfl⟩
  ·rw [if_neg h];exact ⟨fun h'=>(by cases h'),fun h'=>absurd h' h⟩
 obtain ⟨rb,hrb⟩:∃b,b=X.heap.size:=⟨_,rfl⟩
 obtain ⟨ob,hob⟩:∃b,b=w.heap.size:=⟨_,rfl⟩
 rw [←hrb] at hrun hrg
 rw [←hob] at hO1⊢
 have HX:=hide (And.intro hrg (And.intro hO1 (And.intro (hBX.trans (hB1.mono hBX.size)) (And.intro hrg0 (And.intro hob (And.intro (show rb=w.heap.size+1 by omega) hmb))))))
 clear hX hBX hOX hMX hmm hrg hg1 hB1 hO1 hrg0 hob hzX hz1 hmb hrb
 go_wp2_with fail
 go_loopw [] (fun wr=>∃(left:Ed→Bool) (c m:Nat) (ks:List Ed),RngK Tryz.prog 147 vE fitsE wr mb rb n (setK4 L) left c∧SetEM wr ob m (dedup (ks.filter fun p=> !memB L (swapE p)))∧m≤ks.length∧ks.Nodup∧(∀p∈ks,p∈L)∧(∀p∈L,p∈ks∨left p=true)∧(∀p,left p=true→p∈L∧p ∉ ks)∧Below w.heap.size w wr) (fun wr=>wr.rangeLeft mb rb)
 case atStart=>exact ⟨_,c0,0, [],HX.out.1,HX.out.2.1,by simp,List.nodup_nil,(fun p h=>by cases h),fun p h=> .inr ((HX.out.2.2.2.1 p).2 h),fun p h=>⟨(HX.out.2.2.2.1 p).1 h,by simp⟩,HX.out.2.2.1⟩
 case round=>
  obtain ⟨left,c,m,ks,hrg,hO,hm,hnd,hsub,hcov,hlf,hB⟩:=hrel
  obtain ⟨V,rfl⟩:∃V,V=wr:=⟨_,rfl⟩
  have hHL:=hrg.left_eq
  rcases hrg.next kfE4 0 with ⟨_,hdone,hrunN⟩ | ⟨p,pv,w8,c',hok,hleft,hm8,hrunN,hr8,hlt8,hg8,hz8,hent⟩
  ·have hall:∀p∈L,p∈ks:=fun p hp=>by
    rcases hcov p hp with h | h
    ·exact h
    ·rw [hdone p (HS.out.2.2.1 p hp)] at h;cases h
   have hmem:∀p,p∈dedup (ks.filter fun p=> !memB L (swapE p)) ↔ p∈L∧swapE p ∉ L:=fun p=>by
    rw [dedup_mem,List.mem_filter,Bool.not_eq_true']
    constructor
    ·rintro ⟨h1,h2⟩
     exact ⟨hsub p h1,fun h=>by rw [memB_on h] at h2;cases h2⟩
    ·rintro ⟨h1,h2⟩
     exact ⟨hall p h1,memB_off h2⟩
   have HE:=hide (And.intro hO (And.intro hmem hB))
   clear hrg hO hm hnd hsub hcov hlf hB hdone hall hmem hrun hHL
   go_wp2
   go_ret
   exact ⟨ob,m,_,rfl,HE.out.1,dedup_nodup _,HE.out.2.1,by rw [HX.out.2.2.2.2.1];exact Nat.le_refl _,HE.out.2.2⟩
  ·have hpL:=hlf p hleft
   have hks:ks.length+1≤L.length:=by
    have h1:(ks++ [p]).length≤L.length:=by
     have h2:(ks++ [p]).Nodup:=nodup_snoc.2 ⟨hnd,hpL.2⟩
     exact nodup_sub_len h2 fun q hq=>by
      rcases List.mem_append.1 hq with h | h
      ·exact hsub q h
      ·rw [List.mem_singleton.1 h];exact hpL.1
    simpa using h1
   have hrbw:=HX.out.2.2.2.2.2.1
   have hobw:=HX.out.2.2.2.2.1
   have hmbw:=HX.out.2.2.2.2.2.2
   have hlf':∀q,(left q && !decide (q=p))=true→q∈L∧q ∉ ks++ [p]:=fun q hq=>by
    simp only [Bool.and_eq_true,Bool.not_eq_true',decide_eq_false_iff_not] at hq
    have h1:=hlf q hq.1
    exact ⟨h1.1,fun h=>by
     rcases List.mem_append.1 h with h | h
     ·exact h1.2 h
     ·exact hq.2 (List.mem_singleton.1 h)⟩
   have hcov':∀q∈L,q∈ks++ [p]∨(left q && !decide (q=p))=true:=fun q hq=>by
    by_cases hqp:q=p
    ·exact .inl (by simp [hqp])
    ·rcases hcov q hq with h | h
     ·exact .inl (List.mem_append.2 (.inl h))
     ·exact .inr (by simp [h,hqp])
   have hsub':∀q∈ks++ [p],q∈L:=fun q hq=>by
    rcases List.mem_append.1 hq with h | h
    ·exact hsub q h
    ·rw [List.mem_singleton.1 h];exact hpL.1
   have hnd':(ks++ [p]).Nodup:=nodup_snoc.2 ⟨hnd,hpL.2⟩
   have hO8:SetEM w8 ob m (dedup (ks.filter fun p=> !memB L (swapE p))):=hO.kept hg8 (fun e=>by injection e with e;omega)
   have hB8:Below w.heap.size w w8:=hB.grown hg8 hB.size (fun r hr=>by injection hr with hr;omega)
   have hfl:(ks++ [p]).filter (fun p=> !memB L (swapE p))=ks.filter (fun p=> !memB L (swapE p))++if memB L (swapE p)=true then [] else [p]:=by
    rw [List.filter_append]
    congr 1
    by_cases h:memB L (swapE p)=true
    ·rw [if_pos h,List.filter_cons_of_neg (by simp [h])];rfl
    ·rw [if_neg h,List.filter_cons_of_pos (by simpa using h)];rfl
   have HO:=hide (And.intro hr8 (And.intro hO8 (And.intro hlf' (And.intro hcov' (And.intro hsub' (And.intro hnd' (And.intro hB8 (And.intro hfl (And.intro hm (And.intro hks (And.intro hlt8 hHL)))))))))))
   clear hrg hO hm hnd hsub hcov hlf hB hpL hm8 hg8 hks hO8 hB8 hleft hz8 hlt8 hlf' hcov' hsub' hnd' hr8 hfl hHL hrun hrbw hobw hmbw
   go_upto_region 5 with fail
   clear hrunN hent
   obtain ⟨Y,hY⟩:∃Y,Y=w8.alloc (.cells (cE p) 147):=⟨_,rfl⟩
   rw [←hY]
   have hBY:Below w8.heap.size w8 Y:=by rw [hY];exact (Below.refl _ w8).alloc (Nat.le_refl _) _
   have heY:Blk Y w8.heap.size 147 (cE p):=by rw [hY];exact Blk.new _ _ _
   obtain ⟨pb,hpb⟩:∃b,b=w8.heap.size:=⟨_,rfl⟩
   rw [←hpb] at heY⊢
   obtain ⟨x0,x1,x2,x3,x4,x5⟩:=heY.six4
   have hrY:=HO.out.1.below hBY (Nat.le_refl _)
   have hOY:SetEM Y ob m _:=HO.out.2.1.below hBY HO.out.2.1.lt
   have hzY:=hBY.size
   have hz8:=HO.out.2.2.2.2.2.2.1.size
   have hBwY:Below w.heap.size w Y:=HO.out.2.2.2.2.2.2.1.trans (hBY.mono hz8)
   have HY:=hide (And.intro hrY (And.intro hOY (And.intro hBwY (And.intro heY hpb))))
   clear hY hBY heY hrY hOY hBwY hpb
   have hfs:fitsE (swapE p):=⟨hok.2,hok.1⟩
   have hlk:∀W,Below Y.heap.size Y W→(Instr.lookup 122 (.map (some mb)) (vE (swapE p)) false).run Tryz.prog W= .ok (.bool (memB L (swapE p))) W:=fun W hW=>by
    have h1:MapK Tryz.prog 147 vE fitsE W mb n (setK4 L):=(HY.out.1.below hW (Nat.le_refl _)).map
    have:=h1.lookup kfE4 (t:=122) (e:=4) Tryz.underlying122 (z:= .bool false) rfl (swapE p) hfs
    rw [setK4_get] at this
    exact this
   have HLK:=hide hlk
   have hobn:m < maxLen:=by have:=HO.out.2.2.2.2.2.2.2.2.1;have:=HO.out.2.2.2.2.2.2.2.2.2.1;have:=HS.out.2.2.2;unfold maxLen;omega
   clear hlk hfs
   obtain ⟨mm,hmm⟩:∃b,b=memB L (swapE p):=⟨_,rfl⟩
   rw [←hmm] at HLK HO
   clear hmm
   have hne:∀a,(Value.map (some ob)).ownBlock=a→True:=fun _ _=>trivial
   clear hne
   cases mm with
   | true=>
    go_wp2_with (go_at_call 111;refine (opp_any p _).mono ?_;rintro e w9 ⟨rfl,hB9⟩;have hl9:=HLK.out w9 hB9)
    have hr9:=HY.out.1.below hB9 (Nat.le_refl _)
    have hO9:SetEM w9 ob m _:=HY.out.2.1.below hB9 HY.out.2.1.lt
    have hB9':=HY.out.2.2.1.trans (hB9.mono (by omega))
    have H9:=hide (And.intro hr9 (And.intro hO9 hB9'))
    clear hr9 hO9 hB9' hB9 hl9
    go_roundw
    case rel=>
     obtain ⟨_,_,hlf',hcov',hsub',hnd',_,hfl,hm,hks,hlt8,hHL⟩:=HO.out
     refine ⟨_,c',m,ks++ [p],H9.out.1,?_,by simp;omega,hnd',hsub',hcov',hlf',H9.out.2.2⟩
     rw [hfl]
     simp only [if_true,List.append_nil]
     exact H9.out.2.1
    case measure=>
     rw [H9.out.1.left_eq,HO.out.2.2.2.2.2.2.2.2.2.2.2]
     exact HO.out.2.2.2.2.2.2.2.2.2.2.1
   | false=>
    go_wp2_with (first
     | (go_at_call 111;refine (opp_any p _).mono ?_;rintro e w9 ⟨rfl,hB9⟩;have hl9:=HLK.out w9 hB9;obtain ⟨x0,x1,x2,x3,x4,x5⟩:=(HY.out.2.2.2.1.below hB9 HY.out.2.2.2.1.lt).six4;have hO9:SetEM w9 ob m _:=HY.out.2.1.below hB9 HY.out.2.1.lt;have hcal:=addE_any ob m _ p w9 hO9 hok hobn;have HC:=hide (And.intro hcal hB9);clear hcal hB9 hO9)
     | (go_at_call 110;refine (unhide HC).1.mono ?_;rintro e w10 ⟨rfl,hM10,hg10⟩))
    have hr10:=(HY.out.1.below HC.out.2 (Nat.le_refl _)).kept hg10 (fun e=>by injection e with e;have:=HX.out.2.2.2.2.1;have:=HX.out.2.2.2.2.2.2;omega) (fun e=>by injection e with e;have:=HX.out.2.2.2.2.1;have:=HX.out.2.2.2.2.2.1;omega)
    have hB9:=HC.out.2
    have hB10:=(HY.out.2.2.1.trans (hB9.mono (by omega))).grown hg10 (by have:=hB9.size;omega) (fun r hr=>by injection hr with hr;have:=HX.out.2.2.2.2.1;omega)
    have H9:=hide (And.intro hr10 (And.intro hM10 hB10))
    clear hr10 hM10 hB10 hB9 hg10
    go_roundw
    case rel=>
     obtain ⟨_,_,hlf',hcov',hsub',hnd',_,hfl,hm,hks,hlt8,hHL⟩:=HO.out
     refine ⟨_,c',m+1,ks++ [p],H9.out.1,?_,by simp;omega,hnd',hsub',hcov',hlf',H9.out.2.2⟩
     rw [hfl,if_neg (by simp),dedup_snoc]
     exact H9.out.2.1
    case measure=>
     rw [H9.out.1.left_eq,HO.out.2.2.2.2.2.2.2.2.2.2.2]
     exact HO.out.2.2.2.2.2.2.2.2.2.2.1
end Go.Proofs.YtmemofonebphfaaGreat
namespace Go.Proofs.YtmemofonebphfaaGreat
open Go.RowKit Go.Sort Go.WideMaps Go.Maps
set_option maxRecDepth 100000
theorem borderP_le (ts:List Tri):(borderP ts).length≤3*ts.length:=by
 have h1:=nodup_sub_len ((border_both ts).1.nodup sto_E) (fun e he=>dedup_mem.2 (((border_both ts).2 e).1 he).1)
 have h2:=dedup_length (edgesP ts)
 have h3:=edgesP_length ts
 omega
end Go.Proofs.YtmemofonebphfaaGreat
