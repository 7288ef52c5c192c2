import Derived.Test.YtmemofonebphfaaGreatP23
import Derived.Test.YtmemofonebphfaaGreatP33
import Derived.Test.YtmemofonebphfaaGreatP34
namespace Go.Proofs.YtmemofonebphfaaGreat
open Go.RowKit Go.Sort
set_option maxRecDepth 100000 in
theorem litsE2 (e:E2) (h:fits2 e):Tryz.prog.keyLits 2 56 (encE2 e)=some [.int .i64 e.1, .int .i64 e.2]:=by
 have c:Tryz.prog.cellsOf 3=1:=by kernel_rfl
 have c2:Tryz.prog.cellsOf 56=2:=by kernel_rfl
 have w0:=fits_wf h.1
 have w1:=fits_wf h.2
 simp [encE2,Program.keyLits,Tryz.underlying56,Tryz.underlying3,c,c2,List.range_succ,w0,w1]
set_option maxRecDepth 100000 in
theorem eqE2 (a b:E2) (ha:fits2 a) (hb:fits2 b) (w:World):(Op.equalIn 10000 56 (vE2 a) (vE2 b)).run Tryz.prog w= .ok (decide (a=b)) w:=by
 have c:Tryz.prog.cellsOf 56=2:=by kernel_rfl
 obtain ⟨r,hr,he⟩:=run_equalIn_deep (P:=Tryz.prog) 9998 2 56 (by kernel_rfl) w 2 2 (vE2 a) (vE2 b) _ _ (by simp [Value.formed,Tryz.underlying56,c]) (by simp [Value.formed,Tryz.underlying56,c]) (litsE2 a ha) (litsE2 b hb)
 rw [hr]
 have:r=decide (a=b):=by
  rw [Bool.eq_iff_iff,he]
  obtain ⟨a1,a2⟩:=a
  obtain ⟨b1,b2⟩:=b
  simp
 rw [this]
end Go.Proofs.YtmemofonebphfaaGreat
namespace Go.Proofs.YtmemofonebphfaaGreat
open Go.RowKit Go.Sort
theorem srt_lt {l:List E2} (hs:l.Pairwise (fun a b=>leO ltE2 a b=true)) {m k:Nat} {x y e:E2} (hx:l[m]? =some x) (hy:l[k]? =some y) (hk:k≤m) (h:ltE2 x e=true):ltE2 y e=true:=by
 rcases Nat.lt_or_ge k m with h1 | h1
 ·obtain ⟨hm,rfl⟩:=List.getElem?_eq_some_iff.1 hx
  obtain ⟨hk',rfl⟩:=List.getElem?_eq_some_iff.1 hy
  have:=List.pairwise_iff_getElem.1 hs k m hk' hm h1
  simp only [leO,Bool.not_eq_true'] at this
  simp [ltE2] at this h⊢
  omega
 ·have:k=m:=by omega
  subst this
  rw [hx] at hy
  cases hy
  exact h
theorem pos_found {l:List E2} (hs:l.Pairwise (fun a b=>leO ltE2 a b=true)) {a b:Int} {lo:Nat} (h1:∀k y,k < lo→l[k]? =some y→ltE2 y (nrmE a b)=true) (h2:∀k y,lo≤k→l[k]? =some y→ltE2 y (nrmE a b)=false) (h3:l[lo]? ≠some (nrmE a b)):posE l a b= -1:=by
 refine posE_none fun hm=> ?_
 obtain ⟨k,hk⟩:=List.mem_iff_getElem?.1 hm
 rcases Nat.lt_trichotomy k lo with h | h | h
 ·have:=h1 k _ h hk
  rw [tot_E2.irr] at this
  cases this
 ·subst h;exact h3 hk
 ·have hlo:lo < l.length:=by have:=(List.getElem?_eq_some_iff.1 hk).1;omega
  have h4:=h2 lo _ (Nat.le_refl _) (List.getElem?_eq_getElem hlo)
  obtain ⟨hk',e⟩:=List.getElem?_eq_some_iff.1 hk
  have h5:=List.pairwise_iff_getElem.1 hs lo k hlo hk' h
  simp only [leO,Bool.not_eq_true',e] at h5
  exact h3 (by rw [List.getElem?_eq_getElem hlo,tot_E2.tot _ _ h4 h5])
set_option maxRecDepth 100000 in
set_option maxHeartbeats 32000000 in
theorem find_any (A:Option Addr) (c:Nat) (l:List E2) (a b:Int) (w:World) (hs:Sl encE2 2 w w.heap.size A l) (hl:l.length≤100000000) (hf:∀e∈l,fits2 e) (hfe:fits2 (nrmE a b)) (hsr:l.Pairwise (fun a b=>leO ltE2 a b=true)) (hn:l.Nodup):
  Calls Tryz.prog 93 #[.slice A l.length c, .int .i64 a, .int .i64 b] w fun e w'=>e= .returned (.int .i64 (posE l a b))∧Below w.heap.size w w':=by
 obtain ⟨N,hN⟩:∃N,N=l.length:=⟨_,rfl⟩
 obtain ⟨R,hR⟩:∃R,R=posE l a b:=⟨_,rfl⟩
 rw [←hN] at hl⊢
 rw [←hR]
 obtain ⟨p,hp⟩:∃p,p=min a b:=⟨_,rfl⟩
 obtain ⟨q,hq⟩:∃q,q=max a b:=⟨_,rfl⟩
 have hpq:nrmE a b=(p,q):=by rw [hp,hq];rfl
 rw [hpq] at hfe
 have HS:=hide (And.intro hs (And.intro hf (And.intro hfe (And.intro hsr (And.intro hn (And.intro hN (And.intro hR hpq)))))))
 have e1:min a b=p:=hp.symm
 have e2:max a b=q:=hq.symm
 clear hs hf hfe hsr hn hN hR hp hq hpq
 go_enter Tryz.func93,Tryz.ntmps93
 go_upto_region 2 with fail
 obtain ⟨eb,heb⟩:∃g,g=w.heap.size:=⟨_,rfl⟩
 obtain ⟨X,hX⟩:∃W,W=w.alloc (.cells #[.int .i64 p, .int .i64 q] 56):=⟨_,rfl⟩
 rw [←hX,←heb]
 have hbe:Blk X eb 56 #[.int .i64 p, .int .i64 q]:=by rw [hX,heb];exact Blk.new _ _ _
 have hBX:Below w.heap.size w X:=by rw [hX];exact (Below.refl _ w).alloc (Nat.le_refl _) _
 have HX:=hide (And.intro hbe (And.intro hBX ((HS.out.1.below hBX).more hBX.size)))
 clear hbe hBX hX heb e1 e2
 go_upto_region 4 with fail
 go_loopw [8,9] (fun lv hv wr=>∃lo hi:Nat,(lo≤hi∧hi≤N)∧lv= .int .i64 lo∧hv= .int .i64 hi∧(∀k y,k < lo→l[k]? =some y→ltE2 y (p,q)=true)∧(∀k y,hi≤k→l[k]? =some y→ltE2 y (p,q)=false)∧Below X.heap.size X wr) (fun lv hv _=>(intOf hv).toNat - (intOf lv).toNat)
 case atStart=>exact ⟨0,N,⟨by omega,by omega⟩,rfl,rfl,fun k y h=>absurd h (by omega),fun k y h hy=>absurd (List.getElem?_eq_some_iff.1 hy).1 (by have:=HS.out.2.2.2.2.2.1;omega),Below.refl _ X⟩
 case round=>
  obtain ⟨lo,hi,⟨hlh,hhN⟩,rfl,rfl,hlow,hhigh,hB⟩:=hrel
  obtain ⟨V,rfl⟩:∃x,x=wr:=⟨_,rfl⟩
  have hbe:=HX.out.1.below hB HX.out.1.lt
  have z0:V.cell? ⟨eb,0,none⟩=some (.int .i64 p):=hbe.cell 0
  have z1:V.cell? ⟨eb,1,none⟩=some (.int .i64 q):=hbe.cell 1
  have hel:=hbe.lt
  by_cases hlt:lo < hi
  ·have i1:(lo:Int) < (hi:Int):=by omega
   obtain ⟨m,hm⟩:∃m,m=(lo+hi) / 2:=⟨_,rfl⟩
   have hmd:((lo:Int)+(hi:Int)) / 2=(m:Int):=by omega
   have hmt:((lo:Int)+(hi:Int)).tdiv 2=(m:Int):=by rw [Int.tdiv_eq_ediv_of_nonneg (by omega)];exact hmd
   have hm1:lo≤m∧m < hi:=by omega
   have hmN:(m:Int) < (N:Int):=by omega
   obtain ⟨⟨x1,x2⟩,hx⟩:∃x,l[m]? =some x:=⟨_,List.getElem?_eq_getElem (by rw [←HS.out.2.2.2.2.2.1];omega)⟩
   obtain ⟨ba,oa,hA,hba,y0,y1⟩:=HX.out.2.2.e2 hx
   subst hA
   have y0:=(hB.cell (p:=⟨ba,oa+m*2,none⟩) hba).trans y0
   have y1:=(hB.cell (p:=⟨ba,oa+m*2+1,none⟩) hba).trans y1
   have hbV:ba < V.heap.size:=Nat.lt_of_lt_of_le hba hB.size
   have kb:=fun W=>before_any (x1,x2) (p,q) W
   have HR:=hide (And.intro hlow (And.intro hhigh (And.intro hB hx)))
   clear hlow hhigh hB hx hm hbe hba
   by_cases hc:ltE2 (x1,x2) (p,q)=true
   ·rw [hc] at kb
    have HK:=hide (And.intro kb hc)
    clear kb hc
    go_upto_region 6 with fail
    go_still_tail 5,(by kernel_rfl)
    repeat still_step
    change wpList _ _ _ _ _ V.drew
    go_wp2_with (go_at_call 82;refine (HK.out.1 V.drew).mono ?_;rintro e W3 ⟨rfl,hB3⟩;have H3:=hide (HR.out.2.2.1.drew.trans (hB3.mono HR.out.2.2.1.size));clear hB3)
    go_roundw
    case rel=>exact ⟨m+1,hi,⟨by omega,hhN⟩,by go_num,rfl,fun k y hk hy=>srt_lt HS.out.2.2.2.1 HR.out.2.2.2 hy (by omega) HK.out.2,HR.out.2.1,H3.out⟩
    case measure=>(simp [intOf];try omega)
   ·have hc':ltE2 (x1,x2) (p,q)=false:=by simpa using hc
    rw [hc'] at kb
    have HK:=hide (And.intro kb hc')
    clear kb hc hc'
    go_upto_region 6 with fail
    go_still_tail 5,(by kernel_rfl)
    repeat still_step
    change wpList _ _ _ _ _ V.drew
    go_wp2_with (go_at_call 82;refine (HK.out.1 V.drew).mono ?_;rintro e W3 ⟨rfl,hB3⟩;have H3:=hide (HR.out.2.2.1.drew.trans (hB3.mono HR.out.2.2.1.size));clear hB3)
    go_roundw
    case rel=>exact ⟨lo,m,⟨by omega,by omega⟩,rfl,rfl,HR.out.1,(fun k y hk hy=>by
     cases hv:ltE2 y (p,q) with
     | false=>rfl
     | true=>
      have:=srt_lt HS.out.2.2.2.1 hy HR.out.2.2.2 hk hv
      rw [HK.out.2] at this
      cases this),H3.out⟩
    case measure=>(simp [intOf];try omega)
  ·obtain rfl:lo=hi:=by omega
   have i1:¬(lo:Int) < (lo:Int):=by omega
   by_cases hN:lo < N
   ·have i2:(lo:Int) < (N:Int):=by omega
    obtain ⟨⟨x1,x2⟩,hx⟩:∃x,l[lo]? =some x:=⟨_,List.getElem?_eq_getElem (by rw [←HS.out.2.2.2.2.2.1];omega)⟩
    obtain ⟨ba,oa,hA,hba,y0,y1⟩:=HX.out.2.2.e2 hx
    subst hA
    have y0:=(hB.cell (p:=⟨ba,oa+lo*2,none⟩) hba).trans y0
    have y1:=(hB.cell (p:=⟨ba,oa+lo*2+1,none⟩) hba).trans y1
    have hbV:ba < V.heap.size:=Nat.lt_of_lt_of_le hba hB.size
    have ke:=eqE2 (x1,x2) (p,q) (HS.out.2.1 _ (List.mem_of_getElem? hx)) HS.out.2.2.1
    by_cases he:(x1,x2)=(p,q)
    ·have hr:R=lo:=by
      rw [HS.out.2.2.2.2.2.2.1]
      exact posE_at HS.out.2.2.2.2.1 (by rw [HS.out.2.2.2.2.2.2.2,←he];exact hx)
     rw [decide_eq_true he] at ke
     have HR:=hide (And.intro hr (HX.out.2.1.trans (hB.mono HX.out.2.1.size)))
     clear he hr hlow hhigh hB hx hbe hba
     go_upto_region 9 with fail
     go_quiet (fail)
     go_wp2
     go_ret
     exact ⟨by rw [HR.out.1];rfl,below_drewN HR.out.2 _⟩
    ·have hr:R= -1:=by
      rw [HS.out.2.2.2.2.2.2.1]
      exact pos_found HS.out.2.2.2.1 (by rw [HS.out.2.2.2.2.2.2.2];exact hlow) (by rw [HS.out.2.2.2.2.2.2.2];exact hhigh) (by rw [HS.out.2.2.2.2.2.2.2,hx];exact fun h=>he (Option.some.inj h))
     rw [decide_eq_false he] at ke
     have HR:=hide (And.intro hr (HX.out.2.1.trans (hB.mono HX.out.2.1.size)))
     clear he hr hlow hhigh hB hx hbe hba
     go_upto_region 9 with fail
     go_quiet (fail)
     go_wp2
     go_ret
     exact ⟨by rw [HR.out.1];rfl,below_drewN HR.out.2 _⟩
   ·have i2:¬(lo:Int) < (N:Int):=by omega
    have hr:R= -1:=by
     rw [HS.out.2.2.2.2.2.2.1]
     exact pos_found HS.out.2.2.2.1 (by rw [HS.out.2.2.2.2.2.2.2];exact hlow) (by rw [HS.out.2.2.2.2.2.2.2];exact hhigh) (by
      rw [List.getElem?_eq_none (by rw [←HS.out.2.2.2.2.2.1];omega)]
      exact fun h=>nomatch h)
    have HR:=hide (And.intro hr (HX.out.2.1.trans (hB.mono HX.out.2.1.size)))
    clear hr hlow hhigh hB hbe
    go_upto_region 9 with fail
    go_quiet (fail)
    go_wp2
    go_ret
    exact ⟨by rw [HR.out.1];rfl,below_drewN HR.out.2 _⟩
end Go.Proofs.YtmemofonebphfaaGreat
namespace Go.Proofs.YtmemofonebphfaaGreat
open Go.RowKit Go.Sort
def memB9 (L:List E2) (e:E2):Bool:=decide (e∈L)
theorem memB9_iff {L:List E2} {e:E2}:memB9 L e=true ↔ e∈L:=decide_eq_true_iff
theorem memB9_snoc (L:List E2) (x e:E2):memB9 (L++ [x]) e=(memB9 L e || decide (x=e)):=by
 rw [Bool.eq_iff_iff,memB9_iff,Bool.or_eq_true,memB9_iff,decide_eq_true_eq,List.mem_append,List.mem_singleton]
 exact or_congr_right eq_comm
theorem setE_len (l:List E2):(setE l).length=(dedup (l.map nrm1)).length:=sortO_length _
set_option maxRecDepth 100000 in
set_option maxHeartbeats 32000000 in
theorem set_any (A:Option Addr) (c:Nat) (l:List E2) (w:World) (hs:Sl encE2 2 w w.heap.size A l) (hl:l.length≤1000000) (hf:∀e∈l,fits2 e):
  Calls Tryz.prog 94 #[.slice A l.length c] w fun e w'=>∃A' c',e= .returned (.slice A' (setE l).length c')∧Sl encE2 2 w' w'.heap.size A' (setE l)∧Below w.heap.size w w':=by
 obtain ⟨N,hN⟩:∃N,N=l.length:=⟨_,rfl⟩
 rw [←hN] at hl⊢
 have HS:=hide (And.intro hs (And.intro hN hf))
 clear hs hN hf
 go_enter Tryz.func94,Tryz.ntmps94
 go_upto_region 3 with fail
 go_loopw [3,4] (fun ov iv wr=>∃(i m:Nat),i≤N∧iv= .int .i64 i∧Own encE2 2 56 wr w.heap.size ov m (dedup ((l.take i).map nrm1))∧m≤i∧Below w.heap.size w wr) (fun _ iv _=>N - (intOf iv).toNat)
 case atStart=>exact ⟨0,0,by omega,rfl,by rw [List.take_zero];exact Own.nil,by omega,Below.refl _ w⟩
 case round=>
  obtain ⟨i,m,hi,rfl,hO,hm,hB⟩:=hrel
  obtain ⟨V,rfl⟩:∃x,x=wr:=⟨_,rfl⟩
  obtain ⟨Ao,co,rfl⟩:=hO.form
  by_cases hlt:i < N
  ·have i1:(i:Int) < (N:Int):=by omega
   obtain ⟨x,hx⟩:∃x,l[i]? =some x:=⟨_,List.getElem?_eq_getElem (by rw [←HS.out.2.1];exact hlt)⟩
   have hfx:=nrm1_fits (HS.out.2.2 x (List.mem_of_getElem? hx))
   obtain ⟨bb,o,hA,hbb,c0,c1⟩:=HS.out.1.e2 hx
   subst hA
   have hdd:dedup ((l.take (i+1)).map nrm1)=addL (dedup ((l.take i).map nrm1)) (nrm1 x):=by
    rw [List.take_add_one,hx,List.map_append]
    exact dedup_snoc _ _
   have hfD:∀e∈dedup ((l.take i).map nrm1),fits2 e:=fun e he=>by
    obtain ⟨y,hy,rfl⟩:=List.mem_map.1 (dedup_mem.1 he)
    exact nrm1_fits (HS.out.2.2 y (List.mem_of_mem_take hy))
   obtain ⟨x1,x2⟩:=x
   simp only at c0 c1
   obtain ⟨D,hD⟩:∃D,D=dedup ((l.take i).map nrm1):=⟨_,rfl⟩
   rw [←hD] at hO hdd hfD
   obtain ⟨p,hp⟩:∃p,p=min x1 x2:=⟨_,rfl⟩
   obtain ⟨q,hq⟩:∃q,q=max x1 x2:=⟨_,rfl⟩
   have hn:nrm1 (x1,x2)=(p,q):=by rw [hp,hq];rfl
   rw [hn] at hdd hfx
   have e1:min x1 x2=p:=hp.symm
   have e2:max x1 x2=q:=hq.symm
   have c0:=(hB.cell (p:=⟨bb,o+i*2,none⟩) hbb).trans c0
   have c1:=(hB.cell (p:=⟨bb,o+i*2+1,none⟩) hbb).trans c1
   have hbV:bb < V.heap.size:=Nat.lt_of_lt_of_le hbb hB.size
   have hzV:=hB.size
   have HV:=hide (And.intro hO (And.intro hB (And.intro hdd (And.intro hfD hfx))))
   clear hx hdd hfD hfx hO hB hD hp hq hn hbb
   go_upto_region 5 with fail
   go_region
   as_aux_lemma=>
    obtain ⟨eb,heb⟩:∃g,g=V.heap.size:=⟨_,rfl⟩
    obtain ⟨X,hX⟩:∃W,W=(V.alloc (.cells #[.int .i64 p, .int .i64 q] 56)).drew:=⟨_,rfl⟩
    rw [←hX,←heb]
    have hbe:Blk X eb 56 #[.int .i64 p, .int .i64 q]:=by rw [hX,heb];exact Blk.new _ _ _
    have hBV:Below V.heap.size V X:=by rw [hX];exact ((Below.refl _ V).alloc (Nat.le_refl _) _).drew
    have hBX:Below w.heap.size w X:=HV.out.2.1.trans (hBV.mono HV.out.2.1.size)
    have HX:=hide (And.intro hbe (And.intro hBX (HV.out.1.below hBV (Nat.le_refl _))))
    clear hbe hBX hBV hX heb c0 c1 hbV hzV e1 e2
    go_upto_region 8 with fail
    go_loopw [6,7] (fun tv kv wr=>∃k:Nat,k≤m∧tv= .bool (memB9 (D.take k) (p,q))∧kv= .int .i64 k∧Below X.heap.size X wr) (fun _ kv _=>m - (intOf kv).toNat)
    case atStart=>exact ⟨0,by omega,by rw [List.take_zero];rfl,rfl,Below.refl _ X⟩
    case round=>
     obtain ⟨k,hk,rfl,rfl,hBk⟩:=hrel
     obtain ⟨U,rfl⟩:∃x,x=wr:=⟨_,rfl⟩
     have hbU:=HX.out.1.below hBk HX.out.1.lt
     have z0:U.cell? ⟨eb,0,none⟩=some (.int .i64 p):=hbU.cell 0
     have z1:U.cell? ⟨eb,1,none⟩=some (.int .i64 q):=hbU.cell 1
     have hel:=hbU.lt
     have hOU:=HX.out.2.2.below hBk (Nat.le_refl _)
     by_cases hkm:k < m
     ·have i2:(k:Int) < (m:Int):=by omega
      obtain ⟨⟨y1,y2⟩,hy⟩:∃y,D[k]? =some y:=⟨_,List.getElem?_eq_getElem (by rw [←hOU.1];exact hkm)⟩
      obtain ⟨ba,oa,hA,hba,y0,y3⟩:=(hOU.sl encE2_len (Nat.le_refl _)).e2 hy
      subst hA
      have htk:memB9 (D.take (k+1)) (p,q)=(memB9 (D.take k) (p,q) || decide ((y1,y2)=(p,q))):=by
       rw [List.take_add_one,hy]
       exact memB9_snoc _ _ _
      cases ht:memB9 (D.take k) (p,q) with
      | true=>
       rw [ht,Bool.true_or] at htk
       have HR:=hide (And.intro htk hBk)
       clear htk ht hy hbU hOU hBk
       go_upto_region 10 with fail
       go_quiet (fail)
       go_wp2
       go_roundw
       case rel=>exact ⟨k+1,by omega,by rw [HR.out.1],by go_num,below_drewN HR.out.2 _⟩
       case measure=>(simp [intOf];try omega)
      | false=>
       rw [ht,Bool.false_or] at htk
       have ke:=eqE2 (y1,y2) (p,q) (HV.out.2.2.2.1 _ (List.mem_of_getElem? hy)) HV.out.2.2.2.2
       cases hd:decide ((y1,y2)=(p,q)) with
       | true=>
        rw [hd] at htk ke
        have HR:=hide (And.intro htk hBk)
        clear htk ht hd hy hbU hOU hBk
        go_upto_region 10 with fail
        go_quiet (fail)
        go_wp2
        go_roundw
        case rel=>exact ⟨k+1,by omega,by rw [HR.out.1],by go_num,below_drewN HR.out.2 _⟩
        case measure=>(simp [intOf];try omega)
       | false=>
        rw [hd] at htk ke
        have HR:=hide (And.intro htk hBk)
        clear htk ht hd hy hbU hOU hBk
        go_upto_region 10 with fail
        go_quiet (fail)
        go_wp2
        go_roundw
        case rel=>exact ⟨k+1,by omega,by rw [HR.out.1],by go_num,below_drewN HR.out.2 _⟩
        case measure=>(simp [intOf];try omega)
     ·obtain rfl:k=m:=by omega
      have i2:¬(k:Int) < (k:Int):=by omega
      have htk:D.take k=D:=by rw [hOU.1];exact List.take_length
      rw [htk]
      have hBU:=HX.out.2.1.trans (hBk.mono HX.out.2.1.size)
      have hzU:=hBU.size
      cases ht:memB9 D (p,q) with
      | true=>
       have hdd:=HV.out.2.2.1
       rw [show addL D (p,q)=D from if_pos (memB9_iff.1 ht)] at hdd
       have HR:=hide (And.intro hdd (And.intro hOU hBU))
       clear htk ht hdd hbU hOU hBk hBU
       go_wp2
       go_roundw
       case rel=>exact ⟨i+1,k,by omega,by go_num,by rw [HR.out.1];exact HR.out.2.1,by omega,HR.out.2.2⟩
       case measure=>(simp [intOf];try omega)
      | false=>
       have hdd:=HV.out.2.2.1
       rw [show addL D (p,q)=D++ [(p,q)] from if_neg (fun h=>by rw [memB9_iff.2 h] at ht;cases ht)] at hdd
       have HR:=hide (And.intro hdd (And.intro hOU hBU))
       clear htk ht hdd hbU hOU hBk hBU
       go_wp2_with (at_builtin;refine wpList_append1 rfl _ _ _ rfl Tryz.underlying29 infoE2 rfl (by omega) encE2_len encE2_one rfl (HR.out.2.1.alloc _) U.heap.size 1 ((p,q):E2) rfl (Blk.new _ _ _) (by unfold maxLen;omega) (by omega) (by simp;omega) ?_;intro g5 cap5 w5 hown5 hg5 hB5 hat5 hgb5 hlt5;have H5:=hide (And.intro hown5 ((HR.out.2.2.alloc hzU _).trans hB5));clear hown5 hg5 hB5 hat5 hgb5 hlt5)
       go_roundw
       case rel=>exact ⟨i+1,k+1,by omega,by go_num,by rw [HR.out.1];exact H5.out.1,by omega,H5.out.2⟩
       case measure=>(simp [intOf];try omega)
  ·obtain rfl:i=N:=by omega
   have i1:¬(i:Int) < (i:Int):=by omega
   have ht:l.take i=l:=by rw [HS.out.2.1];exact List.take_length
   rw [ht] at hO
   have hml:=hO.1
   have k:=sorted_any m Ao co (dedup (l.map nrm1)) V (by omega) (hO.sl encE2_len (Nat.le_refl _)) (by omega) (by rw [←hml];exact hO.place.1)
   rw [←hml] at k
   have hel:m=(setE l).length:=by rw [setE_len];exact hml
   have HK:=hide (And.intro k (And.intro hB hel))
   clear k hO hB ht hml hel
   go_wp2_with (go_at_call 48;refine HK.out.1.mono ?_;rintro e W3 ⟨A3,c3,rfl,hB3,hs3,_⟩;have H3:=hide (And.intro hs3 (HK.out.2.1.trans (hB3.mono HK.out.2.1.size)));clear hB3 hs3)
   go_ret
   exact ⟨A3,c3,by rw [←HK.out.2.2];rfl,H3.out.1,H3.out.2⟩
end Go.Proofs.YtmemofonebphfaaGreat
namespace Go.Proofs.YtmemofonebphfaaGreat
open Go.RowKit Go.Sort
def othE (a b:Int) (l:List Int):Int:=l.foldl (fun o x=>if x≠b then x else o) a
def beyR (cr:List E2) (co:List Int) (a b:Int):Int:=if a∈co then a else if (endsE cr a).length≠2 then a else othE a b (endsE cr a)
def ends1 (e:E2) (a:Int) (j:Nat):List Int:=if j=0 then [] else if j=1 then (if e.1=a then [e.2] else []) else (if e.1=a then [e.2] else [])++if e.2=a then [e.1] else []
theorem othE_snoc (a b x:Int) (l:List Int):othE a b (l++ [x])=if x≠b then x else othE a b l:=by
 unfold othE
 rw [List.foldl_append]
 rfl
theorem endsE_take {cr:List E2} {i:Nat} {e:E2} (a:Int) (h:cr[i]? =some e):endsE (cr.take (i+1)) a=endsE (cr.take i) a++ends1 e a 2:=by
 unfold endsE
 rw [List.take_add_one,h,Option.toList_some,List.flatMap_append,List.flatMap_singleton]
 rfl
theorem ends1_one (e:E2) (a:Int):ends1 e a 1=ends1 e a 0++if e.1=a then [e.2] else []:=rfl
theorem ends1_two (e:E2) (a:Int):ends1 e a 2=ends1 e a 1++if e.2=a then [e.1] else []:=rfl
abbrev hLev (Ap:Option Addr) (np cp:Nat) (At:Option Addr) (nt ct:Nat) (Ac:Option Addr) (nc cc:Nat):Value:= .agg #[.slice Ap np cp, .slice At nt ct, .slice Ac nc cc]
set_option maxRecDepth 100000 in
set_option maxHeartbeats 32000000 in
theorem beyond_any (Ap:Option Addr) (np cp:Nat) (At:Option Addr) (nt ct:Nat) (Ac:Option Addr) (cc:Nat) (cr:List E2) (Ao:Option Addr) (oc:Nat) (co:List Int) (a b:Int) (w:World) (hs:Sl encE2 2 w w.heap.size Ac cr) (ho:Sl encZ9 1 w w.heap.size Ao co) (hl:cr.length≤100000000) (hlo:co.length≤100000000):
  Calls Tryz.prog 119 #[hLev Ap np cp At nt ct Ac cr.length cc, .slice Ao co.length oc, .int .i64 a, .int .i64 b] w fun e w'=>e= .returned (.int .i64 (beyR cr co a b))∧Below w.heap.size w w':=by
 obtain ⟨N,hN⟩:∃N,N=cr.length:=⟨_,rfl⟩
 obtain ⟨M,hM⟩:∃M,M=co.length:=⟨_,rfl⟩
 obtain ⟨R,hR⟩:∃R,R=beyR cr co a b:=⟨_,rfl⟩
 rw [←hN] at hl⊢
 rw [←hM] at hlo⊢
 rw [←hR]
 have HS:=hide (And.intro hs (And.intro ho (And.intro hN (And.intro hM hR))))
 clear hs ho hN hM hR
 go_enter Tryz.func119,Tryz.ntmps119
 go_upto_region 1 with fail
 obtain ⟨g,hg⟩:∃g,g=w.heap.size:=⟨_,rfl⟩
 obtain ⟨X,hX⟩:∃W,W=w.alloc (.cells #[.slice Ap np cp, .slice At nt ct, .slice Ac N cc] 108):=⟨_,rfl⟩
 rw [←hX,←hg]
 have hbe:Blk X g 108 #[.slice Ap np cp, .slice At nt ct, .slice Ac N cc]:=by rw [hX,hg];exact Blk.new _ _ _
 have hBX:Below w.heap.size w X:=by rw [hX];exact (Below.refl _ w).alloc (Nat.le_refl _) _
 have z2:X.cell? ⟨g,2,none⟩=some (.slice Ac N cc):=hbe.cell 2
 have hgl:=hbe.lt
 have HX:=hide (And.intro hBX (And.intro ((HS.out.1.below hBX).more hBX.size) ((HS.out.2.1.below hBX).more hBX.size)))
 clear hbe hBX hX hg
 go_upto_region 2 with fail
 go_loopw [9] (fun iv wr=>∃i:Nat,i≤M∧iv= .int .i64 i∧wr=X∧∀k,k < i→co[k]? ≠some a) (fun iv _=>M - (intOf iv).toNat)
 case atStart=>exact ⟨0,by omega,rfl,rfl,fun k hk=>absurd hk (by omega)⟩
 case round=>
  obtain ⟨i,hi,rfl,hw,hno⟩:=hrel
  subst hw
  by_cases hlt:i < M
  ·have i1:(i:Int) < (M:Int):=by omega
   obtain ⟨x,hx⟩:∃x,co[i]? =some x:=⟨_,List.getElem?_eq_getElem (by rw [←HS.out.2.2.2.1];exact hlt)⟩
   obtain ⟨bb,o,hA,hbb,c0⟩:=HX.out.2.2.z9 hx
   subst hA
   by_cases hxa:x=a
   ·have hr:R=a:=by
     rw [HS.out.2.2.2.2]
     unfold beyR
     rw [if_pos (by rw [←hxa];exact List.mem_of_getElem? hx)]
    have HR:=hide (And.intro hr HX.out.1)
    subst hxa
    clear hr hx hno
    go_wp2
    go_ret
    exact ⟨by rw [HR.out.1];rfl,HR.out.2⟩
   ·have HR:=hide (show∀k,k < i+1→co[k]? ≠some a from fun k hk=>by
     rcases Nat.lt_or_ge k i with h | h
     ·exact hno k h
     ·obtain rfl:k=i:=by omega
      rw [hx]
      exact fun h=>hxa (Option.some.inj h))
    clear hx hno
    go_wp2
    go_roundw
    case rel=>exact ⟨i+1,by omega,by go_num,by trivial,HR.out⟩
    case measure=>(simp [intOf];try omega)
  ·obtain rfl:i=M:=by omega
   have i1:¬(i:Int) < (i:Int):=by omega
   have hna:a ∉ co:=fun h=>by
    obtain ⟨k,hk⟩:=List.mem_iff_getElem?.1 h
    exact hno k (by rw [HS.out.2.2.2.1];exact (List.getElem?_eq_some_iff.1 hk).1) hk
   have HA:=hide hna
   clear hno hna
   go_upto_region 9 with fail
   go_loopw [10,11,12] (fun nv ov iv wz=>∃(k n:Nat),k≤N∧nv= .int .i64 n∧n≤2*k∧n=(endsE (cr.take k) a).length∧ov= .int .i64 (othE a b (endsE (cr.take k) a))∧iv= .int .i64 k∧wz=wr) (fun _ _ iv _=>N - (intOf iv).toNat)
   case atStart=>exact ⟨0,0,by omega,rfl,by omega,by rw [List.take_zero];rfl,by rw [List.take_zero];rfl,rfl,rfl⟩
   case round=>
    obtain ⟨k,n,hk,rfl,hn2,hn,rfl,rfl,hw⟩:=hrel
    subst hw
    by_cases hkN:k < N
    ·have i2:(k:Int) < (N:Int):=by omega
     obtain ⟨x,hx⟩:∃x,cr[k]? =some x:=⟨_,List.getElem?_eq_getElem (by rw [←HS.out.2.2.1];exact hkN)⟩
     obtain ⟨bb,o,hA,hbb,c0,c1⟩:=HX.out.2.1.e2 hx
     subst hA
     have htk:=endsE_take a hx
     obtain ⟨x1,x2⟩:=x
     simp only at c0 c1
     obtain ⟨E,hE⟩:∃E,E=endsE (cr.take k) a:=⟨_,rfl⟩
     rw [←hE] at htk hn⊢
     have HC:=hide (And.intro htk hn)
     clear hx htk hE hn
     go_upto_region 12 with fail
     go_loopw [10,11,13] (fun nv ov jv wz=>∃(j n:Nat),j≤2∧nv= .int .i64 n∧n≤2*k+j∧n=(E++ends1 (x1,x2) a j).length∧ov= .int .i64 (othE a b (E++ends1 (x1,x2) a j))∧jv= .int .i64 j∧wz=wr) (fun _ _ jv _=>2 - (intOf jv).toNat)
     case atStart=>exact ⟨0,n,by omega,rfl,by omega,by rw [show ends1 (x1,x2) a 0= [] from rfl,List.append_nil];exact HC.out.2,by rw [show ends1 (x1,x2) a 0= [] from rfl,List.append_nil],rfl,rfl⟩
     case round=>
      obtain ⟨j,n',hj,rfl,hn2',hn',rfl,rfl,hw⟩:=hrel
      subst hw
      have a1:IntKind.i64.wrap 1=1:=by decide
      have a0:IntKind.i64.wrap 0=0:=by decide
      have hc:j=0∨j=1∨j=2:=by omega
      rcases hc with rfl | rfl | rfl
      ·have hs1:E++ends1 (x1,x2) a 1=(E++ends1 (x1,x2) a 0)++if x1=a then [x2] else []:=by rw [ends1_one,←List.append_assoc]
       obtain ⟨F,hF⟩:∃F,F=E++ends1 (x1,x2) a 0:=⟨_,rfl⟩
       rw [←hF] at hs1 hn'⊢
       by_cases h1:x1=a
       ·rw [if_pos h1] at hs1
        by_cases h2:x2=b
        ·have ho:othE a b (E++ends1 (x1,x2) a 1)=othE a b F:=by rw [hs1,othE_snoc,if_neg (by simpa using h2)]
         have hnn:n'+1=(E++ends1 (x1,x2) a 1).length:=by rw [hs1,List.length_append,←hn'];rfl
         have HR:=hide (And.intro ho hnn)
         clear ho hnn hs1 hF hn'
         subst h1 h2
         go_wp2
         go_roundw
         case rel=>exact ⟨1,n'+1,by omega,by go_num,by omega,HR.out.2,by rw [HR.out.1],by go_num,by trivial⟩
         case measure=>(simp [intOf];try omega)
        ·have ho:othE a b (E++ends1 (x1,x2) a 1)=x2:=by rw [hs1,othE_snoc,if_pos h2]
         have hnn:n'+1=(E++ends1 (x1,x2) a 1).length:=by rw [hs1,List.length_append,←hn'];rfl
         have HR:=hide (And.intro ho hnn)
         clear ho hnn hs1 hF hn'
         subst h1
         go_wp2
         go_roundw
         case rel=>exact ⟨1,n'+1,by omega,by go_num,by omega,HR.out.2,by rw [HR.out.1],by go_num,by trivial⟩
         case measure=>(simp [intOf];try omega)
       ·rw [if_neg h1,List.append_nil] at hs1
        have HR:=hide (And.intro hs1 hn')
        clear hs1 hF hn'
        go_wp2
        go_roundw
        case rel=>exact ⟨1,n',by omega,by trivial,by omega,by rw [HR.out.1];exact HR.out.2,by rw [HR.out.1],by go_num,by trivial⟩
        case measure=>(simp [intOf];try omega)
      ·have hs1:E++ends1 (x1,x2) a 2=(E++ends1 (x1,x2) a 1)++if x2=a then [x1] else []:=by rw [ends1_two,←List.append_assoc]
       obtain ⟨F,hF⟩:∃F,F=E++ends1 (x1,x2) a 1:=⟨_,rfl⟩
       rw [←hF] at hs1 hn'⊢
       by_cases h1:x2=a
       ·rw [if_pos h1] at hs1
        by_cases h2:x1=b
        ·have ho:othE a b (E++ends1 (x1,x2) a 2)=othE a b F:=by rw [hs1,othE_snoc,if_neg (by simpa using h2)]
         have hnn:n'+1=(E++ends1 (x1,x2) a 2).length:=by rw [hs1,List.length_append,←hn'];rfl
         have HR:=hide (And.intro ho hnn)
         clear ho hnn hs1 hF hn'
         subst h1 h2
         go_wp2
         go_roundw
         case rel=>exact ⟨2,n'+1,by omega,by go_num,by omega,HR.out.2,by rw [HR.out.1],by go_num,by trivial⟩
         case measure=>(simp [intOf];try omega)
        ·have ho:othE a b (E++ends1 (x1,x2) a 2)=x1:=by rw [hs1,othE_snoc,if_pos h2]
         have hnn:n'+1=(E++ends1 (x1,x2) a 2).length:=by rw [hs1,List.length_append,←hn'];rfl
         have HR:=hide (And.intro ho hnn)
         clear ho hnn hs1 hF hn'
         subst h1
         go_wp2
         go_roundw
         case rel=>exact ⟨2,n'+1,by omega,by go_num,by omega,HR.out.2,by rw [HR.out.1],by go_num,by trivial⟩
         case measure=>(simp [intOf];try omega)
       ·rw [if_neg h1,List.append_nil] at hs1
        have HR:=hide (And.intro hs1 hn')
        clear hs1 hF hn'
        go_wp2
        go_roundw
        case rel=>exact ⟨2,n',by omega,by trivial,by omega,by rw [HR.out.1];exact HR.out.2,by rw [HR.out.1],by go_num,by trivial⟩
        case measure=>(simp [intOf];try omega)
      ·have HR:=hide hn'
       clear hn'
       go_wp2
       go_roundw
       case rel=>exact ⟨k+1,n',by omega,by trivial,by omega,by rw [HC.out.1];exact HR.out,by rw [HC.out.1],by go_num,by trivial⟩
       case measure=>(simp [intOf];try omega)
    ·obtain rfl:k=N:=by omega
     have i2:¬(k:Int) < (k:Int):=by omega
     have ht:cr.take k=cr:=by rw [HS.out.2.2.1];exact List.take_length
     rw [ht] at hn⊢
     obtain ⟨O,hO⟩:∃O,O=othE a b (endsE cr a):=⟨_,rfl⟩
     rw [←hO]
     by_cases h2:n=2
     ·have hr:R=O:=by
       rw [HS.out.2.2.2.2,hO]
       unfold beyR
       rw [if_neg HA.out,if_neg (by rw [←hn];simpa using h2)]
      have HR:=hide (And.intro hr HX.out.1)
      clear hr ht hO hn
      subst h2
      go_wp2
      go_ret
      exact ⟨by rw [HR.out.1];rfl,HR.out.2⟩
     ·have hr:R=a:=by
       rw [HS.out.2.2.2.2]
       unfold beyR
       rw [if_neg HA.out,if_pos (by rw [←hn];exact h2)]
      have HR:=hide (And.intro hr HX.out.1)
      have i3:¬(n:Int)=2:=by omega
      clear hr ht hO hn
      go_wp2
      go_ret
      exact ⟨by rw [HR.out.1];rfl,HR.out.2⟩
end Go.Proofs.YtmemofonebphfaaGreat
namespace Go.Proofs.YtmemofonebphfaaGreat
open Go.RowKit Go.Sort
section
variable {L:Lev} (h:LvR L)
include h
theorem LvR.crf:∀e∈L.cr,e.1 < e.2:=fun e he=>(h.crd (a:=e.1) (b:=e.2) he).2.2
end
theorem ends_nodup {cr:List E2} (hn:cr.Nodup) (hl:∀e∈cr,e.1 < e.2) (a:Int):(endsE cr a).Nodup:=by
 unfold endsE
 refine flat_nodup (fun e he=> ?_) (fun i j d e x hi hj hx hy=> ?_)
 ·have:=hl e he
  by_cases h1:e.1=a <;>by_cases h2:e.2=a <;>simp [h1,h2]
  omega
 ·have hd:=hl d (List.mem_of_getElem? hi)
  have he:=hl e (List.mem_of_getElem? hj)
  have key:∀f:E2,x∈((if f.1=a then [f.2] else [])++if f.2=a then [f.1] else [])→(f.1=a∧x=f.2)∨(f.2=a∧x=f.1):=fun f hf=>by
   rw [List.mem_append] at hf
   rcases hf with hf | hf
   ·split at hf
    ·rename_i h1;exact .inl ⟨h1,List.mem_singleton.1 hf⟩
    ·cases hf
   ·split at hf
    ·rename_i h1;exact .inr ⟨h1,List.mem_singleton.1 hf⟩
    ·cases hf
  have k1:=key d hx
  have k2:=key e hy
  have hde:d=e:=Prod.ext (by omega) (by omega)
  subst hde
  obtain ⟨l1,g1⟩:=List.getElem?_eq_some_iff.1 hi
  obtain ⟨l2,g2⟩:=List.getElem?_eq_some_iff.1 hj
  exact (List.getElem_inj hn).1 (g1.trans g2.symm)
theorem bey_same {cr:List E2} (hn:cr.Nodup) (hl:∀e∈cr,e.1 < e.2) (co:List Int) {a b:Int} (hb:b∈endsE cr a):beyR cr co a b=beyE cr co a b:=by
 unfold beyR beyE
 by_cases h1:a∈co
 ·rw [if_pos h1,if_pos (.inl h1)]
 ·rw [if_neg h1]
  by_cases h2:(endsE cr a).length=2
  ·rw [if_neg (by simpa using h2),if_neg (by simp [h1,h2])]
   have hnd:=ends_nodup hn hl a
   match hE:endsE cr a,h2,hnd with
   | [u,v],_,hnd=>
    rw [hE] at hb
    have huv:u≠v:=by
     rw [List.nodup_cons] at hnd
     exact fun h=>hnd.1 (by rw [h];simp)
    have ho:othE a b [u,v]=if v≠b then v else if u≠b then u else a:=rfl
    rw [ho]
    rw [List.mem_cons,List.mem_singleton] at hb
    rcases hb with rfl | rfl
    ·rw [if_pos (Ne.symm huv)];simp
    ·rw [if_neg (by simp),if_pos huv];simp [huv]
  ·rw [if_pos h2,if_pos (.inr h2)]
end Go.Proofs.YtmemofonebphfaaGreat
namespace Go.Proofs.YtmemofonebphfaaGreat
open Go.RowKit Go.Sort
theorem Sl.ptW {w:World} {B b o:Nat} {ps:List Pt} (h:Sl encP 3 w B (some ⟨b,o,none⟩) ps) (hBw:B≤w.heap.size) {i:Nat} {p:Pt} (hi:ps[i]? =some p):
  b < B∧∀W,Below B w W→W.cell? ⟨b,o+i*3,none⟩=some (.int .i64 p.1)∧W.cell? ⟨b,o+i*3+1,none⟩=some (.int .i64 p.2.1)∧W.cell? ⟨b,o+i*3+2,none⟩=some (.int .i64 p.2.2)∧b < W.heap.size:=by
 obtain ⟨b',o',hA,hb,hc⟩:=h.at hi
 injection hA with hA
 injection hA with h1 h2
 subst h1 h2
 have g0:=hc 0 _ rfl
 rw [Nat.add_zero] at g0
 exact ⟨hb,fun W hW=>⟨(hW.cell (p:=⟨b,_,none⟩) hb).trans g0,(hW.cell (p:=⟨b,_,none⟩) hb).trans (hc 1 _ rfl),(hW.cell (p:=⟨b,_,none⟩) hb).trans (hc 2 _ rfl),Nat.lt_of_lt_of_le hb (Nat.le_trans hBw hW.size)⟩⟩
structure RulS (w Y:World) (n g4 g8 g9:Nat) (lev:Array Value) (s:Pt):Prop where
 below:Below n w Y
 b4:Blk Y g4 108 lev
 b8:Blk Y g8 43 #[.int .i64 0, .int .i64 0, .int .i64 0]
 b9:Blk Y g9 43 #[.int .i64 s.1, .int .i64 s.2.1, .int .i64 s.2.2]
 le:n≤g8∧n≤g9
 ne:g4≠g9∧g8≠g9
theorem RulS.call {w Y W:World} {n g4 g8 g9 B:Nat} {lev:Array Value} {s:Pt} (h:RulS w Y n g4 g8 g9 lev s) (hB:Below B Y.drew W) (hb:Y.heap.size≤B):RulS w W n g4 g8 g9 lev s:=by
 have hB':Below B Y W:=⟨hB.os,hB.tape,hB.output,hB.size,hB.block⟩
 have h1:=h.le.1
 have h2:=h.b8.lt
 exact ⟨h.below.trans (hB'.mono (by omega)),h.b4.below hB' (Nat.lt_of_lt_of_le h.b4.lt hb),h.b8.below hB' (Nat.lt_of_lt_of_le h.b8.lt hb),h.b9.below hB' (Nat.lt_of_lt_of_le h.b9.lt hb),h.le,h.ne⟩
theorem RulS.next {w Y W:World} {n g4 g8 g9 B:Nat} {lev:Array Value} {s:Pt} (h:RulS w Y n g4 g8 g9 lev s) (hB:Below B Y W) (hb:Y.heap.size≤B):RulS w W n g4 g8 g9 lev s:=h.call ⟨hB.os,hB.tape,hB.output,hB.size,hB.block⟩ hb
theorem RulS.store {w Y:World} {n g4 g8 g9:Nat} {lev:Array Value} {s:Pt} (h:RulS w Y n g4 g8 g9 lev s) (u:Pt):
  RulS w (((Y.setCell ⟨g9,0,none⟩ (.int .i64 u.1)).setCell ⟨g9,1,none⟩ (.int .i64 u.2.1)).setCell ⟨g9,2,none⟩ (.int .i64 u.2.2)) n g4 g8 g9 lev u:=
 ⟨((h.below.setCell (p:=⟨g9,0,none⟩) h.le.2 _).setCell (p:=⟨g9,1,none⟩) h.le.2 _).setCell (p:=⟨g9,2,none⟩) h.le.2 _,h.b4.far3 h.ne.1 _ _ _,h.b8.far3 h.ne.2 _ _ _,h.b9.set3 _ _ _,h.le,h.ne⟩
theorem RulS.far4 {w Y:World} {n g4 g8 g9 g:Nat} {lev:Array Value} {s:Pt} (h:RulS w Y n g4 g8 g9 lev s) (hg:g≠g9∧g≠g4∧g≠g8) (hn:n≤g) (a b c d:Value):
  RulS w ((((Y.setCell ⟨g,0,none⟩ a).setCell ⟨g,1,none⟩ b).setCell ⟨g,2,none⟩ c).setCell ⟨g,3,none⟩ d) n g4 g8 g9 lev s:=
 ⟨(((h.below.setCell (p:=⟨g,0,none⟩) hn _).setCell (p:=⟨g,1,none⟩) hn _).setCell (p:=⟨g,2,none⟩) hn _).setCell (p:=⟨g,3,none⟩) hn _,(h.b4.far3 hg.2.1.symm _ _ _).far (p:=⟨g,3,none⟩) hg.2.1.symm _,(h.b8.far3 hg.2.2.symm _ _ _).far (p:=⟨g,3,none⟩) hg.2.2.symm _,(h.b9.far3 hg.1.symm _ _ _).far (p:=⟨g,3,none⟩) hg.1.symm _,h.le,h.ne⟩
def sumW (s:Pt) (xs:List Pt) (j:Nat):Pt:=(xs.take j).foldl (fun s x=>addP s (timesP x (-1))) s
theorem crease_sum (a b c d:Pt):addP (addP (timesP (addP a b) 9) (timesP c (-1))) (timesP d (-1))=(wrap64 (9*a.1+(9*b.1+(-1*c.1+(-1*d.1+0)))),wrap64 (9*a.2.1+(9*b.2.1+(-1*c.2.1+(-1*d.2.1+0)))),wrap64 (9*a.2.2+(9*b.2.2+(-1*c.2.2+(-1*d.2.2+0))))):=by
 simp only [addP,timesP,wrap64_add_l,wrap64_add_r,wrap64_mul_r,Prod.mk.injEq]
 refine ⟨?_,?_,?_⟩ <;>congr 1 <;>omega
theorem plain_sum (a b c d e f g h:Pt):addP (addP (addP (addP (addP (timesP (addP a b) 8) (timesP (addP c d) 2)) (timesP e (-1))) (timesP f (-1))) (timesP g (-1))) (timesP h (-1))=
  (wrap64 (8*a.1+(8*b.1+(2*c.1+(2*d.1+(-1*e.1+(-1*f.1+(-1*g.1+(-1*h.1+0)))))))),wrap64 (8*a.2.1+(8*b.2.1+(2*c.2.1+(2*d.2.1+(-1*e.2.1+(-1*f.2.1+(-1*g.2.1+(-1*h.2.1+0)))))))),wrap64 (8*a.2.2+(8*b.2.2+(2*c.2.2+(2*d.2.2+(-1*e.2.2+(-1*f.2.2+(-1*g.2.2+(-1*h.2.2+0))))))))):=by
 simp only [addP,timesP,wrap64_add_l,wrap64_add_r,wrap64_mul_r,Prod.mk.injEq]
 refine ⟨?_,?_,?_⟩ <;>congr 1 <;>omega
theorem getD_at {P:List Pt} {i:Nat} {x:Pt} (h:P[i]? =some x):P.getD ((i:Int).toNat) (0,0,0)=x:=by
 rw [Int.toNat_natCast,List.getD_eq_getElem?_getD,h];rfl
set_option maxRecDepth 100000 in
set_option maxHeartbeats 64000000 in
theorem rule9_any (Ap At Ac Ao:Option Addr) (cp ct cc oc:Nat) (L:Lev) (co:List Int) (ia ib:Nat) (w:World) (hL:LvR L) (he:((ia:Int),(ib:Int))∈edgesE L.t) (hp:Sl encP 3 w w.heap.size Ap L.p) (ht:Sl encN3 3 w w.heap.size At L.t) (hc:Sl encE2 2 w w.heap.size Ac L.cr) (ho:Sl encZ9 1 w w.heap.size Ao co)
  (hlp:L.p.length≤1000000) (hlt:L.t.length≤1000000) (hlc:L.cr.length≤1000000) (hlo:co.length≤1000000):
  Calls Tryz.prog 95 #[hLev Ap L.p.length cp At L.t.length ct Ac L.cr.length cc, .slice Ao co.length oc, .int .i64 ia, .int .i64 ib] w fun e w'=>e= .returned (vP (ruleE L.p L.t L.cr co ia ib))∧Below w.heap.size w w':=by
 obtain ⟨hd,hab⟩:=mem_edgesE.1 he
 simp only at hab
 have hds:((ib:Int),(ia:Int))∈dirE L.t:=hL.cls.clos _ hd
 have hra:=(hL.rng hd).1
 have hrb:=(hL.rng hd).2
 have hfz:∀i:Int,0≤i→i < L.p.length→fits i:=fun i h1 h2=>by unfold fits;omega
 have hnm:nrmE (ia:Int) (ib:Int)=((ia:Int),(ib:Int)):=nrmE_up hab
 have kf:=fun (W:World) (hW:Below w.heap.size w W)=>find_any Ac cc L.cr ia ib W ((hc.below hW).more hW.size) (by omega) (fun e he=>by
  have:=hL.rng (a:=e.1) (b:=e.2) (hL.crd (a:=e.1) (b:=e.2) he).1
  exact ⟨hfz _ this.1.1 this.1.2,hfz _ this.2.1 this.2.2⟩) (by rw [hnm];exact ⟨hfz _ hra.1 hra.2,hfz _ hrb.1 hrb.2⟩) hL.crS hL.crN
 obtain ⟨xa,hxa⟩:∃x,L.p[ia]? =some x:=⟨_,List.getElem?_eq_getElem (by omega)⟩
 obtain ⟨xb,hxb⟩:∃x,L.p[ib]? =some x:=⟨_,List.getElem?_eq_getElem (by omega)⟩
 obtain ⟨bp,op,hA,hbp,_⟩:=hp.at hxa
 subst hA
 have qa:=(hp.ptW (Nat.le_refl _) hxa).2
 have qb:=(hp.ptW (Nat.le_refl _) hxb).2
 obtain ⟨R,hR⟩:∃R,R=ruleE L.p L.t L.cr co ia ib:=⟨_,rfl⟩
 rw [←hR]
 obtain ⟨np,hnp⟩:∃n,n=L.p.length:=⟨_,rfl⟩
 obtain ⟨nt,hnt⟩:∃n,n=L.t.length:=⟨_,rfl⟩
 obtain ⟨nc,hnc⟩:∃n,n=L.cr.length:=⟨_,rfl⟩
 obtain ⟨no,hno⟩:∃n,n=co.length:=⟨_,rfl⟩
 by_cases hcr:((ia:Int),(ib:Int))∈L.cr
 ·have hb1:(ib:Int)∈endsE L.cr ia:=mem_ends.2 (.inl hcr)
  have hb2:(ia:Int)∈endsE L.cr ib:=mem_ends.2 (.inr hcr)
  have e1:=bey_same hL.crN hL.crf co hb1
  have e2:=bey_same hL.crN hL.crf co hb2
  have r1:=hL.bey co (b:=(ib:Int)) hra
  have r2:=hL.bey co (b:=(ia:Int)) hrb
  obtain ⟨ic,hic⟩:∃n:Nat,beyE L.cr co ia ib=n:=⟨(beyE L.cr co ia ib).toNat,by omega⟩
  obtain ⟨jd,hid⟩:∃n:Nat,beyE L.cr co ib ia=n:=⟨(beyE L.cr co ib ia).toNat,by omega⟩
  obtain ⟨xc,hxc⟩:∃x,L.p[ic]? =some x:=⟨_,List.getElem?_eq_getElem (by omega)⟩
  obtain ⟨xd,hxd⟩:∃x,L.p[jd]? =some x:=⟨_,List.getElem?_eq_getElem (by omega)⟩
  have qc:=(hp.ptW (Nat.le_refl _) hxc).2
  have qd:=(hp.ptW (Nat.le_refl _) hxd).2
  obtain ⟨kf1,hkf⟩:∃n:Nat,posE L.cr ia ib=n:=by
   obtain ⟨i,h1,_⟩:=posE_mem (l:=L.cr) (a:=ia) (b:=ib) (by rw [hnm];exact hcr)
   exact ⟨i,h1⟩
  have kb1:=fun (W:World) (hW:Below w.heap.size w W)=>beyond_any (some ⟨bp,op,none⟩) np cp At nt ct Ac cc L.cr Ao oc co ia ib W ((hc.below hW).more hW.size) ((ho.below hW).more hW.size) (by omega) (by omega)
  have kb2:=fun (W:World) (hW:Below w.heap.size w W)=>beyond_any (some ⟨bp,op,none⟩) np cp At nt ct Ac cc L.cr Ao oc co ib ia W ((hc.below hW).more hW.size) ((ho.below hW).more hW.size) (by omega) (by omega)
  simp only [e1,hic,←hnc,←hno] at kb1
  simp only [e2,hid,←hnc,←hno] at kb2
  simp only [hkf,←hnc] at kf
  have hres:R=((addP (addP (timesP (addP xa xb) 9) (timesP xc (-1))) (timesP xd (-1))).1.tdiv 16,(addP (addP (timesP (addP xa xb) 9) (timesP xc (-1))) (timesP xd (-1))).2.1.tdiv 16,(addP (addP (timesP (addP xa xb) 9) (timesP xc (-1))) (timesP xd (-1))).2.2.tdiv 16):=by
   rw [hR,crease_sum]
   unfold ruleE wsE
   rw [hnm,if_pos hcr,hic,hid]
   simp only [wsum,getD_at hxa,getD_at hxb,getD_at hxc,getD_at hxd]
  have hwr:wrap64 R.1=R.1∧wrap64 R.2.1=R.2.1∧wrap64 R.2.2=R.2.2:=by
   rw [hR]
   exact ⟨tdiv16_wrap _,tdiv16_wrap _,tdiv16_wrap _⟩
  obtain ⟨m1,hm1⟩:∃m,m=addP xa xb:=⟨_,rfl⟩
  obtain ⟨s1,hs1⟩:∃m,m=timesP m1 9:=⟨_,rfl⟩
  obtain ⟨m2,hm2⟩:∃m,m=timesP xc (-1):=⟨_,rfl⟩
  obtain ⟨s2,hs2⟩:∃m,m=addP s1 m2:=⟨_,rfl⟩
  obtain ⟨m3,hm3⟩:∃m,m=timesP xd (-1):=⟨_,rfl⟩
  obtain ⟨s3,hs3⟩:∃m,m=addP s2 m3:=⟨_,rfl⟩
  rw [←hm1,←hs1,←hm2,←hs2,←hm3,←hs3] at hres
  have c1:=plus9_any xa xb
  have c2:=times_any m1 9
  have c3:=times_any xc (-1)
  have c4:=plus9_any s1 m2
  have c5:=times_any xd (-1)
  have c6:=plus9_any s2 m3
  rw [←hm1] at c1
  rw [←hs1] at c2
  rw [←hm2] at c3
  rw [←hs2] at c4
  rw [←hm3] at c5
  rw [←hs3] at c6
  rw [←hnp] at hra hrb r1 r2
  rw [hic] at r1
  rw [hid] at r2
  rw [←hnp,←hnt,←hnc,←hno]
  have i1:(ia:Int) < (np:Int):=hra.2
  have i2:(ib:Int) < (np:Int):=hrb.2
  have i3:(ic:Int) < (np:Int):=r1.2
  have i4:(jd:Int) < (np:Int):=r2.2
  obtain ⟨R1,R2,R3⟩:=R
  obtain ⟨xa1,xa2,xa3⟩:=xa
  obtain ⟨xb1,xb2,xb3⟩:=xb
  obtain ⟨xc1,xc2,xc3⟩:=xc
  obtain ⟨xd1,xd2,xd3⟩:=xd
  obtain ⟨m11,m12,m13⟩:=m1
  obtain ⟨m21,m22,m23⟩:=m2
  obtain ⟨m31,m32,m33⟩:=m3
  obtain ⟨s11,s12,s13⟩:=s1
  obtain ⟨s21,s22,s23⟩:=s2
  obtain ⟨s31,s32,s33⟩:=s3
  simp only at qa qb qc qd
  simp only [Prod.mk.injEq] at hres
  obtain ⟨hR1,hR2,hR3⟩:=hres
  dsimp only at hwr
  rw [hR1,hR2,hR3] at hwr
  obtain ⟨w1,w2,w3⟩:=hwr
  have HR:=hide (And.intro hR1 (And.intro hR2 hR3))
  have HQ:=hide (And.intro qa (And.intro qb (And.intro qc qd)))
  have HK:=hide (And.intro kf (And.intro kb1 kb2))
  have HC:=hide (And.intro c1 (And.intro c2 (And.intro c3 (And.intro c4 (And.intro c5 c6)))))
  have HW:=hide (And.intro w1 (And.intro w2 w3))
  clear hd hab hds hra hrb hfz hnm kf hxa hxb hbp qa qb hR hnp hnt hnc hno hcr hb1 hb2 e1 e2 r1 r2 hic hid hxc hxd qc qd hkf kb1 kb2 hm1 hs1 hm2 hs2 hm3 hs3 c1 c2 c3 c4 c5 c6 hR1 hR2 hR3 w1 w2 w3 hL he hp ht hc ho hlp hlt hlc hlo
  go_enter Tryz.func95,Tryz.ntmps95
  go_upto_region 2 with fail
  obtain ⟨g4,hg4⟩:∃g,g=w.heap.size:=⟨_,rfl⟩
  obtain ⟨g8,hg8⟩:∃g,g=w.heap.size+1:=⟨_,rfl⟩
  obtain ⟨g9,hg9⟩:∃g,g=w.heap.size+1+1:=⟨_,rfl⟩
  obtain ⟨X,hX⟩:∃X,X=(((w.alloc (.cells #[.slice (some ⟨bp,op,none⟩) np cp, .slice At nt ct, .slice Ac nc cc] 108)).alloc (.cells #[.int .i64 0, .int .i64 0, .int .i64 0] 43)).alloc (.cells #[.int .i64 0, .int .i64 0, .int .i64 0] 43)):=⟨_,rfl⟩
  have hr0:RulS w X w.heap.size g4 g8 g9 #[.slice (some ⟨bp,op,none⟩) np cp, .slice At nt ct, .slice Ac nc cc] (0,0,0):=by
   rw [hX,hg4,hg8,hg9]
   exact ⟨(((Below.refl _ w).alloc (Nat.le_refl _) _).alloc (by simp) _).alloc (by simp;omega) _,((Blk.new _ _ _).alloc _).alloc _,(Blk.new' _ _ _ _ (by simp)).alloc _,Blk.new' _ _ _ _ (by simp),by omega,by omega⟩
  rw [←hX,←hg9,←hg8,←hg4]
  have z2:X.cell? ⟨g4,2,none⟩=some (.slice Ac nc cc):=hr0.b4.cell 2
  have hz2:=hr0.b4.lt
  have H0:=hide hr0
  clear hr0 hX hg4 hg8 hg9
  go_upto_if 19 with (go_at_call 93;refine (HK.out.1 X H0.out.below).mono ?_;rintro e Y0 ⟨rfl,hB⟩;have H1:=hide (H0.out.next hB (Nat.le_refl _));clear hB)
  clear z2 hz2
  have j0:(0:Int)≤(kf1:Int):=by omega
  have z0:Y0.cell? ⟨g4,0,none⟩=some (.slice (some ⟨bp,op,none⟩) np cp):=H1.out.b4.cell 0
  have z1:Y0.cell? ⟨g4,1,none⟩=some (.slice At nt ct):=H1.out.b4.cell 1
  have z2:Y0.cell? ⟨g4,2,none⟩=some (.slice Ac nc cc):=H1.out.b4.cell 2
  have hz4:=H1.out.b4.lt
  obtain ⟨pa1,pa2,pa3,hbY⟩:=HQ.out.1 Y0 H1.out.below
  obtain ⟨pb1,pb2,pb3,hbY⟩:=HQ.out.2.1 Y0 H1.out.below
  go_upto_region 3 with fail
  go_still_tail 10,(by kernel_rfl)
  repeat still_step
  change wpList _ _ _ _ _ Y0.drew
  go_upto_region 4 with (first | (go_at_call 64;refine (HC.out.2.1 W1).mono ?_;rintro e W2 ⟨rfl,hB⟩;have H3:=hide (H2.out.next hB (Nat.le_refl _));clear hB;have f0:=H3.out.b9.frozen 0;have f1:=H3.out.b9.frozen 1;have f2:=H3.out.b9.frozen 2;have hl9:=H3.out.b9.lt;have k0:=H3.out.b9.cell 0;have k1:=H3.out.b9.cell 1;have k2:=H3.out.b9.cell 2) | (go_at_call 22;refine (HC.out.1 Y0.drew).mono ?_;rintro e W1 ⟨rfl,hB⟩;have H2:=hide (H1.out.call hB (Nat.le_refl _));clear hB))
  obtain ⟨Y3,hY2⟩:∃Y,Y=(((W2.setCell ⟨g9,0,none⟩ (.int .i64 s11)).setCell ⟨g9,1,none⟩ (.int .i64 s12)).setCell ⟨g9,2,none⟩ (.int .i64 s13)):=⟨_,rfl⟩
  have H4:=hide (show RulS w Y3 w.heap.size g4 g8 g9 #[.slice (some ⟨bp,op,none⟩) np cp, .slice At nt ct, .slice Ac nc cc] (s11,s12,s13) from by rw [hY2];exact H3.out.store (s11,s12,s13))
  rw [←hY2]
  clear hY2 f0 f1 f2 hl9 k0 k1 k2
  clear z0 z1 z2 hz4 pa1 pa2 pa3 pb1 pb2 pb3 hbY
  have HD1:=hide (show RulS w Y3.drew w.heap.size g4 g8 g9 #[.slice (some ⟨bp,op,none⟩) np cp, .slice At nt ct, .slice Ac nc cc] (s11,s12,s13) from H4.out.call (Below.refl _ _) (Nat.le_refl _))
  refine wp_region_mix (fun W=>RulS w W w.heap.size g4 g8 g9 #[.slice (some ⟨bp,op,none⟩) np cp, .slice At nt ct, .slice Ac nc cc] (s11,s12,s13)) [0,1,2,3,4,5,6,8,9] [0,1,2,3,4,5,6,7,8,9,10,11,12] mixed_ok (by kernel_rfl) ?_
  refine wpMix_q (v:=vP (s11,s12,s13)) rfl rfl (fun _ _ _ h=>h) HD1.out ⟨rfl,fun _ h'=>by obtain ⟨a0,a1,a2⟩:=h'.b9.three;simp [go_sem,a0,a1,a2]⟩ ?_
  refine wpMix_q (v:=(.pointer (some ⟨g4,0,none⟩))) rfl rfl (fun _ _ _ h=>h) HD1.out ⟨rfl,fun _ h'=>by simp [go_sem]⟩ ?_
  refine wpMix_q (v:=(.slice (some ⟨bp,op,none⟩) np cp)) rfl rfl (fun _ _ _ h=>h) HD1.out ⟨rfl,fun _ h'=>by have a0:=h'.b4.cell 0;simp at a0;simp [go_sem,a0]⟩ ?_
  refine wpMix_q (v:=(.agg #[.slice (some ⟨bp,op,none⟩) np cp, .slice At nt ct, .slice Ac nc cc])) rfl rfl (fun _ _ _ h=>h) HD1.out ⟨rfl,fun _ h'=>by obtain ⟨a0,a1,a2⟩:=h'.b4.three;simp [go_sem,a0,a1,a2]⟩ ?_
  refine wpMix_q (v:=(.slice Ao no oc)) rfl rfl (fun _ _ _ h=>h) HD1.out ⟨rfl,fun _ h'=>by simp [go_sem]⟩ ?_
  refine wpMix_q (v:=(.int .i64 ia)) rfl rfl (fun _ _ _ h=>h) HD1.out ⟨rfl,fun _ h'=>by simp [go_sem]⟩ ?_
  refine wpMix_q (v:=(.int .i64 ib)) rfl rfl (fun _ _ _ h=>h) HD1.out ⟨rfl,fun _ h'=>by simp [go_sem]⟩ ?_
  simp only [List.getElem_toArray,List.getElem_cons_succ,List.getElem_cons_zero,Act.put,List.setIfInBounds_toArray,List.set_cons_succ,List.set_cons_zero]
  refine wpMix_n rfl rfl ?_
  go_wp2_with fail
  refine (HK.out.2.1 Y3.drew (HD1.out.below)).mono ?_
  rintro e Wb1 ⟨rfl,hB⟩
  have Hb1:=hide (HD1.out.next hB (Nat.le_refl _))
  clear hB
  go_wp2_with fail
  refine ⟨fun _=>Hb1.out,?_⟩
  refine wpMix_q (v:=(.pointer (some ⟨bp,op+ic*3,none⟩))) rfl rfl (fun _ _ _ h=>h) Hb1.out ⟨rfl,fun _ h'=>by simp [go_sem,i3]⟩ ?_
  refine wpMix_q (v:=vP (xc1,xc2,xc3)) rfl rfl (fun _ _ _ h=>h) Hb1.out ⟨rfl,fun _ h'=>by obtain ⟨a0,a1,a2,_⟩:=HQ.out.2.2.1 _ h'.below;simp [go_sem,a0,a1,a2]⟩ ?_
  simp only [List.getElem_toArray,List.getElem_cons_succ,List.getElem_cons_zero,Act.put,List.setIfInBounds_toArray,List.set_cons_succ,List.set_cons_zero]
  refine wpMix_n rfl rfl ?_
  go_wp2_with fail
  refine (HC.out.2.2.1 Wb1).mono ?_
  rintro e Wt1 ⟨rfl,hB⟩
  have Ht1:=hide (Hb1.out.next hB (Nat.le_refl _))
  clear hB
  go_wp2_with fail
  refine ⟨fun _=>Ht1.out,?_⟩
  refine wpMix_tail _ [_,_] (by kernel_rfl) rfl ?_
  go_upto_region 5 with (go_at_call 22;refine (HC.out.2.2.2.1 Wt1).mono ?_;rintro e Wp1 ⟨rfl,hB⟩;have Hp1:=hide (Ht1.out.next hB (Nat.le_refl _));clear hB;have f0:=Hp1.out.b9.frozen 0;have f1:=Hp1.out.b9.frozen 1;have f2:=Hp1.out.b9.frozen 2;have hl9:=Hp1.out.b9.lt;have k0:=Hp1.out.b9.cell 0;have k1:=Hp1.out.b9.cell 1;have k2:=Hp1.out.b9.cell 2)
  obtain ⟨Yn1,hY2⟩:∃Y,Y=(((Wp1.setCell ⟨g9,0,none⟩ (.int .i64 s21)).setCell ⟨g9,1,none⟩ (.int .i64 s22)).setCell ⟨g9,2,none⟩ (.int .i64 s23)):=⟨_,rfl⟩
  have Hn1:=hide (show RulS w Yn1 w.heap.size g4 g8 g9 #[.slice (some ⟨bp,op,none⟩) np cp, .slice At nt ct, .slice Ac nc cc] (s21,s22,s23) from by rw [hY2];exact Hp1.out.store (s21,s22,s23))
  rw [←hY2]
  clear hY2 f0 f1 f2 hl9 k0 k1 k2
  have HD2:=hide (show RulS w Yn1.drew w.heap.size g4 g8 g9 #[.slice (some ⟨bp,op,none⟩) np cp, .slice At nt ct, .slice Ac nc cc] (s21,s22,s23) from Hn1.out.call (Below.refl _ _) (Nat.le_refl _))
  refine wp_region_mix (fun W=>RulS w W w.heap.size g4 g8 g9 #[.slice (some ⟨bp,op,none⟩) np cp, .slice At nt ct, .slice Ac nc cc] (s21,s22,s23)) [0,1,2,3,4,5,6,8,9] [0,1,2,3,4,5,6,7,8,9,10,11,12] mixed_ok (by kernel_rfl) ?_
  refine wpMix_q (v:=vP (s21,s22,s23)) rfl rfl (fun _ _ _ h=>h) HD2.out ⟨rfl,fun _ h'=>by obtain ⟨a0,a1,a2⟩:=h'.b9.three;simp [go_sem,a0,a1,a2]⟩ ?_
  refine wpMix_q (v:=(.pointer (some ⟨g4,0,none⟩))) rfl rfl (fun _ _ _ h=>h) HD2.out ⟨rfl,fun _ h'=>by simp [go_sem]⟩ ?_
  refine wpMix_q (v:=(.slice (some ⟨bp,op,none⟩) np cp)) rfl rfl (fun _ _ _ h=>h) HD2.out ⟨rfl,fun _ h'=>by have a0:=h'.b4.cell 0;simp at a0;simp [go_sem,a0]⟩ ?_
  refine wpMix_q (v:=(.agg #[.slice (some ⟨bp,op,none⟩) np cp, .slice At nt ct, .slice Ac nc cc])) rfl rfl (fun _ _ _ h=>h) HD2.out ⟨rfl,fun _ h'=>by obtain ⟨a0,a1,a2⟩:=h'.b4.three;simp [go_sem,a0,a1,a2]⟩ ?_
  refine wpMix_q (v:=(.slice Ao no oc)) rfl rfl (fun _ _ _ h=>h) HD2.out ⟨rfl,fun _ h'=>by simp [go_sem]⟩ ?_
  refine wpMix_q (v:=(.int .i64 ib)) rfl rfl (fun _ _ _ h=>h) HD2.out ⟨rfl,fun _ h'=>by simp [go_sem]⟩ ?_
  refine wpMix_q (v:=(.int .i64 ia)) rfl rfl (fun _ _ _ h=>h) HD2.out ⟨rfl,fun _ h'=>by simp [go_sem]⟩ ?_
  simp only [List.getElem_toArray,List.getElem_cons_succ,List.getElem_cons_zero,Act.put,List.setIfInBounds_toArray,List.set_cons_succ,List.set_cons_zero]
  refine wpMix_n rfl rfl ?_
  go_wp2_with fail
  refine (HK.out.2.2 Yn1.drew (HD2.out.below)).mono ?_
  rintro e Wb2 ⟨rfl,hB⟩
  have Hb2:=hide (HD2.out.next hB (Nat.le_refl _))
  clear hB
  go_wp2_with fail
  refine ⟨fun _=>Hb2.out,?_⟩
  refine wpMix_q (v:=(.pointer (some ⟨bp,op+jd*3,none⟩))) rfl rfl (fun _ _ _ h=>h) Hb2.out ⟨rfl,fun _ h'=>by simp [go_sem,i4]⟩ ?_
  refine wpMix_q (v:=vP (xd1,xd2,xd3)) rfl rfl (fun _ _ _ h=>h) Hb2.out ⟨rfl,fun _ h'=>by obtain ⟨a0,a1,a2,_⟩:=HQ.out.2.2.2 _ h'.below;simp [go_sem,a0,a1,a2]⟩ ?_
  simp only [List.getElem_toArray,List.getElem_cons_succ,List.getElem_cons_zero,Act.put,List.setIfInBounds_toArray,List.set_cons_succ,List.set_cons_zero]
  refine wpMix_n rfl rfl ?_
  go_wp2_with fail
  refine (HC.out.2.2.2.2.1 Wb2).mono ?_
  rintro e Wt2 ⟨rfl,hB⟩
  have Ht2:=hide (Hb2.out.next hB (Nat.le_refl _))
  clear hB
  go_wp2_with fail
  refine ⟨fun _=>Ht2.out,?_⟩
  refine wpMix_tail _ [_,_] (by kernel_rfl) rfl ?_
  go_upto_region 15 with (go_at_call 22;refine (HC.out.2.2.2.2.2 Wt2).mono ?_;rintro e Wp2 ⟨rfl,hB⟩;have Hp2:=hide (Ht2.out.next hB (Nat.le_refl _));clear hB;have f0:=Hp2.out.b9.frozen 0;have f1:=Hp2.out.b9.frozen 1;have f2:=Hp2.out.b9.frozen 2;have hl9:=Hp2.out.b9.lt;have k0:=Hp2.out.b9.cell 0;have k1:=Hp2.out.b9.cell 1;have k2:=Hp2.out.b9.cell 2)
  obtain ⟨Yn2,hY2⟩:∃Y,Y=(((Wp2.setCell ⟨g9,0,none⟩ (.int .i64 s31)).setCell ⟨g9,1,none⟩ (.int .i64 s32)).setCell ⟨g9,2,none⟩ (.int .i64 s33)):=⟨_,rfl⟩
  have Hn2:=hide (show RulS w Yn2 w.heap.size g4 g8 g9 #[.slice (some ⟨bp,op,none⟩) np cp, .slice At nt ct, .slice Ac nc cc] (s31,s32,s33) from by rw [hY2];exact Hp2.out.store (s31,s32,s33))
  rw [←hY2]
  clear hY2 f0 f1 f2 hl9 k0 k1 k2
  have t1:Yn2.cell? ⟨g9,0,none⟩=some (.int .i64 s31):=Hn2.out.b9.cell 0
  have t2:Yn2.cell? ⟨g9,1,none⟩=some (.int .i64 s32):=Hn2.out.b9.cell 1
  have t3:Yn2.cell? ⟨g9,2,none⟩=some (.int .i64 s33):=Hn2.out.b9.cell 2
  have hz9:=Hn2.out.b9.lt
  have f0:=Hn2.out.b8.frozen 0
  have f1:=Hn2.out.b8.frozen 1
  have f2:=Hn2.out.b8.frozen 2
  have hl8:=Hn2.out.b8.lt
  have k0:=Hn2.out.b8.cell 0
  have k1:=Hn2.out.b8.cell 1
  have k2:=Hn2.out.b8.cell 2
  have w1:=HW.out.1
  have w2:=HW.out.2.1
  have w3:=HW.out.2.2
  go_wp2
  refine ret_at (v:=vP (R1,R2,R3)) (fun W=>Blk W g8 43 #[.int .i64 R1, .int .i64 R2, .int .i64 R3]) ?_ (fun W hW=> ?_) rfl ⟨rfl,?_⟩
  ·rw [HR.out.1,HR.out.2.1,HR.out.2.2];exact Hn2.out.b8.set3 _ _ _
  ·obtain ⟨a0,a1,a2⟩:=hW.three
   simp [results,Tryz.results95,go_sem,a0,a1,a2]
  ·exact ((Hn2.out.below.setCell (p:=⟨g8,0,none⟩) Hn2.out.le.1 _).setCell (p:=⟨g8,1,none⟩) Hn2.out.le.1 _).setCell (p:=⟨g8,2,none⟩) Hn2.out.le.1 _
 ·have hth:=hL.thr hd
  have hth2:=hL.thr hds
  have rc:=(hL.rng hth.1).2
  have rd:=(hL.rng hth2.1).2
  obtain ⟨ic,hic⟩:∃n:Nat,thirdE L.t ia ib=n:=⟨(thirdE L.t ia ib).toNat,by omega⟩
  obtain ⟨jd,hid⟩:∃n:Nat,thirdE L.t ib ia=n:=⟨(thirdE L.t ib ia).toNat,by omega⟩
  rw [hic] at hth rc
  rw [hid] at hth2 rd
  have re:=(hL.rng (hL.thr hth.2.2.1).1).2
  have rf:=(hL.rng (hL.thr hth.2.2.2).1).2
  have rg:=(hL.rng (hL.thr hth2.2.2.1).1).2
  have rh:=(hL.rng (hL.thr hth2.2.2.2).1).2
  obtain ⟨ie,hie⟩:∃n:Nat,thirdE L.t ic ib=n:=⟨(thirdE L.t ic ib).toNat,by omega⟩
  obtain ⟨je,hif⟩:∃n:Nat,thirdE L.t ia ic=n:=⟨(thirdE L.t ia ic).toNat,by omega⟩
  obtain ⟨ig,hig⟩:∃n:Nat,thirdE L.t jd ia=n:=⟨(thirdE L.t jd ia).toNat,by omega⟩
  obtain ⟨ih,hih⟩:∃n:Nat,thirdE L.t ib jd=n:=⟨(thirdE L.t ib jd).toNat,by omega⟩
  rw [hie] at re
  rw [hif] at rf
  rw [hig] at rg
  rw [hih] at rh
  obtain ⟨xc,hxc⟩:∃x,L.p[ic]? =some x:=⟨_,List.getElem?_eq_getElem (by omega)⟩
  obtain ⟨xd,hxd⟩:∃x,L.p[jd]? =some x:=⟨_,List.getElem?_eq_getElem (by omega)⟩
  obtain ⟨xe,hxe⟩:∃x,L.p[ie]? =some x:=⟨_,List.getElem?_eq_getElem (by omega)⟩
  obtain ⟨xf,hxf⟩:∃x,L.p[je]? =some x:=⟨_,List.getElem?_eq_getElem (by omega)⟩
  obtain ⟨xg,hxg⟩:∃x,L.p[ig]? =some x:=⟨_,List.getElem?_eq_getElem (by omega)⟩
  obtain ⟨xh,hxh⟩:∃x,L.p[ih]? =some x:=⟨_,List.getElem?_eq_getElem (by omega)⟩
  have qc:=(hp.ptW (Nat.le_refl _) hxc).2
  have qd:=(hp.ptW (Nat.le_refl _) hxd).2
  have hkf:posE L.cr ia ib= -1:=posE_none (by rw [hnm];exact hcr)
  have k3:=fun (W:World) (hW:Below w.heap.size w W) (a b:Int)=>third_any At ct L.t a b W ((ht.below hW).more hW.size) (by omega)
  have kc:=fun (W:World) (hW:Below w.heap.size w W)=>k3 W hW ia ib
  have kd:=fun (W:World) (hW:Below w.heap.size w W)=>k3 W hW ib ia
  have ke:=fun (W:World) (hW:Below w.heap.size w W)=>k3 W hW ic ib
  have kf':=fun (W:World) (hW:Below w.heap.size w W)=>k3 W hW ia ic
  have kg:=fun (W:World) (hW:Below w.heap.size w W)=>k3 W hW jd ia
  have kh:=fun (W:World) (hW:Below w.heap.size w W)=>k3 W hW ib jd
  simp only [hic,←hnt] at kc
  simp only [hid,←hnt] at kd
  simp only [hie,←hnt] at ke
  simp only [hif,←hnt] at kf'
  simp only [hig,←hnt] at kg
  simp only [hih,←hnt] at kh
  simp only [hkf,←hnc] at kf
  have hres:R=((addP (addP (addP (addP (addP (timesP (addP xa xb) 8) (timesP (addP xc xd) 2)) (timesP xe (-1))) (timesP xf (-1))) (timesP xg (-1))) (timesP xh (-1))).1.tdiv 16,(addP (addP (addP (addP (addP (timesP (addP xa xb) 8) (timesP (addP xc xd) 2)) (timesP xe (-1))) (timesP xf (-1))) (timesP xg (-1))) (timesP xh (-1))).2.1.tdiv 16,(addP (addP (addP (addP (addP (timesP (addP xa xb) 8) (timesP (addP xc xd) 2)) (timesP xe (-1))) (timesP xf (-1))) (timesP xg (-1))) (timesP xh (-1))).2.2.tdiv 16):=by
   rw [hR,plain_sum]
   unfold ruleE wsE
   rw [hnm,if_neg hcr,hic,hid,hie,hif,hig,hih]
   simp only [wsum,getD_at hxa,getD_at hxb,getD_at hxc,getD_at hxd,getD_at hxe,getD_at hxf,getD_at hxg,getD_at hxh]
  have hwr:wrap64 R.1=R.1∧wrap64 R.2.1=R.2.1∧wrap64 R.2.2=R.2.2:=by
   rw [hR]
   exact ⟨tdiv16_wrap _,tdiv16_wrap _,tdiv16_wrap _⟩
  have hw4:∀j,j < 4→∃i x, [ie,je,ig,ih][j]? =some i∧ [xe,xf,xg,xh][j]? =some x∧i < L.p.length∧L.p[i]? =some x:=fun j hj=>by
   have hc:j=0∨j=1∨j=2∨j=3:=by omega
   rcases hc with rfl | rfl | rfl | rfl
   ·exact ⟨ie,xe,rfl,rfl,by omega,hxe⟩
   ·exact ⟨je,xf,rfl,rfl,by omega,hxf⟩
   ·exact ⟨ig,xg,rfl,rfl,by omega,hxg⟩
   ·exact ⟨ih,xh,rfl,rfl,by omega,hxh⟩
  have hq4:=fun i x (hx:L.p[i]? =some x)=>(hp.ptW (Nat.le_refl _) hx).2
  obtain ⟨m1,hm1⟩:∃m,m=addP xa xb:=⟨_,rfl⟩
  obtain ⟨s1,hs1⟩:∃m,m=timesP m1 8:=⟨_,rfl⟩
  obtain ⟨m2,hm2⟩:∃m,m=addP xc xd:=⟨_,rfl⟩
  obtain ⟨m3,hm3⟩:∃m,m=timesP m2 2:=⟨_,rfl⟩
  obtain ⟨s2,hs2⟩:∃m,m=addP s1 m3:=⟨_,rfl⟩
  rw [←hm1,←hs1,←hm2,←hm3,←hs2] at hres
  have hsg:∀j x, [xe,xf,xg,xh][j]? =some x→sumW s2 [xe,xf,xg,xh] (j+1)=addP (sumW s2 [xe,xf,xg,xh] j) (timesP x (-1)):=fun j x h=>by unfold sumW;rw [List.take_add_one,h,Option.toList_some,List.foldl_append];rfl
  have hs4:R=((sumW s2 [xe,xf,xg,xh] 4).1.tdiv 16,(sumW s2 [xe,xf,xg,xh] 4).2.1.tdiv 16,(sumW s2 [xe,xf,xg,xh] 4).2.2.tdiv 16):=hres
  obtain ⟨il,hil⟩:∃l:List Nat,l= [ie,je,ig,ih]:=⟨_,rfl⟩
  obtain ⟨xl,hxl⟩:∃l:List Pt,l= [xe,xf,xg,xh]:=⟨_,rfl⟩
  rw [←hil,←hxl] at hw4
  rw [←hxl] at hsg hs4
  have c1:=plus9_any xa xb
  have c2:=times_any m1 8
  have c3:=plus9_any xc xd
  have c4:=times_any m2 2
  have c5:=plus9_any s1 m3
  rw [←hm1] at c1
  rw [←hs1] at c2
  rw [←hm2] at c3
  rw [←hm3] at c4
  rw [←hs2] at c5
  rw [←hnp] at hra hrb rc rd
  rw [←hnp] at hw4
  rw [←hnp,←hnt,←hnc,←hno]
  have i1:(ia:Int) < (np:Int):=hra.2
  have i2:(ib:Int) < (np:Int):=hrb.2
  have i3:(ic:Int) < (np:Int):=rc.2
  have i4:(jd:Int) < (np:Int):=rd.2
  obtain ⟨R1,R2,R3⟩:=R
  obtain ⟨xa1,xa2,xa3⟩:=xa
  obtain ⟨xb1,xb2,xb3⟩:=xb
  obtain ⟨xc1,xc2,xc3⟩:=xc
  obtain ⟨xd1,xd2,xd3⟩:=xd
  obtain ⟨m11,m12,m13⟩:=m1
  obtain ⟨m21,m22,m23⟩:=m2
  obtain ⟨m31,m32,m33⟩:=m3
  obtain ⟨s11,s12,s13⟩:=s1
  obtain ⟨s21,s22,s23⟩:=s2
  simp only at qa qb qc qd
  have HQ:=hide (And.intro qa (And.intro qb (And.intro qc qd)))
  have HK:=hide (And.intro kf (And.intro kc (And.intro kd (And.intro ke (And.intro kf' (And.intro kg kh))))))
  have HC:=hide (And.intro c1 (And.intro c2 (And.intro c3 (And.intro c4 c5))))
  have HL:=hide (And.intro hw4 (And.intro hq4 (And.intro hsg (And.intro hs4 (And.intro hwr hil)))))
  clear hd hab hds hra hrb hfz hnm kf hxa hxb hbp qa qb hR hnp hnt hnc hno hcr hic hid hxc hxd qc qd hkf hm1 hs1 hm2 hs2 hm3 c1 c2 c3 c4 c5 hL he hp ht hc ho hlp hlt hlc hlo hth hth2 rc rd re rf rg rh hie hif hig hih hxe hxf hxg hxh k3 kc kd ke kf' kg kh hres hwr hw4 hq4 hsg hs4 hil hxl
  go_enter Tryz.func95,Tryz.ntmps95
  go_upto_region 2 with fail
  obtain ⟨g4,hg4⟩:∃g,g=w.heap.size:=⟨_,rfl⟩
  obtain ⟨g8,hg8⟩:∃g,g=w.heap.size+1:=⟨_,rfl⟩
  obtain ⟨g9,hg9⟩:∃g,g=w.heap.size+1+1:=⟨_,rfl⟩
  obtain ⟨X,hX⟩:∃X,X=(((w.alloc (.cells #[.slice (some ⟨bp,op,none⟩) np cp, .slice At nt ct, .slice Ac nc cc] 108)).alloc (.cells #[.int .i64 0, .int .i64 0, .int .i64 0] 43)).alloc (.cells #[.int .i64 0, .int .i64 0, .int .i64 0] 43)):=⟨_,rfl⟩
  have hr0:RulS w X w.heap.size g4 g8 g9 #[.slice (some ⟨bp,op,none⟩) np cp, .slice At nt ct, .slice Ac nc cc] (0,0,0):=by
   rw [hX,hg4,hg8,hg9]
   exact ⟨(((Below.refl _ w).alloc (Nat.le_refl _) _).alloc (by simp) _).alloc (by simp;omega) _,((Blk.new _ _ _).alloc _).alloc _,(Blk.new' _ _ _ _ (by simp)).alloc _,Blk.new' _ _ _ _ (by simp),by omega,by omega⟩
  rw [←hX,←hg9,←hg8,←hg4]
  have z2:X.cell? ⟨g4,2,none⟩=some (.slice Ac nc cc):=hr0.b4.cell 2
  have hz2:=hr0.b4.lt
  have H0:=hide hr0
  clear hr0 hX hg4 hg8 hg9
  go_upto_if 19 with (go_at_call 93;refine (HK.out.1 X H0.out.below).mono ?_;rintro e Y0 ⟨rfl,hB⟩;have H1:=hide (H0.out.next hB (Nat.le_refl _));clear hB)
  clear z2 hz2
  have z0:Y0.cell? ⟨g4,0,none⟩=some (.slice (some ⟨bp,op,none⟩) np cp):=H1.out.b4.cell 0
  have z1:Y0.cell? ⟨g4,1,none⟩=some (.slice At nt ct):=H1.out.b4.cell 1
  have z2:Y0.cell? ⟨g4,2,none⟩=some (.slice Ac nc cc):=H1.out.b4.cell 2
  have hz4:=H1.out.b4.lt
  obtain ⟨pa1,pa2,pa3,hbY⟩:=HQ.out.1 Y0 H1.out.below
  obtain ⟨pb1,pb2,pb3,hbY⟩:=HQ.out.2.1 Y0 H1.out.below
  go_upto_region 7 with (go_at_call 120;refine (HK.out.2.1 Y0 H1.out.below).mono ?_;rintro e W0 ⟨rfl,hW0⟩;obtain rfl:Y0=W0:=hW0.symm)
  go_upto_region 8 with (go_at_call 120;refine (HK.out.2.2.1 Y0 H1.out.below).mono ?_;rintro e W0 ⟨rfl,hW0⟩;obtain rfl:Y0=W0:=hW0.symm)
  go_still_tail 10,(by kernel_rfl)
  repeat still_step
  change wpList _ _ _ _ _ Y0.drew
  go_upto_region 9 with (first | (go_at_call 64;refine (HC.out.2.1 W1).mono ?_;rintro e W2 ⟨rfl,hB⟩;have H3:=hide (H2.out.next hB (Nat.le_refl _));clear hB;have f0:=H3.out.b9.frozen 0;have f1:=H3.out.b9.frozen 1;have f2:=H3.out.b9.frozen 2;have hl9:=H3.out.b9.lt;have k0:=H3.out.b9.cell 0;have k1:=H3.out.b9.cell 1;have k2:=H3.out.b9.cell 2) | (go_at_call 22;refine (HC.out.1 Y0.drew).mono ?_;rintro e W1 ⟨rfl,hB⟩;have H2:=hide (H1.out.call hB (Nat.le_refl _));clear hB))
  obtain ⟨Y3,hY2⟩:∃Y,Y=(((W2.setCell ⟨g9,0,none⟩ (.int .i64 s11)).setCell ⟨g9,1,none⟩ (.int .i64 s12)).setCell ⟨g9,2,none⟩ (.int .i64 s13)):=⟨_,rfl⟩
  have H4:=hide (show RulS w Y3 w.heap.size g4 g8 g9 #[.slice (some ⟨bp,op,none⟩) np cp, .slice At nt ct, .slice Ac nc cc] (s11,s12,s13) from by rw [hY2];exact H3.out.store (s11,s12,s13))
  rw [←hY2]
  clear hY2 f0 f1 f2 hl9 k0 k1 k2
  clear z0 z1 z2 hz4 pa1 pa2 pa3 pb1 pb2 pb3 hbY
  have HD9:=hide (show RulS w Y3.drew w.heap.size g4 g8 g9 #[.slice (some ⟨bp,op,none⟩) np cp, .slice At nt ct, .slice Ac nc cc] (s11,s12,s13) from H4.out.call (Below.refl _ _) (Nat.le_refl _))
  refine wp_region_mix (fun W=>RulS w W w.heap.size g4 g8 g9 #[.slice (some ⟨bp,op,none⟩) np cp, .slice At nt ct, .slice Ac nc cc] (s11,s12,s13)) [0,1,2,3,4,5,6,7,8,9,10] [0,1,2,3,4,5,6,7,8,9,10,11,12,13,14] mixed_ok (by kernel_rfl) ?_
  refine wpMix_q (v:=vP (s11,s12,s13)) rfl rfl (fun _ _ _ h=>h) HD9.out ⟨rfl,fun _ h'=>by obtain ⟨a0,a1,a2⟩:=h'.b9.three;simp [go_sem,a0,a1,a2]⟩ ?_
  refine wpMix_q (v:=(.pointer (some ⟨g4,0,none⟩))) rfl rfl (fun _ _ _ h=>h) HD9.out ⟨rfl,fun _ h'=>by simp [go_sem]⟩ ?_
  refine wpMix_q (v:=(.slice (some ⟨bp,op,none⟩) np cp)) rfl rfl (fun _ _ _ h=>h) HD9.out ⟨rfl,fun _ h'=>by have a0:=h'.b4.cell 0;simp at a0;simp [go_sem,a0]⟩ ?_
  refine wpMix_q (v:=(.int .i64 ic)) rfl rfl (fun _ _ _ h=>h) HD9.out ⟨rfl,fun _ h'=>by simp [go_sem]⟩ ?_
  refine wpMix_q (v:=(.pointer (some ⟨bp,op+ic*3,none⟩))) rfl rfl (fun _ _ _ h=>h) HD9.out ⟨rfl,fun _ h'=>by simp [go_sem,i3]⟩ ?_
  refine wpMix_q (v:=vP (xc1,xc2,xc3)) rfl rfl (fun _ _ _ h=>h) HD9.out ⟨rfl,fun _ h'=>by obtain ⟨a0,a1,a2,_⟩:=HQ.out.2.2.1 _ h'.below;simp [go_sem,a0,a1,a2]⟩ ?_
  simp only [List.getElem_toArray,List.getElem_cons_succ,List.getElem_cons_zero,Act.put,List.setIfInBounds_toArray,List.set_cons_succ,List.set_cons_zero]
  refine wpMix_q (v:=(.pointer (some ⟨g4,0,none⟩))) rfl rfl (fun _ _ _ h=>h) HD9.out ⟨rfl,fun _ h'=>by simp [go_sem]⟩ ?_
  refine wpMix_q (v:=(.slice (some ⟨bp,op,none⟩) np cp)) rfl rfl (fun _ _ _ h=>h) HD9.out ⟨rfl,fun _ h'=>by have a0:=h'.b4.cell 0;simp at a0;simp [go_sem,a0]⟩ ?_
  refine wpMix_q (v:=(.int .i64 jd)) rfl rfl (fun _ _ _ h=>h) HD9.out ⟨rfl,fun _ h'=>by simp [go_sem]⟩ ?_
  refine wpMix_q (v:=(.pointer (some ⟨bp,op+jd*3,none⟩))) rfl rfl (fun _ _ _ h=>h) HD9.out ⟨rfl,fun _ h'=>by simp [go_sem,i4]⟩ ?_
  refine wpMix_q (v:=vP (xd1,xd2,xd3)) rfl rfl (fun _ _ _ h=>h) HD9.out ⟨rfl,fun _ h'=>by obtain ⟨a0,a1,a2,_⟩:=HQ.out.2.2.2 _ h'.below;simp [go_sem,a0,a1,a2]⟩ ?_
  simp only [List.getElem_toArray,List.getElem_cons_succ,List.getElem_cons_zero,Act.put,List.setIfInBounds_toArray,List.set_cons_succ,List.set_cons_zero]
  refine wpMix_n rfl rfl ?_
  go_wp2_with fail
  refine (HC.out.2.2.1 Y3.drew).mono ?_
  rintro e W91 ⟨rfl,hB⟩
  have H91:=hide (HD9.out.next hB (Nat.le_refl _))
  clear hB
  go_wp2_with fail
  refine ⟨fun _=>H91.out,?_⟩
  refine wpMix_n rfl rfl ?_
  go_wp2_with fail
  refine (HC.out.2.2.2.1 W91).mono ?_
  rintro e W92 ⟨rfl,hB⟩
  have H92:=hide (H91.out.next hB (Nat.le_refl _))
  clear hB
  go_wp2_with fail
  refine ⟨fun _=>H92.out,?_⟩
  refine wpMix_tail _ [_,_] (by kernel_rfl) rfl ?_
  go_upto_region 10 with (go_at_call 22;refine (HC.out.2.2.2.2 W92).mono ?_;rintro e W93 ⟨rfl,hB⟩;have H93:=hide (H92.out.next hB (Nat.le_refl _));clear hB;have f0:=H93.out.b9.frozen 0;have f1:=H93.out.b9.frozen 1;have f2:=H93.out.b9.frozen 2;have hl9:=H93.out.b9.lt;have k0:=H93.out.b9.cell 0;have k1:=H93.out.b9.cell 1;have k2:=H93.out.b9.cell 2)
  obtain ⟨Y9,hY2⟩:∃Y,Y=(((W93.setCell ⟨g9,0,none⟩ (.int .i64 s21)).setCell ⟨g9,1,none⟩ (.int .i64 s22)).setCell ⟨g9,2,none⟩ (.int .i64 s23)):=⟨_,rfl⟩
  have H9:=hide (show RulS w Y9 w.heap.size g4 g8 g9 #[.slice (some ⟨bp,op,none⟩) np cp, .slice At nt ct, .slice Ac nc cc] (s21,s22,s23) from by rw [hY2];exact H93.out.store (s21,s22,s23))
  rw [←hY2]
  clear hY2 f0 f1 f2 hl9 k0 k1 k2
  go_cut [12] (fun v wx=>∃ge,v= .pointer (some ⟨ge,0,none⟩)∧Blk wx ge 65 #[.int .i64 ie, .int .i64 je, .int .i64 ig, .int .i64 ih]∧((ge≠g9∧ge≠g4∧ge≠g8)∧w.heap.size≤ge)∧RulS w wx w.heap.size g4 g8 g9 #[.slice (some ⟨bp,op,none⟩) np cp, .slice At nt ct, .slice Ac nc cc] (s21,s22,s23))
  case first=>
   have HD:=hide (show RulS w Y9.drew w.heap.size g4 g8 g9 #[.slice (some ⟨bp,op,none⟩) np cp, .slice At nt ct, .slice Ac nc cc] (s21,s22,s23) from H9.out.call (Below.refl _ _) (Nat.le_refl _))
   refine wp_region_tree (fun W=>RulS w W w.heap.size g4 g8 g9 #[.slice (some ⟨bp,op,none⟩) np cp, .slice At nt ct, .slice Ac nc cc] (s21,s22,s23)) [0,1,2,3,5,6,7,8,10,11,12,13,15,16,17,18,20] (.q 0 (.q 1 (.q 2 (.q 3 (.q 5 (.q 6 (.q 7 (.q 8 (.q 10 (.q 11 (.q 12 (.q 13 (.q 15 (.q 16 (.q 17 (.q 18 (.two 4 (.two 9 (.two 14 (.two 19 (.q 20 (.one 21 (.one 22 .nil))) 21 (.one 19 (.q 20 (.one 22 .nil)))) 21 (.one 14 (.one 19 (.q 20 (.one 22 .nil))))) 21 (.one 9 (.one 14 (.one 19 (.q 20 (.one 22 .nil)))))) 21 (.one 4 (.one 9 (.one 14 (.one 19 (.q 20 (.one 22 .nil))))))))))))))))))))))) mixed_ok (by kernel_rfl) ?_
   refine wpMixT_q (v:=(.pointer (some ⟨g4,1,none⟩))) rfl (fun _ _ _ h=>h) HD.out ⟨rfl,fun _ h'=>by simp [go_sem]⟩ ?_
   refine wpMixT_q (v:=(.slice At nt ct)) rfl (fun _ _ _ h=>h) HD.out ⟨rfl,fun _ h'=>by have a0:=h'.b4.cell 1;simp at a0;simp [go_sem,a0]⟩ ?_
   refine wpMixT_q (v:=(.int .i64 ic)) rfl (fun _ _ _ h=>h) HD.out ⟨rfl,fun _ h'=>by simp [go_sem]⟩ ?_
   refine wpMixT_q (v:=(.int .i64 ib)) rfl (fun _ _ _ h=>h) HD.out ⟨rfl,fun _ h'=>by simp [go_sem]⟩ ?_
   refine wpMixT_q (v:=(.pointer (some ⟨g4,1,none⟩))) rfl (fun _ _ _ h=>h) HD.out ⟨rfl,fun _ h'=>by simp [go_sem]⟩ ?_
   refine wpMixT_q (v:=(.slice At nt ct)) rfl (fun _ _ _ h=>h) HD.out ⟨rfl,fun _ h'=>by have a0:=h'.b4.cell 1;simp at a0;simp [go_sem,a0]⟩ ?_
   simp only [List.getElem_toArray,List.getElem_cons_succ,List.getElem_cons_zero,Act.put,List.setIfInBounds_toArray,List.set_cons_succ,List.set_cons_zero]
   refine wpMixT_q (v:=(.int .i64 ia)) rfl (fun _ _ _ h=>h) HD.out ⟨rfl,fun _ h'=>by simp [go_sem]⟩ ?_
   refine wpMixT_q (v:=(.int .i64 ic)) rfl (fun _ _ _ h=>h) HD.out ⟨rfl,fun _ h'=>by simp [go_sem]⟩ ?_
   refine wpMixT_q (v:=(.pointer (some ⟨g4,1,none⟩))) rfl (fun _ _ _ h=>h) HD.out ⟨rfl,fun _ h'=>by simp [go_sem]⟩ ?_
   refine wpMixT_q (v:=(.slice At nt ct)) rfl (fun _ _ _ h=>h) HD.out ⟨rfl,fun _ h'=>by have a0:=h'.b4.cell 1;simp at a0;simp [go_sem,a0]⟩ ?_
   refine wpMixT_q (v:=(.int .i64 jd)) rfl (fun _ _ _ h=>h) HD.out ⟨rfl,fun _ h'=>by simp [go_sem]⟩ ?_
   refine wpMixT_q (v:=(.int .i64 ia)) rfl (fun _ _ _ h=>h) HD.out ⟨rfl,fun _ h'=>by simp [go_sem]⟩ ?_
   simp only [List.getElem_toArray,List.getElem_cons_succ,List.getElem_cons_zero,Act.put,List.setIfInBounds_toArray,List.set_cons_succ,List.set_cons_zero]
   refine wpMixT_q (v:=(.pointer (some ⟨g4,1,none⟩))) rfl (fun _ _ _ h=>h) HD.out ⟨rfl,fun _ h'=>by simp [go_sem]⟩ ?_
   refine wpMixT_q (v:=(.slice At nt ct)) rfl (fun _ _ _ h=>h) HD.out ⟨rfl,fun _ h'=>by have a0:=h'.b4.cell 1;simp at a0;simp [go_sem,a0]⟩ ?_
   refine wpMixT_q (v:=(.int .i64 ib)) rfl (fun _ _ _ h=>h) HD.out ⟨rfl,fun _ h'=>by simp [go_sem]⟩ ?_
   refine wpMixT_q (v:=(.int .i64 jd)) rfl (fun _ _ _ h=>h) HD.out ⟨rfl,fun _ h'=>by simp [go_sem]⟩ ?_
   simp only [List.getElem_toArray,List.getElem_cons_succ,List.getElem_cons_zero,Act.put,List.setIfInBounds_toArray,List.set_cons_succ,List.set_cons_zero]
   refine wpMixT_two rfl rfl ?_ ?_
   ·skip
    go_wp2_with fail
    refine (HK.out.2.2.2.1 Y9.drew HD.out.below).mono ?_
    rintro e Wq0 ⟨rfl,hWq⟩
    obtain rfl:Y9.drew=Wq0:=hWq.symm
    go_wp2_with fail
    refine ⟨fun _=>HD.out,?_⟩
    refine wpMixT_two rfl rfl ?_ ?_
    ·skip
     go_wp2_with fail
     refine (HK.out.2.2.2.2.1 Y9.drew HD.out.below).mono ?_
     rintro e Wq1 ⟨rfl,hWq⟩
     obtain rfl:Y9.drew=Wq1:=hWq.symm
     go_wp2_with fail
     refine ⟨fun _=>HD.out,?_⟩
     refine wpMixT_two rfl rfl ?_ ?_
     ·skip
      go_wp2_with fail
      refine (HK.out.2.2.2.2.2.1 Y9.drew HD.out.below).mono ?_
      rintro e Wq2 ⟨rfl,hWq⟩
      obtain rfl:Y9.drew=Wq2:=hWq.symm
      go_wp2_with fail
      refine ⟨fun _=>HD.out,?_⟩
      refine wpMixT_two rfl rfl ?_ ?_
      ·skip
       go_wp2_with fail
       refine (HK.out.2.2.2.2.2.2 Y9.drew HD.out.below).mono ?_
       rintro e Wq3 ⟨rfl,hWq⟩
       obtain rfl:Y9.drew=Wq3:=hWq.symm
       go_wp2_with fail
       refine ⟨fun _=>HD.out,?_⟩
       refine wpMixT_q (v:=(.agg #[.int .i64 ie, .int .i64 je, .int .i64 ig, .int .i64 ih])) rfl (fun _ _ _ h=>h) HD.out ⟨rfl,fun _ h'=>by simp [go_sem]⟩ ?_
       simp only [List.getElem_toArray,List.getElem_cons_succ,List.getElem_cons_zero,Act.put,List.setIfInBounds_toArray,List.set_cons_succ,List.set_cons_zero]
       refine wpMixT_one rfl ?_
       go_wp2_with fail
       obtain ⟨Z,hZ⟩:∃Z,Z=(Y9.alloc (.cells #[.int .i64 0, .int .i64 0, .int .i64 0, .int .i64 0] 65)).drew:=⟨_,rfl⟩
       have HZ:=hide (show RulS w Z w.heap.size g4 g8 g9 #[.slice (some ⟨bp,op,none⟩) np cp, .slice At nt ct, .slice Ac nc cc] (s21,s22,s23)∧Blk Z Y9.heap.size 65 #[.int .i64 0, .int .i64 0, .int .i64 0, .int .i64 0]∧(Y9.heap.size≠g9∧Y9.heap.size≠g4∧Y9.heap.size≠g8)∧w.heap.size≤Y9.heap.size from by rw [hZ];exact ⟨H9.out.next (((Below.refl _ Y9).alloc (Nat.le_refl _) _).drew) (Nat.le_refl _),Blk.new Y9 _ _,⟨Nat.ne_of_gt H9.out.b9.lt,Nat.ne_of_gt H9.out.b4.lt,Nat.ne_of_gt H9.out.b8.lt⟩,H9.out.below.size⟩)
       rw [←hZ]
       obtain ⟨ge,hge⟩:∃g,g=Y9.heap.size:=⟨_,rfl⟩
       rw [←hge] at HZ⊢
       clear hZ hge
       refine ⟨fun _=>HZ.out.1,?_⟩
       refine wpMixT_one rfl ?_
       have f0:=HZ.out.2.1.frozen 0
       have f1:=HZ.out.2.1.frozen 1
       have f2:=HZ.out.2.1.frozen 2
       have f3:=HZ.out.2.1.frozen 3
       have hlz:=HZ.out.2.1.lt
       have k0:=HZ.out.2.1.cell 0
       have k1:=HZ.out.2.1.cell 1
       have k2:=HZ.out.2.1.cell 2
       have k3:=HZ.out.2.1.cell 3
       go_wp2_with fail
       refine ⟨fun h=>absurd (h.symm.trans (show _=false by kernel_rfl)) (by simp),?_⟩
       refine wpMixT_nil ?_
       go_wp2_with fail
       go_meet
       case rel=>
        refine ⟨ge,rfl,(((HZ.out.2.1.set_ 0 _).set_ 1 _).set_ 2 _).set_ 3 _,HZ.out.2.2,?_⟩
        exact HZ.out.1.far4 HZ.out.2.2.1 HZ.out.2.2.2 _ _ _ _
      ·skip
       go_wp2_with fail
       obtain ⟨Z,hZ⟩:∃Z,Z=(Y9.alloc (.cells #[.int .i64 0, .int .i64 0, .int .i64 0, .int .i64 0] 65)).drew:=⟨_,rfl⟩
       have HZ:=hide (show RulS w Z w.heap.size g4 g8 g9 #[.slice (some ⟨bp,op,none⟩) np cp, .slice At nt ct, .slice Ac nc cc] (s21,s22,s23)∧Blk Z Y9.heap.size 65 #[.int .i64 0, .int .i64 0, .int .i64 0, .int .i64 0]∧(Y9.heap.size≠g9∧Y9.heap.size≠g4∧Y9.heap.size≠g8)∧w.heap.size≤Y9.heap.size from by rw [hZ];exact ⟨H9.out.next (((Below.refl _ Y9).alloc (Nat.le_refl _) _).drew) (Nat.le_refl _),Blk.new Y9 _ _,⟨Nat.ne_of_gt H9.out.b9.lt,Nat.ne_of_gt H9.out.b4.lt,Nat.ne_of_gt H9.out.b8.lt⟩,H9.out.below.size⟩)
       rw [←hZ]
       obtain ⟨ge,hge⟩:∃g,g=Y9.heap.size:=⟨_,rfl⟩
       rw [←hge] at HZ⊢
       clear hZ hge
       refine ⟨fun _=>HZ.out.1,?_⟩
       refine wpMixT_one rfl ?_
       go_wp2_with fail
       refine (HK.out.2.2.2.2.2.2 Z HZ.out.1.below).mono ?_
       rintro e Wq3 ⟨rfl,hWq⟩
       obtain rfl:Z=Wq3:=hWq.symm
       go_wp2_with fail
       refine ⟨fun _=>HZ.out.1,?_⟩
       refine wpMixT_q (v:=(.agg #[.int .i64 ie, .int .i64 je, .int .i64 ig, .int .i64 ih])) rfl (fun _ _ _ h=>h) HZ.out.1 ⟨rfl,fun _ h'=>by simp [go_sem]⟩ ?_
       simp only [List.getElem_toArray,List.getElem_cons_succ,List.getElem_cons_zero,Act.put,List.setIfInBounds_toArray,List.set_cons_succ,List.set_cons_zero]
       refine wpMixT_one rfl ?_
       have f0:=HZ.out.2.1.frozen 0
       have f1:=HZ.out.2.1.frozen 1
       have f2:=HZ.out.2.1.frozen 2
       have f3:=HZ.out.2.1.frozen 3
       have hlz:=HZ.out.2.1.lt
       have k0:=HZ.out.2.1.cell 0
       have k1:=HZ.out.2.1.cell 1
       have k2:=HZ.out.2.1.cell 2
       have k3:=HZ.out.2.1.cell 3
       go_wp2_with fail
       refine ⟨fun h=>absurd (h.symm.trans (show _=false by kernel_rfl)) (by simp),?_⟩
       refine wpMixT_nil ?_
       go_wp2_with fail
       go_meet
       case rel=>
        refine ⟨ge,rfl,(((HZ.out.2.1.set_ 0 _).set_ 1 _).set_ 2 _).set_ 3 _,HZ.out.2.2,?_⟩
        exact HZ.out.1.far4 HZ.out.2.2.1 HZ.out.2.2.2 _ _ _ _
     ·skip
      go_wp2_with fail
      obtain ⟨Z,hZ⟩:∃Z,Z=(Y9.alloc (.cells #[.int .i64 0, .int .i64 0, .int .i64 0, .int .i64 0] 65)).drew:=⟨_,rfl⟩
      have HZ:=hide (show RulS w Z w.heap.size g4 g8 g9 #[.slice (some ⟨bp,op,none⟩) np cp, .slice At nt ct, .slice Ac nc cc] (s21,s22,s23)∧Blk Z Y9.heap.size 65 #[.int .i64 0, .int .i64 0, .int .i64 0, .int .i64 0]∧(Y9.heap.size≠g9∧Y9.heap.size≠g4∧Y9.heap.size≠g8)∧w.heap.size≤Y9.heap.size from by rw [hZ];exact ⟨H9.out.next (((Below.refl _ Y9).alloc (Nat.le_refl _) _).drew) (Nat.le_refl _),Blk.new Y9 _ _,⟨Nat.ne_of_gt H9.out.b9.lt,Nat.ne_of_gt H9.out.b4.lt,Nat.ne_of_gt H9.out.b8.lt⟩,H9.out.below.size⟩)
      rw [←hZ]
      obtain ⟨ge,hge⟩:∃g,g=Y9.heap.size:=⟨_,rfl⟩
      rw [←hge] at HZ⊢
      clear hZ hge
      refine ⟨fun _=>HZ.out.1,?_⟩
      refine wpMixT_one rfl ?_
      go_wp2_with fail
      refine (HK.out.2.2.2.2.2.1 Z HZ.out.1.below).mono ?_
      rintro e Wq2 ⟨rfl,hWq⟩
      obtain rfl:Z=Wq2:=hWq.symm
      go_wp2_with fail
      refine ⟨fun _=>HZ.out.1,?_⟩
      refine wpMixT_one rfl ?_
      go_wp2_with fail
      refine (HK.out.2.2.2.2.2.2 Z HZ.out.1.below).mono ?_
      rintro e Wq3 ⟨rfl,hWq⟩
      obtain rfl:Z=Wq3:=hWq.symm
      go_wp2_with fail
      refine ⟨fun _=>HZ.out.1,?_⟩
      refine wpMixT_q (v:=(.agg #[.int .i64 ie, .int .i64 je, .int .i64 ig, .int .i64 ih])) rfl (fun _ _ _ h=>h) HZ.out.1 ⟨rfl,fun _ h'=>by simp [go_sem]⟩ ?_
      simp only [List.getElem_toArray,List.getElem_cons_succ,List.getElem_cons_zero,Act.put,List.setIfInBounds_toArray,List.set_cons_succ,List.set_cons_zero]
      refine wpMixT_one rfl ?_
      have f0:=HZ.out.2.1.frozen 0
      have f1:=HZ.out.2.1.frozen 1
      have f2:=HZ.out.2.1.frozen 2
      have f3:=HZ.out.2.1.frozen 3
      have hlz:=HZ.out.2.1.lt
      have k0:=HZ.out.2.1.cell 0
      have k1:=HZ.out.2.1.cell 1
      have k2:=HZ.out.2.1.cell 2
      have k3:=HZ.out.2.1.cell 3
      go_wp2_with fail
      refine ⟨fun h=>absurd (h.symm.trans (show _=false by kernel_rfl)) (by simp),?_⟩
      refine wpMixT_nil ?_
      go_wp2_with fail
      go_meet
      case rel=>
       refine ⟨ge,rfl,(((HZ.out.2.1.set_ 0 _).set_ 1 _).set_ 2 _).set_ 3 _,HZ.out.2.2,?_⟩
       exact HZ.out.1.far4 HZ.out.2.2.1 HZ.out.2.2.2 _ _ _ _
    ·skip
     go_wp2_with fail
     obtain ⟨Z,hZ⟩:∃Z,Z=(Y9.alloc (.cells #[.int .i64 0, .int .i64 0, .int .i64 0, .int .i64 0] 65)).drew:=⟨_,rfl⟩
     have HZ:=hide (show RulS w Z w.heap.size g4 g8 g9 #[.slice (some ⟨bp,op,none⟩) np cp, .slice At nt ct, .slice Ac nc cc] (s21,s22,s23)∧Blk Z Y9.heap.size 65 #[.int .i64 0, .int .i64 0, .int .i64 0, .int .i64 0]∧(Y9.heap.size≠g9∧Y9.heap.size≠g4∧Y9.heap.size≠g8)∧w.heap.size≤Y9.heap.size from by rw [hZ];exact ⟨H9.out.next (((Below.refl _ Y9).alloc (Nat.le_refl _) _).drew) (Nat.le_refl _),Blk.new Y9 _ _,⟨Nat.ne_of_gt H9.out.b9.lt,Nat.ne_of_gt H9.out.b4.lt,Nat.ne_of_gt H9.out.b8.lt⟩,H9.out.below.size⟩)
     rw [←hZ]
     obtain ⟨ge,hge⟩:∃g,g=Y9.heap.size:=⟨_,rfl⟩
     rw [←hge] at HZ⊢
     clear hZ hge
     refine ⟨fun _=>HZ.out.1,?_⟩
     refine wpMixT_one rfl ?_
     go_wp2_with fail
     refine (HK.out.2.2.2.2.1 Z HZ.out.1.below).mono ?_
     rintro e Wq1 ⟨rfl,hWq⟩
     obtain rfl:Z=Wq1:=hWq.symm
     go_wp2_with fail
     refine ⟨fun _=>HZ.out.1,?_⟩
     refine wpMixT_one rfl ?_
     go_wp2_with fail
     refine (HK.out.2.2.2.2.2.1 Z HZ.out.1.below).mono ?_
     rintro e Wq2 ⟨rfl,hWq⟩
     obtain rfl:Z=Wq2:=hWq.symm
     go_wp2_with fail
     refine ⟨fun _=>HZ.out.1,?_⟩
     refine wpMixT_one rfl ?_
     go_wp2_with fail
     refine (HK.out.2.2.2.2.2.2 Z HZ.out.1.below).mono ?_
     rintro e Wq3 ⟨rfl,hWq⟩
     obtain rfl:Z=Wq3:=hWq.symm
     go_wp2_with fail
     refine ⟨fun _=>HZ.out.1,?_⟩
     refine wpMixT_q (v:=(.agg #[.int .i64 ie, .int .i64 je, .int .i64 ig, .int .i64 ih])) rfl (fun _ _ _ h=>h) HZ.out.1 ⟨rfl,fun _ h'=>by simp [go_sem]⟩ ?_
     simp only [List.getElem_toArray,List.getElem_cons_succ,List.getElem_cons_zero,Act.put,List.setIfInBounds_toArray,List.set_cons_succ,List.set_cons_zero]
     refine wpMixT_one rfl ?_
     have f0:=HZ.out.2.1.frozen 0
     have f1:=HZ.out.2.1.frozen 1
     have f2:=HZ.out.2.1.frozen 2
     have f3:=HZ.out.2.1.frozen 3
     have hlz:=HZ.out.2.1.lt
     have k0:=HZ.out.2.1.cell 0
     have k1:=HZ.out.2.1.cell 1
     have k2:=HZ.out.2.1.cell 2
     have k3:=HZ.out.2.1.cell 3
     go_wp2_with fail
     refine ⟨fun h=>absurd (h.symm.trans (show _=false by kernel_rfl)) (by simp),?_⟩
     refine wpMixT_nil ?_
     go_wp2_with fail
     go_meet
     case rel=>
      refine ⟨ge,rfl,(((HZ.out.2.1.set_ 0 _).set_ 1 _).set_ 2 _).set_ 3 _,HZ.out.2.2,?_⟩
      exact HZ.out.1.far4 HZ.out.2.2.1 HZ.out.2.2.2 _ _ _ _
   ·skip
    go_wp2_with fail
    obtain ⟨Z,hZ⟩:∃Z,Z=(Y9.alloc (.cells #[.int .i64 0, .int .i64 0, .int .i64 0, .int .i64 0] 65)).drew:=⟨_,rfl⟩
    have HZ:=hide (show RulS w Z w.heap.size g4 g8 g9 #[.slice (some ⟨bp,op,none⟩) np cp, .slice At nt ct, .slice Ac nc cc] (s21,s22,s23)∧Blk Z Y9.heap.size 65 #[.int .i64 0, .int .i64 0, .int .i64 0, .int .i64 0]∧(Y9.heap.size≠g9∧Y9.heap.size≠g4∧Y9.heap.size≠g8)∧w.heap.size≤Y9.heap.size from by rw [hZ];exact ⟨H9.out.next (((Below.refl _ Y9).alloc (Nat.le_refl _) _).drew) (Nat.le_refl _),Blk.new Y9 _ _,⟨Nat.ne_of_gt H9.out.b9.lt,Nat.ne_of_gt H9.out.b4.lt,Nat.ne_of_gt H9.out.b8.lt⟩,H9.out.below.size⟩)
    rw [←hZ]
    obtain ⟨ge,hge⟩:∃g,g=Y9.heap.size:=⟨_,rfl⟩
    rw [←hge] at HZ⊢
    clear hZ hge
    refine ⟨fun _=>HZ.out.1,?_⟩
    refine wpMixT_one rfl ?_
    go_wp2_with fail
    refine (HK.out.2.2.2.1 Z HZ.out.1.below).mono ?_
    rintro e Wq0 ⟨rfl,hWq⟩
    obtain rfl:Z=Wq0:=hWq.symm
    go_wp2_with fail
    refine ⟨fun _=>HZ.out.1,?_⟩
    refine wpMixT_one rfl ?_
    go_wp2_with fail
    refine (HK.out.2.2.2.2.1 Z HZ.out.1.below).mono ?_
    rintro e Wq1 ⟨rfl,hWq⟩
    obtain rfl:Z=Wq1:=hWq.symm
    go_wp2_with fail
    refine ⟨fun _=>HZ.out.1,?_⟩
    refine wpMixT_one rfl ?_
    go_wp2_with fail
    refine (HK.out.2.2.2.2.2.1 Z HZ.out.1.below).mono ?_
    rintro e Wq2 ⟨rfl,hWq⟩
    obtain rfl:Z=Wq2:=hWq.symm
    go_wp2_with fail
    refine ⟨fun _=>HZ.out.1,?_⟩
    refine wpMixT_one rfl ?_
    go_wp2_with fail
    refine (HK.out.2.2.2.2.2.2 Z HZ.out.1.below).mono ?_
    rintro e Wq3 ⟨rfl,hWq⟩
    obtain rfl:Z=Wq3:=hWq.symm
    go_wp2_with fail
    refine ⟨fun _=>HZ.out.1,?_⟩
    refine wpMixT_q (v:=(.agg #[.int .i64 ie, .int .i64 je, .int .i64 ig, .int .i64 ih])) rfl (fun _ _ _ h=>h) HZ.out.1 ⟨rfl,fun _ h'=>by simp [go_sem]⟩ ?_
    simp only [List.getElem_toArray,List.getElem_cons_succ,List.getElem_cons_zero,Act.put,List.setIfInBounds_toArray,List.set_cons_succ,List.set_cons_zero]
    refine wpMixT_one rfl ?_
    have f0:=HZ.out.2.1.frozen 0
    have f1:=HZ.out.2.1.frozen 1
    have f2:=HZ.out.2.1.frozen 2
    have f3:=HZ.out.2.1.frozen 3
    have hlz:=HZ.out.2.1.lt
    have k0:=HZ.out.2.1.cell 0
    have k1:=HZ.out.2.1.cell 1
    have k2:=HZ.out.2.1.cell 2
    have k3:=HZ.out.2.1.cell 3
    go_wp2_with fail
    refine ⟨fun h=>absurd (h.symm.trans (show _=false by kernel_rfl)) (by simp),?_⟩
    refine wpMixT_nil ?_
    go_wp2_with fail
    go_meet
    case rel=>
     refine ⟨ge,rfl,(((HZ.out.2.1.set_ 0 _).set_ 1 _).set_ 2 _).set_ 3 _,HZ.out.2.2,?_⟩
     exact HZ.out.1.far4 HZ.out.2.2.1 HZ.out.2.2.2 _ _ _ _
  case rest=>
   obtain ⟨ge,rfl,hbg,hgg,hru⟩:=hcut
   obtain ⟨Z0,rfl⟩:∃x,x=wc:=⟨_,rfl⟩
   have HG:=hide hgg
   have HS0:=hide (And.intro hru hbg)
   clear hru hbg hgg
   go_upto_region 12 with fail
   go_loopw [13] (fun jv wr=>∃j:Nat,j≤4∧jv= .int .i64 j∧RulS w wr w.heap.size g4 g8 g9 #[.slice (some ⟨bp,op,none⟩) np cp, .slice At nt ct, .slice Ac nc cc] (sumW (s21,s22,s23) xl j)∧Blk wr ge 65 #[.int .i64 ie, .int .i64 je, .int .i64 ig, .int .i64 ih]) (fun jv _=>4 - (intOf jv).toNat)
   case atStart=>exact ⟨0,by omega,rfl,HS0.out.1,HS0.out.2⟩
   case round=>
    obtain ⟨j,hj,rfl,hru,hbg⟩:=hrel
    obtain ⟨V,rfl⟩:∃x,x=wr:=⟨_,rfl⟩
    by_cases hj4:j < 4
    ·have j1:(j:Int) < 4:=by omega
     obtain ⟨i,x,hi,hx,hip,hpx⟩:=HL.out.1 j hj4
     have qx:=HL.out.2.1 i x hpx
     have hsg:=HL.out.2.2.1 j x hx
     have hcell:∀W,Blk W ge 65 #[.int .i64 ie, .int .i64 je, .int .i64 ig, .int .i64 ih]→W.cell? ⟨ge,j,none⟩=some (.int .i64 i):=fun W hW=>by
      rw [hW.cell j]
      have hc:j=0∨j=1∨j=2∨j=3:=by omega
      have hil:=HL.out.2.2.2.2.2
      rw [hil] at hi
      rcases hc with rfl | rfl | rfl | rfl <;>simp at hi⊢ <;>omega
     obtain ⟨s,hs⟩:∃s,s=sumW (s21,s22,s23) xl j:=⟨_,rfl⟩
     rw [←hs] at hsg hru
     obtain ⟨m,hm⟩:∃m,m=timesP x (-1):=⟨_,rfl⟩
     rw [←hm] at hsg
     obtain ⟨s2,hs2⟩:∃m2,m2=addP s m:=⟨_,rfl⟩
     rw [←hs2] at hsg
     have c1:=times_any x (-1)
     have c2:=plus9_any s m
     rw [←hm] at c1
     rw [←hs2] at c2
     obtain ⟨s1,sa2,sa3⟩:=s
     obtain ⟨m1,m2,m3⟩:=m
     obtain ⟨n1,n2,n3⟩:=s2
     obtain ⟨x1,x2,x3⟩:=x
     simp only at qx
     have ii:(i:Int) < (np:Int):=by omega
     have HV:=hide (And.intro hru (And.intro hbg (And.intro hsg (And.intro c1 (And.intro c2 (And.intro qx hcell))))))
     clear hru hbg hsg c1 c2 qx hs hm hs2 hcell hi hx hip hpx hj
     go_upto_region 14 with fail
     have HD:=hide (show RulS w V.drew w.heap.size g4 g8 g9 #[.slice (some ⟨bp,op,none⟩) np cp, .slice At nt ct, .slice Ac nc cc] (s1,sa2,sa3)∧Blk V.drew ge 65 #[.int .i64 ie, .int .i64 je, .int .i64 ig, .int .i64 ih] from ⟨HV.out.1.call (Below.refl _ _) (Nat.le_refl _),HV.out.2.1⟩)
     refine wp_region_mix (fun W=>RulS w W w.heap.size g4 g8 g9 #[.slice (some ⟨bp,op,none⟩) np cp, .slice At nt ct, .slice Ac nc cc] (s1,sa2,sa3)∧Blk W ge 65 #[.int .i64 ie, .int .i64 je, .int .i64 ig, .int .i64 ih]) [0,1,2,3,4,5,6,7] [0,1,2,3,4,5,6,7,8,9,10] mixed_ok (by kernel_rfl) ?_
     refine wpMix_q (v:=vP (s1,sa2,sa3)) rfl rfl (fun _ _ _ h=>h) HD.out ⟨rfl,fun _ h'=>by obtain ⟨a0,a1,a2⟩:=h'.1.b9.three;simp [go_sem,a0,a1,a2]⟩ ?_
     refine wpMix_q (v:=(.pointer (some ⟨g4,0,none⟩))) rfl rfl (fun _ _ _ h=>h) HD.out ⟨rfl,fun _ h'=>by simp [go_sem]⟩ ?_
     refine wpMix_q (v:=(.slice (some ⟨bp,op,none⟩) np cp)) rfl rfl (fun _ _ _ h=>h) HD.out ⟨rfl,fun _ h'=>by have a0:=h'.1.b4.cell 0;simp at a0;simp [go_sem,a0]⟩ ?_
     refine wpMix_q (v:=(.int .i64 j)) rfl rfl (fun _ _ _ h=>h) HD.out ⟨rfl,fun _ h'=>by simp [go_sem]⟩ ?_
     refine wpMix_q (v:=(.pointer (some ⟨ge,j,none⟩))) rfl rfl (fun _ _ _ h=>h) HD.out ⟨rfl,fun _ h'=>by simp [go_sem,j1]⟩ ?_
     refine wpMix_q (v:=(.int .i64 i)) rfl rfl (fun _ _ _ h=>h) HD.out ⟨rfl,fun _ h'=>by have a0:=HV.out.2.2.2.2.2.2 _ h'.2;simp [go_sem,a0]⟩ ?_
     simp only [List.getElem_toArray,List.getElem_cons_succ,List.getElem_cons_zero,Act.put,List.setIfInBounds_toArray,List.set_cons_succ,List.set_cons_zero]
     refine wpMix_q (v:=(.pointer (some ⟨bp,op+i*3,none⟩))) rfl rfl (fun _ _ _ h=>h) HD.out ⟨rfl,fun _ h'=>by simp [go_sem,ii]⟩ ?_
     refine wpMix_q (v:=vP (x1,x2,x3)) rfl rfl (fun _ _ _ h=>h) HD.out ⟨rfl,fun _ h'=>by obtain ⟨a0,a1,a2,_⟩:=HV.out.2.2.2.2.2.1 _ h'.1.below;simp [go_sem,a0,a1,a2]⟩ ?_
     simp only [List.getElem_toArray,List.getElem_cons_succ,List.getElem_cons_zero,Act.put,List.setIfInBounds_toArray,List.set_cons_succ,List.set_cons_zero]
     refine wpMix_n rfl rfl ?_
     go_wp2_with fail
     refine (HV.out.2.2.2.1 V.drew).mono ?_
     rintro e W1 ⟨rfl,hB⟩
     have hB2:Below V.heap.size V W1:=⟨hB.os,hB.tape,hB.output,hB.size,hB.block⟩
     have H1:=hide (And.intro (HD.out.1.next hB (Nat.le_refl _)) (HD.out.2.below hB HD.out.2.lt))
     clear hB hB2
     go_wp2_with fail
     refine ⟨fun _=>H1.out,?_⟩
     refine wpMix_tail _ [_,_] (by kernel_rfl) rfl ?_
     go_wp2_with (go_at_call 22;refine (HV.out.2.2.2.2.1 W1).mono ?_;rintro e W2 ⟨rfl,hB⟩;have H2:=hide (And.intro (H1.out.1.next hB (Nat.le_refl _)) (H1.out.2.below hB H1.out.2.lt));clear hB;have f0:=H2.out.1.b9.frozen 0;have f1:=H2.out.1.b9.frozen 1;have f2:=H2.out.1.b9.frozen 2;have hl9:=H2.out.1.b9.lt;have k0:=H2.out.1.b9.cell 0;have k1:=H2.out.1.b9.cell 1;have k2:=H2.out.1.b9.cell 2)
     go_roundw
     case rel=>exact ⟨j+1,by omega,by go_num,by rw [HV.out.2.2.1];exact H2.out.1.store (n1,n2,n3),H2.out.2.far3 HG.out.1.1 _ _ _⟩
     case measure=>(simp [intOf];try omega)
    ·obtain rfl:j=4:=by omega
     have hs4:=HL.out.2.2.2.1
     obtain ⟨s,hs⟩:∃s,s=sumW (s21,s22,s23) xl 4:=⟨_,rfl⟩
     rw [←hs] at hs4 hru
     obtain ⟨s1,sa2,sa3⟩:=s
     simp only [Prod.mk.injEq] at hs4
     obtain ⟨hR1,hR2,hR3⟩:=hs4
     have hwr:=HL.out.2.2.2.2.1
     try dsimp only at hwr
     rw [hR1,hR2,hR3] at hwr
     obtain ⟨w1,w2,w3⟩:=hwr
     have HR:=hide (And.intro hR1 (And.intro hR2 hR3))
     have HW:=hide (And.intro w1 (And.intro w2 w3))
     have HV:=hide hru
     clear hR1 hR2 hR3 w1 w2 w3 hru hs hbg hj
     rw [show (((4:Nat):Int))=4 from rfl]
     go_upto_region 15 with fail
     have t1:V.cell? ⟨g9,0,none⟩=some (.int .i64 s1):=HV.out.b9.cell 0
     have t2:V.cell? ⟨g9,1,none⟩=some (.int .i64 sa2):=HV.out.b9.cell 1
     have t3:V.cell? ⟨g9,2,none⟩=some (.int .i64 sa3):=HV.out.b9.cell 2
     have hz9:=HV.out.b9.lt
     have f0:=HV.out.b8.frozen 0
     have f1:=HV.out.b8.frozen 1
     have f2:=HV.out.b8.frozen 2
     have hl8:=HV.out.b8.lt
     have k0:=HV.out.b8.cell 0
     have k1:=HV.out.b8.cell 1
     have k2:=HV.out.b8.cell 2
     have w1:=HW.out.1
     have w2:=HW.out.2.1
     have w3:=HW.out.2.2
     go_wp2
     refine ret_at (v:=vP (R1,R2,R3)) (fun W=>Blk W g8 43 #[.int .i64 R1, .int .i64 R2, .int .i64 R3]) ?_ (fun W hW=> ?_) rfl ⟨rfl,?_⟩
     ·rw [HR.out.1,HR.out.2.1,HR.out.2.2];exact HV.out.b8.set3 _ _ _
     ·obtain ⟨a0,a1,a2⟩:=hW.three
      simp [results,Tryz.results95,go_sem,a0,a1,a2]
     ·exact ((HV.out.below.setCell (p:=⟨g8,0,none⟩) HV.out.le.1 _).setCell (p:=⟨g8,1,none⟩) HV.out.le.1 _).setCell (p:=⟨g8,2,none⟩) HV.out.le.1 _
end Go.Proofs.YtmemofonebphfaaGreat
namespace Go.Proofs.YtmemofonebphfaaGreat
open Go.RowKit Go.Sort
structure LevM (w:World) (B:Nat) (Ap At Ac:Option Addr) (L:Lev):Prop where
 p:Sl encP 3 w B Ap L.p
 t:Sl encN3 3 w B At L.t
 c:Sl encE2 2 w B Ac L.cr
theorem LevM.below {w W:World} {B B':Nat} {Ap At Ac:Option Addr} {L:Lev} (h:LevM w B Ap At Ac L) (hB:Below B w W) (hb:B≤B'):LevM W B' Ap At Ac L:=⟨(h.p.below hB).more hb,(h.t.below hB).more hb,(h.c.below hB).more hb⟩
set_option maxRecDepth 100000 in
set_option maxHeartbeats 32000000 in
theorem rules9_any (Ap At Ac Ao:Option Addr) (cp ct cc oc:Nat) (L:Lev) (co:List Int) (w:World) (hL:LvR L) (hm:LevM w w.heap.size Ap At Ac L) (ho:Sl encZ9 1 w w.heap.size Ao co) (hb:LevB L co):
  Calls Tryz.prog 63 #[hLev Ap L.p.length cp At L.t.length ct Ac L.cr.length cc, .slice Ao co.length oc] w fun e w'=>∃v,e= .returned v∧Own encP 3 43 w' w.heap.size v (L.rules co).length (L.rules co)∧Below w.heap.size w w':=by
 have kr:=fun (W:World) (hW:Below w.heap.size w W) (i:Nat) (e:E2) (he:(edgesE L.t)[i]? =some e)=>by
  have hmem:=List.mem_of_getElem? he
  have hr:=hL.rng (a:=e.1) (b:=e.2) (mem_edgesE.1 hmem).1
  have e1:((e.1.toNat:Nat):Int)=e.1:=by omega
  have e2:((e.2.toNat:Nat):Int)=e.2:=by omega
  have hm2:=hm.below hW hW.size
  have k:=rule9_any Ap At Ac Ao cp ct cc oc L co e.1.toNat e.2.toNat W hL (by rw [e1,e2];exact hmem) hm2.p hm2.t hm2.c ((ho.below hW).more hW.size) hb.p (by have:=hb.t;omega) (by have:=hb.c;omega) hb.o
  rw [e1,e2] at k
  exact k
 have ke:=fun (W:World) (hW:Below w.heap.size w W)=>edges9_any At ct L.t W (hm.below hW hW.size).t (by have:=hb.t;omega)
 obtain ⟨N,hN⟩:∃N,N=(edgesE L.t).length:=⟨_,rfl⟩
 have hRl:(L.rules co).length=N:=by rw [rules_len,hN]
 have hNl:N≤900000:=by have:=edgesE_le L.t;have:=hb.t;omega
 have hat:=fun i e (h:(edgesE L.t)[i]? =some e)=>rules_at (co:=co) h
 obtain ⟨E,hE⟩:∃E,E=edgesE L.t:=⟨_,rfl⟩
 obtain ⟨RL,hRL⟩:∃l,l=L.rules co:=⟨_,rfl⟩
 rw [←hE] at hN
 rw [←hRL] at hRl⊢
 simp only [←hE,←hRL] at kr ke hat
 rw [←hN] at ke
 obtain ⟨np,hnp⟩:∃n,n=L.p.length:=⟨_,rfl⟩
 obtain ⟨nt,hnt⟩:∃n,n=L.t.length:=⟨_,rfl⟩
 obtain ⟨nc,hnc⟩:∃n,n=L.cr.length:=⟨_,rfl⟩
 obtain ⟨no,hno⟩:∃n,n=co.length:=⟨_,rfl⟩
 rw [hRl,←hnp,←hnt,←hnc,←hno]
 simp only [←hnp,←hnt,←hnc,←hno] at kr ke
 obtain ⟨rf,hrf⟩:∃f:E2→Pt,f=fun e=>ruleE L.p L.t L.cr co e.1 e.2:=⟨_,rfl⟩
 have hrf':∀e:E2,ruleE L.p L.t L.cr co e.1 e.2=rf e:=fun e=>by rw [hrf]
 simp only [hrf'] at kr hat
 have HK:=hide (And.intro kr (And.intro ke (And.intro hat (And.intro hN hRl))))
 clear kr ke hat hN hRl hE hRL hnp hnt hnc hno hrf hrf' hL hm ho hb
 go_enter Tryz.func63,Tryz.ntmps63
 go_upto_region 1 with fail
 obtain ⟨g,hg⟩:∃g,g=w.heap.size:=⟨_,rfl⟩
 obtain ⟨X0,hX⟩:∃W,W=w.alloc (.cells #[.slice Ap np cp, .slice At nt ct, .slice Ac nc cc] 108):=⟨_,rfl⟩
 rw [←hX,←hg]
 have hb0:Blk X0 g 108 #[.slice Ap np cp, .slice At nt ct, .slice Ac nc cc]:=by rw [hX,hg];exact Blk.new _ _ _
 have hBX:Below w.heap.size w X0:=by rw [hX];exact (Below.refl _ w).alloc (Nat.le_refl _) _
 have z1:X0.cell? ⟨g,1,none⟩=some (.slice At nt ct):=hb0.cell 1
 have hgl:=hb0.lt
 have H0:=hide (And.intro hb0 hBX)
 clear hb0 hBX hX hg
 go_upto_region 4 with (go_at_call 26;refine (HK.out.2.1 X0 H0.out.2).mono ?_;rintro e X ⟨A1,c1,rfl,hs1,hB1⟩;have H1:=hide (And.intro hs1 (And.intro (H0.out.1.below hB1 H0.out.1.lt) (H0.out.2.trans (hB1.mono H0.out.2.size))));clear hs1 hB1)
 clear z1 hgl
 go_loopw [6,7] (fun ov iv wr=>∃i:Nat,i≤N∧iv= .int .i64 i∧Own encP 3 43 wr X.heap.size ov i (RL.take i)∧Below X.heap.size X wr) (fun _ iv _=>N - (intOf iv).toNat)
 case atStart=>exact ⟨0,by omega,rfl,by rw [List.take_zero];exact Own.nil,Below.refl _ X⟩
 case round=>
  obtain ⟨i,hi,rfl,hO,hB⟩:=hrel
  obtain ⟨V,rfl⟩:∃x,x=wr:=⟨_,rfl⟩
  obtain ⟨Ax,cx,rfl⟩:=hO.form
  by_cases hlt:i < N
  ·have i1:(i:Int) < (N:Int):=by omega
   obtain ⟨e,he⟩:∃e,E[i]? =some e:=⟨_,List.getElem?_eq_getElem (by rw [←HK.out.2.2.2.1];exact hlt)⟩
   obtain ⟨be,oe,hA,hbe,y0,y1⟩:=H1.out.1.e2 he
   subst hA
   have htk:RL.take (i+1)=RL.take i++ [rf e]:=by rw [List.take_add_one,HK.out.2.2.1 i e he];rfl
   have kr:=fun (W:World) (hW:Below w.heap.size w W)=>HK.out.1 W hW i e he
   have y0:=(hB.cell (p:=⟨be,oe+i*2,none⟩) hbe).trans y0
   have y1:=(hB.cell (p:=⟨be,oe+i*2+1,none⟩) hbe).trans y1
   have hbV:be < V.heap.size:=Nat.lt_of_lt_of_le hbe hB.size
   have hbb:=H1.out.2.1.below hB H1.out.2.1.lt
   obtain ⟨z0,z1,z2⟩:=hbb.three
   have hgl:=hbb.lt
   have hzV:=hB.size
   have hBw:=H1.out.2.2.trans (hB.mono H1.out.2.2.size)
   obtain ⟨e1,e2⟩:=e
   obtain ⟨r,hr⟩:∃r,r=rf (e1,e2):=⟨_,rfl⟩
   rw [←hr] at htk kr
   obtain ⟨r1,r2,r3⟩:=r
   simp only at y0 y1 kr
   have HV:=hide (And.intro hO (And.intro hB (And.intro htk (And.intro kr hBw))))
   have HM:=hide (And.intro z0 (And.intro z1 (And.intro z2 (And.intro y0 (And.intro y1 (And.intro hgl hbV))))))
   clear hO hB htk kr hBw hr he hbe hbb z0 z1 z2 y0 y1 hgl hbV
   go_upto_region 6 with fail
   have HSB:=hide (show Below V.heap.size V V.drew from (Below.refl _ V).drew)
   refine wp_region_mix (fun W=>Below V.heap.size V W) [0,1,2,3,4,5,6,7,8,9,10,11,12] [0,1,2,3,4,5,6,7,8,9,10,11,12,13,14,15,16] mixed_ok (by kernel_rfl) ?_
   refine wpMix_q (v:=(.slice Ax i cx)) rfl rfl (fun _ _ _ h=>h) HSB.out ⟨rfl,fun _ _=>by simp [go_sem]⟩ ?_
   refine wpMix_q (v:=(hLev Ap np cp At nt ct Ac nc cc)) rfl rfl (fun _ _ _ h=>h) HSB.out ⟨rfl,fun _ h'=>by have a0:=(h'.cell (p:=⟨g,0,none⟩) HM.out.2.2.2.2.2.1).trans HM.out.1;have a1:=(h'.cell (p:=⟨g,1,none⟩) HM.out.2.2.2.2.2.1).trans HM.out.2.1;have a2:=(h'.cell (p:=⟨g,2,none⟩) HM.out.2.2.2.2.2.1).trans HM.out.2.2.1;simp [go_sem,a0,a1,a2]⟩ ?_
   refine wpMix_q (v:=(.slice Ao no oc)) rfl rfl (fun _ _ _ h=>h) HSB.out ⟨rfl,fun _ _=>by simp [go_sem]⟩ ?_
   refine wpMix_q (v:=(.slice (some ⟨be,oe,none⟩) N c1)) rfl rfl (fun _ _ _ h=>h) HSB.out ⟨rfl,fun _ _=>by simp [go_sem]⟩ ?_
   refine wpMix_q (v:=(.int .i64 i)) rfl rfl (fun _ _ _ h=>h) HSB.out ⟨rfl,fun _ _=>by simp [go_sem]⟩ ?_
   refine wpMix_q (v:=(.pointer (some ⟨be,oe+i*2,none⟩))) rfl rfl (fun _ _ _ h=>h) HSB.out ⟨rfl,fun _ _=>by simp [go_sem,i1]⟩ ?_
   simp only [List.getElem_toArray,List.getElem_cons_succ,List.getElem_cons_zero,Act.put,List.setIfInBounds_toArray,List.set_cons_succ,List.set_cons_zero]
   refine wpMix_q (v:=(.pointer (some ⟨be,oe+i*2,none⟩))) rfl rfl (fun _ _ _ h=>h) HSB.out ⟨rfl,fun _ _=>by simp [go_sem]⟩ ?_
   refine wpMix_q (v:=(.int .i64 e1)) rfl rfl (fun _ _ _ h=>h) HSB.out ⟨rfl,fun _ h'=>by have a0:=(h'.cell (p:=⟨be,oe+i*2,none⟩) HM.out.2.2.2.2.2.2).trans HM.out.2.2.2.1;simp [go_sem,a0]⟩ ?_
   refine wpMix_q (v:=(.slice (some ⟨be,oe,none⟩) N c1)) rfl rfl (fun _ _ _ h=>h) HSB.out ⟨rfl,fun _ _=>by simp [go_sem]⟩ ?_
   refine wpMix_q (v:=(.int .i64 i)) rfl rfl (fun _ _ _ h=>h) HSB.out ⟨rfl,fun _ _=>by simp [go_sem]⟩ ?_
   refine wpMix_q (v:=(.pointer (some ⟨be,oe+i*2,none⟩))) rfl rfl (fun _ _ _ h=>h) HSB.out ⟨rfl,fun _ _=>by simp [go_sem,i1]⟩ ?_
   refine wpMix_q (v:=(.pointer (some ⟨be,oe+i*2+1,none⟩))) rfl rfl (fun _ _ _ h=>h) HSB.out ⟨rfl,fun _ _=>by simp [go_sem]⟩ ?_
   simp only [List.getElem_toArray,List.getElem_cons_succ,List.getElem_cons_zero,Act.put,List.setIfInBounds_toArray,List.set_cons_succ,List.set_cons_zero]
   refine wpMix_q (v:=(.int .i64 e2)) rfl rfl (fun _ _ _ h=>h) HSB.out ⟨rfl,fun _ h'=>by have a0:=(h'.cell (p:=⟨be,oe+i*2+1,none⟩) HM.out.2.2.2.2.2.2).trans HM.out.2.2.2.2.1;simp [go_sem,a0]⟩ ?_
   simp only [List.getElem_toArray,List.getElem_cons_succ,List.getElem_cons_zero,Act.put,List.setIfInBounds_toArray,List.set_cons_succ,List.set_cons_zero]
   refine wpMix_n rfl rfl ?_
   go_wp2_with fail
   refine (HV.out.2.2.2.1 V.drew HV.out.2.2.2.2.drew).mono ?_
   rintro e W1 ⟨rfl,hB1⟩
   have H2:=hide (HSB.out.trans hB1)
   clear hB1
   go_wp2_with fail
   refine ⟨fun _=>H2.out,?_⟩
   have hz1:=H2.out.size
   refine wpMix_n rfl rfl ?_
   go_wp2_with fail
   refine ⟨fun _=>H2.out.alloc hz1 _,?_⟩
   refine wpMix_tail _ [_,_] (by kernel_rfl) rfl ?_
   refine wpList_append1 rfl _ _ _ rfl Tryz.underlying28 infoP rfl (by omega) encP_len encP_one rfl ((HV.out.1.below H2.out (Nat.le_refl _)).alloc _) W1.heap.size 1 ((r1,r2,r3):Pt) rfl (Blk.new _ _ _) (by unfold maxLen;omega) (by omega) (by simp;omega) ?_
   intro g5 cap5 w5 hown5 hg5 hB5 hat5 hgb5 hlt5
   have H5:=hide (And.intro hown5 (((HV.out.2.1.trans (H2.out.mono HV.out.2.1.size)).alloc (by have:=HV.out.2.1.size;omega) _).trans hB5))
   clear hown5 hg5 hB5 hat5 hgb5 hlt5
   go_wp2_with fail
   go_roundw
   case rel=>exact ⟨i+1,by omega,by go_num,by rw [HV.out.2.2.1];exact H5.out.1,H5.out.2⟩
   case measure=>(simp [intOf];try omega)
  ·obtain rfl:i=N:=by omega
   have i1:¬(i:Int) < (i:Int):=by omega
   have ht:RL.take i=RL:=by rw [←HK.out.2.2.2.2];exact List.take_length
   rw [ht] at hO
   have HF:=hide (And.intro hO (H1.out.2.2.trans (hB.mono H1.out.2.2.size)))
   clear hO hB ht
   go_wp2
   go_ret
   exact ⟨_,rfl,HF.out.1.base_le H1.out.2.2.size,HF.out.2⟩
end Go.Proofs.YtmemofonebphfaaGreat
namespace Go.Proofs.YtmemofonebphfaaGreat
open Go.RowKit Go.Sort
structure StpS (w Y:World) (n g2 g4 g6:Nat) (lev:Array Value) (vp vt vc:Value):Prop where
 below:Below n w Y
 b2:Blk Y g2 108 lev
 b4:Blk Y g4 108 #[.slice none 0 0, .slice none 0 0, .slice none 0 0]
 b6:Blk Y g6 108 #[vp,vt,vc]
 le:n≤g2∧n≤g4∧n≤g6
 ne:g2≠g6∧g4≠g6∧g2≠g4
section
variable {w Y W:World} {n g2 g4 g6 B:Nat} {lev:Array Value} {vp vt vc:Value}
theorem StpS.next (h:StpS w Y n g2 g4 g6 lev vp vt vc) (hB:Below B Y W) (hb:Y.heap.size≤B):StpS w W n g2 g4 g6 lev vp vt vc:=by
 have h1:=h.le.1
 have h2:=h.b2.lt
 exact ⟨h.below.trans (hB.mono (by omega)),h.b2.below hB (Nat.lt_of_lt_of_le h.b2.lt hb),h.b4.below hB (Nat.lt_of_lt_of_le h.b4.lt hb),h.b6.below hB (Nat.lt_of_lt_of_le h.b6.lt hb),h.le,h.ne⟩
theorem StpS.grown {row:Option Nat} (h:StpS w Y n g2 g4 g6 lev vp vt vc) (hB:Below n Y W) (hg:Y.grownBy W row) (hr:∀r,row=some r→(r≠g2∧r≠g4)∧r≠g6):StpS w W n g2 g4 g6 lev vp vt vc:=by
 refine ⟨h.below.trans hB,h.b2.grown hg (fun e=>(hr _ e.symm).1.1 rfl),h.b4.grown hg (fun e=>(hr _ e.symm).1.2 rfl),h.b6.grown hg (fun e=>(hr _ e.symm).2 rfl),h.le,h.ne⟩
theorem StpS.setT (h:StpS w Y n g2 g4 g6 lev vp vt vc) (v:Value):StpS w (Y.setCell ⟨g6,1,none⟩ v) n g2 g4 g6 lev vp v vc:=
 ⟨h.below.setCell (p:=⟨g6,1,none⟩) h.le.2.2 _,h.b2.far (p:=⟨g6,1,none⟩) h.ne.1 _,h.b4.far (p:=⟨g6,1,none⟩) h.ne.2.1 _,h.b6.set_ 1 v,h.le,h.ne⟩
theorem StpS.setC (h:StpS w Y n g2 g4 g6 lev vp vt vc) (v:Value):StpS w (Y.setCell ⟨g6,2,none⟩ v) n g2 g4 g6 lev vp vt v:=
 ⟨h.below.setCell (p:=⟨g6,2,none⟩) h.le.2.2 _,h.b2.far (p:=⟨g6,2,none⟩) h.ne.1 _,h.b4.far (p:=⟨g6,2,none⟩) h.ne.2.1 _,h.b6.set_ 2 v,h.le,h.ne⟩
end
theorem Sl.far9 {α:Type} {enc:α→List Value} {k:Nat} {w:World} {B B' g:Nat} {A:Option Addr} {xs:List α} {t:TypeId} {cs:Array Value} (h:Sl enc k w B A xs) (hb:Blk w g t cs) (hne:∀x∈xs,∀u∈enc x,∀off:Nat,cs[off]? ≠some u) (i:Nat) (v:Value) (hB:B≤B'):Sl enc k (w.setCell ⟨g,i,none⟩ v) B' A xs:=by
 rcases h with h | ⟨b,o,ha,hlt,hc⟩
 ·exact .inl h
 ·refine .inr ⟨b,o,ha,by omega,fun j x hx q u hu=> ?_⟩
  have h0:=hc j x hx q u hu
  by_cases e:b=g
  ·subst e
   rw [hb.cell] at h0
   exact absurd h0 (hne x (List.mem_of_getElem? hx) u (List.mem_of_getElem? hu) _)
  ·have hbk:=Below.heap_setCell w ⟨g,i,none⟩ v b e
   unfold World.cell? at h0⊢
   rw [hbk]
   exact h0
theorem no_int3 {A B C:Option Addr} {a b c a' b' c':Nat} (x:E2):∀u∈encE2 x,∀off:Nat,#[Value.slice A a a',Value.slice B b b',Value.slice C c c'][off]? ≠some u:=fun u hu off=>by
 have hc:off=0∨off=1∨off=2∨3≤off:=by omega
 simp only [encE2,List.mem_cons,List.not_mem_nil,or_false] at hu
 rcases hc with rfl | rfl | rfl | h3
 ·rcases hu with rfl | rfl <;>simp
 ·rcases hu with rfl | rfl <;>simp
 ·rcases hu with rfl | rfl <;>simp
 ·rw [Array.getElem?_eq_none (by simpa using h3)];simp
theorem Own.far9 {α:Type} {enc:α→List Value} {k:Nat} {e t:TypeId} {w:World} {base n g:Nat} {v:Value} {xs:List α} {cs:Array Value} (h:Own enc k e w base v n xs) (hb:Blk w g t cs) (hte:e≠t) (x y z:Value):Own enc k e (((w.setCell ⟨g,0,none⟩ x).setCell ⟨g,1,none⟩ y).setCell ⟨g,2,none⟩ z) base v n xs:=
 h.kept (((grown_set9 w g 0 x).trans (grown_set9 _ g 1 y)).trans (grown_set9 _ g 2 z)) (.inr (blk_own_ne9 hb h hte).symm)
theorem halved_take {L:Lev} {i:Nat} {e:E2} (h:L.cr[i]? =some e):((L.cr.take (i+1)).flatMap fun e=> [(e.1,midE L.t L.p.length e.1 e.2),(e.2,midE L.t L.p.length e.1 e.2)])=((L.cr.take i).flatMap fun e=> [(e.1,midE L.t L.p.length e.1 e.2),(e.2,midE L.t L.p.length e.1 e.2)])++ [(e.1,midE L.t L.p.length e.1 e.2),(e.2,midE L.t L.p.length e.1 e.2)]:=by
 rw [List.take_add_one,h,Option.toList_some,List.flatMap_append,List.flatMap_singleton]
theorem halved_len (L:Lev):∀i,((L.cr.take i).flatMap fun e=> [(e.1,midE L.t L.p.length e.1 e.2),(e.2,midE L.t L.p.length e.1 e.2)]).length≤2*i
 | 0=>by simp
 | i+1=>by
  cases h:L.cr[i]? with
  | none=>
   have:L.cr.take (i+1)=L.cr.take i:=by rw [List.take_add_one,h];simp
   rw [this]
   have:=halved_len L i
   omega
  | some e=>
   rw [halved_take h,List.length_append]
   have:=halved_len L i
   simp only [List.length_cons,List.length_nil]
   omega
set_option maxRecDepth 100000 in
set_option maxHeartbeats 64000000 in
theorem step9_any (Ap At Ac Aa:Option Addr) (cp ct cc ca:Nat) (L:Lev) (added:List Pt) (co:List Int) (w:World) (hL:LvR L) (hm:LevM w w.heap.size Ap At Ac L) (ha:Sl encP 3 w w.heap.size Aa added) (hal:added.length=(edgesE L.t).length) (hb:LevB L co):
  Calls Tryz.prog 65 #[hLev Ap L.p.length cp At L.t.length ct Ac L.cr.length cc, .slice Aa added.length ca] w fun e w'=>∃Ap' cp' At' ct' Ac' cc',e= .returned (hLev Ap' (L.step added).p.length cp' At' (L.step added).t.length ct' Ac' (L.step added).cr.length cc')∧Own encP 3 43 w' w.heap.size (.slice Ap' (L.step added).p.length cp') (L.step added).p.length (L.step added).p∧Sl encN3 3 w' w'.heap.size At' (L.step added).t∧Sl encE2 2 w' w'.heap.size Ac' (L.step added).cr∧Below w.heap.size w w':=by
 obtain ⟨np,hnp⟩:∃n,n=L.p.length:=⟨_,rfl⟩
 obtain ⟨nt,hnt⟩:∃n,n=L.t.length:=⟨_,rfl⟩
 obtain ⟨nc,hnc⟩:∃n,n=L.cr.length:=⟨_,rfl⟩
 obtain ⟨N,hN⟩:∃N,N=(edgesE L.t).length:=⟨_,rfl⟩
 have hpl:np≤1000000:=by rw [hnp];exact hb.p
 have htl:nt≤300000:=by rw [hnt];exact hb.t
 have hcl:nc≤400000:=by rw [hnc];exact hb.c
 have hNl:N≤900000:=by have:=edgesE_le L.t;omega
 have ke:=fun (W:World) (hW:Below w.heap.size w W)=>edges9_any At ct L.t W (hm.below hW hW.size).t (by omega)
 have hfz:∀i:Int,0≤i→i < L.p.length→fits i:=fun i h1 h2=>by unfold fits;omega
 have kf:=fun (A:Option Addr) (c:Nat) (a b:Int) (W:World) (hs:Sl encE2 2 W W.heap.size A (edgesE L.t)) (hd:(a,b)∈dirE L.t)=>find_any A c (edgesE L.t) a b W hs (by omega) (fun e he=>by
  have:=hL.rng (a:=e.1) (b:=e.2) (mem_edgesE.1 he).1
  exact ⟨hfz _ this.1.1 this.1.2,hfz _ this.2.1 this.2.2⟩) (nrm1_fits (e:=(a,b)) ⟨hfz _ (hL.rng hd).1.1 (hL.rng hd).1.2,hfz _ (hL.rng hd).2.1 (hL.rng hd).2.2⟩) (edgesE_sorted L.t) (edgesE_nodup hL.cls.nodup)
 have kp:=fun (a b:Int) (hd:(a,b)∈dirE L.t)=>posE_mem (hL.cls.nrm hd)
 have kset:=fun (A:Option Addr) (c:Nat) (l:List E2) (W:World) (hs:Sl encE2 2 W W.heap.size A l) (hl:l.length≤1000000) (hf:∀e∈l,fits2 e)=>set_any A c l W hs hl hf
 have hin:∀(i:Nat) (x:Pt),L.t[i]? =some x→(x.1,x.2.1)∈dirE L.t∧(x.2.1,x.2.2)∈dirE L.t∧(x.2.2,x.1)∈dirE L.t:=fun i x hx=>by
  have:=List.mem_of_getElem? hx
  exact ⟨mem_dirE.2 ⟨x,this,by simp [de3]⟩,mem_dirE.2 ⟨x,this,by simp [de3]⟩,mem_dirE.2 ⟨x,this,by simp [de3]⟩⟩
 have hcd:∀(i:Nat) (e:E2),L.cr[i]? =some e→(e.1,e.2)∈dirE L.t:=fun i e he=>(hL.crd (a:=e.1) (b:=e.2) (List.mem_of_getElem? he)).1
 have hst:(L.step added).p=L.p++added∧(L.step added).t=stepT (midE L.t L.p.length) L.t∧(L.step added).cr=setE L.halved:=⟨rfl,rfl,rfl⟩
 have hf2:∀e∈L.halved,fits2 e:=fun e he=>by
  obtain ⟨f,hf,he⟩:=List.mem_flatMap.1 he
  have hd:=(hL.crd (a:=f.1) (b:=f.2) hf).1
  have hr:=hL.rng hd
  obtain ⟨k,hk1,hk2⟩:=kp _ _ hd
  have hkl:=(List.getElem?_eq_some_iff.1 hk2).1
  have hmid:midE L.t L.p.length f.1 f.2=L.p.length+k:=by unfold midE;rw [hk1]
  rw [hmid,List.mem_cons,List.mem_singleton] at he
  rcases he with rfl | rfl
  ·constructor <;>unfold fits <;>dsimp only <;>omega
  ·constructor <;>unfold fits <;>dsimp only <;>omega
 have hhl:L.halved.length≤2*nc:=by
  have:=halved_len L nc
  rw [hnc,List.take_length] at this
  rw [hnc]
  exact this
 have hpos:∀(a b:Int) (k:Nat),posE (edgesE L.t) a b=k→midE L.t L.p.length a b=L.p.length+k:=fun a b k h=>by unfold midE;rw [h]
 rw [hst.1,hst.2.1,hst.2.2,List.length_append,hal,stepT_len,←hnp,←hnt,←hnc,←hN]
 obtain ⟨E,hE⟩:∃E,E=edgesE L.t:=⟨_,rfl⟩
 rw [←hE] at hN
 rw [←hE,←hN] at hal
 simp only [←hE] at ke kf kp hpos
 rw [←hN] at kf
 simp only [←hN,←hnt] at ke
 rw [←hnp] at hpos
 obtain ⟨md,hmd⟩:∃m,m=midE L.t np:=⟨_,rfl⟩
 have hmd':midE L.t L.p.length=md:=by rw [hmd,hnp]
 rw [←hmd] at hpos
 rw [←hmd]
 have hht:∀(i:Nat) (e:E2),L.cr[i]? =some e→((L.cr.take (i+1)).flatMap fun e=> [(e.1,md e.1 e.2),(e.2,md e.1 e.2)])=((L.cr.take i).flatMap fun e=> [(e.1,md e.1 e.2),(e.2,md e.1 e.2)])++ [(e.1,md e.1 e.2),(e.2,md e.1 e.2)]:=fun i e he=>by rw [←hmd'];exact halved_take he
 have hhe:((L.cr.take nc).flatMap fun e=> [(e.1,md e.1 e.2),(e.2,md e.1 e.2)])=L.halved:=by rw [hnc,List.take_length,←hmd'];rfl
 obtain ⟨SL,hSL⟩:∃s,s=setE L.halved:=⟨_,rfl⟩
 have hSl:SL.length≤2*nc:=by
  rw [hSL,setE_len]
  have:=dedup_length (L.halved.map nrm1)
  rw [List.length_map] at this
  omega
 rw [←hSL]
 have HK:=hide (And.intro ke (And.intro kf (And.intro kp (And.intro kset (And.intro hin (And.intro hcd (And.intro hf2 (And.intro hpos (And.intro hht (And.intro hhe (And.intro hhl (And.intro hSL hE))))))))))))
 have HM:=hide (And.intro hm (And.intro ha (And.intro hal (And.intro hnp (And.intro hnt (And.intro hnc hN))))))
 have HSl:=hide hSl
 clear ke kf kp kset hin hcd hf2 hpos hht hhe hhl hSL hSl hE hm ha hal hnp hnt hnc hN hmd hmd' hst hL hfz hb
 go_enter Tryz.func65,Tryz.ntmps65
 go_upto_region 1 with fail
 obtain ⟨g2,hg2⟩:∃g,g=w.heap.size:=⟨_,rfl⟩
 obtain ⟨g4,hg4⟩:∃g,g=w.heap.size+1:=⟨_,rfl⟩
 obtain ⟨X0,hX⟩:∃W,W=(w.alloc (.cells #[.slice Ap np cp, .slice At nt ct, .slice Ac nc cc] 108)).alloc (.cells #[.slice none 0 0, .slice none 0 0, .slice none 0 0] 108):=⟨_,rfl⟩
 rw [←hX,←hg4,←hg2]
 have hb2:Blk X0 g2 108 #[.slice Ap np cp, .slice At nt ct, .slice Ac nc cc]:=by rw [hX,hg2];exact (Blk.new _ _ _).alloc _
 have hb4:Blk X0 g4 108 #[.slice none 0 0, .slice none 0 0, .slice none 0 0]:=by rw [hX,hg4];exact Blk.new' _ _ _ _ (by simp)
 have hBX:Below w.heap.size w X0:=by rw [hX];exact ((Below.refl _ w).alloc (Nat.le_refl _) _).alloc (by simp) _
 have z1:X0.cell? ⟨g2,1,none⟩=some (.slice At nt ct):=hb2.cell 1
 have hgl:=hb2.lt
 have hgs:w.heap.size≤g2∧w.heap.size≤g4∧g2≠g4:=by omega
 have H0:=hide (And.intro hb2 (And.intro hb4 (And.intro hBX hgs)))
 clear hb2 hb4 hBX hX hg2 hg4 hgs
 go_upto_region 2 with (go_at_call 26;refine (HK.out.1 X0 H0.out.2.2.1).mono ?_;rintro e X ⟨A1,ec,rfl,hs1,hB1⟩;have H1:=hide (And.intro hs1 (And.intro (H0.out.1.below hB1 H0.out.1.lt) (And.intro (H0.out.2.1.below hB1 H0.out.2.1.lt) (H0.out.2.2.1.trans (hB1.mono H0.out.2.2.1.size)))));clear hs1 hB1)
 clear z1 hgl
 have z0:X.cell? ⟨g2,0,none⟩=some (.slice Ap np cp):=H1.out.2.1.cell 0
 have hgl:=H1.out.2.1.lt
 go_upto_region 3 with (first
  | (at_builtin;refine wpList_appendS rfl _ _ _ rfl Tryz.underlying28 infoP rfl (by omega) encP_len encP_one rfl H5.out.1 Aa ca w.heap.size added (by rw [HM.out.2.2.1];rfl) (HM.out.2.1.below (H1.out.2.2.2.trans ((H5.out.2).mono H1.out.2.2.2.size))) (by rw [HM.out.2.2.1];unfold maxLen;omega) (by rw [HM.out.2.2.1];omega) (H5.out.2.size) ?_;intro v6 w6 ho6 hg6 hB6 hat6;rw [HM.out.2.2.1] at ho6;obtain ⟨A6,c6,rfl⟩:=ho6.form;have H6:=hide (And.intro ho6 (H5.out.2.trans hB6));clear ho6 hg6 hB6 hat6)
  | (at_builtin;refine wpList_appendS rfl _ _ _ rfl Tryz.underlying28 infoP rfl (by omega) encP_len encP_one rfl (own_empty9 (w:=X) rfl (Nat.le_refl _)) Ap cp w.heap.size L.p (by rw [←HM.out.2.2.2.1];rfl) ((HM.out.1.p.below H1.out.2.2.2).below (Below.mono ((Below.refl X.heap.size X).alloc (Nat.le_refl _) _) H1.out.2.2.2.size)) (by rw [←HM.out.2.2.2.1];unfold maxLen;omega) (by rw [←HM.out.2.2.2.1];omega) (by simp) ?_;intro v5 w5 ho5 hg5 hB5 hat5;rw [←HM.out.2.2.2.1,List.nil_append,Nat.zero_add] at ho5;obtain ⟨A5,c5,rfl⟩:=ho5.form;have H5:=hide (And.intro ho5 (((Below.refl X.heap.size X).alloc (Nat.le_refl _) _).trans hB5));clear ho5 hg5 hB5 hat5))
 clear z0 hgl
 obtain ⟨g6,hg6⟩:∃g,g=w6.heap.size:=⟨_,rfl⟩
 obtain ⟨Y,hY⟩:∃W,W=w6.alloc (.cells #[.slice A6 (np+N) c6, .slice none 0 0, .slice none 0 0] 108):=⟨_,rfl⟩
 have hBY:Below X.heap.size X Y:=by rw [hY];exact H6.out.2.alloc H6.out.2.size _
 have hst:StpS w Y w.heap.size g2 g4 g6 #[.slice Ap np cp, .slice At nt ct, .slice Ac nc cc] (.slice A6 (np+N) c6) (.slice none 0 0) (.slice none 0 0):=by
  have h1:=H1.out.2.1.lt
  have h2:=H1.out.2.2.1.lt
  have h3:=H6.out.2.size
  have h4:=H0.out.2.2.2
  refine ⟨H1.out.2.2.2.trans (hBY.mono H1.out.2.2.2.size),H1.out.2.1.below hBY H1.out.2.1.lt,H1.out.2.2.1.below hBY H1.out.2.2.1.lt,?_,?_,?_⟩
  ·rw [hY,hg6];exact Blk.new _ _ _
  ·have:=H1.out.2.2.2.size;omega
  ·omega
 have hop:Own encP 3 43 Y X.heap.size (.slice A6 (np+N) c6) (np+N) (L.p++added):=by rw [hY];exact H6.out.1.alloc _
 rw [←hY,←hg6]
 obtain ⟨PL,hPL⟩:∃l,l=L.p++added:=⟨_,rfl⟩
 rw [←hPL] at hop
 have HG6:=hide (show X.heap.size≤g6 from by have:=H6.out.2.size;omega)
 have HY:=hide (And.intro hst (And.intro hop (And.intro hBY hPL)))
 have z0:Y.cell? ⟨g2,0,none⟩=some (.slice Ap np cp):=hst.b2.cell 0
 have hgl:=hst.b2.lt
 clear hst hop hBY hPL hY hg6
 go_upto_region 5 with fail
 clear z0 hgl
 go_loopw [8] (fun iv wr=>∃(i:Nat) (vt:Value),i≤nt∧iv= .int .i64 i∧StpS w wr w.heap.size g2 g4 g6 #[.slice Ap np cp, .slice At nt ct, .slice Ac nc cc] (.slice A6 (np+N) c6) vt (.slice none 0 0)∧Own encN3 3 35 wr Y.heap.size vt (4*i) (stepT md (L.t.take i))∧Own encP 3 43 wr X.heap.size (.slice A6 (np+N) c6) (np+N) PL∧Below X.heap.size X wr∧Y.heap.size≤wr.heap.size) (fun iv _=>nt - (intOf iv).toNat)
 case atStart=>exact ⟨0,_,by omega,rfl,HY.out.1,by rw [List.take_zero];exact Own.nil,HY.out.2.1,HY.out.2.2.1,Nat.le_refl _⟩
 case round=>
  obtain ⟨i,vt,hi,rfl,hst,hot,hop,hBX,hzY⟩:=hrel
  obtain ⟨V,rfl⟩:∃x,x=wr:=⟨_,rfl⟩
  obtain ⟨A7,c7,rfl⟩:=hot.form
  have z1:V.cell? ⟨g2,1,none⟩=some (.slice At nt ct):=hst.b2.cell 1
  have hg2V:=hst.b2.lt
  by_cases hlt:i < nt
  ·have i1:(i:Int) < (nt:Int):=by omega
   obtain ⟨x,hx⟩:∃x,L.t[i]? =some x:=⟨_,List.getElem?_eq_getElem (by rw [←HM.out.2.2.2.2.1];exact hlt)⟩
   obtain ⟨bb,o,hA,hbb,c0,c1,c2⟩:=HM.out.1.t.n3 hx
   subst hA
   obtain ⟨d1,d2,d3⟩:=HK.out.2.2.2.2.1 i x hx
   have htk:=stepT_take (m:=md) hx
   obtain ⟨x1,x2,x3⟩:=x
   simp only at c0 c1 c2 d1 d2 d3
   have c0:=(hst.below.cell (p:=⟨bb,o+i*3,none⟩) hbb).trans c0
   have c1:=(hst.below.cell (p:=⟨bb,o+i*3+1,none⟩) hbb).trans c1
   have c2:=(hst.below.cell (p:=⟨bb,o+i*3+2,none⟩) hbb).trans c2
   have hbV:bb < V.heap.size:=Nat.lt_of_lt_of_le hbb hst.below.size
   have kp1:=HK.out.2.2.1 _ _ d1
   have kp2:=HK.out.2.2.1 _ _ d2
   have kp3:=HK.out.2.2.1 _ _ d3
   obtain ⟨k1,hk1,hk1'⟩:=kp1
   obtain ⟨k2,hk2,hk2'⟩:=kp2
   obtain ⟨k3,hk3,hk3'⟩:=kp3
   have hEN:E.length=N:=HM.out.2.2.2.2.2.2.symm
   have b1:k1 < N:=by rw [←hEN];exact (List.getElem?_eq_some_iff.1 hk1').1
   have b2:k2 < N:=by rw [←hEN];exact (List.getElem?_eq_some_iff.1 hk2').1
   have b3:k3 < N:=by rw [←hEN];exact (List.getElem?_eq_some_iff.1 hk3').1
   have hfo:four md (x1,x2,x3)= [(x1,(np:Int)+(k1:Int),(np:Int)+(k3:Int)),((np:Int)+(k1:Int),x2,(np:Int)+(k2:Int)),((np:Int)+(k3:Int),(np:Int)+(k2:Int),x3),((np:Int)+(k1:Int),(np:Int)+(k2:Int),(np:Int)+(k3:Int))]:=by
    unfold four
    dsimp only
    rw [HK.out.2.2.2.2.2.2.2.1 _ _ _ hk1,HK.out.2.2.2.2.2.2.2.1 _ _ _ hk2,HK.out.2.2.2.2.2.2.2.1 _ _ _ hk3]
   rw [hfo] at htk
   have f1:=fun (W:World) (hW:Below X.heap.size X W)=>HK.out.2.1 A1 ec x1 x2 W ((H1.out.1.below hW).more hW.size) d1
   have f2:=fun (W:World) (hW:Below X.heap.size X W)=>HK.out.2.1 A1 ec x2 x3 W ((H1.out.1.below hW).more hW.size) d2
   have f3:=fun (W:World) (hW:Below X.heap.size X W)=>HK.out.2.1 A1 ec x3 x1 W ((H1.out.1.below hW).more hW.size) d3
   rw [hk1] at f1
   rw [hk2] at f2
   rw [hk3] at f3
   have HV:=hide (And.intro hst (And.intro hot (And.intro hop (And.intro hBX (And.intro htk (And.intro f1 (And.intro f2 f3)))))))
   clear hst hot hop hBX htk f1 f2 f3 hx d1 d2 d3 hk1 hk2 hk3 hk1' hk2' hk3' hEN hfo hbb
   go_upto_region 11 with (go_at_call 93;refine (HV.out.2.2.2.2.2.1 V HV.out.2.2.2.1).mono ?_;rintro e W1 ⟨rfl,hB⟩;have J1:=hide (And.intro (HV.out.1.next hB (Nat.le_refl _)) (And.intro (HV.out.2.1.below hB (Nat.le_refl _)) (And.intro (HV.out.2.2.1.below hB (Nat.le_refl _)) (And.intro (HV.out.2.2.2.1.trans (hB.mono HV.out.2.2.2.1.size)) (Nat.le_trans hzY hB.size)))));clear hB)
   clear z1 c0 c1 c2 hg2V hbV
   go_upto_region 12 with (go_at_call 93;refine (HV.out.2.2.2.2.2.2.1 W1 J1.out.2.2.2.1).mono ?_;rintro e W2 ⟨rfl,hB⟩;have J2:=hide (And.intro (J1.out.1.next hB (Nat.le_refl _)) (And.intro (J1.out.2.1.below hB (Nat.le_refl _)) (And.intro (J1.out.2.2.1.below hB (Nat.le_refl _)) (And.intro (J1.out.2.2.2.1.trans (hB.mono J1.out.2.2.2.1.size)) (Nat.le_trans J1.out.2.2.2.2 hB.size)))));clear hB)
   go_upto_region 13 with (go_at_call 93;refine (HV.out.2.2.2.2.2.2.2 W2 J2.out.2.2.2.1).mono ?_;rintro e W3 ⟨rfl,hB⟩;have J3:=hide (And.intro (J2.out.1.next hB (Nat.le_refl _)) (And.intro (J2.out.2.1.below hB (Nat.le_refl _)) (And.intro (J2.out.2.2.1.below hB (Nat.le_refl _)) (And.intro (J2.out.2.2.2.1.trans (hB.mono J2.out.2.2.2.1.size)) (Nat.le_trans J2.out.2.2.2.2 hB.size)))));clear hB)
   have z6:W3.cell? ⟨g6,1,none⟩=some (.slice A7 (4*i) c7):=J3.out.1.b6.cell 1
   have hg6V:=J3.out.1.b6.lt
   have hz3:=J3.out.2.2.2.2
   obtain ⟨ys,hys⟩:∃ys:List Pt,ys= [(x1,(np:Int)+(k1:Int),(np:Int)+(k3:Int)),((np:Int)+(k1:Int),x2,(np:Int)+(k2:Int)),((np:Int)+(k3:Int),(np:Int)+(k2:Int),x3),((np:Int)+(k1:Int),(np:Int)+(k2:Int),(np:Int)+(k3:Int))]:=⟨_,rfl⟩
   have hyl:ys.length=4:=by rw [hys];rfl
   have hya:(ys.flatMap encN3).toArray=#[.int .i64 x1, .int .i64 ((np:Int)+(k1:Int)), .int .i64 ((np:Int)+(k3:Int)), .int .i64 ((np:Int)+(k1:Int)), .int .i64 x2, .int .i64 ((np:Int)+(k2:Int)), .int .i64 ((np:Int)+(k3:Int)), .int .i64 ((np:Int)+(k2:Int)), .int .i64 x3, .int .i64 ((np:Int)+(k1:Int)), .int .i64 ((np:Int)+(k2:Int)), .int .i64 ((np:Int)+(k3:Int))]:=by rw [hys];rfl
   have hol:=own_lits encN3_len 35 W3 ys (Nat.le_refl _) (by rw [hyl];omega)
   rw [hya] at hol
   have HW:=hide (And.intro (hol.sl encN3_len (Nat.le_refl _)) (And.intro hyl (show stepT md (L.t.take (i+1))=stepT md (L.t.take i)++ys from by rw [HV.out.2.2.2.2.1,hys])))
   clear hol hya hys hyl
   go_wp2_with (at_builtin;refine wpList_appendS rfl _ _ _ rfl Tryz.underlying22 infoN3 rfl (by omega) encN3_len encN3_one rfl (J3.out.2.1.alloc _) (some ⟨W3.heap.size,0,none⟩) 4 _ ys (by rw [HW.out.2.1];rfl) HW.out.1 (by rw [HW.out.2.1];unfold maxLen;omega) (by rw [HW.out.2.1];omega) (by simp;omega) ?_;intro v5 w5 ho5 hg5 hB5 hat5;rw [HW.out.2.1,←HW.out.2.2,show 4*i+4=4*(i+1) by omega] at ho5;obtain ⟨Av,cv,rfl⟩:=ho5.form;have hst5:=(J3.out.1.next ((Below.refl W3.heap.size W3).alloc (Nat.le_refl _) (.cells #[.int .i64 x1, .int .i64 ((np:Int)+(k1:Int)), .int .i64 ((np:Int)+(k3:Int)), .int .i64 ((np:Int)+(k1:Int)), .int .i64 x2, .int .i64 ((np:Int)+(k2:Int)), .int .i64 ((np:Int)+(k3:Int)), .int .i64 ((np:Int)+(k2:Int)), .int .i64 x3, .int .i64 ((np:Int)+(k1:Int)), .int .i64 ((np:Int)+(k2:Int)), .int .i64 ((np:Int)+(k3:Int))] 35)) (Nat.le_refl _)).grown (hB5.mono (HY.out.1.below.size)) hg5 (fun r hr=>by have h1:=(J3.out.2.1.blk r hr).1;have h2:=HY.out.1.b2.lt;have h3:=HY.out.1.b4.lt;have h4:=HY.out.1.b6.lt;omega);have hop5:=(J3.out.2.2.1.alloc (.cells #[.int .i64 x1, .int .i64 ((np:Int)+(k1:Int)), .int .i64 ((np:Int)+(k3:Int)), .int .i64 ((np:Int)+(k1:Int)), .int .i64 x2, .int .i64 ((np:Int)+(k2:Int)), .int .i64 ((np:Int)+(k3:Int)), .int .i64 ((np:Int)+(k2:Int)), .int .i64 x3, .int .i64 ((np:Int)+(k1:Int)), .int .i64 ((np:Int)+(k2:Int)), .int .i64 ((np:Int)+(k3:Int))] 35)).step hg5 (own_rowT ((J3.out.2.1.base_le HY.out.2.2.1.size).alloc _) (show (35:TypeId)≠43 by decide));have hB9:Below X.heap.size X w5:=(J3.out.2.2.2.1.alloc J3.out.2.2.2.1.size (.cells #[.int .i64 x1, .int .i64 ((np:Int)+(k1:Int)), .int .i64 ((np:Int)+(k3:Int)), .int .i64 ((np:Int)+(k1:Int)), .int .i64 x2, .int .i64 ((np:Int)+(k2:Int)), .int .i64 ((np:Int)+(k3:Int)), .int .i64 ((np:Int)+(k2:Int)), .int .i64 x3, .int .i64 ((np:Int)+(k1:Int)), .int .i64 ((np:Int)+(k2:Int)), .int .i64 ((np:Int)+(k3:Int))] 35)).trans (hB5.mono HY.out.2.2.1.size);have hz5:Y.heap.size≤w5.heap.size:=Nat.le_trans (Nat.le_trans hz3 (by simp)) hB5.size;have f61:=hst5.b6.frozen 1;have f6l:=hst5.b6.lt;have f6c:=hst5.b6.cell 1;have H5:=hide (And.intro hst5 (And.intro ho5 (And.intro hop5 (And.intro hB9 hz5))));clear ho5 hg5 hB5 hat5 hst5 hop5 hB9 hz5)
   go_roundw
   case rel=>
    have h5:=H5.out.1
    exact ⟨i+1,_,by omega,by go_num,h5.setT _,H5.out.2.1.kept (grown_set9 w5 g6 1 _) (.inr (blk_own_ne9 h5.b6 H5.out.2.1 (by decide)).symm),H5.out.2.2.1.kept (grown_set9 w5 g6 1 _) (.inr (blk_own_ne9 h5.b6 H5.out.2.2.1 (by decide)).symm),H5.out.2.2.2.1.setCell (p:=⟨g6,1,none⟩) (by have:=HG6.out;omega) _,by simp;exact H5.out.2.2.2.2⟩
   case measure=>(simp [intOf];try omega)
  ·obtain rfl:i=nt:=by omega
   have i1:¬(i:Int) < (i:Int):=by omega
   have ht:stepT md (L.t.take i)=stepT md L.t:=by rw [HM.out.2.2.2.2.1,List.take_length]
   rw [ht] at hot
   have z2:V.cell? ⟨g2,2,none⟩=some (.slice Ac nc cc):=hst.b2.cell 2
   have HV:=hide (And.intro hst (And.intro hot (And.intro hop hBX)))
   clear hst hot hop hBX ht z2
   go_upto_region 16 with fail
   clear z1 hg2V
   go_loopw [15,16] (fun cv iv wz=>∃(k m:Nat),k≤nc∧iv= .int .i64 k∧Own encE2 2 56 wz V.heap.size cv m ((L.cr.take k).flatMap fun e=> [(e.1,md e.1 e.2),(e.2,md e.1 e.2)])∧m≤2*k∧Below V.heap.size V wz) (fun _ iv _=>nc - (intOf iv).toNat)
   case atStart=>exact ⟨0,0,by omega,rfl,by rw [List.take_zero];exact Own.nil,by omega,Below.refl _ V⟩
   case round=>
    obtain ⟨k,m,hk,rfl,hoc,hm,hB⟩:=hrel
    obtain ⟨U,rfl⟩:∃x,x=wr:=⟨_,rfl⟩
    obtain ⟨A8,c8,rfl⟩:=hoc.form
    have hst:=HV.out.1.next hB (Nat.le_refl _)
    have z2:U.cell? ⟨g2,2,none⟩=some (.slice Ac nc cc):=hst.b2.cell 2
    have hg2U:=hst.b2.lt
    have hzU:=hB.size
    by_cases hkn:k < nc
    ·have j1:(k:Int) < (nc:Int):=by omega
     obtain ⟨x,hx⟩:∃x,L.cr[k]? =some x:=⟨_,List.getElem?_eq_getElem (by rw [←HM.out.2.2.2.2.2.1];exact hkn)⟩
     obtain ⟨bb,o,hA,hbb,c0,c1⟩:=HM.out.1.c.e2 hx
     subst hA
     have hd:=HK.out.2.2.2.2.2.1 k x hx
     have htk:=HK.out.2.2.2.2.2.2.2.2.1 k x hx
     obtain ⟨x1,x2⟩:=x
     simp only at c0 c1 hd
     have c0:=(hst.below.cell (p:=⟨bb,o+k*2,none⟩) hbb).trans c0
     have c1:=(hst.below.cell (p:=⟨bb,o+k*2+1,none⟩) hbb).trans c1
     have hbU:bb < U.heap.size:=Nat.lt_of_lt_of_le hbb hst.below.size
     obtain ⟨k1,hk1,hk1'⟩:=HK.out.2.2.1 _ _ hd
     have b1:k1 < N:=by rw [HM.out.2.2.2.2.2.2];exact (List.getElem?_eq_some_iff.1 hk1').1
     have hBX:Below X.heap.size X U:=HV.out.2.2.2.trans (hB.mono HV.out.2.2.2.size)
     have f1:=HK.out.2.1 A1 ec x1 x2 U ((H1.out.1.below hBX).more hBX.size) hd
     rw [hk1] at f1
     dsimp only at htk
     rw [HK.out.2.2.2.2.2.2.2.1 _ _ _ hk1] at htk
     have HU:=hide (And.intro hoc (And.intro hB (And.intro htk f1)))
     clear hoc hB htk f1 hx hd hk1 hk1' hBX hst hbb
     go_upto_region 21 with (go_at_call 93;refine HU.out.2.2.2.mono ?_;rintro e W1 ⟨rfl,hB⟩;have J1:=hide (And.intro (HU.out.1.below hB (Nat.le_refl _)) (HU.out.2.1.trans (hB.mono HU.out.2.1.size)));clear hB)
     clear z2 c0 c1 hg2U hbU
     have hzW:=J1.out.2.size
     obtain ⟨ys,hys⟩:∃ys:List E2,ys= [(x1,(np:Int)+(k1:Int)),(x2,(np:Int)+(k1:Int))]:=⟨_,rfl⟩
     have hyl:ys.length=2:=by rw [hys];rfl
     have hya:(ys.flatMap encE2).toArray=#[.int .i64 x1, .int .i64 ((np:Int)+(k1:Int)), .int .i64 x2, .int .i64 ((np:Int)+(k1:Int))]:=by rw [hys];rfl
     have hol:=own_lits encE2_len 56 W1 ys (Nat.le_refl _) (by rw [hyl];omega)
     rw [hya] at hol
     have HW:=hide (And.intro (hol.sl encE2_len (Nat.le_refl _)) (And.intro hyl (show ((L.cr.take (k+1)).flatMap fun e=> [(e.1,md e.1 e.2),(e.2,md e.1 e.2)])=((L.cr.take k).flatMap fun e=> [(e.1,md e.1 e.2),(e.2,md e.1 e.2)])++ys from by rw [HU.out.2.2.1,hys])))
     clear hol hya hys hyl
     go_wp2_with (at_builtin;refine wpList_appendS rfl _ _ _ rfl Tryz.underlying29 infoE2 rfl (by omega) encE2_len encE2_one rfl (J1.out.1.alloc _) (some ⟨W1.heap.size,0,none⟩) 2 _ ys (by rw [HW.out.2.1];rfl) HW.out.1 (by rw [HW.out.2.1];unfold maxLen;omega) (by rw [HW.out.2.1];omega) (by simp;omega) ?_;intro v5 w5 ho5 hg5 hB5 hat5;rw [HW.out.2.1,←HW.out.2.2] at ho5;have H5:=hide (And.intro ho5 ((J1.out.2.alloc hzW _).trans hB5));clear ho5 hg5 hB5 hat5)
     go_roundw
     case rel=>exact ⟨k+1,m+2,by omega,by go_num,H5.out.1,by omega,H5.out.2⟩
     case measure=>(simp [intOf];try omega)
    ·obtain rfl:k=nc:=by omega
     have j1:¬(k:Int) < (k:Int):=by omega
     rw [HK.out.2.2.2.2.2.2.2.2.2.1] at hoc
     have hml:=hoc.1
     have ks:=HK.out.2.2.2.1 A8 c8 L.halved U (hoc.sl encE2_len (Nat.le_refl _)) (by have:=HK.out.2.2.2.2.2.2.2.2.2.2.1;omega) HK.out.2.2.2.2.2.2.1
     rw [←hml,←HK.out.2.2.2.2.2.2.2.2.2.2.2.1] at ks
     have hot:=HV.out.2.1.below hB (Nat.le_refl _)
     have hop:=HV.out.2.2.1.below hB (Nat.le_refl _)
     have HU:=hide (And.intro hst (And.intro hot (And.intro hop ks)))
     clear hst hot hop ks hoc hB hml
     go_upto_region 23 with (go_at_call 94;refine HU.out.2.2.2.mono ?_;rintro e W4 ⟨A9,c9,rfl,hs9,hB⟩;have J4:=hide (And.intro (HU.out.1.next hB (Nat.le_refl _)) (And.intro (HU.out.2.1.below hB (Nat.le_refl _)) (And.intro (HU.out.2.2.1.below hB (Nat.le_refl _)) hs9)));clear hB hs9;have f62:=J4.out.1.b6.frozen 2;have f6l:=J4.out.1.b6.lt;have f6c:=J4.out.1.b6.cell 2)
     clear z2 hg2U
     obtain ⟨Z,hZ⟩:∃W,W=W4.setCell ⟨g6,2,none⟩ (.slice A9 SL.length c9):=⟨_,rfl⟩
     have hstZ:StpS w Z w.heap.size g2 g4 g6 #[.slice Ap np cp, .slice At i ct, .slice Ac k cc] (.slice A6 (np+N) c6) (.slice A7 (4*i) c7) (.slice A9 SL.length c9):=by rw [hZ];exact J4.out.1.setC _
     have hgz:=grown_set9 W4 g6 2 (.slice A9 SL.length c9)
     rw [←hZ] at hgz⊢
     have hotZ:=J4.out.2.1.kept hgz (.inr (blk_own_ne9 J4.out.1.b6 J4.out.2.1 (by decide)).symm)
     have hopZ:=J4.out.2.2.1.kept hgz (.inr (blk_own_ne9 J4.out.1.b6 J4.out.2.2.1 (by decide)).symm)
     have hscZ:Sl encE2 2 Z Z.heap.size A9 SL:=by
      rw [hZ]
      exact Sl.far9 J4.out.2.2.2 J4.out.1.b6 (fun x _=>no_int3 x) 2 _ (by simp)
     have HZ:=hide (And.intro hstZ (And.intro hotZ (And.intro hopZ hscZ)))
     have k0:=hstZ.b6.cell 0
     have k1:=hstZ.b6.cell 1
     have k2:=hstZ.b6.cell 2
     have kl:=hstZ.b6.lt
     have f0:=hstZ.b4.frozen 0
     have f1:=hstZ.b4.frozen 1
     have f2:=hstZ.b4.frozen 2
     have l4:=hstZ.b4.lt
     have q0:=hstZ.b4.cell 0
     have q1:=hstZ.b4.cell 1
     have q2:=hstZ.b4.cell 2
     clear hstZ hotZ hopZ hscZ hgz hZ f62 f6l f6c
     go_wp2
     have HS5:=hide HZ.out.1
     refine ret_at (v:=hLev A6 (np+N) c6 A7 (4*i) c7 A9 SL.length c9) (fun W=>Blk W g4 108 #[.slice A6 (np+N) c6, .slice A7 (4*i) c7, .slice A9 SL.length c9]) ?_ (fun W hW=> ?_) rfl ?_
     ·exact HZ.out.1.b4.set3 _ _ _
     ·obtain ⟨a0,a1,a2⟩:=hW.three
      simp [results,Tryz.results65,go_sem,a0,a1,a2]
     ·refine ⟨_,_,_,_,_,_,rfl,?_,(HZ.out.2.1.far9 HZ.out.1.b4 (by decide) _ _ _).sl encN3_len (Nat.le_refl _),?_,((HZ.out.1.below.setCell (p:=⟨g4,0,none⟩) HZ.out.1.le.2.1 _).setCell (p:=⟨g4,1,none⟩) HZ.out.1.le.2.1 _).setCell (p:=⟨g4,2,none⟩) HZ.out.1.le.2.1 _⟩
      ·have h:=(HZ.out.2.2.1.far9 HZ.out.1.b4 (by decide) (.slice A6 (np+N) c6) (.slice A7 (4*i) c7) (.slice A9 SL.length c9)).base_le H1.out.2.2.2.size
       rw [HY.out.2.2.2] at h
       exact h
      ·have h1:=Sl.far9 HZ.out.2.2.2 HZ.out.1.b4 (fun x _=>no_int3 x) 0 (.slice A6 (np+N) c6) (Nat.le_refl _)
       have h2:=Sl.far9 h1 (HZ.out.1.b4.set_ 0 (.slice A6 (np+N) c6)) (fun x _=>no_int3 x) 1 (.slice A7 (4*i) c7) (Nat.le_refl _)
       have h3:=Sl.far9 h2 ((HZ.out.1.b4.set_ 0 (.slice A6 (np+N) c6)).set_ 1 (.slice A7 (4*i) c7)) (fun x _=>no_int3 x) 2 (.slice A9 SL.length c9) (Nat.le_refl _)
       exact h3.more (by simp)
end Go.Proofs.YtmemofonebphfaaGreat
namespace Go.Proofs.YtmemofonebphfaaGreat
open Go.RowKit Go.Sort
set_option maxRecDepth 100000 in
set_option maxHeartbeats 8000000 in
theorem index_any (Ap At Ac Ao Ad:Option Addr) (np cp nt ct nc cc no oc nd dc:Nat) (st n:Int) (w:World):
  Calls Tryz.prog 118 #[vCtl Ap np cp At nt ct Ac nc cc Ao no oc st Ad nd dc, .int .i64 n] w fun e w'=>e= .returned (.bool (okI np n))∧Below w.heap.size w w':=by
 go_enter Tryz.func118,Tryz.ntmps118
 go_upto_region 1 with fail
 obtain ⟨g,hg⟩:∃g,g=w.heap.size:=⟨_,rfl⟩
 obtain ⟨X,hX⟩:∃W,W=w.alloc (.cells (cCtl Ap np cp At nt ct Ac nc cc Ao no oc st Ad nd dc) 32):=⟨_,rfl⟩
 rw [←hX,←hg]
 have hb:Blk X g 32 (cCtl Ap np cp At nt ct Ac nc cc Ao no oc st Ad nd dc):=by rw [hX,hg];exact Blk.new _ _ _
 have hB:Below w.heap.size w X:=by rw [hX];exact (Below.refl _ w).alloc (Nat.le_refl _) _
 have z0:X.cell? ⟨g,0,none⟩=some (.slice Ap np cp):=hb.cell 0
 have hl:=hb.lt
 have HB:=hide hB
 clear hB hb hX hg
 by_cases h1:0≤n
 ·by_cases h2:n < (np:Int)
  ·have HR:=hide (show okI np n=true by simp [okI,h1,h2])
   go_wp2
   go_ret
   exact ⟨by rw [HR.out];rfl,HB.out⟩
  ·have HR:=hide (show okI np n=false by simp [okI,h2])
   go_wp2
   go_ret
   exact ⟨by rw [HR.out];rfl,HB.out⟩
 ·have HR:=hide (show okI np n=false by simp [okI,h1])
  go_wp2
  go_ret
  exact ⟨by rw [HR.out];rfl,HB.out⟩
theorem outE_yes {np:Nat} {l:List Int} {i:Int} (hi:i∈l) (h:okI np i=false):outE np l=true:=by
 refine List.any_eq_true.2 ⟨i,hi,?_⟩
 have:¬(0≤i∧i < (np:Int)):=fun h'=>by rw [okI_iff.2 h'] at h;cases h
 simp only [decide_eq_true_eq]
 omega
set_option maxRecDepth 100000 in
set_option maxHeartbeats 32000000 in
theorem indices_any (Ap At Ac Ao Ad:Option Addr) (cp ct cc oc nd dc:Nat) (c:Ctl) (w:World) (hm:CtlM w w.heap.size Ap At Ac Ao Ad c) (hb:CtlB c):
  Calls Tryz.prog 92 #[vCtl Ap c.points.length cp At c.tris.length ct Ac c.creases.length cc Ao c.corners.length oc c.steps Ad nd dc] w fun e w'=>e= .returned (.bool (!badIx c))∧Below w.heap.size w w':=by
 obtain ⟨np,hnp⟩:∃n,n=c.points.length:=⟨_,rfl⟩
 obtain ⟨nt,hnt⟩:∃n,n=c.tris.length:=⟨_,rfl⟩
 obtain ⟨nc,hnc⟩:∃n,n=c.creases.length:=⟨_,rfl⟩
 obtain ⟨no,hno⟩:∃n,n=c.corners.length:=⟨_,rfl⟩
 obtain ⟨st,hst⟩:∃s,s=c.steps:=⟨_,rfl⟩
 obtain ⟨R,hR⟩:∃R,R= !badIx c:=⟨_,rfl⟩
 have hpl:np≤100000:=by rw [hnp];exact hb.p
 have htl:nt≤100000:=by rw [hnt];exact hb.t
 have hcl:nc≤100000:=by rw [hnc];exact hb.cr
 have hol:no≤100000:=by rw [hno];exact hb.o
 have b1:∀(x:Pt) (i:Int),x∈c.tris→i∈corN3 x→okI np i=false→R=false:=fun x i hx hi h=>by
  rw [hR]
  unfold badIx
  rw [outE_yes (l:=corsN c.tris) (List.mem_flatMap.2 ⟨x,hx,hi⟩) (by rw [←hnp];exact h)]
  rfl
 have b2:∀(x:E2) (i:Int),x∈c.creases→i∈ [x.1,x.2]→okI np i=false→R=false:=fun x i hx hi h=>by
  rw [hR]
  unfold badIx
  rw [outE_yes (l:=c.creases.flatMap fun e=> [e.1,e.2]) (List.mem_flatMap.2 ⟨x,hx,hi⟩) (by rw [←hnp];exact h)]
  simp
 have b3:∀(i:Int),i∈c.corners→okI np i=false→R=false:=fun i hi h=>by
  rw [hR]
  unfold badIx
  rw [outE_yes hi (by rw [←hnp];exact h)]
  simp
 have b4:(∀x∈c.tris,∀i∈corN3 x,okI np i=true)→(∀x∈c.creases,∀i∈ [x.1,x.2],okI np i=true)→(∀i∈c.corners,okI np i=true)→R=true:=fun h1 h2 h3=>by
  rw [hR]
  unfold badIx
  rw [←hnp,outE_all (l:=corsN c.tris) fun i hi=>by
   obtain ⟨x,hx,hi⟩:=List.mem_flatMap.1 hi
   exact h1 x hx i hi,outE_all (l:=c.creases.flatMap fun e=> [e.1,e.2]) fun i hi=>by
   obtain ⟨x,hx,hi⟩:=List.mem_flatMap.1 hi
   exact h2 x hx i hi,outE_all h3]
  rfl
 rw [←hR,←hnp,←hnt,←hnc,←hno,←hst]
 have HS:=hide (And.intro hm (And.intro hnt (And.intro hnc hno)))
 have HB:=hide (And.intro b1 (And.intro b2 (And.intro b3 b4)))
 clear hm hb hnp hnt hnc hno hst hR b1 b2 b3 b4
 go_enter Tryz.func92,Tryz.ntmps92
 go_upto_region 1 with fail
 obtain ⟨g,hg⟩:∃g,g=w.heap.size:=⟨_,rfl⟩
 obtain ⟨X,hX⟩:∃W,W=w.alloc (.cells (cCtl Ap np cp At nt ct Ac nc cc Ao no oc st Ad nd dc) 32):=⟨_,rfl⟩
 rw [←hX,←hg]
 have hbX:Blk X g 32 (cCtl Ap np cp At nt ct Ac nc cc Ao no oc st Ad nd dc):=by rw [hX,hg];exact Blk.new _ _ _
 have hBX:Below w.heap.size w X:=by rw [hX];exact (Below.refl _ w).alloc (Nat.le_refl _) _
 have HX:=hide (And.intro hbX hBX)
 clear hbX hBX hX hg
 go_upto_region 2 with fail
 go_loopw [3] (fun iv wr=>∃i:Nat,i≤nt∧iv= .int .i64 i∧(∀k x,k < i→c.tris[k]? =some x→∀n∈corN3 x,okI np n=true)∧Below X.heap.size X wr) (fun iv _=>nt - (intOf iv).toNat)
 case atStart=>exact ⟨0,by omega,rfl,fun k x hk=>absurd hk (by omega),Below.refl _ X⟩
 case round=>
  obtain ⟨i,hi,rfl,hok,hB⟩:=hrel
  obtain ⟨V,rfl⟩:∃x,x=wr:=⟨_,rfl⟩
  have hbV:=HX.out.1.below hB HX.out.1.lt
  obtain ⟨z0,z1,z2,z3,z4,z5⟩:=hbV.six9
  have hgl:=hbV.lt
  by_cases hlt:i < nt
  ·have i1:(i:Int) < (nt:Int):=by omega
   obtain ⟨x,hx⟩:∃x,c.tris[i]? =some x:=⟨_,List.getElem?_eq_getElem (by rw [←HS.out.2.1];exact hlt)⟩
   obtain ⟨bb,o,hA,hbb,hcell⟩:=HS.out.1.t.at hx
   subst hA
   have HC:=hide (And.intro hok (And.intro hx (And.intro hbb hcell)))
   have HV:=hide hB
   clear hok hx hbb hcell hbV hB
   go_upto_region 5 with fail
   clear z0 z1 z2 z3 z4 z5 hgl
   go_loopw [4] (fun jv wz=>∃j:Nat,j≤3∧jv= .int .i64 j∧(∀k n,k < j→(corN3 x)[k]? =some n→okI np n=true)∧Below X.heap.size X wz) (fun jv _=>3 - (intOf jv).toNat)
   case atStart=>exact ⟨0,by omega,rfl,fun k x hk=>absurd hk (by omega),HV.out⟩
   case round=>
    obtain ⟨j,hj,rfl,hok,hB⟩:=hrel
    obtain ⟨U,rfl⟩:∃x,x=wr:=⟨_,rfl⟩
    have hbU:=HX.out.1.below hB HX.out.1.lt
    obtain ⟨z0,z1,z2,z3,z4,z5⟩:=hbU.six9
    have hgl:=hbU.lt
    by_cases hj3:j < 3
    ·have j1:(j:Int) < 3:=by omega
     obtain ⟨n,hn⟩:∃n,(corN3 x)[j]? =some n:=⟨_,List.getElem?_eq_getElem hj3⟩
     have c0:U.cell? ⟨bb,o+i*3+j,none⟩=some (.int .i64 n):=by
      have h:=HC.out.2.2.2 j (.int .i64 n) (by
       have hc:j=0∨j=1∨j=2:=by omega
       rcases hc with rfl | rfl | rfl <;>simp [corN3] at hn <;>subst hn <;>rfl)
      exact ((HX.out.2.trans (hB.mono HX.out.2.size)).cell (p:=⟨bb,_,none⟩) HC.out.2.2.1).trans h
     have hbU:bb < U.heap.size:=Nat.lt_of_lt_of_le HC.out.2.2.1 (HX.out.2.trans (hB.mono HX.out.2.size)).size
     have ki:=index_any Ap (some ⟨bb,o,none⟩) Ac Ao Ad np cp nt ct nc cc no oc nd dc st n U.drew
     cases hk:okI np n with
     | true=>
      rw [hk] at ki
      have HR:=hide (And.intro ki (And.intro hB (show∀k m,k < j+1→(corN3 x)[k]? =some m→okI np m=true from fun k m hkj hm=>by
       rcases Nat.lt_or_ge k j with h | h
       ·exact hok k m h hm
       ·obtain rfl:k=j:=by omega
        rw [hn] at hm
        cases hm
        exact hk)))
      clear ki hB hok hn hk
      go_upto_region 7 with fail
      go_still_tail 8,(by kernel_rfl)
      repeat still_step
      change wpList _ _ _ _ _ U.drew
      go_wp2_with (go_at_call 118;refine HR.out.1.mono ?_;rintro e W1 ⟨rfl,hB1⟩;have H1:=hide (HR.out.2.1.drew.trans (hB1.mono HR.out.2.1.size));clear hB1)
      go_roundw
      case rel=>exact ⟨j+1,by omega,by go_num,HR.out.2.2,H1.out⟩
      case measure=>(simp [intOf];try omega)
     | false=>
      rw [hk] at ki
      have hr:=HB.out.1 x n (List.mem_of_getElem? HC.out.2.1) (List.mem_of_getElem? hn) hk
      have HR:=hide (And.intro ki (And.intro hB hr))
      clear ki hB hok hn hk hr
      go_upto_region 7 with fail
      go_still_tail 8,(by kernel_rfl)
      repeat still_step
      change wpList _ _ _ _ _ U.drew
      go_wp2_with (go_at_call 118;refine HR.out.1.mono ?_;rintro e W1 ⟨rfl,hB1⟩;have H1:=hide (HR.out.2.1.drew.trans (hB1.mono HR.out.2.1.size));clear hB1)
      go_ret
      exact ⟨by rw [HR.out.2.2];rfl,HX.out.2.trans (H1.out.mono HX.out.2.size)⟩
    ·obtain rfl:j=3:=by omega
     have HR:=hide (And.intro hB (show∀k y,k < i+1→c.tris[k]? =some y→∀n∈corN3 y,okI np n=true from fun k y hk hy n hn=>by
      rcases Nat.lt_or_ge k i with h | h
      ·exact HC.out.1 k y h hy n hn
      ·obtain rfl:k=i:=by omega
       rw [HC.out.2.1] at hy
       cases hy
       obtain ⟨m,hm⟩:=List.mem_iff_getElem?.1 hn
       exact hok m n (by have:=(List.getElem?_eq_some_iff.1 hm).1;simpa [corN3] using this) hm))
     clear hok hB hbU
     rw [show (((3:Nat):Int))=3 from rfl]
     go_wp2
     go_roundw
     case rel=>exact ⟨i+1,by omega,by go_num,HR.out.2,HR.out.1⟩
     case measure=>(simp [intOf];try omega)
  ·obtain rfl:i=nt:=by omega
   have i1:¬(i:Int) < (i:Int):=by omega
   have HT:=hide (And.intro (show∀x∈c.tris,∀n∈corN3 x,okI np n=true from fun x hx n hn=>by
    obtain ⟨k,hk⟩:=List.mem_iff_getElem?.1 hx
    exact hok k x (by rw [HS.out.2.1];exact (List.getElem?_eq_some_iff.1 hk).1) hk n hn) hB)
   clear hok hB hbV
   go_upto_region 11 with fail
   clear z0 z1 z2 z3 z4 z5 hgl
   go_loopw [6] (fun iv wr=>∃k:Nat,k≤nc∧iv= .int .i64 k∧(∀k' x,k' < k→c.creases[k']? =some x→∀n∈ [x.1,x.2],okI np n=true)∧Below X.heap.size X wr) (fun iv _=>nc - (intOf iv).toNat)
   case atStart=>exact ⟨0,by omega,rfl,fun k x hk=>absurd hk (by omega),HT.out.2⟩
   case round=>
    obtain ⟨k,hk,rfl,hok,hB⟩:=hrel
    obtain ⟨U,rfl⟩:∃x,x=wr:=⟨_,rfl⟩
    have hbU:=HX.out.1.below hB HX.out.1.lt
    obtain ⟨z0,z1,z2,z3,z4,z5⟩:=hbU.six9
    have hgl:=hbU.lt
    by_cases hkc:k < nc
    ·have j1:(k:Int) < (nc:Int):=by omega
     obtain ⟨x,hx⟩:∃x,c.creases[k]? =some x:=⟨_,List.getElem?_eq_getElem (by rw [←HS.out.2.2.1];exact hkc)⟩
     obtain ⟨bb,o,hA,hbb,c0,c1⟩:=HS.out.1.cr.e2 hx
     subst hA
     have hxm:=List.mem_of_getElem? hx
     obtain ⟨x1,x2⟩:=x
     simp only at c0 c1
     have hBw:=HX.out.2.trans (hB.mono HX.out.2.size)
     have c0:=(hBw.cell (p:=⟨bb,o+k*2,none⟩) hbb).trans c0
     have c1:=(hBw.cell (p:=⟨bb,o+k*2+1,none⟩) hbb).trans c1
     have hbU2:bb < U.heap.size:=Nat.lt_of_lt_of_le hbb hBw.size
     have HC:=hide (And.intro hok (And.intro hx hxm))
     have HU:=hide (And.intro hB hbU)
     have HZ:=hide (And.intro c0 (And.intro c1 hbU2))
     clear hok hx hxm hBw hbb hB hbU
     have k1:=index_any Ap At (some ⟨bb,o,none⟩) Ao Ad np cp i ct nc cc no oc nd dc st x1 U.drew
     have k2:=fun W=>index_any Ap At (some ⟨bb,o,none⟩) Ao Ad np cp i ct nc cc no oc nd dc st x2 W
     obtain ⟨a1,ha1⟩:∃a,a=okI np x1:=⟨_,rfl⟩
     obtain ⟨a2,ha2⟩:∃a,a=okI np x2:=⟨_,rfl⟩
     rw [←ha1] at k1
     simp only [←ha2] at k2
     have HK:=hide (And.intro k1 (And.intro k2 (And.intro ha1 ha2)))
     clear k1 k2 ha1 ha2
     go_upto_region 13 with fail
     go_still_tail 7,(by kernel_rfl)
     repeat still_step
     change wpList _ _ _ _ _ U.drew
     go_upto_region 14 with (go_at_call 118;refine HK.out.1.mono ?_;rintro e W1 ⟨rfl,hB1⟩;have H1:=hide (And.intro (HU.out.1.drew.trans (hB1.mono HU.out.1.size)) (undrew9 hB1));clear hB1)
     clear z0 z1 z2 z3 z4 z5 hgl c0 c1 hbU2
     have hb1:Blk W1 g 32 (cCtl Ap np cp At i ct (some ⟨bb,o,none⟩) nc cc Ao no oc st Ad nd dc):=HU.out.2.below H1.out.2 HU.out.2.lt
     obtain ⟨z0,z1,z2,z3,z4,z5⟩:=hb1.six9
     have hgl:=hb1.lt
     have c1:=(H1.out.2.cell (p:=⟨bb,o+k*2+1,none⟩) HZ.out.2.2).trans HZ.out.2.1
     have hbW:bb < W1.heap.size:=Nat.lt_of_lt_of_le HZ.out.2.2 H1.out.2.size
     clear hb1
     go_still_tail 7,(by kernel_rfl)
     repeat still_step
     change wpList _ _ _ _ _ W1.drew
     cases a1 with
     | false=>
      have hr:=HB.out.2.1 (x1,x2) x1 HC.out.2.2 (by simp) HK.out.2.2.1.symm
      have HR:=hide hr
      clear hr
      go_wp2_with (go_at_call 118;refine (HK.out.2.1 W1.drew).mono ?_;rintro e W2 ⟨rfl,hB2⟩;have H2:=hide (H1.out.1.drew.trans (hB2.mono H1.out.1.size));clear hB2)
      go_ret
      exact ⟨by rw [HR.out];rfl,HX.out.2.trans (H2.out.mono HX.out.2.size)⟩
     | true=>
      cases a2 with
      | false=>
       have hr:=HB.out.2.1 (x1,x2) x2 HC.out.2.2 (by simp) HK.out.2.2.2.symm
       have HR:=hide hr
       clear hr
       go_wp2_with (go_at_call 118;refine (HK.out.2.1 W1.drew).mono ?_;rintro e W2 ⟨rfl,hB2⟩;have H2:=hide (H1.out.1.drew.trans (hB2.mono H1.out.1.size));clear hB2)
       go_ret
       exact ⟨by rw [HR.out];rfl,HX.out.2.trans (H2.out.mono HX.out.2.size)⟩
      | true=>
       have HR:=hide (show∀k' y,k' < k+1→c.creases[k']? =some y→∀n∈ [y.1,y.2],okI np n=true from fun k' y hk' hy n hn=>by
        rcases Nat.lt_or_ge k' k with h | h
        ·exact HC.out.1 k' y h hy n hn
        ·obtain rfl:k'=k:=by omega
         rw [HC.out.2.1] at hy
         cases hy
         simp only [List.mem_cons,List.not_mem_nil,or_false] at hn
         rcases hn with rfl | rfl
         ·exact HK.out.2.2.1.symm
         ·exact HK.out.2.2.2.symm)
       go_wp2_with (go_at_call 118;refine (HK.out.2.1 W1.drew).mono ?_;rintro e W2 ⟨rfl,hB2⟩;have H2:=hide (H1.out.1.drew.trans (hB2.mono H1.out.1.size));clear hB2)
       go_roundw
       case rel=>exact ⟨k+1,by omega,by go_num,HR.out,H2.out⟩
       case measure=>(simp [intOf];try omega)
    ·obtain rfl:k=nc:=by omega
     have j1:¬(k:Int) < (k:Int):=by omega
     have HC:=hide (And.intro (show∀x∈c.creases,∀n∈ [x.1,x.2],okI np n=true from fun x hx n hn=>by
      obtain ⟨k',hk'⟩:=List.mem_iff_getElem?.1 hx
      exact hok k' x (by rw [HS.out.2.2.1];exact (List.getElem?_eq_some_iff.1 hk').1) hk' n hn) hB)
     clear hok hB hbU
     go_upto_region 18 with fail
     clear z0 z1 z2 z3 z4 z5 hgl
     go_loopw [9] (fun iv wr=>∃l:Nat,l≤no∧iv= .int .i64 l∧(∀k' x,k' < l→c.corners[k']? =some x→okI np x=true)∧Below X.heap.size X wr) (fun iv _=>no - (intOf iv).toNat)
     case atStart=>exact ⟨0,by omega,rfl,fun k x hk=>absurd hk (by omega),HC.out.2⟩
     case round=>
      obtain ⟨l,hl,rfl,hok,hB⟩:=hrel
      obtain ⟨U,rfl⟩:∃x,x=wr:=⟨_,rfl⟩
      have hbU:=HX.out.1.below hB HX.out.1.lt
      obtain ⟨z0,z1,z2,z3,z4,z5⟩:=hbU.six9
      have hgl:=hbU.lt
      by_cases hlo:l < no
      ·have l1:(l:Int) < (no:Int):=by omega
       obtain ⟨x,hx⟩:∃x,c.corners[l]? =some x:=⟨_,List.getElem?_eq_getElem (by rw [←HS.out.2.2.2];exact hlo)⟩
       obtain ⟨bb,o,hA,hbb,c0⟩:=HS.out.1.o.z9 hx
       subst hA
       have hBw:=HX.out.2.trans (hB.mono HX.out.2.size)
       have c0:=(hBw.cell (p:=⟨bb,o+l,none⟩) hbb).trans c0
       have hbU2:bb < U.heap.size:=Nat.lt_of_lt_of_le hbb hBw.size
       have ki:=index_any Ap At Ac (some ⟨bb,o,none⟩) Ad np cp i ct k cc no oc nd dc st x U.drew
       cases hk2:okI np x with
       | true=>
        rw [hk2] at ki
        have HR:=hide (And.intro ki (And.intro hB (show∀k m,k < l+1→c.corners[k]? =some m→okI np m=true from fun k m hkj hm=>by
         rcases Nat.lt_or_ge k l with h | h
         ·exact hok k m h hm
         ·obtain rfl:k=l:=by omega
          rw [hx] at hm
          cases hm
          exact hk2)))
        clear ki hB hok hx hk2 hBw hbb hbU
        go_upto_region 20 with fail
        go_still_tail 6,(by kernel_rfl)
        repeat still_step
        change wpList _ _ _ _ _ U.drew
        go_wp2_with (go_at_call 118;refine HR.out.1.mono ?_;rintro e W1 ⟨rfl,hB1⟩;have H1:=hide (HR.out.2.1.drew.trans (hB1.mono HR.out.2.1.size));clear hB1)
        go_roundw
        case rel=>exact ⟨l+1,by omega,by go_num,HR.out.2.2,H1.out⟩
        case measure=>(simp [intOf];try omega)
       | false=>
        rw [hk2] at ki
        have hr:=HB.out.2.2.1 x (List.mem_of_getElem? hx) hk2
        have HR:=hide (And.intro ki (And.intro hB hr))
        clear ki hB hok hx hk2 hr hBw hbb hbU
        go_upto_region 20 with fail
        go_still_tail 6,(by kernel_rfl)
        repeat still_step
        change wpList _ _ _ _ _ U.drew
        go_wp2_with (go_at_call 118;refine HR.out.1.mono ?_;rintro e W1 ⟨rfl,hB1⟩;have H1:=hide (HR.out.2.1.drew.trans (hB1.mono HR.out.2.1.size));clear hB1)
        go_ret
        exact ⟨by rw [HR.out.2.2];rfl,HX.out.2.trans (H1.out.mono HX.out.2.size)⟩
      ·obtain rfl:l=no:=by omega
       have l1:¬(l:Int) < (l:Int):=by omega
       have hr:=HB.out.2.2.2 HT.out.1 HC.out.1 (fun x hx=>by
        obtain ⟨k',hk'⟩:=List.mem_iff_getElem?.1 hx
        exact hok k' x (by rw [HS.out.2.2.2];exact (List.getElem?_eq_some_iff.1 hk').1) hk')
       have HR:=hide (And.intro hr hB)
       clear hr hok hB hbU
       go_wp2
       go_ret
       exact ⟨by rw [HR.out.1];rfl,HX.out.2.trans (HR.out.2.mono HX.out.2.size)⟩
end Go.Proofs.YtmemofonebphfaaGreat
namespace Go.Proofs.YtmemofonebphfaaGreat
open Go.RowKit Go.Sort
theorem outR_yes {lo hi:Int} {l:List Pt} {p:Pt} (hp:p∈l) (h:min (min p.1 p.2.1) p.2.2 < lo∨hi < max (max p.1 p.2.1) p.2.2):outR lo hi l=true:=List.any_eq_true.2 ⟨p,hp,decide_eq_true h⟩
theorem outR_all {lo hi:Int} {l:List Pt} (h:∀p∈l,¬(min (min p.1 p.2.1) p.2.2 < lo)∧¬(hi < max (max p.1 p.2.1) p.2.2)):outR lo hi l=false:=by
 refine List.any_eq_false.2 fun p hp=> ?_
 have:=h p hp
 simp only [decide_eq_true_eq]
 omega
set_option maxRecDepth 100000 in
set_option maxHeartbeats 8000000 in
theorem ranged_any (A:Option Addr) (c:Nat) (l:List Pt) (lo hi:Int) (w:World) (hs:Sl encP 3 w w.heap.size A l) (hl:l.length≤100000000):
  Calls Tryz.prog 67 #[.slice A l.length c, .int .i64 lo, .int .i64 hi] w fun e w'=>e= .returned (.bool (!outR lo hi l))∧Below w.heap.size w w':=by
 obtain ⟨N,hN⟩:∃N,N=l.length:=⟨_,rfl⟩
 obtain ⟨R,hR⟩:∃R,R= !outR lo hi l:=⟨_,rfl⟩
 rw [←hN] at hl⊢
 rw [←hR]
 have HS:=hide (And.intro hs (And.intro hN hR))
 clear hs hN hR
 go_enter Tryz.func67,Tryz.ntmps67
 go_upto_region 2 with fail
 go_loopw [7] (fun iv wr=>∃i:Nat,i≤N∧iv= .int .i64 i∧(∀k p,k < i→l[k]? =some p→¬(min (min p.1 p.2.1) p.2.2 < lo)∧¬(hi < max (max p.1 p.2.1) p.2.2))∧Below w.heap.size w wr) (fun iv _=>N - (intOf iv).toNat)
 case atStart=>exact ⟨0,by omega,rfl,fun k p hk=>absurd hk (by omega),Below.refl _ w⟩
 case round=>
  obtain ⟨i,hi',rfl,hok,hB⟩:=hrel
  obtain ⟨V,rfl⟩:∃x,x=wr:=⟨_,rfl⟩
  by_cases hlt:i < N
  ·have i1:(i:Int) < (N:Int):=by omega
   obtain ⟨x,hx⟩:∃x,l[i]? =some x:=⟨_,List.getElem?_eq_getElem (by rw [←HS.out.2.1];exact hlt)⟩
   obtain ⟨bb,o,hA,hbb,hc⟩:=HS.out.1.at hx
   subst hA
   obtain ⟨x1,x2,x3⟩:=x
   have c0:=(hB.cell (p:=⟨bb,o+i*3+0,none⟩) hbb).trans (hc 0 _ rfl)
   have c1:=(hB.cell (p:=⟨bb,o+i*3+1,none⟩) hbb).trans (hc 1 _ rfl)
   have c2:=(hB.cell (p:=⟨bb,o+i*3+2,none⟩) hbb).trans (hc 2 _ rfl)
   rw [Nat.add_zero] at c0
   have hbV:bb < V.heap.size:=Nat.lt_of_lt_of_le hbb hB.size
   dsimp only at c0 c1 c2
   obtain ⟨m1,e1⟩:∃m,min x1 x2=m:=⟨_,rfl⟩
   obtain ⟨m2,e2⟩:∃m,min m1 x3=m:=⟨_,rfl⟩
   obtain ⟨m3,e3⟩:∃m,max x1 x2=m:=⟨_,rfl⟩
   obtain ⟨m4,e4⟩:∃m,max m3 x3=m:=⟨_,rfl⟩
   have hmm:min (min x1 x2) x3=m2:=by rw [e1,e2]
   have hmx:max (max x1 x2) x3=m4:=by rw [e3,e4]
   have HV:=hide (And.intro hok (And.intro hB (And.intro hx (And.intro hmm hmx))))
   clear hok hB hx hmm hmx hc hbb
   by_cases h1:m2 < lo
   ·have hr:R=false:=by
     rw [HS.out.2.2,outR_yes (List.mem_of_getElem? HV.out.2.2.1) (.inl (by dsimp only;rw [HV.out.2.2.2.1];exact h1))]
     rfl
    have HR:=hide hr
    clear hr
    go_upto_region 5 with fail
    have HB5:=hide (HV.out.2.1.alloc HV.out.2.1.size (.cells #[.int .i64 x1, .int .i64 x2, .int .i64 x3] 43))
    go_wp2
    go_ret
    exact ⟨by rw [HR.out];rfl,HB5.out⟩
   ·by_cases h2:hi < m4
    ·have hr:R=false:=by
      rw [HS.out.2.2,outR_yes (List.mem_of_getElem? HV.out.2.2.1) (.inr (by dsimp only;rw [HV.out.2.2.2.2];exact h2))]
      rfl
     have HR:=hide hr
     clear hr
     go_upto_region 5 with fail
     have HB5:=hide (HV.out.2.1.alloc HV.out.2.1.size (.cells #[.int .i64 x1, .int .i64 x2, .int .i64 x3] 43))
     go_wp2
     go_ret
     exact ⟨by rw [HR.out];rfl,HB5.out⟩
    ·have HR:=hide (show∀k p,k < i+1→l[k]? =some p→¬(min (min p.1 p.2.1) p.2.2 < lo)∧¬(hi < max (max p.1 p.2.1) p.2.2) from fun k p hk hp=>by
      rcases Nat.lt_or_ge k i with h | h
      ·exact HV.out.1 k p h hp
      ·obtain rfl:k=i:=by omega
       rw [HV.out.2.2.1] at hp
       cases hp
       dsimp only
       rw [HV.out.2.2.2.1,HV.out.2.2.2.2]
       exact ⟨h1,h2⟩)
     go_upto_region 5 with fail
     have HB5:=hide (HV.out.2.1.alloc HV.out.2.1.size (.cells #[.int .i64 x1, .int .i64 x2, .int .i64 x3] 43))
     go_wp2
     go_roundw
     case rel=>exact ⟨i+1,by omega,by go_num,HR.out,HB5.out⟩
     case measure=>(simp [intOf];try omega)
  ·obtain rfl:i=N:=by omega
   have i1:¬(i:Int) < (i:Int):=by omega
   have hr:R=true:=by
    rw [HS.out.2.2,outR_all fun p hp=>by
     obtain ⟨k,hk⟩:=List.mem_iff_getElem?.1 hp
     exact hok k p (by rw [HS.out.2.1];exact (List.getElem?_eq_some_iff.1 hk).1) hk]
    rfl
   have HR:=hide (And.intro hr hB)
   clear hr hB hok
   go_wp2
   go_ret
   exact ⟨by rw [HR.out.1];rfl,HR.out.2⟩
end Go.Proofs.YtmemofonebphfaaGreat
namespace Go.Proofs.YtmemofonebphfaaGreat
open Go.RowKit Go.Sort
set_option maxRecDepth 100000 in
set_option maxHeartbeats 64000000 in
theorem Wrong9_any (Ap At Ac Ao Ad:Option Addr) (cp ct cc oc dc:Nat) (c:Ctl) (w:World) (hm:CtlM w w.heap.size Ap At Ac Ao Ad c) (hb:CtlB c) (hfs:fits c.steps):
  Calls Tryz.prog 61 #[vCtl Ap c.points.length cp At c.tris.length ct Ac c.creases.length cc Ao c.corners.length oc c.steps Ad c.details.length dc] w fun e w'=>e= .returned (.int .i64 (errC c))∧Below w.heap.size w w':=by
 have ki:=fun (W:World) (hW:Below w.heap.size w W)=>indices_any Ap At Ac Ao Ad cp ct cc oc c.details.length dc c W (hm.below hW hW.size) hb
 have ke:=fun (W:World) (hW:Below w.heap.size w W)=>edges9_any At ct c.tris W (hm.below hW hW.size).t (by have:=hb.t;omega)
 have kr:=fun (W:World) (hW:Below w.heap.size w W) (hi:Int)=>ranged_any Ap cp c.points 0 hi W (hm.below hW hW.size).p (by have:=hb.p;omega)
 obtain ⟨np,hnp⟩:∃n,n=c.points.length:=⟨_,rfl⟩
 obtain ⟨nt,hnt⟩:∃n,n=c.tris.length:=⟨_,rfl⟩
 obtain ⟨nc,hnc⟩:∃n,n=c.creases.length:=⟨_,rfl⟩
 obtain ⟨no,hno⟩:∃n,n=c.corners.length:=⟨_,rfl⟩
 obtain ⟨nd,hnd⟩:∃n,n=c.details.length:=⟨_,rfl⟩
 obtain ⟨st,hst⟩:∃s,s=c.steps:=⟨_,rfl⟩
 obtain ⟨R,hR⟩:∃R,R=errC c:=⟨_,rfl⟩
 have hpl:np≤100000:=by rw [hnp];exact hb.p
 have htl:nt≤100000:=by rw [hnt];exact hb.t
 have hcl:nc≤100000:=by rw [hnc];exact hb.cr
 have hol:no≤100000:=by rw [hno];exact hb.o
 have hdl:nd≤100000:=by rw [hnd];exact hb.d
 have ha:argC c=(decide (st < 0) || decide (4 < st) || decide (st < (nd:Int))):=by rw [hst,hnd];rfl
 have r1:argC c=true→R=1:=fun h=>by rw [hR];unfold errC;rw [if_pos h]
 have r2:argC c=false→badIx c=true→R=14:=fun h1 h2=>by rw [hR];unfold errC;rw [if_neg (by rw [h1];simp),if_pos h2]
 have r3:argC c=false→badIx c=false→checkP (c.tris.map numT) false≠0→R=checkP (c.tris.map numT) false:=fun h1 h2 h3=>by rw [hR];unfold errC;rw [if_neg (by rw [h1];simp),if_neg (by rw [h2];simp),if_pos h3]
 have r4:argC c=false→badIx c=false→checkP (c.tris.map numT) false=0→R=if noEdge c.tris c.creases=true then 13 else if manyC c=true then 2 else if farC c=true then 3 else 0:=fun h1 h2 h3=>by rw [hR];unfold errC;rw [if_neg (by rw [h1];simp),if_neg (by rw [h2];simp),if_neg (by simpa using h3)]
 rw [←hR,←hnp,←hnt,←hnc,←hno,←hnd,←hst]
 simp only [←hnp,←hnt,←hnc,←hno,←hnd,←hst] at ki ke kr
 have hfs': -9223372036854775808≤st∧st≤9223372036854775807:=by rw [hst];exact hfs
 have HS:=hide (And.intro hm (And.intro hb (And.intro hnp (And.intro hnt (And.intro hnc (And.intro hno (And.intro hnd hst)))))))
 have HK:=hide (And.intro ki (And.intro ke kr))
 have HR:=hide (And.intro r1 (And.intro r2 (And.intro r3 (And.intro r4 ha))))
 clear hm hb hnp hnt hnc hno hnd hst hR r1 r2 r3 r4 ki ke kr ha hfs
 go_enter Tryz.func61,Tryz.ntmps61
 go_upto_region 1 with fail
 obtain ⟨g,hg⟩:∃g,g=w.heap.size:=⟨_,rfl⟩
 obtain ⟨X,hX⟩:∃W,W=w.alloc (.cells (cCtl Ap np cp At nt ct Ac nc cc Ao no oc st Ad nd dc) 32):=⟨_,rfl⟩
 rw [←hX,←hg]
 have hbX:Blk X g 32 (cCtl Ap np cp At nt ct Ac nc cc Ao no oc st Ad nd dc):=by rw [hX,hg];exact Blk.new _ _ _
 have hBX:Below w.heap.size w X:=by rw [hX];exact (Below.refl _ w).alloc (Nat.le_refl _) _
 obtain ⟨z0,z1,z2,z3,z4,z5⟩:=hbX.six9
 have hgl:=hbX.lt
 have HX:=hide (And.intro hbX hBX)
 clear hbX hBX hX hg
 by_cases s1:st < 0
 ·have hr:=HR.out.1 (by rw [HR.out.2.2.2.2];simp [s1])
  have HQ:=hide hr
  clear hr
  go_wp2
  go_ret
  exact ⟨by rw [HQ.out];rfl,HX.out.2⟩
 ·by_cases s2:4 < st
  ·have hr:=HR.out.1 (by rw [HR.out.2.2.2.2];simp [s2])
   have HQ:=hide hr
   clear hr
   go_wp2
   go_ret
   exact ⟨by rw [HQ.out];rfl,HX.out.2⟩
  ·by_cases s3:st < (nd:Int)
   ·have hr:=HR.out.1 (by rw [HR.out.2.2.2.2];simp [s3])
    have HQ:=hide hr
    clear hr
    go_wp2
    go_ret
    exact ⟨by rw [HQ.out];rfl,HX.out.2⟩
   ·have hA:argC c=false:=by rw [HR.out.2.2.2.2];simp [s1,s2,s3]
    obtain ⟨sn,hsn⟩:∃n:Nat,st=n:=⟨st.toNat,by omega⟩
    subst hsn
    have hs4:sn≤4:=by omega
    have hsd:nd≤sn:=by omega
    have HA:=hide hA
    have k1:=HK.out.1 X HX.out.2
    cases hix:badIx c with
    | true=>
     rw [hix] at k1
     have hr:=HR.out.2.1 hA hix
     have HQ:=hide (And.intro hr k1)
     clear hr k1 hA hix
     go_wp2_with (go_at_call 92;refine HQ.out.2.mono ?_;rintro e W1 ⟨rfl,hB⟩;have H1:=hide (HX.out.2.trans (hB.mono HX.out.2.size));clear hB)
     go_ret
     exact ⟨by rw [HQ.out.1];rfl,H1.out⟩
    | false=>
     rw [hix] at k1
     have HI:=hide (And.intro hix k1)
     clear k1 hA hix
     go_upto_region 6 with (go_at_call 92;refine HI.out.2.mono ?_;rintro e W1 ⟨rfl,hB⟩;have H1:=hide (And.intro (HX.out.2.trans (hB.mono HX.out.2.size)) (HX.out.1.below hB HX.out.1.lt));clear hB)
     clear z0 z1 z2 z3 z4 z5 hgl
     go_upto_region 8 with fail
     go_loopw [4,5] (fun lv iv wr=>∃i:Nat,i≤nt∧iv= .int .i64 i∧Own encT 9 46 wr W1.heap.size lv i ((c.tris.take i).map numT)∧Below W1.heap.size W1 wr) (fun _ iv _=>nt - (intOf iv).toNat)
     case atStart=>exact ⟨0,by omega,rfl,by rw [List.take_zero];exact Own.nil,Below.refl _ W1⟩
     case round=>
      obtain ⟨i,hi,rfl,hO,hB⟩:=hrel
      obtain ⟨V,rfl⟩:∃x,x=wr:=⟨_,rfl⟩
      obtain ⟨Al,cl,rfl⟩:=hO.form
      have hbV:=H1.out.2.below hB H1.out.2.lt
      obtain ⟨z0,z1,z2,z3,z4,z5⟩:=hbV.six9
      have hgl:=hbV.lt
      have hBw:=H1.out.1.trans (hB.mono H1.out.1.size)
      by_cases hlt:i < nt
      ·have i1:(i:Int) < (nt:Int):=by omega
       obtain ⟨x,hx⟩:∃x,c.tris[i]? =some x:=⟨_,List.getElem?_eq_getElem (by rw [←HS.out.2.2.2.1];exact hlt)⟩
       obtain ⟨bb,o,hAt,hbb,c0,c1,c2⟩:=HS.out.1.t.n3 hx
       subst hAt
       have htk:(c.tris.take (i+1)).map numT=(c.tris.take i).map numT++ [numT x]:=by rw [List.take_add_one,hx,List.map_append];rfl
       obtain ⟨x1,x2,x3⟩:=x
       simp only at c0 c1 c2
       have c0:=(hBw.cell (p:=⟨bb,o+i*3,none⟩) hbb).trans c0
       have c1:=(hBw.cell (p:=⟨bb,o+i*3+1,none⟩) hbb).trans c1
       have c2:=(hBw.cell (p:=⟨bb,o+i*3+2,none⟩) hbb).trans c2
       have hbV2:bb < V.heap.size:=Nat.lt_of_lt_of_le hbb hBw.size
       have hzV:=hB.size
       have HV:=hide (And.intro hO (And.intro hB htk))
       clear hO hB htk hx hbb hbV hBw
       go_upto_region 11 with fail
       obtain ⟨Y,hY⟩:∃W,W=V.alloc (.cells #[.int .i64 x1, .int .i64 x2, .int .i64 x3] 35):=⟨_,rfl⟩
       obtain ⟨gy,hgy⟩:∃g,g=V.heap.size:=⟨_,rfl⟩
       have hbY:Blk Y gy 35 #[.int .i64 x1, .int .i64 x2, .int .i64 x3]:=by rw [hY,hgy];exact Blk.new _ _ _
       rw [←hY,←hgy]
       have HY:=hide (And.intro (show Own encT 9 46 Y W1.heap.size (.slice Al i cl) i ((c.tris.take i).map numT) by rw [hY];exact HV.out.1.alloc _) (show Below W1.heap.size W1 Y by rw [hY];exact HV.out.2.1.alloc HV.out.2.1.size _))
       obtain ⟨y0,y1,y2⟩:=hbY.three
       have hgyl:=hbY.lt
       have hzY:W1.heap.size≤Y.heap.size:=HY.out.2.size
       clear z0 z1 z2 z3 z4 z5 hgl c0 c1 c2 hbV2 hY hgy hbY hzV
       go_wp2_with (at_builtin;refine wpList_append1 rfl _ _ _ rfl Tryz.underlying44 infoT rfl (by omega) encT_len encT_one rfl (HY.out.1.alloc _) Y.heap.size 1 (numT (x1,x2,x3):Tri) rfl (Blk.new _ _ _) (by unfold maxLen;omega) (by omega) (by simp;omega) ?_;intro g5 cap5 w5 hown5 hg5 hB5 hat5 hgb5 hlt5;have H5:=hide (And.intro hown5 ((HY.out.2.alloc hzY _).trans hB5));clear hown5 hg5 hB5 hat5 hgb5 hlt5)
       go_roundw
       case rel=>exact ⟨i+1,by omega,by go_num,by rw [HV.out.2.2];exact H5.out.1,H5.out.2⟩
       case measure=>(simp [intOf];try omega)
      ·obtain rfl:i=nt:=by omega
       have i1:¬(i:Int) < (i:Int):=by omega
       have ht:c.tris.take i=c.tris:=by rw [HS.out.2.2.2.1];exact List.take_length
       rw [ht] at hO
       have hixo:∀x∈c.tris,fitsT (numT x):=fun x hx=>by
        have h:=HI.out.1
        unfold badIx at h
        simp only [Bool.or_eq_false_iff] at h
        exact numT_fits (n:=np) (by omega) fun n hn=>by rw [HS.out.2.2.1];exact outE_no h.1.1 n (List.mem_flatMap.2 ⟨x,hx,hn⟩)
       have hml:=hO.1
       have kc:=Check_any Al cl (c.tris.map numT) V (hO.sl encT_len (Nat.le_refl _)) (by omega) (fun t ht=>by
        obtain ⟨x,hx,rfl⟩:=List.mem_map.1 ht
        exact hixo x hx)
       rw [←hml] at kc
       obtain ⟨ck,hck⟩:∃x,x=checkP (c.tris.map numT) false:=⟨_,rfl⟩
       rw [←hck] at kc
       have HV:=hide (And.intro hBw (And.intro hbV (And.intro kc hck)))
       clear hO hB hbV hBw ht hixo hml kc hck
       by_cases hc0:ck=0
       ·subst hc0
        go_upto_region 15 with (go_at_call 70;refine HV.out.2.2.1.mono ?_;rintro e W2 ⟨rfl,hB⟩;have H2:=hide (And.intro (HV.out.1.trans (hB.mono HV.out.1.size)) (HV.out.2.1.below hB HV.out.2.1.lt));clear hB)
        clear z0 z1 z2 z3 z4 z5 hgl
        have hck:=HV.out.2.2.2.symm
        have hst':c.steps.toNat=sn:=by have:=HS.out.2.2.2.2.2.2.2;omega
        have hr:=HR.out.2.2.2.1 HA.out HI.out.1 hck
        obtain ⟨g1,g2,g3,g4⟩:=check_num.1 hck
        have hcnt:=sp_len hck
        rw [←HS.out.2.2.2.1] at hcnt
        have hixo:∀x∈c.tris,∀n∈corN3 x,0≤n∧n < (np:Int):=fun x hx n hn=>by
         have h:=HI.out.1
         unfold badIx at h
         simp only [Bool.or_eq_false_iff] at h
         rw [HS.out.2.2.1]
         exact outE_no h.1.1 n (List.mem_flatMap.2 ⟨x,hx,hn⟩)
        have hcro:∀x∈c.creases,fits2 x:=fun x hx=>by
         have h:=HI.out.1
         unfold badIx at h
         simp only [Bool.or_eq_false_iff] at h
         have h1:=outE_no h.1.2 x.1 (List.mem_flatMap.2 ⟨x,hx,by simp⟩)
         have h2:=outE_no h.1.2 x.2 (List.mem_flatMap.2 ⟨x,hx,by simp⟩)
         rw [←HS.out.2.2.1] at h1 h2
         constructor <;>unfold fits <;>omega
        have hEf:∀e∈edgesE c.tris,fits2 e:=fun e he=>by
         obtain ⟨x,hx,hd⟩:=mem_dirE.1 (mem_edgesE.1 he).1
         have h1:=hixo x hx x.1 (by simp [corN3])
         have h2:=hixo x hx x.2.1 (by simp [corN3])
         have h3:=hixo x hx x.2.2 (by simp [corN3])
         rcases mem_de3.1 hd with rfl | rfl | rfl <;>constructor <;>unfold fits <;>dsimp only <;>omega
        have hEl:(edgesE c.tris).length≤300000:=by have:=edgesE_le c.tris;rw [←HS.out.2.2.2.1] at this;omega
        have kf:=fun (A:Option Addr) (k:Nat) (a b:Int) (W:World) (hs:Sl encE2 2 W W.heap.size A (edgesE c.tris)) (hf:fits2 (a,b))=>find_any A k (edgesE c.tris) a b W hs (by omega) hEf (nrm1_fits (e:=(a,b)) hf) (edgesE_sorted _) (edgesE_nodup g2)
        obtain ⟨E,hE⟩:∃E,E=edgesE c.tris:=⟨_,rfl⟩
        have hne:noEdge c.tris c.creases=c.creases.any fun e=> !E.contains (nrmE e.1 e.2):=by rw [hE];rfl
        have hmc:manyC c=(manyE c.details sn (3*i / 2) || decide (65536 < 4^sn*i)):=by unfold manyC;rw [hst',←HS.out.2.2.2.1]
        have hfc:farC c=(outR 0 (2097151 / 16^sn) c.points || c.details.any (outR (-2097151) 2097151)):=by unfold farC;rw [hst']
        rw [hne,hmc,hfc] at hr
        obtain ⟨EN,hEN⟩:∃n,n=E.length:=⟨_,rfl⟩
        have ke:=HK.out.2.1 W2 H2.out.1
        rw [←hE,←hEN] at ke
        simp only [←hE,←hEN] at kf
        have HM:=hide (And.intro hr (And.intro hcnt (And.intro hcro (And.intro kf (And.intro ke hE)))))
        clear hr hcnt hcro kf ke hE hEN hne hmc hfc hEl hEf hixo g1 g2 g3 g4 hck hst'
        obtain ⟨z0,z1,z2,z3,z4,z5⟩:=H2.out.2.six9
        have hgl:=H2.out.2.lt
        go_upto_region 17 with (go_at_call 26;refine HM.out.2.2.2.2.1.mono ?_;rintro e W3 ⟨Ae,ce,rfl,hs3,hB⟩;have H3:=hide (And.intro (H2.out.1.trans (hB.mono H2.out.1.size)) (And.intro (H2.out.2.below hB H2.out.2.lt) hs3));clear hB hs3)
        clear z0 z1 z2 z3 z4 z5 hgl
        go_loopw [9] (fun iv wr=>∃k:Nat,k≤nc∧iv= .int .i64 k∧(∀k' x,k' < k→c.creases[k']? =some x→nrmE x.1 x.2∈E)∧Below W3.heap.size W3 wr) (fun iv _=>nc - (intOf iv).toNat)
        case atStart=>exact ⟨0,by omega,rfl,fun k x hk=>absurd hk (by omega),Below.refl _ W3⟩
        case round=>
         obtain ⟨k,hk,rfl,hok,hB⟩:=hrel
         obtain ⟨U,rfl⟩:∃x,x=wr:=⟨_,rfl⟩
         have hbU:=H3.out.2.1.below hB H3.out.2.1.lt
         obtain ⟨z0,z1,z2,z3,z4,z5⟩:=hbU.six9
         have hgl:=hbU.lt
         have hBw:=H3.out.1.trans (hB.mono H3.out.1.size)
         by_cases hkc:k < nc
         ·have j1:(k:Int) < (nc:Int):=by omega
          obtain ⟨x,hx⟩:∃x,c.creases[k]? =some x:=⟨_,List.getElem?_eq_getElem (by rw [←HS.out.2.2.2.2.1];exact hkc)⟩
          obtain ⟨bb,o,hAc,hbb,c0,c1⟩:=HS.out.1.cr.e2 hx
          subst hAc
          have hxm:=List.mem_of_getElem? hx
          have kf:=HM.out.2.2.2.1 Ae ce x.1 x.2 U.drew ((H3.out.2.2.below hB).more hB.size) (HM.out.2.2.1 x hxm)
          obtain ⟨x1,x2⟩:=x
          simp only at c0 c1 kf
          have c0:=(hBw.cell (p:=⟨bb,o+k*2,none⟩) hbb).trans c0
          have c1:=(hBw.cell (p:=⟨bb,o+k*2+1,none⟩) hbb).trans c1
          have hbU2:bb < U.heap.size:=Nat.lt_of_lt_of_le hbb hBw.size
          by_cases hin:nrmE x1 x2∈E
          ·obtain ⟨q,hq,_⟩:=posE_mem hin
           rw [hq] at kf
           have HU:=hide (And.intro kf (And.intro hB (show∀k' y,k' < k+1→c.creases[k']? =some y→nrmE y.1 y.2∈E from fun k' y hk' hy=>by
            rcases Nat.lt_or_ge k' k with h | h
            ·exact hok k' y h hy
            ·obtain rfl:k'=k:=by omega
             rw [hx] at hy
             cases hy
             exact hin)))
           have q0:¬(q:Int) < 0:=by omega
           clear kf hB hok hx hxm hBw hbb hbU hin hq
           go_upto_region 19 with fail
           go_still_tail 13,(by kernel_rfl)
           repeat still_step
           change wpList _ _ _ _ _ U.drew
           go_wp2_with (go_at_call 93;refine HU.out.1.mono ?_;rintro e W4 ⟨rfl,hB4⟩;have H4:=hide (HU.out.2.1.trans ((undrew9 hB4).mono HU.out.2.1.size));clear hB4)
           go_roundw
           case rel=>exact ⟨k+1,by omega,by go_num,HU.out.2.2,H4.out⟩
           case measure=>(simp [intOf];try omega)
          ·have hq:posE E x1 x2= -1:=posE_none hin
           rw [hq] at kf
           have hr:=HM.out.1
           rw [if_pos (List.any_eq_true.2 ⟨(x1,x2),hxm,by simpa using hin⟩)] at hr
           have HU:=hide (And.intro kf (And.intro hBw hr))
           clear kf hB hok hx hxm hBw hbb hbU hin hq hr
           go_upto_region 19 with fail
           go_still_tail 13,(by kernel_rfl)
           repeat still_step
           change wpList _ _ _ _ _ U.drew
           go_wp2_with (go_at_call 93;refine HU.out.1.mono ?_;rintro e W4 ⟨rfl,hB4⟩;have H4:=hide (HU.out.2.1.trans ((undrew9 hB4).mono HU.out.2.1.size));clear hB4)
           go_ret
           exact ⟨by rw [HU.out.2.2];rfl,H4.out⟩
         ·obtain rfl:k=nc:=by omega
          have j1:¬(k:Int) < (k:Int):=by omega
          have hr:=HM.out.1
          rw [if_neg (by
           rw [List.any_eq_true]
           rintro ⟨e,he,h⟩
           obtain ⟨k',hk'⟩:=List.mem_iff_getElem?.1 he
           have:=hok k' e (by rw [HS.out.2.2.2.2.1];exact (List.getElem?_eq_some_iff.1 hk').1) hk'
           simp [this] at h)] at hr
          obtain ⟨M,hM⟩:∃M,M=manyE c.details sn (3*i / 2):=⟨_,rfl⟩
          rw [←hM] at hr
          have HU:=hide (And.intro hr (And.intro hM (And.intro hBw hbU)))
          clear hr hM hok hB hBw hbU
          go_upto_region 23 with fail
          go_loopw [10,11] (fun nv kv wr=>∃(j q m:Nat),j≤sn∧nv= .int .i64 q∧kv= .int .i64 j∧2*m=3*q∧q=4^j*i∧manyE (c.details.drop j) (sn - j) m=M∧wr=U) (fun _ kv _=>sn - (intOf kv).toNat)
          case atStart=>
           have hev:=HM.out.2.1
           exact ⟨0,i,3*i / 2,by omega,rfl,rfl,by omega,by simp,HU.out.2.1.symm,rfl⟩
          case round=>
           obtain ⟨j,q,m,hj,rfl,rfl,hm2,hq,hM,hw⟩:=hrel
           subst hw
           have hq4:q≤256*100000:=by
            rw [hq]
            refine Nat.mul_le_mul ?_ htl
            exact Nat.le_trans (Nat.pow_le_pow_right (by omega) (show j≤4 by omega)) (by decide)
           by_cases hjs:j < sn
           ·have l1:(j:Int) < (sn:Int):=by omega
            have t1:(3*(q:Int)).tdiv 2=(m:Int):=by rw [Int.tdiv_eq_ediv_of_nonneg (by omega)];omega
            have t2:(3*(q:Int)) / 2=(m:Int):=by omega
            have hsub:sn - j=(sn - (j+1))+1:=by omega
            rw [hsub] at hM
            by_cases hjn:j < nd
            ·have l2:(j:Int) < (nd:Int):=by omega
             obtain ⟨d,hd⟩:∃d,c.details[j]? =some d:=⟨_,List.getElem?_eq_getElem (by rw [←HS.out.2.2.2.2.2.2.1];exact hjn)⟩
             rw [manyE_drop hd] at hM
             obtain ⟨bd,od,Ax,kx,hAd,hbd,cd,_⟩:=HS.out.1.det hd
             subst hAd
             have cd:=(HU.out.2.2.1.cell (p:=⟨bd,od+j,none⟩) hbd).trans cd
             have hbdU:bd < wr.heap.size:=Nat.lt_of_lt_of_le hbd HU.out.2.2.1.size
             obtain ⟨dl,hdl2⟩:∃n,n=d.length:=⟨_,rfl⟩
             rw [←hdl2] at hM cd
             have hdl3:dl≤1000000:=by rw [hdl2];exact HS.out.2.1.dd d (List.mem_of_getElem? hd)
             by_cases hov:m < dl
             ·have hr:=HU.out.1
              rw [←hM,decide_eq_true hov,Bool.true_or,Bool.true_or,if_pos rfl] at hr
              have HQ:=hide hr
              have l3:(m:Int) < (dl:Int):=by omega
              clear hr hM hd hq hm2 hsub hdl2 hbd
              go_wp2
              go_ret
              exact ⟨by rw [HQ.out];rfl,HU.out.2.2.1⟩
             ·rw [decide_eq_false hov,Bool.false_or] at hM
              have HQ:=hide (And.intro hM (And.intro hq hm2))
              have l3:¬(m:Int) < (dl:Int):=by omega
              clear hM hd hq hm2 hsub hdl2 hbd
              go_wp2
              go_roundw
              case rel=>exact ⟨j+1,4*q,4*m,by omega,by go_num,by go_num,by have:=HQ.out.2.2;omega,by rw [HQ.out.2.1,Nat.pow_succ,←Nat.mul_assoc,Nat.mul_comm 4],HQ.out.1,by trivial⟩
              case measure=>(simp [intOf];try omega)
            ·have l2:¬(j:Int) < (nd:Int):=by omega
             have hnil:c.details.drop j= []:=List.drop_eq_nil_of_le (by rw [←HS.out.2.2.2.2.2.2.1];omega)
             have hnil2:c.details.drop (j+1)= []:=List.drop_eq_nil_of_le (by rw [←HS.out.2.2.2.2.2.2.1];omega)
             rw [hnil,manyE_nil] at hM
             have HQ:=hide (And.intro (show manyE (c.details.drop (j+1)) (sn - (j+1)) (4*m)=M by rw [hnil2,manyE_nil];exact hM) (And.intro hq hm2))
             clear hM hq hm2 hsub hnil hnil2
             go_wp2
             go_roundw
             case rel=>exact ⟨j+1,4*q,4*m,by omega,by go_num,by go_num,by have:=HQ.out.2.2;omega,by rw [HQ.out.2.1,Nat.pow_succ,←Nat.mul_assoc,Nat.mul_comm 4],HQ.out.1,by trivial⟩
             case measure=>(simp [intOf];try omega)
           ·obtain rfl:j=sn:=by omega
            have l1:¬(j:Int) < (j:Int):=by omega
            have hMf:M=false:=by rw [←hM,Nat.sub_self];unfold manyE;rfl
            have hr:=HU.out.1
            rw [hMf,Bool.false_or,←hq] at hr
            by_cases hqm:65536 < q
            ·rw [decide_eq_true hqm,if_pos rfl] at hr
             have l3:(65536:Int) < (q:Int):=by omega
             have HQ:=hide hr
             clear hr hM hMf hq hm2
             go_wp2
             go_ret
             exact ⟨by rw [HQ.out];rfl,HU.out.2.2.1⟩
            ·rw [decide_eq_false hqm,if_neg (by simp)] at hr
             have l3:¬(65536:Int) < (q:Int):=by omega
             obtain ⟨pw,mx,hpw,hmx,t1,t2,pb⟩:∃pw mx:Int,(16:Int)^j=pw∧2097151 / (16:Int)^j=mx∧(2097151:Int).tdiv pw=mx∧(2097151:Int) / pw=mx∧((1≤pw∧pw≤65536)∧0≤mx∧mx≤2097151):=by
              have hc:j=0∨j=1∨j=2∨j=3∨j=4:=by omega
              rcases hc with rfl | rfl | rfl | rfl | rfl <;>exact ⟨_,_,rfl,rfl,by decide,by decide,by decide⟩
             have kp:=fun W=>power_any j hs4 W
             simp only [hpw] at kp
             rw [hmx] at hr
             have krg:=HK.out.2.2 wr.drew HU.out.2.2.1.drew mx
             obtain ⟨f1,hf1⟩:∃f,f= !outR 0 mx c.points:=⟨_,rfl⟩
             rw [←hf1] at krg
             have HQ:=hide (And.intro hr (And.intro hf1 (And.intro kp krg)))
             clear hr hM hMf hq hm2 hpw hmx hf1 kp krg
             have pw0:¬pw=0:=by omega
             go_upto_region 30 with fail
             go_still_tail 6,(by kernel_rfl)
             repeat (first | still_step | still_call (HQ.out.2.2.1 _))
             change wpList _ _ _ _ _ wr.drew
             go_upto_region 31 with (go_at_call 67;refine HQ.out.2.2.2.mono ?_;rintro e W5 ⟨rfl,hB⟩;have H5:=hide (And.intro (HU.out.2.2.1.trans ((undrew9 hB).mono HU.out.2.2.1.size)) (HU.out.2.2.2.below (undrew9 hB) HU.out.2.2.2.lt));clear hB)
             clear z0 z1 z2 z3 z4 z5 hgl
             go_upto_region 32 with fail
             go_loopw [12,13] (fun fv kv wz=>∃l:Nat,l≤nd∧fv= .bool (f1 && (c.details.take l).all fun d=> !outR (-2097151) 2097151 d)∧kv= .int .i64 l∧Below W5.heap.size W5 wz) (fun _ kv _=>nd - (intOf kv).toNat)
             case atStart=>exact ⟨0,by omega,by rw [List.take_zero];simp,rfl,Below.refl _ W5⟩
             case round=>
              obtain ⟨l,hl,rfl,rfl,hB⟩:=hrel
              obtain ⟨Q,rfl⟩:∃x,x=wr:=⟨_,rfl⟩
              have hbQ:=H5.out.2.below hB H5.out.2.lt
              obtain ⟨z0,z1,z2,z3,z4,z5⟩:=hbQ.six9
              have hgl:=hbQ.lt
              have hBw:=H5.out.1.trans (hB.mono H5.out.1.size)
              obtain ⟨F,hF⟩:∃F,F=(f1 && (c.details.take l).all fun d=> !outR (-2097151) 2097151 d):=⟨_,rfl⟩
              rw [←hF]
              by_cases hln:l < nd
              ·have l2:(l:Int) < (nd:Int):=by omega
               obtain ⟨d,hd⟩:∃d,c.details[l]? =some d:=⟨_,List.getElem?_eq_getElem (by rw [←HS.out.2.2.2.2.2.2.1];exact hln)⟩
               obtain ⟨bd,od,Ax,kx,hAd,hbd,cd,hsd2⟩:=HS.out.1.det hd
               subst hAd
               have cd:=(hBw.cell (p:=⟨bd,od+l,none⟩) hbd).trans cd
               have hbdQ:bd < Q.heap.size:=Nat.lt_of_lt_of_le hbd hBw.size
               have hdl3:d.length≤1000000:=HS.out.2.1.dd d (List.mem_of_getElem? hd)
               have kd:=ranged_any Ax kx d (-2097151) 2097151 Q ((hsd2.below hBw).more hBw.size) (by omega)
               have hF2:(f1 && (c.details.take (l+1)).all fun d=> !outR (-2097151) 2097151 d)=(F && !outR (-2097151) 2097151 d):=by rw [List.take_add_one,hd,hF,Option.toList_some,List.all_append,Bool.and_assoc];simp
               obtain ⟨fd,hfd⟩:∃f,f= !outR (-2097151) 2097151 d:=⟨_,rfl⟩
               obtain ⟨dl,hdl2⟩:∃n,n=d.length:=⟨_,rfl⟩
               rw [←hfd] at kd hF2
               rw [←hdl2] at kd cd
               have HD:=hide (And.intro hF2 (And.intro kd hB))
               clear hF2 kd hB hd hsd2 hfd hdl2 hdl3 hbd hbQ hBw hF
               cases F with
               | true=>
                go_wp2_with (go_at_call 67;refine HD.out.2.1.mono ?_;rintro e W6 ⟨rfl,hB6⟩;have H6:=hide (HD.out.2.2.trans (hB6.mono HD.out.2.2.size));clear hB6)
                go_roundw
                case rel=>exact ⟨l+1,by omega,by rw [HD.out.1];simp,by go_num,H6.out⟩
                case measure=>(simp [intOf];try omega)
               | false=>
                go_wp2
                go_roundw
                case rel=>exact ⟨l+1,by omega,by rw [HD.out.1];simp,by go_num,HD.out.2.2⟩
                case measure=>(simp [intOf];try omega)
              ·obtain rfl:l=nd:=by omega
               have l2:¬(l:Int) < (l:Int):=by omega
               have hr:=HQ.out.1
               have ht:c.details.take l=c.details:=by rw [HS.out.2.2.2.2.2.2.1];exact List.take_length
               rw [ht] at hF
               have hFf:(outR 0 mx c.points || c.details.any (outR (-2097151) 2097151))= !F:=by
                rw [hF,HQ.out.2.1,Bool.not_and,Bool.not_not,←List.not_any_eq_all_not,Bool.not_not]
               rw [hFf] at hr
               have HD:=hide (And.intro hr hBw)
               clear hr ht hF hFf hB hbQ hBw
               cases F with
               | true=>
                go_wp2
                go_ret
                exact ⟨by rw [HD.out.1];rfl,HD.out.2⟩
               | false=>
                go_wp2
                go_ret
                exact ⟨by rw [HD.out.1];rfl,HD.out.2⟩
       ·have hr:=HR.out.2.2.1 HA.out HI.out.1 (by rw [←HV.out.2.2.2];exact hc0)
        have HQ:=hide hr
        have hne:(ck !=0)=true:=by simpa using hc0
        clear hr
        go_wp2_with (go_at_call 70;refine HV.out.2.2.1.mono ?_;rintro e W2 ⟨rfl,hB⟩;have H2:=hide (HV.out.1.trans (hB.mono HV.out.1.size));clear hB)
        go_ret
        exact ⟨by rw [HQ.out,←HV.out.2.2.2];rfl,H2.out⟩
end Go.Proofs.YtmemofonebphfaaGreat
namespace Go.Proofs.YtmemofonebphfaaGreat
open Go.RowKit Go.Sort
theorem begin_p (c:Ctl):c.begin.p=c.points.map fun p=>timesP p (16^c.steps.toNat):=by
 unfold Ctl.begin
 refine List.map_congr_left fun p _=> ?_
 simp [plusP,timesP]
theorem beg_end9 {w X0 Z:World} {g1 g2 g3 nt ct NC c9:Nat} {At A9:Option Addr} {cs1 cs2:Array Value} {CR:List E2} (hb1:Blk X0 g1 32 cs1) (hb2:Blk X0 g2 108 cs2) (hB0:Below w.heap.size w X0) (hb3:Blk Z g3 108 #[.slice none 0 0, .slice none 0 0, .slice none 0 0]) (hBZ:Below X0.heap.size X0 Z) (hs:Sl encE2 2 Z Z.heap.size A9 CR) (hg:g3≠g1∧g3≠g2∧w.heap.size≤g3):
  ∃(g:Nat) (A:Option Addr) (c:Nat),Value.pointer (some ⟨g3,0,none⟩)= .pointer (some ⟨g,0,none⟩)∧Blk (((Z.setCell ⟨g3,0,none⟩ (.slice none 0 0)).setCell ⟨g3,1,none⟩ (.slice At nt ct)).setCell ⟨g3,2,none⟩ (.slice A9 NC c9)) g 108 #[.slice none 0 0, .slice At nt ct, .slice A NC c]∧Blk (((Z.setCell ⟨g3,0,none⟩ (.slice none 0 0)).setCell ⟨g3,1,none⟩ (.slice At nt ct)).setCell ⟨g3,2,none⟩ (.slice A9 NC c9)) g1 32 cs1∧Blk (((Z.setCell ⟨g3,0,none⟩ (.slice none 0 0)).setCell ⟨g3,1,none⟩ (.slice At nt ct)).setCell ⟨g3,2,none⟩ (.slice A9 NC c9)) g2 108 cs2∧Sl encE2 2 (((Z.setCell ⟨g3,0,none⟩ (.slice none 0 0)).setCell ⟨g3,1,none⟩ (.slice At nt ct)).setCell ⟨g3,2,none⟩ (.slice A9 NC c9)) (((Z.setCell ⟨g3,0,none⟩ (.slice none 0 0)).setCell ⟨g3,1,none⟩ (.slice At nt ct)).setCell ⟨g3,2,none⟩ (.slice A9 NC c9)).heap.size A CR∧(w.heap.size≤g∧g1≠g∧g2≠g)∧Below w.heap.size w (((Z.setCell ⟨g3,0,none⟩ (.slice none 0 0)).setCell ⟨g3,1,none⟩ (.slice At nt ct)).setCell ⟨g3,2,none⟩ (.slice A9 NC c9)):=by
 refine ⟨g3,A9,c9,rfl,hb3.set3 _ _ _,(hb1.below hBZ hb1.lt).far3 hg.1.symm _ _ _,(hb2.below hBZ hb2.lt).far3 hg.2.1.symm _ _ _,?_,⟨hg.2.2,hg.1.symm,hg.2.1.symm⟩,?_⟩
 ·have h1:=Sl.far9 hs hb3 (fun x _=>no_int3 x) 0 (.slice none 0 0) (Nat.le_refl _)
  have h2:=Sl.far9 h1 (hb3.set_ 0 (.slice none 0 0)) (fun x _=>no_int3 x) 1 (.slice At nt ct) (Nat.le_refl _)
  have h3:=Sl.far9 h2 ((hb3.set_ 0 (.slice none 0 0)).set_ 1 (.slice At nt ct)) (fun x _=>no_int3 x) 2 (.slice A9 NC c9) (Nat.le_refl _)
  exact h3.more (by simp)
 ·have h:=hB0.trans (hBZ.mono hB0.size)
  exact ((h.setCell (p:=⟨g3,0,none⟩) hg.2.2 _).setCell (p:=⟨g3,1,none⟩) hg.2.2 _).setCell (p:=⟨g3,2,none⟩) hg.2.2 _
set_option maxRecDepth 100000 in
set_option maxHeartbeats 64000000 in
theorem begin9_any (Ap At Ac Ao Ad:Option Addr) (cp ct cc oc nd dc:Nat) (c:Ctl) (w:World) (hm:CtlM w w.heap.size Ap At Ac Ao Ad c) (hb:CtlB c) (hs:0≤c.steps∧c.steps≤4) (hf:∀e∈c.creases,fits2 e):
  Calls Tryz.prog 62 #[vCtl Ap c.points.length cp At c.tris.length ct Ac c.creases.length cc Ao c.corners.length oc c.steps Ad nd dc] w fun e w'=>∃Ap' cp' Ac' cc',e= .returned (hLev Ap' c.begin.p.length cp' At c.tris.length ct Ac' c.begin.cr.length cc')∧Own encP 3 43 w' w.heap.size (.slice Ap' c.begin.p.length cp') c.begin.p.length c.begin.p∧Sl encE2 2 w' w'.heap.size Ac' c.begin.cr∧Below w.heap.size w w':=by
 have kset:=fun (W:World) (hW:Below w.heap.size w W)=>set_any Ac cc c.creases W (hm.below hW hW.size).cr (by have:=hb.cr;omega) hf
 have hcr:c.begin.cr=setE c.creases:=rfl
 have hpp:=begin_p c
 have hpl2:c.begin.p.length=c.points.length:=List.length_map _
 obtain ⟨sn,hsn⟩:∃n:Nat,c.steps=n:=⟨c.steps.toNat,by omega⟩
 have hs4:sn≤4:=by omega
 rw [hsn,Int.toNat_natCast] at hpp
 obtain ⟨pw,hpw⟩:∃p,p=(16:Int)^sn:=⟨_,rfl⟩
 have kp:=fun W=>power_any sn hs4 W
 simp only [←hpw] at kp hpp
 obtain ⟨np,hnp⟩:∃n,n=c.points.length:=⟨_,rfl⟩
 obtain ⟨nt,hnt⟩:∃n,n=c.tris.length:=⟨_,rfl⟩
 obtain ⟨nc,hnc⟩:∃n,n=c.creases.length:=⟨_,rfl⟩
 obtain ⟨no,hno⟩:∃n,n=c.corners.length:=⟨_,rfl⟩
 have hpl:np≤100000:=by rw [hnp];exact hb.p
 obtain ⟨CR,hCR⟩:∃l,l=setE c.creases:=⟨_,rfl⟩
 rw [hpl2,hcr,←hCR,hsn,←hnp,←hnt,←hnc,←hno,hpp]
 simp only [←hCR,←hnc] at kset
 obtain ⟨NC,hNC⟩:∃n,n=CR.length:=⟨_,rfl⟩
 rw [←hNC]
 simp only [←hNC] at kset
 have hxx:∀i x,c.points[i]? =some x→((c.points.take (i+1)).map fun p=>timesP p pw)=((c.points.take i).map fun p=>timesP p pw)++ [timesP x pw]:=fun i x hx=>by rw [List.take_add_one,hx,List.map_append];rfl
 have HK:=hide (And.intro kset (And.intro kp (And.intro hxx (And.intro hm hnp))))
 clear kset kp hxx hm hb hf hcr hpp hpl2 hpw hnp hnt hnc hno hCR hNC hs hsn
 go_enter Tryz.func62,Tryz.ntmps62
 go_upto_region 1 with fail
 obtain ⟨g1,hg1⟩:∃g,g=w.heap.size:=⟨_,rfl⟩
 obtain ⟨g2,hg2⟩:∃g,g=w.heap.size+1:=⟨_,rfl⟩
 obtain ⟨X0,hX⟩:∃W,W=(w.alloc (.cells (cCtl Ap np cp At nt ct Ac nc cc Ao no oc sn Ad nd dc) 32)).alloc (.cells #[.slice none 0 0, .slice none 0 0, .slice none 0 0] 108):=⟨_,rfl⟩
 rw [←hX,←hg2,←hg1]
 have hb1:Blk X0 g1 32 (cCtl Ap np cp At nt ct Ac nc cc Ao no oc sn Ad nd dc):=by rw [hX,hg1];exact (Blk.new _ _ _).alloc _
 have hb2:Blk X0 g2 108 #[.slice none 0 0, .slice none 0 0, .slice none 0 0]:=by rw [hX,hg2];exact Blk.new' _ _ _ _ (by simp)
 have hBX:Below w.heap.size w X0:=by rw [hX];exact ((Below.refl _ w).alloc (Nat.le_refl _) _).alloc (by simp) _
 have hgs:w.heap.size≤g1∧w.heap.size≤g2∧g1≠g2:=by omega
 have H0:=hide (And.intro hb1 (And.intro hb2 (And.intro hBX hgs)))
 clear hb1 hb2 hBX hX hg1 hg2 hgs
 go_cut [3] (fun v wx=>∃(g3:Nat) (A9:Option Addr) (c9:Nat),v= .pointer (some ⟨g3,0,none⟩)∧Blk wx g3 108 #[.slice none 0 0, .slice At nt ct, .slice A9 NC c9]∧Blk wx g1 32 (cCtl Ap np cp At nt ct Ac nc cc Ao no oc sn Ad nd dc)∧Blk wx g2 108 #[.slice none 0 0, .slice none 0 0, .slice none 0 0]∧Sl encE2 2 wx wx.heap.size A9 CR∧(w.heap.size≤g3∧g1≠g3∧g2≠g3)∧Below w.heap.size w wx)
 case first=>
  obtain ⟨B0,hB0⟩:∃n,n=X0.heap.size:=⟨_,rfl⟩
  have HB0:=hide hB0
  have HSB:=hide (show Below B0 X0 X0.drew from by rw [hB0];exact (Below.refl _ X0).drew)
  clear hB0
  have z1:=H0.out.1.cell 1
  have z2:=H0.out.1.cell 2
  have hgl:g1 < B0:=by rw [HB0.out];exact H0.out.1.lt
  have HZ:=hide (And.intro z1 (And.intro z2 hgl))
  clear z1 z2 hgl
  refine wp_region_tree (fun W=>Below B0 X0 W) [0,1,2,3,5] (.q 0 (.q 1 (.q 2 (.q 3 (.two 4 (.q 5 (.one 6 (.one 7 .nil))) 6 (.one 4 (.q 5 (.one 7 .nil)))))))) mixed_ok (by kernel_rfl) ?_
  refine wpMixT_q (v:=(.pointer (some ⟨g1,1,none⟩))) rfl (fun _ _ _ h=>h) HSB.out ⟨rfl,fun _ _=>by simp [go_sem]⟩ ?_
  refine wpMixT_q (v:=(.slice At nt ct)) rfl (fun _ _ _ h=>h) HSB.out ⟨rfl,fun _ h'=>by have a0:=(h'.cell (p:=⟨g1,1,none⟩) HZ.out.2.2).trans HZ.out.1;simp [go_sem,a0]⟩ ?_
  refine wpMixT_q (v:=(.pointer (some ⟨g1,2,none⟩))) rfl (fun _ _ _ h=>h) HSB.out ⟨rfl,fun _ _=>by simp [go_sem]⟩ ?_
  refine wpMixT_q (v:=(.slice Ac nc cc)) rfl (fun _ _ _ h=>h) HSB.out ⟨rfl,fun _ h'=>by have a0:=(h'.cell (p:=⟨g1,2,none⟩) HZ.out.2.2).trans HZ.out.2.1;simp [go_sem,a0]⟩ ?_
  simp only [List.getElem_toArray,List.getElem_cons_succ,List.getElem_cons_zero,Act.put,List.setIfInBounds_toArray,List.set_cons_succ,List.set_cons_zero]
  refine wpMixT_two rfl rfl ?_ ?_
  ·skip
   go_wp2_with fail
   refine (HK.out.1 X0.drew (H0.out.2.2.1.drew)).mono ?_
   rintro e W1 ⟨A9,c9,rfl,hs9,hB⟩
   have hB:=undrew9 hB
   have H1:=hide (And.intro hB (And.intro hs9 (show Below B0 X0 W1 from HB0.out▸hB)))
   clear hB hs9
   go_wp2_with fail
   refine ⟨fun _=>H1.out.2.2,?_⟩
   refine wpMixT_q (v:=(.agg #[.slice none 0 0, .slice At nt ct, .slice A9 NC c9])) rfl (fun _ _ _ h=>h) H1.out.2.2 ⟨rfl,fun _ _=>by simp [go_sem]⟩ ?_
   simp only [List.getElem_toArray,List.getElem_cons_succ,List.getElem_cons_zero,Act.put,List.setIfInBounds_toArray,List.set_cons_succ,List.set_cons_zero]
   refine wpMixT_one rfl ?_
   go_wp2_with fail
   obtain ⟨g3,hg3⟩:∃g,g=W1.heap.size:=⟨_,rfl⟩
   obtain ⟨Z,hZ⟩:∃W,W=W1.alloc (.cells #[.slice none 0 0, .slice none 0 0, .slice none 0 0] 108):=⟨_,rfl⟩
   have hbZ:Blk Z g3 108 #[.slice none 0 0, .slice none 0 0, .slice none 0 0]:=by rw [hZ,hg3];exact Blk.new _ _ _
   have hBZ:Below X0.heap.size X0 Z:=by rw [hZ];exact H1.out.1.alloc H1.out.1.size _
   have hsZ:Sl encE2 2 Z Z.heap.size A9 CR:=by rw [hZ];exact (H1.out.2.1.below ((Below.refl _ W1).alloc (Nat.le_refl _) _)).more (by simp)
   have hg3g:g3≠g1∧g3≠g2∧w.heap.size≤g3:=by have h1:=H0.out.1.lt;have h2:=H0.out.2.1.lt;have h3:=H1.out.1.size;have h4:=H0.out.2.2.1.size;omega
   rw [←hZ,←hg3]
   have HZZ:=hide (And.intro hbZ (And.intro hBZ (And.intro hsZ hg3g)))
   have HZS:=hide (show Below B0 X0 Z from HB0.out▸hBZ)
   clear hZ hg3 hBZ hsZ hg3g
   refine ⟨fun _=>HZS.out,?_⟩
   refine wpMixT_one rfl ?_
   have f0:=hbZ.frozen 0
   have f1:=hbZ.frozen 1
   have f2:=hbZ.frozen 2
   have hlz:=hbZ.lt
   have k0:=hbZ.cell 0
   have k1:=hbZ.cell 1
   have k2:=hbZ.cell 2
   clear hbZ
   go_wp2_with fail
   refine ⟨fun h=>absurd (h.symm.trans (show _=false by kernel_rfl)) (by simp),?_⟩
   refine wpMixT_nil ?_
   go_wp2_with fail
   go_meet
   case rel=>
    exact beg_end9 H0.out.1 H0.out.2.1 H0.out.2.2.1 HZZ.out.1 HZZ.out.2.1 HZZ.out.2.2.1 HZZ.out.2.2.2
  ·skip
   go_wp2_with fail
   obtain ⟨g3,hg3⟩:∃g,g=X0.heap.size:=⟨_,rfl⟩
   obtain ⟨Y,hY⟩:∃W,W=(X0.alloc (.cells #[.slice none 0 0, .slice none 0 0, .slice none 0 0] 108)).drew:=⟨_,rfl⟩
   have hbY:Blk Y g3 108 #[.slice none 0 0, .slice none 0 0, .slice none 0 0]:=by rw [hY,hg3];exact Blk.new X0 _ _
   have hBY:Below X0.heap.size X0 Y:=by rw [hY];exact ((Below.refl _ X0).alloc (Nat.le_refl _) _).drew
   have hg3g:g3≠g1∧g3≠g2∧w.heap.size≤g3:=by have h1:=H0.out.1.lt;have h2:=H0.out.2.1.lt;have h4:=H0.out.2.2.1.size;omega
   rw [←hY,←hg3]
   have HY:=hide (And.intro hbY (And.intro hBY hg3g))
   have HYS:=hide (show Below B0 X0 Y from HB0.out▸hBY)
   clear hY hg3 hBY hg3g hbY
   refine ⟨fun _=>HYS.out,?_⟩
   refine wpMixT_one rfl ?_
   go_wp2_with fail
   refine (HK.out.1 Y (H0.out.2.2.1.trans (HY.out.2.1.mono H0.out.2.2.1.size))).mono ?_
   rintro e W1 ⟨A9,c9,rfl,hs9,hB⟩
   have hbZ:=HY.out.1.below hB HY.out.1.lt
   have H1:=hide (And.intro (HY.out.2.1.trans (hB.mono HY.out.2.1.size)) (And.intro hs9 hbZ))
   have HYT:=hide (show Below B0 X0 W1 from HB0.out▸H1.out.1)
   clear hB hs9
   go_wp2_with fail
   refine ⟨fun _=>HYT.out,?_⟩
   refine wpMixT_q (v:=(.agg #[.slice none 0 0, .slice At nt ct, .slice A9 NC c9])) rfl (fun _ _ _ h=>h) HYT.out ⟨rfl,fun _ _=>by simp [go_sem]⟩ ?_
   simp only [List.getElem_toArray,List.getElem_cons_succ,List.getElem_cons_zero,Act.put,List.setIfInBounds_toArray,List.set_cons_succ,List.set_cons_zero]
   refine wpMixT_one rfl ?_
   have f0:=hbZ.frozen 0
   have f1:=hbZ.frozen 1
   have f2:=hbZ.frozen 2
   have hlz:=hbZ.lt
   have k0:=hbZ.cell 0
   have k1:=hbZ.cell 1
   have k2:=hbZ.cell 2
   clear hbZ
   go_wp2_with fail
   refine ⟨fun h=>absurd (h.symm.trans (show _=false by kernel_rfl)) (by simp),?_⟩
   refine wpMixT_nil ?_
   go_wp2_with fail
   go_meet
   case rel=>
    exact beg_end9 H0.out.1 H0.out.2.1 H0.out.2.2.1 H1.out.2.2 H1.out.1 H1.out.2.1 HY.out.2.2
 case rest=>
  obtain ⟨g3,A9,c9,rfl,hb3,hb1,hb2,hs9,hgg,hB⟩:=hcut
  obtain ⟨X,rfl⟩:∃x,x=wc:=⟨_,rfl⟩
  have HX:=hide (And.intro hb3 (And.intro hb1 (And.intro hb2 (And.intro hs9 (And.intro hgg hB)))))
  clear hb3 hb1 hb2 hs9 hgg hB
  go_upto_region 3 with fail
  go_loopw [4] (fun iv wr=>∃(i:Nat) (vp:Value),i≤np∧iv= .int .i64 i∧Blk wr g3 108 #[vp, .slice At nt ct, .slice A9 NC c9]∧Blk wr g1 32 (cCtl Ap np cp At nt ct Ac nc cc Ao no oc sn Ad nd dc)∧Blk wr g2 108 #[.slice none 0 0, .slice none 0 0, .slice none 0 0]∧Own encP 3 43 wr X.heap.size vp i ((c.points.take i).map fun p=>timesP p pw)∧Sl encE2 2 wr X.heap.size A9 CR∧Below w.heap.size w wr∧X.heap.size≤wr.heap.size) (fun iv _=>np - (intOf iv).toNat)
  case atStart=>exact ⟨0,_,by omega,rfl,HX.out.1,HX.out.2.1,HX.out.2.2.1,by rw [List.take_zero];exact Own.nil,HX.out.2.2.2.1,HX.out.2.2.2.2.2,Nat.le_refl _⟩
  case round=>
   obtain ⟨i,vp,hi,rfl,hb3,hb1,hb2,hO,hs9,hB,hz⟩:=hrel
   obtain ⟨V,rfl⟩:∃x,x=wr:=⟨_,rfl⟩
   obtain ⟨Av,cv,rfl⟩:=hO.form
   have z0:=hb1.cell 0
   have z4:=hb1.cell 4
   have hgl:=hb1.lt
   have y0:=hb3.cell 0
   have hgl3:=hb3.lt
   by_cases hlt:i < np
   ·have i1:(i:Int) < (np:Int):=by omega
    obtain ⟨x,hx⟩:∃x,c.points[i]? =some x:=⟨_,List.getElem?_eq_getElem (by rw [←HK.out.2.2.2.2];exact hlt)⟩
    obtain ⟨bb,o,hA,hbb,_⟩:=HK.out.2.2.2.1.p.at hx
    subst hA
    have qx:=HK.out.2.2.2.1.p.ptW (Nat.le_refl _) hx
    obtain ⟨c0,c1,c2,hbV⟩:=qx.2 V hB
    have htk:=HK.out.2.2.1 i x hx
    have ct:=times_any x pw
    obtain ⟨r,hr⟩:∃r,r=timesP x pw:=⟨_,rfl⟩
    rw [←hr] at htk ct
    obtain ⟨r1,r2,r3⟩:=r
    obtain ⟨x1,x2,x3⟩:=x
    simp only at c0 c1 c2
    have HV:=hide (And.intro hO (And.intro hb3 (And.intro hb1 (And.intro hb2 (And.intro hs9 (And.intro hB (And.intro htk ct)))))))
    have HM:=hide (And.intro z0 (And.intro z4 (And.intro hgl (And.intro y0 (And.intro hgl3 (And.intro c0 (And.intro c1 (And.intro c2 hbV))))))))
    clear hO hb3 hb1 hb2 hs9 hB htk ct z4 y0 hgl3 c0 c1 c2 hbV hr hx hbb qx
    go_upto_region 5 with fail
    clear z0 hgl
    have HSB:=hide (show Below V.heap.size V V.drew from (Below.refl _ V).drew)
    refine wp_region_mix (fun W=>Below V.heap.size V W) [0,1,2,3,4,5,6,7,8] [0,1,2,3,4,5,6,7,8,9,10,11,12,13,14] mixed_ok (by kernel_rfl) ?_
    refine wpMix_q (v:=(.pointer (some ⟨g3,0,none⟩))) rfl rfl (fun _ _ _ h=>h) HSB.out ⟨rfl,fun _ _=>by simp [go_sem]⟩ ?_
    refine wpMix_q (v:=(.slice Av i cv)) rfl rfl (fun _ _ _ h=>h) HSB.out ⟨rfl,fun _ h'=>by have a0:=(h'.cell (p:=⟨g3,0,none⟩) HM.out.2.2.2.2.1).trans HM.out.2.2.2.1;simp [go_sem,a0]⟩ ?_
    refine wpMix_q (v:=(.pointer (some ⟨g1,0,none⟩))) rfl rfl (fun _ _ _ h=>h) HSB.out ⟨rfl,fun _ _=>by simp [go_sem]⟩ ?_
    refine wpMix_q (v:=(.slice (some ⟨bb,o,none⟩) np cp)) rfl rfl (fun _ _ _ h=>h) HSB.out ⟨rfl,fun _ h'=>by have a0:=(h'.cell (p:=⟨g1,0,none⟩) HM.out.2.2.1).trans HM.out.1;simp [go_sem,a0]⟩ ?_
    refine wpMix_q (v:=(.int .i64 i)) rfl rfl (fun _ _ _ h=>h) HSB.out ⟨rfl,fun _ _=>by simp [go_sem]⟩ ?_
    refine wpMix_q (v:=(.pointer (some ⟨bb,o+i*3,none⟩))) rfl rfl (fun _ _ _ h=>h) HSB.out ⟨rfl,fun _ _=>by simp [go_sem,i1]⟩ ?_
    simp only [List.getElem_toArray,List.getElem_cons_succ,List.getElem_cons_zero,Act.put,List.setIfInBounds_toArray,List.set_cons_succ,List.set_cons_zero]
    refine wpMix_q (v:=vP (x1,x2,x3)) rfl rfl (fun _ _ _ h=>h) HSB.out ⟨rfl,fun _ h'=>by have a0:=(h'.cell (p:=⟨bb,o+i*3,none⟩) HM.out.2.2.2.2.2.2.2.2).trans HM.out.2.2.2.2.2.1;have a1:=(h'.cell (p:=⟨bb,o+i*3+1,none⟩) HM.out.2.2.2.2.2.2.2.2).trans HM.out.2.2.2.2.2.2.1;have a2:=(h'.cell (p:=⟨bb,o+i*3+2,none⟩) HM.out.2.2.2.2.2.2.2.2).trans HM.out.2.2.2.2.2.2.2.1;simp [go_sem,a0,a1,a2]⟩ ?_
    refine wpMix_q (v:=(.pointer (some ⟨g1,4,none⟩))) rfl rfl (fun _ _ _ h=>h) HSB.out ⟨rfl,fun _ _=>by simp [go_sem]⟩ ?_
    refine wpMix_q (v:=(.int .i64 sn)) rfl rfl (fun _ _ _ h=>h) HSB.out ⟨rfl,fun _ h'=>by have a0:=(h'.cell (p:=⟨g1,4,none⟩) HM.out.2.2.1).trans HM.out.2.1;simp [go_sem,a0]⟩ ?_
    simp only [List.getElem_toArray,List.getElem_cons_succ,List.getElem_cons_zero,Act.put,List.setIfInBounds_toArray,List.set_cons_succ,List.set_cons_zero]
    refine wpMix_n rfl rfl ?_
    go_wp2_with fail
    refine (HK.out.2.1 V.drew).mono ?_
    rintro e Wq ⟨rfl,hWq⟩
    obtain rfl:V.drew=Wq:=hWq.symm
    go_wp2_with fail
    refine ⟨fun _=>HSB.out,?_⟩
    refine wpMix_n rfl rfl ?_
    go_wp2_with fail
    refine (HV.out.2.2.2.2.2.2.2 V.drew).mono ?_
    rintro e W1 ⟨rfl,hB1⟩
    have H1:=hide (undrew9 hB1)
    clear hB1
    go_wp2_with fail
    refine ⟨fun _=>H1.out,?_⟩
    have hz1:=H1.out.size
    refine wpMix_n rfl rfl ?_
    go_wp2_with fail
    refine ⟨fun _=>H1.out.alloc hz1 _,?_⟩
    refine wpMix_tail _ [_,_,_] (by kernel_rfl) rfl ?_
    refine wpList_append1 rfl _ _ _ rfl Tryz.underlying28 infoP rfl (by omega) encP_len encP_one rfl ((HV.out.1.below H1.out (Nat.le_refl _)).alloc _) W1.heap.size 1 ((r1,r2,r3):Pt) rfl (Blk.new _ _ _) (by unfold maxLen;omega) (by omega) (by simp;omega) ?_
    intro g5 cap5 w5 hown5 hg5 hB5 hat5 hgb5 hlt5
    have hBV:Below V.heap.size V (W1.alloc (.cells #[.int .i64 r1, .int .i64 r2, .int .i64 r3] 43)):=H1.out.alloc hz1 _
    have hro:∀{g:Nat} {t:TypeId} {cs:Array Value},Blk V g t cs→(43:TypeId)≠t→Blk w5 g t cs:=fun hb hte=>(hb.below hBV hb.lt).grown hg5 (blk_own_ne9 (hb.below hBV hb.lt) ((HV.out.1.below H1.out (Nat.le_refl _)).alloc _) hte)
    have hb3:=hro HV.out.2.1 (by decide)
    have hb1:=hro HV.out.2.2.1 (by decide)
    have hb2:=hro HV.out.2.2.2.1 (by decide)
    have hXw:w.heap.size≤X.heap.size:=HX.out.2.2.2.2.2.size
    have hBw:Below w.heap.size w w5:=(HV.out.2.2.2.2.2.1.trans (hBV.mono HV.out.2.2.2.2.2.1.size)).trans (hB5.mono hXw)
    have hs5:Sl encE2 2 w5 X.heap.size A9 CR:=(HV.out.2.2.2.2.1.below (hBV.mono hz)).below hB5
    have hz5:X.heap.size≤w5.heap.size:=Nat.le_trans (Nat.le_trans hz hBV.size) hB5.size
    have f0:=hb3.frozen 0
    have f3:=hb3.lt
    have k3:=hb3.cell 0
    have H5:=hide (And.intro hown5 (And.intro hb3 (And.intro hb1 (And.intro hb2 (And.intro hs5 (And.intro hBw hz5))))))
    clear hown5 hg5 hB5 hat5 hgb5 hlt5 hBV hro hb3 hb1 hb2 hBw hs5 hz5 hXw
    go_wp2_with fail
    go_roundw
    case rel=>
     have hgg:=HX.out.2.2.2.2.1
     exact ⟨i+1,_,by omega,by go_num,H5.out.2.1.set_ 0 _,H5.out.2.2.1.far (p:=⟨g3,0,none⟩) hgg.2.1 _,H5.out.2.2.2.1.far (p:=⟨g3,0,none⟩) hgg.2.2 _,by rw [HV.out.2.2.2.2.2.2.1];exact H5.out.1.kept (grown_set9 w5 g3 0 _) (.inr (blk_own_ne9 H5.out.2.1 H5.out.1 (by decide)).symm),Sl.far9 H5.out.2.2.2.2.1 H5.out.2.1 (fun x _=>no_int3 x) 0 _ (Nat.le_refl _),H5.out.2.2.2.2.2.1.setCell (p:=⟨g3,0,none⟩) hgg.1 _,by simp;exact H5.out.2.2.2.2.2.2⟩
    case measure=>(simp [intOf];try omega)
   ·obtain rfl:i=np:=by omega
    have i1:¬(i:Int) < (i:Int):=by omega
    have ht:c.points.take i=c.points:=by rw [HK.out.2.2.2.2];exact List.take_length
    rw [ht] at hO
    have y1:=hb3.cell 1
    have y2:=hb3.cell 2
    have f0:=hb2.frozen 0
    have f1:=hb2.frozen 1
    have f2:=hb2.frozen 2
    have l2:=hb2.lt
    have q0:=hb2.cell 0
    have q1:=hb2.cell 1
    have q2:=hb2.cell 2
    have HV:=hide (And.intro hO (And.intro hb2 (And.intro hs9 (And.intro hB hz))))
    clear hO hb2 hb1 hb3 hs9 hB ht
    go_wp2
    refine ret_at (v:=hLev Av i cv At nt ct A9 NC c9) (fun W=>Blk W g2 108 #[.slice Av i cv, .slice At nt ct, .slice A9 NC c9]) ?_ (fun W hW=> ?_) rfl ?_
    ·exact HV.out.2.1.set3 _ _ _
    ·obtain ⟨a0,a1,a2⟩:=hW.three
     simp [results,Tryz.results62,go_sem,a0,a1,a2]
    ·refine ⟨_,_,_,⟨_,rfl⟩,(HV.out.1.far9 HV.out.2.1 (by decide) _ _ _).base_le HX.out.2.2.2.2.2.size,?_,((HV.out.2.2.2.1.setCell (p:=⟨g2,0,none⟩) H0.out.2.2.2.2.1 _).setCell (p:=⟨g2,1,none⟩) H0.out.2.2.2.2.1 _).setCell (p:=⟨g2,2,none⟩) H0.out.2.2.2.2.1 _⟩
     have h1:=Sl.far9 HV.out.2.2.1 HV.out.2.1 (fun x _=>no_int3 x) 0 (.slice Av i cv) (Nat.le_refl _)
     have h2:=Sl.far9 h1 (HV.out.2.1.set_ 0 (.slice Av i cv)) (fun x _=>no_int3 x) 1 (.slice At nt ct) (Nat.le_refl _)
     have h3:=Sl.far9 h2 ((HV.out.2.1.set_ 0 (.slice Av i cv)).set_ 1 (.slice At nt ct)) (fun x _=>no_int3 x) 2 (.slice A9 NC c9) (Nat.le_refl _)
     exact h3.more (by simp;exact HV.out.2.2.2.2)
end Go.Proofs.YtmemofonebphfaaGreat
namespace Go.Proofs.YtmemofonebphfaaGreat
open Go.RowKit Go.Sort
theorem detE_nil (a:List Pt) (n:Int):detE a [] n=a:=by
 unfold detE
 refine List.ext_getElem? fun i=> ?_
 rw [List.getElem?_mapIdx]
 cases a[i]? <;>rfl
theorem detE_at {a ds:List Pt} {n:Int} {i j:Nat} {x:Pt} (hx:a[j]? =some x) (hj:i≤j):(detE a (ds.take i) n)[j]? =some x:=by
 unfold detE
 rw [List.getElem?_mapIdx,hx]
 have:(ds.take i)[j]? =none:=by rw [List.getElem?_take,if_neg (by omega)]
 show some (match (ds.take i)[j]? with | some d=>plusP x d n | none=>x)=some x
 rw [this]
theorem detE_set {a ds:List Pt} {n:Int} {i:Nat} {x d:Pt} (hx:a[i]? =some x) (hd:ds[i]? =some d):(detE a (ds.take i) n).set i (plusP x d n)=detE a (ds.take (i+1)) n:=by
 refine List.ext_getElem? fun j=> ?_
 rw [List.getElem?_set]
 split
 ·rename_i e
  subst e
  have hl:i < (detE a (ds.take i) n).length:=by rw [detE_len];exact (List.getElem?_eq_some_iff.1 hx).1
  rw [if_pos hl]
  unfold detE
  rw [List.getElem?_mapIdx,hx]
  have:(ds.take (i+1))[i]? =some d:=by rw [List.getElem?_take,if_pos (by omega)];exact hd
  show _=some (match (ds.take (i+1))[i]? with | some d=>plusP x d n | none=>x)
  rw [this]
 ·rename_i e
  unfold detE
  rw [List.getElem?_mapIdx,List.getElem?_mapIdx]
  have:(ds.take (i+1))[j]? =(ds.take i)[j]? :=by
   rw [List.getElem?_take,List.getElem?_take]
   by_cases h:j < i
   ·rw [if_pos h,if_pos (by omega)]
   ·rw [if_neg h,if_neg (by omega)]
  rw [this]
theorem plusP_ref (a d:Pt) (n:Int):addP a (timesP d n)=plusP a d n:=by
 simp only [addP,timesP,plusP,wrap64_add_r]
end Go.Proofs.YtmemofonebphfaaGreat
namespace Go.Proofs.YtmemofonebphfaaGreat
open Go.RowKit Go.Sort
structure FinS (w Y:World) (g1 g6:Nat) (ctl:Array Value) (Ap At Ac:Option Addr) (cp ct cc:Nat) (L:Lev):Prop where
 below:Below w.heap.size w Y
 b1:Blk Y g1 32 ctl
 b6:Blk Y g6 108 #[.slice Ap L.p.length cp, .slice At L.t.length ct, .slice Ac L.cr.length cc]
 own:Own encP 3 43 Y w.heap.size (.slice Ap L.p.length cp) L.p.length L.p
 t:Sl encN3 3 Y Y.heap.size At L.t
 c:Sl encE2 2 Y Y.heap.size Ac L.cr
 le:w.heap.size≤g6
 ne:g1≠g6
theorem FinS.lev {w Y:World} {g1 g6:Nat} {ctl:Array Value} {Ap At Ac:Option Addr} {cp ct cc:Nat} {L:Lev} (h:FinS w Y g1 g6 ctl Ap At Ac cp ct cc L):LevM Y Y.heap.size Ap At Ac L:=⟨h.own.sl encP_len (Nat.le_refl _),h.t,h.c⟩
theorem FinS.next {w Y W:World} {g1 g6:Nat} {ctl:Array Value} {Ap At Ac:Option Addr} {cp ct cc:Nat} {L:Lev} (h:FinS w Y g1 g6 ctl Ap At Ac cp ct cc L) (hB:Below Y.heap.size Y W):FinS w W g1 g6 ctl Ap At Ac cp ct cc L:=
 ⟨h.below.trans (hB.mono h.below.size),h.b1.below hB h.b1.lt,h.b6.below hB h.b6.lt,h.own.below hB (Nat.le_refl _),(h.t.below hB).more hB.size,(h.c.below hB).more hB.size,h.le,h.ne⟩
theorem no_intN {A B C:Option Addr} {a b c a' b' c':Nat} (x:Pt):∀u∈encN3 x,∀off:Nat,#[Value.slice A a a',Value.slice B b b',Value.slice C c c'][off]? ≠some u:=fun u hu off=>by
 have hc:off=0∨off=1∨off=2∨3≤off:=by omega
 simp only [encN3,List.mem_cons,List.not_mem_nil,or_false] at hu
 rcases hc with rfl | rfl | rfl | h3
 ·rcases hu with rfl | rfl | rfl <;>simp
 ·rcases hu with rfl | rfl | rfl <;>simp
 ·rcases hu with rfl | rfl | rfl <;>simp
 ·rw [Array.getElem?_eq_none (by simpa using h3)];simp
theorem fin_store {w W:World} {g1 g6:Nat} {ctl:Array Value} {Ap At Ac Bp Bt Bc:Option Addr} {cp ct cc np nt nc dp dt dc:Nat} {L:Lev} (hB:Below w.heap.size w W) (h1:Blk W g1 32 ctl) (h6:Blk W g6 108 #[.slice Bp np dp, .slice Bt nt dt, .slice Bc nc dc])
  (ho:Own encP 3 43 W w.heap.size (.slice Ap L.p.length cp) L.p.length L.p) (ht:Sl encN3 3 W W.heap.size At L.t) (hc:Sl encE2 2 W W.heap.size Ac L.cr) (hle:w.heap.size≤g6) (hne:g1≠g6):
  FinS w (((W.setCell ⟨g6,0,none⟩ (.slice Ap L.p.length cp)).setCell ⟨g6,1,none⟩ (.slice At L.t.length ct)).setCell ⟨g6,2,none⟩ (.slice Ac L.cr.length cc)) g1 g6 ctl Ap At Ac cp ct cc L:=by
 refine ⟨((hB.setCell (p:=⟨g6,0,none⟩) hle _).setCell (p:=⟨g6,1,none⟩) hle _).setCell (p:=⟨g6,2,none⟩) hle _,h1.far3 hne _ _ _,h6.set3 _ _ _,ho.far9 h6 (by decide) _ _ _,?_,?_,hle,hne⟩
 ·have a1:=Sl.far9 ht h6 (fun x _=>no_intN x) 0 (.slice Ap L.p.length cp) (Nat.le_refl _)
  have a2:=Sl.far9 a1 (h6.set_ 0 (.slice Ap L.p.length cp)) (fun x _=>no_intN x) 1 (.slice At L.t.length ct) (Nat.le_refl _)
  have a3:=Sl.far9 a2 ((h6.set_ 0 (.slice Ap L.p.length cp)).set_ 1 (.slice At L.t.length ct)) (fun x _=>no_intN x) 2 (.slice Ac L.cr.length cc) (Nat.le_refl _)
  exact a3.more (by simp)
 ·have a1:=Sl.far9 hc h6 (fun x _=>no_int3 x) 0 (.slice Ap L.p.length cp) (Nat.le_refl _)
  have a2:=Sl.far9 a1 (h6.set_ 0 (.slice Ap L.p.length cp)) (fun x _=>no_int3 x) 1 (.slice At L.t.length ct) (Nat.le_refl _)
  have a3:=Sl.far9 a2 ((h6.set_ 0 (.slice Ap L.p.length cp)).set_ 1 (.slice At L.t.length ct)) (fun x _=>no_int3 x) 2 (.slice Ac L.cr.length cc) (Nat.le_refl _)
  exact a3.more (by simp)
set_option maxRecDepth 100000 in
set_option maxHeartbeats 64000000 in
theorem Fine9_any (Ap At Ac Ao Ad:Option Addr) (cp ct cc oc dc:Nat) (c:Ctl) (w:World) (hm:CtlM w w.heap.size Ap At Ac Ao Ad c) (hb:CtlB c) (hfs:fits c.steps) (hnb:errC c=0→NoBack c.tris):
  Calls Tryz.prog 32 #[vCtl Ap c.points.length cp At c.tris.length ct Ac c.creases.length cc Ao c.corners.length oc c.steps Ad c.details.length dc] w fun e w'=>∃A1 c1 A2 c2,e= .returned (.tuple #[.slice A1 (finP c).length c1, .slice A2 (finT c).length c2, .int .i64 (errC c)])∧Own encP 3 43 w' w.heap.size (.slice A1 (finP c).length c1) (finP c).length (finP c)∧Own encN3 3 35 w' w.heap.size (.slice A2 (finT c).length c2) (finT c).length (finT c)∧Below w.heap.size w w':=by
 have kw:=fun (W:World) (hW:Below w.heap.size w W)=>Wrong9_any Ap At Ac Ao Ad cp ct cc oc dc c W (hm.below hW hW.size) hb hfs
 by_cases herr:errC c=0
 ·have hR:=right_of herr
  have hN:=hnb herr
  have hst:=hR.st
  have hf2:∀e∈c.creases,fits2 e:=fun e he=>by
   obtain ⟨hd,hl⟩:=mem_edgesE.1 (hR.cre e he)
   obtain ⟨x,hx,hx2⟩:=mem_dirE.1 hd
   have hi:=hR.idx x hx
   have hp:=hb.p
   have:0≤min e.1 e.2∧max e.1 e.2 < (c.points.length:Int):=by
    rcases mem_de3.1 hx2 with h | h | h <;>simp only [nrmE,Prod.mk.injEq] at h <;>omega
   constructor <;>unfold fits <;>omega
  have kb:=fun (W:World) (hW:Below w.heap.size w W)=>begin9_any Ap At Ac Ao Ad cp ct cc oc c.details.length dc c W (hm.below hW hW.size) hb hst hf2
  obtain ⟨sn,hsn⟩:∃n:Nat,c.steps=n:=⟨c.steps.toNat,by omega⟩
  have hsn':c.steps.toNat=sn:=by omega
  have hs4:sn≤4:=by omega
  have hLR:=fun k=>Ctl.level_right hR hN k
  have hLB:=fun k (hk:k≤sn)=>level_small hR hN hb (k:=k) (by rw [hsn'];exact hk)
  have hdf:=fun k d (hk:k < sn) (hd:c.details[k]? =some d)=>det_few hR hN (k:=k) (by rw [hsn'];exact hk) hd
  have hfp:finP c=(c.level sn).p:=by unfold finP;rw [if_pos herr,hsn']
  have hft:finT c=(c.level sn).t:=by unfold finT;rw [if_pos herr,hsn']
  have hlv:∀k,c.level (k+1)=(c.level k).step (detE ((c.level k).rules c.corners) (c.details.getD k []) (16^(sn - 1 - k))):=fun k=>by rw [←hsn'];rfl
  have hl0:c.level 0=c.begin:=rfl
  rw [hfp,hft,herr,hsn]
  rw [herr] at kw
  obtain ⟨np,hnp⟩:∃n,n=c.points.length:=⟨_,rfl⟩
  obtain ⟨nt,hnt⟩:∃n,n=c.tris.length:=⟨_,rfl⟩
  obtain ⟨nc,hnc⟩:∃n,n=c.creases.length:=⟨_,rfl⟩
  obtain ⟨no,hno⟩:∃n,n=c.corners.length:=⟨_,rfl⟩
  obtain ⟨nd,hnd⟩:∃n,n=c.details.length:=⟨_,rfl⟩
  have hnol:no≤100000:=by rw [hno];exact hb.o
  have hndl:nd≤sn:=by have:=hR.det;omega
  rw [←hnp,←hnt,←hnc,←hno,←hnd]
  simp only [←hnp,←hnt,←hnc,←hno,←hnd,hsn] at kw kb
  have HK:=hide (And.intro kw (And.intro kb (And.intro hLR (And.intro hLB (And.intro hdf (And.intro hlv hl0))))))
  have HM:=hide (And.intro hm (And.intro hb (And.intro hnt (And.intro hno hnd))))
  clear kw kb hLR hLB hdf hlv hl0 hm hb hnp hnt hnc hno hnd hR hN hst hf2 hsn hsn' hfp hft herr hnb hfs
  go_enter Tryz.func32,Tryz.ntmps32
  go_upto_region 1 with fail
  obtain ⟨g1,hg1⟩:∃g,g=w.heap.size:=⟨_,rfl⟩
  obtain ⟨X0,hX⟩:∃W,W=w.alloc (.cells (cCtl Ap np cp At nt ct Ac nc cc Ao no oc sn Ad nd dc) 32):=⟨_,rfl⟩
  rw [←hX,←hg1]
  have hb1:Blk X0 g1 32 (cCtl Ap np cp At nt ct Ac nc cc Ao no oc sn Ad nd dc):=by rw [hX,hg1];exact Blk.new _ _ _
  have hBX:Below w.heap.size w X0:=by rw [hX];exact (Below.refl _ w).alloc (Nat.le_refl _) _
  obtain ⟨z0,z1,z2,z3,z4,z5⟩:=hb1.six9
  have hgl:=hb1.lt
  have H0:=hide (And.intro hb1 hBX)
  clear hb1 hBX hX hg1
  go_upto_region 4 with (go_at_call 61;refine (HK.out.1 X0 H0.out.2).mono ?_;rintro e X1 ⟨rfl,hB⟩;have H1:=hide (And.intro (H0.out.1.below hB H0.out.1.lt) (H0.out.2.trans (hB.mono H0.out.2.size)));clear hB)
  clear z0 z1 z2 z3 z4 z5 hgl
  obtain ⟨z0,z1,z2,z3,z4,z5⟩:=H1.out.1.six9
  have hgl:=H1.out.1.lt
  go_upto_region 5 with (go_at_call 62;refine (HK.out.2.1 X1 H1.out.2).mono ?_;rintro e X2 ⟨Bp,bp,Bc,bc,rfl,ho,hsc,hB⟩;have H2:=hide (And.intro ho (And.intro hsc (And.intro (H1.out.1.below hB H1.out.1.lt) (H1.out.2.trans (hB.mono H1.out.2.size)))));clear ho hsc hB)
  clear z0 z1 z2 z3 z4 z5 hgl
  obtain ⟨g6,hg6⟩:∃g,g=X2.heap.size:=⟨_,rfl⟩
  obtain ⟨Y,hY⟩:∃W,W=X2.alloc (.cells #[.slice Bp c.begin.p.length bp, .slice At nt ct, .slice Bc c.begin.cr.length bc] 108):=⟨_,rfl⟩
  have hF0:FinS w Y g1 g6 (cCtl Ap np cp At nt ct Ac nc cc Ao no oc sn Ad nd dc) Bp At Bc bp ct bc (c.level 0):=by
   rw [HK.out.2.2.2.2.2.2]
   have hBY:Below X2.heap.size X2 Y:=by rw [hY];exact (Below.refl _ X2).alloc (Nat.le_refl _) _
   have h2:=H2.out.2.2.2
   refine ⟨h2.trans (hBY.mono h2.size),H2.out.2.2.1.below hBY H2.out.2.2.1.lt,?_,?_,?_,(H2.out.2.1.below hBY).more hBY.size,?_,?_⟩
   ·rw [hY,hg6,HM.out.2.2.1];exact Blk.new _ _ _
   ·exact (H2.out.1.below hBY (Nat.le_refl _)).base_le H1.out.2.size
   ·exact ((HM.out.1.t.below h2).below (hBY.mono h2.size)).more (Nat.le_trans h2.size hBY.size)
   ·rw [hg6];exact h2.size
   ·rw [hg6];exact Nat.ne_of_lt H2.out.2.2.1.lt
  rw [←hY,←hg6]
  have HF:=hide hF0
  clear hF0 hY hg6
  go_upto_region 6 with fail
  go_loopw [7] (fun kv wr=>∃(k:Nat) (Cp Ct Cc:Option Addr) (p1 p2 p3:Nat),k≤sn∧kv= .int .i64 k∧FinS w wr g1 g6 (cCtl Ap np cp At nt ct Ac nc cc Ao no oc sn Ad nd dc) Cp Ct Cc p1 p2 p3 (c.level k)) (fun kv _=>sn - (intOf kv).toNat)
  case atStart=>exact ⟨0,_,_,_,_,_,_,by omega,rfl,HF.out⟩
  case round=>
   obtain ⟨k,Cp,Ct,Cc,p1,p2,p3,hk,rfl,hF⟩:=hrel
   obtain ⟨V,rfl⟩:∃x,x=wr:=⟨_,rfl⟩
   obtain ⟨z0,z1,z2,z3,z4,z5⟩:=hF.b1.six9
   have hgl:=hF.b1.lt
   by_cases hlt:k < sn
   ·have i1:(k:Int) < (sn:Int):=by omega
    have hLR:=HK.out.2.2.1 k
    have hLB:=HK.out.2.2.2.1 k (by omega)
    have kr:=rules9_any Cp Ct Cc Ao p1 p2 p3 oc (c.level k) c.corners V hLR hF.lev ((HM.out.1.o.below hF.below).more hF.below.size) hLB
    rw [←HM.out.2.2.2.1] at kr
    have hlv:=HK.out.2.2.2.2.2.1 k
    have hdf:=fun d (hd:c.details[k]? =some d)=>HK.out.2.2.2.2.1 k d hlt hd
    have hEl:(edgesE (c.level k).t).length≤900000:=by have:=edgesE_le (c.level k).t;have:=hLB.t;omega
    obtain ⟨L,hL⟩:∃L,L=c.level k:=⟨_,rfl⟩
    rw [←hL] at hF kr hlv hLR hLB hEl
    simp only [←hL] at hdf
    have hRl:=rules_len L c.corners
    have y6:=hF.b6.three
    have hg6l:=hF.b6.lt
    have ks:=fun (Aa:Option Addr) (ca:Nat) (added:List Pt) (W:World) (hm:LevM W W.heap.size Cp Ct Cc L) (ha:Sl encP 3 W W.heap.size Aa added) (hal:added.length=(edgesE L.t).length)=>step9_any Cp Ct Cc Aa p1 p2 p3 ca L added c.corners W hLR hm ha hal hLB
    obtain ⟨lp,hlp⟩:∃n,n=L.p.length:=⟨_,rfl⟩
    obtain ⟨lt,hlt2⟩:∃n,n=L.t.length:=⟨_,rfl⟩
    obtain ⟨lc,hlc⟩:∃n,n=L.cr.length:=⟨_,rfl⟩
    obtain ⟨EN,hEN⟩:∃n,n=(edgesE L.t).length:=⟨_,rfl⟩
    obtain ⟨RL,hRL⟩:∃l,l=L.rules c.corners:=⟨_,rfl⟩
    rw [←hlp,←hlt2,←hlc] at kr y6
    rw [←hRL] at kr hRl hlv
    rw [hRl,←hEN] at kr
    rw [←hEN] at hRl hEl
    simp only [←hEN] at hdf ks
    simp only [←hlp,←hlt2,←hlc] at ks
    have HV:=hide (And.intro hF (And.intro kr (And.intro hlv (And.intro hdf (And.intro hRl (And.intro ks (And.intro hlp (And.intro hlt2 (And.intro hlc hL)))))))))
    obtain ⟨y60,y61,y62⟩:=y6
    clear hF kr hlv hdf hRl ks hlp hlt2 hlc hL hLR hLB hRL hEN
    go_upto_region 9 with (go_at_call 63;refine HV.out.2.1.mono ?_;rintro e V1 ⟨va,rfl,hO,hB⟩;have J1:=hide (And.intro (HV.out.1.next hB) (And.intro hO hB));clear hO hB)
    clear z0 z1 z2 z3 z4 z5 hgl y60 y61 y62 hg6l
    obtain ⟨z0,z1,z2,z3,z4,z5⟩:=J1.out.1.b1.six9
    have hgl:=J1.out.1.b1.lt
    have hpwE:∃r:Nat,r≤4∧sn - 1 - k=r:=⟨sn - 1 - k,by omega,rfl⟩
    obtain ⟨r,hr4,hr⟩:=hpwE
    obtain ⟨pw,hpw⟩:∃p,p=(16:Int)^r:=⟨_,rfl⟩
    obtain ⟨Aa,ca,hva⟩:=J1.out.2.1.form
    subst hva
    by_cases hkd:k < nd
    ·have i2:(k:Int) < (nd:Int):=by omega
     obtain ⟨d,hd⟩:∃d,c.details[k]? =some d:=⟨_,List.getElem?_eq_getElem (by rw [←HM.out.2.2.2.2];exact hkd)⟩
     have hgd:c.details.getD k []=d:=by rw [List.getD_eq_getElem?_getD,hd];rfl
     have hdl:=HV.out.2.2.2.1 d hd
     obtain ⟨bd,od,Ax,kx,hAd,hbd,cd,hsd⟩:=HM.out.1.det hd
     subst hAd
     obtain ⟨dl,hdl2⟩:∃n,n=d.length:=⟨_,rfl⟩
     rw [←hdl2] at cd hdl
     have HD:=hide (And.intro hgd (And.intro hdl2 (And.intro hbd (And.intro cd (And.intro hsd (And.intro hr hpw))))))
     clear hgd hdl2 hbd cd hsd hd hr hpw
     go_upto_region 11 with fail
     clear z0 z1 z2 z3 z4 z5 hgl
     go_loopw [9] (fun iv wr=>∃i:Nat,i≤dl∧iv= .int .i64 i∧Below V.heap.size V wr∧Own encP 3 43 wr V.heap.size (.slice Aa EN ca) EN (detE RL (d.take i) pw)) (fun iv _=>dl - (intOf iv).toNat)
     case atStart=>exact ⟨0,by omega,rfl,J1.out.2.2,by rw [List.take_zero,detE_nil];exact J1.out.2.1⟩
     case round=>
      obtain ⟨i,hi,rfl,hB2,hO⟩:=hrel
      obtain ⟨U,rfl⟩:∃x,x=wr:=⟨_,rfl⟩
      have hF:=HV.out.1.next hB2
      obtain ⟨z0,z1,z2,z3,z4,z5⟩:=hF.b1.six9
      have hgl:=hF.b1.lt
      have cdU:=(hF.below.cell (p:=⟨bd,od+k,none⟩) HD.out.2.2.1).trans HD.out.2.2.2.1
      have hbdU:bd < U.heap.size:=Nat.lt_of_lt_of_le HD.out.2.2.1 hF.below.size
      by_cases hil:i < dl
      ·have j1:(i:Int) < (dl:Int):=by omega
       have j2:(i:Int) < (EN:Int):=by omega
       obtain ⟨x,hx⟩:∃x,RL[i]? =some x:=⟨_,List.getElem?_eq_getElem (by rw [HV.out.2.2.2.2.1];omega)⟩
       obtain ⟨y,hy⟩:∃y,d[i]? =some y:=⟨_,List.getElem?_eq_getElem (by rw [←HD.out.2.1];exact hil)⟩
       have hdx:=detE_at (ds:=d) (n:=pw) (i:=i) hx (Nat.le_refl _)
       have hds:=detE_set (n:=pw) hx hy
       obtain ⟨be,oe,hAx,hbe,_⟩:=HD.out.2.2.2.2.1.at hy
       subst hAx
       obtain ⟨e0,e1,e2,heU⟩:=(HD.out.2.2.2.2.1.ptW (Nat.le_refl _) hy).2 U hF.below
       obtain ⟨ga,ca',hAa,hga,hgaU⟩:=hO.at (fun h=>by rw [h] at hdx;cases hdx)
       injection hAa with hAa hEE hcc
       subst hAa hcc
       clear hEE
       have hsl:=hO.sl encP_len (Nat.le_refl U.heap.size)
       obtain ⟨a0,a1,a2,_⟩:=(hsl.ptW (Nat.le_refl _) hdx).2 U (Below.refl _ U)
       simp only [Nat.zero_add] at a0 a1 a2
       have hset:=fun q:Pt=>Own.setW (i:=i) encP_len hO (by rw [←hO.1];omega) q
       obtain ⟨cs,hcs⟩:=hO.cells ga rfl
       have f0:=Blk.frozen hcs (i*3)
       have f1:=Blk.frozen hcs (i*3+1)
       have f2:=Blk.frozen hcs (i*3+2)
       have kt:=times_any y pw
       obtain ⟨m,hm⟩:∃m,m=timesP y pw:=⟨_,rfl⟩
       have ka:=plus9_any x m
       have hpr:addP x m=plusP x y pw:=by rw [hm];exact plusP_ref x y pw
       obtain ⟨q,hq⟩:∃q,q=plusP x y pw:=⟨_,rfl⟩
       rw [←hm] at kt
       rw [hpr,←hq] at ka
       rw [←hq] at hds
       obtain ⟨x1,x2,x3⟩:=x
       obtain ⟨y1,y2,y3⟩:=y
       obtain ⟨m1,m2,m3⟩:=m
       obtain ⟨q1,q2,q3⟩:=q
       simp only at e0 e1 e2 a0 a1 a2
       have kp:=fun W=>power_any r hr4 W
       simp only [←HD.out.2.2.2.2.2.2] at kp
       have w1:IntKind.i64.wrap ((sn:Int) - 1)=(sn:Int) - 1:=IntWalk.i64_in _ (by omega)
       have w2:IntKind.i64.wrap ((sn:Int) - 1 - (k:Int))=(r:Int):=by have:=HD.out.2.2.2.2.2.1;rw [IntWalk.i64_in _ (by omega)];omega
       have HU:=hide (And.intro hF (And.intro hO (And.intro hds (And.intro kt (And.intro ka (And.intro kp (And.intro hset (And.intro f0 (And.intro f1 (And.intro f2 hB2))))))))))
       have HN:=hide (And.intro z4 (And.intro z5 (And.intro hgl (And.intro cdU (And.intro hbdU (And.intro e0 (And.intro e1 (And.intro e2 (And.intro heU (And.intro a0 (And.intro a1 (And.intro a2 hgaU))))))))))))
       have HW:=hide (And.intro w1 w2)
       have HGA:=hide (show V.heap.size≤ga from hga)
       clear hF hB2 hO hds kt ka kp hset f0 f1 f2 z0 z1 z2 z3 z4 e0 e1 e2 heU a0 a1 a2 hgaU hm hpr hq hdx hx hy hsl hcs hbe hga w1 w2
       go_upto_region 13 with fail
       clear z5 hgl cdU hbdU
       have HSB:=hide (show Below U.heap.size U U.drew from (Below.refl _ U).drew)
       refine wp_region_mix (fun W=>Below U.heap.size U W) [0,1,2,3,4,5,6,7,8,9,10,11,12,13,14,15,16,17,18] [0,1,2,3,4,5,6,7,8,9,10,11,12,13,14,15,16,17,18,19,20,21,22,23] mixed_ok (by kernel_rfl) ?_
       refine wpMix_q (v:=(.slice (some ⟨ga,0,none⟩) EN ca)) rfl rfl (fun _ _ _ h=>h) HSB.out ⟨rfl,fun _ _=>by simp [go_sem]⟩ ?_
       refine wpMix_q (v:=(.int .i64 i)) rfl rfl (fun _ _ _ h=>h) HSB.out ⟨rfl,fun _ _=>by simp [go_sem]⟩ ?_
       refine wpMix_q (v:=(.slice (some ⟨ga,0,none⟩) EN ca)) rfl rfl (fun _ _ _ h=>h) HSB.out ⟨rfl,fun _ _=>by simp [go_sem]⟩ ?_
       refine wpMix_q (v:=(.int .i64 i)) rfl rfl (fun _ _ _ h=>h) HSB.out ⟨rfl,fun _ _=>by simp [go_sem]⟩ ?_
       refine wpMix_q (v:=(.pointer (some ⟨ga,i*3,none⟩))) rfl rfl (fun _ _ _ h=>h) HSB.out ⟨rfl,fun _ _=>by simp [go_sem,j2]⟩ ?_
       refine wpMix_q (v:=vP (x1,x2,x3)) rfl rfl (fun _ _ _ h=>h) HSB.out ⟨rfl,fun _ h'=>by have a0:=(h'.cell (p:=⟨ga,i*3,none⟩) HN.out.2.2.2.2.2.2.2.2.2.2.2.2).trans HN.out.2.2.2.2.2.2.2.2.2.1;have a1:=(h'.cell (p:=⟨ga,i*3+1,none⟩) HN.out.2.2.2.2.2.2.2.2.2.2.2.2).trans HN.out.2.2.2.2.2.2.2.2.2.2.1;have a2:=(h'.cell (p:=⟨ga,i*3+2,none⟩) HN.out.2.2.2.2.2.2.2.2.2.2.2.2).trans HN.out.2.2.2.2.2.2.2.2.2.2.2.1;simp [go_sem,a0,a1,a2]⟩ ?_
       simp only [List.getElem_toArray,List.getElem_cons_succ,List.getElem_cons_zero,Act.put,List.setIfInBounds_toArray,List.set_cons_succ,List.set_cons_zero]
       refine wpMix_q (v:=(.pointer (some ⟨g1,5,none⟩))) rfl rfl (fun _ _ _ h=>h) HSB.out ⟨rfl,fun _ _=>by simp [go_sem]⟩ ?_
       refine wpMix_q (v:=(.slice (some ⟨bd,od,none⟩) nd dc)) rfl rfl (fun _ _ _ h=>h) HSB.out ⟨rfl,fun _ h'=>by have a0:=(h'.cell (p:=⟨g1,5,none⟩) HN.out.2.2.1).trans HN.out.2.1;simp [go_sem,a0]⟩ ?_
       refine wpMix_q (v:=(.int .i64 k)) rfl rfl (fun _ _ _ h=>h) HSB.out ⟨rfl,fun _ _=>by simp [go_sem]⟩ ?_
       refine wpMix_q (v:=(.pointer (some ⟨bd,od+k,none⟩))) rfl rfl (fun _ _ _ h=>h) HSB.out ⟨rfl,fun _ _=>by simp [go_sem,i2]⟩ ?_
       refine wpMix_q (v:=(.slice (some ⟨be,oe,none⟩) dl kx)) rfl rfl (fun _ _ _ h=>h) HSB.out ⟨rfl,fun _ h'=>by have a0:=(h'.cell (p:=⟨bd,od+k,none⟩) HN.out.2.2.2.2.1).trans HN.out.2.2.2.1;simp [go_sem,a0]⟩ ?_
       refine wpMix_q (v:=(.int .i64 i)) rfl rfl (fun _ _ _ h=>h) HSB.out ⟨rfl,fun _ _=>by simp [go_sem]⟩ ?_
       simp only [List.getElem_toArray,List.getElem_cons_succ,List.getElem_cons_zero,Act.put,List.setIfInBounds_toArray,List.set_cons_succ,List.set_cons_zero]
       refine wpMix_q (v:=(.pointer (some ⟨be,oe+i*3,none⟩))) rfl rfl (fun _ _ _ h=>h) HSB.out ⟨rfl,fun _ _=>by simp [go_sem,j1]⟩ ?_
       refine wpMix_q (v:=vP (y1,y2,y3)) rfl rfl (fun _ _ _ h=>h) HSB.out ⟨rfl,fun _ h'=>by have a0:=(h'.cell (p:=⟨be,oe+i*3,none⟩) HN.out.2.2.2.2.2.2.2.2.1).trans HN.out.2.2.2.2.2.1;have a1:=(h'.cell (p:=⟨be,oe+i*3+1,none⟩) HN.out.2.2.2.2.2.2.2.2.1).trans HN.out.2.2.2.2.2.2.1;have a2:=(h'.cell (p:=⟨be,oe+i*3+2,none⟩) HN.out.2.2.2.2.2.2.2.2.1).trans HN.out.2.2.2.2.2.2.2.1;simp [go_sem,a0,a1,a2]⟩ ?_
       refine wpMix_q (v:=(.pointer (some ⟨g1,4,none⟩))) rfl rfl (fun _ _ _ h=>h) HSB.out ⟨rfl,fun _ _=>by simp [go_sem]⟩ ?_
       refine wpMix_q (v:=(.int .i64 sn)) rfl rfl (fun _ _ _ h=>h) HSB.out ⟨rfl,fun _ h'=>by have a0:=(h'.cell (p:=⟨g1,4,none⟩) HN.out.2.2.1).trans HN.out.1;simp [go_sem,a0]⟩ ?_
       refine wpMix_q (v:=(.int .i64 ((sn:Int) - 1))) rfl rfl (fun _ _ _ h=>h) HSB.out ⟨rfl,fun _ _=>by simp [go_sem,HW.out.1]⟩ ?_
       refine wpMix_q (v:=(.int .i64 k)) rfl rfl (fun _ _ _ h=>h) HSB.out ⟨rfl,fun _ _=>by simp [go_sem]⟩ ?_
       simp only [List.getElem_toArray,List.getElem_cons_succ,List.getElem_cons_zero,Act.put,List.setIfInBounds_toArray,List.set_cons_succ,List.set_cons_zero]
       refine wpMix_q (v:=(.int .i64 r)) rfl rfl (fun _ _ _ h=>h) HSB.out ⟨rfl,fun _ _=>by simp [go_sem,HW.out.2]⟩ ?_
       simp only [List.getElem_toArray,List.getElem_cons_succ,List.getElem_cons_zero,Act.put,List.setIfInBounds_toArray,List.set_cons_succ,List.set_cons_zero]
       refine wpMix_n rfl rfl ?_
       go_wp2_with fail
       refine (HU.out.2.2.2.2.2.1 U.drew).mono ?_
       rintro e Wq ⟨rfl,hWq⟩
       obtain rfl:U.drew=Wq:=hWq.symm
       go_wp2_with fail
       refine ⟨fun _=>HSB.out,?_⟩
       refine wpMix_n rfl rfl ?_
       go_wp2_with fail
       refine (HU.out.2.2.2.1 U.drew).mono ?_
       rintro e W1 ⟨rfl,hB1⟩
       have H1:=hide (undrew9 hB1)
       clear hB1
       go_wp2_with fail
       refine ⟨fun _=>H1.out,?_⟩
       refine wpMix_n rfl rfl ?_
       go_wp2_with fail
       refine (HU.out.2.2.2.2.1 W1).mono ?_
       rintro e W2 ⟨rfl,hB1⟩
       have J3:=hide (H1.out.trans (hB1.mono H1.out.size))
       clear hB1
       go_wp2_with fail
       refine ⟨fun _=>J3.out,?_⟩
       refine wpMix_tail _ [_,_] (by kernel_rfl) rfl ?_
       have hO2:=HU.out.2.1.below J3.out (Nat.le_refl _)
       obtain ⟨cs,hcs⟩:=hO2.cells ga rfl
       have f0:=Blk.frozen hcs (i*3)
       have f1:=Blk.frozen hcs (i*3+1)
       have f2:=Blk.frozen hcs (i*3+2)
       have k0:=(J3.out.cell (p:=⟨ga,i*3,none⟩) HN.out.2.2.2.2.2.2.2.2.2.2.2.2).trans HN.out.2.2.2.2.2.2.2.2.2.1
       have k1:=(J3.out.cell (p:=⟨ga,i*3+1,none⟩) HN.out.2.2.2.2.2.2.2.2.2.2.2.2).trans HN.out.2.2.2.2.2.2.2.2.2.2.1
       have k2:=(J3.out.cell (p:=⟨ga,i*3+2,none⟩) HN.out.2.2.2.2.2.2.2.2.2.2.2.2).trans HN.out.2.2.2.2.2.2.2.2.2.2.2.1
       have hgl2:ga < W2.heap.size:=Nat.lt_of_lt_of_le HN.out.2.2.2.2.2.2.2.2.2.2.2.2 J3.out.size
       have HO2:=hide hO2
       clear hO2 hcs
       go_wp2_with fail
       go_roundw
       case rel=>
        have h:=Own.setW (i:=i) encP_len HO2.out (by rw [←HO2.out.1];omega) (q1,q2,q3)
        rw [HU.out.2.2.1] at h
        exact ⟨i+1,by omega,by go_num,setW_below HGA.out (encP (q1,q2,q3)) _ _ (HU.out.2.2.2.2.2.2.2.2.2.2.trans (J3.out.mono HU.out.2.2.2.2.2.2.2.2.2.2.size)),h⟩
       case measure=>(simp [intOf];try omega)
      ·obtain rfl:i=dl:=by omega
       have j1:¬(i:Int) < (i:Int):=by omega
       have ht:d.take i=d:=by rw [HD.out.2.1];exact List.take_length
       rw [ht] at hO
       rw [←HD.out.1] at hO
       have hr:=HD.out.2.2.2.2.2.1
       have hpw:=HD.out.2.2.2.2.2.2
       have hF:=HV.out.1.next hB2
       have hal:(detE RL (c.details.getD k []) pw).length=EN:=by rw [detE_len];exact HV.out.2.2.2.2.1
       have ks:=HV.out.2.2.2.2.2.1 Aa ca _ U hF.lev (hO.sl encP_len (Nat.le_refl _)) hal
       have hlv:=HV.out.2.2.1
       rw [hr,←hpw] at hlv
       rw [←hlv,hal] at ks
       obtain ⟨y0,y1,y2⟩:=hF.b6.three
       have hg6l:=hF.b6.lt
       rw [←HV.out.2.2.2.2.2.2.1] at y0
       rw [←HV.out.2.2.2.2.2.2.2.1] at y1
       rw [←HV.out.2.2.2.2.2.2.2.2.1] at y2
       obtain ⟨M,hM⟩:∃M,M=c.level (k+1):=⟨_,rfl⟩
       rw [←hM] at ks
       have HU:=hide (And.intro hF (And.intro ks hM))
       clear hF hB2 hO ks hal hlv hM hr hpw
       go_wp2_with (go_at_call 65;refine HU.out.2.1.mono ?_;rintro e W ⟨Dp,d1,Dt,d2,Dc,d3,rfl,ho,hst,hsc,hB⟩;have J2:=hide (And.intro (HU.out.1.next hB) (And.intro ho (And.intro hst (And.intro hsc hB))));clear ho hst hsc hB;have f0:=J2.out.1.b6.frozen 0;have f1:=J2.out.1.b6.frozen 1;have f2:=J2.out.1.b6.frozen 2;have l6:=J2.out.1.b6.lt;have k0:=J2.out.1.b6.cell 0;have k1:=J2.out.1.b6.cell 1;have k2:=J2.out.1.b6.cell 2)
       go_roundw
       case rel=>
        have hfs:=fin_store (ct:=d2) (cc:=d3) (cp:=d1) J2.out.1.below J2.out.1.b1 J2.out.1.b6 (J2.out.2.1.base_le HU.out.1.below.size) J2.out.2.2.1 J2.out.2.2.2.1 HU.out.1.le HU.out.1.ne
        exact ⟨k+1,_,_,_,_,_,_,by omega,by go_num,by rw [←HU.out.2.2];exact hfs⟩
       case measure=>(simp [intOf];try omega)
    ·have i2:¬(k:Int) < (nd:Int):=by omega
     have hgd:c.details.getD k []= []:=by rw [List.getD_eq_getElem?_getD,List.getElem?_eq_none (by rw [←HM.out.2.2.2.2];omega)];rfl
     have hO:Own encP 3 43 V1 V.heap.size (.slice Aa EN ca) EN (detE RL (c.details.getD k []) pw):=by rw [hgd,detE_nil];exact J1.out.2.1
     have hF:=J1.out.1
     have hB2:=J1.out.2.2
     obtain ⟨U,rfl⟩:∃x,x=V1:=⟨_,rfl⟩
     have hF:=HV.out.1.next hB2
     have hal:(detE RL (c.details.getD k []) pw).length=EN:=by rw [detE_len];exact HV.out.2.2.2.2.1
     have ks:=HV.out.2.2.2.2.2.1 Aa ca _ U hF.lev (hO.sl encP_len (Nat.le_refl _)) hal
     have hlv:=HV.out.2.2.1
     rw [hr,←hpw] at hlv
     rw [←hlv,hal] at ks
     obtain ⟨y0,y1,y2⟩:=hF.b6.three
     have hg6l:=hF.b6.lt
     rw [←HV.out.2.2.2.2.2.2.1] at y0
     rw [←HV.out.2.2.2.2.2.2.2.1] at y1
     rw [←HV.out.2.2.2.2.2.2.2.2.1] at y2
     obtain ⟨M,hM⟩:∃M,M=c.level (k+1):=⟨_,rfl⟩
     rw [←hM] at ks
     have HU:=hide (And.intro hF (And.intro ks hM))
     clear hF hB2 hO ks hal hlv hM hr hpw hgd
     go_wp2_with (go_at_call 65;refine HU.out.2.1.mono ?_;rintro e W ⟨Dp,d1,Dt,d2,Dc,d3,rfl,ho,hst,hsc,hB⟩;have J2:=hide (And.intro (HU.out.1.next hB) (And.intro ho (And.intro hst (And.intro hsc hB))));clear ho hst hsc hB;have f0:=J2.out.1.b6.frozen 0;have f1:=J2.out.1.b6.frozen 1;have f2:=J2.out.1.b6.frozen 2;have l6:=J2.out.1.b6.lt;have k0:=J2.out.1.b6.cell 0;have k1:=J2.out.1.b6.cell 1;have k2:=J2.out.1.b6.cell 2)
     go_roundw
     case rel=>
      have hfs:=fin_store (ct:=d2) (cc:=d3) (cp:=d1) J2.out.1.below J2.out.1.b1 J2.out.1.b6 (J2.out.2.1.base_le HU.out.1.below.size) J2.out.2.2.1 J2.out.2.2.2.1 HU.out.1.le HU.out.1.ne
      exact ⟨k+1,_,_,_,_,_,_,by omega,by go_num,by rw [←HU.out.2.2];exact hfs⟩
     case measure=>(simp [intOf];try omega)
   ·obtain rfl:k=sn:=by omega
    have i1:¬(k:Int) < (k:Int):=by omega
    obtain ⟨y0,y1,y2⟩:=hF.b6.three
    have hg6l:=hF.b6.lt
    obtain ⟨L,hL⟩:∃L,L=c.level k:=⟨_,rfl⟩
    have hLB:=HK.out.2.2.2.1 k hk
    rw [←hL] at hF y0 y1 y2 hLB
    obtain ⟨lp,hlp⟩:∃n,n=L.p.length:=⟨_,rfl⟩
    obtain ⟨lt,hlt2⟩:∃n,n=L.t.length:=⟨_,rfl⟩
    rw [←hlp] at y0
    rw [←hlt2] at y1
    have hltl:lt≤300000:=by rw [hlt2];exact hLB.t
    have HV:=hide (And.intro hF (And.intro hlp (And.intro hlt2 hL)))
    have HN:=hide (And.intro y0 (And.intro y1 hg6l))
    clear hF hlp hlt2 hL y0 y1 y2 hg6l hLB
    go_upto_region 15 with fail
    clear z0 z1 z2 z3 z4 z5 hgl
    have HSB:=hide (show Below V.heap.size V V.drew from (Below.refl _ V).drew)
    refine wp_region_mix (fun W=>Below V.heap.size V W) [0,1,3,4] [0,1,3,4,2,5,6,7,8] mixed_ok (by kernel_rfl) ?_
    refine wpMix_q (v:=(.pointer (some ⟨g6,0,none⟩))) rfl rfl (fun _ _ _ h=>h) HSB.out ⟨rfl,fun _ _=>by simp [go_sem]⟩ ?_
    refine wpMix_q (v:=(.slice Cp lp p1)) rfl rfl (fun _ _ _ h=>h) HSB.out ⟨rfl,fun _ h'=>by have a0:=(h'.cell (p:=⟨g6,0,none⟩) HN.out.2.2).trans HN.out.1;simp [go_sem,a0]⟩ ?_
    refine wpMix_q (v:=(.pointer (some ⟨g6,1,none⟩))) rfl rfl (fun _ _ _ h=>h) HSB.out ⟨rfl,fun _ _=>by simp [go_sem]⟩ ?_
    refine wpMix_q (v:=(.slice Ct lt p2)) rfl rfl (fun _ _ _ h=>h) HSB.out ⟨rfl,fun _ h'=>by have a0:=(h'.cell (p:=⟨g6,1,none⟩) HN.out.2.2).trans HN.out.2.1;simp [go_sem,a0]⟩ ?_
    simp only [List.getElem_toArray,List.getElem_cons_succ,List.getElem_cons_zero,Act.put,List.setIfInBounds_toArray,List.set_cons_succ,List.set_cons_zero]
    refine wpMix_n rfl rfl ?_
    go_wp2_with fail
    have HA:=hide (show Below V.heap.size V (V.alloc (.cells #[] 35)) from (Below.refl _ V).alloc (Nat.le_refl _) _)
    refine ⟨fun _=>HA.out.drew,?_⟩
    refine wpMix_n rfl rfl ?_
    refine wpList_appendS rfl _ _ _ rfl Tryz.underlying22 infoN3 rfl (by omega) encN3_len encN3_one rfl (own_empty9 (w:=V) rfl (Nat.le_refl _)).drew Ct p2 V.heap.size L.t (by rw [←HV.out.2.2.1];rfl) (HV.out.1.t.below HA.out.drew) (by rw [←HV.out.2.2.1];unfold maxLen;omega) (by rw [←HV.out.2.2.1];omega) (by simp) ?_
    intro v5 w5 ho5 hg5 hB5 hat5
    rw [←HV.out.2.2.1,List.nil_append,Nat.zero_add] at ho5
    obtain ⟨A5,c5,rfl⟩:=ho5.form
    have H5:=hide (And.intro ho5 (And.intro (HA.out.drew.trans hB5) True.intro))
    clear ho5 hg5 hB5 hat5
    go_wp2_with fail
    refine ⟨fun _=>H5.out.2.1,?_⟩
    refine wpMix_tail _ [_,_,_] (by kernel_rfl) rfl ?_
    go_wp2_with fail
    go_ret3
    have h1:=HV.out.1.own.below H5.out.2.1 (Nat.le_refl _)
    have h2:=H5.out.1.base_le HV.out.1.below.size
    have e1:=HV.out.2.2.2
    have e2:=HV.out.2.1
    have e3:=HV.out.2.2.1
    rw [←e1,←e2,←e3]
    rw [←e2] at h1
    exact ⟨_,_,_,_,rfl,h1,h2,HV.out.1.below.trans (H5.out.2.1.mono HV.out.1.below.size)⟩
 ·have hfp:finP c= []:=by unfold finP;rw [if_neg herr]
  have hft:finT c= []:=by unfold finT;rw [if_neg herr]
  rw [hfp,hft]
  obtain ⟨np,hnp⟩:∃n,n=c.points.length:=⟨_,rfl⟩
  obtain ⟨nt,hnt⟩:∃n,n=c.tris.length:=⟨_,rfl⟩
  obtain ⟨nc,hnc⟩:∃n,n=c.creases.length:=⟨_,rfl⟩
  obtain ⟨no,hno⟩:∃n,n=c.corners.length:=⟨_,rfl⟩
  obtain ⟨nd,hnd⟩:∃n,n=c.details.length:=⟨_,rfl⟩
  obtain ⟨sn,hsn⟩:∃n,n=c.steps:=⟨_,rfl⟩
  obtain ⟨er,her⟩:∃n,n=errC c:=⟨_,rfl⟩
  rw [←hnp,←hnt,←hnc,←hno,←hnd,←hsn,←her]
  simp only [←hnp,←hnt,←hnc,←hno,←hnd,←hsn,←her] at kw
  have hne:(er !=0)=true:=by rw [her];simpa using herr
  have HK:=hide kw
  clear kw hfp hft hnp hnt hnc hno hnd hsn her herr hm hb hfs hnb
  go_enter Tryz.func32,Tryz.ntmps32
  go_upto_region 1 with fail
  obtain ⟨g1,hg1⟩:∃g,g=w.heap.size:=⟨_,rfl⟩
  obtain ⟨X0,hX⟩:∃W,W=w.alloc (.cells (cCtl Ap np cp At nt ct Ac nc cc Ao no oc sn Ad nd dc) 32):=⟨_,rfl⟩
  rw [←hX,←hg1]
  have hb1:Blk X0 g1 32 (cCtl Ap np cp At nt ct Ac nc cc Ao no oc sn Ad nd dc):=by rw [hX,hg1];exact Blk.new _ _ _
  have hBX:Below w.heap.size w X0:=by rw [hX];exact (Below.refl _ w).alloc (Nat.le_refl _) _
  obtain ⟨z0,z1,z2,z3,z4,z5⟩:=hb1.six9
  have hgl:=hb1.lt
  have H0:=hide (And.intro hb1 hBX)
  clear hb1 hBX hX hg1
  go_wp2_with (go_at_call 61;refine (HK.out X0 H0.out.2).mono ?_;rintro e X1 ⟨rfl,hB⟩;have H1:=hide (H0.out.2.trans (hB.mono H0.out.2.size));clear hB)
  go_ret3
  exact ⟨_,_,_,_,rfl,Own.nil,Own.nil,H1.out⟩
end Go.Proofs.YtmemofonebphfaaGreat
