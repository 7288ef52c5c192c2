import Derived.Test.YtmemofonebphfaaGreatP22
import Derived.Test.YtmemofonebphfaaGreatP32
namespace Go.Proofs.YtmemofonebphfaaGreat
open Go.RowKit Go.Sort
theorem posE_none {l:List E2} {a b:Int} (h:nrmE a b ∉ l):posE l a b= -1:=by
 unfold posE
 cases hf:l.findIdx? (fun e=>decide (e=nrmE a b)) with
 | none=>rfl
 | some i=>
  rw [List.findIdx?_eq_some_iff_getElem] at hf
  obtain ⟨hi,he,_⟩:=hf
  have he:l[i]=nrmE a b:=by simpa using he
  exact absurd (he▸List.getElem_mem hi) h
end Go.Proofs.YtmemofonebphfaaGreat
namespace Go.Proofs.YtmemofonebphfaaGreat
open Go.RowKit Go.Sort
theorem wrap64_eq {a b:Int} (h:(a - b) % 18446744073709551616=0):wrap64 a=wrap64 b:=by unfold wrap64;omega
theorem wrap64_mod (a:Int):(wrap64 a - a) % 18446744073709551616=0:=by unfold wrap64;omega
theorem wrap64_mul_r (k a:Int):wrap64 (k*wrap64 a)=wrap64 (k*a):=by
 apply wrap64_eq
 obtain ⟨q,hq⟩:=Int.dvd_of_emod_eq_zero (wrap64_mod a)
 have:k*wrap64 a - k*a=18446744073709551616*(k*q):=by
  have e:wrap64 a=a+18446744073709551616*q:=by omega
  rw [e,Int.mul_add]
  have e2:k*(18446744073709551616*q)=18446744073709551616*(k*q):=by
   rw [←Int.mul_assoc,Int.mul_comm k,Int.mul_assoc]
  omega
 rw [this]
 exact Int.mul_emod_right _ _
end Go.Proofs.YtmemofonebphfaaGreat
namespace Go.Proofs.YtmemofonebphfaaGreat
open Go.RowKit Go.Sort
def timesP (p:Pt) (n:Int):Pt:=(wrap64 (n*p.1),wrap64 (n*p.2.1),wrap64 (n*p.2.2))
def addP (p q:Pt):Pt:=(wrap64 (p.1+q.1),wrap64 (p.2.1+q.2.1),wrap64 (p.2.2+q.2.2))
set_option maxRecDepth 100000 in
theorem times_any (p:Pt) (n:Int) (w:World):Calls Tryz.prog 64 #[vP p, .int .i64 n] w fun e w'=>e= .returned (vP (timesP p n))∧Below w.heap.size w w':=by
 obtain ⟨p1,p2,p3⟩:=p
 go_enter Tryz.func64,Tryz.ntmps64
 go_upto_region 1 with fail
 obtain ⟨g0,hg0⟩:∃g,g=w.heap.size:=⟨_,rfl⟩
 obtain ⟨g1,hg1⟩:∃g,g=w.heap.size+1:=⟨_,rfl⟩
 obtain ⟨X,hX⟩:∃X,X=((w.alloc (.cells #[.int .i64 p1, .int .i64 p2, .int .i64 p3] 43)).alloc (.cells #[.int .i64 0, .int .i64 0, .int .i64 0] 43)):=⟨_,rfl⟩
 have hb0:Blk X g0 43 #[.int .i64 p1, .int .i64 p2, .int .i64 p3]:=by rw [hX,hg0];exact ((Blk.new _ _ _).alloc _)
 have hb1:Blk X g1 43 #[.int .i64 0, .int .i64 0, .int .i64 0]:=by rw [hX,hg1];exact (Blk.new' _ _ _ _ (by simp))
 have hB:Below w.heap.size w X:=by rw [hX];exact (((Below.refl _ w).alloc (Nat.le_refl _) _).alloc (by simp;try omega) _)
 have hgw:w.heap.size≤g1:=by omega
 rw [←hX,←hg1,←hg0]
 have c00:X.cell? ⟨g0,0,none⟩=some (.int .i64 p1):=hb0.cell 0
 have c01:X.cell? ⟨g0,1,none⟩=some (.int .i64 p2):=hb0.cell 1
 have c02:X.cell? ⟨g0,2,none⟩=some (.int .i64 p3):=hb0.cell 2
 have c10:X.cell? ⟨g1,0,none⟩=some (.int .i64 0):=hb1.cell 0
 have c11:X.cell? ⟨g1,1,none⟩=some (.int .i64 0):=hb1.cell 1
 have c12:X.cell? ⟨g1,2,none⟩=some (.int .i64 0):=hb1.cell 2
 have l0:=hb0.lt
 have l1:=hb1.lt
 have f0:=hb1.frozen 0
 have f1:=hb1.frozen 1
 have f2:=hb1.frozen 2
 have HX:=hide (And.intro hb1 (And.intro hB hgw))
 clear hX hB hgw hg0 hg1 hb0 hb1
 go_wp2
 refine ret_at (v:=vP (timesP (p1,p2,p3) n)) (fun W=>Blk W g1 43 #[.int .i64 (wrap64 (n*p1)), .int .i64 (wrap64 (n*p2)), .int .i64 (wrap64 (n*p3))]) ?_ (fun W hW=> ?_) rfl ⟨rfl,?_⟩
 ·exact HX.out.1.set3 _ _ _
 ·obtain ⟨a0,a1,a2⟩:=hW.three
  simp [results,Tryz.results64,go_sem,a0,a1,a2]
  trivial
 ·exact ((HX.out.2.1.setCell (p:=⟨g1,0,none⟩) HX.out.2.2 _).setCell (p:=⟨g1,1,none⟩) HX.out.2.2 _).setCell (p:=⟨g1,2,none⟩) HX.out.2.2 _
set_option maxRecDepth 100000 in
theorem plus9_any (p q:Pt) (w:World):Calls Tryz.prog 22 #[vP p,vP q] w fun e w'=>e= .returned (vP (addP p q))∧Below w.heap.size w w':=by
 obtain ⟨p1,p2,p3⟩:=p
 obtain ⟨q1,q2,q3⟩:=q
 go_enter Tryz.func22,Tryz.ntmps22
 go_upto_region 1 with fail
 obtain ⟨g0,hg0⟩:∃g,g=w.heap.size:=⟨_,rfl⟩
 obtain ⟨g1,hg1⟩:∃g,g=w.heap.size+1:=⟨_,rfl⟩
 obtain ⟨g2,hg2⟩:∃g,g=w.heap.size+1+1:=⟨_,rfl⟩
 obtain ⟨X,hX⟩:∃X,X=(((w.alloc (.cells #[.int .i64 p1, .int .i64 p2, .int .i64 p3] 43)).alloc (.cells #[.int .i64 q1, .int .i64 q2, .int .i64 q3] 43)).alloc (.cells #[.int .i64 0, .int .i64 0, .int .i64 0] 43)):=⟨_,rfl⟩
 have hb0:Blk X g0 43 #[.int .i64 p1, .int .i64 p2, .int .i64 p3]:=by rw [hX,hg0];exact (((Blk.new _ _ _).alloc _).alloc _)
 have hb1:Blk X g1 43 #[.int .i64 q1, .int .i64 q2, .int .i64 q3]:=by rw [hX,hg1];exact ((Blk.new' _ _ _ _ (by simp)).alloc _)
 have hb2:Blk X g2 43 #[.int .i64 0, .int .i64 0, .int .i64 0]:=by rw [hX,hg2];exact (Blk.new' _ _ _ _ (by simp))
 have hB:Below w.heap.size w X:=by rw [hX];exact ((((Below.refl _ w).alloc (Nat.le_refl _) _).alloc (by simp;try omega) _).alloc (by simp;try omega) _)
 have hgw:w.heap.size≤g2:=by omega
 rw [←hX,←hg2,←hg1,←hg0]
 have c00:X.cell? ⟨g0,0,none⟩=some (.int .i64 p1):=hb0.cell 0
 have c01:X.cell? ⟨g0,1,none⟩=some (.int .i64 p2):=hb0.cell 1
 have c02:X.cell? ⟨g0,2,none⟩=some (.int .i64 p3):=hb0.cell 2
 have c10:X.cell? ⟨g1,0,none⟩=some (.int .i64 q1):=hb1.cell 0
 have c11:X.cell? ⟨g1,1,none⟩=some (.int .i64 q2):=hb1.cell 1
 have c12:X.cell? ⟨g1,2,none⟩=some (.int .i64 q3):=hb1.cell 2
 have c20:X.cell? ⟨g2,0,none⟩=some (.int .i64 0):=hb2.cell 0
 have c21:X.cell? ⟨g2,1,none⟩=some (.int .i64 0):=hb2.cell 1
 have c22:X.cell? ⟨g2,2,none⟩=some (.int .i64 0):=hb2.cell 2
 have l0:=hb0.lt
 have l1:=hb1.lt
 have l2:=hb2.lt
 have f0:=hb2.frozen 0
 have f1:=hb2.frozen 1
 have f2:=hb2.frozen 2
 have HX:=hide (And.intro hb2 (And.intro hB hgw))
 clear hX hB hgw hg0 hg1 hg2 hb0 hb1 hb2
 go_wp2
 refine ret_at (v:=vP (addP (p1,p2,p3) (q1,q2,q3))) (fun W=>Blk W g2 43 #[.int .i64 (wrap64 (p1+q1)), .int .i64 (wrap64 (p2+q2)), .int .i64 (wrap64 (p3+q3))]) ?_ (fun W hW=> ?_) rfl ⟨rfl,?_⟩
 ·exact HX.out.1.set3 _ _ _
 ·obtain ⟨a0,a1,a2⟩:=hW.three
  simp [results,Tryz.results22,go_sem,a0,a1,a2]
  trivial
 ·exact ((HX.out.2.1.setCell (p:=⟨g2,0,none⟩) HX.out.2.2 _).setCell (p:=⟨g2,1,none⟩) HX.out.2.2 _).setCell (p:=⟨g2,2,none⟩) HX.out.2.2 _
end Go.Proofs.YtmemofonebphfaaGreat
namespace Go.Proofs.YtmemofonebphfaaGreat
open Go.RowKit Go.Sort
theorem third_at {t:List Pt} {a b c:Int} {i:Nat} {x:Pt} (hb:∀k y,k < i→t[k]? =some y→thr3 y a b=none) (hx:t[i]? =some x) (hc:thr3 x a b=some c):thirdE t a b=c:=by
 unfold thirdE
 have:t.findSome? (fun x=>thr3 x a b)=some c:=by
  rw [List.findSome?_eq_some_iff]
  obtain ⟨hi,e⟩:=List.getElem?_eq_some_iff.1 hx
  refine ⟨t.take i,x,t.drop (i+1),?_,hc,fun y hy=> ?_⟩
  ·rw [←e,←List.drop_eq_getElem_cons hi,List.take_append_drop]
  ·obtain ⟨k,hk⟩:=List.mem_iff_getElem?.1 hy
   rw [List.getElem?_take] at hk
   split at hk
   ·rename_i hlt
    exact hb k y hlt hk
   ·cases hk
 rw [this]
 rfl
theorem third_no {t:List Pt} {a b:Int} (hb:∀k y,k < t.length→t[k]? =some y→thr3 y a b=none):thirdE t a b= -1:=by
 unfold thirdE
 have:t.findSome? (fun x=>thr3 x a b)=none:=by
  rw [List.findSome?_eq_none_iff]
  intro y hy
  obtain ⟨k,hk⟩:=List.mem_iff_getElem?.1 hy
  exact hb k y (List.getElem?_eq_some_iff.1 hk).1 hk
 rw [this]
 rfl
def NoE (x:Pt) (a b:Int) (j:Nat):Prop:=(0 < j→¬(x.1=a∧x.2.1=b))∧(1 < j→¬(x.2.1=a∧x.2.2=b))∧(2 < j→¬(x.2.2=a∧x.1=b))
theorem NoE.all {x:Pt} {a b:Int} (h:NoE x a b 3):thr3 x a b=none:=by
 unfold thr3
 rw [if_neg (h.1 (by omega)),if_neg (h.2.1 (by omega)),if_neg (h.2.2 (by omega))]
set_option maxRecDepth 100000 in
set_option maxHeartbeats 16000000 in
theorem third_any (A:Option Addr) (c:Nat) (t:List Pt) (a b:Int) (w:World) (hs:Sl encN3 3 w w.heap.size A t) (hl:t.length≤100000000):
  Calls Tryz.prog 120 #[.slice A t.length c, .int .i64 a, .int .i64 b] w fun e w'=>e= .returned (.int .i64 (thirdE t a b))∧w'=w:=by
 obtain ⟨R,hR⟩:∃R,R=thirdE t a b:=⟨_,rfl⟩
 obtain ⟨N,hN⟩:∃N,N=t.length:=⟨_,rfl⟩
 rw [←hR]
 rw [←hN] at hl⊢
 have HS:=hide (And.intro hs (And.intro hR hN))
 clear hs hR hN
 go_enter Tryz.func120,Tryz.ntmps120
 go_upto_region 2 with fail
 go_loopw [7] (fun iv wr=>∃i:Nat,i≤N∧iv= .int .i64 i∧wr=w∧∀k y,k < i→t[k]? =some y→thr3 y a b=none) (fun iv _=>N - (intOf iv).toNat)
 case atStart=>exact ⟨0,by omega,rfl,rfl,fun k y hk=>absurd hk (by omega)⟩
 case round=>
  obtain ⟨i,hi,rfl,rfl,hno⟩:=hrel
  by_cases hlt:i < N
  ·have i1:(i:Int) < (N:Int):=by omega
   obtain ⟨x,hx⟩:∃x,t[i]? =some x:=⟨_,List.getElem?_eq_getElem (by rw [←HS.out.2.2];exact hlt)⟩
   obtain ⟨bb,o,hA,hbb,c0,c1,c2⟩:=HS.out.1.n3 hx
   subst hA
   obtain ⟨x1,x2,x3⟩:=x
   simp only at c0 c1 c2
   have HX:=hide (And.intro hx hno)
   clear hx hno
   go_upto_region 5 with fail
   go_loopw [8] (fun jv wz=>∃j:Nat,j≤3∧jv= .int .i64 j∧wz=wr∧NoE (x1,x2,x3) a b j) (fun jv _=>3 - (intOf jv).toNat)
   case atStart=>exact ⟨0,by omega,rfl,rfl,⟨fun h=>absurd h (by omega),fun h=>absurd h (by omega),fun h=>absurd h (by omega)⟩⟩
   case round=>
    obtain ⟨j,hj,rfl,hw,hn⟩:=hrel
    subst hw
    have HN:=hide hn
    clear hn
    have a1:IntKind.i64.wrap 1=1:=by decide
    have a2:IntKind.i64.wrap 2=2:=by decide
    have a3:IntKind.i64.wrap 3=3:=by decide
    have a4:IntKind.i64.wrap 4=4:=by decide
    have hc:j=0∨j=1∨j=2∨j=3:=by omega
    rcases hc with rfl | rfl | rfl | rfl
    ·by_cases h1:x1=a
     ·by_cases h2:x2=b
      ·have hr:R=x3:=by
        rw [HS.out.2.1]
        refine third_at HX.out.2 HX.out.1 ?_
        unfold thr3
        rw [if_pos ⟨h1,h2⟩]
       have HR:=hide hr
       subst h1 h2
       clear hr
       go_wp2
       go_ret
       exact ⟨by rw [HR.out];rfl,rfl⟩
      ·have HE:=hide (show¬(x1=a∧x2=b) from fun h=>h2 h.2)
       have d2:decide (x2=b)=false:=decide_eq_false h2
       subst h1
       go_wp2
       go_roundw
       case rel=>exact ⟨1,by omega,by go_num,by trivial,⟨fun _ h=>HE.out (by exact h),fun h=>absurd h (by omega),fun h=>absurd h (by omega)⟩⟩
       case measure=>(simp [intOf];try omega)
     ·have HE:=hide (show¬(x1=a∧x2=b) from fun h=>h1 h.1)
      go_wp2
      go_roundw
      case rel=>exact ⟨1,by omega,by go_num,by trivial,⟨fun _ h=>HE.out (by exact h),fun h=>absurd h (by omega),fun h=>absurd h (by omega)⟩⟩
      case measure=>(simp [intOf];try omega)
    ·by_cases h1:x2=a
     ·by_cases h2:x3=b
      ·have hr:R=x1:=by
        rw [HS.out.2.1]
        refine third_at HX.out.2 HX.out.1 ?_
        unfold thr3
        rw [if_neg (HN.out.1 (by omega))];rw [if_pos ⟨h1,h2⟩]
       have HR:=hide hr
       subst h1 h2
       clear hr
       go_wp2
       go_ret
       exact ⟨by rw [HR.out];rfl,rfl⟩
      ·have HE:=hide (show¬(x2=a∧x3=b) from fun h=>h2 h.2)
       have d2:decide (x3=b)=false:=decide_eq_false h2
       subst h1
       go_wp2
       go_roundw
       case rel=>exact ⟨2,by omega,by go_num,by trivial,⟨fun _=>HN.out.1 (by omega),fun _ h=>HE.out (by exact h),fun h=>absurd h (by omega)⟩⟩
       case measure=>(simp [intOf];try omega)
     ·have HE:=hide (show¬(x2=a∧x3=b) from fun h=>h1 h.1)
      go_wp2
      go_roundw
      case rel=>exact ⟨2,by omega,by go_num,by trivial,⟨fun _=>HN.out.1 (by omega),fun _ h=>HE.out (by exact h),fun h=>absurd h (by omega)⟩⟩
      case measure=>(simp [intOf];try omega)
    ·by_cases h1:x3=a
     ·by_cases h2:x1=b
      ·have hr:R=x2:=by
        rw [HS.out.2.1]
        refine third_at HX.out.2 HX.out.1 ?_
        unfold thr3
        rw [if_neg (HN.out.1 (by omega)),if_neg (HN.out.2.1 (by omega))];rw [if_pos ⟨h1,h2⟩]
       have HR:=hide hr
       subst h1 h2
       clear hr
       go_wp2
       go_ret
       exact ⟨by rw [HR.out];rfl,rfl⟩
      ·have HE:=hide (show¬(x3=a∧x1=b) from fun h=>h2 h.2)
       have d2:decide (x1=b)=false:=decide_eq_false h2
       subst h1
       go_wp2
       go_roundw
       case rel=>exact ⟨3,by omega,by go_num,by trivial,⟨fun _=>HN.out.1 (by omega),fun _=>HN.out.2.1 (by omega),fun _ h=>HE.out (by exact h)⟩⟩
       case measure=>(simp [intOf];try omega)
     ·have HE:=hide (show¬(x3=a∧x1=b) from fun h=>h1 h.1)
      go_wp2
      go_roundw
      case rel=>exact ⟨3,by omega,by go_num,by trivial,⟨fun _=>HN.out.1 (by omega),fun _=>HN.out.2.1 (by omega),fun _ h=>HE.out (by exact h)⟩⟩
      case measure=>(simp [intOf];try omega)
    ·go_wp2
     go_roundw
     case rel=>exact ⟨i+1,by omega,by go_num,by trivial,fun k y hk hy=>by
      rcases Nat.lt_or_ge k i with h | h
      ·exact HX.out.2 k y h hy
      ·have e:k=i:=by omega
       subst e
       rw [HX.out.1] at hy
       cases hy
       exact HN.out.all⟩
     case measure=>(simp [intOf];try omega)
  ·obtain rfl:i=N:=by omega
   have i1:¬(i:Int) < (i:Int):=by omega
   have hr:R= -1:=by rw [HS.out.2.1];exact third_no (by rw [←HS.out.2.2];exact hno)
   have HR:=hide hr
   clear hr hno
   go_wp2
   go_ret
   exact ⟨by rw [HR.out];rfl,rfl⟩
end Go.Proofs.YtmemofonebphfaaGreat
