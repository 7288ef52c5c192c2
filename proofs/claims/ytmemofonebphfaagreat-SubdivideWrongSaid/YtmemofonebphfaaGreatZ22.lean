import Derived.Deep.CutBlock
import Derived.Deep.DeepCutAuto
import Derived.Test.YtmemofonebphfaaGreatZ20
namespace Go.Proofs.YtmemofonebphfaaGreat
open Go.RowKit Go.Sort
theorem fH:(Tryz.prog.info? 43).map (fun i=>(i.zero,i.size,i.bytes))=some (some (.agg #[.int .i64 0, .int .i64 0, .int .i64 0]),3,24):=by kernel_rfl
def atP (l:List Pt) (p:Pt):Nat:=(l.takeWhile fun x=>ltP x p).length
def xO (l:List Pt) (p:Pt):List Pt:=if l[atP l p]? =some p then l else l.take (atP l p)++(p::l.drop (atP l p))
theorem zOA {l:List Pt} {p:Pt} {a:Nat} (ha:a≤l.length) (hlo:∀j q,j < a→l[j]? =some q→ltP q p=true) (hhi:∀q,l[a]? =some q→ltP q p=false):a=atP l p:=by
 unfold atP
 induction l generalizing a with
 | nil=>simpa using ha
 | cons x l ih=>
  cases a with
  | zero=>
   have:=hhi x rfl
   simp [this]
  | succ a=>
   have h0:=hlo 0 x (by omega) rfl
   rw [List.takeWhile_cons,h0,if_pos rfl,List.length_cons]
   rw [←ih (a:=a) (by simpa using ha) (fun j q hj hq=>hlo (j+1) q (by omega) (by simpa using hq)) (fun q hq=>hhi q (by simpa using hq))]
theorem jL (l:List Pt) (p:Pt):(xO l p).length≤l.length+1:=by
 unfold xO
 split
 ·omega
 ·simp;omega
theorem zIU {l:List Pt} {p q:Pt} (h:q∈xO l p):q∈l∨q=p:=by
 unfold xO at h
 split at h
 ·exact .inl h
 ·rcases List.mem_append.1 h with h | h
  ·exact .inl (List.mem_of_mem_take h)
  ·rcases List.mem_cons.1 h with h | h
   ·exact .inr h
   ·exact .inl (List.mem_of_mem_drop h)
theorem Sl.pt8 {w:World} {B b o:Nat} {ps:List Pt} (h:Sl encP 3 w B (some ⟨b,o,none⟩) ps) {i:Nat} {p:Pt} (hi:ps[i]? =some p):
  w.cell? ⟨b,o+i*3,none⟩=some (.int .i64 p.1)∧w.cell? ⟨b,o+i*3+1,none⟩=some (.int .i64 p.2.1)∧w.cell? ⟨b,o+i*3+2,none⟩=some (.int .i64 p.2.2):=by
 obtain ⟨b',o',ha,_,hc⟩:=h.at hi
 cases ha
 exact ⟨hc 0 _ rfl,hc 1 _ rfl,hc 2 _ rfl⟩
theorem Sl.take8 {α:Type} {enc:α→List Value} {k B:Nat} {w:World} {A:Option Addr} {xs:List α} (h:Sl enc k w B A xs) (a:Nat):Sl enc k w B A (xs.take a):=by
 rcases h with ⟨rfl,h⟩ | ⟨b,o,hA,hb,hc⟩
 ·exact .inl ⟨by simp,h⟩
 ·refine .inr ⟨b,o,hA,hb,fun i x hx=>hc i x ?_⟩
  rw [List.getElem?_take] at hx
  split at hx
  ·exact hx
  ·cases hx
theorem Blk.three8 {w:World} {g:Nat} {t:TypeId} {a b c:Value} (h:Blk w g t #[a,b,c]):w.cell? ⟨g,0,none⟩=some a∧w.cell? ⟨g,1,none⟩=some b∧w.cell? ⟨g,2,none⟩=some c:=⟨h.cell 0,h.cell 1,h.cell 2⟩
set_option maxRecDepth 100000 in
set_option maxHeartbeats 8000000 in
theorem zKL (A:Option Addr) (c:Nat) (l:List Pt) (p:Pt) (w:World) (hs:Sl encP 3 w w.heap.size A l) (hl:l.length≤4294967296) (hc:l.length≤c) (hp:yJ p) (hf:∀q∈l,yJ q):
  Calls Tryz.prog 99 #[.slice A l.length c,vP p] w fun e w'=>∃A' c',e= .returned (.slice A' (xO l p).length c')∧Sl encP 3 w' w'.heap.size A' (xO l p)∧(xO l p).length≤c'∧Below w.heap.size w w':=by
 obtain ⟨n,hn⟩:=ex9 (l.length)
 rw [←hn] at hl hc⊢
 have HS:=hide (ai9 hs (ai9 hp (ai9 hf hn)))
 clear hs hp hf hn
 go_enter Tryz.func99,Tryz.ntmps99
 obtain ⟨X,hX⟩:=ex9 (w.alloc (.cells #[.int .i64 p.1, .int .i64 p.2.1, .int .i64 p.2.2] 43))
 have hBX:Below w.heap.size w X:=by rw [hX];exact (Below.refl _ w).alloc lr9 _
 have hbx:Blk X w.heap.size 43 #[.int .i64 p.1, .int .i64 p.2.1, .int .i64 p.2.2]:=by rw [hX];exact Blk.new _ _ _
 have hzX:X.heap.size=w.heap.size+1:=by rw [hX];simp
 have HX:=hide (ai9 hBX (ai9 hbx hX))
 clear hBX hbx hX
 go_upto_block 0 with fail
 rw [←HX.o.2.2]
 go_cut [5] (fun a wx=>∃a':Nat,a= .int .i64 a'∧a'≤n∧(∀j q,j < a'→l[j]? =some q→ltP q p=true)∧(∀q,l[a']? =some q→ltP q p=false)∧RB X wx)
 case first=>
  go_wp2_with fail
  go_loopw [5] (fun a wx=>∃a':Nat,a= .int .i64 a'∧a'≤n∧(∀j q,j < a'→l[j]? =some q→ltP q p=true)∧RB X wx) (fun a _=>n - (intOf a).toNat)
  case atStart=>exact ⟨0,rfl,Nat.zero_le _,fun j q h=>absurd h (by omega),RB.refl _⟩
  case round=>
   obtain ⟨a,rfl,ha,hlo,hR⟩:=hrel
   have hbx:=HX.o.2.1.below hR HX.o.2.1.lt
   have hszR:=hR.size
   by_cases hla:a < n
   ·obtain ⟨q,hq⟩:∃q,l[a]? =some q:=⟨_,List.getElem?_eq_getElem (by rw [←HS.o.2.2.2];exact hla)⟩
    obtain ⟨bp,op,hAp,hbp,hcq⟩:=((HS.o.1.below HX.o.1).below (hR.mono (by omega))).at hq
    subst hAp
    have k0:=hcq 0 _ rfl
    have k1:=hcq 1 _ rfl
    have k2:=hcq 2 _ rfl
    have x0:=hbx.cell 0
    have x1:=hbx.cell 1
    have x2:=hbx.cell 2
    simp only [List.getElem?_toArray,List.getElem?_cons_zero,List.getElem?_cons_succ,Nat.add_zero] at x0 x1 x2 k0 k1 k2
    have hbpR:bp < wr.heap.size:=by omega
    have hbxR:=hbx.lt
    have i2:(a:Int) < (n:Int):=by omega
    have HL:=hide (ai9 hlo (ai9 hR hq))
    clear hlo hR hq hcq hbx
    cases hless:ltP q p
    ·have HLS:=hide hless
     go_wp2_with fail
     go_region_held3 (fun w'=>w'.cell? ⟨bp,op+a*3,none⟩=some (.int .i64 q.1)∧w'.cell? ⟨bp,op+a*3+1,none⟩=some (.int .i64 q.2.1)∧w'.cell? ⟨bp,op+a*3+2,none⟩=some (.int .i64 q.2.2)∧w'.cell? ⟨w.heap.size,0,none⟩=some (.int .i64 p.1)∧w'.cell? ⟨w.heap.size,1,none⟩=some (.int .i64 p.2.1)∧w'.cell? ⟨w.heap.size,2,none⟩=some (.int .i64 p.2.2)) (first | go_keep | exact ⟨zM hL k0,zM hL k1,zM hL k2,zM hL x0,zM hL x1,zM hL x2⟩) ((go_at_call 90;refine (xW q p _).mono ?_;rintro e w3 ⟨rfl,hL⟩;rw [hless]))
     go_wp2_with fail
     go_meet
     case rel=>
      refine ⟨a,rfl,ha,HL.o.1,fun q' hq'=> ?_,HL.o.2.1.trans _ _ _ ((qE wr).trans hL.below)⟩
      rw [HL.o.2.2] at hq'
      cases hq'
      exact HLS.o
    ·have HLS:=hide hless
     go_wp2_with fail
     go_region_held3 (fun w'=>w'.cell? ⟨bp,op+a*3,none⟩=some (.int .i64 q.1)∧w'.cell? ⟨bp,op+a*3+1,none⟩=some (.int .i64 q.2.1)∧w'.cell? ⟨bp,op+a*3+2,none⟩=some (.int .i64 q.2.2)∧w'.cell? ⟨w.heap.size,0,none⟩=some (.int .i64 p.1)∧w'.cell? ⟨w.heap.size,1,none⟩=some (.int .i64 p.2.1)∧w'.cell? ⟨w.heap.size,2,none⟩=some (.int .i64 p.2.2)) (first | go_keep | exact ⟨zM hL k0,zM hL k1,zM hL k2,zM hL x0,zM hL x1,zM hL x2⟩) ((go_at_call 90;refine (xW q p _).mono ?_;rintro e w3 ⟨rfl,hL⟩;rw [hless]))
     go_wp2_with fail
     go_roundw
     case rel=>
      refine ⟨a+1,by go_num,by omega,fun j q' hj hq'=> ?_,HL.o.2.1.trans _ _ _ ((qE wr).trans hL.below)⟩
      rcases Nat.lt_or_ge j a with h | h
      ·exact HL.o.1 j q' h hq'
      ·have hja:j=a:=by omega
       subst hja
       rw [HL.o.2.2] at hq'
       cases hq'
       exact HLS.o
     case measure=>simp [intOf];omega
   ·have hae:a=n:=by omega
    have HL:=hide (ai9 hlo (ai9 hR hae))
    clear hlo hR hbx hae
    go_wp2_with fail
    go_meet
    case rel=>exact ⟨a,rfl,ha,HL.o.1,(fun q' hq'=>by rw [HL.o.2.2,HS.o.2.2.2,List.getElem?_eq_none lr9] at hq';cases hq'),HL.o.2.1⟩
 case rest=>
  obtain ⟨a,rfl,ha,hlo,hhi,hR⟩:=hcut
  have hat:a=atP l p:=zOA (by rw [←HS.o.2.2.2];exact ha) hlo hhi
  have hbx:=HX.o.2.1.below hR HX.o.2.1.lt
  have hszR:=hR.size
  obtain ⟨x0,x1,x2⟩:=hbx.three8
  have hbw:Below w.heap.size w wc:=HX.o.1.trans (hR.mono (by omega))
  have hsl:Sl encP 3 wc w.heap.size A l:=HS.o.1.below hbw
  have HA:=hide (ai9 hat (ai9 hbw (ai9 hsl hbx)))
  clear hat hlo hhi hR hbw hsl
  by_cases hla:a < n
  ·have i2:(a:Int) < (n:Int):=by omega
   obtain ⟨q,hq⟩:∃q,l[a]? =some q:=⟨_,List.getElem?_eq_getElem (by rw [←HS.o.2.2.2];exact hla)⟩
   have heq:=eqP q p (HS.o.2.2.1 q (List.mem_of_getElem? hq)) HS.o.2.1
   obtain ⟨bp,op,hAp,hbp,hcq⟩:=HA.o.2.2.1.at hq
   subst hAp
   have hwq:xO l p=if q=p then l else l.take a++(p::l.drop a):=by
    unfold xO
    rw [←HA.o.1,hq]
    simp
   obtain ⟨k0,k1,k2⟩:=HA.o.2.2.1.pt8 hq
   have hd:decide (a < n)=true:=decide_eq_true hla
   have HQ:=hide hwq
   clear hq hcq hwq
   by_cases hqp:q=p
   ·have hdq:decide (q=p)=true:=decide_eq_true hqp
    rw [hdq] at heq
    have HE:=hide hqp
    clear hqp hdq
    go_wp2_with fail
    go_quiet (fail)
    go_wp2
    go_ret
    have hww:xO l p=l:=by rw [HQ.o,if_pos HE.o]
    rw [hww,←HS.o.2.2.2]
    have hbW:Below w.heap.size w (wc.drewN nq):=below_drewN HA.o.2.1 _
    exact ⟨_,c,rfl,(HS.o.1.below hbW).more hbW.size,hc,hbW⟩
   ·have hdq:decide (q=p)=false:=decide_eq_false hqp
    rw [hdq] at heq
    have hww:xO l p=l.take a++(p::l.drop a):=by rw [HQ.o,if_neg hqp]
    have HE:=hide hww
    clear hqp hdq hww
    go_wp2_with fail
    go_quiet (fail)
    obtain ⟨W,hW⟩:=ex9 (wc.drewN nq)
    have hbW:Below w.heap.size w W:=by rw [hW];exact below_drewN HA.o.2.1 _
    have hslW:Sl encP 3 W w.heap.size (some ⟨bp,op,none⟩) l:=HS.o.1.below hbW
    have hbxW:Blk W w.heap.size 43 #[.int .i64 p.1, .int .i64 p.2.1, .int .i64 p.2.2]:=by rw [hW];exact HA.o.2.2.2.drewN _
    have hzW:=hbW.size
    have hzW1:=hbxW.lt
    have hta:(l.take a).length=a:=by rw [List.length_take];have:=HS.o.2.2.2;omega
    have htd:(l.drop a).length=n - a:=by rw [List.length_drop,←HS.o.2.2.2]
    have hrunH:∀V:World,(Instr.slice 28 (.slice (some ⟨bp,op,none⟩) n c) none (some (.int .i64 a)) none).run Tryz.prog V= .ok (.slice (some ⟨bp,op,none⟩) a c) V:=fun V=>wE Tryz.underlying28 Tryz.sizeOf43 ha hc V
    have hrunL:∀V:World,(Instr.slice 28 (.slice (some ⟨bp,op,none⟩) n c) (some (.int .i64 a)) none none).run Tryz.prog V= .ok (.slice (cutA (some ⟨bp,op,none⟩) c a 3) (n - a) (c - a)) V:=fun V=>kN Tryz.underlying28 Tryz.sizeOf43 ha V
    have hslT:Sl encP 3 W w.heap.size (some ⟨bp,op,none⟩) (l.take a):=hslW.take8 a
    have hslD:Sl encP 3 W w.heap.size (cutA (some ⟨bp,op,none⟩) c a 3) (l.drop a):=hslW.cut (by rw [←HS.o.2.2.2];exact ha) (by rw [←HS.o.2.2.2];exact hc)
    obtain ⟨x0',x1',x2'⟩:=hbxW.three8
    have HT:=hide (ai9 hbW (ai9 hslT (ai9 hslD (ai9 hbxW (ai9 hta (ai9 htd hW))))))
    rw [←hW]
    clear hbW hslW hbxW hta htd hslT hslD hW
    go_upto_region 10 with (at_builtin;refine zI rfl _ _ _ rfl Tryz.underlying28 fH rfl (by omega) zO yQ rfl (Own.nil (base:=W.heap.size)) (some ⟨bp,op,none⟩) c w.heap.size (l.take a) (by rw [HT.o.2.2.2.2.1];rfl) HT.o.2.1 (by rw [HT.o.2.2.2.2.1];unfold maxLen;omega) (by rw [HT.o.2.2.2.2.1];omega) lr9 ?_;intro v1 w1 hown1 hg1 hB1 hat1;rw [HT.o.2.2.2.2.1,Nat.zero_add,List.nil_append] at hown1;obtain ⟨A1,c1,rfl⟩:=hown1.form)
    have y0:=(hB1.cell (p:=⟨w.heap.size,0,none⟩) hzW1).trans x0'
    have y1:=(hB1.cell (p:=⟨w.heap.size,1,none⟩) hzW1).trans x1'
    have y2:=(hB1.cell (p:=⟨w.heap.size,2,none⟩) hzW1).trans x2'
    have HO1:=hide (ai9 hown1 hB1)
    have hz1:=hB1.size
    have hown1':=hown1.alloc (.cells #[.int .i64 p.1, .int .i64 p.2.1, .int .i64 p.2.2] 43)
    clear hown1 hg1 hB1 hat1 x0' x1' x2'
    go_upto_region 11 with (at_builtin;refine zC rfl _ _ _ rfl Tryz.underlying28 fH rfl (by omega) zO yQ rfl hown1' w1.heap.size 1 p rfl (Blk.new _ _ _) (by unfold maxLen;omega) (by omega) (by simp;omega) ?_;intro g2 cap2 w2 hown2 hg2 hB2 hat2 hgb2 hlt2)
    have hB12:Below W.heap.size W w2:=HO1.o.2.trans (((Below.refl _ w1).alloc (by omega) _).trans hB2)
    have hz2:=hB12.size
    have HO2:=hide (ai9 hown2 (ai9 hB12 (HT.o.2.2.1.below (hB12.mono hzW))))
    clear hown2 hg2 hB2 hat2 hown1' hB12 y0 y1 y2
    go_wp2_with (at_builtin;refine zI rfl _ _ _ rfl Tryz.underlying28 fH rfl (by omega) zO yQ rfl HO2.o.1 (cutA (some ⟨bp,op,none⟩) c a 3) (c - a) w.heap.size (l.drop a) (by rw [HT.o.2.2.2.2.2.1];rfl) HO2.o.2.2 (by rw [HT.o.2.2.2.2.2.1];unfold maxLen;omega) (by rw [HT.o.2.2.2.2.2.1];omega) hz2 ?_;intro v3 w3 hown3 hg3 hB3 hat3;obtain ⟨A3,c3,rfl⟩:=hown3.form)
    go_ret
    have hlen:a+1+(l.drop a).length=(xO l p).length:=by rw [hown3.1,HE.o];simp
    have hfin:Below w.heap.size w w3:=HT.o.1.trans ((HO2.o.2.1.mono hzW).trans (hB3.mono hzW))
    rw [List.append_assoc,List.singleton_append,←HE.o] at hown3
    refine ⟨A3,c3,?_,hown3.sl zO lr9,?_,hfin⟩
    ·rw [←hlen,List.length_drop];rfl
    ·rw [←hlen];exact hown3.place.1
  ·have hd:decide (a < n)=false:=decide_eq_false hla
   have hww:xO l p=l.take a++(p::l.drop a):=by
    unfold xO
    rw [←HA.o.1,List.getElem?_eq_none (by rw [←HS.o.2.2.2];omega),if_neg (by simp)]
   have HE:=hide hww
   clear hww
   go_wp2_with fail
   go_quiet (fail)
   obtain ⟨W,hW⟩:=ex9 (wc.drewN nq)
   have hbW:Below w.heap.size w W:=by rw [hW];exact below_drewN HA.o.2.1 _
   have hslW:Sl encP 3 W w.heap.size A l:=HS.o.1.below hbW
   have hbxW:Blk W w.heap.size 43 #[.int .i64 p.1, .int .i64 p.2.1, .int .i64 p.2.2]:=by rw [hW];exact HA.o.2.2.2.drewN _
   have hzW:=hbW.size
   have hzW1:=hbxW.lt
   have hta:(l.take a).length=a:=by rw [List.length_take];have:=HS.o.2.2.2;omega
   have htd:(l.drop a).length=n - a:=by rw [List.length_drop,←HS.o.2.2.2]
   have hrunH:∀V:World,(Instr.slice 28 (.slice A n c) none (some (.int .i64 a)) none).run Tryz.prog V= .ok (.slice A a c) V:=fun V=>wE Tryz.underlying28 Tryz.sizeOf43 ha hc V
   have hrunL:∀V:World,(Instr.slice 28 (.slice A n c) (some (.int .i64 a)) none none).run Tryz.prog V= .ok (.slice (cutA A c a 3) (n - a) (c - a)) V:=fun V=>kN Tryz.underlying28 Tryz.sizeOf43 ha V
   have hslT:Sl encP 3 W w.heap.size A (l.take a):=hslW.take8 a
   have hslD:Sl encP 3 W w.heap.size (cutA A c a 3) (l.drop a):=hslW.cut (by rw [←HS.o.2.2.2];exact ha) (by rw [←HS.o.2.2.2];exact hc)
   obtain ⟨x0',x1',x2'⟩:=hbxW.three8
   have HT:=hide (ai9 hbW (ai9 hslT (ai9 hslD (ai9 hbxW (ai9 hta (ai9 htd hW))))))
   rw [←hW]
   clear hbW hslW hbxW hta htd hslT hslD hW
   go_upto_region 10 with (at_builtin;refine zI rfl _ _ _ rfl Tryz.underlying28 fH rfl (by omega) zO yQ rfl (Own.nil (base:=W.heap.size)) A c w.heap.size (l.take a) (by rw [HT.o.2.2.2.2.1];rfl) HT.o.2.1 (by rw [HT.o.2.2.2.2.1];unfold maxLen;omega) (by rw [HT.o.2.2.2.2.1];omega) lr9 ?_;intro v1 w1 hown1 hg1 hB1 hat1;rw [HT.o.2.2.2.2.1,Nat.zero_add,List.nil_append] at hown1;obtain ⟨A1,c1,rfl⟩:=hown1.form)
   have y0:=(hB1.cell (p:=⟨w.heap.size,0,none⟩) hzW1).trans x0'
   have y1:=(hB1.cell (p:=⟨w.heap.size,1,none⟩) hzW1).trans x1'
   have y2:=(hB1.cell (p:=⟨w.heap.size,2,none⟩) hzW1).trans x2'
   have HO1:=hide (ai9 hown1 hB1)
   have hz1:=hB1.size
   have hown1':=hown1.alloc (.cells #[.int .i64 p.1, .int .i64 p.2.1, .int .i64 p.2.2] 43)
   clear hown1 hg1 hB1 hat1 x0' x1' x2'
   go_upto_region 11 with (at_builtin;refine zC rfl _ _ _ rfl Tryz.underlying28 fH rfl (by omega) zO yQ rfl hown1' w1.heap.size 1 p rfl (Blk.new _ _ _) (by unfold maxLen;omega) (by omega) (by simp;omega) ?_;intro g2 cap2 w2 hown2 hg2 hB2 hat2 hgb2 hlt2)
   have hB12:Below W.heap.size W w2:=HO1.o.2.trans (((Below.refl _ w1).alloc (by omega) _).trans hB2)
   have hz2:=hB12.size
   have HO2:=hide (ai9 hown2 (ai9 hB12 (HT.o.2.2.1.below (hB12.mono hzW))))
   clear hown2 hg2 hB2 hat2 hown1' hB12 y0 y1 y2
   go_wp2_with (at_builtin;refine zI rfl _ _ _ rfl Tryz.underlying28 fH rfl (by omega) zO yQ rfl HO2.o.1 (cutA A c a 3) (c - a) w.heap.size (l.drop a) (by rw [HT.o.2.2.2.2.2.1];rfl) HO2.o.2.2 (by rw [HT.o.2.2.2.2.2.1];unfold maxLen;omega) (by rw [HT.o.2.2.2.2.2.1];omega) hz2 ?_;intro v3 w3 hown3 hg3 hB3 hat3;obtain ⟨A3,c3,rfl⟩:=hown3.form)
   go_ret
   have hlen:a+1+(l.drop a).length=(xO l p).length:=by rw [hown3.1,HE.o];simp
   have hfin:Below w.heap.size w w3:=HT.o.1.trans ((HO2.o.2.1.mono hzW).trans (hB3.mono hzW))
   rw [List.append_assoc,List.singleton_append,←HE.o] at hown3
   refine ⟨A3,c3,?_,hown3.sl zO lr9,?_,hfin⟩
   ·rw [←hlen,List.length_drop];rfl
   ·rw [←hlen];exact hown3.place.1
end Go.Proofs.YtmemofonebphfaaGreat
namespace Go.Proofs.YtmemofonebphfaaGreat
open Go.RowKit Go.Sort
def corN (l:List Pt) (t:Tri) (j:Nat):List Pt:=if j=0 then l else if j=1 then xO l t.1 else if j=2 then xO (xO l t.1) t.2.1 else xO (xO (xO l t.1) t.2.1) t.2.2
theorem dV (l:List Pt) (t:Tri) {j:Nat} (hj:j < 3):xO (corN l t j) (zT t j)=corN l t (j+1):=by
 have hc:j=0∨j=1∨j=2:=by omega
 rcases hc with rfl | rfl | rfl <;>rfl
def zN (ts:List Tri):List Pt:=ts.foldl (fun l t=>corN l t 3) []
theorem kH (ts:List Tri) (k:Nat) (t:Tri) (h:ts[k]? =some t):zN (ts.take (k+1))=corN (zN (ts.take k)) t 3:=by
 unfold zN
 rw [List.take_add_one,h,Option.toList_some,List.foldl_append]
 rfl
theorem qZ {t:Tri} (h:fitsT t) (j:Nat):yJ (zT t j):=by
 unfold zT
 split
 ·exact h.1
 ·split
  ·exact h.2.1
  ·exact h.2.2
theorem gJ.corner8 {w:World} {b o:Nat} {t:Tri} (h:gJ w b o t) {j:Nat} (hj:j < 3):
  w.cell? ⟨b,o+j*3,none⟩=some (.int .i64 (zT t j).1)∧w.cell? ⟨b,o+j*3+1,none⟩=some (.int .i64 (zT t j).2.1)∧w.cell? ⟨b,o+j*3+2,none⟩=some (.int .i64 (zT t j).2.2):=by
 obtain ⟨h0,h1,h2,h3,h4,h5,h6,h7,h8⟩:=h
 have hc:j=0∨j=1∨j=2:=by omega
 rcases hc with rfl | rfl | rfl
 ·exact ⟨h0,h1,h2⟩
 ·exact ⟨h3,h4,h5⟩
 ·exact ⟨h6,h7,h8⟩
set_option maxRecDepth 100000 in
set_option maxHeartbeats 8000000 in
theorem dW (A:Option Addr) (c:Nat) (ts:List Tri) (w:World) (hs:Sl encT 9 w w.heap.size A ts) (hl:ts.length≤1073741824) (hf:∀t∈ts,fitsT t):
  Calls Tryz.prog 71 #[.slice A ts.length c] w fun e w'=>∃A' c',e= .returned (.slice A' (zN ts).length c')∧Sl encP 3 w' w'.heap.size A' (zN ts)∧(zN ts).length≤c'∧Below w.heap.size w w'∧∀p∈zN ts,yJ p:=by
 obtain ⟨n,hn⟩:=ex9 (ts.length)
 rw [←hn] at hl⊢
 have HS:=hide (ai9 hs (ai9 hf hn))
 clear hs hf hn
 go_enter Tryz.func71,Tryz.ntmps71
 go_wp2
 go_loopw [3,4] (fun v iv wr=>∃(k:Nat) (A':Option Addr) (l c':Nat),k≤n∧iv= .int .i64 k∧v= .slice A' l c'∧l=(zN (ts.take k)).length∧l≤3*k∧Sl encP 3 wr wr.heap.size A' (zN (ts.take k))∧l≤c'∧(∀p∈zN (ts.take k),yJ p)∧Below w.heap.size w wr) (fun _ iv _=>n - (intOf iv).toNat)
 case atStart=>exact ⟨0,none,0,0,by omega,rfl,rfl,rfl,by omega, .inl ⟨rfl,rfl⟩,Nat.le_refl _,fun p hp=>absurd hp (by simp [zN]),Below.refl _ w⟩
 case round=>
  obtain ⟨k,A1,l1,c1,hk,rfl,rfl,hl1,hl3,hs1,hc1,hf1,hB⟩:=hrel
  have hz:=hB.size
  by_cases hlt:k < n
  ·obtain ⟨t,ht⟩:∃t,ts[k]? =some t:=⟨_,List.getElem?_eq_getElem (by rw [←HS.o.2.2];exact hlt)⟩
   have i1:(k:Int) < (n:Int):=by omega
   have HK:=hide (ai9 hl1 (ai9 hs1 (ai9 hf1 (ai9 hB (ai9 ht (HS.o.2.1 t (List.mem_of_getElem? ht)))))))
   clear hl1 hs1 hf1 hB ht
   go_wp2
   go_loopw [3,5] (fun v jv wx=>∃(j:Nat) (A':Option Addr) (l c':Nat),j≤3∧jv= .int .i64 j∧v= .slice A' l c'∧l=(corN (zN (ts.take k)) t j).length∧l≤3*k+j∧Sl encP 3 wx wx.heap.size A' (corN (zN (ts.take k)) t j)∧l≤c'∧(∀p∈corN (zN (ts.take k)) t j,yJ p)∧Below w.heap.size w wx) (fun _ jv _=>3 - (intOf jv).toNat)
   case atStart=>exact ⟨0,A1,l1,c1,by omega,rfl,rfl,HK.o.1,by omega,HK.o.2.1,hc1,HK.o.2.2.1,HK.o.2.2.2.1⟩
   case round=>
    obtain ⟨j,A2,l2,c2,hj,rfl,rfl,hl2,hl4,hs2,hc2,hf2,hB2⟩:=hrel
    have hz2:=hB2.size
    by_cases hlt2:j < 3
    ·have i2:(j:Int) < 3:=by omega
     obtain ⟨b,o,hA,hb,hct⟩:=(HS.o.1.below hB2).tri HK.o.2.2.2.2.1
     subst hA
     obtain ⟨g0,g1,g2⟩:=hct.corner8 hlt2
     have hfp:=qZ HK.o.2.2.2.2.2 j
     have hcal:=zKL A2 c2 (corN (zN (ts.take k)) t j) (zT t j) wr hs2 (by omega) (by omega) hfp hf2
     rw [dV _ _ hlt2,←hl2] at hcal
     have hwl:=jL (corN (zN (ts.take k)) t j) (zT t j)
     rw [dV _ _ hlt2,←hl2] at hwl
     have hfn:∀p∈corN (zN (ts.take k)) t (j+1),yJ p:=fun p hp=>by
      rw [←dV _ _ hlt2] at hp
      rcases zIU hp with h | h
      ·exact hf2 p h
      ·rw [h];exact hfp
     have HJ:=hide (ai9 hcal (ai9 hwl (ai9 hfn hB2)))
     clear hct hcal hwl hfn hs2 hf2 hB2 hl2 hfp
     go_wp2_with fail
     refine HJ.o.1.mono ?_
     rintro e w3 ⟨A3,c3,rfl,hs3,hc3,hB3⟩
     obtain ⟨l3,hl3'⟩:∃l3,l3=(corN (zN (ts.take k)) t (j+1)).length:=⟨_,rfl⟩
     rw [←hl3'] at hc3⊢
     have HR:=hide (ai9 hs3 (ai9 hl3' hB3))
     clear hs3 hl3' hB3 g0 g1 g2
     go_wp2_with fail
     go_roundw
     case rel=>exact ⟨j+1,A3,l3,c3,by omega,by go_num,rfl,HR.o.2.1,by have:=HJ.o.2.1;have:=HR.o.2.1;omega,HR.o.1,hc3,HJ.o.2.2.1,HJ.o.2.2.2.trans (HR.o.2.2.mono hz2)⟩
     case measure=>simp [intOf];omega
    ·have hj3:j=3:=by omega
     subst hj3
     have HJ:=hide (ai9 hl2 (ai9 hs2 (ai9 hf2 hB2)))
     clear hl2 hs2 hf2 hB2
     go_wp2
     go_roundw
     case rel=>exact ⟨k+1,A2,l2,c2,by omega,by go_num,rfl,by rw [kH _ _ _ HK.o.2.2.2.2.1];exact HJ.o.1,by omega,by rw [kH _ _ _ HK.o.2.2.2.2.1];exact HJ.o.2.1,hc2,by rw [kH _ _ _ HK.o.2.2.2.2.1];exact HJ.o.2.2.1,HJ.o.2.2.2⟩
     case measure=>simp [intOf];omega
  ·have hke:k=ts.length:=by rw [←HS.o.2.2];omega
   rw [hke,List.take_length] at hl1 hs1 hf1
   have hkn:n=k:=by omega
   have HE:=hide (ai9 hl1 (ai9 hs1 (ai9 hf1 hB)))
   clear hl1 hs1 hf1 hB hke
   subst hkn
   go_wp2
   go_ret
   exact ⟨A1,c1,by rw [←HE.o.1];rfl,HE.o.2.1,by rw [←HE.o.1];exact hc1,HE.o.2.2.2,HE.o.2.2.1⟩
end Go.Proofs.YtmemofonebphfaaGreat
namespace Go.Proofs.YtmemofonebphfaaGreat
open Go.RowKit Go.Sort
abbrev Ed:=Pt × Pt
def encE (e:Ed):List Value:= [.int .i64 e.1.1, .int .i64 e.1.2.1, .int .i64 e.1.2.2, .int .i64 e.2.1, .int .i64 e.2.2.1, .int .i64 e.2.2.2]
abbrev vE (e:Ed):Value:= .agg #[.int .i64 e.1.1, .int .i64 e.1.2.1, .int .i64 e.1.2.2, .int .i64 e.2.1, .int .i64 e.2.2.1, .int .i64 e.2.2.2]
theorem jJ (e:Ed):(encE e).length=6:=rfl
theorem dF (e:Ed):∀u∈encE e,u.oneCell'=true:=by
 intro u hu
 simp only [encE,List.mem_cons,List.not_mem_nil,or_false] at hu
 rcases hu with rfl | rfl | rfl | rfl | rfl | rfl <;>rfl
theorem zKG:(Tryz.prog.info? 170).map (fun i=>(i.zero,i.size,i.bytes))=some (some (.agg #[.int .i64 0, .int .i64 0, .int .i64 0, .int .i64 0, .int .i64 0, .int .i64 0]),6,48):=by kernel_rfl
def vF (e:Ed):Prop:=yJ e.1∧yJ e.2
set_option maxRecDepth 100000 in
theorem zOP (e:Ed) (he:vF e):Tryz.prog.keyLits 3 170 (encE e)=some [.int .i64 e.1.1, .int .i64 e.1.2.1, .int .i64 e.1.2.2, .int .i64 e.2.1, .int .i64 e.2.2.1, .int .i64 e.2.2.2]:=by
 have c:Tryz.prog.cellsOf 43=3:=by kernel_rfl
 have c9:Tryz.prog.cellsOf 170=6:=by kernel_rfl
 have h0:=zEJ e.1 he.1
 have h1:=zEJ e.2 he.2
 unfold Program.keyLits
 simp [encE,Tryz.underlying170,c,c9,List.range_succ,h0,h1]
set_option maxRecDepth 100000 in
theorem eqE (a b:Ed) (ha:vF a) (hb:vF b) (w:World):(Op.equalIn 10000 170 (vE a) (vE b)).run Tryz.prog w= .ok (decide (a=b)) w:=by
 have c:Tryz.prog.cellsOf 170=6:=by kernel_rfl
 obtain ⟨r,hr,he⟩:=run_equalIn_deep (P:=Tryz.prog) 9997 3 170 (by kernel_rfl) w 3 3 (vE a) (vE b) _ _ (by simp [Value.formed,Tryz.underlying170,c]) (by simp [Value.formed,Tryz.underlying170,c]) (zOP a ha) (zOP b hb)
 rw [hr]
 have:r=decide (a=b):=by
  rw [Bool.eq_iff_iff,he]
  obtain ⟨⟨a1,a2,a3⟩,a4,a5,a6⟩:=a
  obtain ⟨⟨b1,b2,b3⟩,b4,b5,b6⟩:=b
  simp [and_assoc]
 rw [this]
section
variable {α:Type} {enc:α→List Value} {k B:Nat}
theorem Sl.of_blk (hk:∀x,(enc x).length=k) {w:World} {g:Nat} {t:TypeId} {ys:List α} (h:Blk w g t (ys.flatMap enc).toArray) (hg:g < B):Sl enc k w B (some ⟨g,0,none⟩) ys:=by
 refine .inr ⟨g,0,rfl,hg,fun i x hi j u hu=> ?_⟩
 rw [show 0+i*k+j=i*k+j by omega,h.cell]
 have:=flat_get hk ys i x hi j u hu
 simpa using this
end
def yZ (t:Tri):List Ed:= [(t.1,t.2.1),(t.2.1,t.2.2),(t.2.2,t.1)]
def zK (ts:List Tri):List Ed:=ts.flatMap yZ
theorem vM (ts:List Tri):(zK ts).length=3*ts.length:=by
 unfold zK
 induction ts with
 | nil=>rfl
 | cons t ts ih=>rw [List.flatMap_cons,List.length_append,ih,List.length_cons];simp [yZ];omega
theorem wQ (ts:List Tri) (k:Nat) (t:Tri) (h:ts[k]? =some t):zK (ts.take (k+1))=zK (ts.take k)++yZ t:=by
 unfold zK
 rw [List.take_add_one,h,Option.toList_some,List.flatMap_append,List.flatMap_singleton]
theorem kM {ts:List Tri} (h:∀t∈ts,fitsT t):∀e∈zK ts,vF e:=by
 intro e he
 obtain ⟨t,ht,he⟩:=List.mem_flatMap.1 he
 have hf:=h t ht
 simp only [yZ,List.mem_cons,List.not_mem_nil,or_false] at he
 rcases he with rfl | rfl | rfl
 ·exact ⟨hf.1,hf.2.1⟩
 ·exact ⟨hf.2.1,hf.2.2⟩
 ·exact ⟨hf.2.2,hf.1⟩
set_option maxRecDepth 100000 in
set_option maxHeartbeats 8000000 in
theorem zDQ (A:Option Addr) (c:Nat) (ts:List Tri) (w:World) (hs:Sl encT 9 w w.heap.size A ts) (hl:ts.length≤1073741824):
  Calls Tryz.prog 122 #[.slice A ts.length c] w fun e w'=>∃v,e= .returned v∧Own encE 6 170 w' w.heap.size v (zK ts).length (zK ts)∧Below w.heap.size w w':=by
 obtain ⟨n,hn⟩:=ex9 (ts.length)
 rw [←hn] at hl⊢
 have HS:=hide (ai9 hs hn)
 clear hs hn
 go_enter Tryz.func122,Tryz.ntmps122
 go_wp2
 go_loopw [3,4] (fun v iv wr=>∃k:Nat,k≤n∧iv= .int .i64 k∧Own encE 6 170 wr w.heap.size v (3*k) (zK (ts.take k))∧Below w.heap.size w wr) (fun _ iv _=>n - (intOf iv).toNat)
 case atStart=>exact ⟨0,by omega,rfl,Own.nil,Below.refl _ w⟩
 case round=>
  obtain ⟨k,hk,rfl,hown,hB⟩:=hrel
  obtain ⟨A1,c1,rfl⟩:=hown.form
  have hz:=hB.size
  by_cases hlt:k < n
  ·obtain ⟨t,ht⟩:∃t,ts[k]? =some t:=⟨_,List.getElem?_eq_getElem (by rw [←HS.o.2];exact hlt)⟩
   have i1:(k:Int) < (n:Int):=by omega
   obtain ⟨b,o,hA,hb,g0,g1,g2,g3,g4,g5,g6,g7,g8⟩:=(HS.o.1.below hB).tri ht
   subst hA
   have HK:=hide (ai9 hown (ai9 hB ht))
   have hown1:=(hown.alloc (.cells (encT t).toArray 46)).alloc (.cells (yZ t |>.flatMap encE).toArray 170)
   clear hown hB ht
   go_wp2_with (at_builtin;refine zI rfl _ _ _ rfl Tryz.underlying167 zKG rfl (by omega) jJ dF rfl hown1 (some ⟨wr.heap.size+1,0,none⟩) 3 (wr.heap.size+2) (yZ t) rfl (Sl.of_blk jJ (Blk.new' _ _ _ _ (by simp)) (by omega)) (by unfold maxLen;simp [yZ];omega) (by simp [yZ];omega) (by simp;omega) ?_;intro v2 w2 hown2 hg2 hB2 hat2)
   go_roundw
   case rel=>exact ⟨k+1,by omega,by go_num,by rw [wQ _ _ _ HK.o.2.2];exact hown2,((HK.o.2.1.alloc (by omega) _).alloc (by simp;omega) _).trans hB2⟩
   case measure=>simp [intOf];omega
  ·have hke:k=ts.length:=by rw [←HS.o.2];omega
   have hle:=vM ts
   rw [hke,List.take_length,←hle] at hown
   have hkn:n=k:=by omega
   have HE:=hide (ai9 hown (ai9 hB hle))
   clear hown hB hle hke
   subst hkn
   go_wp2
   go_ret
   exact ⟨_,by rw [show 3*n=(zK ts).length by rw [HE.o.2.2,←HS.o.2]];rfl,HE.o.1,HE.o.2.1⟩
end Go.Proofs.YtmemofonebphfaaGreat
namespace Go.Proofs.YtmemofonebphfaaGreat
open Go.RowKit Go.Sort
theorem Sl.ed {w:World} {B b o:Nat} {es:List Ed} (h:Sl encE 6 w B (some ⟨b,o,none⟩) es) {i:Nat} {e:Ed} (hi:es[i]? =some e):
  w.cell? ⟨b,o+i*6,none⟩=some (.int .i64 e.1.1)∧w.cell? ⟨b,o+i*6+1,none⟩=some (.int .i64 e.1.2.1)∧w.cell? ⟨b,o+i*6+2,none⟩=some (.int .i64 e.1.2.2)∧w.cell? ⟨b,o+i*6+3,none⟩=some (.int .i64 e.2.1)∧w.cell? ⟨b,o+i*6+4,none⟩=some (.int .i64 e.2.2.1)∧w.cell? ⟨b,o+i*6+5,none⟩=some (.int .i64 e.2.2.2):=by
 obtain ⟨b',o',ha,_,hc⟩:=h.at hi
 cases ha
 exact ⟨hc 0 _ rfl,hc 1 _ rfl,hc 2 _ rfl,hc 3 _ rfl,hc 4 _ rfl,hc 5 _ rfl⟩
theorem Blk.six {w:World} {g:Nat} {t:TypeId} {e:Ed} (h:Blk w g t (encE e).toArray):
  w.cell? ⟨g,0,none⟩=some (.int .i64 e.1.1)∧w.cell? ⟨g,1,none⟩=some (.int .i64 e.1.2.1)∧w.cell? ⟨g,2,none⟩=some (.int .i64 e.1.2.2)∧w.cell? ⟨g,3,none⟩=some (.int .i64 e.2.1)∧w.cell? ⟨g,4,none⟩=some (.int .i64 e.2.2.1)∧w.cell? ⟨g,5,none⟩=some (.int .i64 e.2.2.2):=
 ⟨h.cell 0,h.cell 1,h.cell 2,h.cell 3,h.cell 4,h.cell 5⟩
def cntE (l:List Ed) (e:Ed):Nat:=l.countP fun x=>decide (x=e)
theorem zJT (l:List Ed) (e x:Ed) (k:Nat) (h:l[k]? =some x):cntE (l.take (k+1)) e=cntE (l.take k) e+if x=e then 1 else 0:=by
 unfold cntE
 rw [List.take_add_one,h,Option.toList_some,List.countP_append,List.countP_singleton]
 simp
set_option maxRecDepth 100000 in
set_option maxHeartbeats 8000000 in
theorem count_any (A:Option Addr) (c:Nat) (l:List Ed) (e:Ed) (w:World) (hs:Sl encE 6 w w.heap.size A l) (hl:l.length≤4294967296) (he:vF e) (hf:∀x∈l,vF x):
  Calls Tryz.prog 123 #[.slice A l.length c,vE e] w fun r w'=>r= .returned (.int .i64 (cntE l e:Nat))∧Below w.heap.size w w':=by
 obtain ⟨n,hn⟩:=ex9 (l.length)
 rw [←hn] at hl⊢
 have HS:=hide (ai9 hs (ai9 he (ai9 hf hn)))
 clear hs he hf hn
 go_enter Tryz.func123,Tryz.ntmps123
 go_wp2
 obtain ⟨X,hX⟩:=ex9 (w.alloc (.cells #[.int .i64 e.1.1, .int .i64 e.1.2.1, .int .i64 e.1.2.2, .int .i64 e.2.1, .int .i64 e.2.2.1, .int .i64 e.2.2.2] 170))
 rw [←hX]
 have hBX:Below w.heap.size w X:=by rw [hX];exact (Below.refl _ w).alloc lr9 _
 have hbx:Blk X w.heap.size 170 (encE e).toArray:=by rw [hX];exact Blk.new _ _ _
 have hzX:X.heap.size=w.heap.size+1:=by rw [hX];simp
 have HX:=hide (ai9 hBX hbx)
 clear hBX hbx hX
 go_loopw [5,6] (fun v iv wr=>∃k q:Nat,k≤n∧iv= .int .i64 k∧v= .int .i64 (cntE (l.take k) e:Nat)∧cntE (l.take k) e≤k∧wr=X.drewN q) (fun _ iv _=>n - (intOf iv).toNat)
 case atStart=>exact ⟨0,0,by omega,rfl,rfl,by simp [cntE],rfl⟩
 case round=>
  obtain ⟨k,q,hk,rfl,rfl,hck,rfl⟩:=hrel
  obtain ⟨m,hm⟩:=ex9 (cntE (l.take k) e)
  rw [←hm] at hck⊢
  by_cases hlt:k < n
  ·obtain ⟨x,hx⟩:∃x,l[k]? =some x:=⟨_,List.getElem?_eq_getElem (by rw [←HS.o.2.2.2];exact hlt)⟩
   have i1:(k:Int) < (n:Int):=by omega
   obtain ⟨b,o,hA,hb,_⟩:=HS.o.1.at hx
   subst hA
   have hslX:Sl encE 6 X w.heap.size (some ⟨b,o,none⟩) l:=HS.o.1.below HX.o.1
   obtain ⟨g0,g1,g2,g3,g4,g5⟩:=hslX.ed hx
   obtain ⟨y0,y1,y2,y3,y4,y5⟩:=HX.o.2.six
   have heq:=eqE x e (HS.o.2.2.1 x (List.mem_of_getElem? hx)) HS.o.2.1
   have hsn:=zJT l e x k hx
   rw [←hm] at hsn
   have HK:=hide (ai9 hm (ai9 hx hsn))
   clear hslX hm hx hsn
   by_cases hxe:x=e
   ·have hd:decide (x=e)=true:=decide_eq_true hxe
    rw [hd] at heq
    have HE:=hide hxe
    clear hxe hd
    go_wp2_with fail
    go_quiet (fail)
    go_wp2
    go_roundw
    case rel=>
     have h1:=HK.o.2.2
     rw [if_pos HE.o] at h1
     exact ⟨k+1,q+nq,by omega,by go_num,by rw [h1];go_num,by omega,rfl⟩
    case measure=>simp [intOf];omega
   ·have hd:decide (x=e)=false:=decide_eq_false hxe
    rw [hd] at heq
    have HE:=hide hxe
    clear hxe hd
    go_wp2_with fail
    go_quiet (fail)
    go_wp2
    go_roundw
    case rel=>
     have h1:=HK.o.2.2
     rw [if_neg HE.o] at h1
     exact ⟨k+1,q+nq,by omega,by go_num,by rw [h1];rfl,by omega,rfl⟩
    case measure=>simp [intOf];omega
  ·have hke:k=l.length:=by rw [←HS.o.2.2.2];omega
   rw [hke,List.take_length] at hm
   have hkn:n=k:=by omega
   have HE:=hide hm
   clear hm hke
   subst hkn
   go_wp2
   go_ret
   exact ⟨by rw [←HE.o];rfl,below_drewN HX.o.1 _⟩
def ltE (a b:Ed):Bool:=if a.1=b.1 then ltP a.2 b.2 else ltP a.1 b.1
set_option maxRecDepth 100000 in
set_option maxHeartbeats 8000000 in
theorem bY (a b:Ed) (w:World) (ha:vF a) (hb:vF b):
  Calls Tryz.prog 149 #[vE a,vE b] w fun r w'=>r= .returned (.bool (ltE a b))∧Lay w w':=by
 have heq:=eqP a.1 b.1 ha.1 hb.1
 have hlt:ltE a b=if a.1=b.1 then ltP a.2 b.2 else ltP a.1 b.1:=rfl
 clear ha hb
 by_cases he:a.1=b.1
 ·have hd:decide (a.1=b.1)=true:=decide_eq_true he
  rw [hd] at heq
  rw [if_pos he] at hlt
  rw [hlt]
  clear he hd hlt
  go_enter Tryz.func149,Tryz.ntmps149
  go_wp2_with (go_at_call 90;refine (xW a.2 b.2 _).mono ?_;rintro e w3 ⟨rfl,hL⟩)
  go_ret
  exact ⟨rfl,(((Lay.refl _).alloc _).alloc _).trans hL⟩
 ·have hd:decide (a.1=b.1)=false:=decide_eq_false he
  rw [hd] at heq
  rw [if_neg he] at hlt
  rw [hlt]
  clear he hd hlt
  go_enter Tryz.func149,Tryz.ntmps149
  go_wp2_with (go_at_call 90;refine (xW a.1 b.1 _).mono ?_;rintro e w3 ⟨rfl,hL⟩)
  go_ret
  exact ⟨rfl,(((Lay.refl _).alloc _).alloc _).trans hL⟩
end Go.Proofs.YtmemofonebphfaaGreat
namespace Go.Proofs.YtmemofonebphfaaGreat
open Go.RowKit Go.Sort
def atE (l:List Ed) (e:Ed):Nat:=(l.takeWhile fun x=>ltE x e).length
def insE (l:List Ed) (e:Ed):List Ed:=l.take (atE l e)++(e::l.drop (atE l e))
theorem zOR {l:List Ed} {p:Ed} {a:Nat} (ha:a≤l.length) (hlo:∀j q,j < a→l[j]? =some q→ltE q p=true) (hhi:∀q,l[a]? =some q→ltE q p=false):a=atE l p:=by
 unfold atE
 induction l generalizing a with
 | nil=>simpa using ha
 | cons x l ih=>
  cases a with
  | zero=>
   have:=hhi x rfl
   simp [this]
  | succ a=>
   have h0:=hlo 0 x (by omega) rfl
   rw [List.takeWhile_cons,h0,if_pos rfl,List.length_cons]
   rw [←ih (a:=a) (by simpa using ha) (fun j q hj hq=>hlo (j+1) q (by omega) (by simpa using hq)) (fun q hq=>hhi q (by simpa using hq))]
def vK (e:Ed):Ed:=(e.2,e.1)
def fP (all out:List Ed) (e:Ed):List Ed:=if 0 < cntE all (vK e)∨0 < cntE out e then out else insE out e
def zO4 (all:List Ed):List Ed:=all.foldl (fP all) []
def yV (ts:List Tri):List Ed:=zO4 (zK ts)
theorem zK5 {l:List Ed} {e x:Ed} (h:x∈insE l e):x∈l∨x=e:=by
 unfold insE at h
 rcases List.mem_append.1 h with h | h
 ·exact .inl (List.mem_of_mem_take h)
 ·rcases List.mem_cons.1 h with h | h
  ·exact .inr h
  ·exact .inl (List.mem_of_mem_drop h)
theorem zIS (all:List Ed) (k:Nat) (e:Ed) (h:all[k]? =some e):(all.take (k+1)).foldl (fP all) []=fP all ((all.take k).foldl (fP all) []) e:=by
 rw [List.take_add_one,h,Option.toList_some,List.foldl_append]
 rfl
structure BdS (w0:Nat) (w wr:World) (ab:Nat) (all out:List Ed) (A':Option Addr) (lo c':Nat):Prop where
 len:lo=out.length
 sl:Sl encE 6 wr wr.heap.size A' out
 cap:lo≤c'
 fit:∀x∈out,vF x
 bel:Below w0 w wr
 big:ab≤wr.heap.size
theorem BdS.step {w0:Nat} {w wr w2:World} {ab:Nat} {all out:List Ed} {A':Option Addr} {lo c':Nat} (h:BdS w0 w wr ab all out A' lo c') (hB:Below wr.heap.size wr w2) (h0:w0≤ab:=by omega):BdS w0 w w2 ab all out A' lo c':=
 ⟨h.len,(h.sl.below hB).more hB.size,h.cap,h.fit,h.bel.trans (hB.mono (by have:=h.big;omega)),by have:=h.big;have:=hB.size;omega⟩
set_option maxRecDepth 100000 in
set_option maxHeartbeats 8000000 in
theorem zHI (A:Option Addr) (c:Nat) (ts:List Tri) (w:World) (hs:Sl encT 9 w w.heap.size A ts) (hl:ts.length≤1073741824) (hf:∀t∈ts,fitsT t):
  Calls Tryz.prog 124 #[.slice A ts.length c] w fun e w'=>∃A' c',e= .returned (.slice A' (yV ts).length c')∧Sl encE 6 w' w'.heap.size A' (yV ts)∧(yV ts).length≤c'∧Below w.heap.size w w':=by
 have hed:=zDQ A c ts w hs hl
 have hfe:=kM hf
 have hle:=vM ts
 obtain ⟨all,hall⟩:=ex9 (zK ts)
 have hbp:yV ts=all.foldl (fP all) []:=by unfold yV zO4;rw [hall]
 rw [←hall] at hed hfe hle
 obtain ⟨B,hB⟩:=ex9 (yV ts)
 rw [←hB] at hbp⊢
 obtain ⟨n,hn⟩:=ex9 (all.length)
 rw [←hn] at hle hed
 have hnb:n≤3221225472:=by omega
 obtain ⟨tl,htl⟩:=ex9 (ts.length)
 rw [←htl] at hed⊢
 have HS:=hide (ai9 hed (ai9 hfe (ai9 hbp hn)))
 clear hs hf hed hfe hbp hall hB hle hn htl hl
 go_enter Tryz.func124,Tryz.ntmps124
 go_wp2_with fail
 refine HS.o.1.mono ?_
 rintro e w1 ⟨v1,rfl,hown1,hB1⟩
 obtain ⟨A1,c1,rfl⟩:=hown1.form
 have hz1:=hB1.size
 have H1:=hide (ai9 (hown1.sl jJ lr9) hB1)
 clear hown1 hB1
 go_wp2
 go_loopw [4,5] (fun v iv wr=>∃(k:Nat) (A':Option Addr) (lo c':Nat),k≤n∧iv= .int .i64 k∧v= .slice A' lo c'∧lo≤k∧BdS w1.heap.size w1 wr w1.heap.size all ((all.take k).foldl (fP all) []) A' lo c') (fun _ iv _=>n - (intOf iv).toNat)
 case atStart=>exact ⟨0,none,0,0,by omega,rfl,rfl,by omega,⟨rfl, .inl ⟨rfl,rfl⟩,Nat.le_refl _,fun x hx=>absurd hx (by simp),Below.refl _ w1,Nat.le_refl _⟩⟩
 case round=>
  obtain ⟨V0,rfl⟩:=ex9 (wr)
  obtain ⟨k,A2,lo,c2,hk,rfl,rfl,hlo,hI⟩:=hrel
  obtain ⟨out,hout⟩:=ex9 ((all.take k).foldl (fP all) [])
  rw [←hout] at hI
  have hzr:=hI.big
  by_cases hlt:k < n
  ·obtain ⟨x,hx⟩:∃x,all[k]? =some x:=⟨_,List.getElem?_eq_getElem (by rw [←HS.o.2.2.2];exact hlt)⟩
   have i1:(k:Int) < (n:Int):=by omega
   have hfx:=HS.o.2.1 x (List.mem_of_getElem? hx)
   have hsn:=zIS all k x hx
   rw [←hout] at hsn
   have hsa:Sl encE 6 V0 w1.heap.size A1 all:=H1.o.1.below hI.bel
   obtain ⟨b,o,hA,hb,_⟩:=hsa.at hx
   subst hA
   obtain ⟨g0,g1,g2,g3,g4,g5⟩:=hsa.ed hx
   obtain ⟨X,hX⟩:=ex9 (V0.alloc (.cells #[.int .i64 x.1.1, .int .i64 x.1.2.1, .int .i64 x.1.2.2, .int .i64 x.2.1, .int .i64 x.2.2.1, .int .i64 x.2.2.2] 170))
   have hBX:Below V0.heap.size V0 X:=by rw [hX];exact (Below.refl _ V0).alloc lr9 _
   have hbx:Blk X V0.heap.size 170 (encE x).toArray:=by rw [hX];exact Blk.new _ _ _
   have hzX:X.heap.size=V0.heap.size+1:=by rw [hX];simp
   have hc1:=count_any (some ⟨b,o,none⟩) c1 all (vK x) X ((hsa.below (hBX.mono hzr)).more (by omega)) (by rw [←HS.o.2.2.2];omega) ⟨hfx.2,hfx.1⟩ HS.o.2.1
   have hc2:=fun W (hW:Below X.heap.size X W)=>count_any A2 c2 out x W (((hI.sl.below hBX).below (hW.mono (by omega))).more (by have:=hW.size;omega)) (by rw [←hI.len];omega) hfx hI.fit
   rw [←HS.o.2.2.2] at hc1
   rw [←hI.len] at hc2
   obtain ⟨m1,hm1⟩:=ex9 (cntE all (vK x))
   obtain ⟨m2,hm2⟩:=ex9 (cntE out x)
   rw [←hm1] at hc1
   rw [←hm2] at hc2
   have hbs:fP all out x=if 0 < m1∨0 < m2 then out else insE out x:=by unfold fP;rw [←hm1,←hm2]
   have HK:=hide (ai9 hI (ai9 hc1 (ai9 hc2 (ai9 (hsn.trans hbs) (ai9 hBX (ai9 hbx (ai9 hX hfx)))))))
   clear hI hc1 hc2 hsn hsa hbs hBX hbx hfx hx hm1 hm2 hX
   go_wp2_with fail
   rw [←HK.o.2.2.2.2.2.2.1]
   obtain ⟨y0,y1,y2,y3,y4,y5⟩:=HK.o.2.2.2.2.2.1.six
   refine HK.o.2.1.mono ?_
   rintro e w2 ⟨rfl,hB2⟩
   have hz2:=hB2.size
   obtain ⟨u0,u1,u2,u3,u4,u5⟩:=(HK.o.2.2.2.2.2.1.below hB2 (by omega)).six
   have HB2:=hide hB2
   clear hB2 y0 y1 y2 y3 y4 y5 g0 g1 g2 g3 g4 g5
   by_cases h1:0 < m1
   ·have j1:(0:Int) < (m1:Int):=by omega
    go_wp2
    go_roundw
    case rel=>
     refine ⟨k+1,A2,lo,c2,by omega,by go_num,rfl,by omega,?_⟩
     have he:=HK.o.2.2.2.1
     rw [if_pos (.inl h1)] at he
     rw [he]
     exact HK.o.1.step (HK.o.2.2.2.2.1.trans (HB2.o.mono (by omega)))
    case measure=>simp [intOf];omega
   ·have h10:m1=0:=by omega
    subst h10
    go_wp2_with fail
    refine (HK.o.2.2.1 _ HB2.o).mono ?_
    rintro e w3 ⟨rfl,hB3⟩
    have hz3:=hB3.size
    have hB23:Below V0.heap.size V0 w3:=HK.o.2.2.2.2.1.trans ((HB2.o.mono (by omega)).trans (hB3.mono (by omega)))
    have hb3:=(HK.o.2.2.2.2.2.1.below HB2.o (by omega)).below hB3 (by omega)
    obtain ⟨x0,x1,x2,x3,x4,x5⟩:=hb3.six
    have HB3:=hide (ai9 hB23 hb3)
    clear hB3 hB23 hb3 u0 u1 u2 u3 u4 u5
    by_cases h2:0 < m2
    ·have j2:(0:Int) < (m2:Int):=by omega
     go_wp2
     go_roundw
     case rel=>
      refine ⟨k+1,A2,lo,c2,by omega,by go_num,rfl,by omega,?_⟩
      have he:=HK.o.2.2.2.1
      rw [if_pos (.inr h2)] at he
      rw [he]
      exact HK.o.1.step HB3.o.1
     case measure=>simp [intOf];omega
    ·have h20:m2=0:=by omega
     subst h20
     have hI3:=HK.o.1.step HB3.o.1
     have he:=HK.o.2.2.2.1
     rw [if_neg (by omega)] at he
     have H3:=hide (ai9 hI3 he)
     clear hI3 he h1 h2
     go_upto_block 2 with fail
     go_cut [7] (fun a wx=>∃a':Nat,a= .int .i64 a'∧a'≤lo∧(∀j q,j < a'→out[j]? =some q→ltE q x=true)∧(∀q,out[a']? =some q→ltE q x=false)∧RB w3 wx)
     case first=>
      go_wp2_with fail
      go_loopw [7] (fun a wx=>∃a':Nat,a= .int .i64 a'∧a'≤lo∧(∀j q,j < a'→out[j]? =some q→ltE q x=true)∧RB w3 wx) (fun a _=>lo - (intOf a).toNat)
      case atStart=>exact ⟨0,rfl,Nat.zero_le _,fun j q h=>absurd h (by omega),RB.refl _⟩
      case round=>
       obtain ⟨a,rfl,ha,hlt3,hR⟩:=hrel
       have hszR:=hR.size
       have hbx:=HB3.o.2.below hR HB3.o.2.lt
       by_cases hla:a < lo
       ·obtain ⟨q,hq⟩:∃q,out[a]? =some q:=⟨_,List.getElem?_eq_getElem (by rw [←H3.o.1.len];exact hla)⟩
        have hfq:=H3.o.1.fit q (List.mem_of_getElem? hq)
        obtain ⟨bp,op,hAp,hbp,_⟩:=(H3.o.1.sl.below hR).at hq
        subst hAp
        obtain ⟨k0,k1,k2,k3,k4,k5⟩:=(H3.o.1.sl.below hR).ed hq
        obtain ⟨x0,x1,x2,x3,x4,x5⟩:=hbx.six
        have hbpR:bp < wr.heap.size:=by omega
        have hbxR:=hbx.lt
        have i2:(a:Int) < (lo:Int):=by omega
        have HL:=hide (ai9 hlt3 (ai9 hR hq))
        clear hlt3 hR hq hbx
        cases hless:ltE q x
        ·have HLS:=hide hless
         go_wp2_with fail
         go_region_held3 (fun w'=>w'.cell? ⟨bp,op+a*6,none⟩=some (.int .i64 q.1.1)∧w'.cell? ⟨bp,op+a*6+1,none⟩=some (.int .i64 q.1.2.1)∧w'.cell? ⟨bp,op+a*6+2,none⟩=some (.int .i64 q.1.2.2)∧w'.cell? ⟨bp,op+a*6+3,none⟩=some (.int .i64 q.2.1)∧w'.cell? ⟨bp,op+a*6+4,none⟩=some (.int .i64 q.2.2.1)∧w'.cell? ⟨bp,op+a*6+5,none⟩=some (.int .i64 q.2.2.2)∧w'.cell? ⟨V0.heap.size,0,none⟩=some (.int .i64 x.1.1)∧w'.cell? ⟨V0.heap.size,1,none⟩=some (.int .i64 x.1.2.1)∧w'.cell? ⟨V0.heap.size,2,none⟩=some (.int .i64 x.1.2.2)∧w'.cell? ⟨V0.heap.size,3,none⟩=some (.int .i64 x.2.1)∧w'.cell? ⟨V0.heap.size,4,none⟩=some (.int .i64 x.2.2.1)∧w'.cell? ⟨V0.heap.size,5,none⟩=some (.int .i64 x.2.2.2)) (first | go_keep | exact ⟨zM hL k0,zM hL k1,zM hL k2,zM hL k3,zM hL k4,zM hL k5,zM hL x0,zM hL x1,zM hL x2,zM hL x3,zM hL x4,zM hL x5⟩) ((go_at_call 149;refine (bY q x _ hfq HK.o.2.2.2.2.2.2.2).mono ?_;rintro e w3 ⟨rfl,hL⟩;rw [hless]))
         go_wp2_with fail
         go_meet
         case rel=>
          refine ⟨a,rfl,ha,HL.o.1,fun q' hq'=> ?_,HL.o.2.1.trans _ _ _ ((qE wr).trans hL.below)⟩
          rw [HL.o.2.2] at hq'
          cases hq'
          exact HLS.o
        ·have HLS:=hide hless
         go_wp2_with fail
         go_region_held3 (fun w'=>w'.cell? ⟨bp,op+a*6,none⟩=some (.int .i64 q.1.1)∧w'.cell? ⟨bp,op+a*6+1,none⟩=some (.int .i64 q.1.2.1)∧w'.cell? ⟨bp,op+a*6+2,none⟩=some (.int .i64 q.1.2.2)∧w'.cell? ⟨bp,op+a*6+3,none⟩=some (.int .i64 q.2.1)∧w'.cell? ⟨bp,op+a*6+4,none⟩=some (.int .i64 q.2.2.1)∧w'.cell? ⟨bp,op+a*6+5,none⟩=some (.int .i64 q.2.2.2)∧w'.cell? ⟨V0.heap.size,0,none⟩=some (.int .i64 x.1.1)∧w'.cell? ⟨V0.heap.size,1,none⟩=some (.int .i64 x.1.2.1)∧w'.cell? ⟨V0.heap.size,2,none⟩=some (.int .i64 x.1.2.2)∧w'.cell? ⟨V0.heap.size,3,none⟩=some (.int .i64 x.2.1)∧w'.cell? ⟨V0.heap.size,4,none⟩=some (.int .i64 x.2.2.1)∧w'.cell? ⟨V0.heap.size,5,none⟩=some (.int .i64 x.2.2.2)) (first | go_keep | exact ⟨zM hL k0,zM hL k1,zM hL k2,zM hL k3,zM hL k4,zM hL k5,zM hL x0,zM hL x1,zM hL x2,zM hL x3,zM hL x4,zM hL x5⟩) ((go_at_call 149;refine (bY q x _ hfq HK.o.2.2.2.2.2.2.2).mono ?_;rintro e w3 ⟨rfl,hL⟩;rw [hless]))
         go_wp2_with fail
         go_roundw
         case rel=>
          refine ⟨a+1,by go_num,by omega,fun j q' hj hq'=> ?_,HL.o.2.1.trans _ _ _ ((qE wr).trans hL.below)⟩
          rcases Nat.lt_or_ge j a with h | h
          ·exact HL.o.1 j q' h hq'
          ·have hja:j=a:=by omega
           subst hja
           rw [HL.o.2.2] at hq'
           cases hq'
           exact HLS.o
         case measure=>simp [intOf];omega
       ·have hae:a=lo:=by omega
        have HL:=hide (ai9 hlt3 (ai9 hR hae))
        clear hlt3 hR hbx hae
        go_wp2_with fail
        go_meet
        case rel=>exact ⟨a,rfl,ha,HL.o.1,(fun q' hq'=>by rw [HL.o.2.2,H3.o.1.len,List.getElem?_eq_none lr9] at hq';cases hq'),HL.o.2.1⟩
     case rest=>
      obtain ⟨a,rfl,ha,hlo',hhi,hR⟩:=hcut
      have hat:a=atE out x:=zOR (by rw [←H3.o.1.len];exact ha) hlo' hhi
      have hI4:=H3.o.1.step hR
      have hb4:=HB3.o.2.below hR HB3.o.2.lt
      have hzc:=hR.size
      obtain ⟨x0',x1',x2',x3',x4',x5'⟩:=hb4.six
      obtain ⟨W,hW⟩:=ex9 (wc)
      rw [←hW] at hI4 hb4 hzc hR x0' x1' x2' x3' x4' x5'⊢
      have hzW1:=hb4.lt
      have hzW2:=hI4.big
      have hc2:=hI4.cap
      have hln:=hI4.len
      have hta:(out.take a).length=a:=by rw [List.length_take];omega
      have htd:(out.drop a).length=lo - a:=by rw [List.length_drop,←hln]
      have hrunH:∀V:World,(Instr.slice 167 (.slice A2 lo c2) none (some (.int .i64 a)) none).run Tryz.prog V= .ok (.slice A2 a c2) V:=fun V=>wE Tryz.underlying167 Tryz.sizeOf170 ha hc2 V
      have hrunL:∀V:World,(Instr.slice 167 (.slice A2 lo c2) (some (.int .i64 a)) none none).run Tryz.prog V= .ok (.slice (cutA A2 c2 a 6) (lo - a) (c2 - a)) V:=fun V=>kN Tryz.underlying167 Tryz.sizeOf170 ha V
      have hslT:Sl encE 6 W W.heap.size A2 (out.take a):=hI4.sl.take8 a
      have hslD:Sl encE 6 W W.heap.size (cutA A2 c2 a 6) (out.drop a):=hI4.sl.cut (by rw [←hln];exact ha) (by rw [←hln];exact hc2)
      have HT:=hide (ai9 hslT (ai9 hslD (ai9 hta (ai9 htd (ai9 hI4 (ai9 hb4 (ai9 hat hln)))))))
      clear hI4 hb4 hslT hslD hta htd hR hlo' hhi hat hW hln
      go_upto_region 15 with (at_builtin;refine zI rfl _ _ _ rfl Tryz.underlying167 zKG rfl (by omega) jJ dF rfl (Own.nil (base:=W.heap.size)) A2 c2 W.heap.size (out.take a) (by rw [HT.o.2.2.1];rfl) HT.o.1 (by rw [HT.o.2.2.1];unfold maxLen;omega) (by rw [HT.o.2.2.1];omega) lr9 ?_;intro v1 w4 hown4 hg1 hB4 hat1;rw [HT.o.2.2.1,Nat.zero_add,List.nil_append] at hown4;obtain ⟨A4,c4,rfl⟩:=hown4.form)
      have y0:=(hB4.cell (p:=⟨V0.heap.size,0,none⟩) hzW1).trans x0'
      have y1:=(hB4.cell (p:=⟨V0.heap.size,1,none⟩) hzW1).trans x1'
      have y2:=(hB4.cell (p:=⟨V0.heap.size,2,none⟩) hzW1).trans x2'
      have y3:=(hB4.cell (p:=⟨V0.heap.size,3,none⟩) hzW1).trans x3'
      have y4:=(hB4.cell (p:=⟨V0.heap.size,4,none⟩) hzW1).trans x4'
      have y5:=(hB4.cell (p:=⟨V0.heap.size,5,none⟩) hzW1).trans x5'
      have HO1:=hide (ai9 hown4 hB4)
      have hz4:=hB4.size
      have hown4':=hown4.alloc (.cells #[.int .i64 x.1.1, .int .i64 x.1.2.1, .int .i64 x.1.2.2, .int .i64 x.2.1, .int .i64 x.2.2.1, .int .i64 x.2.2.2] 170)
      clear hown4 hg1 hB4 hat1 x0' x1' x2' x3' x4' x5'
      go_upto_region 16 with (at_builtin;refine zC rfl _ _ _ rfl Tryz.underlying167 zKG rfl (by omega) jJ dF rfl hown4' w4.heap.size 1 x rfl (Blk.new _ _ _) (by unfold maxLen;omega) (by omega) (by simp;omega) ?_;intro g2' cap2 w5 hown5 hg2' hB5 hat2 hgb2 hlt2)
      have hB15:Below W.heap.size W w5:=HO1.o.2.trans (((Below.refl _ w4).alloc (by omega) _).trans hB5)
      have hz5:=hB15.size
      have HO2:=hide (ai9 hown5 (ai9 hB15 ((HT.o.2.1.below hB15))))
      clear hown5 hg2' hB5 hat2 hown4' hB15 y0 y1 y2 y3 y4 y5
      go_wp2_with (at_builtin;refine zI rfl _ _ _ rfl Tryz.underlying167 zKG rfl (by omega) jJ dF rfl HO2.o.1 (cutA A2 c2 a 6) (c2 - a) W.heap.size (out.drop a) (by rw [HT.o.2.2.2.1];rfl) HO2.o.2.2 (by rw [HT.o.2.2.2.1];unfold maxLen;omega) (by rw [HT.o.2.2.2.1];omega) hz5 ?_;intro v6 w6 hown6 hg6 hB6 hat6;obtain ⟨A6,c6,rfl⟩:=hown6.form)
      go_roundw
      case rel=>
       have hln:=HT.o.2.2.2.2.2.2.2
       rw [List.append_assoc,List.singleton_append,HT.o.2.2.2.1] at hown6
       have hins:out.take a++(x::out.drop a)=insE out x:=by unfold insE;rw [←HT.o.2.2.2.2.2.2.1]
       rw [hins] at hown6
       refine ⟨k+1,A6,_,c6,by omega,by go_num,rfl,?_,?_⟩
       ·rw [←hout,←hln];omega
       ·rw [←hout,←hln,H3.o.2]
        have hB6':Below w1.heap.size w1 w6:=HT.o.2.2.2.2.1.bel.trans ((HO2.o.2.1.mono (by omega)).trans (hB6.mono (by omega)))
        refine ⟨hown6.1,hown6.sl jJ lr9,hown6.place.1,fun y hy=> ?_,hB6',hB6'.size⟩
        rcases zK5 hy with h | h
        ·exact HT.o.2.2.2.2.1.fit y h
        ·rw [h];exact HK.o.2.2.2.2.2.2.2
      case measure=>simp [intOf];omega
  ·have hke:k=all.length:=by rw [←HS.o.2.2.2];omega
   rw [hke,List.take_length,←HS.o.2.2.1] at hout
   have hkn:n=k:=by omega
   rw [hout] at hI
   have HE:=hide hI
   clear hI hout hke
   subst hkn
   go_wp2
   go_ret
   exact ⟨A2,c2,by rw [←HE.o.len];rfl,HE.o.sl,by rw [←HE.o.len];exact HE.o.cap,H1.o.2.trans (HE.o.bel.mono hz1)⟩
end Go.Proofs.YtmemofonebphfaaGreat
namespace Go.Proofs.YtmemofonebphfaaGreat
open Go.RowKit Go.Sort
def behK (t:Tri) (p q:Pt):Option Pt:=if t.1=p∧t.2.1=q then some t.2.2 else if t.2.1=p∧t.2.2=q then some t.1 else if t.2.2=p∧t.1=q then some t.2.1 else none
def behP (l:List Tri) (p q:Pt):Option Pt:=l.findSome? fun t=>behK t p q
theorem zEP {t:Tri} {p q:Pt} (j:Nat) (hj:j < 3) (h1:zT t j=p) (h2:zT t ((j+1) % 3)=q) (hn:∀i,i < j→¬(zT t i=p∧zT t ((i+1) % 3)=q)):behK t p q=some (zT t ((j+2) % 3)):=by
 unfold behK
 have hc:j=0∨j=1∨j=2:=by omega
 rcases hc with rfl | rfl | rfl
 ·exact if_pos ⟨h1,h2⟩
 ·exact (if_neg (hn 0 (by omega))).trans (if_pos ⟨h1,h2⟩)
 ·exact (if_neg (hn 0 (by omega))).trans ((if_neg (hn 1 (by omega))).trans (if_pos ⟨h1,h2⟩))
theorem zI2 {t:Tri} {p q:Pt} (hn:∀i,i < 3→¬(zT t i=p∧zT t ((i+1) % 3)=q)):behK t p q=none:=by
 unfold behK
 exact (if_neg (hn 0 (by omega))).trans ((if_neg (hn 1 (by omega))).trans (if_neg (hn 2 (by omega))))
theorem uS {t:Tri} {p q:Pt} {j:Nat} (hn:∀i,i < j→¬(zT t i=p∧zT t ((i+1) % 3)=q)) (h:¬(zT t j=p∧zT t ((j+1) % 3)=q)):∀i,i < j+1→¬(zT t i=p∧zT t ((i+1) % 3)=q):=fun i hi=>by
 rcases Nat.lt_or_ge i j with h1 | h1
 ·exact hn i h1
 ·have e:i=j:=by omega
  rw [e];exact h
theorem gQ {α β:Type} (f:α→Option β) (l:List α) (k:Nat) (x:α) (h:l[k]? =some x):(l.take (k+1)).findSome? f=((l.take k).findSome? f).or (f x):=by
 rw [List.take_add_one,h,Option.toList_some,List.findSome?_append]
 simp [List.findSome?_cons]
 cases f x <;>rfl
theorem zE0 {l:List Tri} {p q r:Pt} {k:Nat} {t:Tri} (h:l[k]? =some t) (hn:behP (l.take k) p q=none) (hb:behK t p q=some r):behP l p q=some r:=by
 have h1:behP (l.take (k+1)) p q=some r:=by
  unfold behP at hn⊢
  rw [gQ _ _ _ _ h,hn,hb];rfl
 unfold behP at h1⊢
 rw [←List.take_append_drop (k+1) l,List.findSome?_append,h1]
 rfl
structure BhX (w X:World) (p q:Pt):Prop where
 bel:Below w.heap.size w X
 bp:Blk X w.heap.size 43 #[.int .i64 p.1, .int .i64 p.2.1, .int .i64 p.2.2]
 bq:Blk X (w.heap.size+1) 43 #[.int .i64 q.1, .int .i64 q.2.1, .int .i64 q.2.2]
 br:Blk X (w.heap.size+1+1) 43 #[.int .i64 0, .int .i64 0, .int .i64 0]
theorem zB9 {w X:World} {p q r:Pt} {b:Bool} {fn:Func} {R:Ending→World→Prop} {a:Act} {w':World} (hd:a.defers= []) (h:BhX w X p q) (m:Nat)
  (hr:∀Z:World,Z.cell? ⟨w.heap.size+1+1,0,none⟩=some (.int .i64 r.1)→Z.cell? ⟨w.heap.size+1+1,1,none⟩=some (.int .i64 r.2.1)→Z.cell? ⟨w.heap.size+1+1,2,none⟩=some (.int .i64 r.2.2)→(results fn a.tmps).run Tryz.prog Z= .ok (.tuple #[vP r, .bool b]) Z)
  (hw:w'=((((X.drewN m).setCell ⟨w.heap.size+1+1,0,none⟩ (.int .i64 r.1)).setCell ⟨w.heap.size+1+1,1,none⟩ (.int .i64 r.2.1)).setCell ⟨w.heap.size+1+1,2,none⟩ (.int .i64 r.2.2)))
  (hR:∀W,Below w.heap.size w W→R (.returned (.tuple #[vP r, .bool b])) W):bodyPost Tryz.prog fn R .ret a w':=by
 subst hw
 obtain ⟨z0,z1,z2⟩:=((h.br.drewN m).set3 (.int .i64 r.1) (.int .i64 r.2.1) (.int .i64 r.2.2)).three8
 exact bodyPost_ret (hr _ z0 z1 z2) hd (hR _ ((((below_drewN h.bel m).setCell (by dsimp only;omega) _).setCell (by dsimp only;omega) _).setCell (by dsimp only;omega) _))
set_option maxRecDepth 100000 in
set_option maxHeartbeats 16000000 in
theorem zHE (A:Option Addr) (c:Nat) (l:List Tri) (p q:Pt) (w:World) (hs:Sl encT 9 w w.heap.size A l) (hl:l.length≤4294967296) (hp:yJ p) (hq:yJ q) (hf:∀t∈l,fitsT t):
  Calls Tryz.prog 150 #[.slice A l.length c,vP p,vP q] w fun e w'=>e= .returned (.tuple #[vP ((behP l p q).getD p), .bool (behP l p q).isSome])∧Below w.heap.size w w':=by
 obtain ⟨n,hn⟩:=ex9 (l.length)
 rw [←hn] at hl⊢
 have HS:=hide (ai9 hs (ai9 hn (ai9 hf trivial)))
 have HP:=hide (ai9 hp (ai9 hq trivial))
 clear hs hn hf hp hq
 go_enter Tryz.func150,Tryz.ntmps150
 go_wp2_with fail
 obtain ⟨X,hX⟩:=ex9 (((w.alloc (.cells #[.int .i64 p.1, .int .i64 p.2.1, .int .i64 p.2.2] 43)).alloc (.cells #[.int .i64 q.1, .int .i64 q.2.1, .int .i64 q.2.2] 43)).alloc (.cells #[.int .i64 0, .int .i64 0, .int .i64 0] 43))
 rw [←hX]
 have hBX:BhX w X p q:=by
  rw [hX]
  refine ⟨(((Below.refl _ w).alloc lr9 _).alloc (by simp) _).alloc (by simp;omega) _,((Blk.new _ _ _).alloc _).alloc _,(Blk.new' _ _ _ _ (by simp)).alloc _,Blk.new' _ _ _ _ (by simp)⟩
 have hslX:Sl encT 9 X w.heap.size A l:=HS.o.1.below hBX.bel
 have hzX:X.heap.size=w.heap.size+3:=by rw [hX];simp
 have HX:=hide (ai9 hBX (ai9 hslX trivial))
 clear hX hBX hslX
 go_loopw [8] (fun iv wr=>∃k m:Nat,k≤n∧iv= .int .i64 k∧behP (l.take k) p q=none∧wr=X.drewN m) (fun iv _=>n - (intOf iv).toNat)
 case atStart=>exact ⟨0,0,by omega,rfl,rfl,rfl⟩
 case round=>
  obtain ⟨k,m0,hk,rfl,hno,rfl⟩:=hrel
  by_cases hlt:k < n
  ·obtain ⟨t,ht⟩:∃t,l[k]? =some t:=⟨_,List.getElem?_eq_getElem (by rw [←HS.o.2.1];exact hlt)⟩
   have i1:(k:Int) < (n:Int):=by omega
   obtain ⟨b,o,hA,hb,hct⟩:=HX.o.2.1.tri ht
   subst hA
   have HK:=hide (ai9 ht hno)
   have HC:=hide hct
   clear ht hno hct
   go_wp2
   go_loopw [9] (fun iv wr=>∃j m:Nat,j≤3∧iv= .int .i64 j∧(∀i,i < j→¬(zT t i=p∧zT t ((i+1) % 3)=q))∧wr=X.drewN m) (fun iv _=>3 - (intOf iv).toNat)
   case atStart=>exact ⟨0,m0,by omega,rfl,fun i hi=>absurd hi (by omega),rfl⟩
   case round=>
    obtain ⟨j,m,hj,rfl,hnj,rfl⟩:=hrel
    have HJ:=hide hnj
    clear hnj
    have hc:j=0∨j=1∨j=2∨j=3:=by omega
    obtain ⟨g0,g1,g2,g3,g4,g5,g6,g7,g8⟩:=HC.o
    obtain ⟨x0,x1,x2⟩:=HX.o.1.bp.three8
    obtain ⟨y0,y1,y2⟩:=HX.o.1.bq.three8
    rcases hc with rfl | rfl | rfl | rfl
    ·have e1:=eqP t.1 p (HS.o.2.2.1 t (List.mem_of_getElem? HK.o.1)).1 HP.o.1
     have e2:=eqP t.2.1 q (HS.o.2.2.1 t (List.mem_of_getElem? HK.o.1)).2.1 HP.o.2.1
     by_cases h1:t.1=p
     ·have d1:decide (t.1=p)=true:=decide_eq_true h1
      rw [d1] at e1
      by_cases h2:t.2.1=q
      ·have d2:decide (t.2.1=q)=true:=decide_eq_true h2
       rw [d2] at e2
       have hb:behK t p q=some t.2.2:=zEP 0 (by omega) h1 h2 HJ.o
       have HB:=hide (zE0 HK.o.1 HK.o.2 hb)
       clear h1 h2 d1 d2 hb
       go_wp2_with fail
       go_quiet (fail)
       have hr:=HX.o.1.br.drewN (m+nq)
       obtain ⟨r0,r1,r2⟩:=hr.three8
       have f0:=hr.frozen 0
       have f1:=hr.frozen 1
       have f2:=hr.frozen 2
       go_wp2
       refine zB9 (r:=t.2.2) (b:=true) rfl HX.o.1 (m+nq) ?_ rfl ?_
       ·intro Z z0 z1 z2;simp [results,Tryz.results150,go_sem,z0,z1,z2]
       ·intro W hW;exact ⟨by rw [HB.o];rfl,hW⟩
      ·have d2:decide (t.2.1=q)=false:=decide_eq_false h2
       rw [d2] at e2
       have HN:=hide (show∀i,i < 0+1→¬(zT t i=p∧zT t ((i+1) % 3)=q) from uS HJ.o (fun h=>h2 h.2))
       clear h1 h2 d1 d2
       go_wp2_with fail
       go_quiet (fail)
       go_wp2
       go_roundw
       case rel=>exact ⟨0+1,m+nq,by omega,by go_num,HN.o,rfl⟩
       case measure=>(simp [intOf] <;>omega)
     ·have d1:decide (t.1=p)=false:=decide_eq_false h1
      rw [d1] at e1
      have HN:=hide (show∀i,i < 0+1→¬(zT t i=p∧zT t ((i+1) % 3)=q) from uS HJ.o (fun h=>h1 h.1))
      clear h1 d1
      go_wp2_with fail
      go_quiet (fail)
      go_wp2
      go_roundw
      case rel=>exact ⟨0+1,m+nq,by omega,by go_num,HN.o,rfl⟩
      case measure=>(simp [intOf] <;>omega)
    ·have e1:=eqP t.2.1 p (HS.o.2.2.1 t (List.mem_of_getElem? HK.o.1)).2.1 HP.o.1
     have e2:=eqP t.2.2 q (HS.o.2.2.1 t (List.mem_of_getElem? HK.o.1)).2.2 HP.o.2.1
     by_cases h1:t.2.1=p
     ·have d1:decide (t.2.1=p)=true:=decide_eq_true h1
      rw [d1] at e1
      by_cases h2:t.2.2=q
      ·have d2:decide (t.2.2=q)=true:=decide_eq_true h2
       rw [d2] at e2
       have hb:behK t p q=some t.1:=zEP 1 (by omega) h1 h2 HJ.o
       have HB:=hide (zE0 HK.o.1 HK.o.2 hb)
       clear h1 h2 d1 d2 hb
       go_wp2_with fail
       go_quiet (fail)
       have hr:=HX.o.1.br.drewN (m+nq)
       obtain ⟨r0,r1,r2⟩:=hr.three8
       have f0:=hr.frozen 0
       have f1:=hr.frozen 1
       have f2:=hr.frozen 2
       go_wp2
       refine zB9 (r:=t.1) (b:=true) rfl HX.o.1 (m+nq) ?_ rfl ?_
       ·intro Z z0 z1 z2;simp [results,Tryz.results150,go_sem,z0,z1,z2]
       ·intro W hW;exact ⟨by rw [HB.o];rfl,hW⟩
      ·have d2:decide (t.2.2=q)=false:=decide_eq_false h2
       rw [d2] at e2
       have HN:=hide (show∀i,i < 1+1→¬(zT t i=p∧zT t ((i+1) % 3)=q) from uS HJ.o (fun h=>h2 h.2))
       clear h1 h2 d1 d2
       go_wp2_with fail
       go_quiet (fail)
       go_wp2
       go_roundw
       case rel=>exact ⟨1+1,m+nq,by omega,by go_num,HN.o,rfl⟩
       case measure=>(simp [intOf] <;>omega)
     ·have d1:decide (t.2.1=p)=false:=decide_eq_false h1
      rw [d1] at e1
      have HN:=hide (show∀i,i < 1+1→¬(zT t i=p∧zT t ((i+1) % 3)=q) from uS HJ.o (fun h=>h1 h.1))
      clear h1 d1
      go_wp2_with fail
      go_quiet (fail)
      go_wp2
      go_roundw
      case rel=>exact ⟨1+1,m+nq,by omega,by go_num,HN.o,rfl⟩
      case measure=>(simp [intOf] <;>omega)
    ·have e1:=eqP t.2.2 p (HS.o.2.2.1 t (List.mem_of_getElem? HK.o.1)).2.2 HP.o.1
     have e2:=eqP t.1 q (HS.o.2.2.1 t (List.mem_of_getElem? HK.o.1)).1 HP.o.2.1
     by_cases h1:t.2.2=p
     ·have d1:decide (t.2.2=p)=true:=decide_eq_true h1
      rw [d1] at e1
      by_cases h2:t.1=q
      ·have d2:decide (t.1=q)=true:=decide_eq_true h2
       rw [d2] at e2
       have hb:behK t p q=some t.2.1:=zEP 2 (by omega) h1 h2 HJ.o
       have HB:=hide (zE0 HK.o.1 HK.o.2 hb)
       clear h1 h2 d1 d2 hb
       go_wp2_with fail
       go_quiet (fail)
       have hr:=HX.o.1.br.drewN (m+nq)
       obtain ⟨r0,r1,r2⟩:=hr.three8
       have f0:=hr.frozen 0
       have f1:=hr.frozen 1
       have f2:=hr.frozen 2
       go_wp2
       refine zB9 (r:=t.2.1) (b:=true) rfl HX.o.1 (m+nq) ?_ rfl ?_
       ·intro Z z0 z1 z2;simp [results,Tryz.results150,go_sem,z0,z1,z2]
       ·intro W hW;exact ⟨by rw [HB.o];rfl,hW⟩
      ·have d2:decide (t.1=q)=false:=decide_eq_false h2
       rw [d2] at e2
       have HN:=hide (show∀i,i < 2+1→¬(zT t i=p∧zT t ((i+1) % 3)=q) from uS HJ.o (fun h=>h2 h.2))
       clear h1 h2 d1 d2
       go_wp2_with fail
       go_quiet (fail)
       go_wp2
       go_roundw
       case rel=>exact ⟨2+1,m+nq,by omega,by go_num,HN.o,rfl⟩
       case measure=>(simp [intOf] <;>omega)
     ·have d1:decide (t.2.2=p)=false:=decide_eq_false h1
      rw [d1] at e1
      have HN:=hide (show∀i,i < 2+1→¬(zT t i=p∧zT t ((i+1) % 3)=q) from uS HJ.o (fun h=>h1 h.1))
      clear h1 d1
      go_wp2_with fail
      go_quiet (fail)
      go_wp2
      go_roundw
      case rel=>exact ⟨2+1,m+nq,by omega,by go_num,HN.o,rfl⟩
      case measure=>(simp [intOf] <;>omega)
    ·have hb:=zI2 HJ.o
     have hn1:behP (l.take (k+1)) p q=none:=by
      have h1:=HK.o.2
      unfold behP at h1⊢
      rw [gQ _ _ _ _ HK.o.1,h1,hb];rfl
     have HN:=hide hn1
     clear hb hn1 g0 g1 g2 g3 g4 g5 g6 g7 g8
     go_wp2
     go_roundw
     case rel=>exact ⟨k+1,m,by omega,by go_num,HN.o,rfl⟩
     case measure=>simp [intOf];omega
  ·have hke:k=l.length:=by rw [←HS.o.2.1];omega
   rw [hke,List.take_length] at hno
   have hkn:n=k:=by omega
   have HE:=hide hno
   clear hno hke
   subst hkn
   obtain ⟨x0,x1,x2⟩:=HX.o.1.bp.three8
   obtain ⟨r0,r1,r2⟩:=HX.o.1.br.three8
   have f0:=HX.o.1.br.frozen 0
   have f1:=HX.o.1.br.frozen 1
   have f2:=HX.o.1.br.frozen 2
   go_wp2
   refine zB9 (r:=p) (b:=false) rfl HX.o.1 m0 ?_ rfl ?_
   ·intro Z z0 z1 z2
    simp [results,Tryz.results150,go_sem,z0,z1,z2]
   ·intro W hW
    exact ⟨by rw [HE.o];rfl,hW⟩
end Go.Proofs.YtmemofonebphfaaGreat
namespace Go.Proofs.YtmemofonebphfaaGreat
open Go.RowKit Go.Sort
theorem wH {β:Type} {encb:β→List Value} {kb:Nat} {eb:TypeId} {n base:Nat} {w:World} {v:Value} {xs:List β} {t:TypeId} (h:Own encb kb eb w base v n xs) (hte:eb≠t):∀r,v.ownBlock=some r→r < base∨∀cs,w.heap[r]? ≠some (.cells cs t (0,0)):=fun r hr=>by
 obtain ⟨cs,hc⟩:=h.cells r hr
 refine .inr fun cs' hc'=> ?_
 rw [hc] at hc'
 cases hc'
 exact hte rfl
def pinN (t:Tri) (p:Pt) (j:Nat):List (Tri × Pt):=(List.range j).flatMap fun i=>if zT t i=p then [(t,zT t ((i+1) % 3))] else []
def pinL (l:List Tri) (p:Pt):List (Tri × Pt):=l.flatMap fun t=>pinN t p 3
theorem dD (j:Nat) {t:Tri} {p:Pt} (h:zT t j=p):pinN t p (j+1)=pinN t p j++ [(t,zT t ((j+1) % 3))]:=by
 unfold pinN
 rw [List.range_succ,List.flatMap_append,List.flatMap_singleton,if_pos h]
theorem zCE (j:Nat) {t:Tri} {p:Pt} (h:zT t j≠p):pinN t p (j+1)=pinN t p j:=by
 unfold pinN
 rw [List.range_succ,List.flatMap_append,List.flatMap_singleton,if_neg h,List.append_nil]
theorem zC5 (l:List Tri) (p:Pt) (k:Nat) (t:Tri) (h:l[k]? =some t):pinL (l.take (k+1)) p=pinL (l.take k) p++pinN t p 3:=by
 unfold pinL
 rw [List.take_add_one,h,Option.toList_some,List.flatMap_append,List.flatMap_singleton]
theorem zJM {l:List Tri} {p:Pt} (h:∀t∈l,fitsT t):∀x∈pinL l p,fitsT x.1∧yJ x.2:=by
 intro x hx
 obtain ⟨t,ht,hx⟩:=List.mem_flatMap.1 hx
 obtain ⟨i,_,hx⟩:=List.mem_flatMap.1 hx
 split at hx
 ·rw [List.mem_singleton.1 hx]
  exact ⟨h t ht,qZ (h t ht) _⟩
 ·cases hx
def runP (mine:List Tri) (p s:Pt):Nat→Pt→Bool
 | 0,_=>false
 | f+1,x=>match behP mine p x with
  | none=>false
  | some y=>if y=s then true else runP mine p s f y
def xJ (l:List Tri) (p:Pt):Bool:=((pinL l p).map (·.2)).any fun s=>runP ((pinL l p).map (·.1)) p s ((pinL l p).length - 1) s
theorem gJ.below8 {w w':World} {b o n:Nat} {t:Tri} (h:gJ w b o t) (hB:Below n w w') (hb:b < n):gJ w' b o t:=by
 obtain ⟨h0,h1,h2,h3,h4,h5,h6,h7,h8⟩:=h
 exact ⟨(hB.cell (p:=⟨b,_,none⟩) hb).trans h0,(hB.cell (p:=⟨b,_,none⟩) hb).trans h1,(hB.cell (p:=⟨b,_,none⟩) hb).trans h2,(hB.cell (p:=⟨b,_,none⟩) hb).trans h3,(hB.cell (p:=⟨b,_,none⟩) hb).trans h4,(hB.cell (p:=⟨b,_,none⟩) hb).trans h5,(hB.cell (p:=⟨b,_,none⟩) hb).trans h6,(hB.cell (p:=⟨b,_,none⟩) hb).trans h7,(hB.cell (p:=⟨b,_,none⟩) hb).trans h8⟩
theorem zDM {l:List Tri} (h:∀t∈l,fitsT t) {p q r:Pt} (hb:behP l p q=some r):yJ r:=by
 unfold behP at hb
 obtain ⟨t,ht,hr⟩:=List.exists_of_findSome?_eq_some hb
 have hf:=h t ht
 unfold behK at hr
 split at hr
 ·cases hr;exact hf.2.2
 ·split at hr
  ·cases hr;exact hf.1
  ·split at hr
   ·cases hr;exact hf.2.1
   ·cases hr
set_option maxRecDepth 100000 in
set_option maxHeartbeats 16000000 in
theorem zEL (A:Option Addr) (c:Nat) (l:List Tri) (p:Pt) (w:World) (hs:Sl encT 9 w w.heap.size A l) (hl:l.length≤1073741824) (hp:yJ p) (hf:∀t∈l,fitsT t):
  Calls Tryz.prog 125 #[.slice A l.length c,vP p] w fun e w'=>e= .returned (.bool (xJ l p))∧Below w.heap.size w w':=by
 obtain ⟨n,hn⟩:=ex9 (l.length)
 rw [←hn] at hl⊢
 have HS:=hide (ai9 hs (ai9 hn (ai9 hf trivial)))
 have HP:=hide (ai9 hp trivial)
 clear hs hn hf hp
 go_enter Tryz.func125,Tryz.ntmps125
 go_wp2_with fail
 obtain ⟨X,hX⟩:=ex9 (w.alloc (.cells #[.int .i64 p.1, .int .i64 p.2.1, .int .i64 p.2.2] 43))
 rw [←hX]
 have hBX:Below w.heap.size w X:=by rw [hX];exact (Below.refl _ w).alloc lr9 _
 have hbX:Blk X w.heap.size 43 #[.int .i64 p.1, .int .i64 p.2.1, .int .i64 p.2.2]:=by rw [hX];exact Blk.new _ _ _
 have hzX:X.heap.size=w.heap.size+1:=by rw [hX];simp
 have hzX0:w.heap.size≤X.heap.size:=by omega
 have HX:=hide (ai9 hBX (ai9 hbX (HS.o.1.below hBX)))
 clear hX hBX hbX
 go_loopw [5,6,7] (fun v1 v2 iv wr=>∃(k m:Nat) (L:List (Tri × Pt)),k≤n∧iv= .int .i64 k∧m≤3*k∧L=pinL (l.take k) p∧Own encT 9 46 wr X.heap.size v1 m (L.map (·.1))∧Own encP 3 43 wr X.heap.size v2 m (L.map (·.2))∧Below X.heap.size X wr) (fun _ _ iv _=>n - (intOf iv).toNat)
 case atStart=>exact ⟨0,0, [],by omega,rfl,by omega,rfl,Own.nil,Own.nil,Below.refl _ X⟩
 case round=>
  obtain ⟨k,m0,L0,hk,rfl,hm0,hL0,hown1,hown2,hB⟩:=hrel
  obtain ⟨A10,c10,rfl⟩:=hown1.form
  obtain ⟨A20,c20,rfl⟩:=hown2.form
  by_cases hlt:k < n
  ·obtain ⟨t,ht⟩:∃t,l[k]? =some t:=⟨_,List.getElem?_eq_getElem (by rw [←HS.o.2.1];exact hlt)⟩
   have i1:(k:Int) < (n:Int):=by omega
   obtain ⟨b,o,hA,hbb,hct⟩:=HX.o.2.2.tri ht
   subst hA
   have HK:=hide (ai9 ht (HS.o.2.2.1 t (List.mem_of_getElem? ht)))
   have HL:=hide (ai9 hL0 (ai9 hown1 (ai9 hown2 hB)))
   have HC:=hide hct
   clear ht hct hL0 hown1 hown2 hB
   go_wp2
   go_loopw [5,6,8] (fun v1 v2 iv wr=>∃(j m:Nat) (L:List (Tri × Pt)),j≤3∧iv= .int .i64 j∧m≤3*k+j∧L=L0++pinN t p j∧Own encT 9 46 wr X.heap.size v1 m (L.map (·.1))∧Own encP 3 43 wr X.heap.size v2 m (L.map (·.2))∧Below X.heap.size X wr) (fun _ _ iv _=>3 - (intOf iv).toNat)
   case atStart=>exact ⟨0,m0,L0,by omega,rfl,by omega,by simp [pinN],HL.o.2.1,HL.o.2.2.1,HL.o.2.2.2⟩
   case round=>
    obtain ⟨j,m,L,hj,rfl,hm,hL,ho1,ho2,hB⟩:=hrel
    obtain ⟨A1,c1,rfl⟩:=ho1.form
    obtain ⟨A2,c2,rfl⟩:=ho2.form
    have hBC:=HC.o.below8 (hB.mono hzX0) hbb
    obtain ⟨x0,x1,x2⟩:=(HX.o.2.1.below hB (by omega)).three8
    have HJ:=hide (ai9 ho1 (ai9 ho2 (ai9 hL hB)))
    obtain ⟨g0,g1,g2,g3,g4,g5,g6,g7,g8⟩:=hBC
    clear hL ho1 ho2 hB
    have hc:j=0∨j=1∨j=2∨j=3:=by omega
    rcases hc with rfl | rfl | rfl | rfl
    ·have e1:=eqP t.1 p HK.o.2.1 HP.o.1
     by_cases h1:t.1=p
     ·have d1:decide (t.1=p)=true:=decide_eq_true h1
      rw [d1] at e1
      have hsn:=dD 0 (t:=t) (p:=p) h1
      have HN:=hide hsn
      clear h1 d1 hsn
      go_upto_region 9 with fail
      go_quiet (fail)
      obtain ⟨W,hW⟩:=ex9 (wr.drewN nq)
      have hBW:Below X.heap.size X W:=by rw [hW];exact below_drewN HJ.o.2.2.2 nq
      have ho1:Own encT 9 46 W X.heap.size (.slice A1 m c1) m (L.map (·.1)):=by rw [hW];exact HJ.o.1
      have ho2:Own encP 3 43 W X.heap.size (.slice A2 m c2) m (L.map (·.2)):=by rw [hW];exact HJ.o.2.1
      have hcW:=HC.o.below8 (hBW.mono hzX0)
      obtain ⟨q0,q1,q2,q3,q4,q5,q6,q7,q8⟩:=hcW hbb
      have hzW:=hBW.size
      have HW:=hide (ai9 hBW (ai9 ho1 ho2))
      rw [←hW]
      clear hBW hcW hW g0 g1 g2 g3 g4 g5 g6 g7 g8 x0 x1 x2 e1
      have ho1':=ho1.alloc (.cells (encT t).toArray 46)
      go_upto_region 11 with (at_builtin;refine zC rfl _ _ _ rfl Tryz.underlying44 kF rfl (by omega) zW yU rfl ho1' W.heap.size 1 t rfl (Blk.new _ _ _) (by unfold maxLen;omega) (by omega) (by simp;omega) ?_;intro g4' cap4 w4 hown4 hg4 hB4 hat4 hgb4 hlt4)
      have ho2':=((HW.o.2.2.alloc (.cells (encT t).toArray 46)).step hg4 (wH ho1' (by decide)))
      have hBw4:Below X.heap.size X w4:=(HW.o.1.alloc hzW _).trans hB4
      have hcw4:=HC.o.below8 (hBw4.mono hzX0)
      obtain ⟨g0,g1,g2,g3,g4,g5,g6,g7,g8⟩:=hcw4 hbb
      have hz4:=hBw4.size
      have H4:=hide (ai9 hown4 (ai9 ho2' hBw4))
      clear hown4 hg4 hB4 hat4 ho2' ho1' ho1 ho2 hcw4 hBw4 q0 q1 q2 q3 q4 q5 q6 q7 q8
      have ho2':=H4.o.2.1.alloc (.cells (encP t.2.1).toArray 43)
      go_wp2_with (at_builtin;refine zC rfl _ _ _ rfl Tryz.underlying28 fH rfl (by omega) zO yQ rfl ho2' w4.heap.size 1 t.2.1 rfl (Blk.new _ _ _) (by unfold maxLen;omega) (by omega) (by simp;omega) ?_;intro g5' cap5 w5 hown5 hg5 hB5 hat5 hgb5 hlt5)
      go_roundw
      case rel=>
       have ho1'':=(H4.o.1.alloc (.cells (encP t.2.1).toArray 43)).step hg5 (wH ho2' (by decide))
       refine ⟨0+1,m+1,L++ [(t,t.2.1)],by omega,by go_num,by omega,by rw [HN.o,←List.append_assoc,←HJ.o.2.2.1];rfl,?_,?_,(H4.o.2.2.alloc hz4 _).trans hB5⟩
       ·rw [List.map_append];exact ho1''
       ·rw [List.map_append];exact hown5
      case measure=>(simp [intOf] <;>omega)
     ·have d1:decide (t.1=p)=false:=decide_eq_false h1
      rw [d1] at e1
      have hsn:=zCE 0 (t:=t) (p:=p) h1
      have HN:=hide hsn
      clear h1 d1 hsn
      go_upto_region 9 with fail
      go_quiet (fail)
      clear g0 g1 g2 g3 g4 g5 g6 g7 g8 e1
      go_wp2
      go_roundw
      case rel=>exact ⟨0+1,m,L,by omega,by go_num,by omega,by rw [HN.o];exact HJ.o.2.2.1,HJ.o.1,HJ.o.2.1,below_drewN HJ.o.2.2.2 nq⟩
      case measure=>(simp [intOf] <;>omega)
    ·have e1:=eqP t.2.1 p HK.o.2.2.1 HP.o.1
     by_cases h1:t.2.1=p
     ·have d1:decide (t.2.1=p)=true:=decide_eq_true h1
      rw [d1] at e1
      have hsn:=dD 1 (t:=t) (p:=p) h1
      have HN:=hide hsn
      clear h1 d1 hsn
      go_upto_region 9 with fail
      go_quiet (fail)
      obtain ⟨W,hW⟩:=ex9 (wr.drewN nq)
      have hBW:Below X.heap.size X W:=by rw [hW];exact below_drewN HJ.o.2.2.2 nq
      have ho1:Own encT 9 46 W X.heap.size (.slice A1 m c1) m (L.map (·.1)):=by rw [hW];exact HJ.o.1
      have ho2:Own encP 3 43 W X.heap.size (.slice A2 m c2) m (L.map (·.2)):=by rw [hW];exact HJ.o.2.1
      have hcW:=HC.o.below8 (hBW.mono hzX0)
      obtain ⟨q0,q1,q2,q3,q4,q5,q6,q7,q8⟩:=hcW hbb
      have hzW:=hBW.size
      have HW:=hide (ai9 hBW (ai9 ho1 ho2))
      rw [←hW]
      clear hBW hcW hW g0 g1 g2 g3 g4 g5 g6 g7 g8 x0 x1 x2 e1
      have ho1':=ho1.alloc (.cells (encT t).toArray 46)
      go_upto_region 11 with (at_builtin;refine zC rfl _ _ _ rfl Tryz.underlying44 kF rfl (by omega) zW yU rfl ho1' W.heap.size 1 t rfl (Blk.new _ _ _) (by unfold maxLen;omega) (by omega) (by simp;omega) ?_;intro g4' cap4 w4 hown4 hg4 hB4 hat4 hgb4 hlt4)
      have ho2':=((HW.o.2.2.alloc (.cells (encT t).toArray 46)).step hg4 (wH ho1' (by decide)))
      have hBw4:Below X.heap.size X w4:=(HW.o.1.alloc hzW _).trans hB4
      have hcw4:=HC.o.below8 (hBw4.mono hzX0)
      obtain ⟨g0,g1,g2,g3,g4,g5,g6,g7,g8⟩:=hcw4 hbb
      have hz4:=hBw4.size
      have H4:=hide (ai9 hown4 (ai9 ho2' hBw4))
      clear hown4 hg4 hB4 hat4 ho2' ho1' ho1 ho2 hcw4 hBw4 q0 q1 q2 q3 q4 q5 q6 q7 q8
      have ho2':=H4.o.2.1.alloc (.cells (encP t.2.2).toArray 43)
      go_wp2_with (at_builtin;refine zC rfl _ _ _ rfl Tryz.underlying28 fH rfl (by omega) zO yQ rfl ho2' w4.heap.size 1 t.2.2 rfl (Blk.new _ _ _) (by unfold maxLen;omega) (by omega) (by simp;omega) ?_;intro g5' cap5 w5 hown5 hg5 hB5 hat5 hgb5 hlt5)
      go_roundw
      case rel=>
       have ho1'':=(H4.o.1.alloc (.cells (encP t.2.2).toArray 43)).step hg5 (wH ho2' (by decide))
       refine ⟨1+1,m+1,L++ [(t,t.2.2)],by omega,by go_num,by omega,by rw [HN.o,←List.append_assoc,←HJ.o.2.2.1];rfl,?_,?_,(H4.o.2.2.alloc hz4 _).trans hB5⟩
       ·rw [List.map_append];exact ho1''
       ·rw [List.map_append];exact hown5
      case measure=>(simp [intOf] <;>omega)
     ·have d1:decide (t.2.1=p)=false:=decide_eq_false h1
      rw [d1] at e1
      have hsn:=zCE 1 (t:=t) (p:=p) h1
      have HN:=hide hsn
      clear h1 d1 hsn
      go_upto_region 9 with fail
      go_quiet (fail)
      clear g0 g1 g2 g3 g4 g5 g6 g7 g8 e1
      go_wp2
      go_roundw
      case rel=>exact ⟨1+1,m,L,by omega,by go_num,by omega,by rw [HN.o];exact HJ.o.2.2.1,HJ.o.1,HJ.o.2.1,below_drewN HJ.o.2.2.2 nq⟩
      case measure=>(simp [intOf] <;>omega)
    ·have e1:=eqP t.2.2 p HK.o.2.2.2 HP.o.1
     by_cases h1:t.2.2=p
     ·have d1:decide (t.2.2=p)=true:=decide_eq_true h1
      rw [d1] at e1
      have hsn:=dD 2 (t:=t) (p:=p) h1
      have HN:=hide hsn
      clear h1 d1 hsn
      go_upto_region 9 with fail
      go_quiet (fail)
      obtain ⟨W,hW⟩:=ex9 (wr.drewN nq)
      have hBW:Below X.heap.size X W:=by rw [hW];exact below_drewN HJ.o.2.2.2 nq
      have ho1:Own encT 9 46 W X.heap.size (.slice A1 m c1) m (L.map (·.1)):=by rw [hW];exact HJ.o.1
      have ho2:Own encP 3 43 W X.heap.size (.slice A2 m c2) m (L.map (·.2)):=by rw [hW];exact HJ.o.2.1
      have hcW:=HC.o.below8 (hBW.mono hzX0)
      obtain ⟨q0,q1,q2,q3,q4,q5,q6,q7,q8⟩:=hcW hbb
      have hzW:=hBW.size
      have HW:=hide (ai9 hBW (ai9 ho1 ho2))
      rw [←hW]
      clear hBW hcW hW g0 g1 g2 g3 g4 g5 g6 g7 g8 x0 x1 x2 e1
      have ho1':=ho1.alloc (.cells (encT t).toArray 46)
      go_upto_region 11 with (at_builtin;refine zC rfl _ _ _ rfl Tryz.underlying44 kF rfl (by omega) zW yU rfl ho1' W.heap.size 1 t rfl (Blk.new _ _ _) (by unfold maxLen;omega) (by omega) (by simp;omega) ?_;intro g4' cap4 w4 hown4 hg4 hB4 hat4 hgb4 hlt4)
      have ho2':=((HW.o.2.2.alloc (.cells (encT t).toArray 46)).step hg4 (wH ho1' (by decide)))
      have hBw4:Below X.heap.size X w4:=(HW.o.1.alloc hzW _).trans hB4
      have hcw4:=HC.o.below8 (hBw4.mono hzX0)
      obtain ⟨g0,g1,g2,g3,g4,g5,g6,g7,g8⟩:=hcw4 hbb
      have hz4:=hBw4.size
      have H4:=hide (ai9 hown4 (ai9 ho2' hBw4))
      clear hown4 hg4 hB4 hat4 ho2' ho1' ho1 ho2 hcw4 hBw4 q0 q1 q2 q3 q4 q5 q6 q7 q8
      have ho2':=H4.o.2.1.alloc (.cells (encP t.1).toArray 43)
      go_wp2_with (at_builtin;refine zC rfl _ _ _ rfl Tryz.underlying28 fH rfl (by omega) zO yQ rfl ho2' w4.heap.size 1 t.1 rfl (Blk.new _ _ _) (by unfold maxLen;omega) (by omega) (by simp;omega) ?_;intro g5' cap5 w5 hown5 hg5 hB5 hat5 hgb5 hlt5)
      go_roundw
      case rel=>
       have ho1'':=(H4.o.1.alloc (.cells (encP t.1).toArray 43)).step hg5 (wH ho2' (by decide))
       refine ⟨2+1,m+1,L++ [(t,t.1)],by omega,by go_num,by omega,by rw [HN.o,←List.append_assoc,←HJ.o.2.2.1];rfl,?_,?_,(H4.o.2.2.alloc hz4 _).trans hB5⟩
       ·rw [List.map_append];exact ho1''
       ·rw [List.map_append];exact hown5
      case measure=>(simp [intOf] <;>omega)
     ·have d1:decide (t.2.2=p)=false:=decide_eq_false h1
      rw [d1] at e1
      have hsn:=zCE 2 (t:=t) (p:=p) h1
      have HN:=hide hsn
      clear h1 d1 hsn
      go_upto_region 9 with fail
      go_quiet (fail)
      clear g0 g1 g2 g3 g4 g5 g6 g7 g8 e1
      go_wp2
      go_roundw
      case rel=>exact ⟨2+1,m,L,by omega,by go_num,by omega,by rw [HN.o];exact HJ.o.2.2.1,HJ.o.1,HJ.o.2.1,below_drewN HJ.o.2.2.2 nq⟩
      case measure=>(simp [intOf] <;>omega)
    ·have hsn:=zC5 l p k t HK.o.1
     rw [←HL.o.1] at hsn
     have HN:=hide hsn
     clear hsn g0 g1 g2 g3 g4 g5 g6 g7 g8
     go_wp2
     go_roundw
     case rel=>exact ⟨k+1,m,L,by omega,by go_num,by omega,by rw [HN.o];exact HJ.o.2.2.1,HJ.o.1,HJ.o.2.1,HJ.o.2.2.2⟩
     case measure=>simp [intOf];omega
  ·have hke:k=l.length:=by rw [←HS.o.2.1];omega
   rw [hke,List.take_length] at hL0
   have hkn:n=k:=by omega
   have hfl:=zJM (p:=p) HS.o.2.2.1
   rw [←hL0] at hfl
   have hpp:xJ l p=(L0.map (·.2)).any fun s=>runP (L0.map (·.1)) p s (m0 - 1) s:=by
    have h1:=hown1.1
    rw [List.length_map] at h1
    unfold xJ
    rw [←hL0,h1]
   have HE:=hide (ai9 hpp (ai9 hown1 (ai9 hown2 (ai9 hB hfl))))
   clear hL0 hke hown1 hown2 hB hfl hpp
   subst hkn
   obtain ⟨V,rfl⟩:=ex9 (wr)
   obtain ⟨M,hM⟩:=ex9 (L0.map (·.1))
   obtain ⟨S,hS⟩:=ex9 (L0.map (·.2))
   rw [←hM,←hS] at HE
   have hMf:∀u∈M,fitsT u:=fun u hu=>by
    rw [hM] at hu
    obtain ⟨y,hy,rfl⟩:=List.mem_map.1 hu
    exact (HE.o.2.2.2.2 y hy).1
   have hSf:∀u∈S,yJ u:=fun u hu=>by
    rw [hS] at hu
    obtain ⟨y,hy,rfl⟩:=List.mem_map.1 hu
    exact (HE.o.2.2.2.2 y hy).2
   have hzV:=HE.o.2.2.2.1.size
   have hSl:=HE.o.2.2.1.1
   have hMl:=HE.o.2.1.1
   have HF:=hide (ai9 hMf (ai9 hSf (ai9 hSl (ai9 hMl trivial))))
   have hslM:Sl encT 9 V V.heap.size A10 M:=HE.o.2.1.sl zW lr9
   have hslS:Sl encP 3 V V.heap.size A20 S:=HE.o.2.2.1.sl zO lr9
   have hbp:Blk V w.heap.size 43 #[.int .i64 p.1, .int .i64 p.2.1, .int .i64 p.2.2]:=HX.o.2.1.below HE.o.2.2.2.1 (by omega)
   have HV:=hide (ai9 hslM (ai9 hslS (ai9 hbp trivial)))
   clear hMf hSf hSl hMl hM hS hslM hslS hbp
   go_wp2
   go_loopw [9] (fun iv wx=>∃k:Nat,k≤m0∧iv= .int .i64 k∧(∀i s,i < k→S[i]? =some s→runP M p s (m0 - 1) s=false)∧Below V.heap.size V wx) (fun iv _=>m0 - (intOf iv).toNat)
   case atStart=>exact ⟨0,by omega,rfl,fun i s hi=>absurd hi (by omega),Below.refl _ V⟩
   case round=>
    obtain ⟨k,hk,rfl,hno,hB⟩:=hrel
    obtain ⟨V1,rfl⟩:=ex9 (wr)
    have hzV1:=hB.size
    by_cases hlt:k < m0
    ·obtain ⟨s,hs⟩:∃s,S[k]? =some s:=⟨_,List.getElem?_eq_getElem (by rw [←HF.o.2.2.1];exact hlt)⟩
     have i1:(k:Int) < (m0:Int):=by omega
     have hfs:=HF.o.2.1 s (List.mem_of_getElem? hs)
     obtain ⟨b2,o2,hA2,hb2,_⟩:=HV.o.2.1.at hs
     subst hA2
     obtain ⟨g0,g1,g2⟩:=(HV.o.2.1.below hB).pt8 hs
     have HK:=hide (ai9 hs (ai9 hno (ai9 hB hfs)))
     clear hs hno hB hfs
     go_wp2
     obtain ⟨Y,hY⟩:=ex9 (V1.alloc (.cells #[.int .i64 s.1, .int .i64 s.2.1, .int .i64 s.2.2] 43))
     rw [←hY]
     have hBY:Below V1.heap.size V1 Y:=by rw [hY];exact (Below.refl _ V1).alloc lr9 _
     have hbY:Blk Y V1.heap.size 43 #[.int .i64 s.1, .int .i64 s.2.1, .int .i64 s.2.2]:=by rw [hY];exact Blk.new _ _ _
     have HY:=hide (ai9 hBY hbY)
     clear hBY hbY hY g0 g1 g2
     go_loopw [11] (fun zv wx=>∃(z:Nat) (x:Pt),1≤z∧z≤m0∧zv= .int .i64 z∧runP M p s (m0 - 1) s=runP M p s (m0 - z) x∧yJ x∧Blk wx V1.heap.size 43 #[.int .i64 x.1, .int .i64 x.2.1, .int .i64 x.2.2]∧Below V1.heap.size V1 wx) (fun zv _=>m0 - (intOf zv).toNat)
     case atStart=>exact ⟨1,s,by omega,by omega,rfl,rfl,HK.o.2.2.2,HY.o.2,HY.o.1⟩
     case round=>
      obtain ⟨z,x,hz1,hz,rfl,hrun,hfx,hbx,hBz⟩:=hrel
      have hzr:=hBz.size
      have hzb:=hbx.lt
      obtain ⟨x0,x1,x2⟩:=hbx.three8
      obtain ⟨y0,y1,y2⟩:=((HV.o.2.2.1.below HK.o.2.2.1 (by omega)).below hBz (by omega)).three8
      by_cases hlz:z < m0
      ·have i2:(z:Int) < (m0:Int):=by omega
       have hcal:=zHE A10 c10 M p x wr (((HV.o.1.below HK.o.2.2.1).below (hBz.mono hzV1)).more (by omega)) (by rw [←HF.o.2.2.2.1];omega) HP.o.1 hfx HF.o.1
       rw [←HF.o.2.2.2.1] at hcal
       have HZ:=hide (ai9 hrun (ai9 hfx (ai9 hbx (ai9 hBz hcal))))
       clear hrun hfx hbx hBz hcal
       have hrs:runP M p s (m0 - z) x=match behP M p x with | none=>false | some y=>if y=s then true else runP M p s (m0 - (z+1)) y:=by
        rw [show m0 - z=(m0 - (z+1))+1 by omega];rfl
       go_wp2_with fail
       refine HZ.o.2.2.2.2.mono ?_
       rintro e w5 ⟨rfl,hB5⟩
       have hz5:=hB5.size
       have hb5:=HZ.o.2.2.1.below hB5 hzb
       cases hbeh:behP M p x with
       | none=>
        rw [hbeh] at hrs
        have HR:=hide (HZ.o.1.trans hrs)
        have HB5:=hide hB5
        clear hrs hbeh hB5 hb5
        go_wp2
        go_roundw
        case rel=>
         refine ⟨k+1,by omega,by go_num,fun i s' hi hs'=> ?_,HK.o.2.2.1.trans ((HZ.o.2.2.2.1.mono hzV1).trans ((HB5.o.mono (by omega)).alloc (by omega) _))⟩
         rcases Nat.lt_or_ge i k with h | h
         ·exact HK.o.2.1 i s' h hs'
         ·have e:i=k:=by omega
          subst e
          rw [HK.o.1] at hs'
          cases hs'
          exact HR.o
        case measure=>simp [intOf];omega
       | some y=>
        rw [hbeh] at hrs
        have hfy:yJ y:=zDM HF.o.1 hbeh
        obtain ⟨u0,u1,u2⟩:=hb5.three8
        have f0:=hb5.frozen 0
        have f1:=hb5.frozen 1
        have f2:=hb5.frozen 2
        have hne:w5.heap.size≠V1.heap.size:=by omega
        have hlt5:V1.heap.size < w5.heap.size:=by omega
        have HR:=hide (ai9 (HZ.o.1.trans hrs) (ai9 hfy (ai9 hb5 hB5)))
        clear hrs hbeh hB5 hb5 hfy x0 x1 x2 y0 y1 y2
        go_upto_region 22 with fail
        obtain ⟨W,hW⟩:=ex9 ((((w5.setCell ⟨V1.heap.size,0,none⟩ (.int .i64 y.1)).setCell ⟨V1.heap.size,1,none⟩ (.int .i64 y.2.1)).setCell ⟨V1.heap.size,2,none⟩ (.int .i64 y.2.2)).alloc (.cells #[.int .i64 y.1, .int .i64 y.2.1, .int .i64 y.2.2] 43))
        rw [←hW]
        have hBW:Below V1.heap.size V1 W:=by
         rw [hW]
         exact ((((HZ.o.2.2.2.1.trans (HR.o.2.2.2.mono hzr)).setCell (by dsimp only;omega) _).setCell (by dsimp only;omega) _).setCell (by dsimp only;omega) _).alloc (by simp [World.setCell];omega) _
        have hbW:Blk W V1.heap.size 43 #[.int .i64 y.1, .int .i64 y.2.1, .int .i64 y.2.2]:=by rw [hW];exact (HR.o.2.2.1.set3 _ _ _).alloc _
        have hsW:Sl encP 3 W V.heap.size (some ⟨b2,o2,none⟩) S:=(HV.o.2.1.below HK.o.2.2.1).below (hBW.mono hzV1)
        obtain ⟨x0,x1,x2⟩:=hbW.three8
        obtain ⟨g0,g1,g2⟩:=hsW.pt8 HK.o.1
        have heq:=eqP y s HR.o.2.1 HK.o.2.2.2
        have HW:=hide (ai9 hBW hbW)
        clear hW hBW hbW hsW u0 u1 u2 f0 f1 f2
        by_cases hys:y=s
        ·have hd:decide (y=s)=true:=decide_eq_true hys
         rw [hd] at heq
         have hres:xJ l p=true:=by
          rw [HE.o.1,List.any_eq_true]
          refine ⟨s,List.mem_of_getElem? HK.o.1,?_⟩
          rw [HR.o.1]
          simp [hys]
         have HG:=hide hres
         clear hys hd hres
         go_quiet (fail)
         go_wp2
         go_ret
         exact ⟨by rw [HG.o];rfl,below_drewN (HX.o.1.trans ((HE.o.2.2.2.1.mono hzX0).trans ((HK.o.2.2.1.mono (by omega)).trans (HW.o.1.mono (by omega))))) _⟩
        ·have hd:decide (y=s)=false:=decide_eq_false hys
         rw [hd] at heq
         have hrn:runP M p s (m0 - 1) s=runP M p s (m0 - (z+1)) y:=by
          rw [HR.o.1]
          simp [hys]
         have HG:=hide hrn
         clear hys hd hrn
         go_quiet (fail)
         go_wp2
         go_roundw
         case rel=>exact ⟨z+1,y,by omega,by omega,by go_num,HG.o,HR.o.2.1,HW.o.2.drewN _,below_drewN HW.o.1 _⟩
         case measure=>simp [intOf];omega
      ·have hze:z=m0:=by omega
       subst hze
       rw [Nat.sub_self] at hrun
       have HR:=hide (ai9 hrun hBz)
       clear hrun hfx hbx hBz
       go_wp2
       go_roundw
       case rel=>
        refine ⟨k+1,by omega,by go_num,fun i s' hi hs'=> ?_,HK.o.2.2.1.trans (HR.o.2.mono hzV1)⟩
        rcases Nat.lt_or_ge i k with h | h
        ·exact HK.o.2.1 i s' h hs'
        ·have e:i=k:=by omega
         subst e
         rw [HK.o.1] at hs'
         cases hs'
         exact HR.o.1
       case measure=>simp [intOf];omega
    ·have hke:k=m0:=by omega
     have hall:xJ l p=false:=by
      rw [HE.o.1,List.any_eq_false]
      intro s hs
      obtain ⟨i,hi⟩:=List.mem_iff_getElem?.1 hs
      have hil:i < S.length:=(List.getElem?_eq_some_iff.1 hi).1
      rw [hno i s (by rw [hke,HF.o.2.2.1];exact hil) hi]
      simp
     have HR:=hide (ai9 hall hB)
     clear hno hall hB
     subst hke
     go_wp2
     go_ret
     exact ⟨by rw [HR.o.1];rfl,HX.o.1.trans ((HE.o.2.2.2.1.mono hzX0).trans (HR.o.2.mono (by omega)))⟩
end Go.Proofs.YtmemofonebphfaaGreat
namespace Go.Proofs.YtmemofonebphfaaGreat
open Go.RowKit Go.Sort
def qJ (t:Tri):Bool:=decide (t.1=t.2.1) || decide (t.2.1=t.2.2) || decide (t.2.2=t.1)
def bP (l:List Ed) (e:Ed):Bool:=decide (1 < cntE l e)
def yN (l:List Tri) (op:Bool):Int:=if l.any qJ=true then 20 else if (zK l).any (bP (zK l))=true then 21 else if (!op && decide (0 < (yV l).length))=true then 22 else if (zN l).any (xJ l)=true then 23 else 0
theorem fO {α:Type} {f:α→Bool} {l:List α} {n k:Nat} (hn:n=l.length) (hk:n≤k) (h:∀i x,i < k→l[i]? =some x→f x=false):l.any f=false:=by
 rw [List.any_eq_false]
 intro x hx
 obtain ⟨i,hi⟩:=List.mem_iff_getElem?.1 hx
 have hil:i < l.length:=(List.getElem?_eq_some_iff.1 hi).1
 rw [h i x (by omega) hi]
 simp
theorem any_some {α:Type} {f:α→Bool} {l:List α} {k:Nat} {x:α} (h:l[k]? =some x) (hf:f x=true):l.any f=true:=List.any_eq_true.2 ⟨x,List.mem_of_getElem? h,hf⟩
theorem gK {α:Type} {f:α→Bool} {l:List α} {k:Nat} {x:α} (hk:l[k]? =some x) (h:∀i x,i < k→l[i]? =some x→f x=false) (hf:f x=false):∀i x,i < k+1→l[i]? =some x→f x=false:=fun i y hi hy=>by
 rcases Nat.lt_or_ge i k with h1 | h1
 ·exact h i y h1 hy
 ·have e:i=k:=by omega
  subst e
  rw [hk] at hy
  cases hy
  exact hf
theorem zNN (l:List Pt) (t:Tri):(corN l t 3).length≤l.length+3:=by
 have h1:=jL l t.1
 have h2:=jL (xO l t.1) t.2.1
 have h3:=jL (xO (xO l t.1) t.2.1) t.2.2
 show (xO (xO (xO l t.1) t.2.1) t.2.2).length≤_
 omega
theorem wW (ts:List Tri):(zN ts).length≤3*ts.length:=by
 have key:∀(us:List Tri) (l:List Pt),(us.foldl (fun l t=>corN l t 3) l).length≤l.length+3*us.length:=by
  intro us
  induction us with
  | nil=>intro l;simp
  | cons t us ih=>
   intro l
   have h1:=ih (corN l t 3)
   have h2:=zNN l t
   rw [List.foldl_cons,List.length_cons]
   omega
 have:=key ts []
 unfold zN
 simpa using this
set_option maxRecDepth 100000 in
set_option maxHeartbeats 16000000 in
theorem check_any (A:Option Addr) (c:Nat) (l:List Tri) (op:Bool) (w:World) (hs:Sl encT 9 w w.heap.size A l) (hl:l.length≤1073741824) (hf:∀t∈l,fitsT t):
  Calls Tryz.prog 98 #[.slice A l.length c, .bool op] w fun e w'=>e= .returned (.int .i64 (yN l op))∧Below w.heap.size w w':=by
 obtain ⟨n,hn⟩:=ex9 (l.length)
 have hed:=fun W (hW:Below w.heap.size w W)=>zDQ A c l W ((hs.below hW).more hW.size) hl
 have hbo:=fun W (hW:Below w.heap.size w W)=>zHI A c l W ((hs.below hW).more hW.size) hl hf
 have hco:=fun W (hW:Below w.heap.size w W)=>dW A c l W ((hs.below hW).more hW.size) hl hf
 have hpi:=fun W (hW:Below w.heap.size w W) (p:Pt) (hp:yJ p)=>zEL A c l p W ((hs.below hW).more hW.size) hl hp hf
 have hqb:=wW l
 have hfe:=kM hf
 have hle:=vM l
 obtain ⟨E,hE⟩:=ex9 (zK l)
 obtain ⟨B,hB⟩:=ex9 (yV l)
 obtain ⟨Q,hQ⟩:=ex9 (zN l)
 obtain ⟨R,hR⟩:=ex9 (yN l op)
 have hRe:R=if l.any qJ=true then 20 else if E.any (bP E)=true then 21 else if (!op && decide (0 < B.length))=true then 22 else if Q.any (xJ l)=true then 23 else 0:=by rw [hR,hE,hB,hQ];rfl
 rw [←hE] at hed hfe hle
 rw [←hB] at hbo
 rw [←hQ] at hco hqb
 rw [←hR]
 rw [←hn] at hl hed hbo hco hpi hle hqb⊢
 obtain ⟨el,hel⟩:=ex9 (E.length)
 rw [←hel] at hed hle
 have HS:=hide (ai9 hs (ai9 hn (ai9 hf (ai9 hfe (ai9 hel hRe)))))
 have HC:=hide (ai9 hed (ai9 hbo (ai9 hco (ai9 hpi (show Q.length≤3221225472 by omega)))))
 have hel3:el≤3221225472:=by omega
 clear hs hn hf hfe hel hRe hed hbo hco hpi hqb hE hB hQ hR hle
 go_enter Tryz.func98,Tryz.ntmps98
 go_wp2
 go_loopw [5] (fun iv wr=>∃k q:Nat,k≤n∧iv= .int .i64 k∧(∀i t,i < k→l[i]? =some t→qJ t=false)∧wr=w.drewN q) (fun iv _=>n - (intOf iv).toNat)
 case atStart=>exact ⟨0,0,by omega,rfl,fun i t hi=>absurd hi (by omega),rfl⟩
 case round=>
  obtain ⟨k,q,hk,rfl,hno,rfl⟩:=hrel
  by_cases hlt:k < n
  ·obtain ⟨t,ht⟩:∃t,l[k]? =some t:=⟨_,List.getElem?_eq_getElem (by rw [←HS.o.2.1];exact hlt)⟩
   have i1:(k:Int) < (n:Int):=by omega
   obtain ⟨b,o,hA,hbb,g0,g1,g2,g3,g4,g5,g6,g7,g8⟩:=HS.o.1.tri ht
   subst hA
   have hft:=HS.o.2.2.1 t (List.mem_of_getElem? ht)
   have e1:=eqP t.1 t.2.1 hft.1 hft.2.1
   have e2:=eqP t.2.1 t.2.2 hft.2.1 hft.2.2
   have e3:=eqP t.2.2 t.1 hft.2.2 hft.1
   have hfl:qJ t=(decide (t.1=t.2.1) || decide (t.2.1=t.2.2) || decide (t.2.2=t.1)):=rfl
   have HK:=hide (ai9 ht hno)
   clear ht hno hft
   by_cases h1:t.1=t.2.1
   ·have d1:decide (t.1=t.2.1)=true:=decide_eq_true h1
    rw [d1] at e1
    have hx:qJ t=true:=by rw [hfl,d1];rfl
    have HX:=hide (any_some HK.o.1 hx)
    clear h1 d1 hfl hx e2 e3
    go_wp2_with fail
    go_quiet (fail)
    go_wp2
    go_ret
    exact ⟨by rw [HS.o.2.2.2.2.2,if_pos HX.o];rfl,below_drewN (below_drewN (Below.refl _ w) q) nq⟩
   ·have d1:decide (t.1=t.2.1)=false:=decide_eq_false h1
    rw [d1] at e1
    by_cases h2:t.2.1=t.2.2
    ·have d2:decide (t.2.1=t.2.2)=true:=decide_eq_true h2
     rw [d2] at e2
     have hx:qJ t=true:=by rw [hfl,d1,d2];rfl
     have HX:=hide (any_some HK.o.1 hx)
     clear h1 d1 h2 d2 hfl hx e3
     go_wp2_with fail
     go_quiet (fail)
     go_wp2
     go_ret
     exact ⟨by rw [HS.o.2.2.2.2.2,if_pos HX.o];rfl,below_drewN (below_drewN (Below.refl _ w) q) nq⟩
    ·have d2:decide (t.2.1=t.2.2)=false:=decide_eq_false h2
     rw [d2] at e2
     by_cases h3:t.2.2=t.1
     ·have d3:decide (t.2.2=t.1)=true:=decide_eq_true h3
      rw [d3] at e3
      have hx:qJ t=true:=by rw [hfl,d1,d2,d3];rfl
      have HX:=hide (any_some HK.o.1 hx)
      clear h1 d1 h2 d2 h3 d3 hfl hx
      go_wp2_with fail
      go_quiet (fail)
      go_wp2
      go_ret
      exact ⟨by rw [HS.o.2.2.2.2.2,if_pos HX.o];rfl,below_drewN (below_drewN (Below.refl _ w) q) nq⟩
     ·have d3:decide (t.2.2=t.1)=false:=decide_eq_false h3
      rw [d3] at e3
      have hx:qJ t=false:=by rw [hfl,d1,d2,d3];rfl
      have HX:=hide (gK HK.o.1 HK.o.2 hx)
      clear h1 d1 h2 d2 h3 d3 hfl hx
      go_wp2_with fail
      go_quiet (fail)
      go_wp2
      go_roundw
      case rel=>exact ⟨k+1,q+nq,by omega,by go_num,HX.o,rfl⟩
      case measure=>simp [intOf];omega
  ·have hnone:=fO HS.o.2.1 (by omega:n≤k) hno
   have hRe:=HS.o.2.2.2.2.2
   rw [if_neg (by rw [hnone];simp)] at hRe
   have HR:=hide hRe
   clear hno hnone hRe
   have hB0:Below w.heap.size w (w.drewN q):=below_drewN (Below.refl _ w) q
   obtain ⟨w0,hw0⟩:=ex9 (w.drewN q)
   rw [←hw0] at hB0⊢
   clear hw0
   have hz0:=hB0.size
   go_wp2_with fail
   refine (HC.o.1 w0 hB0).mono ?_
   rintro e w1 ⟨v1,rfl,hown1,hB1⟩
   obtain ⟨A1,c1,rfl⟩:=hown1.form
   have hB01:Below w.heap.size w w1:=hB0.trans (hB1.mono hz0)
   have hz1:=hB01.size
   have H1:=hide (ai9 (hown1.sl jJ lr9) hB01)
   clear hown1 hB1 hB01 hB0
   go_wp2
   go_loopw [7] (fun iv wr=>∃k:Nat,k≤el∧iv= .int .i64 k∧(∀i x,i < k→E[i]? =some x→bP E x=false)∧Below w1.heap.size w1 wr) (fun iv _=>el - (intOf iv).toNat)
   case atStart=>exact ⟨0,by omega,rfl,fun i t hi=>absurd hi (by omega),Below.refl _ w1⟩
   case round=>
    obtain ⟨k2,hk2,rfl,hno,hB⟩:=hrel
    have hzr:=hB.size
    by_cases hlt2:k2 < el
    ·obtain ⟨x,hx⟩:∃x,E[k2]? =some x:=⟨_,List.getElem?_eq_getElem (by rw [←HS.o.2.2.2.2.1];exact hlt2)⟩
     have i2:(k2:Int) < (el:Int):=by omega
     have hsl:=H1.o.1.below hB
     obtain ⟨b,o,hA,hbb,_⟩:=hsl.at hx
     subst hA
     obtain ⟨g0,g1,g2,g3,g4,g5⟩:=hsl.ed hx
     have hcal:=count_any (some ⟨b,o,none⟩) c1 E x wr (hsl.more hzr) (by rw [←HS.o.2.2.2.2.1];omega) (HS.o.2.2.2.1 x (List.mem_of_getElem? hx)) HS.o.2.2.2.1
     rw [←HS.o.2.2.2.2.1] at hcal
     have htw:bP E x=decide (1 < cntE E x):=rfl
     obtain ⟨m,hm⟩:=ex9 (cntE E x)
     rw [←hm] at hcal htw
     have HK:=hide (ai9 hx (ai9 hno (ai9 hB hcal)))
     clear hsl hx hno hB hcal hm
     go_wp2_with fail
     refine HK.o.2.2.2.mono ?_
     rintro e w2 ⟨rfl,hB2⟩
     have hB12:Below w1.heap.size w1 w2:=HK.o.2.2.1.trans (hB2.mono hzr)
     by_cases h1:1 < m
     ·have j1:(1:Int) < (m:Int):=by omega
      have hx:bP E x=true:=by rw [htw];simp [h1]
      have HX:=hide (ai9 (any_some HK.o.1 hx) hB12)
      clear htw hx hB2 hB12
      go_wp2
      go_ret
      exact ⟨by rw [HR.o,if_pos HX.o.1];rfl,H1.o.2.trans (HX.o.2.mono hz1)⟩
     ·have j1:¬(1:Int) < (m:Int):=by omega
      have hx:bP E x=false:=by rw [htw];simp [h1]
      have HX:=hide (ai9 (gK HK.o.1 HK.o.2.1 hx) hB12)
      clear htw hx hB2 hB12
      go_wp2
      go_roundw
      case rel=>exact ⟨k2+1,by omega,by go_num,HX.o.1,HX.o.2⟩
      case measure=>simp [intOf];omega
    ·have hnone:=fO HS.o.2.2.2.2.1 (by omega:el≤k2) hno
     have hRe:=HR.o
     rw [if_neg (by rw [hnone];simp)] at hRe
     have hBw:Below w.heap.size w wr:=H1.o.2.trans (hB.mono hz1)
     have HR2:=hide (ai9 hRe hBw)
     clear hno hnone hRe hBw hB
     have hzw:w.heap.size≤wr.heap.size:=HR2.o.2.size
     cases op with
     | true=>
      have hRe:=HR2.o.1
      rw [if_neg (by simp)] at hRe
      have HR3:=hide hRe
      clear hRe
      obtain ⟨V,rfl⟩:=ex9 (wr)
      have HV:=hide HR2.o.2
      go_wp2_with fail
      refine (HC.o.2.2.1 V HV.o).mono ?_
      rintro e w5 ⟨A5,c5,rfl,hs5,_,hB5,hf5⟩
      have hB05:Below w.heap.size w w5:=HV.o.trans (hB5.mono HV.o.size)
      have hz5:=hB05.size
      have hqb:=HC.o.2.2.2.2
      obtain ⟨ql,hql⟩:=ex9 (Q.length)
      rw [←hql] at hqb⊢
      have H5:=hide (ai9 hs5 (ai9 hf5 (ai9 hql hB05)))
      clear hs5 hf5 hql hB5 hB05
      go_wp2
      go_loopw [9] (fun iv wr=>∃k:Nat,k≤ql∧iv= .int .i64 k∧(∀i x,i < k→Q[i]? =some x→xJ l x=false)∧Below w5.heap.size w5 wr) (fun iv _=>ql - (intOf iv).toNat)
      case atStart=>exact ⟨0,by omega,rfl,fun i t hi=>absurd hi (by omega),Below.refl _ w5⟩
      case round=>
       obtain ⟨k5,hk5,rfl,hno,hB⟩:=hrel
       have hzr:=hB.size
       by_cases hlt5:k5 < ql
       ·obtain ⟨x,hx⟩:∃x,Q[k5]? =some x:=⟨_,List.getElem?_eq_getElem (by rw [←H5.o.2.2.1];exact hlt5)⟩
        have i5:(k5:Int) < (ql:Int):=by omega
        have hsl:=H5.o.1.below hB
        obtain ⟨b,o,hA,hbb,_⟩:=hsl.at hx
        subst hA
        obtain ⟨g0,g1,g2⟩:=hsl.pt8 hx
        have hcal:=HC.o.2.2.2.1 wr (H5.o.2.2.2.trans (hB.mono hz5)) x (H5.o.2.1 x (List.mem_of_getElem? hx))
        have HK:=hide (ai9 hx (ai9 hno (ai9 hB hcal)))
        clear hsl hx hno hB hcal
        go_wp2_with fail
        refine HK.o.2.2.2.mono ?_
        rintro e w6 ⟨rfl,hB6⟩
        have hB56:Below w5.heap.size w5 w6:=HK.o.2.2.1.trans (hB6.mono (by omega))
        cases hp:xJ l x
        ·have HX:=hide (ai9 (gK HK.o.1 HK.o.2.1 hp) hB56)
         clear hp hB6 hB56
         go_wp2
         go_roundw
         case rel=>exact ⟨k5+1,by omega,by go_num,HX.o.1,HX.o.2⟩
         case measure=>simp [intOf];omega
        ·have HX:=hide (ai9 (any_some HK.o.1 hp) hB56)
         clear hp hB6 hB56
         go_wp2
         go_ret
         exact ⟨by rw [HR3.o,if_pos HX.o.1];rfl,H5.o.2.2.2.trans (HX.o.2.mono hz5)⟩
       ·have hnone:=fO H5.o.2.2.1 (by omega:ql≤k5) hno
        have hRf:=HR3.o
        rw [if_neg (by rw [hnone];simp)] at hRf
        have HX:=hide (ai9 hRf (H5.o.2.2.2.trans (hB.mono hz5)))
        clear hno hnone hRf hB
        go_wp2
        go_ret
        exact ⟨by rw [HX.o.1];rfl,HX.o.2⟩
     | false=>
      have hRe:=HR2.o.1
      simp only [Bool.not_false,Bool.true_and,decide_eq_true_eq] at hRe
      have HRb:=hide hRe
      clear hRe
      go_wp2_with fail
      refine (HC.o.2.1 wr HR2.o.2).mono ?_
      rintro e w4 ⟨A4,c4,rfl,_,_,hB4⟩
      have hB04:Below w.heap.size w w4:=HR2.o.2.trans (hB4.mono hzw)
      obtain ⟨bl,hbl⟩:=ex9 (B.length)
      rw [←hbl] at HRb⊢
      by_cases h0:0 < bl
      ·have j0:(0:Int) < (bl:Int):=by omega
       have hRf:=HRb.o
       rw [if_pos h0] at hRf
       have HX:=hide (ai9 hRf hB04)
       clear hbl hB4 hB04 hRf
       go_wp2
       go_ret
       exact ⟨by rw [HX.o.1];rfl,HX.o.2⟩
      ·have j0:bl=0:=by omega
       have hRf:=HRb.o
       rw [if_neg h0] at hRf
       have HR3:=hide hRf
       clear hbl hRf h0
       subst j0
       have HV:=hide hB04
       clear hB4 hB04
       obtain ⟨V,rfl⟩:=ex9 (w4)
       go_wp2_with fail
       refine (HC.o.2.2.1 V HV.o).mono ?_
       rintro e w5 ⟨A5,c5,rfl,hs5,_,hB5,hf5⟩
       have hB05:Below w.heap.size w w5:=HV.o.trans (hB5.mono HV.o.size)
       have hz5:=hB05.size
       have hqb:=HC.o.2.2.2.2
       obtain ⟨ql,hql⟩:=ex9 (Q.length)
       rw [←hql] at hqb⊢
       have H5:=hide (ai9 hs5 (ai9 hf5 (ai9 hql hB05)))
       clear hs5 hf5 hql hB5 hB05
       go_wp2
       go_loopw [9] (fun iv wr=>∃k:Nat,k≤ql∧iv= .int .i64 k∧(∀i x,i < k→Q[i]? =some x→xJ l x=false)∧Below w5.heap.size w5 wr) (fun iv _=>ql - (intOf iv).toNat)
       case atStart=>exact ⟨0,by omega,rfl,fun i t hi=>absurd hi (by omega),Below.refl _ w5⟩
       case round=>
        obtain ⟨k5,hk5,rfl,hno,hB⟩:=hrel
        have hzr:=hB.size
        by_cases hlt5:k5 < ql
        ·obtain ⟨x,hx⟩:∃x,Q[k5]? =some x:=⟨_,List.getElem?_eq_getElem (by rw [←H5.o.2.2.1];exact hlt5)⟩
         have i5:(k5:Int) < (ql:Int):=by omega
         have hsl:=H5.o.1.below hB
         obtain ⟨b,o,hA,hbb,_⟩:=hsl.at hx
         subst hA
         obtain ⟨g0,g1,g2⟩:=hsl.pt8 hx
         have hcal:=HC.o.2.2.2.1 wr (H5.o.2.2.2.trans (hB.mono hz5)) x (H5.o.2.1 x (List.mem_of_getElem? hx))
         have HK:=hide (ai9 hx (ai9 hno (ai9 hB hcal)))
         clear hsl hx hno hB hcal
         go_wp2_with fail
         refine HK.o.2.2.2.mono ?_
         rintro e w6 ⟨rfl,hB6⟩
         have hB56:Below w5.heap.size w5 w6:=HK.o.2.2.1.trans (hB6.mono (by omega))
         cases hp:xJ l x
         ·have HX:=hide (ai9 (gK HK.o.1 HK.o.2.1 hp) hB56)
          clear hp hB6 hB56
          go_wp2
          go_roundw
          case rel=>exact ⟨k5+1,by omega,by go_num,HX.o.1,HX.o.2⟩
          case measure=>simp [intOf];omega
         ·have HX:=hide (ai9 (any_some HK.o.1 hp) hB56)
          clear hp hB6 hB56
          go_wp2
          go_ret
          exact ⟨by rw [HR3.o,if_pos HX.o.1];rfl,H5.o.2.2.2.trans (HX.o.2.mono hz5)⟩
        ·have hnone:=fO H5.o.2.2.1 (by omega:ql≤k5) hno
         have hRf:=HR3.o
         rw [if_neg (by rw [hnone];simp)] at hRf
         have HX:=hide (ai9 hRf (H5.o.2.2.2.trans (hB.mono hz5)))
         clear hno hnone hRf hB
         go_wp2
         go_ret
         exact ⟨by rw [HX.o.1];rfl,HX.o.2⟩
theorem zDP (A:Option Addr) (c:Nat) (l:List Tri) (w:World) (hs:Sl encT 9 w w.heap.size A l) (hl:l.length≤1073741824) (hf:∀t∈l,fitsT t):
  Calls Tryz.prog 70 #[.slice A l.length c] w fun e w'=>e= .returned (.int .i64 (yN l false))∧Below w.heap.size w w':=by
 have hcal:=check_any A c l false w hs hl hf
 have HC:=hide hcal
 clear hcal hs hl hf
 go_enter Tryz.func70,Tryz.ntmps70
 go_wp2_with fail
 refine HC.o.mono ?_
 rintro e w1 ⟨rfl,hB⟩
 go_wp2
 go_ret
 exact ⟨rfl,hB⟩
end Go.Proofs.YtmemofonebphfaaGreat
namespace Go.Proofs.YtmemofonebphfaaGreat
open Go.RowKit Go.Sort
section
variable {α:Type} {lt:α→α→Bool}
def Srt (lt:α→α→Bool) (l:List α):Prop:=l.Pairwise fun a b=>lt a b=true
theorem Srt.nodup (h:STO lt) {l:List α} (hl:Srt lt l):l.Nodup:=hl.imp fun {f g} h' e=>by subst e;rw [h.irrefl] at h';cases h'
theorem zKS (h:STO lt) {l m:List α} (hl:Srt lt l) (hm:Srt lt m) (hmem:∀x,x∈l ↔ x∈m):l=m:=by
 haveI:DecidableEq α:=fun a b=>Classical.propDecidable (a=b)
 exact ((List.perm_ext_iff_of_nodup (hl.nodup h) (hm.nodup h)).2 hmem).eq_of_pairwise (fun a b _ _ h1 h2=>by have:=h.trans _ _ _ h1 h2;rw [h.irrefl] at this;cases this) hl hm
def wU (lt:α→α→Bool) (l:List α):List α:=l.mergeSort fun x y=> !lt y x
theorem zIB {l:List α} {x:α}:x∈wU lt l ↔ x∈l:=List.mem_mergeSort
theorem zDE (l:List α):(wU lt l).length=l.length:=by simp [wU]
theorem zHX (h:STO lt) {l:List α} (hl:l.Nodup):Srt lt (wU lt l):=by
 have hp:(wU lt l).Perm l:=List.mergeSort_perm l _
 have hs:(wU lt l).Pairwise fun f g=>(!lt g f)=true:=List.pairwise_mergeSort (fun a b c h1 h2=>by
  rw [Bool.not_eq_true'] at*
  exact h.swo.ntrans _ _ _ h2 h1) (fun a b=>by
  rw [Bool.or_eq_true,Bool.not_eq_true',Bool.not_eq_true']
  cases h1:lt b a with
  | false=>exact .inl rfl
  | true=>
   refine .inr ?_
   cases h2:lt a b with
   | false=>rfl
   | true=>have:=h.trans _ _ _ h1 h2;rw [h.irrefl] at this;cases this) l
 have hnd:(wU lt l).Nodup:=hp.nodup_iff.2 hl
 refine (hs.and hnd).imp fun {a b} hab=> ?_
 have h1:lt b a=false:=by have:=hab.1;rwa [Bool.not_eq_true'] at this
 cases h2:lt a b with
 | true=>rfl
 | false=>exact absurd (h.total a b h2 h1) hab.2
def atG (lt:α→α→Bool) (l:List α) (p:α):Nat:=(l.takeWhile fun x=>lt x p).length
def insG (lt:α→α→Bool) (l:List α) (p:α):List α:=l.take (atG lt l p)++(p::l.drop (atG lt l p))
theorem zFC {l:List α} {p q:α}:q∈insG lt l p ↔ q∈l∨q=p:=by
 unfold insG
 rw [List.mem_append,List.mem_cons]
 have:q∈l ↔ q∈l.take (atG lt l p)∨q∈l.drop (atG lt l p):=by rw [←List.mem_append,List.take_append_drop]
 rw [this]
 constructor
 ·rintro (h | h | h)
  ·exact .inl (.inl h)
  ·exact .inr h
  ·exact .inl (.inr h)
 ·rintro ((h | h) | h)
  ·exact .inl h
  ·exact .inr (.inr h)
  ·exact .inr (.inl h)
theorem zLS (a:α) (l:List α) (p:α):atG lt (a::l) p=if lt a p=true then atG lt l p+1 else 0:=by
 unfold atG
 rw [List.takeWhile_cons]
 split <;>rfl
theorem zB3:∀(l:List α) (p:α),(∀x∈l.take (atG lt l p),lt x p=true)∧∀x,l[atG lt l p]? =some x→lt x p=false
 | [],p=>⟨by simp,by simp⟩
 | a::l,p=>by
  have ih:=zB3 l p
  rw [zLS]
  by_cases h:lt a p=true
  ·rw [if_pos h]
   refine ⟨fun x hx=> ?_,fun x hx=> ?_⟩
   ·rw [List.take_succ_cons] at hx
    rcases List.mem_cons.1 hx with rfl | hx
    ·exact h
    ·exact ih.1 x hx
   ·rw [List.getElem?_cons_succ] at hx
    exact ih.2 x hx
  ·rw [if_neg h]
   refine ⟨by simp,fun x hx=> ?_⟩
   simp only [List.getElem?_cons_zero,Option.some.injEq] at hx
   rw [←hx]
   simpa using h
theorem zGA (ho:STO lt) {l:List α} (h:Srt lt l) (p:α) (hne:l[atG lt l p]? ≠some p):Srt lt (insG lt l p):=by
 have hlo:=(zB3 (lt:=lt) l p).1
 have hhi:∀x∈l.drop (atG lt l p),lt p x=true:=fun x hx=>by
  obtain ⟨j,hj⟩:=List.mem_iff_getElem?.1 hx
  rw [List.getElem?_drop] at hj
  obtain ⟨hlt,ej⟩:=List.getElem?_eq_some_iff.1 hj
  have hi:atG lt l p < l.length:=by omega
  have h0:lt l[atG lt l p] p=false:=(zB3 l p).2 _ (List.getElem?_eq_getElem hi)
  have hn:l[atG lt l p]≠p:=fun e=>hne (by rw [List.getElem?_eq_getElem hi,e])
  have h1:lt p l[atG lt l p]=true:=by
   cases hb:lt p l[atG lt l p] with
   | true=>rfl
   | false=>exact absurd (ho.total _ _ h0 hb) hn
  rcases Nat.eq_zero_or_pos j with rfl | hj0
  ·simp only [Nat.add_zero] at ej;rw [←ej];exact h1
  ·have:=List.pairwise_iff_getElem.1 h (atG lt l p) (atG lt l p+j) hi hlt (by omega)
   rw [ej] at this
   exact ho.trans _ _ _ h1 this
 refine List.pairwise_append.2 ⟨h.sublist (List.take_sublist _ _),List.pairwise_cons.2 ⟨hhi,h.sublist (List.drop_sublist _ _)⟩,fun a ha b hb=> ?_⟩
 rcases List.mem_cons.1 hb with rfl | hb
 ·exact hlo a ha
 ·exact ho.trans _ _ _ (hlo a ha) (hhi b hb)
end
section
variable {α:Type} [DecidableEq α]
def addL (L:List α) (x:α):List α:=if x∈L then L else L++ [x]
def x9 (xs:List α):List α:=xs.foldl addL []
theorem dC {L:List α} {x y:α}:y∈addL L x ↔ y∈L∨y=x:=by
 unfold addL
 split
 ·rename_i h
  constructor
  ·exact .inl
  ·rintro (h1 | rfl)
   ·exact h1
   ·exact h
 ·rw [List.mem_append,List.mem_singleton]
theorem zHF {L:List α} (h:L.Nodup) (x:α):(addL L x).Nodup:=by
 unfold addL
 split
 ·exact h
 ·rename_i hx
  rw [List.nodup_append]
  refine ⟨h,by simp,fun a ha b hb=> ?_⟩
  rw [List.mem_singleton] at hb
  subst hb
  intro e
  subst e
  exact hx ha
theorem zEW (L:List α) (x:α):(addL L x).length≤L.length+1:=by
 unfold addL
 split
 ·omega
 ·simp
theorem zBZ {xs L:List α} {y:α}:y∈xs.foldl addL L ↔ y∈L∨y∈xs:=by
 induction xs generalizing L with
 | nil=>simp
 | cons x xs ih=>
  rw [List.foldl_cons,ih,dC,List.mem_cons,or_assoc]
theorem vZ {xs:List α} {y:α}:y∈x9 xs ↔ y∈xs:=by
 unfold x9
 rw [zBZ]
 simp
theorem zAQ {xs L:List α} (h:L.Nodup):(xs.foldl addL L).Nodup:=by
 induction xs generalizing L with
 | nil=>exact h
 | cons x xs ih=>exact ih (zHF h x)
theorem wS (xs:List α):(x9 xs).Nodup:=zAQ List.nodup_nil
theorem bM (xs:List α) (x:α):x9 (xs++ [x])=addL (x9 xs) x:=by
 unfold x9
 rw [List.foldl_append]
 rfl
theorem uO (xs:List α):(x9 xs).length≤xs.length:=by
 have key:∀(xs L:List α),(xs.foldl addL L).length≤L.length+xs.length:=by
  intro xs
  induction xs with
  | nil=>intro L;simp
  | cons x xs ih=>
   intro L
   have h1:=ih (addL L x)
   have h2:=zEW L x
   rw [List.foldl_cons,List.length_cons]
   omega
 have:=key xs []
 unfold x9
 simpa using this
omit [DecidableEq α] in
theorem jU {xs:List α} {x:α}:(xs++ [x]).Nodup ↔ xs.Nodup∧x ∉ xs:=by
 rw [List.nodup_append]
 constructor
 ·rintro ⟨h1,_,h3⟩
  exact ⟨h1,fun hx=>h3 x hx x (by simp) rfl⟩
 ·rintro ⟨h1,h2⟩
  refine ⟨h1,by simp,fun a ha b hb e=> ?_⟩
  rw [List.mem_singleton] at hb
  subst hb
  subst e
  exact h2 ha
end
def zHK (t:Tri):List Pt:= [t.1,t.2.1,t.2.2]
def vN (ts:List Tri):List Pt:=ts.flatMap zHK
theorem gY {l:List Pt} {p q:Pt}:q∈xO l p ↔ q∈l∨q=p:=by
 unfold xO
 split
 ·rename_i h
  constructor
  ·exact .inl
  ·rintro (h1 | rfl)
   ·exact h1
   ·exact List.mem_of_getElem? h
 ·exact zFC (lt:=ltP)
theorem dY {l:List Pt} (h:Srt ltP l) (p:Pt):Srt ltP (xO l p):=by
 unfold xO
 split
 ·exact h
 ·rename_i hne
  exact zGA fJ h p hne
theorem jE (ts:List Tri):Srt ltP (zN ts)∧∀q,q∈zN ts ↔ q∈vN ts:=by
 have key:∀(ts:List Tri) (l:List Pt),Srt ltP l→Srt ltP (ts.foldl (fun l t=>corN l t 3) l)∧∀q,q∈ts.foldl (fun l t=>corN l t 3) l ↔ q∈l∨q∈vN ts:=by
  intro ts
  induction ts with
  | nil=>intro l h;exact ⟨h,fun q=>by simp [vN]⟩
  | cons t ts ih=>
   intro l h
   obtain ⟨h1,h2⟩:=ih (corN l t 3) (dY (dY (dY h _) _) _)
   refine ⟨h1,fun q=> ?_⟩
   rw [List.foldl_cons,h2]
   show q∈xO (xO (xO l t.1) t.2.1) t.2.2∨_ ↔ _
   rw [gY,gY,gY]
   unfold vN
   rw [List.flatMap_cons,List.mem_append]
   unfold zHK
   simp only [List.mem_cons,List.not_mem_nil,or_false]
   constructor
   ·rintro ((((h | h) | h) | h) | h)
    ·exact .inl h
    ·exact .inr (.inl (.inl h))
    ·exact .inr (.inl (.inr (.inl h)))
    ·exact .inr (.inl (.inr (.inr h)))
    ·exact .inr (.inr h)
   ·rintro (h | (h | h | h) | h)
    ·exact .inl (.inl (.inl (.inl h)))
    ·exact .inl (.inl (.inl (.inr h)))
    ·exact .inl (.inl (.inr h))
    ·exact .inl (.inr h)
    ·exact .inr h
 have:=key ts [] List.Pairwise.nil
 refine ⟨this.1,fun q=>(this.2 q).trans (by simp)⟩
theorem zMW:ltE=lexB ltP ltP:=by
 funext a b
 obtain ⟨a1,a2⟩:=a
 obtain ⟨b1,b2⟩:=b
 simp only [ltE,lexB]
 by_cases h1:a1=b1 <;>simp [h1,fJ.irrefl]
theorem zL3:STO ltE:=by rw [zMW];exact fJ.lex fJ
theorem cZ {l:List Ed} {e:Ed}:0 < cntE l e ↔ e∈l:=by
 unfold cntE
 rw [List.countP_pos_iff]
 simp
theorem xM (ts:List Tri):Srt ltE (yV ts)∧∀e,e∈yV ts ↔ e∈zK ts∧vK e ∉ zK ts:=by
 have key:∀(all:List Ed) (xs l:List Ed),Srt ltE l→Srt ltE (xs.foldl (fP all) l)∧∀e,e∈xs.foldl (fP all) l ↔ e∈l∨(e∈xs∧vK e ∉ all):=by
  intro all xs
  induction xs with
  | nil=>intro l h;exact ⟨h,fun e=>by simp⟩
  | cons x xs ih=>
   intro l h
   have hb:Srt ltE (fP all l x)∧∀e,e∈fP all l x ↔ e∈l∨(e=x∧vK e ∉ all):=by
    unfold fP
    split
    ·rename_i hc
     refine ⟨h,fun e=> ?_⟩
     constructor
     ·exact .inl
     ·rintro (h1 | ⟨rfl,h1⟩)
      ·exact h1
      ·rcases hc with hc | hc
       ·exact absurd (cZ.1 hc) h1
       ·exact cZ.1 hc
    ·rename_i hc
     have h1:vK x ∉ all:=fun h1=>hc (.inl (cZ.2 h1))
     have h2:x ∉ l:=fun h1=>hc (.inr (cZ.2 h1))
     refine ⟨zGA zL3 h x (fun hh=>h2 (List.mem_of_getElem? hh)),fun e=> ?_⟩
     show e∈insG ltE l x ↔ _
     rw [zFC]
     constructor
     ·rintro (h3 | rfl)
      ·exact .inl h3
      ·exact .inr ⟨rfl,h1⟩
     ·rintro (h3 | ⟨h3,_⟩)
      ·exact .inl h3
      ·exact .inr h3
   obtain ⟨h1,h2⟩:=ih _ hb.1
   refine ⟨h1,fun e=> ?_⟩
   rw [List.foldl_cons,h2,hb.2,List.mem_cons]
   constructor
   ·rintro ((h | ⟨h,k⟩) | ⟨h,k⟩)
    ·exact .inl h
    ·exact .inr ⟨.inl h,k⟩
    ·exact .inr ⟨.inr h,k⟩
   ·rintro (h | ⟨h | h,k⟩)
    ·exact .inl (.inl h)
    ·exact .inl (.inr ⟨h,k⟩)
    ·exact .inr ⟨h,k⟩
 have:=key (zK ts) (zK ts) [] List.Pairwise.nil
 exact ⟨this.1,fun e=>(this.2 e).trans (by simp)⟩
theorem zEU {L:List Ed} {ts:List Tri} (hn:L.Nodup) (hm:∀e,e∈L ↔ e∈zK ts∧vK e ∉ zK ts):wU ltE L=yV ts:=
 zKS zL3 (zHX zL3 hn) (xM ts).1 fun q=>by rw [zIB,hm,(xM ts).2]
theorem zBG (es:List Ed) (e:Ed):cntE es e=List.count e es:=by
 unfold cntE List.count
 exact List.countP_congr fun x _=>by simp
theorem zD2 (es:List Ed):es.any (bP es)=true ↔¬es.Nodup:=by
 rw [List.any_eq_true]
 constructor
 ·rintro ⟨e,he,h⟩ hn
  have h1:=List.nodup_iff_count.1 hn e
  have h2:1 < cntE es e:=of_decide_eq_true h
  rw [zBG] at h2
  omega
 ·intro hn
  have h1:∃e,1 < List.count e es:=by
   exact Classical.byContradiction fun h=>hn (List.nodup_iff_count.2 fun e=>Nat.le_of_not_lt fun h'=>h ⟨e,h'⟩)
  obtain ⟨e,he⟩:=h1
  refine ⟨e,List.count_pos_iff.1 (by omega),?_⟩
  show decide (1 < cntE es e)=true
  rw [zBG]
  exact decide_eq_true he
end Go.Proofs.YtmemofonebphfaaGreat
namespace Go.Proofs.YtmemofonebphfaaGreat
open Go.RowKit Go.Sort
def edJ (t:Tri) (j:Nat):Ed:=(zT t j,zT t ((j+1) % 3))
def updE (m:Ed→Option Pt) (e:Ed) (v:Pt):Ed→Option Pt:=fun q=>if q=e then some v else m q
def nxtJ (m:Ed→Option Pt) (t:Tri):Nat→Ed→Option Pt
 | 0=>m
 | j+1=>updE (nxtJ m t j) (edJ t j) (zT t ((j+2) % 3))
def nxtN (l:List Tri):Ed→Option Pt:=l.foldl (fun m t=>nxtJ m t 3) fun _=>none
theorem zC3 (l:List Tri) (k:Nat) (t:Tri) (h:l[k]? =some t):nxtN (l.take (k+1))=nxtJ (nxtN (l.take k)) t 3:=by
 unfold nxtN
 rw [List.take_add_one,h,Option.toList_some,List.foldl_append]
 rfl
def cntJ (t:Tri) (p:Pt) (j:Nat):Nat:=(pinN t p j).length
def cntC (l:List Tri) (p:Pt):Nat:=(pinL l p).length
theorem zCY (t:Tri) (p:Pt) (j:Nat):cntJ t p (j+1)=if p=zT t j then cntJ t p j+1 else cntJ t p j:=by
 unfold cntJ
 by_cases h:zT t j=p
 ·rw [dD j h,if_pos h.symm];simp
 ·rw [zCE j h,if_neg (fun e=>h e.symm)]
theorem zIK (l:List Tri) (p:Pt) (k:Nat) (t:Tri) (h:l[k]? =some t):cntC (l.take (k+1)) p=cntC (l.take k) p+cntJ t p 3:=by
 unfold cntC cntJ
 rw [zC5 _ _ _ _ h,List.length_append]
theorem zC6 {t:Tri} (h:(yZ t).Nodup):(t.1,t.2.1)≠(t.2.1,t.2.2)∧(t.1,t.2.1)≠(t.2.2,t.1)∧(t.2.1,t.2.2)≠(t.2.2,t.1):=by
 unfold yZ at h
 simp only [List.nodup_cons,List.mem_cons,List.not_mem_nil,or_false,not_or,not_false_eq_true] at h
 exact ⟨h.1.1,h.1.2,h.2.1⟩
theorem zFY {t:Tri} {e:Ed} (h:e ∉ yZ t):behK t e.1 e.2=none:=by
 unfold yZ at h
 simp only [List.mem_cons,List.not_mem_nil,or_false,not_or] at h
 obtain ⟨h1,h2,h3⟩:=h
 unfold behK
 rw [if_neg (fun c=>h1 (Prod.ext c.1.symm c.2.symm)),if_neg (fun c=>h2 (Prod.ext c.1.symm c.2.symm)),if_neg (fun c=>h3 (Prod.ext c.1.symm c.2.symm))]
theorem zKP {t:Tri} (hn:(yZ t).Nodup) (m:Ed→Option Pt) (e:Ed):nxtJ m t 3 e=(behK t e.1 e.2).or (m e):=by
 obtain ⟨h1,h2,h3⟩:=zC6 hn
 show (if e=(t.2.2,t.1) then some t.2.1 else if e=(t.2.1,t.2.2) then some t.1 else if e=(t.1,t.2.1) then some t.2.2 else m e)=_
 unfold behK
 by_cases c1:e=(t.1,t.2.1)
 ·subst c1
  rw [if_neg h2,if_neg h1,if_pos rfl,if_pos ⟨rfl,rfl⟩];rfl
 ·rw [if_neg (fun c:t.1=e.1∧t.2.1=e.2=>c1 (Prod.ext c.1.symm c.2.symm))]
  by_cases c2:e=(t.2.1,t.2.2)
  ·subst c2
   rw [if_neg h3,if_pos rfl,if_pos ⟨rfl,rfl⟩];rfl
  ·rw [if_neg (fun c:t.2.1=e.1∧t.2.2=e.2=>c2 (Prod.ext c.1.symm c.2.symm))]
   by_cases c3:e=(t.2.2,t.1)
   ·subst c3
    rw [if_pos rfl,if_pos ⟨rfl,rfl⟩];rfl
   ·rw [if_neg c3,if_neg c2,if_neg c1,if_neg (fun c:t.2.2=e.1∧t.1=e.2=>c3 (Prod.ext c.1.symm c.2.symm))];rfl
theorem zJD (l:List Tri) (t:Tri) (p q:Pt):behP (l++ [t]) p q=(behP l p q).or (behK t p q):=by
 unfold behP
 rw [List.findSome?_append]
 simp
theorem zFZ {l:List Tri} {e:Ed} (h:e ∉ zK l):behP l e.1 e.2=none:=by
 unfold behP
 rw [List.findSome?_eq_none_iff]
 intro t ht
 exact zFY fun h'=>h (List.mem_flatMap.2 ⟨t,ht,h'⟩)
theorem zKZ {l:List Tri} (hn:(zK l).Nodup):∀e,nxtN l e=behP l e.1 e.2:=by
 have key:∀(k:Nat),k≤l.length→∀e,nxtN (l.take k) e=behP (l.take k) e.1 e.2:=by
  intro k
  induction k with
  | zero=>intro _ e;rfl
  | succ k ih=>
   intro hk e
   obtain ⟨t,ht⟩:∃t,l[k]? =some t:=⟨_,List.getElem?_eq_getElem hk⟩
   have hsub:(zK (l.take (k+1))).Sublist (zK l):=by
    have h1:=List.take_append_drop (k+1) l
    have h2:zK l=zK (l.take (k+1))++zK (l.drop (k+1)):=by
     unfold zK
     rw [←List.flatMap_append,h1]
    rw [h2]
    exact List.sublist_append_left _ _
   have hd:=hn.sublist hsub
   rw [wQ _ _ _ ht,List.nodup_append] at hd
   rw [zC3 _ _ _ ht,zKP hd.2.1,ih (by omega)]
   have e1:l.take (k+1)=l.take k++ [t]:=by rw [List.take_add_one,ht];rfl
   rw [e1,zJD]
   by_cases hm:e∈yZ t
   ·have:e ∉ zK (l.take k):=fun h'=>hd.2.2 e h' e hm rfl
    rw [zFZ this]
    cases behK t e.1 e.2 <;>rfl
   ·rw [zFY hm]
    cases behP (l.take k) e.1 e.2 <;>rfl
 intro e
 have:=key l.length lr9 e
 rwa [List.take_length] at this
theorem zB8 {l:List Tri} {e:Ed} (h:e∈zK l):∃x,behP l e.1 e.2=some x:=by
 obtain ⟨t,ht,he⟩:=List.mem_flatMap.1 h
 cases hb:behP l e.1 e.2 with
 | some x=>exact ⟨x,rfl⟩
 | none=>
  exfalso
  unfold behP at hb
  rw [List.findSome?_eq_none_iff] at hb
  have h1:=hb t ht
  unfold behK at h1
  simp only [yZ,List.mem_cons,List.not_mem_nil,or_false] at he
  rcases he with rfl | rfl | rfl
  ·rw [if_pos ⟨rfl,rfl⟩] at h1;cases h1
  ·split at h1
   ·cases h1
   ·rw [if_pos ⟨rfl,rfl⟩] at h1;cases h1
  ·split at h1
   ·cases h1
   ·split at h1
    ·cases h1
    ·rw [if_pos ⟨rfl,rfl⟩] at h1;cases h1
theorem zHY {t:Tri} {p q x:Pt} (h:behK t p q=some x):pinN t p 3≠ []:=by
 have hh:t.1=p∨t.2.1=p∨t.2.2=p:=by
  unfold behK at h
  split at h
  ·rename_i c;exact .inl c.1
  ·split at h
   ·rename_i c;exact .inr (.inl c.1)
   ·split at h
    ·rename_i c;exact .inr (.inr c.1)
    ·cases h
 intro hn
 have key:∀j,j < 3→zT t j≠p:=fun j hj hc=>by
  have:(t,zT t ((j+1) % 3))∈pinN t p 3:=List.mem_flatMap.2 ⟨j,List.mem_range.2 hj,by rw [if_pos hc];simp⟩
  rw [hn] at this
  cases this
 rcases hh with h | h | h
 ·exact key 0 (by omega) h
 ·exact key 1 (by omega) h
 ·exact key 2 (by omega) h
theorem zKN {t:Tri} {p:Pt} {j:Nat}:∀x∈(pinN t p j).map (·.1),x=t:=by
 intro x hx
 obtain ⟨y,hy,rfl⟩:=List.mem_map.1 hx
 obtain ⟨i,_,hy⟩:=List.mem_flatMap.1 hy
 split at hy
 ·rw [List.mem_singleton.1 hy]
 ·cases hy
theorem bQ {β:Type} (f:Tri→Option β) (t:Tri):∀l:List Tri,(∀x∈l,x=t)→l≠ []→l.findSome? f=f t
 | [],_,h=>absurd rfl h
 | [x],h,_=>by
  rw [h x (by simp)]
  simp [List.findSome?]
  cases f t <;>rfl
 | x::y::l,h,_=>by
  rw [List.findSome?_cons,h x (by simp)]
  cases hf:f t with
  | some v=>rfl
  | none=>
   have:=bQ f t (y::l) (fun z hz=>h z (by simp [List.mem_cons.1 hz])) (by simp)
   rw [hf] at this
   exact this
theorem zJH (l:List Tri) (p q:Pt):behP ((pinL l p).map (·.1)) p q=behP l p q:=by
 unfold pinL
 induction l with
 | nil=>rfl
 | cons t l ih=>
  rw [List.flatMap_cons,List.map_append]
  unfold behP at*
  rw [List.findSome?_append,ih,List.findSome?_cons]
  by_cases hn:pinN t p 3= []
  ·rw [hn]
   cases hb:behK t p q with
   | none=>rfl
   | some x=>exact absurd hn (zHY hb)
  ·rw [bQ (fun t=>behK t p q) t _ zKN (fun h=>hn (List.map_eq_nil_iff.1 h))]
   cases behK t p q <;>rfl
theorem zMI (l:List Tri) (p s:Pt):∀(n:Nat) (x:Pt),runP ((pinL l p).map (·.1)) p s n x=runO (fun q=>behP l p q) s n x
 | 0,x=>rfl
 | n+1,x=>by
  unfold runP runO
  rw [zJH]
  cases behP l p x with
  | none=>rfl
  | some y=>
   show (if y=s then true else runP ((pinL l p).map (·.1)) p s n y)=(decide (y=s) || runO (fun q=>behP l p q) s n y)
   rw [←zMI l p s n y]
   by_cases h:y=s
   ·simp [h]
   ·simp [h]
theorem zF1 {l:List Tri} {p s:Pt}:s∈(pinL l p).map (·.2) ↔ (p,s)∈zK l:=by
 unfold pinL zK
 rw [List.map_flatMap,List.mem_flatMap,List.mem_flatMap]
 constructor
 ·rintro ⟨t,ht,hs⟩
  refine ⟨t,ht,?_⟩
  obtain ⟨y,hy,rfl⟩:=List.mem_map.1 hs
  obtain ⟨i,hi,hy⟩:=List.mem_flatMap.1 hy
  rw [List.mem_range] at hi
  split at hy
  ·rename_i hc
   rw [List.mem_singleton.1 hy]
   have hc3:i=0∨i=1∨i=2:=by omega
   rcases hc3 with rfl | rfl | rfl <;>(subst hc;simp [yZ,zT])
  ·cases hy
 ·rintro ⟨t,ht,hs⟩
  refine ⟨t,ht,?_⟩
  simp only [yZ,List.mem_cons,List.not_mem_nil,or_false,Prod.mk.injEq] at hs
  rw [List.mem_map]
  rcases hs with ⟨rfl,rfl⟩ | ⟨rfl,rfl⟩ | ⟨rfl,rfl⟩
  ·exact ⟨(t,t.2.1),List.mem_flatMap.2 ⟨0,by simp,by rw [if_pos (show zT t 0=t.1 from rfl)];exact List.mem_singleton.2 rfl⟩,rfl⟩
  ·exact ⟨(t,t.2.2),List.mem_flatMap.2 ⟨1,by simp,by rw [if_pos (show zT t 1=t.2.1 from rfl)];exact List.mem_singleton.2 rfl⟩,rfl⟩
  ·exact ⟨(t,t.1),List.mem_flatMap.2 ⟨2,by simp,by rw [if_pos (show zT t 2=t.2.2 from rfl)];exact List.mem_singleton.2 rfl⟩,rfl⟩
def wK (l:List Tri) (e:Ed):Bool:=match behP l e.1 e.2 with
 | none=>false
 | some x=>prgO (fun q=>behP l e.1 q) e.2 (cntC l e.1) (cntC l e.1) 1 x
theorem zI9 {l:List Tri} {e:Ed} (h:e∈zK l):e.1∈vN l:=by
 obtain ⟨t,ht,he⟩:=List.mem_flatMap.1 h
 refine List.mem_flatMap.2 ⟨t,ht,?_⟩
 simp only [yZ,List.mem_cons,List.not_mem_nil,or_false] at he
 rcases he with rfl | rfl | rfl <;>simp [zHK]
theorem zGK (l:List Tri):(zN l).any (xJ l)=(zK l).any (wK l):=by
 have hr:∀e∈zK l,wK l e=runP ((pinL l e.1).map (·.1)) e.1 e.2 ((pinL l e.1).length - 1) e.2:=fun e he=>by
  obtain ⟨x,hx⟩:=zB8 he
  unfold wK
  rw [hx]
  show prgO _ _ _ _ _ _=_
  rw [zDL (fun q=>behP l e.1 q) e.2 x (cntC l e.1) (cntC l e.1) hx lr9,zMI]
  rfl
 rw [Bool.eq_iff_iff,List.any_eq_true,List.any_eq_true]
 constructor
 ·rintro ⟨p,_,h⟩
  unfold xJ at h
  rw [List.any_eq_true] at h
  obtain ⟨s,hs,h⟩:=h
  have he:(p,s)∈zK l:=zF1.1 hs
  exact ⟨(p,s),he,by rw [hr _ he];exact h⟩
 ·rintro ⟨e,he,h⟩
  refine ⟨e.1,((jE l).2 _).2 (zI9 he),?_⟩
  unfold xJ
  rw [List.any_eq_true]
  exact ⟨e.2,zF1.2 he,by rw [←hr e he];exact h⟩
theorem zFI (l:List Tri) (op:Bool):yN l op=if l.any qJ=true then 20 else if¬(zK l).Nodup then 21 else if (!op && decide (0 < (yV l).length))=true then 22 else if (zK l).any (wK l)=true then 23 else 0:=by
 unfold yN
 rw [zGK]
 by_cases h:(zK l).any (bP (zK l))=true
 ·rw [if_pos h,if_pos ((zD2 _).1 h)]
 ·rw [if_neg h,if_neg (fun h'=>h ((zD2 _).2 h'))]
end Go.Proofs.YtmemofonebphfaaGreat
namespace Go.Proofs.YtmemofonebphfaaGreat
open Go.RowKit Go.Sort
def tri3 (t:Tri):List Tri:= [t,(t.2.1,t.2.2,t.1),(t.2.2,t.1,t.2.1)]
def kT (l:List Tri):List Tri:=l.flatMap tri3
def edOf (t:Tri):Ed:=(t.1,t.2.1)
theorem wF (l:List Tri):zK l=(kT l).map edOf:=by
 unfold zK kT
 induction l with
 | nil=>rfl
 | cons t l ih=>rw [List.flatMap_cons,List.flatMap_cons,List.map_append,←ih];rfl
theorem zIJ (l:List Tri):vN l=(kT l).map (·.1):=by
 unfold vN kT
 induction l with
 | nil=>rfl
 | cons t l ih=>rw [List.flatMap_cons,List.flatMap_cons,List.map_append,←ih];rfl
theorem zCR (l:List Tri):l.any qJ=(kT l).any fun u=>decide (u.1=u.2.1):=by
 unfold kT
 induction l with
 | nil=>rfl
 | cons t l ih=>
  rw [List.any_cons,List.flatMap_cons,List.any_append,←ih]
  congr 1
  simp [tri3,qJ,Bool.or_assoc]
theorem zNP {t:Tri} {p q x:Pt} (h:behK t p q=some x):(p,q,x)∈tri3 t:=by
 unfold behK at h
 unfold tri3
 split at h
 ·rename_i h1
  obtain ⟨rfl,rfl⟩:=h1
  injection h with h;subst h
  simp
 ·split at h
  ·rename_i h1
   obtain ⟨rfl,rfl⟩:=h1
   injection h with h;subst h
   simp
  ·split at h
   ·rename_i h1
    obtain ⟨rfl,rfl⟩:=h1
    injection h with h;subst h
    simp
   ·cases h
theorem wY {l:List Tri} {p q x:Pt} (h:behP l p q=some x):(p,q,x)∈kT l:=by
 unfold behP at h
 obtain ⟨t,ht,hb⟩:=List.exists_of_findSome?_eq_some h
 exact List.mem_flatMap.2 ⟨t,ht,zNP hb⟩
theorem zLE {l:List Tri} (hn:(zK l).Nodup) {p q x y:Pt} (hx:(p,q,x)∈kT l) (hy:(p,q,y)∈kT l):x=y:=by
 rw [wF] at hn
 obtain ⟨i,hi⟩:=List.mem_iff_getElem?.1 hx
 obtain ⟨j,hj⟩:=List.mem_iff_getElem?.1 hy
 obtain ⟨hil,ei⟩:=List.getElem?_eq_some_iff.1 hi
 obtain ⟨hjl,ej⟩:=List.getElem?_eq_some_iff.1 hj
 have nd:=List.pairwise_iff_getElem.1 hn
 rcases Nat.lt_trichotomy i j with h | h | h
 ·exact absurd (by rw [List.getElem_map,List.getElem_map,ei,ej];rfl) (nd i j (by simpa using hil) (by simpa using hjl) h)
 ·subst h;rw [ei] at ej;injection ej with _ ej;injection ej
 ·exact absurd (by rw [List.getElem_map,List.getElem_map,ei,ej];rfl) (nd j i (by simpa using hjl) (by simpa using hil) h)
theorem fA {l:List Tri} (hn:(zK l).Nodup) {p q x:Pt}:behP l p q=some x ↔ (p,q,x)∈kT l:=by
 constructor
 ·exact wY
 ·intro h
  have he:(p,q)∈zK l:=by rw [wF];exact List.mem_map.2 ⟨_,h,rfl⟩
  obtain ⟨y,hy⟩:=zB8 he
  have hy':behP l p q=some y:=hy
  rw [hy',zLE hn (wY hy') h]
theorem zLM (t:Tri) (p:Pt):(pinN t p 3).length=(zHK t).count p:=by
 show ((List.range 3).flatMap fun i=>if zT t i=p then [(t,zT t ((i+1) % 3))] else []).length= [t.1,t.2.1,t.2.2].count p
 rw [show List.range 3= [0,1,2] from rfl]
 simp only [List.flatMap_cons,List.flatMap_nil,List.append_nil,List.length_append,List.count_cons,List.count_nil]
 rw [show zT t 0=t.1 from rfl,show zT t 1=t.2.1 from rfl,show zT t 2=t.2.2 from rfl]
 by_cases h1:t.1=p <;>by_cases h2:t.2.1=p <;>by_cases h3:t.2.2=p <;>simp [h1,h2,h3]
theorem wG (l:List Tri) (p:Pt):cntC l p=(vN l).count p:=by
 unfold cntC pinL vN
 induction l with
 | nil=>rfl
 | cons t l ih=>rw [List.flatMap_cons,List.flatMap_cons,List.length_append,List.count_append,←ih,zLM]
end Go.Proofs.YtmemofonebphfaaGreat
namespace Go.Proofs.YtmemofonebphfaaGreat
open Go.RowKit Go.Sort
def qC (b:Pt→Option Pt):Nat→Pt→Option Pt
 | 0,s=>some s
 | k+1,s=>(b s).bind (qC b k)
theorem zFA (b:Pt→Option Pt) (s:Pt):∀(n:Nat) (a:Pt),runO b s n a=true ↔∃k,1≤k∧k≤n∧qC b k a=some s
 | 0,a=>by
  constructor
  ·intro h;cases h
  ·rintro ⟨k,h1,h2,_⟩;omega
 | n+1,a=>by
  unfold runO
  cases hb:b a with
  | none=>
   constructor
   ·intro h;cases h
   ·rintro ⟨k,h1,h2,h3⟩
    obtain ⟨k,rfl⟩:∃j,k=j+1:=⟨k - 1,by omega⟩
    unfold qC at h3
    rw [hb] at h3;cases h3
  | some x=>
   show (decide (x=s) || runO b s n x)=true ↔ _
   rw [Bool.or_eq_true,decide_eq_true_eq,zFA b s n x]
   constructor
   ·rintro (rfl | ⟨k,h1,h2,h3⟩)
    ·exact ⟨1,by omega,by omega,by unfold qC;rw [hb];rfl⟩
    ·exact ⟨k+1,by omega,by omega,by unfold qC;rw [hb];exact h3⟩
   ·rintro ⟨k,h1,h2,h3⟩
    obtain ⟨k,rfl⟩:∃j,k=j+1:=⟨k - 1,by omega⟩
    unfold qC at h3
    rw [hb] at h3
    change qC b k x=some s at h3
    rcases Nat.eq_zero_or_pos k with rfl | hk
    ·unfold qC at h3
     injection h3 with h3
     exact .inl h3
    ·exact .inr ⟨k,hk,by omega,h3⟩
theorem zC8 {l:List Tri} {e:Ed}:wK l e=true ↔∃k,1≤k∧k < cntC l e.1∧qC (behP l e.1) k e.2=some e.2:=by
 unfold wK
 cases hb:behP l e.1 e.2 with
 | none=>
  constructor
  ·intro h;cases h
  ·rintro ⟨k,h1,_,h3⟩
   obtain ⟨k,rfl⟩:∃j,k=j+1:=⟨k - 1,by omega⟩
   unfold qC at h3
   rw [hb] at h3;cases h3
 | some x=>
  show prgO (behP l e.1) e.2 (cntC l e.1) (cntC l e.1) 1 x=true ↔ _
  rw [zDL _ _ _ _ _ hb lr9,zFA]
  constructor
  ·rintro ⟨k,h1,h2,h3⟩;exact ⟨k,h1,by omega,h3⟩
  ·rintro ⟨k,h1,h2,h3⟩;exact ⟨k,h1,by omega,h3⟩
def zIA (l:List Tri):Prop:=∀p s k,1≤k→qC (behP l p) k s=some s→cntC l p≤k
theorem zK8 {l:List Tri}:(zK l).any (wK l)=false ↔ zIA l:=by
 constructor
 ·intro h p s k hk hi
  refine Classical.byContradiction fun hc=> ?_
  have he:(p,s)∈zK l:=by
   obtain ⟨j,rfl⟩:∃j,k=j+1:=⟨k - 1,by omega⟩
   unfold qC at hi
   cases hb:behP l p s with
   | none=>rw [hb] at hi;cases hi
   | some x=>rw [wF];exact List.mem_map.2 ⟨_,wY hb,rfl⟩
  have:(zK l).any (wK l)=true:=List.any_eq_true.2 ⟨(p,s),he,zC8.2 ⟨k,hk,by show k < cntC l p;omega,hi⟩⟩
  rw [h] at this;cases this
 ·intro h
  cases hb:(zK l).any (wK l) with
  | false=>rfl
  | true=>
   obtain ⟨e,_,he⟩:=List.any_eq_true.1 hb
   obtain ⟨k,h1,h2,h3⟩:=zC8.1 he
   have:=h _ _ _ h1 h3
   omega
theorem fQ {l:List Tri} {op:Bool}:yN l op=0 ↔ l.any qJ=false∧(zK l).Nodup∧(op=true∨yV l= [])∧zIA l:=by
 rw [zFI,←zK8]
 by_cases h1:l.any qJ=true
 ·rw [if_pos h1,h1];simp
 ·rw [if_neg h1]
  have h1':l.any qJ=false:=by simpa using h1
  by_cases h2:(zK l).Nodup
  ·rw [if_neg (fun h=>h h2)]
   cases op with
   | true=>by_cases h4:(zK l).any (wK l)=true <;>simp [h1',h2,h4]
   | false=>
    by_cases h3:yV l= []
    ·by_cases h4:(zK l).any (wK l)=true <;>simp [h1',h2,h3,h4]
    ·have:0 < (yV l).length:=List.length_pos_iff.2 h3
     rw [if_pos (by simpa using this)]
     simp [h3]
  ·rw [if_pos h2];simp [h2]
theorem zFB {l:List Tri} {p q x:Pt} (h:(p,q,x)∈kT l):(q,x,p)∈kT l:=by
 obtain ⟨t,ht,hu⟩:=List.mem_flatMap.1 h
 refine List.mem_flatMap.2 ⟨t,ht,?_⟩
 obtain ⟨a,b,c⟩:=t
 simp only [tri3,List.mem_cons,List.not_mem_nil,or_false,Prod.mk.injEq] at hu⊢
 rcases hu with ⟨rfl,rfl,rfl⟩ | ⟨rfl,rfl,rfl⟩ | ⟨rfl,rfl,rfl⟩
 ·exact .inr (.inl ⟨rfl,rfl,rfl⟩)
 ·exact .inr (.inr ⟨rfl,rfl,rfl⟩)
 ·exact .inl ⟨rfl,rfl,rfl⟩
theorem kQ {l:List Tri} (h:yV l= []):∀e,e∈zK l→vK e∈zK l:=fun e he=>by
 refine Classical.byContradiction fun hc=> ?_
 have:=((xM l).2 e).2 ⟨he,hc⟩
 rw [h] at this;cases this
end Go.Proofs.YtmemofonebphfaaGreat
namespace Go.Proofs.YtmemofonebphfaaGreat
open Go.RowKit Go.Sort
abbrev E2:=Int × Int
def swE (e:E2):E2:=(e.2,e.1)
def de3 (x:Pt):List E2:= [(x.1,x.2.1),(x.2.1,x.2.2),(x.2.2,x.1)]
def dirE (t:List Pt):List E2:=t.flatMap de3
theorem zX {t:List Pt} {e:E2}:e∈dirE t ↔∃x∈t,e∈de3 x:=List.mem_flatMap
theorem yM {x:Pt} {e:E2}:e∈de3 x ↔ e=(x.1,x.2.1)∨e=(x.2.1,x.2.2)∨e=(x.2.2,x.1):=by simp [de3]
structure Cls3 (t:List Pt) (n:Int):Prop where
 idx:∀x∈t,(0≤x.1∧x.1 < n)∧(0≤x.2.1∧x.2.1 < n)∧0≤x.2.2∧x.2.2 < n
 dist:∀x∈t,x.1≠x.2.1∧x.2.1≠x.2.2∧x.2.2≠x.1
 nodup:(dirE t).Nodup
 clos:∀e∈dirE t,swE e∈dirE t
 back:∀x∈t,∀y∈t,¬∀e∈de3 x,swE e∈de3 y
theorem vG {α β:Type} {f:α→List β}:∀{l:List α},(l.flatMap f).Nodup→∀{i j:Nat} {x y:α} {e:β},l[i]? =some x→l[j]? =some y→e∈f x→e∈f y→i=j
 | a::l,h,i,j,x,y,e,hi,hj,hx,hy=>by
  rw [List.flatMap_cons] at h
  obtain ⟨_,h2,h3⟩:=List.nodup_append.1 h
  match i,j with
  | 0,0=>rfl
  | 0,j+1=>
   have e0:a=x:=by simpa using hi
   subst e0
   exact absurd rfl (h3 e hx e (List.mem_flatMap.2 ⟨y,List.mem_of_getElem? (by simpa using hj),hy⟩))
  | i+1,0=>
   have e0:a=y:=by simpa using hj
   subst e0
   exact absurd rfl (h3 e hy e (List.mem_flatMap.2 ⟨x,List.mem_of_getElem? (by simpa using hi),hx⟩))
  | i+1,j+1=>
   have:=vG (l:=l) h2 (i:=i) (j:=j) (by simpa using hi) (by simpa using hj) hx hy
   omega
 | [],_,i,_,_,_,_,hi,_,_,_=>by simp at hi
theorem bD {α β:Type} {f:α→List β}:∀{l:List α},(∀x∈l,(f x).Nodup)→(∀(i j:Nat) (x y:α) (e:β),l[i]? =some x→l[j]? =some y→e∈f x→e∈f y→i=j)→(l.flatMap f).Nodup
 | [],_,_=>by simp
 | a::l,h1,h2=>by
  rw [List.flatMap_cons]
  refine List.nodup_append.2 ⟨h1 a (by simp),bD (fun x hx=>h1 x (by simp [hx])) (fun i j x y e hi hj hx hy=> ?_),fun e he e' he' heq=> ?_⟩
  ·have:=h2 (i+1) (j+1) x y e (by simpa using hi) (by simpa using hj) hx hy
   omega
  ·subst heq
   obtain ⟨y,hy,hey⟩:=List.mem_flatMap.1 he'
   obtain ⟨j,hj⟩:=List.mem_iff_getElem?.1 hy
   have:=h2 0 (j+1) a y e (by simp) (by simpa using hj) he hey
   omega
theorem Cls3.same {t:List Pt} {n:Int} (h:Cls3 t n) {x y:Pt} (hx:x∈t) (hy:y∈t) {e:E2} (ex:e∈de3 x) (ey:e∈de3 y):x=y:=by
 obtain ⟨i,hi⟩:=List.mem_iff_getElem?.1 hx
 obtain ⟨j,hj⟩:=List.mem_iff_getElem?.1 hy
 have:=vG h.nodup hi hj ex ey
 subst this
 rw [hi] at hj
 exact Option.some.inj hj
structure MidM (m:Int→Int→Int) (t:List Pt) (n k:Int):Prop where
 low:∀e∈dirE t,n≤m e.1 e.2∧m e.1 e.2 < k
 sym:∀a b,m a b=m b a
 inj:∀e∈dirE t,∀f∈dirE t,m e.1 e.2=m f.1 f.2→e=f∨e=swE f
def four (m:Int→Int→Int) (x:Pt):List Pt:=
 [(x.1,m x.1 x.2.1,m x.2.2 x.1),(m x.1 x.2.1,x.2.1,m x.2.1 x.2.2),(m x.2.2 x.1,m x.2.1 x.2.2,x.2.2),(m x.1 x.2.1,m x.2.1 x.2.2,m x.2.2 x.1)]
def stepT (m:Int→Int→Int) (t:List Pt):List Pt:=t.flatMap (four m)
def halves (m:Int→Int→Int) (x:Pt):List E2:=(de3 x).flatMap fun e=> [(e.1,m e.1 e.2),(m e.1 e.2,e.2)]
def inner (m:Int→Int→Int) (x:Pt):List E2:= [(m x.1 x.2.1,m x.2.2 x.1),(m x.2.1 x.2.2,m x.1 x.2.1),(m x.2.2 x.1,m x.2.1 x.2.2),(m x.1 x.2.1,m x.2.1 x.2.2),(m x.2.1 x.2.2,m x.2.2 x.1),(m x.2.2 x.1,m x.1 x.2.1)]
theorem zA6 (m:Int→Int→Int) (x:Pt) (e:E2):e∈(four m x).flatMap de3 ↔ e∈halves m x∨e∈inner m x:=by
 simp only [four,halves,inner,de3,List.flatMap_cons,List.flatMap_nil,List.mem_append,List.mem_cons,List.not_mem_nil,or_false]
 constructor
 ·rintro ((h | h | h) | (h | h | h) | (h | h | h) | (h | h | h)) <;>simp [h]
 ·rintro ((((h | h) | ((h | h) | ((h | h))))) | (h | h | h | h | h | h)) <;>simp [h]
theorem fZ {t:List Pt} (h:(dirE t).Nodup) {x y:Pt} (hx:x∈t) (hy:y∈t) {e:E2} (ex:e∈de3 x) (ey:e∈de3 y):x=y:=by
 obtain ⟨i,hi⟩:=List.mem_iff_getElem?.1 hx
 obtain ⟨j,hj⟩:=List.mem_iff_getElem?.1 hy
 have:=vG h hi hj ex ey
 subst this
 rw [hi] at hj
 exact Option.some.inj hj
theorem qO {m:Int→Int→Int} {x:Pt} {e:E2}:e∈halves m x ↔∃d∈de3 x,e=(d.1,m d.1 d.2)∨e=(m d.1 d.2,d.2):=by
 unfold halves
 rw [List.mem_flatMap]
 simp
theorem uP {m:Int→Int→Int} {x:Pt} (hd:x.1≠x.2.1∧x.2.1≠x.2.2∧x.2.2≠x.1) {e:E2}:e∈inner m x ↔∃d∈de3 x,∃f∈de3 x,d≠f∧e=(m d.1 d.2,m f.1 f.2):=by
 obtain ⟨a,b,c⟩:=x
 obtain ⟨h1,h2,h3⟩:=hd
 simp only at h1 h2 h3
 have n1:(a,b)≠(b,c):=fun h=>h1 (congrArg Prod.fst h)
 have n2:(b,c)≠(c,a):=fun h=>h2 (congrArg Prod.fst h)
 have n3:(c,a)≠(a,b):=fun h=>h3 (congrArg Prod.fst h)
 constructor
 ·intro h
  simp only [inner,List.mem_cons,List.not_mem_nil,or_false] at h
  rcases h with h | h | h | h | h | h
  ·exact ⟨(a,b),by simp [de3],(c,a),by simp [de3],n3.symm,h⟩
  ·exact ⟨(b,c),by simp [de3],(a,b),by simp [de3],n1.symm,h⟩
  ·exact ⟨(c,a),by simp [de3],(b,c),by simp [de3],n2.symm,h⟩
  ·exact ⟨(a,b),by simp [de3],(b,c),by simp [de3],n1,h⟩
  ·exact ⟨(b,c),by simp [de3],(c,a),by simp [de3],n2,h⟩
  ·exact ⟨(c,a),by simp [de3],(a,b),by simp [de3],n3,h⟩
 ·rintro ⟨d,hd,f,hf,hne,rfl⟩
  rcases yM.1 hd with rfl | rfl | rfl <;>rcases yM.1 hf with rfl | rfl | rfl <;>first | exact absurd rfl hne | simp [inner]
theorem zKT {x y:Pt} (hx:x.1≠x.2.1∧x.2.1≠x.2.2∧x.2.2≠x.1) {d f:E2} (hd:d∈de3 x) (hf:f∈de3 x) (hne:d≠f) (hd':swE d∈de3 y) (hf':swE f∈de3 y):∀e∈de3 x,swE e∈de3 y:=by
 obtain ⟨a,b,c⟩:=x
 obtain ⟨p,q,r⟩:=y
 obtain ⟨h1,h2,h3⟩:=hx
 simp only at h1 h2 h3
 intro e he
 rw [yM] at hd hf hd' hf' he⊢
 rcases hd with rfl | rfl | rfl <;>rcases hf with rfl | rfl | rfl <;>first
  | exact absurd rfl hne
  | (rcases he with rfl | rfl | rfl <;>simp only [swE,Prod.mk.injEq] at hd' hf'⊢ <;>omega)
theorem zCQ (m:Int→Int→Int) (t:List Pt):dirE (stepT m t)=t.flatMap fun x=>(four m x).flatMap de3:=by
 unfold dirE stepT
 rw [List.flatMap_assoc]
theorem gU {m:Int→Int→Int} {t:List Pt} {e:E2}:e∈dirE (stepT m t) ↔∃x∈t,e∈halves m x∨e∈inner m x:=by
 rw [zCQ,List.mem_flatMap]
 simp only [zA6]
theorem xN {m:Int→Int→Int} {t:List Pt} {y:Pt}:y∈stepT m t ↔∃x∈t,y∈four m x:=List.mem_flatMap
theorem Cls3.step {t:List Pt} {n k:Int} (h:Cls3 t n) {m:Int→Int→Int} (hm:MidM m t n k):Cls3 (stepT m t) k:=by
 have hin:∀x∈t,∀e∈de3 x,e∈dirE t:=fun x hx e he=>zX.2 ⟨x,hx,he⟩
 have hlow:∀x∈t,∀e∈de3 x,(0≤e.1∧e.1 < n)∧(0≤e.2∧e.2 < n)∧e.1≠e.2∧n≤m e.1 e.2∧m e.1 e.2 < k:=fun x hx e he=>by
  have h1:=h.idx x hx
  have h2:=h.dist x hx
  have h3:=hm.low e (hin x hx e he)
  rcases yM.1 he with rfl | rfl | rfl
  ·exact ⟨h1.1,h1.2.1,h2.1,h3⟩
  ·exact ⟨h1.2.1,h1.2.2,h2.2.1,h3⟩
  ·exact ⟨h1.2.2,h1.1,h2.2.2,h3⟩
 have hmid:∀x∈t,∀d∈de3 x,∀f∈de3 x,d≠f→m d.1 d.2≠m f.1 f.2:=fun x hx d hd f hf hne he=>by
  rcases hm.inj d (hin x hx d hd) f (hin x hx f hf) he with h1 | h1
  ·exact hne h1
  ·have h2:=h.dist x hx
   obtain ⟨a,b,c⟩:=x
   simp only at h2
   rcases yM.1 hd with rfl | rfl | rfl <;>rcases yM.1 hf with rfl | rfl | rfl <;>simp only [swE,Prod.mk.injEq] at h1 <;>first | exact hne rfl | omega
 have hnod:(dirE (stepT m t)).Nodup:=by
  rw [zCQ]
  refine bD (fun x hx=> ?_) (fun i j x y e hi hj ex ey=> ?_)
  ·have h1:=hlow x hx (x.1,x.2.1) (by simp [de3])
   have h2:=hlow x hx (x.2.1,x.2.2) (by simp [de3])
   have h3:=hlow x hx (x.2.2,x.1) (by simp [de3])
   have hd:=h.dist x hx
   have m1:=hmid x hx (x.1,x.2.1) (by simp [de3]) (x.2.1,x.2.2) (by simp [de3]) (fun e=>hd.1 (congrArg Prod.fst e))
   have m2:=hmid x hx (x.2.1,x.2.2) (by simp [de3]) (x.2.2,x.1) (by simp [de3]) (fun e=>hd.2.1 (congrArg Prod.fst e))
   have m3:=hmid x hx (x.2.2,x.1) (by simp [de3]) (x.1,x.2.1) (by simp [de3]) (fun e=>hd.2.2 (congrArg Prod.fst e))
   simp only at h1 h2 h3 m1 m2 m3
   unfold four
   generalize m x.1 x.2.1=X at*
   generalize m x.2.1 x.2.2=Y at*
   generalize m x.2.2 x.1=Z at*
   simp only [de3,List.flatMap_cons,List.flatMap_nil,List.cons_append,List.nil_append,List.append_nil,List.nodup_cons,List.mem_cons,Prod.mk.injEq,List.not_mem_nil,or_false,List.nodup_nil,not_false_eq_true,and_true]
   refine ⟨?_,?_,?_,?_,?_,?_,?_,?_,?_,?_,?_⟩ <;>omega
  ·have hx:=List.mem_of_getElem? hi
   have hy:=List.mem_of_getElem? hj
   rw [zA6] at ex ey
   rcases ex with ex | ex
   ·obtain ⟨d,hd,ex⟩:=qO.1 ex
    have ld:=hlow x hx d hd
    rcases ey with ey | ey
    ·obtain ⟨f,hf,ey⟩:=qO.1 ey
     have lf:=hlow y hy f hf
     rcases ex with rfl | rfl <;>rcases ey with ey | ey <;>simp only [Prod.mk.injEq] at ey
     ·rcases hm.inj d (hin x hx d hd) f (hin y hy f hf) ey.2 with h1 | h1
      ·subst h1;exact vG h.nodup hi hj hd hf
      ·subst h1;simp only [swE] at ey ld;omega
     ·omega
     ·omega
     ·rcases hm.inj d (hin x hx d hd) f (hin y hy f hf) ey.1 with h1 | h1
      ·subst h1;exact vG h.nodup hi hj hd hf
      ·subst h1;simp only [swE] at ey ld;omega
    ·obtain ⟨f,hf,g,hg,_,ey⟩:=(uP (h.dist y hy)).1 ey
     have lf:=hlow y hy f hf
     have lg:=hlow y hy g hg
     rcases ex with rfl | rfl <;>simp only [Prod.mk.injEq] at ey <;>omega
   ·obtain ⟨d,hd,d2,hd2,hdn,rfl⟩:=(uP (h.dist x hx)).1 ex
    have ld:=hlow x hx d hd
    have ld2:=hlow x hx d2 hd2
    rcases ey with ey | ey
    ·obtain ⟨f,hf,ey⟩:=qO.1 ey
     have lf:=hlow y hy f hf
     rcases ey with ey | ey <;>simp only [Prod.mk.injEq] at ey <;>omega
    ·obtain ⟨f,hf,f2,hf2,hfn,ey⟩:=(uP (h.dist y hy)).1 ey
     simp only [Prod.mk.injEq] at ey
     rcases hm.inj d (hin x hx d hd) f (hin y hy f hf) ey.1 with h1 | h1
     ·subst h1;exact vG h.nodup hi hj hd hf
     ·rcases hm.inj d2 (hin x hx d2 hd2) f2 (hin y hy f2 hf2) ey.2 with h2 | h2
      ·subst h2;exact vG h.nodup hi hj hd2 hf2
      ·exact absurd (zKT (h.dist x hx) hd hd2 hdn (by rw [h1];exact hf) (by rw [h2];exact hf2)) (h.back x hx y hy)
 refine ⟨fun y hy=> ?_,fun y hy=> ?_,hnod,fun e he=> ?_,fun x' hx' y' hy' hall=> ?_⟩
 ·obtain ⟨x,hx,hy⟩:=xN.1 hy
  have h1:=hlow x hx (x.1,x.2.1) (by simp [de3])
  have h2:=hlow x hx (x.2.1,x.2.2) (by simp [de3])
  have h3:=hlow x hx (x.2.2,x.1) (by simp [de3])
  simp only at h1 h2 h3
  simp only [four,List.mem_cons,List.not_mem_nil,or_false] at hy
  rcases hy with rfl | rfl | rfl | rfl <;>simp only <;>omega
 ·obtain ⟨x,hx,hy⟩:=xN.1 hy
  have h1:=hlow x hx (x.1,x.2.1) (by simp [de3])
  have h2:=hlow x hx (x.2.1,x.2.2) (by simp [de3])
  have h3:=hlow x hx (x.2.2,x.1) (by simp [de3])
  have hd:=h.dist x hx
  have m1:=hmid x hx (x.1,x.2.1) (by simp [de3]) (x.2.1,x.2.2) (by simp [de3]) (fun e=>hd.1 (congrArg Prod.fst e))
  have m2:=hmid x hx (x.2.1,x.2.2) (by simp [de3]) (x.2.2,x.1) (by simp [de3]) (fun e=>hd.2.1 (congrArg Prod.fst e))
  have m3:=hmid x hx (x.2.2,x.1) (by simp [de3]) (x.1,x.2.1) (by simp [de3]) (fun e=>hd.2.2 (congrArg Prod.fst e))
  simp only at h1 h2 h3 m1 m2 m3
  simp only [four,List.mem_cons,List.not_mem_nil,or_false] at hy
  rcases hy with rfl | rfl | rfl | rfl <;>simp only <;>omega
 ·obtain ⟨x,hx,he⟩:=gU.1 he
  rcases he with he | he
  ·obtain ⟨d,hd,he⟩:=qO.1 he
   obtain ⟨y,hy,hyd⟩:=zX.1 (h.clos d (hin x hx d hd))
   refine gU.2 ⟨y,hy, .inl (qO.2 ⟨swE d,hyd,?_⟩)⟩
   rcases he with rfl | rfl
   ·exact .inr (by simp only [swE,hm.sym d.2 d.1])
   ·exact .inl (by simp only [swE,hm.sym d.2 d.1])
  ·obtain ⟨d,hd,f,hf,hne,rfl⟩:=(uP (h.dist x hx)).1 he
   exact gU.2 ⟨x,hx, .inr ((uP (h.dist x hx)).2 ⟨f,hf,d,hd,hne.symm,rfl⟩)⟩
 ·obtain ⟨x,hx,hxf⟩:=xN.1 hx'
  have h1:=hlow x hx (x.1,x.2.1) (by simp [de3])
  have h2:=hlow x hx (x.2.1,x.2.2) (by simp [de3])
  have h3:=hlow x hx (x.2.2,x.1) (by simp [de3])
  have hd:=h.dist x hx
  have m1:=hmid x hx (x.1,x.2.1) (by simp [de3]) (x.2.1,x.2.2) (by simp [de3]) (fun e=>hd.1 (congrArg Prod.fst e))
  have m2:=hmid x hx (x.2.1,x.2.2) (by simp [de3]) (x.2.2,x.1) (by simp [de3]) (fun e=>hd.2.1 (congrArg Prod.fst e))
  have m3:=hmid x hx (x.2.2,x.1) (by simp [de3]) (x.1,x.2.1) (by simp [de3]) (fun e=>hd.2.2 (congrArg Prod.fst e))
  simp only at h1 h2 h3 m1 m2 m3
  have f1:(x.1,m x.1 x.2.1,m x.2.2 x.1)∈stepT m t:=xN.2 ⟨x,hx,by simp [four]⟩
  have f2:(m x.1 x.2.1,x.2.1,m x.2.1 x.2.2)∈stepT m t:=xN.2 ⟨x,hx,by simp [four]⟩
  have f4:(m x.1 x.2.1,m x.2.1 x.2.2,m x.2.2 x.1)∈stepT m t:=xN.2 ⟨x,hx,by simp [four]⟩
  simp only [four,List.mem_cons,List.not_mem_nil,or_false] at hxf
  rcases hxf with rfl | rfl | rfl | rfl
  ·have e1:=hall (m x.1 x.2.1,m x.2.2 x.1) (by simp [de3])
   have e2:=hall (x.1,m x.1 x.2.1) (by simp [de3])
   have hs:=fZ hnod hy' f4 e1 (by simp [de3,swE])
   subst hs
   simp only [yM,swE,Prod.mk.injEq] at e2
   omega
  ·have e1:=hall (m x.2.1 x.2.2,m x.1 x.2.1) (by simp [de3])
   have e2:=hall (x.2.1,m x.2.1 x.2.2) (by simp [de3])
   have hs:=fZ hnod hy' f4 e1 (by simp [de3,swE])
   subst hs
   simp only [yM,swE,Prod.mk.injEq] at e2
   omega
  ·have e1:=hall (m x.2.2 x.1,m x.2.1 x.2.2) (by simp [de3])
   have e2:=hall (x.2.2,m x.2.2 x.1) (by simp [de3])
   have hs:=fZ hnod hy' f4 e1 (by simp [de3,swE])
   subst hs
   simp only [yM,swE,Prod.mk.injEq] at e2
   omega
  ·have e1:=hall (m x.1 x.2.1,m x.2.1 x.2.2) (by simp [de3])
   have e2:=hall (m x.2.1 x.2.2,m x.2.2 x.1) (by simp [de3])
   have hs:=fZ hnod hy' f2 e1 (by simp [de3,swE])
   subst hs
   simp only [yM,swE,Prod.mk.injEq] at e2
   omega
end Go.Proofs.YtmemofonebphfaaGreat
namespace Go.Proofs.YtmemofonebphfaaGreat
open Go.RowKit Go.Sort
def ltE2 (a b:E2):Bool:=decide (a.1 < b.1) || (decide (a.1=b.1) && decide (a.2 < b.2))
theorem gI:Tot ltE2 where
 irr x:=by simp [ltE2]
 tr x y z h1 h2:=by
  simp [ltE2] at h1 h2⊢
  omega
 tot x y h1 h2:=by
  simp [ltE2] at h1 h2
  exact Prod.ext (by omega) (by omega)
def upE (t:List Pt):List E2:=(dirE t).filter fun e=>decide (e.1 < e.2)
def zH (t:List Pt):List E2:=vC ltE2 (upE t)
def nrmE (a b:Int):E2:=(min a b,max a b)
theorem dK (a b:Int):nrmE a b=nrmE b a:=by unfold nrmE;rw [Int.min_comm,Int.max_comm]
theorem zM7 {a b c d:Int} (h:nrmE a b=nrmE c d):(a,b)=(c,d)∨(a,b)=(d,c):=by
 simp only [nrmE,Prod.mk.injEq] at h⊢
 omega
theorem qB {a b:Int} (h:a < b):nrmE a b=(a,b):=by simp only [nrmE,Prod.mk.injEq];omega
def posE (l:List E2) (a b:Int):Int:=match l.findIdx? fun e=>decide (e=nrmE a b) with
 | some i=>i
 | none=> -1
theorem zLY (l:List E2) (a b:Int):posE l a b=posE l b a:=by unfold posE;rw [dK]
theorem zJI {l:List E2} (hn:l.Nodup) {a b:Int} {i:Nat} (h:l[i]? =some (nrmE a b)):posE l a b=i:=by
 unfold posE
 have hi:=(List.getElem?_eq_some_iff.1 h).1
 have e:l.findIdx? (fun e=>decide (e=nrmE a b))=some i:=by
  rw [List.findIdx?_eq_some_iff_getElem]
  refine ⟨hi,by rw [(List.getElem?_eq_some_iff.1 h).2];simp,fun j hj=> ?_⟩
  have hne:l[j]≠nrmE a b:=fun e=>by
   rw [←(List.getElem?_eq_some_iff.1 h).2] at e
   have:=(List.getElem_inj hn).1 e
   omega
  simp [hne]
 rw [e]
theorem wI {l:List E2} {a b:Int} (h:nrmE a b∈l):∃i:Nat,posE l a b=i∧l[i]? =some (nrmE a b):=by
 unfold posE
 cases hf:l.findIdx? (fun e=>decide (e=nrmE a b)) with
 | none=>
  rw [List.findIdx?_eq_none_iff] at hf
  have:=hf _ h
  simp at this
 | some i=>
  rw [List.findIdx?_eq_some_iff_getElem] at hf
  obtain ⟨hi,he,_⟩:=hf
  exact ⟨i,rfl,by rw [List.getElem?_eq_getElem hi];simpa using he⟩
theorem dU {l:List E2} {a b:Int} (h:nrmE a b ∉ l):posE l a b= -1:=by
 unfold posE
 cases hf:l.findIdx? (fun e=>decide (e=nrmE a b)) with
 | none=>rfl
 | some i=>
  rw [List.findIdx?_eq_some_iff_getElem] at hf
  obtain ⟨hi,he,_⟩:=hf
  have he:l[i]=nrmE a b:=by simpa using he
  exact absurd (he▸List.getElem_mem hi) h
theorem zZ {t:List Pt} {e:E2}:e∈zH t ↔ e∈dirE t∧e.1 < e.2:=by
 unfold zH upE
 rw [uM,List.mem_filter]
 simp
theorem qK {t:List Pt} (h:(dirE t).Nodup):(zH t).Nodup:=(y7 _).nodup_iff.2 (h.filter _)
theorem Cls3.ne {t:List Pt} {n:Int} (h:Cls3 t n) {e:E2} (he:e∈dirE t):e.1≠e.2:=by
 obtain ⟨x,hx,hd⟩:=zX.1 he
 have:=h.dist x hx
 rcases yM.1 hd with rfl | rfl | rfl
 ·exact this.1
 ·exact this.2.1
 ·exact this.2.2
theorem Cls3.nrm {t:List Pt} {n:Int} (h:Cls3 t n) {e:E2} (he:e∈dirE t):nrmE e.1 e.2∈zH t:=by
 have hne:=h.ne he
 rcases Int.lt_or_gt_of_ne hne with hlt | hlt
 ·rw [qB hlt];exact zZ.2 ⟨he,hlt⟩
 ·rw [dK,qB hlt];exact zZ.2 ⟨h.clos e he,hlt⟩
def midE (t:List Pt) (n:Int) (a b:Int):Int:=n+posE (zH t) a b
theorem Cls3.mid {t:List Pt} {n:Int} (h:Cls3 t n):MidM (midE t n) t n (n+(zH t).length) where
 low e he:=by
  obtain ⟨i,h1,h2⟩:=wI (h.nrm he)
  have:=(List.getElem?_eq_some_iff.1 h2).1
  unfold midE
  rw [h1]
  omega
 sym a b:=by unfold midE;rw [zLY]
 inj e he f hf heq:=by
  obtain ⟨i,h1,h2⟩:=wI (h.nrm he)
  obtain ⟨j,h3,h4⟩:=wI (h.nrm hf)
  unfold midE at heq
  rw [h1,h3] at heq
  have:i=j:=by omega
  subst this
  rw [h2] at h4
  rcases zM7 (Option.some.inj h4) with h5 | h5
  ·exact .inl h5
  ·exact .inr h5
theorem dN (t:List Pt):(dirE t).length=3*t.length:=by
 unfold dirE
 induction t with
 | nil=>rfl
 | cons x t ih=>rw [List.flatMap_cons,List.length_append,ih,List.length_cons];show 3+_=_;omega
theorem zDS {α:Type} (p:α→Bool) (l:List α):(l.filter p).length+(l.filter fun x=> !p x).length=l.length:=by
 induction l with
 | nil=>rfl
 | cons x l ih=>
  rw [List.filter_cons,List.filter_cons]
  cases hp:p x <;>simp <;>omega
theorem zAL {t:List Pt} (hne:∀e∈dirE t,e.1≠e.2) (hnd:(dirE t).Nodup) (hcl:∀e∈dirE t,swE e∈dirE t):2*(zH t).length=3*t.length:=by
 have h1:=zDS (fun e:E2=>decide (e.1 < e.2)) (dirE t)
 have h2:((dirE t).filter fun x=> !decide (x.1 < x.2)).Perm ((upE t).map swE):=by
  refine (List.perm_ext_iff_of_nodup (hnd.filter _) ?_).2 fun e=> ?_
  ·refine List.Pairwise.map swE (fun a b (hab:a≠b)=> ?_) (hnd.filter _)
   intro he
   apply hab
   simp only [swE,Prod.mk.injEq] at he
   exact Prod.ext he.2 he.1
  ·rw [List.mem_filter,List.mem_map]
   constructor
   ·rintro ⟨he,hlt⟩
    have hne:=hne _ he
    refine ⟨swE e,List.mem_filter.2 ⟨hcl e he,?_⟩,rfl⟩
    simp at hlt
    exact decide_eq_true (show e.2 < e.1 by omega)
   ·rintro ⟨f,hf,rfl⟩
    obtain ⟨hf,hlt⟩:=List.mem_filter.1 hf
    refine ⟨hcl f hf,?_⟩
    simp at hlt
    show (!decide (f.2 < f.1))=true
    rw [decide_eq_false (by omega)]
    rfl
 have h3:=h2.length_eq
 rw [List.length_map] at h3
 rw [dN] at h1
 unfold zH
 rw [yE]
 unfold upE at h3⊢
 omega
theorem Cls3.count {t:List Pt} {n:Int} (h:Cls3 t n):2*(zH t).length=3*t.length:=zAL (fun _ he=>h.ne he) h.nodup h.clos
def thr3 (x:Pt) (a b:Int):Option Int:=if x.1=a∧x.2.1=b then some x.2.2 else if x.2.1=a∧x.2.2=b then some x.1 else if x.2.2=a∧x.1=b then some x.2.1 else none
def zV (t:List Pt) (a b:Int):Int:=(t.findSome? fun x=>thr3 x a b).getD (-1)
theorem uA {x:Pt} {a b c:Int} (h:thr3 x a b=some c):(a,b)∈de3 x∧(b,c)∈de3 x∧(c,a)∈de3 x:=by
 unfold thr3 at h
 split at h
 ·rename_i h1
  cases h
  obtain ⟨rfl,rfl⟩:=h1
  simp [de3]
 ·split at h
  ·rename_i h1
   cases h
   obtain ⟨rfl,rfl⟩:=h1
   simp [de3]
  ·split at h
   ·rename_i h1
    cases h
    obtain ⟨rfl,rfl⟩:=h1
    simp [de3]
   ·cases h
theorem zF2 {x:Pt} {a b:Int} (h:(a,b)∈de3 x):∃c,thr3 x a b=some c:=by
 unfold thr3
 split
 ·exact ⟨_,rfl⟩
 ·split
  ·exact ⟨_,rfl⟩
  ·split
   ·exact ⟨_,rfl⟩
   ·rename_i h1 h2 h3
    rcases yM.1 h with h | h | h <;>simp only [Prod.mk.injEq] at h
    ·exact absurd ⟨h.1.symm,h.2.symm⟩ h1
    ·exact absurd ⟨h.1.symm,h.2.symm⟩ h2
    ·exact absurd ⟨h.1.symm,h.2.symm⟩ h3
theorem zFW {t:List Pt} (hn:(dirE t).Nodup) {x:Pt} {a b c:Int} (hx:x∈t) (h:thr3 x a b=some c):zV t a b=c:=by
 unfold zV
 cases hf:t.findSome? (fun x=>thr3 x a b) with
 | none=>
  have:=List.findSome?_eq_none_iff.1 hf x hx
  rw [this] at h;cases h
 | some d=>
  obtain ⟨y,hy,hyd⟩:=List.exists_of_findSome?_eq_some hf
  have:=fZ hn hx hy (uA h).1 (uA hyd).1
  subst this
  rw [h] at hyd
  cases hyd
  rfl
theorem zID {t:List Pt} (hn:(dirE t).Nodup) {a b:Int} (h:(a,b)∈dirE t):(b,zV t a b)∈dirE t∧(zV t a b,a)∈dirE t:=by
 obtain ⟨x,hx,hd⟩:=zX.1 h
 obtain ⟨c,hc⟩:=zF2 hd
 rw [zFW hn hx hc]
 exact ⟨zX.2 ⟨x,hx,(uA hc).2.1⟩,zX.2 ⟨x,hx,(uA hc).2.2⟩⟩
end Go.Proofs.YtmemofonebphfaaGreat
namespace Go.Proofs.YtmemofonebphfaaGreat
open Go.RowKit Go.Sort
def numT (x:Pt):Tri:=((x.1,0,0),(x.2.1,0,0),(x.2.2,0,0))
def numE (e:E2):Ed:=((e.1,0,0),(e.2,0,0))
theorem dE {e f:E2} (h:numE e=numE f):e=f:=by
 simp only [numE,Prod.mk.injEq,and_true] at h
 exact Prod.ext h.1 h.2
theorem qI (t:List Pt):zK (t.map numT)=(dirE t).map numE:=by
 unfold zK dirE
 induction t with
 | nil=>rfl
 | cons x t ih=>rw [List.map_cons,List.flatMap_cons,ih,List.flatMap_cons,List.map_append];rfl
theorem jM {α β:Type} {f:α→β}:∀{l:List α},(l.map f).Nodup→l.Nodup
 | [],_=> .nil
 | x::l,h=>by
  rw [List.map_cons,List.nodup_cons] at h
  exact List.nodup_cons.2 ⟨fun hx=>h.1 (List.mem_map.2 ⟨x,hx,rfl⟩),jM h.2⟩
theorem zCW {t:List Pt} {n:Int} (hc:yN (t.map numT) false=0) (hi:∀x∈t,(0≤x.1∧x.1 < n)∧(0≤x.2.1∧x.2.1 < n)∧0≤x.2.2∧x.2.2 < n)
  (hb:∀x∈t,∀y∈t,¬∀e∈de3 x,swE e∈de3 y):Cls3 t n:=by
 obtain ⟨h1,h2,h3,_⟩:=fQ.1 hc
 have h3:yV (t.map numT)= []:=by
  rcases h3 with h | h
  ·cases h
  ·exact h
 rw [qI] at h2
 refine ⟨hi,fun x hx=> ?_,jM h2,fun e he=> ?_,hb⟩
 ·have:=List.any_eq_false.1 h1 (numT x) (List.mem_map.2 ⟨x,hx,rfl⟩)
  simp [qJ,numT] at this
  omega
 ·have hm:numE e∈zK (t.map numT):=by rw [qI];exact List.mem_map.2 ⟨e,he,rfl⟩
  have:=kQ h3 _ hm
  rw [qI] at this
  obtain ⟨f,hf,hfe⟩:=List.mem_map.1 this
  have:f=swE e:=dE (by rw [hfe];rfl)
  rw [←this];exact hf
theorem uJ (a b:Int):wrap64 (wrap64 a+b)=wrap64 (a+b):=by unfold wrap64;omega
theorem vJ (a b:Int):wrap64 (a+wrap64 b)=wrap64 (a+b):=by unfold wrap64;omega
theorem zH2 {a b:Int} (h:(a - b) % 18446744073709551616=0):wrap64 a=wrap64 b:=by unfold wrap64;omega
theorem zGG (a:Int):(wrap64 a - a) % 18446744073709551616=0:=by unfold wrap64;omega
theorem bU (k a:Int):wrap64 (k*wrap64 a)=wrap64 (k*a):=by
 apply zH2
 obtain ⟨q,hq⟩:=Int.dvd_of_emod_eq_zero (zGG a)
 have:k*wrap64 a - k*a=18446744073709551616*(k*q):=by
  have e:wrap64 a=a+18446744073709551616*q:=by omega
  rw [e,Int.mul_add]
  have e2:k*(18446744073709551616*q)=18446744073709551616*(k*q):=by
   rw [←Int.mul_assoc,Int.mul_comm k,Int.mul_assoc]
  omega
 rw [this]
 exact Int.mul_emod_right _ _
def wsum (p:List Pt):List (Int × Int)→Pt
 | []=>(0,0,0)
 | (k,i)::ws=>(k*(p.getD i.toNat (0,0,0)).1+(wsum p ws).1,k*(p.getD i.toNat (0,0,0)).2.1+(wsum p ws).2.1,k*(p.getD i.toNat (0,0,0)).2.2+(wsum p ws).2.2)
def wJ (p:Pt):Pt:=(wrap64 p.1,wrap64 p.2.1,wrap64 p.2.2)
def xA (cr:List E2) (a:Int):List Int:=cr.flatMap fun e=>(if e.1=a then [e.2] else [])++if e.2=a then [e.1] else []
def beyE (cr:List E2) (co:List Int) (a b:Int):Int:=if a∈co∨(xA cr a).length≠2 then a else if (xA cr a)[0]? =some b then (xA cr a).getD 1 0 else (xA cr a).getD 0 0
def wsE (t:List Pt) (cr:List E2) (co:List Int) (a b:Int):List (Int × Int):=
 if nrmE a b∈cr then [(9,a),(9,b),(-1,beyE cr co a b),(-1,beyE cr co b a)]
 else [(8,a),(8,b),(2,zV t a b),(2,zV t b a),(-1,zV t (zV t a b) b),(-1,zV t a (zV t a b)),(-1,zV t (zV t b a) a),(-1,zV t b (zV t b a))]
def jC (p t:List Pt) (cr:List E2) (co:List Int) (a b:Int):Pt:=
 ((wrap64 (wsum p (wsE t cr co a b)).1).tdiv 16,(wrap64 (wsum p (wsE t cr co a b)).2.1).tdiv 16,(wrap64 (wsum p (wsE t cr co a b)).2.2).tdiv 16)
def setE (l:List E2):List E2:=vC ltE2 (x9 (l.map fun e=>nrmE e.1 e.2))
structure Lev where
 p:List Pt
 t:List Pt
 cr:List E2
def Lev.rules (L:Lev) (co:List Int):List Pt:=(zH L.t).map fun e=>jC L.p L.t L.cr co e.1 e.2
def Lev.halved (L:Lev):List E2:=L.cr.flatMap fun e=> [(e.1,midE L.t L.p.length e.1 e.2),(e.2,midE L.t L.p.length e.1 e.2)]
def Lev.step (L:Lev) (added:List Pt):Lev:=⟨L.p++added,stepT (midE L.t L.p.length) L.t,setE L.halved⟩
def xU (p q:Pt) (n:Int):Pt:=(wrap64 (p.1+n*q.1),wrap64 (p.2.1+n*q.2.1),wrap64 (p.2.2+n*q.2.2))
def detE (added:List Pt) (ds:List Pt) (n:Int):List Pt:=added.mapIdx fun i p=>match ds[i]? with
 | some d=>xU p d n
 | none=>p
structure Ctl where
 points:List Pt
 tris:List Pt
 creases:List E2
 corners:List Int
 steps:Int
 details:List (List Pt)
def Ctl.begin (c:Ctl):Lev:=⟨c.points.map fun p=>xU (0,0,0) p (16^c.steps.toNat),c.tris,setE c.creases⟩
def Ctl.level (c:Ctl):Nat→Lev
 | 0=>c.begin
 | k+1=>(c.level k).step (detE ((c.level k).rules c.corners) (c.details.getD k []) (16^(c.steps.toNat - 1 - k)))
def outE (n:Nat) (l:List Int):Bool:=l.any fun i=>decide (i < 0∨(n:Int)≤i)
def outR (lo hi:Int) (l:List Pt):Bool:=l.any fun p=>decide (min (min p.1 p.2.1) p.2.2 < lo∨hi < max (max p.1 p.2.1) p.2.2)
def jQ (ds:List (List Pt)):Nat→Nat→Bool
 | 0,_=>false
 | k+1,m=>match ds with
  | []=>false
  | d::ds=>decide (m < d.length) || jQ ds k (4*m)
end Go.Proofs.YtmemofonebphfaaGreat
namespace Go.Proofs.YtmemofonebphfaaGreat
open Go.RowKit Go.Sort
def trN (x:Pt):List Pt:= [x,(x.2.1,x.2.2,x.1),(x.2.2,x.1,x.2.1)]
def wL (t:List Pt):List Pt:=t.flatMap trN
def xK (x:Pt):List Int:= [x.1,x.2.1,x.2.2]
def yL (t:List Pt):List Int:=t.flatMap xK
def nmP (i:Int):Pt:=(i,0,0)
theorem zAU {i j:Int} (h:nmP i=nmP j):i=j:=congrArg Prod.fst h
theorem zLX (t:List Pt):kT (t.map numT)=(wL t).map numT:=by
 unfold kT wL
 induction t with
 | nil=>rfl
 | cons x t ih=>rw [List.map_cons,List.flatMap_cons,ih,List.flatMap_cons,List.map_append];rfl
theorem zFJ (t:List Pt):vN (t.map numT)=(yL t).map nmP:=by
 unfold vN yL
 induction t with
 | nil=>rfl
 | cons x t ih=>rw [List.map_cons,List.flatMap_cons,ih,List.flatMap_cons,List.map_append];rfl
theorem yC {t:List Pt} {y:Pt}:y∈wL t ↔∃x∈t,y=x∨y=(x.2.1,x.2.2,x.1)∨y=(x.2.2,x.1,x.2.1):=by
 unfold wL
 rw [List.mem_flatMap]
 simp [trN]
theorem yP {t:List Pt} {a b c:Int} (h:(a,b,c)∈wL t):(b,c,a)∈wL t:=by
 obtain ⟨x,hx,h⟩:=yC.1 h
 refine yC.2 ⟨x,hx,?_⟩
 obtain ⟨x1,x2,x3⟩:=x
 simp only [Prod.mk.injEq] at h⊢
 omega
theorem zG4 {t:List Pt} {a b c:Int} (h:(a,b,c)∈wL t):(a,b)∈dirE t:=by
 obtain ⟨x,hx,h⟩:=yC.1 h
 refine zX.2 ⟨x,hx,yM.2 ?_⟩
 obtain ⟨x1,x2,x3⟩:=x
 simp only [Prod.mk.injEq] at h⊢
 omega
theorem zBE {t:List Pt} {a b:Int} (h:(a,b)∈dirE t):∃c,(a,b,c)∈wL t:=by
 obtain ⟨x,hx,h⟩:=zX.1 h
 obtain ⟨x1,x2,x3⟩:=x
 rcases yM.1 h with h | h | h <;>simp only [Prod.mk.injEq] at h <;>obtain ⟨rfl,rfl⟩:=h
 ·exact ⟨x3,yC.2 ⟨_,hx,by simp⟩⟩
 ·exact ⟨x1,yC.2 ⟨_,hx,by simp⟩⟩
 ·exact ⟨x2,yC.2 ⟨_,hx,by simp⟩⟩
def itR (R:Int→Int→Prop):Nat→Int→Int→Prop
 | 0,s,r=>s=r
 | k+1,s,r=>∃x,R s x∧itR R k x r
def nxR (t:List Pt) (p:Int) (q r:Int):Prop:=(p,q,r)∈wL t
def zJ4 (t:List Pt):Prop:=∀p s k,1≤k→itR (nxR t p) k s s→(yL t).count p≤k
theorem qM {α β:Type} [BEq α] [LawfulBEq α] [BEq β] [LawfulBEq β] {f:α→β}:∀(l:List α) (a:α),(∀b∈l,f b=f a→b=a)→(l.map f).count (f a)=l.count a
 | [],_,_=>rfl
 | x::l,a,h=>by
  rw [List.map_cons,List.count_cons,List.count_cons,qM l a fun b hb=>h b (by simp [hb])]
  congr 1
  by_cases e:x=a
  ·subst e;simp
  ·have:f x≠f a:=fun h'=>e (h x (by simp) h')
   simp [e,this]
theorem zB6 {t:List Pt} (hn:(dirE t).Nodup) {P Q X:Pt}:behP (t.map numT) P Q=some X ↔∃p q x,P=nmP p∧Q=nmP q∧X=nmP x∧nxR t p q x:=by
 have hn':(zK (t.map numT)).Nodup:=by
  rw [qI]
  exact List.Pairwise.map _ (fun a b hab he=>hab (dE he)) hn
 rw [fA hn',zLX,List.mem_map]
 constructor
 ·rintro ⟨⟨p,q,x⟩,hm,he⟩
  simp only [numT,Prod.mk.injEq] at he
  obtain ⟨h1,h2,h3⟩:=he
  exact ⟨p,q,x,h1.symm,h2.symm,h3.symm,hm⟩
 ·rintro ⟨p,q,x,rfl,rfl,rfl,hm⟩
  exact ⟨_,hm,rfl⟩
theorem zMA {t:List Pt} (hn:(dirE t).Nodup) {p:Int}:∀(k:Nat) (s r:Int),itR (nxR t p) k s r→qC (behP (t.map numT) (nmP p)) k (nmP s)=some (nmP r)
 | 0,s,r,h=>by unfold itR at h;subst h;rfl
 | k+1,s,r,⟨x,h1,h2⟩=>by
  unfold qC
  rw [(zB6 hn).2 ⟨p,s,x,rfl,rfl,rfl,h1⟩]
  exact zMA hn k x r h2
theorem zMD {t:List Pt} (hn:(dirE t).Nodup) {p:Int}:∀(k:Nat) (s:Int) (Y:Pt),qC (behP (t.map numT) (nmP p)) k (nmP s)=some Y→∃r,Y=nmP r∧itR (nxR t p) k s r
 | 0,s,Y,h=>by unfold qC at h;cases h;exact ⟨s,rfl,rfl⟩
 | k+1,s,Y,h=>by
  unfold qC at h
  cases hb:behP (t.map numT) (nmP p) (nmP s) with
  | none=>rw [hb] at h;cases h
  | some X=>
   rw [hb] at h
   obtain ⟨p',q',x,e1,e2,rfl,hx⟩:=(zB6 hn).1 hb
   obtain rfl:=zAU e1
   obtain rfl:=zAU e2
   obtain ⟨r,hr,h2⟩:=zMD hn k x Y h
   exact ⟨r,hr,x,hx,h2⟩
theorem zF4 {t:List Pt} (hn:(dirE t).Nodup):zIA (t.map numT) ↔ zJ4 t:=by
 constructor
 ·intro h p s k hk hi
  have h1:=h (nmP p) (nmP s) k hk (zMA hn k s s hi)
  rw [wG,zFJ,qM _ _ fun b _ e=>zAU e] at h1
  exact h1
 ·intro h P S k hk hi
  obtain ⟨j,rfl⟩:∃j,k=j+1:=⟨k - 1,by omega⟩
  have h0:=hi
  unfold qC at h0
  cases hb:behP (t.map numT) P S with
  | none=>rw [hb] at h0;cases h0
  | some X=>
   obtain ⟨p,s,x,rfl,rfl,_,_⟩:=(zB6 hn).1 hb
   obtain ⟨r,e,h2⟩:=zMD hn (j+1) s _ hi
   obtain rfl:=zAU e
   have:=h p s (j+1) hk h2
   rw [wG,zFJ,qM _ _ fun b _ e=>zAU e]
   exact this
theorem vW {t:List Pt}:yN (t.map numT) false=0 ↔ (∀x∈t,x.1≠x.2.1∧x.2.1≠x.2.2∧x.2.2≠x.1)∧(dirE t).Nodup∧(∀e∈dirE t,swE e∈dirE t)∧zJ4 t:=by
 rw [fQ]
 have e1:(t.map numT).any qJ=false ↔∀x∈t,x.1≠x.2.1∧x.2.1≠x.2.2∧x.2.2≠x.1:=by
  rw [List.any_map,List.any_eq_false]
  refine forall_congr' fun x=>forall_congr' fun _=> ?_
  simp [qJ,numT]
  omega
 have e2:(zK (t.map numT)).Nodup ↔ (dirE t).Nodup:=by
  rw [qI]
  exact ⟨jM,fun h=>List.Pairwise.map _ (fun a b hab he=>hab (dE he)) h⟩
 have e3:yV (t.map numT)= [] ↔∀e∈dirE t,swE e∈dirE t:=by
  constructor
  ·intro h e he
   have hm:numE e∈zK (t.map numT):=by rw [qI];exact List.mem_map.2 ⟨e,he,rfl⟩
   have:=kQ h _ hm
   rw [qI] at this
   obtain ⟨f,hf,hfe⟩:=List.mem_map.1 this
   have:f=swE e:=dE (by rw [hfe];rfl)
   rw [←this];exact hf
  ·intro h
   refine List.eq_nil_iff_forall_not_mem.2 fun E hE=> ?_
   obtain ⟨h1,h2⟩:=((xM (t.map numT)).2 E).1 hE
   rw [qI] at h1 h2
   obtain ⟨e,he,rfl⟩:=List.mem_map.1 h1
   exact h2 (List.mem_map.2 ⟨swE e,h e he,rfl⟩)
 rw [e1,e2,e3]
 constructor
 ·rintro ⟨h1,h2,h3,h4⟩
  exact ⟨h1,h2,by simpa using h3,(zF4 h2).1 h4⟩
 ·rintro ⟨h1,h2,h3,h4⟩
  exact ⟨h1,h2, .inr h3,(zF4 h2).2 h4⟩
theorem uN {m:Int→Int→Int} {t:List Pt} {p q r:Int}:(p,q,r)∈wL (stepT m t) ↔∃a b c,(a,b,c)∈wL t∧((p=a∧q=m a b∧r=m c a)∨(p=m a b∧q=m c a∧r=a)∨(p=m c a∧q=a∧r=m a b)∨(p=m a b∧q=m b c∧r=m c a)):=by
 constructor
 ·intro h
  obtain ⟨y,hy,h⟩:=yC.1 h
  obtain ⟨x,hx,hy⟩:=xN.1 hy
  obtain ⟨a,b,c⟩:=x
  have t1:(a,b,c)∈wL t:=yC.2 ⟨_,hx, .inl rfl⟩
  have t2:=yP t1
  have t3:=yP t2
  simp only [four,List.mem_cons,List.not_mem_nil,or_false] at hy
  rcases hy with rfl | rfl | rfl | rfl <;>simp only [Prod.mk.injEq] at h <;>rcases h with ⟨rfl,rfl,rfl⟩ | ⟨rfl,rfl,rfl⟩ | ⟨rfl,rfl,rfl⟩
  ·exact ⟨_,_,_,t1,by simp⟩
  ·exact ⟨_,_,_,t1,by simp⟩
  ·exact ⟨_,_,_,t1,by simp⟩
  ·exact ⟨_,_,_,t2,by simp⟩
  ·exact ⟨_,_,_,t2,by simp⟩
  ·exact ⟨_,_,_,t2,by simp⟩
  ·exact ⟨_,_,_,t3,by simp⟩
  ·exact ⟨_,_,_,t3,by simp⟩
  ·exact ⟨_,_,_,t3,by simp⟩
  ·exact ⟨_,_,_,t1,by simp⟩
  ·exact ⟨_,_,_,t2,by simp⟩
  ·exact ⟨_,_,_,t3,by simp⟩
 ·rintro ⟨a,b,c,h,hc⟩
  obtain ⟨x,hx,h⟩:=yC.1 h
  obtain ⟨x1,x2,x3⟩:=x
  have f1:(x1,m x1 x2,m x3 x1)∈stepT m t:=xN.2 ⟨_,hx,by simp [four]⟩
  have f2:(m x1 x2,x2,m x2 x3)∈stepT m t:=xN.2 ⟨_,hx,by simp [four]⟩
  have f3:(m x3 x1,m x2 x3,x3)∈stepT m t:=xN.2 ⟨_,hx,by simp [four]⟩
  have f4:(m x1 x2,m x2 x3,m x3 x1)∈stepT m t:=xN.2 ⟨_,hx,by simp [four]⟩
  simp only [Prod.mk.injEq] at h
  rcases h with ⟨rfl,rfl,rfl⟩ | ⟨rfl,rfl,rfl⟩ | ⟨rfl,rfl,rfl⟩ <;>rcases hc with ⟨rfl,rfl,rfl⟩ | ⟨rfl,rfl,rfl⟩ | ⟨rfl,rfl,rfl⟩ | ⟨rfl,rfl,rfl⟩
  ·exact yC.2 ⟨_,f1,by simp⟩
  ·exact yC.2 ⟨_,f1,by simp⟩
  ·exact yC.2 ⟨_,f1,by simp⟩
  ·exact yC.2 ⟨_,f4,by simp⟩
  ·exact yC.2 ⟨_,f2,by simp⟩
  ·exact yC.2 ⟨_,f2,by simp⟩
  ·exact yC.2 ⟨_,f2,by simp⟩
  ·exact yC.2 ⟨_,f4,by simp⟩
  ·exact yC.2 ⟨_,f3,by simp⟩
  ·exact yC.2 ⟨_,f3,by simp⟩
  ·exact yC.2 ⟨_,f3,by simp⟩
  ·exact yC.2 ⟨_,f4,by simp⟩
theorem zNJ {α:Type} {l:List α} {u v:α} (hn:l.Nodup) (h:∀x∈l,x=u∨x=v):l.length≤2:=by
 match l,hn,h with
 | [],_,_=>simp
 | [_],_,_=>simp
 | [_,_],_,_=>simp
 | a::b::c::l,hn,h=>
  exfalso
  simp only [List.nodup_cons,List.mem_cons,not_or] at hn
  have h1:=h a (by simp)
  have h2:=h b (by simp)
  have h3:=h c (by simp)
  obtain ⟨⟨n1,n2,_⟩,⟨n3,_⟩,_⟩:=hn
  rcases h1 with rfl | rfl <;>rcases h2 with rfl | rfl <;>rcases h3 with rfl | rfl <;>simp at n1 n2 n3
theorem zDI {m:Int→Int→Int} {p:Int}:∀{t:List Pt},(∀e∈dirE t,m e.1 e.2≠p)→(yL (stepT m t)).count p=(yL t).count p
 | [],_=>rfl
 | x::t,h=>by
  have ih:=zDI (t:=t) fun e he=>h e (by unfold dirE at he⊢;rw [List.flatMap_cons];exact List.mem_append_right _ he)
  have h1:∀e∈de3 x,m e.1 e.2≠p:=fun e he=>h e (zX.2 ⟨x,by simp,he⟩)
  have a1:=h1 (x.1,x.2.1) (by simp [de3])
  have a2:=h1 (x.2.1,x.2.2) (by simp [de3])
  have a3:=h1 (x.2.2,x.1) (by simp [de3])
  simp only at a1 a2 a3
  unfold yL stepT at ih⊢
  rw [List.flatMap_cons,List.flatMap_append,List.flatMap_cons,List.count_append,List.count_append,ih]
  congr 1
  simp only [four,xK,List.flatMap_cons,List.flatMap_nil,List.cons_append,List.nil_append,List.append_nil,List.count_cons,List.count_nil]
  have b1:(m x.1 x.2.1==p)=false:=beq_false_of_ne a1
  have b2:(m x.2.1 x.2.2==p)=false:=beq_false_of_ne a2
  have b3:(m x.2.2 x.1==p)=false:=beq_false_of_ne a3
  simp only [b1,b2,b3]
  simp <;>omega
theorem zC9 {m:Int→Int→Int} {p:Int}:∀{t:List Pt},(∀x∈t,x.1≠p∧x.2.1≠p∧x.2.2≠p)→(yL (stepT m t)).count p=3*((dirE t).filter fun e=>decide (m e.1 e.2=p)).length
 | [],_=>rfl
 | x::t,h=>by
  have ih:=zC9 (m:=m) (t:=t) fun y hy=>h y (by simp [hy])
  obtain ⟨a1,a2,a3⟩:=h x (by simp)
  unfold yL stepT dirE at ih⊢
  rw [List.flatMap_cons,List.flatMap_append,List.flatMap_cons,List.filter_append,List.length_append,List.count_append,ih,Nat.mul_add]
  congr 1
  have b1:(x.1==p)=false:=beq_false_of_ne a1
  have b2:(x.2.1==p)=false:=beq_false_of_ne a2
  have b3:(x.2.2==p)=false:=beq_false_of_ne a3
  simp only [four,xK,de3,List.flatMap_cons,List.flatMap_nil,List.cons_append,List.nil_append,List.append_nil,List.count_cons,List.count_nil,b1,b2,b3]
  by_cases c1:m x.1 x.2.1=p <;>by_cases c2:m x.2.1 x.2.2=p <;>by_cases c3:m x.2.2 x.1=p <;>simp [c1,c2,c3]
theorem zFP {R:Int→Int→Prop} {X:List Int} (hl:X.length=6) (hn:X.Nodup) (hR:∀q r,R q r→∃i,i < 6∧X[i]? =some q∧X[(i+1) % 6]? =some r):∀(k:Nat) (s r:Int),1≤k→itR R k s r→∃i,i < 6∧X[i]? =some s∧X[(i+k) % 6]? =some r
 | 0,_,_,h,_=>absurd h (by omega)
 | 1,s,r,_,⟨x,h1,h2⟩=>by
  have h2:x=r:=h2
  subst h2
  exact hR _ _ h1
 | k+2,s,r,_,⟨x,h1,h2⟩=>by
  obtain ⟨i,hi,e1,e2⟩:=hR _ _ h1
  obtain ⟨j,hj,e3,e4⟩:=zFP hl hn hR (k+1) x r (by omega) h2
  have hij:(i+1) % 6=j:=by
   obtain ⟨l1,g1⟩:=List.getElem?_eq_some_iff.1 e2
   obtain ⟨l2,g2⟩:=List.getElem?_eq_some_iff.1 e3
   exact (List.getElem_inj hn).1 (g1.trans g2.symm)
  refine ⟨i,hi,e1,?_⟩
  rw [←e4]
  congr 1
  omega
theorem Cls3.calm_step {t:List Pt} {n k:Int} (h:Cls3 t n) {m:Int→Int→Int} (hm:MidM m t n k) (hc:zJ4 t):zJ4 (stepT m t):=by
 have hbd:∀{a b c:Int},(a,b,c)∈wL t→(0≤a∧a < n)∧a≠b∧(a,b)∈dirE t:=fun {a b c} ht=>by
  have he:=zG4 ht
  refine ⟨?_,h.ne he,he⟩
  obtain ⟨x,hx,h'⟩:=yC.1 ht
  have:=h.idx x hx
  obtain ⟨x1,x2,x3⟩:=x
  simp only [Prod.mk.injEq] at h' this
  omega
 have hlow:∀{a b:Int},(a,b)∈dirE t→n≤m a b:=fun {a b} he=>(hm.low _ he).1
 have hsw:∀{a b:Int},(a,b)∈dirE t→(b,a)∈dirE t:=fun {a b} he=>h.clos _ he
 have hinj:∀{a b c d:Int},(a,b)∈dirE t→(c,d)∈dirE t→m a b=m c d→(a=c∧b=d)∨(a=d∧b=c):=fun {a b c d} h1 h2 he=>by
  rcases hm.inj _ h1 _ h2 he with e | e <;>simp only [swE,Prod.mk.injEq] at e
  ·exact .inl e
  ·exact .inr e
 intro p s k0 hk hi
 obtain ⟨j,rfl⟩:∃j,k0=j+1:=⟨k0 - 1,by omega⟩
 obtain ⟨x0,hx0,_⟩:=id hi
 obtain ⟨a0,b0,c0,ht0,hcase⟩:=uN.1 hx0
 have hb0:=hbd ht0
 have ht1:=yP ht0
 have hb1:=hbd ht1
 have ht2:=yP ht1
 have hb2:=hbd ht2
 rcases Int.lt_or_le p n with hp | hp
 ·-- an old zT
  have hold:∀q r,nxR (stepT m t) p q r→∃b c,(p,b,c)∈wL t∧q=m p b∧r=m p c:=fun q r hq=>by
   obtain ⟨a,b,c,ht,hcase⟩:=uN.1 hq
   have l1:=hlow (hbd ht).2.2
   have l2:=hlow (hbd (yP ht)).2.2
   have l3:=hlow (hbd (yP (yP ht))).2.2
   rcases hcase with ⟨rfl,rfl,rfl⟩ | ⟨e,_⟩ | ⟨e,_⟩ | ⟨e,_⟩
   ·exact ⟨b,c,ht,rfl,hm.sym c p⟩
   all_goals omega
  have hlift:∀(k:Nat) (q r:Int),1≤k→itR (nxR (stepT m t) p) k q r→∃b c,(p,b)∈dirE t∧(p,c)∈dirE t∧q=m p b∧r=m p c∧itR (nxR t p) k b c:=by
   intro k
   induction k with
   | zero=>intro q r h;omega
   | succ k ih=>
    intro q r _ ⟨x,hx,hr⟩
    obtain ⟨b,c,ht,rfl,rfl⟩:=hold _ _ hx
    have e1:=(hbd ht).2.2
    have e2:=hsw (hbd (yP (yP ht))).2.2
    rcases Nat.eq_zero_or_pos k with rfl | hk
    ·have hr:m p c=r:=hr
     exact ⟨b,c,e1,e2,rfl,hr.symm,c,ht,rfl⟩
    ·obtain ⟨b',c',f1,f2,g1,g2,g3⟩:=ih _ _ hk hr
     have hcb:c=b':=by
      rcases hinj e2 f1 g1 with e | e
      ·exact e.2
      ·have:=h.ne f1
       simp only at this
       omega
     subst hcb
     exact ⟨b,c',e1,f2,rfl,g2,c,ht,g3⟩
  obtain ⟨b,c,e1,e2,rfl,g2,g3⟩:=hlift _ _ _ hk hi
  have hbc:b=c:=by
   rcases hinj e1 e2 g2 with e | e
   ·exact e.2
   ·have:=h.ne e1
    simp only at this
    omega
  subst hbc
  rw [zDI fun e he=>by have:=(hm.low e he).1;omega]
  exact hc p b _ hk g3
 ·-- a new one
  obtain ⟨a,b,hab,rfl⟩:∃a b,(a,b)∈dirE t∧p=m a b:=by
   rcases hcase with ⟨rfl,_⟩ | ⟨rfl,_⟩ | ⟨rfl,_⟩ | ⟨rfl,_⟩
   ·omega
   ·exact ⟨_,_,hb0.2.2,rfl⟩
   ·exact ⟨_,_,hb2.2.2,rfl⟩
   ·exact ⟨_,_,hb0.2.2,rfl⟩
  obtain ⟨c,hc1⟩:=zBE hab
  obtain ⟨d,hd1⟩:=zBE (hsw hab)
  have hc2:=yP hc1
  have hc3:=yP hc2
  have hd2:=yP hd1
  have hd3:=yP hd2
  have ebc:=(hbd hc2).2.2
  have eca:=(hbd hc3).2.2
  have ead:=(hbd hd2).2.2
  have edb:=(hbd hd3).2.2
  have hne:c≠d:=fun e=>by
   subst e
   obtain ⟨x,hx,h1⟩:=yC.1 hc1
   obtain ⟨y,hy,h2⟩:=yC.1 hd1
   refine h.back x hx y hy ?_
   obtain ⟨x1,x2,x3⟩:=x
   obtain ⟨y1,y2,y3⟩:=y
   intro f hf
   obtain ⟨f1,f2⟩:=f
   simp only [de3,swE,List.mem_cons,List.not_mem_nil,or_false,Prod.mk.injEq] at hf h1 h2⊢
   omega
  have one:∀{u v w z:Int},(u,v,w)∈wL t→(u,v,z)∈wL t→w=z:=fun {u v w z} h1 h2=>by
   obtain ⟨x,hx,g1⟩:=yC.1 h1
   obtain ⟨y,hy,g2⟩:=yC.1 h2
   have e:x=y:=by
    refine h.same hx hy (e:=(u,v)) (yM.2 ?_) (yM.2 ?_)
    ·obtain ⟨x1,x2,x3⟩:=x
     simp only [Prod.mk.injEq] at g1⊢
     omega
    ·obtain ⟨x1,x2,x3⟩:=y
     simp only [Prod.mk.injEq] at g2⊢
     omega
   subst e
   have hd:=h.dist x hx
   obtain ⟨x1,x2,x3⟩:=x
   simp only [Prod.mk.injEq] at g1 g2 hd
   omega
  have nab:a≠b:=(hbd hc1).2.1
  have nbc:b≠c:=(hbd hc2).2.1
  have nca:c≠a:=(hbd hc3).2.1
  have nad:a≠d:=(hbd hd2).2.1
  have ndb:d≠b:=(hbd hd3).2.1
  have la:=(hbd hc1).1
  have lb:=(hbd hc2).1
  have l1:=hlow ebc
  have l2:=hlow eca
  have l3:=hlow ead
  have l4:=hlow edb
  have d1:m b c≠m c a:=fun e=>by rcases hinj ebc eca e with e | e <;>omega
  have d2:m b c≠m a d:=fun e=>by rcases hinj ebc ead e with e | e <;>omega
  have d3:m b c≠m d b:=fun e=>by rcases hinj ebc edb e with e | e <;>omega
  have d4:m c a≠m a d:=fun e=>by rcases hinj eca ead e with e | e <;>omega
  have d5:m c a≠m d b:=fun e=>by rcases hinj eca edb e with e | e <;>omega
  have d6:m a d≠m d b:=fun e=>by rcases hinj ead edb e with e | e <;>omega
  have hR:∀q r,nxR (stepT m t) (m a b) q r→∃i,i < 6∧ [b,m b c,m c a,a,m a d,m d b][i]? =some q∧ [b,m b c,m c a,a,m a d,m d b][(i+1) % 6]? =some r:=fun q r hq=>by
   obtain ⟨a',b',c',ht,hcase⟩:=uN.1 hq
   have x1:=(hbd ht)
   have x3:=(hbd (yP (yP ht)))
   rcases hcase with ⟨e,_⟩ | ⟨e,rfl,rfl⟩ | ⟨e,rfl,rfl⟩ | ⟨e,rfl,rfl⟩
   ·have:=hlow hab
    omega
   ·rcases hinj hab x1.2.2 e with ⟨rfl,rfl⟩ | ⟨rfl,rfl⟩
    ·obtain rfl:=one hc1 ht
     exact ⟨2,by omega,rfl,rfl⟩
    ·obtain rfl:=one hd1 ht
     exact ⟨5,by omega,rfl,rfl⟩
   ·rcases hinj hab x3.2.2 e with ⟨rfl,rfl⟩ | ⟨rfl,rfl⟩
    ·obtain rfl:=one hc1 (yP (yP ht))
     exact ⟨0,by omega,rfl,rfl⟩
    ·obtain rfl:=one hd1 (yP (yP ht))
     exact ⟨3,by omega,rfl,rfl⟩
   ·rcases hinj hab x1.2.2 e with ⟨rfl,rfl⟩ | ⟨rfl,rfl⟩
    ·obtain rfl:=one hc1 ht
     exact ⟨1,by omega,rfl,rfl⟩
    ·obtain rfl:=one hd1 ht
     exact ⟨4,by omega,rfl,rfl⟩
  have hnd: [b,m b c,m c a,a,m a d,m d b].Nodup:=by
   simp only [List.nodup_cons,List.mem_cons,List.not_mem_nil,or_false,not_or,List.nodup_nil,not_false_eq_true,and_true]
   refine ⟨⟨?_,?_,?_,?_,?_⟩,⟨?_,?_,?_,?_⟩,⟨?_,?_,?_⟩,⟨?_,?_⟩,?_⟩ <;>first | assumption | omega
  obtain ⟨i,hi6,g1,g2⟩:=zFP rfl hnd hR _ _ _ hk hi
  have hmod:i=(i+(j+1)) % 6:=by
   obtain ⟨l1,g1⟩:=List.getElem?_eq_some_iff.1 g1
   obtain ⟨l2,g2⟩:=List.getElem?_eq_some_iff.1 g2
   exact (List.getElem_inj hnd).1 (g1.trans g2.symm)
  have h6:6≤j+1:=by omega
  have hcnt:(yL (stepT m t)).count (m a b)=3*((dirE t).filter fun e=>decide (m e.1 e.2=m a b)).length:=zC9 fun x hx=>by
   have:=h.idx x hx
   have:=hlow hab
   omega
  have h2:((dirE t).filter fun e=>decide (m e.1 e.2=m a b)).length≤2:=zNJ (u:=(a,b)) (v:=swE (a,b)) (h.nodup.filter _) fun e he=>by
   obtain ⟨h1,h2⟩:=List.mem_filter.1 he
   exact hm.inj e h1 (a,b) hab (of_decide_eq_true h2)
  omega
end Go.Proofs.YtmemofonebphfaaGreat
namespace Go.Proofs.YtmemofonebphfaaGreat
open Go.RowKit Go.Sort
def wM (t:List Pt) (cr:List E2):Bool:=cr.any fun e=> !(zH t).contains (nrmE e.1 e.2)
def qA (c:Ctl):Bool:=outE c.points.length (yL c.tris) || outE c.points.length (c.creases.flatMap fun e=> [e.1,e.2]) || outE c.points.length c.corners
def bZ (c:Ctl):Bool:=jQ c.details c.steps.toNat (3*c.tris.length / 2) || decide (65536 < 4^c.steps.toNat*c.tris.length)
def farC (c:Ctl):Bool:=outR 0 (2097151 / 16^c.steps.toNat) c.points || c.details.any (outR (-2097151) 2097151)
def argC (c:Ctl):Bool:=decide (c.steps < 0) || decide (4 < c.steps) || decide (c.steps < c.details.length)
def errC (c:Ctl):Int:=
 if argC c=true then 1 else if qA c=true then 14 else if yN (c.tris.map numT) false≠0 then yN (c.tris.map numT) false
 else if wM c.tris c.creases=true then 13 else if bZ c=true then 2 else if farC c=true then 3 else 0
theorem jR {n:Nat} {l:List Int} (h:outE n l=false):∀i∈l,0≤i∧i < n:=fun i hi=>by
 have:=List.any_eq_false.1 h i hi
 simp at this
 omega
theorem zMQ {lo hi:Int} {l:List Pt} (h:outR lo hi l=false):∀p∈l,(lo≤p.1∧p.1≤hi)∧(lo≤p.2.1∧p.2.1≤hi)∧lo≤p.2.2∧p.2.2≤hi:=fun p hp=>by
 have:=List.any_eq_false.1 h p hp
 simp at this
 omega
theorem qL (t:List Pt):(zH t).Pairwise (fun a b=>leO ltE2 a b=true):=gI.sorted _
structure zDU (c:Ctl):Prop where
 st:0≤c.steps∧c.steps≤4
 det:(c.details.length:Int)≤c.steps
 idx:∀x∈c.tris,(0≤x.1∧x.1 < (c.points.length:Int))∧(0≤x.2.1∧x.2.1 < (c.points.length:Int))∧0≤x.2.2∧x.2.2 < (c.points.length:Int)
 cor:∀i∈c.corners,0≤i∧i < (c.points.length:Int)
 chk:yN (c.tris.map numT) false=0
 cre:∀e∈c.creases,nrmE e.1 e.2∈zH c.tris
 many:jQ c.details c.steps.toNat (3*c.tris.length / 2)=false
 tri:4^c.steps.toNat*c.tris.length≤65536
 rng:outR 0 (2097151 / 16^c.steps.toNat) c.points=false
 drng:∀d∈c.details,outR (-2097151) 2097151 d=false
theorem zAJ {t:List Pt} {cr:List E2}:wM t cr=false ↔∀e∈cr,nrmE e.1 e.2∈zH t:=by
 unfold wM
 rw [List.any_eq_false]
 refine forall_congr' fun e=>forall_congr' fun _=> ?_
 simp
theorem dR {c:Ctl}:errC c=0 ↔ argC c=false∧qA c=false∧yN (c.tris.map numT) false=0∧wM c.tris c.creases=false∧bZ c=false∧farC c=false:=by
 unfold errC
 by_cases h1:argC c=true
 ·rw [if_pos h1];simp [h1]
 rw [if_neg h1]
 by_cases h2:qA c=true
 ·rw [if_pos h2];simp [h2]
 rw [if_neg h2]
 by_cases h3:yN (c.tris.map numT) false=0
 ·rw [if_neg (fun h=>h h3)]
  by_cases h4:wM c.tris c.creases=true
  ·rw [if_pos h4];simp [h4]
  rw [if_neg h4]
  by_cases h5:bZ c=true
  ·rw [if_pos h5];simp [h5]
  rw [if_neg h5]
  by_cases h6:farC c=true
  ·rw [if_pos h6];simp [h6]
  rw [if_neg h6]
  simp only [Bool.not_eq_true] at h1 h2 h4 h5 h6
  simp [h1,h2,h3,h4,h5,h6]
 ·rw [if_pos h3];simp [h3]
theorem uY {c:Ctl} (h:errC c=0):zDU c:=by
 obtain ⟨h1,h2,h3,h4,h5,h6⟩:=dR.1 h
 unfold argC at h1
 unfold qA at h2
 unfold bZ at h5
 unfold farC at h6
 simp only [Bool.or_eq_false_iff,decide_eq_false_iff_not] at h1 h2 h5 h6
 have hi:=jR h2.1.1
 refine ⟨by omega,by omega,fun x hx=> ?_,jR h2.2,h3,zAJ.1 h4,h5.1,by omega,h6.1,fun d hd=>by simpa using List.any_eq_false.1 h6.2 d hd⟩
 have hm:∀i∈xK x,i∈yL c.tris:=fun i hi=>List.mem_flatMap.2 ⟨x,hx,hi⟩
 exact ⟨hi _ (hm _ (by simp [xK])),hi _ (hm _ (by simp [xK])),hi _ (hm _ (by simp [xK]))⟩
def xE (t:List Pt):Prop:=∀x∈t,∀y∈t,¬∀e∈de3 x,swE e∈de3 y
structure LvR (L:Lev):Prop where
 cls:Cls3 L.t L.p.length
 calm:zJ4 L.t
 crE:∀e∈L.cr,e∈zH L.t
 crS:L.cr.Pairwise (fun a b=>leO ltE2 a b=true)
 crN:L.cr.Nodup
theorem dI {l:List E2} {e:E2}:e∈setE l ↔∃f∈l,e=nrmE f.1 f.2:=by
 unfold setE
 rw [uM,vZ,List.mem_map]
 exact exists_congr fun f=>and_congr_right fun _=>eq_comm
theorem kJ (l:List E2):(setE l).Pairwise (fun a b=>leO ltE2 a b=true):=gI.sorted _
theorem zBK (l:List E2):(setE l).Nodup:=(y7 _).nodup_iff.2 (wS _)
theorem zDU.lev {c:Ctl} (h:zDU c) (hb:xE c.tris):LvR c.begin where
 cls:=by
  have e:c.begin.p.length=c.points.length:=List.length_map _
  rw [e]
  exact zCW h.chk h.idx hb
 calm:=(vW.1 h.chk).2.2.2
 crE e he:=by
  obtain ⟨f,hf,rfl⟩:=dI.1 he
  exact h.cre f hf
 crS:=kJ _
 crN:=zBK _
theorem zDJ (m:Int→Int→Int) (t:List Pt):(stepT m t).length=4*t.length:=by
 unfold stepT
 induction t with
 | nil=>rfl
 | cons x t ih=>rw [List.flatMap_cons,List.length_append,ih,List.length_cons];show 4+_=_;omega
theorem fF (a d:List Pt) (n:Int):(detE a d n).length=a.length:=List.length_mapIdx
theorem kZ (L:Lev) (co:List Int):(L.rules co).length=(zH L.t).length:=List.length_map _
theorem LvR.step {L:Lev} (h:LvR L) {added:List Pt} (ha:added.length=(zH L.t).length):LvR (L.step added):=by
 have hm:=h.cls.mid
 have el:((L.step added).p.length:Int)=L.p.length+(zH L.t).length:=by
  show ((L.p++added).length:Int)=_
  rw [List.length_append,ha]
  omega
 refine ⟨?_,h.cls.calm_step hm h.calm,fun e he=> ?_,kJ _,zBK _⟩
 ·rw [el];exact h.cls.step hm
 ·obtain ⟨f,hf,rfl⟩:=dI.1 he
  obtain ⟨g,hg,hf⟩:=List.mem_flatMap.1 hf
  obtain ⟨hd,hlt⟩:=zZ.1 (h.crE g hg)
  obtain ⟨a,b⟩:=g
  have hds:=h.cls.clos _ hd
  have l1:=hm.low _ hd
  have hi:a < L.p.length∧b < L.p.length:=by
   obtain ⟨x,hx,hx2⟩:=zX.1 hd
   have:=h.cls.idx x hx
   obtain ⟨x1,x2,x3⟩:=x
   simp only [yM,Prod.mk.injEq] at hx2
   dsimp only at this
   omega
  simp only at hf l1
  rw [List.mem_cons,List.mem_singleton] at hf
  have key:∀u v:Int,(u,v)∈dirE L.t→u < L.p.length→(L.p.length:Int)≤midE L.t L.p.length u v→nrmE u (midE L.t L.p.length u v)∈zH (stepT (midE L.t L.p.length) L.t):=fun u v huv hu hl=>by
   rw [qB (by omega)]
   obtain ⟨x,hx,hx2⟩:=zX.1 huv
   exact zZ.2 ⟨gU.2 ⟨x,hx, .inl (qO.2 ⟨_,hx2, .inl rfl⟩)⟩,by show u < _;omega⟩
  rcases hf with rfl | rfl
  ·exact key a b hd hi.1 l1.1
  ·have hs:=hm.sym a b
   show nrmE b (midE L.t L.p.length a b)∈_
   rw [hs]
   exact key b a hds hi.2 (by rw [←hs];exact l1.1)
theorem Ctl.level_right {c:Ctl} (h:zDU c) (hb:xE c.tris):∀k,LvR (c.level k)
 | 0=>h.lev hb
 | k+1=>(Ctl.level_right h hb k).step (by rw [fF,kZ])
theorem Ctl.level_t (c:Ctl):∀k,(c.level k).t.length=4^k*c.tris.length
 | 0=>by simp [Ctl.level,Ctl.begin]
 | k+1=>by
  show (stepT _ _).length=_
  rw [zDJ,Ctl.level_t c k,Nat.pow_succ,←Nat.mul_assoc,Nat.mul_comm 4]
theorem Ctl.level_p (c:Ctl) (k:Nat):(c.level (k+1)).p.length=(c.level k).p.length+(zH (c.level k).t).length:=by
 show ((c.level k).p++detE _ _ _).length=_
 rw [List.length_append,fF,kZ]
end Go.Proofs.YtmemofonebphfaaGreat
namespace Go.Proofs.YtmemofonebphfaaGreat
open Go.RowKit Go.Sort
set_option maxRecDepth 100000 in
set_option maxHeartbeats 8000000 in
theorem uX (a b c d:Pt) (w:World):Calls Tryz.prog 121 #[vP a,vP b,vP c,vP d] w fun e w'=>∃v,e= .returned v∧Own encT 9 46 w' w.heap.size v 2 (yT a b c d)∧Below w.heap.size w w':=by
 obtain ⟨a1,a2,a3⟩:=a
 obtain ⟨b1,b2,b3⟩:=b
 obtain ⟨c1,c2,c3⟩:=c
 obtain ⟨d1,d2,d3⟩:=d
 go_enter Tryz.func121,Tryz.ntmps121
 go_wp2
 go_ret
 refine ⟨.slice (some ⟨w.heap.size+1+1+1+1,0,none⟩) 2 2,rfl,kY zW 46 (yT (a1,a2,a3) (b1,b2,b3) (c1,c2,c3) (d1,d2,d3)) (by simp) (by omega) (show 2≤4294967296 by omega),?_⟩
 exact Below.alloc (Below.alloc (Below.alloc (Below.alloc (Below.alloc (Below.refl _ w) lr9 _) (by simp) _) (by simp;omega) _) (by simp;omega) _) (by simp;omega) _
end Go.Proofs.YtmemofonebphfaaGreat
namespace Go.Proofs.YtmemofonebphfaaGreat
open Go.RowKit Go.Sort
def yH (e:E2):List Value:= [.int .i64 e.1, .int .i64 e.2]
theorem zU (e:E2):(yH e).length=2:=rfl
theorem yO (e:E2):∀u∈yH e,u.oneCell'=true:=by
 intro u hu
 simp only [yH,List.mem_cons,List.not_mem_nil,or_false] at hu
 rcases hu with rfl | rfl <;>rfl
abbrev vE2 (e:E2):Value:= .agg #[.int .i64 e.1, .int .i64 e.2]
def yB (p:Pt) (n:Int):Pt:=(wrap64 (n*p.1),wrap64 (n*p.2.1),wrap64 (n*p.2.2))
def addP (p q:Pt):Pt:=(wrap64 (p.1+q.1),wrap64 (p.2.1+q.2.1),wrap64 (p.2.2+q.2.2))
set_option maxRecDepth 100000 in
theorem times_any (p:Pt) (n:Int) (w:World):Calls Tryz.prog 64 #[vP p, .int .i64 n] w fun e w'=>e= .returned (vP (yB p n))∧Below w.heap.size w w':=by
 obtain ⟨p1,p2,p3⟩:=p
 go_enter Tryz.func64,Tryz.ntmps64
 go_upto_region 1 with fail
 obtain ⟨g0,hg0⟩:=ex9 (w.heap.size)
 obtain ⟨g1,hg1⟩:=ex9 (w.heap.size+1)
 obtain ⟨X,hX⟩:=ex9 (((w.alloc (.cells #[.int .i64 p1, .int .i64 p2, .int .i64 p3] 43)).alloc (.cells #[.int .i64 0, .int .i64 0, .int .i64 0] 43)))
 have hb0:Blk X g0 43 #[.int .i64 p1, .int .i64 p2, .int .i64 p3]:=by rw [hX,hg0];exact ((Blk.new _ _ _).alloc _)
 have hb1:Blk X g1 43 #[.int .i64 0, .int .i64 0, .int .i64 0]:=by rw [hX,hg1];exact (Blk.new' _ _ _ _ (by simp))
 have hB:Below w.heap.size w X:=by rw [hX];exact (((Below.refl _ w).alloc lr9 _).alloc (by simp;try omega) _)
 have hgw:w.heap.size≤g1:=by omega
 rw [←hX,←hg1,←hg0]
 have c00:X.cell? ⟨g0,0,none⟩=some (.int .i64 p1):=hb0.cell 0
 have c01:X.cell? ⟨g0,1,none⟩=some (.int .i64 p2):=hb0.cell 1
 have c02:X.cell? ⟨g0,2,none⟩=some (.int .i64 p3):=hb0.cell 2
 have c10:X.cell? ⟨g1,0,none⟩=some (.int .i64 0):=hb1.cell 0
 have c11:X.cell? ⟨g1,1,none⟩=some (.int .i64 0):=hb1.cell 1
 have c12:X.cell? ⟨g1,2,none⟩=some (.int .i64 0):=hb1.cell 2
 have l0:=hb0.lt
 have l1:=hb1.lt
 have f0:=hb1.frozen 0
 have f1:=hb1.frozen 1
 have f2:=hb1.frozen 2
 have HX:=hide (ai9 hb1 (ai9 hB hgw))
 clear hX hB hgw hg0 hg1 hb0 hb1
 go_wp2
 refine yX (v:=vP (yB (p1,p2,p3) n)) (fun W=>Blk W g1 43 #[.int .i64 (wrap64 (n*p1)), .int .i64 (wrap64 (n*p2)), .int .i64 (wrap64 (n*p3))]) ?_ (fun W hW=> ?_) rfl ⟨rfl,?_⟩
 ·exact HX.o.1.set3 _ _ _
 ·obtain ⟨a0,a1,a2⟩:=hW.three
  simp [results,Tryz.results64,go_sem,a0,a1,a2]
  trivial
 ·exact ((HX.o.2.1.setCell (p:=⟨g1,0,none⟩) HX.o.2.2 _).setCell (p:=⟨g1,1,none⟩) HX.o.2.2 _).setCell (p:=⟨g1,2,none⟩) HX.o.2.2 _
set_option maxRecDepth 100000 in
theorem qH (p q:Pt) (w:World):Calls Tryz.prog 22 #[vP p,vP q] w fun e w'=>e= .returned (vP (addP p q))∧Below w.heap.size w w':=by
 obtain ⟨p1,p2,p3⟩:=p
 obtain ⟨q1,q2,q3⟩:=q
 go_enter Tryz.func22,Tryz.ntmps22
 go_upto_region 1 with fail
 obtain ⟨g0,hg0⟩:=ex9 (w.heap.size)
 obtain ⟨g1,hg1⟩:=ex9 (w.heap.size+1)
 obtain ⟨g2,hg2⟩:=ex9 (w.heap.size+1+1)
 obtain ⟨X,hX⟩:=ex9 ((((w.alloc (.cells #[.int .i64 p1, .int .i64 p2, .int .i64 p3] 43)).alloc (.cells #[.int .i64 q1, .int .i64 q2, .int .i64 q3] 43)).alloc (.cells #[.int .i64 0, .int .i64 0, .int .i64 0] 43)))
 have hb0:Blk X g0 43 #[.int .i64 p1, .int .i64 p2, .int .i64 p3]:=by rw [hX,hg0];exact (((Blk.new _ _ _).alloc _).alloc _)
 have hb1:Blk X g1 43 #[.int .i64 q1, .int .i64 q2, .int .i64 q3]:=by rw [hX,hg1];exact ((Blk.new' _ _ _ _ (by simp)).alloc _)
 have hb2:Blk X g2 43 #[.int .i64 0, .int .i64 0, .int .i64 0]:=by rw [hX,hg2];exact (Blk.new' _ _ _ _ (by simp))
 have hB:Below w.heap.size w X:=by rw [hX];exact ((((Below.refl _ w).alloc lr9 _).alloc (by simp;try omega) _).alloc (by simp;try omega) _)
 have hgw:w.heap.size≤g2:=by omega
 rw [←hX,←hg2,←hg1,←hg0]
 have c00:X.cell? ⟨g0,0,none⟩=some (.int .i64 p1):=hb0.cell 0
 have c01:X.cell? ⟨g0,1,none⟩=some (.int .i64 p2):=hb0.cell 1
 have c02:X.cell? ⟨g0,2,none⟩=some (.int .i64 p3):=hb0.cell 2
 have c10:X.cell? ⟨g1,0,none⟩=some (.int .i64 q1):=hb1.cell 0
 have c11:X.cell? ⟨g1,1,none⟩=some (.int .i64 q2):=hb1.cell 1
 have c12:X.cell? ⟨g1,2,none⟩=some (.int .i64 q3):=hb1.cell 2
 have c20:X.cell? ⟨g2,0,none⟩=some (.int .i64 0):=hb2.cell 0
 have c21:X.cell? ⟨g2,1,none⟩=some (.int .i64 0):=hb2.cell 1
 have c22:X.cell? ⟨g2,2,none⟩=some (.int .i64 0):=hb2.cell 2
 have l0:=hb0.lt
 have l1:=hb1.lt
 have l2:=hb2.lt
 have f0:=hb2.frozen 0
 have f1:=hb2.frozen 1
 have f2:=hb2.frozen 2
 have HX:=hide (ai9 hb2 (ai9 hB hgw))
 clear hX hB hgw hg0 hg1 hg2 hb0 hb1 hb2
 go_wp2
 refine yX (v:=vP (addP (p1,p2,p3) (q1,q2,q3))) (fun W=>Blk W g2 43 #[.int .i64 (wrap64 (p1+q1)), .int .i64 (wrap64 (p2+q2)), .int .i64 (wrap64 (p3+q3))]) ?_ (fun W hW=> ?_) rfl ⟨rfl,?_⟩
 ·exact HX.o.1.set3 _ _ _
 ·obtain ⟨a0,a1,a2⟩:=hW.three
  simp [results,Tryz.results22,go_sem,a0,a1,a2]
  trivial
 ·exact ((HX.o.2.1.setCell (p:=⟨g2,0,none⟩) HX.o.2.2 _).setCell (p:=⟨g2,1,none⟩) HX.o.2.2 _).setCell (p:=⟨g2,2,none⟩) HX.o.2.2 _
set_option maxRecDepth 100000 in
theorem uG (n:Nat) (hn:n≤4) (w:World):Calls Tryz.prog 39 #[.int .i64 n] w fun e w'=>e= .returned (.int .i64 (16^n))∧w'=w:=by
 go_enter Tryz.func39,Tryz.ntmps39
 have hc:n=0∨n=1∨n=2∨n=3∨n=4:=by omega
 rcases hc with rfl | rfl | rfl | rfl | rfl
 all_goals
  go_wp2
  go_ret
  exact ⟨rfl,rfl⟩
set_option maxRecDepth 100000 in
theorem zBL (a b:E2) (w:World):Calls Tryz.prog 82 #[vE2 a,vE2 b] w fun e w'=>e= .returned (.bool (ltE2 a b))∧Below w.heap.size w w':=by
 obtain ⟨a1,a2⟩:=a
 obtain ⟨b1,b2⟩:=b
 have hr:ltE2 (a1,a2) (b1,b2)=(decide (a1 < b1) || (decide (a1=b1) && decide (a2 < b2))):=rfl
 rw [hr]
 clear hr
 go_enter Tryz.func82,Tryz.ntmps82
 go_upto_region 1 with fail
 have hB:Below w.heap.size w ((w.alloc (.cells #[.int .i64 a1, .int .i64 a2] 56)).alloc (.cells #[.int .i64 b1, .int .i64 b2] 56)):=((Below.refl _ w).alloc lr9 _).alloc (by simp) _
 have HB:=hide hB
 clear hB
 by_cases h1:a1 < b1
 ·go_wp2
  go_ret
  exact ⟨by simp [h1],HB.o⟩
 ·by_cases h2:a1=b1
  ·subst h2
   go_wp2
   go_ret
   exact ⟨by simp,HB.o⟩
  ·go_wp2
   go_ret
   exact ⟨by simp [h1],HB.o⟩
end Go.Proofs.YtmemofonebphfaaGreat
namespace Go.Proofs.YtmemofonebphfaaGreat
open Go.RowKit Go.Sort
def yF (p:Pt):List Value:= [.int .i64 p.1, .int .i64 p.2.1, .int .i64 p.2.2]
theorem zS (p:Pt):(yF p).length=3:=rfl
theorem vX (p:Pt):∀u∈yF p,u.oneCell'=true:=by
 intro u hu
 simp only [yF,List.mem_cons,List.not_mem_nil,or_false] at hu
 rcases hu with rfl | rfl | rfl <;>rfl
theorem Sl.n3 {w:World} {B:Nat} {A:Option Addr} {t:List Pt} (h:Sl yF 3 w B A t) {i:Nat} {x:Pt} (hx:t[i]? =some x):
  ∃b o,A=some ⟨b,o,none⟩∧b < B∧w.cell? ⟨b,o+i*3,none⟩=some (.int .i64 x.1)∧w.cell? ⟨b,o+i*3+1,none⟩=some (.int .i64 x.2.1)∧w.cell? ⟨b,o+i*3+2,none⟩=some (.int .i64 x.2.2):=by
 obtain ⟨b,o,hA,hb,hc⟩:=h.at hx
 exact ⟨b,o,hA,hb,hc 0 _ rfl,hc 1 _ rfl,hc 2 _ rfl⟩
theorem zBV {t:List Pt} {a b c:Int} {i:Nat} {x:Pt} (hb:∀k y,k < i→t[k]? =some y→thr3 y a b=none) (hx:t[i]? =some x) (hc:thr3 x a b=some c):zV t a b=c:=by
 unfold zV
 have:t.findSome? (fun x=>thr3 x a b)=some c:=by
  rw [List.findSome?_eq_some_iff]
  obtain ⟨hi,e⟩:=List.getElem?_eq_some_iff.1 hx
  refine ⟨t.take i,x,t.drop (i+1),?_,hc,fun y hy=> ?_⟩
  ·rw [←e,←List.drop_eq_getElem_cons hi,List.take_append_drop]
  ·obtain ⟨k,hk⟩:=List.mem_iff_getElem?.1 hy
   rw [List.getElem?_take] at hk
   split at hk
   ·rename_i hlt
    exact hb k y hlt hk
   ·cases hk
 rw [this]
 rfl
theorem zKV {t:List Pt} {a b:Int} (hb:∀k y,k < t.length→t[k]? =some y→thr3 y a b=none):zV t a b= -1:=by
 unfold zV
 have:t.findSome? (fun x=>thr3 x a b)=none:=by
  rw [List.findSome?_eq_none_iff]
  intro y hy
  obtain ⟨k,hk⟩:=List.mem_iff_getElem?.1 hy
  exact hb k y (List.getElem?_eq_some_iff.1 hk).1 hk
 rw [this]
 rfl
def NoE (x:Pt) (a b:Int) (j:Nat):Prop:=(0 < j→¬(x.1=a∧x.2.1=b))∧(1 < j→¬(x.2.1=a∧x.2.2=b))∧(2 < j→¬(x.2.2=a∧x.1=b))
theorem NoE.all {x:Pt} {a b:Int} (h:NoE x a b 3):thr3 x a b=none:=by
 unfold thr3
 rw [if_neg (h.1 (by omega)),if_neg (h.2.1 (by omega)),if_neg (h.2.2 (by omega))]
set_option maxRecDepth 100000 in
set_option maxHeartbeats 16000000 in
theorem zHR (A:Option Addr) (c:Nat) (t:List Pt) (a b:Int) (w:World) (hs:Sl yF 3 w w.heap.size A t) (hl:t.length≤100000000):
  Calls Tryz.prog 120 #[.slice A t.length c, .int .i64 a, .int .i64 b] w fun e w'=>e= .returned (.int .i64 (zV t a b))∧w'=w:=by
 obtain ⟨R,hR⟩:=ex9 (zV t a b)
 obtain ⟨N,hN⟩:=ex9 (t.length)
 rw [←hR]
 rw [←hN] at hl⊢
 have HS:=hide (ai9 hs (ai9 hR hN))
 clear hs hR hN
 go_enter Tryz.func120,Tryz.ntmps120
 go_upto_region 2 with fail
 go_loopw [7] (fun iv wr=>∃i:Nat,i≤N∧iv= .int .i64 i∧wr=w∧∀k y,k < i→t[k]? =some y→thr3 y a b=none) (fun iv _=>N - (intOf iv).toNat)
 case atStart=>exact ⟨0,by omega,rfl,rfl,fun k y hk=>absurd hk (by omega)⟩
 case round=>
  obtain ⟨i,hi,rfl,rfl,hno⟩:=hrel
  by_cases hlt:i < N
  ·have i1:(i:Int) < (N:Int):=by omega
   obtain ⟨x,hx⟩:∃x,t[i]? =some x:=⟨_,List.getElem?_eq_getElem (by rw [←HS.o.2.2];exact hlt)⟩
   obtain ⟨bb,o,hA,hbb,c0,c1,c2⟩:=HS.o.1.n3 hx
   subst hA
   obtain ⟨x1,x2,x3⟩:=x
   simp only at c0 c1 c2
   have HX:=hide (ai9 hx hno)
   clear hx hno
   go_upto_region 5 with fail
   go_loopw [8] (fun jv wz=>∃j:Nat,j≤3∧jv= .int .i64 j∧wz=wr∧NoE (x1,x2,x3) a b j) (fun jv _=>3 - (intOf jv).toNat)
   case atStart=>exact ⟨0,by omega,rfl,rfl,⟨fun h=>absurd h (by omega),fun h=>absurd h (by omega),fun h=>absurd h (by omega)⟩⟩
   case round=>
    obtain ⟨j,hj,rfl,hw,hn⟩:=hrel
    subst hw
    have HN:=hide hn
    clear hn
    have a1:IntKind.i64.wrap 1=1:=by decide
    have a2:IntKind.i64.wrap 2=2:=by decide
    have a3:IntKind.i64.wrap 3=3:=by decide
    have a4:IntKind.i64.wrap 4=4:=by decide
    have hc:j=0∨j=1∨j=2∨j=3:=by omega
    rcases hc with rfl | rfl | rfl | rfl
    ·by_cases h1:x1=a
     ·by_cases h2:x2=b
      ·have hr:R=x3:=by
        rw [HS.o.2.1]
        refine zBV HX.o.2 HX.o.1 ?_
        unfold thr3
        rw [if_pos ⟨h1,h2⟩]
       have HR:=hide hr
       subst h1 h2
       clear hr
       go_wp2
       go_ret
       exact ⟨by rw [HR.o];rfl,rfl⟩
      ·have HE:=hide (show¬(x1=a∧x2=b) from fun h=>h2 h.2)
       have d2:decide (x2=b)=false:=decide_eq_false h2
       subst h1
       go_wp2
       go_roundw
       case rel=>exact ⟨1,by omega,by go_num,by trivial,⟨fun _ h=>HE.o (by exact h),fun h=>absurd h (by omega),fun h=>absurd h (by omega)⟩⟩
       case measure=>(simp [intOf];try omega)
     ·have HE:=hide (show¬(x1=a∧x2=b) from fun h=>h1 h.1)
      go_wp2
      go_roundw
      case rel=>exact ⟨1,by omega,by go_num,by trivial,⟨fun _ h=>HE.o (by exact h),fun h=>absurd h (by omega),fun h=>absurd h (by omega)⟩⟩
      case measure=>(simp [intOf];try omega)
    ·by_cases h1:x2=a
     ·by_cases h2:x3=b
      ·have hr:R=x1:=by
        rw [HS.o.2.1]
        refine zBV HX.o.2 HX.o.1 ?_
        unfold thr3
        rw [if_neg (HN.o.1 (by omega))];rw [if_pos ⟨h1,h2⟩]
       have HR:=hide hr
       subst h1 h2
       clear hr
       go_wp2
       go_ret
       exact ⟨by rw [HR.o];rfl,rfl⟩
      ·have HE:=hide (show¬(x2=a∧x3=b) from fun h=>h2 h.2)
       have d2:decide (x3=b)=false:=decide_eq_false h2
       subst h1
       go_wp2
       go_roundw
       case rel=>exact ⟨2,by omega,by go_num,by trivial,⟨fun _=>HN.o.1 (by omega),fun _ h=>HE.o (by exact h),fun h=>absurd h (by omega)⟩⟩
       case measure=>(simp [intOf];try omega)
     ·have HE:=hide (show¬(x2=a∧x3=b) from fun h=>h1 h.1)
      go_wp2
      go_roundw
      case rel=>exact ⟨2,by omega,by go_num,by trivial,⟨fun _=>HN.o.1 (by omega),fun _ h=>HE.o (by exact h),fun h=>absurd h (by omega)⟩⟩
      case measure=>(simp [intOf];try omega)
    ·by_cases h1:x3=a
     ·by_cases h2:x1=b
      ·have hr:R=x2:=by
        rw [HS.o.2.1]
        refine zBV HX.o.2 HX.o.1 ?_
        unfold thr3
        rw [if_neg (HN.o.1 (by omega)),if_neg (HN.o.2.1 (by omega))];rw [if_pos ⟨h1,h2⟩]
       have HR:=hide hr
       subst h1 h2
       clear hr
       go_wp2
       go_ret
       exact ⟨by rw [HR.o];rfl,rfl⟩
      ·have HE:=hide (show¬(x3=a∧x1=b) from fun h=>h2 h.2)
       have d2:decide (x1=b)=false:=decide_eq_false h2
       subst h1
       go_wp2
       go_roundw
       case rel=>exact ⟨3,by omega,by go_num,by trivial,⟨fun _=>HN.o.1 (by omega),fun _=>HN.o.2.1 (by omega),fun _ h=>HE.o (by exact h)⟩⟩
       case measure=>(simp [intOf];try omega)
     ·have HE:=hide (show¬(x3=a∧x1=b) from fun h=>h1 h.1)
      go_wp2
      go_roundw
      case rel=>exact ⟨3,by omega,by go_num,by trivial,⟨fun _=>HN.o.1 (by omega),fun _=>HN.o.2.1 (by omega),fun _ h=>HE.o (by exact h)⟩⟩
      case measure=>(simp [intOf];try omega)
    ·go_wp2
     go_roundw
     case rel=>exact ⟨i+1,by omega,by go_num,by trivial,fun k y hk hy=>by
      rcases Nat.lt_or_ge k i with h | h
      ·exact HX.o.2 k y h hy
      ·have e:k=i:=by omega
       subst e
       rw [HX.o.1] at hy
       cases hy
       exact HN.o.all⟩
     case measure=>(simp [intOf];try omega)
  ·obtain rfl:i=N:=by omega
   have i1:¬(i:Int) < (i:Int):=by omega
   have hr:R= -1:=by rw [HS.o.2.1];exact zKV (by rw [←HS.o.2.2];exact hno)
   have HR:=hide hr
   clear hr hno
   go_wp2
   go_ret
   exact ⟨by rw [HR.o];rfl,rfl⟩
end Go.Proofs.YtmemofonebphfaaGreat
namespace Go.Proofs.YtmemofonebphfaaGreat
open Go.RowKit Go.Sort
def renT (f:Pt→Pt) (t:Tri):Tri:=(f t.1,f t.2.1,f t.2.2)
theorem dH (f:Pt→Pt) (l:List Tri):kT (l.map (renT f))=(kT l).map (renT f):=by
 unfold kT
 induction l with
 | nil=>rfl
 | cons x t ih=>rw [List.map_cons,List.flatMap_cons,ih,List.flatMap_cons,List.map_append];rfl
theorem fB (f:Pt→Pt) (l:List Tri):zK (l.map (renT f))=(zK l).map fun e=>(f e.1,f e.2):=by
 unfold zK
 induction l with
 | nil=>rfl
 | cons x t ih=>rw [List.map_cons,List.flatMap_cons,ih,List.flatMap_cons,List.map_append];rfl
theorem zLZ (f:Pt→Pt) (l:List Tri):vN (l.map (renT f))=(vN l).map f:=by
 unfold vN
 induction l with
 | nil=>rfl
 | cons x t ih=>rw [List.map_cons,List.flatMap_cons,ih,List.flatMap_cons,List.map_append];rfl
theorem qU {l:List Tri} {p q x:Pt} (h:(p,q,x)∈kT l):p∈vN l∧q∈vN l∧x∈vN l:=by
 have h2:=zFB h
 have h3:=zFB h2
 rw [zIJ]
 exact ⟨List.mem_map.2 ⟨_,h,rfl⟩,List.mem_map.2 ⟨_,h2,rfl⟩,List.mem_map.2 ⟨_,h3,rfl⟩⟩
theorem uT {l:List Tri} {e:Ed} (h:e∈zK l):e.1∈vN l∧e.2∈vN l:=by
 rw [wF] at h
 obtain ⟨⟨p,q,x⟩,h2,rfl⟩:=List.mem_map.1 h
 have:=qU h2
 exact ⟨this.1,this.2.1⟩
theorem bV {α β:Type} {f:α→β}:∀{l:List α},(∀a∈l,∀b∈l,f a=f b→a=b)→l.Nodup→(l.map f).Nodup
 | [],_,_=> .nil
 | x::l,h,hn=>by
  rw [List.nodup_cons] at hn
  rw [List.map_cons,List.nodup_cons]
  refine ⟨fun hm=> ?_,bV (fun a ha b hb=>h a (by simp [ha]) b (by simp [hb])) hn.2⟩
  obtain ⟨y,hy,e⟩:=List.mem_map.1 hm
  have:=h y (by simp [hy]) x (by simp) e
  subst this
  exact hn.1 hy
section
variable {l:List Tri} {f:Pt→Pt} (hf:∀p∈vN l,∀q∈vN l,f p=f q→p=q)
include hf
theorem zCV {d e:Ed} (hd:d∈zK l) (he:e∈zK l) (h:(f d.1,f d.2)=(f e.1,f e.2)):d=e:=by
 simp only [Prod.mk.injEq] at h
 have h1:=uT hd
 have h2:=uT he
 exact Prod.ext (hf _ h1.1 _ h2.1 h.1) (hf _ h1.2 _ h2.2 h.2)
theorem zC2:(zK (l.map (renT f))).Nodup ↔ (zK l).Nodup:=by
 rw [fB]
 exact ⟨jM,bV fun a ha b hb h=>zCV hf ha hb h⟩
theorem zLI:(l.map (renT f)).any qJ=l.any qJ:=by
 rw [zCR,zCR,dH,List.any_map,Bool.eq_iff_iff,List.any_eq_true,List.any_eq_true]
 refine exists_congr fun u=>and_congr_right fun hu=> ?_
 obtain ⟨p,q,x⟩:=u
 have:=qU hu
 show decide (f p=f q)=true ↔ decide (p=q)=true
 rw [decide_eq_true_eq,decide_eq_true_eq]
 exact ⟨fun h=>hf _ this.1 _ this.2.1 h,fun h=>by rw [h]⟩
theorem zGU:yV (l.map (renT f))= [] ↔ yV l= []:=by
 constructor
 ·intro h
  refine List.eq_nil_iff_forall_not_mem.2 fun E hE=> ?_
  obtain ⟨h1,h2⟩:=((xM l).2 E).1 hE
  have:=kQ h (f E.1,f E.2) (by rw [fB];exact List.mem_map.2 ⟨E,h1,rfl⟩)
  rw [fB] at this
  obtain ⟨d,hd,e⟩:=List.mem_map.1 this
  have c1:=uT h1
  have c2:=uT hd
  simp only [vK,Prod.mk.injEq] at e
  have:d=vK E:=Prod.ext (hf _ c2.1 _ c1.2 e.1) (hf _ c2.2 _ c1.1 e.2)
  exact h2 (this▸hd)
 ·intro h
  refine List.eq_nil_iff_forall_not_mem.2 fun E hE=> ?_
  obtain ⟨h1,h2⟩:=((xM _).2 E).1 hE
  rw [fB] at h1 h2
  obtain ⟨d,hd,rfl⟩:=List.mem_map.1 h1
  exact h2 (List.mem_map.2 ⟨vK d,kQ h _ hd,rfl⟩)
theorem zKM (hn:(zK l).Nodup) {p q:Pt} (hp:p∈vN l) (hq:q∈vN l):behP (l.map (renT f)) (f p) (f q)=(behP l p q).map f:=by
 have hn':=(zC2 hf).2 hn
 cases hb:behP l p q with
 | some x=>
  refine (fA hn').2 ?_
  rw [dH]
  exact List.mem_map.2 ⟨_,(fA hn).1 hb,rfl⟩
 | none=>
  cases hc:behP (l.map (renT f)) (f p) (f q) with
  | none=>rfl
  | some y=>
   have:=(fA hn').1 hc
   rw [dH] at this
   obtain ⟨⟨p',q',x'⟩,hm,e⟩:=List.mem_map.1 this
   simp only [renT,Prod.mk.injEq] at e
   have hk:=qU hm
   obtain rfl:=hf _ hk.1 _ hp e.1
   obtain rfl:=hf _ hk.2.1 _ hq e.2.1
   rw [(fA hn).2 hm] at hb
   cases hb
omit hf in
theorem zCI {p:Pt}:∀(k:Nat) (s y:Pt),s∈vN l→qC (behP l p) k s=some y→y∈vN l
 | 0,s,y,hs,h=>by unfold qC at h;cases h;exact hs
 | k+1,s,y,hs,h=>by
  unfold qC at h
  cases hb:behP l p s with
  | none=>rw [hb] at h;cases h
  | some x=>
   rw [hb] at h
   exact zCI k x y (qU (wY hb)).2.2 h
theorem zB7 (hn:(zK l).Nodup) {p:Pt} (hp:p∈vN l):∀(k:Nat) (s:Pt),s∈vN l→qC (behP (l.map (renT f)) (f p)) k (f s)=(qC (behP l p) k s).map f
 | 0,s,hs=>rfl
 | k+1,s,hs=>by
  unfold qC
  rw [zKM hf hn hp hs]
  cases hb:behP l p s with
  | none=>rfl
  | some x=>exact zB7 hn hp k x (qU (wY hb)).2.2
theorem zIW {p:Pt} (hp:p∈vN l):cntC (l.map (renT f)) (f p)=cntC l p:=by
 rw [wG,wG,zLZ]
 exact qM _ _ fun b hb e=>hf _ hb _ hp e
theorem zFG (hn:(zK l).Nodup):zIA (l.map (renT f)) ↔ zIA l:=by
 constructor
 ·intro h p s k hk hi
  obtain ⟨j,rfl⟩:∃j,k=j+1:=⟨k - 1,by omega⟩
  have h0:=hi
  unfold qC at h0
  cases hb:behP l p s with
  | none=>rw [hb] at h0;cases h0
  | some x=>
   have hc:=qU (wY hb)
   have:=h (f p) (f s) (j+1) hk (by rw [zB7 hf hn hc.1 _ _ hc.2.1,hi];rfl)
   rw [zIW hf hc.1] at this
   exact this
 ·intro h P S k hk hi
  obtain ⟨j,rfl⟩:∃j,k=j+1:=⟨k - 1,by omega⟩
  have h0:=hi
  unfold qC at h0
  cases hb:behP (l.map (renT f)) P S with
  | none=>rw [hb] at h0;cases h0
  | some X=>
   have hm:=wY hb
   rw [dH] at hm
   obtain ⟨⟨p,s,x⟩,hm2,e⟩:=List.mem_map.1 hm
   simp only [renT,Prod.mk.injEq] at e
   obtain ⟨rfl,rfl,_⟩:=e
   have hc:=qU hm2
   rw [zB7 hf hn hc.1 _ _ hc.2.1] at hi
   cases hi2:qC (behP l p) (j+1) s with
   | none=>rw [hi2] at hi;cases hi
   | some y=>
    rw [hi2] at hi
    have hy:=zCI (j+1) s y hc.2.1 hi2
    have:y=s:=hf _ hy _ hc.2.1 (Option.some.inj hi)
    subst this
    rw [zIW hf hc.1]
    exact h p y (j+1) hk hi2
theorem zIF:yN (l.map (renT f)) false=0 ↔ yN l false=0:=by
 rw [fQ,fQ,zLI hf,zC2 hf,zGU hf]
 constructor
 ·rintro ⟨h1,h2,h3,h4⟩;exact ⟨h1,h2,h3,(zFG hf h2).1 h4⟩
 ·rintro ⟨h1,h2,h3,h4⟩;exact ⟨h1,h2,h3,(zFG hf h2).2 h4⟩
end
end Go.Proofs.YtmemofonebphfaaGreat
namespace Go.Proofs.YtmemofonebphfaaGreat
open Go.RowKit Go.Sort
def zN2 (n f:Nat):List Tri:=kU (cor8 (voxC (0,0,0) 1 n) 1) f
def memE (e:Ed) (l:List Ed):Bool:=l.any fun x=>decide (x=e)
theorem zF8 {e:Ed} {l:List Ed}:memE e l=true ↔ e∈l:=by unfold memE;rw [List.any_eq_true];simp
theorem zLR {b:Nat→Bool} {o:Pt} {s:Int} {n f:Nat} (hn:n < 27) (hf:f < 6) (hb:b n=true) (ho:bF b n f=true) {t:Tri} (ht:t∈kU (cor8 (voxC o s n) s) f):t∈voxP b o s:=by
 unfold voxP voxL
 refine List.mem_flatMap.2 ⟨n,List.mem_range.2 hn,?_⟩
 unfold voxM
 rw [if_pos hb]
 exact List.mem_flatMap.2 ⟨f,List.mem_range.2 hf,by rw [if_pos ho];exact ht⟩
theorem zJV {o:Pt} {s:Int} {B:Int} (hs0:0≤s) (h1: -B≤o.1∧o.1+3*s≤B) (h2: -B≤o.2.1∧o.2.1+3*s≤B) (h3: -B≤o.2.2∧o.2.2+3*s≤B) {n:Nat} (hn:n < 27) {m:Nat} (hm:m < 8):
  (-B≤(cor8 (voxC o s n) s m).1∧(cor8 (voxC o s n) s m).1≤B)∧(-B≤(cor8 (voxC o s n) s m).2.1∧(cor8 (voxC o s n) s m).2.1≤B)∧(-B≤(cor8 (voxC o s n) s m).2.2∧(cor8 (voxC o s n) s m).2.2≤B):=by
 have key:∀(a:Int) (i j:Nat),i≤2→j≤1→ -B≤a→a+3*s≤B→ -B≤a+(i:Int)*s+(j:Int)*s∧a+(i:Int)*s+(j:Int)*s≤B:=fun a i j hi hj h1 h2=>by
  have h3:i=0∨i=1∨i=2:=by omega
  have h4:j=0∨j=1:=by omega
  rcases h3 with rfl | rfl | rfl <;>rcases h4 with rfl | rfl <;>constructor <;>simp <;>omega
 exact ⟨key _ _ _ (by omega) (by omega) h1.1 h1.2,key _ _ _ (by omega) (by omega) h2.1 h2.2,key _ _ _ (by omega) (by omega) h3.1 h3.2⟩
end Go.Proofs.YtmemofonebphfaaGreat
namespace Go.Proofs.YtmemofonebphfaaGreat
open Go.RowKit Go.Sort
def crn (p:Pt) (s:Int) (k i:Nat):Pt:=if i < k then cor8 p s i else (0,0,0)
def crnA (p:Pt) (s:Int) (k:Nat):Array Value:=([0,1,2,3,4,5,6,7].flatMap fun i=>encP (crn p s k i)).toArray
theorem zIC (p:Pt) (s:Int):crnA p s 0=#[.int .i64 0, .int .i64 0, .int .i64 0, .int .i64 0, .int .i64 0, .int .i64 0, .int .i64 0, .int .i64 0, .int .i64 0, .int .i64 0, .int .i64 0, .int .i64 0, .int .i64 0, .int .i64 0, .int .i64 0, .int .i64 0, .int .i64 0, .int .i64 0, .int .i64 0, .int .i64 0, .int .i64 0, .int .i64 0, .int .i64 0, .int .i64 0]:=rfl
def zMX (p:Pt) (s:Int):Prop:=(fits p.1∧fits (p.1+s))∧(fits p.2.1∧fits (p.2.1+s))∧(fits p.2.2∧fits (p.2.2+s))∧fits s
set_option maxRecDepth 100000 in
set_option maxHeartbeats 32000000 in
theorem zK7 (p:Pt) (s:Int) (w:World) (hr:zMX p s):Calls Tryz.prog 97 #[vP p, .int .i64 s] w fun e w'=>∃v,e= .returned v∧Own encT 9 46 w' w.heap.size v 12 (zGO (cor8 p s))∧Below w.heap.size w w':=by
 obtain ⟨x,y,z⟩:=p
 obtain ⟨⟨hx,hx1⟩,⟨hy,hy1⟩,⟨hz,hz1⟩,hs⟩:=hr
 dsimp only at hx hx1 hy hy1 hz hz1
 have x0:IntKind.i64.wrap x=x:=IntWalk.i64_in _ (by unfold fits at hx;omega)
 have x1:IntKind.i64.wrap (x+s)=x+s:=IntWalk.i64_in _ (by unfold fits at hx1;omega)
 have y0:IntKind.i64.wrap y=y:=IntWalk.i64_in _ (by unfold fits at hy;omega)
 have y1:IntKind.i64.wrap (y+s)=y+s:=IntWalk.i64_in _ (by unfold fits at hy1;omega)
 have z0:IntKind.i64.wrap z=z:=IntWalk.i64_in _ (by unfold fits at hz;omega)
 have z1:IntKind.i64.wrap (z+s)=z+s:=IntWalk.i64_in _ (by unfold fits at hz1;omega)
 have s0:IntKind.i64.wrap s=s:=IntWalk.i64_in _ (by unfold fits at hs;omega)
 have HW:=hide (ai9 x0 (ai9 x1 (ai9 y0 (ai9 y1 (ai9 z0 (ai9 z1 s0))))))
 clear x0 x1 y0 y1 z0 z1 s0 hx hx1 hy hy1 hz hz1 hs
 go_enter Tryz.func97,Tryz.ntmps97
 go_wp2_with fail
 obtain ⟨pb,hpb⟩:=ex9 (w.heap.size)
 obtain ⟨cb,hcb⟩:=ex9 (w.heap.size+1)
 rw [←hcb]
 obtain ⟨X,hX⟩:=ex9 ((w.alloc (.cells #[.int .i64 x, .int .i64 y, .int .i64 z] 43)).alloc (.cells (crnA (x,y,z) s 0) 165))
 have hX':=hX
 rw [zIC] at hX'
 rw [←hX',←hpb]
 have hbp:Blk X pb 43 #[.int .i64 x, .int .i64 y, .int .i64 z]:=by rw [hX,hpb];exact (Blk.new _ _ _).alloc _
 have hbc:Blk X cb 165 (crnA (x,y,z) s 0):=by rw [hX];exact Blk.new' _ _ _ _ (by rw [hcb];simp)
 have hBX:Below w.heap.size w X:=by rw [hX];exact ((Below.refl _ w).alloc lr9 _).alloc (by simp) _
 have HX:=hide (ai9 hbp (ai9 hbc (ai9 hBX (ai9 (show w.heap.size≤pb by omega) (ai9 (show w.heap.size≤cb by omega) (show pb≠cb by omega))))))
 clear hbp hbc hBX hX hX' hpb hcb
 go_loopw [6] (fun kv wr=>∃k:Nat,k≤8∧kv= .int .i64 k∧Blk wr pb 43 #[.int .i64 x, .int .i64 y, .int .i64 z]∧Blk wr cb 165 (crnA (x,y,z) s k)∧Below w.heap.size w wr) (fun kv _=>8 - (intOf kv).toNat)
 case atStart=>exact ⟨0,by omega,rfl,HX.o.1,HX.o.2.1,HX.o.2.2.1⟩
 case round=>
  obtain ⟨k,hk,rfl,hbp,hbc,hB⟩:=hrel
  obtain ⟨R,rfl⟩:=ex9 (wr)
  have hlp:=hbp.lt
  have hlc:=hbc.lt
  have p0:R.cell? ⟨pb,0,none⟩=some (.int .i64 x):=hbp.cell 0
  have p1:R.cell? ⟨pb,1,none⟩=some (.int .i64 y):=hbp.cell 1
  have p2:R.cell? ⟨pb,2,none⟩=some (.int .i64 z):=hbp.cell 2
  by_cases hk0:k=0
  ·subst hk0
   have i2:((0:Nat):Int) < 8:=by omega
   have f0:=hbc.frozen 0
   have c0:R.cell? ⟨cb,0,none⟩=some (.int .i64 0):=hbc.cell 0
   have f1:=hbc.frozen 1
   have c1:R.cell? ⟨cb,1,none⟩=some (.int .i64 0):=hbc.cell 1
   have f2:=hbc.frozen 2
   have c2:R.cell? ⟨cb,2,none⟩=some (.int .i64 0):=hbc.cell 2
   have HR:=hide (ai9 hbp (ai9 hbc hB))
   clear hbp hbc hB
   have ⟨x0,x1,y0,y1,z0,z1,s0⟩:=HW.o
   go_wp2
   go_roundw
   case rel=>
    refine ⟨1,by omega,by go_num,?_,?_,?_⟩
    ·exact HR.o.1.far3 (g':=cb) HX.o.2.2.2.2.2 _ _ _
    ·have h8:=((HR.o.2.1.set_ 0 (.int .i64 (x))).set_ 1 (.int .i64 (y))).set_ 2 (.int .i64 (z))
     rw [show (((crnA (x,y,z) s 0).setIfInBounds 0 (.int .i64 (x))).setIfInBounds 1 (.int .i64 (y))).setIfInBounds 2 (.int .i64 (z))=crnA (x,y,z) s 1 by simp [crnA,crn,cor8,encP]] at h8
     exact h8
    ·exact ((HR.o.2.2.setCell (p:=⟨cb,0,none⟩) HX.o.2.2.2.2.1 _).setCell (p:=⟨cb,1,none⟩) HX.o.2.2.2.2.1 _).setCell (p:=⟨cb,2,none⟩) HX.o.2.2.2.2.1 _
   case measure=>(simp [intOf];try omega)
  by_cases hk1:k=1
  ·subst hk1
   have i2:((1:Nat):Int) < 8:=by omega
   have f0:=hbc.frozen 3
   have c0:R.cell? ⟨cb,3,none⟩=some (.int .i64 0):=hbc.cell 3
   have f1:=hbc.frozen 4
   have c1:R.cell? ⟨cb,4,none⟩=some (.int .i64 0):=hbc.cell 4
   have f2:=hbc.frozen 5
   have c2:R.cell? ⟨cb,5,none⟩=some (.int .i64 0):=hbc.cell 5
   have HR:=hide (ai9 hbp (ai9 hbc hB))
   clear hbp hbc hB
   have ⟨x0,x1,y0,y1,z0,z1,s0⟩:=HW.o
   go_wp2
   go_roundw
   case rel=>
    refine ⟨2,by omega,by go_num,?_,?_,?_⟩
    ·exact ((HR.o.1.far (p:=⟨cb,3,none⟩) HX.o.2.2.2.2.2 _).far (p:=⟨cb,4,none⟩) HX.o.2.2.2.2.2 _).far (p:=⟨cb,5,none⟩) HX.o.2.2.2.2.2 _
    ·have h8:=((HR.o.2.1.set_ 3 (.int .i64 (x+s))).set_ 4 (.int .i64 (y))).set_ 5 (.int .i64 (z))
     rw [show (((crnA (x,y,z) s 1).setIfInBounds 3 (.int .i64 (x+s))).setIfInBounds 4 (.int .i64 (y))).setIfInBounds 5 (.int .i64 (z))=crnA (x,y,z) s 2 by simp [crnA,crn,cor8,encP]] at h8
     exact h8
    ·exact ((HR.o.2.2.setCell (p:=⟨cb,3,none⟩) HX.o.2.2.2.2.1 _).setCell (p:=⟨cb,4,none⟩) HX.o.2.2.2.2.1 _).setCell (p:=⟨cb,5,none⟩) HX.o.2.2.2.2.1 _
   case measure=>(simp [intOf];try omega)
  by_cases hk2:k=2
  ·subst hk2
   have i2:((2:Nat):Int) < 8:=by omega
   have f0:=hbc.frozen 6
   have c0:R.cell? ⟨cb,6,none⟩=some (.int .i64 0):=hbc.cell 6
   have f1:=hbc.frozen 7
   have c1:R.cell? ⟨cb,7,none⟩=some (.int .i64 0):=hbc.cell 7
   have f2:=hbc.frozen 8
   have c2:R.cell? ⟨cb,8,none⟩=some (.int .i64 0):=hbc.cell 8
   have HR:=hide (ai9 hbp (ai9 hbc hB))
   clear hbp hbc hB
   have ⟨x0,x1,y0,y1,z0,z1,s0⟩:=HW.o
   go_wp2
   go_roundw
   case rel=>
    refine ⟨3,by omega,by go_num,?_,?_,?_⟩
    ·exact ((HR.o.1.far (p:=⟨cb,6,none⟩) HX.o.2.2.2.2.2 _).far (p:=⟨cb,7,none⟩) HX.o.2.2.2.2.2 _).far (p:=⟨cb,8,none⟩) HX.o.2.2.2.2.2 _
    ·have h8:=((HR.o.2.1.set_ 6 (.int .i64 (x))).set_ 7 (.int .i64 (y+s))).set_ 8 (.int .i64 (z))
     rw [show (((crnA (x,y,z) s 2).setIfInBounds 6 (.int .i64 (x))).setIfInBounds 7 (.int .i64 (y+s))).setIfInBounds 8 (.int .i64 (z))=crnA (x,y,z) s 3 by simp [crnA,crn,cor8,encP]] at h8
     exact h8
    ·exact ((HR.o.2.2.setCell (p:=⟨cb,6,none⟩) HX.o.2.2.2.2.1 _).setCell (p:=⟨cb,7,none⟩) HX.o.2.2.2.2.1 _).setCell (p:=⟨cb,8,none⟩) HX.o.2.2.2.2.1 _
   case measure=>(simp [intOf];try omega)
  by_cases hk3:k=3
  ·subst hk3
   have i2:((3:Nat):Int) < 8:=by omega
   have f0:=hbc.frozen 9
   have c0:R.cell? ⟨cb,9,none⟩=some (.int .i64 0):=hbc.cell 9
   have f1:=hbc.frozen 10
   have c1:R.cell? ⟨cb,10,none⟩=some (.int .i64 0):=hbc.cell 10
   have f2:=hbc.frozen 11
   have c2:R.cell? ⟨cb,11,none⟩=some (.int .i64 0):=hbc.cell 11
   have HR:=hide (ai9 hbp (ai9 hbc hB))
   clear hbp hbc hB
   have ⟨x0,x1,y0,y1,z0,z1,s0⟩:=HW.o
   go_wp2
   go_roundw
   case rel=>
    refine ⟨4,by omega,by go_num,?_,?_,?_⟩
    ·exact ((HR.o.1.far (p:=⟨cb,9,none⟩) HX.o.2.2.2.2.2 _).far (p:=⟨cb,10,none⟩) HX.o.2.2.2.2.2 _).far (p:=⟨cb,11,none⟩) HX.o.2.2.2.2.2 _
    ·have h8:=((HR.o.2.1.set_ 9 (.int .i64 (x+s))).set_ 10 (.int .i64 (y+s))).set_ 11 (.int .i64 (z))
     rw [show (((crnA (x,y,z) s 3).setIfInBounds 9 (.int .i64 (x+s))).setIfInBounds 10 (.int .i64 (y+s))).setIfInBounds 11 (.int .i64 (z))=crnA (x,y,z) s 4 by simp [crnA,crn,cor8,encP]] at h8
     exact h8
    ·exact ((HR.o.2.2.setCell (p:=⟨cb,9,none⟩) HX.o.2.2.2.2.1 _).setCell (p:=⟨cb,10,none⟩) HX.o.2.2.2.2.1 _).setCell (p:=⟨cb,11,none⟩) HX.o.2.2.2.2.1 _
   case measure=>(simp [intOf];try omega)
  by_cases hk4:k=4
  ·subst hk4
   have i2:((4:Nat):Int) < 8:=by omega
   have f0:=hbc.frozen 12
   have c0:R.cell? ⟨cb,12,none⟩=some (.int .i64 0):=hbc.cell 12
   have f1:=hbc.frozen 13
   have c1:R.cell? ⟨cb,13,none⟩=some (.int .i64 0):=hbc.cell 13
   have f2:=hbc.frozen 14
   have c2:R.cell? ⟨cb,14,none⟩=some (.int .i64 0):=hbc.cell 14
   have HR:=hide (ai9 hbp (ai9 hbc hB))
   clear hbp hbc hB
   have ⟨x0,x1,y0,y1,z0,z1,s0⟩:=HW.o
   go_wp2
   go_roundw
   case rel=>
    refine ⟨5,by omega,by go_num,?_,?_,?_⟩
    ·exact ((HR.o.1.far (p:=⟨cb,12,none⟩) HX.o.2.2.2.2.2 _).far (p:=⟨cb,13,none⟩) HX.o.2.2.2.2.2 _).far (p:=⟨cb,14,none⟩) HX.o.2.2.2.2.2 _
    ·have h8:=((HR.o.2.1.set_ 12 (.int .i64 (x))).set_ 13 (.int .i64 (y))).set_ 14 (.int .i64 (z+s))
     rw [show (((crnA (x,y,z) s 4).setIfInBounds 12 (.int .i64 (x))).setIfInBounds 13 (.int .i64 (y))).setIfInBounds 14 (.int .i64 (z+s))=crnA (x,y,z) s 5 by simp [crnA,crn,cor8,encP]] at h8
     exact h8
    ·exact ((HR.o.2.2.setCell (p:=⟨cb,12,none⟩) HX.o.2.2.2.2.1 _).setCell (p:=⟨cb,13,none⟩) HX.o.2.2.2.2.1 _).setCell (p:=⟨cb,14,none⟩) HX.o.2.2.2.2.1 _
   case measure=>(simp [intOf];try omega)
  by_cases hk5:k=5
  ·subst hk5
   have i2:((5:Nat):Int) < 8:=by omega
   have f0:=hbc.frozen 15
   have c0:R.cell? ⟨cb,15,none⟩=some (.int .i64 0):=hbc.cell 15
   have f1:=hbc.frozen 16
   have c1:R.cell? ⟨cb,16,none⟩=some (.int .i64 0):=hbc.cell 16
   have f2:=hbc.frozen 17
   have c2:R.cell? ⟨cb,17,none⟩=some (.int .i64 0):=hbc.cell 17
   have HR:=hide (ai9 hbp (ai9 hbc hB))
   clear hbp hbc hB
   have ⟨x0,x1,y0,y1,z0,z1,s0⟩:=HW.o
   go_wp2
   go_roundw
   case rel=>
    refine ⟨6,by omega,by go_num,?_,?_,?_⟩
    ·exact ((HR.o.1.far (p:=⟨cb,15,none⟩) HX.o.2.2.2.2.2 _).far (p:=⟨cb,16,none⟩) HX.o.2.2.2.2.2 _).far (p:=⟨cb,17,none⟩) HX.o.2.2.2.2.2 _
    ·have h8:=((HR.o.2.1.set_ 15 (.int .i64 (x+s))).set_ 16 (.int .i64 (y))).set_ 17 (.int .i64 (z+s))
     rw [show (((crnA (x,y,z) s 5).setIfInBounds 15 (.int .i64 (x+s))).setIfInBounds 16 (.int .i64 (y))).setIfInBounds 17 (.int .i64 (z+s))=crnA (x,y,z) s 6 by simp [crnA,crn,cor8,encP]] at h8
     exact h8
    ·exact ((HR.o.2.2.setCell (p:=⟨cb,15,none⟩) HX.o.2.2.2.2.1 _).setCell (p:=⟨cb,16,none⟩) HX.o.2.2.2.2.1 _).setCell (p:=⟨cb,17,none⟩) HX.o.2.2.2.2.1 _
   case measure=>(simp [intOf];try omega)
  by_cases hk6:k=6
  ·subst hk6
   have i2:((6:Nat):Int) < 8:=by omega
   have f0:=hbc.frozen 18
   have c0:R.cell? ⟨cb,18,none⟩=some (.int .i64 0):=hbc.cell 18
   have f1:=hbc.frozen 19
   have c1:R.cell? ⟨cb,19,none⟩=some (.int .i64 0):=hbc.cell 19
   have f2:=hbc.frozen 20
   have c2:R.cell? ⟨cb,20,none⟩=some (.int .i64 0):=hbc.cell 20
   have HR:=hide (ai9 hbp (ai9 hbc hB))
   clear hbp hbc hB
   have ⟨x0,x1,y0,y1,z0,z1,s0⟩:=HW.o
   go_wp2
   go_roundw
   case rel=>
    refine ⟨7,by omega,by go_num,?_,?_,?_⟩
    ·exact ((HR.o.1.far (p:=⟨cb,18,none⟩) HX.o.2.2.2.2.2 _).far (p:=⟨cb,19,none⟩) HX.o.2.2.2.2.2 _).far (p:=⟨cb,20,none⟩) HX.o.2.2.2.2.2 _
    ·have h8:=((HR.o.2.1.set_ 18 (.int .i64 (x))).set_ 19 (.int .i64 (y+s))).set_ 20 (.int .i64 (z+s))
     rw [show (((crnA (x,y,z) s 6).setIfInBounds 18 (.int .i64 (x))).setIfInBounds 19 (.int .i64 (y+s))).setIfInBounds 20 (.int .i64 (z+s))=crnA (x,y,z) s 7 by simp [crnA,crn,cor8,encP]] at h8
     exact h8
    ·exact ((HR.o.2.2.setCell (p:=⟨cb,18,none⟩) HX.o.2.2.2.2.1 _).setCell (p:=⟨cb,19,none⟩) HX.o.2.2.2.2.1 _).setCell (p:=⟨cb,20,none⟩) HX.o.2.2.2.2.1 _
   case measure=>(simp [intOf];try omega)
  by_cases hk7:k=7
  ·subst hk7
   have i2:((7:Nat):Int) < 8:=by omega
   have f0:=hbc.frozen 21
   have c0:R.cell? ⟨cb,21,none⟩=some (.int .i64 0):=hbc.cell 21
   have f1:=hbc.frozen 22
   have c1:R.cell? ⟨cb,22,none⟩=some (.int .i64 0):=hbc.cell 22
   have f2:=hbc.frozen 23
   have c2:R.cell? ⟨cb,23,none⟩=some (.int .i64 0):=hbc.cell 23
   have HR:=hide (ai9 hbp (ai9 hbc hB))
   clear hbp hbc hB
   have ⟨x0,x1,y0,y1,z0,z1,s0⟩:=HW.o
   go_wp2
   go_roundw
   case rel=>
    refine ⟨8,by omega,by go_num,?_,?_,?_⟩
    ·exact ((HR.o.1.far (p:=⟨cb,21,none⟩) HX.o.2.2.2.2.2 _).far (p:=⟨cb,22,none⟩) HX.o.2.2.2.2.2 _).far (p:=⟨cb,23,none⟩) HX.o.2.2.2.2.2 _
    ·have h8:=((HR.o.2.1.set_ 21 (.int .i64 (x+s))).set_ 22 (.int .i64 (y+s))).set_ 23 (.int .i64 (z+s))
     rw [show (((crnA (x,y,z) s 7).setIfInBounds 21 (.int .i64 (x+s))).setIfInBounds 22 (.int .i64 (y+s))).setIfInBounds 23 (.int .i64 (z+s))=crnA (x,y,z) s 8 by simp [crnA,crn,cor8,encP]] at h8
     exact h8
    ·exact ((HR.o.2.2.setCell (p:=⟨cb,21,none⟩) HX.o.2.2.2.2.1 _).setCell (p:=⟨cb,22,none⟩) HX.o.2.2.2.2.1 _).setCell (p:=⟨cb,23,none⟩) HX.o.2.2.2.2.1 _
   case measure=>(simp [intOf];try omega)
  obtain rfl:k=8:=by omega
  have i2:¬((8:Nat):Int) < 8:=by omega
  have hall:∀W:World,Blk W cb 165 (crnA (x,y,z) s 8)→W.cell? ⟨cb,0,none⟩=some (.int .i64 (cor8 (x,y,z) s 0).1)∧W.cell? ⟨cb,1,none⟩=some (.int .i64 (cor8 (x,y,z) s 0).2.1)∧W.cell? ⟨cb,2,none⟩=some (.int .i64 (cor8 (x,y,z) s 0).2.2)∧W.cell? ⟨cb,3,none⟩=some (.int .i64 (cor8 (x,y,z) s 1).1)∧W.cell? ⟨cb,4,none⟩=some (.int .i64 (cor8 (x,y,z) s 1).2.1)∧W.cell? ⟨cb,5,none⟩=some (.int .i64 (cor8 (x,y,z) s 1).2.2)∧W.cell? ⟨cb,6,none⟩=some (.int .i64 (cor8 (x,y,z) s 2).1)∧W.cell? ⟨cb,7,none⟩=some (.int .i64 (cor8 (x,y,z) s 2).2.1)∧W.cell? ⟨cb,8,none⟩=some (.int .i64 (cor8 (x,y,z) s 2).2.2)∧W.cell? ⟨cb,9,none⟩=some (.int .i64 (cor8 (x,y,z) s 3).1)∧W.cell? ⟨cb,10,none⟩=some (.int .i64 (cor8 (x,y,z) s 3).2.1)∧W.cell? ⟨cb,11,none⟩=some (.int .i64 (cor8 (x,y,z) s 3).2.2)∧W.cell? ⟨cb,12,none⟩=some (.int .i64 (cor8 (x,y,z) s 4).1)∧W.cell? ⟨cb,13,none⟩=some (.int .i64 (cor8 (x,y,z) s 4).2.1)∧W.cell? ⟨cb,14,none⟩=some (.int .i64 (cor8 (x,y,z) s 4).2.2)∧W.cell? ⟨cb,15,none⟩=some (.int .i64 (cor8 (x,y,z) s 5).1)∧W.cell? ⟨cb,16,none⟩=some (.int .i64 (cor8 (x,y,z) s 5).2.1)∧W.cell? ⟨cb,17,none⟩=some (.int .i64 (cor8 (x,y,z) s 5).2.2)∧W.cell? ⟨cb,18,none⟩=some (.int .i64 (cor8 (x,y,z) s 6).1)∧W.cell? ⟨cb,19,none⟩=some (.int .i64 (cor8 (x,y,z) s 6).2.1)∧W.cell? ⟨cb,20,none⟩=some (.int .i64 (cor8 (x,y,z) s 6).2.2)∧W.cell? ⟨cb,21,none⟩=some (.int .i64 (cor8 (x,y,z) s 7).1)∧W.cell? ⟨cb,22,none⟩=some (.int .i64 (cor8 (x,y,z) s 7).2.1)∧W.cell? ⟨cb,23,none⟩=some (.int .i64 (cor8 (x,y,z) s 7).2.2):=fun W h=>⟨h.cell 0,h.cell 1,h.cell 2,h.cell 3,h.cell 4,h.cell 5,h.cell 6,h.cell 7,h.cell 8,h.cell 9,h.cell 10,h.cell 11,h.cell 12,h.cell 13,h.cell 14,h.cell 15,h.cell 16,h.cell 17,h.cell 18,h.cell 19,h.cell 20,h.cell 21,h.cell 22,h.cell 23⟩
  obtain ⟨q0,q1,q2,q3,q4,q5,q6,q7,hq⟩:∃q0 q1 q2 q3 q4 q5 q6 q7:Pt,q0=cor8 (x,y,z) s 0∧q1=cor8 (x,y,z) s 1∧q2=cor8 (x,y,z) s 2∧q3=cor8 (x,y,z) s 3∧q4=cor8 (x,y,z) s 4∧q5=cor8 (x,y,z) s 5∧q6=cor8 (x,y,z) s 6∧q7=cor8 (x,y,z) s 7:=⟨_,_,_,_,_,_,_,_,rfl,rfl,rfl,rfl,rfl,rfl,rfl,rfl⟩
  have hcu:zGO (cor8 (x,y,z) s)=yT q0 q2 q3 q1++(yT q4 q5 q7 q6++(yT q0 q1 q5 q4++(yT q2 q6 q7 q3++(yT q0 q4 q6 q2++yT q1 q3 q7 q5)))):=by obtain ⟨rfl,rfl,rfl,rfl,rfl,rfl,rfl,rfl⟩:=hq;rfl
  have HCU:=hide hcu
  rw [←hq.1,←hq.2.1,←hq.2.2.1,←hq.2.2.2.1,←hq.2.2.2.2.1,←hq.2.2.2.2.2.1,←hq.2.2.2.2.2.2.1,←hq.2.2.2.2.2.2.2] at hall
  have HA:=hide hall
  clear hall hcu hq p0 p1 p2 hlp
  have HB0:=hide hB
  have H0:=hide (ai9 hbc (Below.refl R.heap.size R))
  have HL:=hide hlc
  clear hbc hB hbp hlc
  obtain ⟨R0,rfl⟩:=ex9 (R)
  have ⟨g0,g1,g2,g3,g4,g5,g6,g7,g8,g9,g10,g11,g12,g13,g14,g15,g16,g17,g18,g19,g20,g21,g22,g23⟩:=HA.o R0 H0.o.1
  go_upto_region 7 with (go_at_call 121;refine (uX q0 q2 q3 q1 R0).mono ?_;rintro e u0 ⟨v0,rfl,ho,hB⟩;obtain ⟨A10,c10,rfl⟩:=ho.form;have HC0:=hide (ai9 (H0.o.1.below hB H0.o.1.lt) (ai9 (H0.o.2.trans (hB.mono H0.o.2.size)) (ai9 ho hB)));clear ho hB)
  obtain ⟨R1,rfl⟩:=ex9 (u0)
  have H1:=hide (ai9 HC0.o.1 HC0.o.2.1)
  have K1:=hide (show Own encT 9 46 R1 R0.heap.size (.slice A10 2 c10) 2 (yT q0 q2 q3 q1) from HC0.o.2.2.1)
  clear HC0 g0 g1 g2 g3 g4 g5 g6 g7 g8 g9 g10 g11 g12 g13 g14 g15 g16 g17 g18 g19 g20 g21 g22 g23
  obtain ⟨B1,d1,hBd⟩:∃B d,B=A10∧d=c10:=⟨_,_,rfl,rfl⟩
  obtain ⟨rfl,rfl⟩:=hBd
  have ⟨g0,g1,g2,g3,g4,g5,g6,g7,g8,g9,g10,g11,g12,g13,g14,g15,g16,g17,g18,g19,g20,g21,g22,g23⟩:=HA.o R1 H1.o.1
  go_upto_region 8 with (first | (at_builtin;refine zI rfl _ _ _ rfl Tryz.underlying44 kF rfl (by omega) zW yU rfl (K1.o.below HC1.o.2.2.2 lr9) A11 c11 u1.heap.size (yT q4 q5 q7 q6) rfl (HC1.o.2.2.1.sl zW lr9) (by unfold maxLen;simp [yT]) (by simp [yT]) HC1.o.2.1.size ?_;intro w2 R2 hown hg hBa hat;obtain ⟨B2,d2,rfl⟩:=hown.form;have K2:=hide (show Own encT 9 46 R2 R0.heap.size (.slice B2 4 d2) 4 (yT q0 q2 q3 q1++yT q4 q5 q7 q6) from hown);have H2:=hide (ai9 (HC1.o.1.below hBa HL.o) (HC1.o.2.1.trans hBa));clear hown hg hBa hat HC1) | (go_at_call 121;refine (uX q4 q5 q7 q6 R1).mono ?_;rintro e u1 ⟨v1,rfl,ho,hB⟩;obtain ⟨A11,c11,rfl⟩:=ho.form;have HC1:=hide (ai9 (H1.o.1.below hB H1.o.1.lt) (ai9 (H1.o.2.trans (hB.mono H1.o.2.size)) (ai9 ho hB)));clear ho hB))
  clear g0 g1 g2 g3 g4 g5 g6 g7 g8 g9 g10 g11 g12 g13 g14 g15 g16 g17 g18 g19 g20 g21 g22 g23
  have ⟨g0,g1,g2,g3,g4,g5,g6,g7,g8,g9,g10,g11,g12,g13,g14,g15,g16,g17,g18,g19,g20,g21,g22,g23⟩:=HA.o R2 H2.o.1
  go_upto_region 9 with (first | (at_builtin;refine zI rfl _ _ _ rfl Tryz.underlying44 kF rfl (by omega) zW yU rfl (K2.o.below HC2.o.2.2.2 lr9) A12 c12 u2.heap.size (yT q0 q1 q5 q4) rfl (HC2.o.2.2.1.sl zW lr9) (by unfold maxLen;simp [yT]) (by simp [yT]) HC2.o.2.1.size ?_;intro w3 R3 hown hg hBa hat;obtain ⟨B3,d3,rfl⟩:=hown.form;have K3:=hide (show Own encT 9 46 R3 R0.heap.size (.slice B3 6 d3) 6 (yT q0 q2 q3 q1++yT q4 q5 q7 q6++yT q0 q1 q5 q4) from hown);have H3:=hide (ai9 (HC2.o.1.below hBa HL.o) (HC2.o.2.1.trans hBa));clear hown hg hBa hat HC2) | (go_at_call 121;refine (uX q0 q1 q5 q4 R2).mono ?_;rintro e u2 ⟨v2,rfl,ho,hB⟩;obtain ⟨A12,c12,rfl⟩:=ho.form;have HC2:=hide (ai9 (H2.o.1.below hB H2.o.1.lt) (ai9 (H2.o.2.trans (hB.mono H2.o.2.size)) (ai9 ho hB)));clear ho hB))
  clear g0 g1 g2 g3 g4 g5 g6 g7 g8 g9 g10 g11 g12 g13 g14 g15 g16 g17 g18 g19 g20 g21 g22 g23
  have ⟨g0,g1,g2,g3,g4,g5,g6,g7,g8,g9,g10,g11,g12,g13,g14,g15,g16,g17,g18,g19,g20,g21,g22,g23⟩:=HA.o R3 H3.o.1
  go_upto_region 10 with (first | (at_builtin;refine zI rfl _ _ _ rfl Tryz.underlying44 kF rfl (by omega) zW yU rfl (K3.o.below HC3.o.2.2.2 lr9) A13 c13 u3.heap.size (yT q2 q6 q7 q3) rfl (HC3.o.2.2.1.sl zW lr9) (by unfold maxLen;simp [yT]) (by simp [yT]) HC3.o.2.1.size ?_;intro w4 R4 hown hg hBa hat;obtain ⟨B4,d4,rfl⟩:=hown.form;have K4:=hide (show Own encT 9 46 R4 R0.heap.size (.slice B4 8 d4) 8 (yT q0 q2 q3 q1++yT q4 q5 q7 q6++yT q0 q1 q5 q4++yT q2 q6 q7 q3) from hown);have H4:=hide (ai9 (HC3.o.1.below hBa HL.o) (HC3.o.2.1.trans hBa));clear hown hg hBa hat HC3) | (go_at_call 121;refine (uX q2 q6 q7 q3 R3).mono ?_;rintro e u3 ⟨v3,rfl,ho,hB⟩;obtain ⟨A13,c13,rfl⟩:=ho.form;have HC3:=hide (ai9 (H3.o.1.below hB H3.o.1.lt) (ai9 (H3.o.2.trans (hB.mono H3.o.2.size)) (ai9 ho hB)));clear ho hB))
  clear g0 g1 g2 g3 g4 g5 g6 g7 g8 g9 g10 g11 g12 g13 g14 g15 g16 g17 g18 g19 g20 g21 g22 g23
  have ⟨g0,g1,g2,g3,g4,g5,g6,g7,g8,g9,g10,g11,g12,g13,g14,g15,g16,g17,g18,g19,g20,g21,g22,g23⟩:=HA.o R4 H4.o.1
  go_upto_region 11 with (first | (at_builtin;refine zI rfl _ _ _ rfl Tryz.underlying44 kF rfl (by omega) zW yU rfl (K4.o.below HC4.o.2.2.2 lr9) A14 c14 u4.heap.size (yT q0 q4 q6 q2) rfl (HC4.o.2.2.1.sl zW lr9) (by unfold maxLen;simp [yT]) (by simp [yT]) HC4.o.2.1.size ?_;intro w5 R5 hown hg hBa hat;obtain ⟨B5,d5,rfl⟩:=hown.form;have K5:=hide (show Own encT 9 46 R5 R0.heap.size (.slice B5 10 d5) 10 (yT q0 q2 q3 q1++yT q4 q5 q7 q6++yT q0 q1 q5 q4++yT q2 q6 q7 q3++yT q0 q4 q6 q2) from hown);have H5:=hide (ai9 (HC4.o.1.below hBa HL.o) (HC4.o.2.1.trans hBa));clear hown hg hBa hat HC4) | (go_at_call 121;refine (uX q0 q4 q6 q2 R4).mono ?_;rintro e u4 ⟨v4,rfl,ho,hB⟩;obtain ⟨A14,c14,rfl⟩:=ho.form;have HC4:=hide (ai9 (H4.o.1.below hB H4.o.1.lt) (ai9 (H4.o.2.trans (hB.mono H4.o.2.size)) (ai9 ho hB)));clear ho hB))
  clear g0 g1 g2 g3 g4 g5 g6 g7 g8 g9 g10 g11 g12 g13 g14 g15 g16 g17 g18 g19 g20 g21 g22 g23
  have ⟨g0,g1,g2,g3,g4,g5,g6,g7,g8,g9,g10,g11,g12,g13,g14,g15,g16,g17,g18,g19,g20,g21,g22,g23⟩:=HA.o R5 H5.o.1
  go_wp2_with (first | (at_builtin;refine zI rfl _ _ _ rfl Tryz.underlying44 kF rfl (by omega) zW yU rfl (K5.o.below HC5.o.2.2.2 lr9) A15 c15 u5.heap.size (yT q1 q3 q7 q5) rfl (HC5.o.2.2.1.sl zW lr9) (by unfold maxLen;simp [yT]) (by simp [yT]) HC5.o.2.1.size ?_;intro w6 R6 hown hg hBa hat;obtain ⟨B6,d6,rfl⟩:=hown.form;have K6:=hide (show Own encT 9 46 R6 R0.heap.size (.slice B6 12 d6) 12 (yT q0 q2 q3 q1++yT q4 q5 q7 q6++yT q0 q1 q5 q4++yT q2 q6 q7 q3++yT q0 q4 q6 q2++yT q1 q3 q7 q5) from hown);have H6:=hide (ai9 (HC5.o.1.below hBa HL.o) (HC5.o.2.1.trans hBa));clear hown hg hBa hat HC5) | (go_at_call 121;refine (uX q1 q3 q7 q5 R5).mono ?_;rintro e u5 ⟨v5,rfl,ho,hB⟩;obtain ⟨A15,c15,rfl⟩:=ho.form;have HC5:=hide (ai9 (H5.o.1.below hB H5.o.1.lt) (ai9 (H5.o.2.trans (hB.mono H5.o.2.size)) (ai9 ho hB)));clear ho hB))
  go_ret
  rw [HCU.o]
  exact ⟨_,rfl,K6.o.base_le HB0.o.size,HB0.o.trans (H6.o.2.mono HB0.o.size)⟩
end Go.Proofs.YtmemofonebphfaaGreat
namespace Go.Proofs.YtmemofonebphfaaGreat
open Go.RowKit Go.Sort
structure GdT (t:List Pt):Prop where
 dist:∀x∈t,x.1≠x.2.1∧x.2.1≠x.2.2∧x.2.2≠x.1
 nodup:(dirE t).Nodup
 clos:∀e∈dirE t,swE e∈dirE t
theorem GdT.of {t:List Pt} (h:yN (t.map numT) false=0):GdT t:=by
 obtain ⟨h1,h2,h3,_⟩:=vW.1 h
 exact ⟨h1,h2,h3⟩
def Near (n:Nat) (l m:List Pt):Prop:=∃K A B,l.Perm (K++A)∧m.Perm (K++B)∧A.length≤n∧B.length≤n∧(A= []→∀b∈B,b∈l)
theorem Near.refl (n:Nat) (l:List Pt):Near n l l:=⟨l, [], [],by simp,by simp,by simp,by simp,fun _ b hb=>by cases hb⟩
theorem Near.set {l:List Pt} {k:Nat} {x y:Pt} (h:l[k]? =some x):Near 1 l (l.set k y):=by
 obtain ⟨hk,e⟩:=List.getElem?_eq_some_iff.1 h
 refine ⟨l.take k++l.drop (k+1), [x], [y],?_,?_,by simp,by simp,by simp⟩
 ·have:l=l.take k++x::l.drop (k+1):=by rw [←e,←List.drop_eq_getElem_cons hk,List.take_append_drop]
  exact (List.Perm.of_eq this).trans (List.perm_middle.trans (List.perm_append_comm (l₁:= [x])))
 ·rw [List.set_eq_take_append_cons_drop,if_pos hk]
  exact List.perm_middle.trans (List.perm_append_comm (l₁:= [y]))
theorem Near.erase {l:List Pt} {k:Nat} {x:Pt} (h:l[k]? =some x):Near 1 l (l.take k++l.drop (k+1)):=by
 obtain ⟨hk,e⟩:=List.getElem?_eq_some_iff.1 h
 refine ⟨l.take k++l.drop (k+1), [x], [],?_,by simp,by simp,by simp,by simp⟩
 have:l=l.take k++x::l.drop (k+1):=by rw [←e,←List.drop_eq_getElem_cons hk,List.take_append_drop]
 exact (List.Perm.of_eq this).trans (List.perm_middle.trans (List.perm_append_comm (l₁:= [x])))
theorem Near.more {l:List Pt} {x:Pt} (h:x∈l):Near 1 l (l++ [x]):=⟨l, [], [x],by simp,by simp,by simp,by simp,fun _ b hb=>by rw [List.mem_singleton.1 hb];exact h⟩
theorem Near.le {n m:Nat} {l r:List Pt} (h:Near n l r) (hn:n≤m):Near m l r:=by
 obtain ⟨K,A,B,h1,h2,h3,h4,h5⟩:=h
 exact ⟨K,A,B,h1,h2,by omega,by omega,h5⟩
theorem zIY {A:List Pt} (h:A.length≤1):A= []∨∃z,A= [z]:=by
 match A,h with
 | [],_=>exact .inl rfl
 | [z],_=>exact .inr ⟨z,rfl⟩
theorem zHS {A:List Pt} (h:A.length≤2):A= []∨(∃z,A= [z])∨∃z y,A= [z,y]:=by
 match A,h with
 | [],_=>exact .inl rfl
 | [z],_=>exact .inr (.inl ⟨z,rfl⟩)
 | [z,y],_=>exact .inr (.inr ⟨z,y,rfl⟩)
theorem Near.step {l m r:List Pt} (h1:Near 1 l m) (h2:Near 1 m r):Near 2 l r:=by
 obtain ⟨K,A,B,p1,q1,a1,b1,e1⟩:=h1
 obtain ⟨K2,A2,B2,p2,q2,a2,b2,e2⟩:=h2
 rcases zIY a2 with rfl | ⟨z,rfl⟩
 ·have hk:K2.Perm (K++B):=by
   have:=p2.symm.trans q1
   rwa [List.append_nil] at this
  refine ⟨K,A,B++B2,p1,q2.trans ?_,by omega,by rw [List.length_append];omega,fun hA b hb=> ?_⟩
  ·rw [←List.append_assoc]
   exact hk.append_right B2
  ·rcases List.mem_append.1 hb with hb | hb
   ·exact e1 hA b hb
   ·have:=(q1.mem_iff).1 (e2 rfl b hb)
    rcases List.mem_append.1 this with h | h
    ·exact (p1.mem_iff).2 (List.mem_append.2 (.inl h))
    ·exact e1 hA b h
 ·have hp:(K++B).Perm (z::K2):=(q1.symm.trans p2).trans (List.perm_append_comm (l₂:= [z]))
  have hz:z∈K++B:=(hp.mem_iff).2 (by simp)
  rcases List.mem_append.1 hz with hz | hz
  ·obtain ⟨K1,hK⟩:∃K1,K.Perm (z::K1):=⟨K.erase z,List.perm_cons_erase hz⟩
   have hk:K2.Perm (K1++B):=((hp.symm.trans (hK.append_right B)).cons_inv)
   refine ⟨K1,z::A,B++B2,p1.trans ((hK.append_right A).trans ?_),q2.trans ?_,by simp;omega,by rw [List.length_append];omega,by simp⟩
   ·exact List.perm_middle.symm
   ·rw [←List.append_assoc]
    exact hk.append_right B2
  ·have hB:B= [z]:=by
    rcases zIY b1 with rfl | ⟨y,rfl⟩
    ·cases hz
    ·rw [List.mem_singleton.1 hz]
   subst hB
   have hk:K2.Perm K:=by
    have:=hp.symm.trans (List.perm_append_comm (l₂:= [z]))
    exact this.cons_inv
   rcases zIY a1 with rfl | ⟨y,rfl⟩
   ·have hzl:z∈K:=by
     have:=(p1.mem_iff).1 (e1 rfl z (by simp))
     simpa using this
    obtain ⟨K1,hK⟩:∃K1,K.Perm (z::K1):=⟨K.erase z,List.perm_cons_erase hzl⟩
    refine ⟨K1, [z],z::B2,?_,q2.trans ?_,by simp,by simp;omega,by simp⟩
    ·rw [List.append_nil] at p1
     exact p1.trans (hK.trans (List.perm_append_comm (l₁:= [z])))
    ·exact ((hk.trans hK).append_right B2).trans List.perm_middle.symm
   ·exact ⟨K, [y],B2,p1,q2.trans (hk.append_right B2),by simp,by omega,by simp⟩
def Bk (x y:Pt):Prop:=∀e∈de3 x,swE e∈de3 y
abbrev Dst (x:Pt):Prop:=x.1≠x.2.1∧x.2.1≠x.2.2∧x.2.2≠x.1
theorem zHT {x y:Pt}:Bk x y ↔ (x.2.1,x.1)∈de3 y∧(x.2.2,x.2.1)∈de3 y∧(x.1,x.2.2)∈de3 y:=by
 constructor
 ·intro h
  exact ⟨h (x.1,x.2.1) (by simp [de3]),h (x.2.1,x.2.2) (by simp [de3]),h (x.2.2,x.1) (by simp [de3])⟩
 ·rintro ⟨h1,h2,h3⟩ e he
  rcases yM.1 he with rfl | rfl | rfl
  ·exact h1
  ·exact h2
  ·exact h3
theorem Bk.sym {x y:Pt} (h:Bk x y) (hx:Dst x):Bk y x:=by
 obtain ⟨h1,h2,h3⟩:=zHT.1 h
 obtain ⟨d1,d2,d3⟩:=hx
 rw [zHT]
 simp only [yM,Prod.mk.injEq] at h1 h2 h3⊢
 omega
theorem zO2 {x n:Pt} (hx:Dst x) (hn:Dst n) {e f:E2} (he:e∈de3 x) (hf:f∈de3 x) (hne:e≠f) (h1:swE e∈de3 n) (h2:swE f∈de3 n):Bk x n:=by
 obtain ⟨d1,d2,d3⟩:=hx
 obtain ⟨c1,c2,c3⟩:=hn
 obtain ⟨e1,e2⟩:=e
 obtain ⟨f1,f2⟩:=f
 rw [zHT]
 simp only [yM,swE,Prod.mk.injEq,ne_eq] at he hf hne h1 h2⊢
 rcases he with ⟨rfl,rfl⟩ | ⟨rfl,rfl⟩ | ⟨rfl,rfl⟩ <;>rcases hf with ⟨rfl,rfl⟩ | ⟨rfl,rfl⟩ | ⟨rfl,rfl⟩ <;>first
  | exact absurd ⟨rfl,rfl⟩ hne
  | (rcases h1 with ⟨a1,b1⟩ | ⟨a1,b1⟩ | ⟨a1,b1⟩ <;>rcases h2 with ⟨a2,b2⟩ | ⟨a2,b2⟩ | ⟨a2,b2⟩ <;>first | (exfalso;omega) | (refine ⟨?_,?_,?_⟩ <;>omega))
theorem zFO {x:Pt} (hx:Dst x) {e:E2} (he:e∈de3 x):swE e ∉ de3 x:=by
 obtain ⟨d1,d2,d3⟩:=hx
 obtain ⟨e1,e2⟩:=e
 simp only [yM,swE,Prod.mk.injEq] at he⊢
 omega
theorem GdT.same {t:List Pt} (h:GdT t) {x y:Pt} (hx:x∈t) (hy:y∈t) {e:E2} (ex:e∈de3 x) (ey:e∈de3 y):x=y:=by
 obtain ⟨i,hi⟩:=List.mem_iff_getElem?.1 hx
 obtain ⟨j,hj⟩:=List.mem_iff_getElem?.1 hy
 have:=vG h.nodup hi hj ex ey
 subst this
 rw [hi] at hj
 exact Option.some.inj hj
theorem GdT.apart {K A:List Pt} (h:GdT (K++A)) {e:E2} (hk:e∈dirE K) (ha:e∈dirE A):False:=by
 have:=h.nodup
 unfold dirE at this
 rw [List.flatMap_append] at this
 exact (List.nodup_append.1 this).2.2 e hk e ha rfl
theorem zIO (x:Pt) (hx:Dst x):(x.1,x.2.1)≠(x.2.1,x.2.2)∧(x.2.1,x.2.2)≠(x.2.2,x.1)∧(x.1,x.2.1)≠(x.2.2,x.1):=by
 obtain ⟨d1,d2,d3⟩:=hx
 simp only [ne_eq,Prod.mk.injEq]
 omega
theorem zFR {K A B:List Pt} (hA:A.length≤2) (hl:GdT (K++A)) (hm:GdT (K++B)) (hn:xE (K++A)) {x y:Pt} (hx:x∈K++A) (hy:y∈K++B) (hb:Bk x y):False:=by
 have hd:=hl.dist x hx
 have key:∀e∈de3 x,∃n∈A,swE e∈de3 n:=fun e he=>by
  obtain ⟨n,hn1,hn2⟩:=zX.1 (hl.clos e (zX.2 ⟨x,hx,he⟩))
  rcases List.mem_append.1 hn1 with h | h
  ·have:=hm.same (List.mem_append.2 (.inl h)) hy hn2 (hb e he)
   subst this
   exact absurd hb (hn x hx n hn1)
  ·exact ⟨n,h,hn2⟩
 have both:∀e∈de3 x,∀f∈de3 x,e≠f→∀n∈A,swE e∈de3 n→swE f∈de3 n→False:=fun e he f hf hne n hA1 h1 h2=>by
  have hn1:n∈K++A:=List.mem_append.2 (.inr hA1)
  exact hn x hx n hn1 (zO2 hd (hl.dist n hn1) he hf hne h1 h2)
 have m1:(x.1,x.2.1)∈de3 x:=by simp [de3]
 have m2:(x.2.1,x.2.2)∈de3 x:=by simp [de3]
 have m3:(x.2.2,x.1)∈de3 x:=by simp [de3]
 obtain ⟨u1,u2,u3⟩:=zIO x hd
 obtain ⟨n1,a1,b1⟩:=key _ m1
 obtain ⟨n2,a2,b2⟩:=key _ m2
 obtain ⟨n3,a3,b3⟩:=key _ m3
 have e12:n1≠n2:=fun e=>both _ m1 _ m2 u1 n1 a1 b1 (by rw [e];exact b2)
 have e23:n2≠n3:=fun e=>both _ m2 _ m3 u2 n2 a2 b2 (by rw [e];exact b3)
 have e13:n1≠n3:=fun e=>both _ m1 _ m3 u3 n1 a1 b1 (by rw [e];exact b3)
 rcases zHS hA with rfl | ⟨z,rfl⟩ | ⟨z,w,rfl⟩
 ·cases a1
 ·rw [List.mem_singleton] at a1 a2
  exact e12 (a1.trans a2.symm)
 ·simp only [List.mem_cons,List.not_mem_nil,or_false] at a1 a2 a3
  rcases a1 with rfl | rfl <;>rcases a2 with rfl | rfl <;>rcases a3 with rfl | rfl <;>first | exact e12 rfl | exact e23 rfl | exact e13 rfl
theorem GdT.perm {l m:List Pt} (h:GdT l) (hp:l.Perm m):GdT m where
 dist x hx:=h.dist x ((hp.mem_iff).2 hx)
 nodup:=((hp.flatMap_right de3).nodup_iff).1 h.nodup
 clos e he:=by
  have he':e∈dirE l:=((hp.flatMap_right de3).mem_iff).2 he
  exact ((hp.flatMap_right de3).mem_iff).1 (h.clos e he')
theorem xE.perm {l m:List Pt} (h:xE l) (hp:l.Perm m):xE m:=fun x hx y hy=>h x ((hp.mem_iff).2 hx) y ((hp.mem_iff).2 hy)
theorem zDB {l m:List Pt} (hnr:Near 2 l m) (hl0:GdT l) (hm0:GdT m) (hn0:xE l):xE m:=by
 obtain ⟨K,A,B,p1,p2,hA,hB,hAB⟩:=hnr
 have hl:=hl0.perm p1
 have hm:=hm0.perm p2
 have hn:=hn0.perm p1
 refine xE.perm ?_ p2.symm
 intro x hx y hy hb
 have hb:Bk x y:=hb
 have hdx:=hm.dist x hx
 have hdy:=hm.dist y hy
 have hbs:=hb.sym hdx
 have hx1:x ∉ K++A:=fun h=>zFR hA hl hm hn h hy hb
 have hy1:y ∉ K++A:=fun h=>zFR hA hl hm hn h hx hbs
 have hxB:x∈B:=by
  rcases List.mem_append.1 hx with h | h
  ·exact absurd (List.mem_append.2 (.inl h)) hx1
  ·exact h
 have hyB:y∈B:=by
  rcases List.mem_append.1 hy with h | h
  ·exact absurd (List.mem_append.2 (.inl h)) hy1
  ·exact h
 have hxy:∀b∈B,b=x∨b=y:=by
  have hne:x≠y:=fun e=>by
   subst e
   exact zFO hdx (e:=(x.1,x.2.1)) (by simp [de3]) (hb _ (by simp [de3]))
  rcases zHS hB with rfl | ⟨z,rfl⟩ | ⟨z,w,rfl⟩
  ·cases hxB
  ·rw [List.mem_singleton] at hxB hyB
   exact absurd (hxB.trans hyB.symm) hne
  ·simp only [List.mem_cons,List.not_mem_nil,or_false] at hxB hyB⊢
   intro b hb
   rcases hxB with rfl | rfl <;>rcases hyB with rfl | rfl <;>first | exact absurd rfl hne | exact hb | exact hb.symm
 have kc:∀e∈dirE K,swE e∈dirE K:=fun e he=>by
  have he2:e∈dirE (K++B):=by
   obtain ⟨z,h1,h2⟩:=zX.1 he
   exact zX.2 ⟨z,List.mem_append.2 (.inl h1),h2⟩
  obtain ⟨z,h1,h2⟩:=zX.1 (hm.clos e he2)
  rcases List.mem_append.1 h1 with h | h
  ·exact zX.2 ⟨z,h,h2⟩
  ·exfalso
   rcases hxy z h with rfl | rfl
   ·exact hm.apart he (zX.2 ⟨y,hyB,hb _ h2⟩)
   ·exact hm.apart he (zX.2 ⟨x,hxB,hbs _ h2⟩)
 have inA:∀a∈A,∀e∈de3 a,∃b∈A,swE e∈de3 b:=fun a ha e he=>by
  obtain ⟨z,h1,h2⟩:=zX.1 (hl.clos e (zX.2 ⟨a,List.mem_append.2 (.inr ha),he⟩))
  rcases List.mem_append.1 h1 with h | h
  ·exact (hl.apart (kc _ (zX.2 ⟨z,h,h2⟩)) (zX.2 ⟨a,ha,he⟩)).elim
  ·exact ⟨z,h,h2⟩
 have one:∀a b:Pt,a∈A→b∈A→(∀z∈A,z=a∨z=b)→False:=fun a b ha hb hab=>by
  have hla:a∈K++A:=List.mem_append.2 (.inr ha)
  have hd:=hl.dist a hla
  refine hn a hla b (List.mem_append.2 (.inr hb)) fun e he=> ?_
  obtain ⟨z,hz,h2⟩:=inA a ha e he
  rcases hab z hz with rfl | rfl
  ·exact absurd h2 (zFO hd he)
  ·exact h2
 rcases zHS hA with rfl | ⟨z,rfl⟩ | ⟨z,w,rfl⟩
 ·exact hx1 ((p1.mem_iff).1 (hAB rfl x hxB))
 ·exact one z z (by simp) (by simp) (by simp)
 ·exact one z w (by simp) (by simp) (by simp)
end Go.Proofs.YtmemofonebphfaaGreat
