import Derived.Deep.CutBlock
import Derived.Deep.DeepCutAuto
import Derived.Test.YtmemofonebphfaaGreatV20
namespace Go.Proofs.YtmemofonebphfaaGreat
open Go.RowKit Go.Sort
theorem infoPt:(Tryz.prog.info? 43).map (fun i=>(i.zero,i.size,i.bytes))=some (some (.agg #[.int .i64 0, .int .i64 0, .int .i64 0]),3,24):=by kernel_rfl
def atP (l:List Pt) (p:Pt):Nat:=(l.takeWhile fun x=>ltP x p).length
def withP (l:List Pt) (p:Pt):List Pt:=if l[atP l p]? =some p then l else l.take (atP l p)++(p::l.drop (atP l p))
theorem atP_eq {l:List Pt} {p:Pt} {a:Nat} (ha:a≤l.length) (hlo:∀j q,j < a→l[j]? =some q→ltP q p=true) (hhi:∀q,l[a]? =some q→ltP q p=false):a=atP l p:=by
 unfold atP
 induction l generalizing a with
 | nil=>simpa using ha
 | cons x l ih=>
  cases a with
  | zero=>
   have:=hhi x rfl
   simp [this]
  | succ a=>
   have h0:=hlo 0 x (by omega) rfl
   rw [List.takeWhile_cons,h0,if_pos rfl,List.length_cons]
   rw [←ih (a:=a) (by simpa using ha) (fun j q hj hq=>hlo (j+1) q (by omega) (by simpa using hq)) (fun q hq=>hhi q (by simpa using hq))]
theorem withP_length (l:List Pt) (p:Pt):(withP l p).length≤l.length+1:=by
 unfold withP
 split
 ·omega
 ·simp;omega
theorem withP_mem {l:List Pt} {p q:Pt} (h:q∈withP l p):q∈l∨q=p:=by
 unfold withP at h
 split at h
 ·exact .inl h
 ·rcases List.mem_append.1 h with h | h
  ·exact .inl (List.mem_of_mem_take h)
  ·rcases List.mem_cons.1 h with h | h
   ·exact .inr h
   ·exact .inl (List.mem_of_mem_drop h)
theorem Sl.pt8 {w:World} {B b o:Nat} {ps:List Pt} (h:Sl encP 3 w B (some ⟨b,o,none⟩) ps) {i:Nat} {p:Pt} (hi:ps[i]? =some p):
  w.cell? ⟨b,o+i*3,none⟩=some (.int .i64 p.1)∧w.cell? ⟨b,o+i*3+1,none⟩=some (.int .i64 p.2.1)∧w.cell? ⟨b,o+i*3+2,none⟩=some (.int .i64 p.2.2):=by
 obtain ⟨b',o',ha,_,hc⟩:=h.at hi
 cases ha
 exact ⟨hc 0 _ rfl,hc 1 _ rfl,hc 2 _ rfl⟩
theorem Sl.take8 {α:Type} {enc:α→List Value} {k B:Nat} {w:World} {A:Option Addr} {xs:List α} (h:Sl enc k w B A xs) (a:Nat):Sl enc k w B A (xs.take a):=by
 rcases h with ⟨rfl,h⟩ | ⟨b,o,hA,hb,hc⟩
 ·exact .inl ⟨by simp,h⟩
 ·refine .inr ⟨b,o,hA,hb,fun i x hx=>hc i x ?_⟩
  rw [List.getElem?_take] at hx
  split at hx
  ·exact hx
  ·cases hx
theorem Blk.three8 {w:World} {g:Nat} {t:TypeId} {a b c:Value} (h:Blk w g t #[a,b,c]):w.cell? ⟨g,0,none⟩=some a∧w.cell? ⟨g,1,none⟩=some b∧w.cell? ⟨g,2,none⟩=some c:=⟨h.cell 0,h.cell 1,h.cell 2⟩
set_option maxRecDepth 100000 in
set_option maxHeartbeats 8000000 in
theorem with_any (A:Option Addr) (c:Nat) (l:List Pt) (p:Pt) (w:World) (hs:Sl encP 3 w w.heap.size A l) (hl:l.length≤4294967296) (hc:l.length≤c) (hp:fitsP p) (hf:∀q∈l,fitsP q):
  Calls Tryz.prog 99 #[.slice A l.length c,vP p] w fun e w'=>∃A' c',e= .returned (.slice A' (withP l p).length c')∧Sl encP 3 w' w'.heap.size A' (withP l p)∧(withP l p).length≤c'∧Below w.heap.size w w':=by
 obtain ⟨n,hn⟩:∃n,n=l.length:=⟨_,rfl⟩
 rw [←hn] at hl hc⊢
 have HS:=hide (And.intro hs (And.intro hp (And.intro hf hn)))
 clear hs hp hf hn
 go_enter Tryz.func99,Tryz.ntmps99
 obtain ⟨X,hX⟩:∃X,X=w.alloc (.cells #[.int .i64 p.1, .int .i64 p.2.1, .int .i64 p.2.2] 43):=⟨_,rfl⟩
 have hBX:Below w.heap.size w X:=by rw [hX];exact (Below.refl _ w).alloc (Nat.le_refl _) _
 have hbx:Blk X w.heap.size 43 #[.int .i64 p.1, .int .i64 p.2.1, .int .i64 p.2.2]:=by rw [hX];exact Blk.new _ _ _
 have hzX:X.heap.size=w.heap.size+1:=by rw [hX];simp
 have HX:=hide (And.intro hBX (And.intro hbx hX))
 clear hBX hbx hX
 go_upto_block 0 with fail
 rw [←HX.out.2.2]
 go_cut [5] (fun a wx=>∃a':Nat,a= .int .i64 a'∧a'≤n∧(∀j q,j < a'→l[j]? =some q→ltP q p=true)∧(∀q,l[a']? =some q→ltP q p=false)∧RB X wx)
 case first=>
  go_wp2_with fail
  go_loopw [5] (fun a wx=>∃a':Nat,a= .int .i64 a'∧a'≤n∧(∀j q,j < a'→l[j]? =some q→ltP q p=true)∧RB X wx) (fun a _=>n - (intOf a).toNat)
  case atStart=>exact ⟨0,rfl,Nat.zero_le _,fun j q h=>absurd h (by omega),RB.refl _⟩
  case round=>
   obtain ⟨a,rfl,ha,hlo,hR⟩:=hrel
   have hbx:=HX.out.2.1.below hR HX.out.2.1.lt
   have hszR:=hR.size
   by_cases hla:a < n
   ·obtain ⟨q,hq⟩:∃q,l[a]? =some q:=⟨_,List.getElem?_eq_getElem (by rw [←HS.out.2.2.2];exact hla)⟩
    obtain ⟨bp,op,hAp,hbp,hcq⟩:=((HS.out.1.below HX.out.1).below (hR.mono (by omega))).at hq
    subst hAp
    have k0:=hcq 0 _ rfl
    have k1:=hcq 1 _ rfl
    have k2:=hcq 2 _ rfl
    have x0:=hbx.cell 0
    have x1:=hbx.cell 1
    have x2:=hbx.cell 2
    simp only [List.getElem?_toArray,List.getElem?_cons_zero,List.getElem?_cons_succ,Nat.add_zero] at x0 x1 x2 k0 k1 k2
    have hbpR:bp < wr.heap.size:=by omega
    have hbxR:=hbx.lt
    have i2:(a:Int) < (n:Int):=by omega
    have HL:=hide (And.intro hlo (And.intro hR hq))
    clear hlo hR hq hcq hbx
    cases hless:ltP q p
    ·have HLS:=hide hless
     go_wp2_with fail
     go_region_held3 (fun w'=>w'.cell? ⟨bp,op+a*3,none⟩=some (.int .i64 q.1)∧w'.cell? ⟨bp,op+a*3+1,none⟩=some (.int .i64 q.2.1)∧w'.cell? ⟨bp,op+a*3+2,none⟩=some (.int .i64 q.2.2)∧w'.cell? ⟨w.heap.size,0,none⟩=some (.int .i64 p.1)∧w'.cell? ⟨w.heap.size,1,none⟩=some (.int .i64 p.2.1)∧w'.cell? ⟨w.heap.size,2,none⟩=some (.int .i64 p.2.2)) (first | go_keep | exact ⟨cell_lay hL k0,cell_lay hL k1,cell_lay hL k2,cell_lay hL x0,cell_lay hL x1,cell_lay hL x2⟩) ((go_at_call 90;refine (rless_any q p _).mono ?_;rintro e w3 ⟨rfl,hL⟩;rw [hless]))
     go_wp2_with fail
     go_meet
     case rel=>
      refine ⟨a,rfl,ha,HL.out.1,fun q' hq'=> ?_,HL.out.2.1.trans _ _ _ ((below_drew wr).trans hL.below)⟩
      rw [HL.out.2.2] at hq'
      cases hq'
      exact HLS.out
    ·have HLS:=hide hless
     go_wp2_with fail
     go_region_held3 (fun w'=>w'.cell? ⟨bp,op+a*3,none⟩=some (.int .i64 q.1)∧w'.cell? ⟨bp,op+a*3+1,none⟩=some (.int .i64 q.2.1)∧w'.cell? ⟨bp,op+a*3+2,none⟩=some (.int .i64 q.2.2)∧w'.cell? ⟨w.heap.size,0,none⟩=some (.int .i64 p.1)∧w'.cell? ⟨w.heap.size,1,none⟩=some (.int .i64 p.2.1)∧w'.cell? ⟨w.heap.size,2,none⟩=some (.int .i64 p.2.2)) (first | go_keep | exact ⟨cell_lay hL k0,cell_lay hL k1,cell_lay hL k2,cell_lay hL x0,cell_lay hL x1,cell_lay hL x2⟩) ((go_at_call 90;refine (rless_any q p _).mono ?_;rintro e w3 ⟨rfl,hL⟩;rw [hless]))
     go_wp2_with fail
     go_roundw
     case rel=>
      refine ⟨a+1,by go_num,by omega,fun j q' hj hq'=> ?_,HL.out.2.1.trans _ _ _ ((below_drew wr).trans hL.below)⟩
      rcases Nat.lt_or_ge j a with h | h
      ·exact HL.out.1 j q' h hq'
      ·have hja:j=a:=by omega
       subst hja
       rw [HL.out.2.2] at hq'
       cases hq'
       exact HLS.out
     case measure=>simp [intOf];omega
   ·have hae:a=n:=by omega
    have HL:=hide (And.intro hlo (And.intro hR hae))
    clear hlo hR hbx hae
    go_wp2_with fail
    go_meet
    case rel=>exact ⟨a,rfl,ha,HL.out.1,(fun q' hq'=>by rw [HL.out.2.2,HS.out.2.2.2,List.getElem?_eq_none (Nat.le_refl _)] at hq';cases hq'),HL.out.2.1⟩
 case rest=>
  obtain ⟨a,rfl,ha,hlo,hhi,hR⟩:=hcut
  have hat:a=atP l p:=atP_eq (by rw [←HS.out.2.2.2];exact ha) hlo hhi
  have hbx:=HX.out.2.1.below hR HX.out.2.1.lt
  have hszR:=hR.size
  obtain ⟨x0,x1,x2⟩:=hbx.three8
  have hbw:Below w.heap.size w wc:=HX.out.1.trans (hR.mono (by omega))
  have hsl:Sl encP 3 wc w.heap.size A l:=HS.out.1.below hbw
  have HA:=hide (And.intro hat (And.intro hbw (And.intro hsl hbx)))
  clear hat hlo hhi hR hbw hsl
  by_cases hla:a < n
  ·have i2:(a:Int) < (n:Int):=by omega
   obtain ⟨q,hq⟩:∃q,l[a]? =some q:=⟨_,List.getElem?_eq_getElem (by rw [←HS.out.2.2.2];exact hla)⟩
   have heq:=eqP q p (HS.out.2.2.1 q (List.mem_of_getElem? hq)) HS.out.2.1
   obtain ⟨bp,op,hAp,hbp,hcq⟩:=HA.out.2.2.1.at hq
   subst hAp
   have hwq:withP l p=if q=p then l else l.take a++(p::l.drop a):=by
    unfold withP
    rw [←HA.out.1,hq]
    simp
   obtain ⟨k0,k1,k2⟩:=HA.out.2.2.1.pt8 hq
   have hd:decide (a < n)=true:=decide_eq_true hla
   have HQ:=hide hwq
   clear hq hcq hwq
   by_cases hqp:q=p
   ·have hdq:decide (q=p)=true:=decide_eq_true hqp
    rw [hdq] at heq
    have HE:=hide hqp
    clear hqp hdq
    go_wp2_with fail
    go_quiet (fail)
    go_wp2
    go_ret
    have hww:withP l p=l:=by rw [HQ.out,if_pos HE.out]
    rw [hww,←HS.out.2.2.2]
    have hbW:Below w.heap.size w (wc.drewN nq):=below_drewN HA.out.2.1 _
    exact ⟨_,c,rfl,(HS.out.1.below hbW).more hbW.size,hc,hbW⟩
   ·have hdq:decide (q=p)=false:=decide_eq_false hqp
    rw [hdq] at heq
    have hww:withP l p=l.take a++(p::l.drop a):=by rw [HQ.out,if_neg hqp]
    have HE:=hide hww
    clear hqp hdq hww
    go_wp2_with fail
    go_quiet (fail)
    obtain ⟨W,hW⟩:∃W,W=wc.drewN nq:=⟨_,rfl⟩
    have hbW:Below w.heap.size w W:=by rw [hW];exact below_drewN HA.out.2.1 _
    have hslW:Sl encP 3 W w.heap.size (some ⟨bp,op,none⟩) l:=HS.out.1.below hbW
    have hbxW:Blk W w.heap.size 43 #[.int .i64 p.1, .int .i64 p.2.1, .int .i64 p.2.2]:=by rw [hW];exact HA.out.2.2.2.drewN _
    have hzW:=hbW.size
    have hzW1:=hbxW.lt
    have hta:(l.take a).length=a:=by rw [List.length_take];have:=HS.out.2.2.2;omega
    have htd:(l.drop a).length=n - a:=by rw [List.length_drop,←HS.out.2.2.2]
    have hrunH:∀V:World,(Instr.slice 28 (.slice (some ⟨bp,op,none⟩) n c) none (some (.int .i64 a)) none).run Tryz.prog V= .ok (.slice (some ⟨bp,op,none⟩) a c) V:=fun V=>run_cutH Tryz.underlying28 Tryz.sizeOf43 ha hc V
    have hrunL:∀V:World,(Instr.slice 28 (.slice (some ⟨bp,op,none⟩) n c) (some (.int .i64 a)) none none).run Tryz.prog V= .ok (.slice (cutA (some ⟨bp,op,none⟩) c a 3) (n - a) (c - a)) V:=fun V=>run_cut Tryz.underlying28 Tryz.sizeOf43 ha V
    have hslT:Sl encP 3 W w.heap.size (some ⟨bp,op,none⟩) (l.take a):=hslW.take8 a
    have hslD:Sl encP 3 W w.heap.size (cutA (some ⟨bp,op,none⟩) c a 3) (l.drop a):=hslW.cut (by rw [←HS.out.2.2.2];exact ha) (by rw [←HS.out.2.2.2];exact hc)
    obtain ⟨x0',x1',x2'⟩:=hbxW.three8
    have HT:=hide (And.intro hbW (And.intro hslT (And.intro hslD (And.intro hbxW (And.intro hta (And.intro htd hW))))))
    rw [←hW]
    clear hbW hslW hbxW hta htd hslT hslD hW
    go_upto_region 10 with (at_builtin;refine wpList_appendS rfl _ _ _ rfl Tryz.underlying28 infoPt rfl (by omega) encP_len encP_one rfl (Own.nil (base:=W.heap.size)) (some ⟨bp,op,none⟩) c w.heap.size (l.take a) (by rw [HT.out.2.2.2.2.1];rfl) HT.out.2.1 (by rw [HT.out.2.2.2.2.1];unfold maxLen;omega) (by rw [HT.out.2.2.2.2.1];omega) (Nat.le_refl _) ?_;intro v1 w1 hown1 hg1 hB1 hat1;rw [HT.out.2.2.2.2.1,Nat.zero_add,List.nil_append] at hown1;obtain ⟨A1,c1,rfl⟩:=hown1.form)
    have y0:=(hB1.cell (p:=⟨w.heap.size,0,none⟩) hzW1).trans x0'
    have y1:=(hB1.cell (p:=⟨w.heap.size,1,none⟩) hzW1).trans x1'
    have y2:=(hB1.cell (p:=⟨w.heap.size,2,none⟩) hzW1).trans x2'
    have HO1:=hide (And.intro hown1 hB1)
    have hz1:=hB1.size
    have hown1':=hown1.alloc (.cells #[.int .i64 p.1, .int .i64 p.2.1, .int .i64 p.2.2] 43)
    clear hown1 hg1 hB1 hat1 x0' x1' x2'
    go_upto_region 11 with (at_builtin;refine wpList_append1 rfl _ _ _ rfl Tryz.underlying28 infoPt rfl (by omega) encP_len encP_one rfl hown1' w1.heap.size 1 p rfl (Blk.new _ _ _) (by unfold maxLen;omega) (by omega) (by simp;omega) ?_;intro g2 cap2 w2 hown2 hg2 hB2 hat2 hgb2 hlt2)
    have hB12:Below W.heap.size W w2:=HO1.out.2.trans (((Below.refl _ w1).alloc (by omega) _).trans hB2)
    have hz2:=hB12.size
    have HO2:=hide (And.intro hown2 (And.intro hB12 (HT.out.2.2.1.below (hB12.mono hzW))))
    clear hown2 hg2 hB2 hat2 hown1' hB12 y0 y1 y2
    go_wp2_with (at_builtin;refine wpList_appendS rfl _ _ _ rfl Tryz.underlying28 infoPt rfl (by omega) encP_len encP_one rfl HO2.out.1 (cutA (some ⟨bp,op,none⟩) c a 3) (c - a) w.heap.size (l.drop a) (by rw [HT.out.2.2.2.2.2.1];rfl) HO2.out.2.2 (by rw [HT.out.2.2.2.2.2.1];unfold maxLen;omega) (by rw [HT.out.2.2.2.2.2.1];omega) hz2 ?_;intro v3 w3 hown3 hg3 hB3 hat3;obtain ⟨A3,c3,rfl⟩:=hown3.form)
    go_ret
    have hlen:a+1+(l.drop a).length=(withP l p).length:=by rw [hown3.1,HE.out];simp
    have hfin:Below w.heap.size w w3:=HT.out.1.trans ((HO2.out.2.1.mono hzW).trans (hB3.mono hzW))
    rw [List.append_assoc,List.singleton_append,←HE.out] at hown3
    refine ⟨A3,c3,?_,hown3.sl encP_len (Nat.le_refl _),?_,hfin⟩
    ·rw [←hlen,List.length_drop];rfl
    ·rw [←hlen];exact hown3.place.1
  ·have hd:decide (a < n)=false:=decide_eq_false hla
   have hww:withP l p=l.take a++(p::l.drop a):=by
    unfold withP
    rw [←HA.out.1,List.getElem?_eq_none (by rw [←HS.out.2.2.2];omega),if_neg (by simp)]
   have HE:=hide hww
   clear hww
   go_wp2_with fail
   go_quiet (fail)
   obtain ⟨W,hW⟩:∃W,W=wc.drewN nq:=⟨_,rfl⟩
   have hbW:Below w.heap.size w W:=by rw [hW];exact below_drewN HA.out.2.1 _
   have hslW:Sl encP 3 W w.heap.size A l:=HS.out.1.below hbW
   have hbxW:Blk W w.heap.size 43 #[.int .i64 p.1, .int .i64 p.2.1, .int .i64 p.2.2]:=by rw [hW];exact HA.out.2.2.2.drewN _
   have hzW:=hbW.size
   have hzW1:=hbxW.lt
   have hta:(l.take a).length=a:=by rw [List.length_take];have:=HS.out.2.2.2;omega
   have htd:(l.drop a).length=n - a:=by rw [List.length_drop,←HS.out.2.2.2]
   have hrunH:∀V:World,(Instr.slice 28 (.slice A n c) none (some (.int .i64 a)) none).run Tryz.prog V= .ok (.slice A a c) V:=fun V=>run_cutH Tryz.underlying28 Tryz.sizeOf43 ha hc V
   have hrunL:∀V:World,(Instr.slice 28 (.slice A n c) (some (.int .i64 a)) none none).run Tryz.prog V= .ok (.slice (cutA A c a 3) (n - a) (c - a)) V:=fun V=>run_cut Tryz.underlying28 Tryz.sizeOf43 ha V
   have hslT:Sl encP 3 W w.heap.size A (l.take a):=hslW.take8 a
   have hslD:Sl encP 3 W w.heap.size (cutA A c a 3) (l.drop a):=hslW.cut (by rw [←HS.out.2.2.2];exact ha) (by rw [←HS.out.2.2.2];exact hc)
   obtain ⟨x0',x1',x2'⟩:=hbxW.three8
   have HT:=hide (And.intro hbW (And.intro hslT (And.intro hslD (And.intro hbxW (And.intro hta (And.intro htd hW))))))
   rw [←hW]
   clear hbW hslW hbxW hta htd hslT hslD hW
   go_upto_region 10 with (at_builtin;refine wpList_appendS rfl _ _ _ rfl Tryz.underlying28 infoPt rfl (by omega) encP_len encP_one rfl (Own.nil (base:=W.heap.size)) A c w.heap.size (l.take a) (by rw [HT.out.2.2.2.2.1];rfl) HT.out.2.1 (by rw [HT.out.2.2.2.2.1];unfold maxLen;omega) (by rw [HT.out.2.2.2.2.1];omega) (Nat.le_refl _) ?_;intro v1 w1 hown1 hg1 hB1 hat1;rw [HT.out.2.2.2.2.1,Nat.zero_add,List.nil_append] at hown1;obtain ⟨A1,c1,rfl⟩:=hown1.form)
   have y0:=(hB1.cell (p:=⟨w.heap.size,0,none⟩) hzW1).trans x0'
   have y1:=(hB1.cell (p:=⟨w.heap.size,1,none⟩) hzW1).trans x1'
   have y2:=(hB1.cell (p:=⟨w.heap.size,2,none⟩) hzW1).trans x2'
   have HO1:=hide (And.intro hown1 hB1)
   have hz1:=hB1.size
   have hown1':=hown1.alloc (.cells #[.int .i64 p.1, .int .i64 p.2.1, .int .i64 p.2.2] 43)
   clear hown1 hg1 hB1 hat1 x0' x1' x2'
   go_upto_region 11 with (at_builtin;refine wpList_append1 rfl _ _ _ rfl Tryz.underlying28 infoPt rfl (by omega) encP_len encP_one rfl hown1' w1.heap.size 1 p rfl (Blk.new _ _ _) (by unfold maxLen;omega) (by omega) (by simp;omega) ?_;intro g2 cap2 w2 hown2 hg2 hB2 hat2 hgb2 hlt2)
   have hB12:Below W.heap.size W w2:=HO1.out.2.trans (((Below.refl _ w1).alloc (by omega) _).trans hB2)
   have hz2:=hB12.size
   have HO2:=hide (And.intro hown2 (And.intro hB12 (HT.out.2.2.1.below (hB12.mono hzW))))
   clear hown2 hg2 hB2 hat2 hown1' hB12 y0 y1 y2
   go_wp2_with (at_builtin;refine wpList_appendS rfl _ _ _ rfl Tryz.underlying28 infoPt rfl (by omega) encP_len encP_one rfl HO2.out.1 (cutA A c a 3) (c - a) w.heap.size (l.drop a) (by rw [HT.out.2.2.2.2.2.1];rfl) HO2.out.2.2 (by rw [HT.out.2.2.2.2.2.1];unfold maxLen;omega) (by rw [HT.out.2.2.2.2.2.1];omega) hz2 ?_;intro v3 w3 hown3 hg3 hB3 hat3;obtain ⟨A3,c3,rfl⟩:=hown3.form)
   go_ret
   have hlen:a+1+(l.drop a).length=(withP l p).length:=by rw [hown3.1,HE.out];simp
   have hfin:Below w.heap.size w w3:=HT.out.1.trans ((HO2.out.2.1.mono hzW).trans (hB3.mono hzW))
   rw [List.append_assoc,List.singleton_append,←HE.out] at hown3
   refine ⟨A3,c3,?_,hown3.sl encP_len (Nat.le_refl _),?_,hfin⟩
   ·rw [←hlen,List.length_drop];rfl
   ·rw [←hlen];exact hown3.place.1
end Go.Proofs.YtmemofonebphfaaGreat
namespace Go.Proofs.YtmemofonebphfaaGreat
open Go.RowKit Go.Sort
def corN (l:List Pt) (t:Tri) (j:Nat):List Pt:=if j=0 then l else if j=1 then withP l t.1 else if j=2 then withP (withP l t.1) t.2.1 else withP (withP (withP l t.1) t.2.1) t.2.2
theorem corN_succ (l:List Pt) (t:Tri) {j:Nat} (hj:j < 3):withP (corN l t j) (corner t j)=corN l t (j+1):=by
 have hc:j=0∨j=1∨j=2:=by omega
 rcases hc with rfl | rfl | rfl <;>rfl
def cornersP (ts:List Tri):List Pt:=ts.foldl (fun l t=>corN l t 3) []
theorem cornersP_snoc (ts:List Tri) (k:Nat) (t:Tri) (h:ts[k]? =some t):cornersP (ts.take (k+1))=corN (cornersP (ts.take k)) t 3:=by
 unfold cornersP
 rw [List.take_add_one,h,Option.toList_some,List.foldl_append]
 rfl
theorem corner_fits {t:Tri} (h:fitsT t) (j:Nat):fitsP (corner t j):=by
 unfold corner
 split
 ·exact h.1
 ·split
  ·exact h.2.1
  ·exact h.2.2
theorem CellsT.corner8 {w:World} {b o:Nat} {t:Tri} (h:CellsT w b o t) {j:Nat} (hj:j < 3):
  w.cell? ⟨b,o+j*3,none⟩=some (.int .i64 (corner t j).1)∧w.cell? ⟨b,o+j*3+1,none⟩=some (.int .i64 (corner t j).2.1)∧w.cell? ⟨b,o+j*3+2,none⟩=some (.int .i64 (corner t j).2.2):=by
 obtain ⟨h0,h1,h2,h3,h4,h5,h6,h7,h8⟩:=h
 have hc:j=0∨j=1∨j=2:=by omega
 rcases hc with rfl | rfl | rfl
 ·exact ⟨h0,h1,h2⟩
 ·exact ⟨h3,h4,h5⟩
 ·exact ⟨h6,h7,h8⟩
set_option maxRecDepth 100000 in
set_option maxHeartbeats 8000000 in
theorem corners_any (A:Option Addr) (c:Nat) (ts:List Tri) (w:World) (hs:Sl encT 9 w w.heap.size A ts) (hl:ts.length≤1073741824) (hf:∀t∈ts,fitsT t):
  Calls Tryz.prog 71 #[.slice A ts.length c] w fun e w'=>∃A' c',e= .returned (.slice A' (cornersP ts).length c')∧Sl encP 3 w' w'.heap.size A' (cornersP ts)∧(cornersP ts).length≤c'∧Below w.heap.size w w'∧∀p∈cornersP ts,fitsP p:=by
 obtain ⟨n,hn⟩:∃n,n=ts.length:=⟨_,rfl⟩
 rw [←hn] at hl⊢
 have HS:=hide (And.intro hs (And.intro hf hn))
 clear hs hf hn
 go_enter Tryz.func71,Tryz.ntmps71
 go_wp2
 go_loopw [3,4] (fun v iv wr=>∃(k:Nat) (A':Option Addr) (l c':Nat),k≤n∧iv= .int .i64 k∧v= .slice A' l c'∧l=(cornersP (ts.take k)).length∧l≤3*k∧Sl encP 3 wr wr.heap.size A' (cornersP (ts.take k))∧l≤c'∧(∀p∈cornersP (ts.take k),fitsP p)∧Below w.heap.size w wr) (fun _ iv _=>n - (intOf iv).toNat)
 case atStart=>exact ⟨0,none,0,0,by omega,rfl,rfl,rfl,by omega, .inl ⟨rfl,rfl⟩,Nat.le_refl _,fun p hp=>absurd hp (by simp [cornersP]),Below.refl _ w⟩
 case round=>
  obtain ⟨k,A1,l1,c1,hk,rfl,rfl,hl1,hl3,hs1,hc1,hf1,hB⟩:=hrel
  have hz:=hB.size
  by_cases hlt:k < n
  ·obtain ⟨t,ht⟩:∃t,ts[k]? =some t:=⟨_,List.getElem?_eq_getElem (by rw [←HS.out.2.2];exact hlt)⟩
   have i1:(k:Int) < (n:Int):=by omega
   have HK:=hide (And.intro hl1 (And.intro hs1 (And.intro hf1 (And.intro hB (And.intro ht (HS.out.2.1 t (List.mem_of_getElem? ht)))))))
   clear hl1 hs1 hf1 hB ht
   go_wp2
   go_loopw [3,5] (fun v jv wx=>∃(j:Nat) (A':Option Addr) (l c':Nat),j≤3∧jv= .int .i64 j∧v= .slice A' l c'∧l=(corN (cornersP (ts.take k)) t j).length∧l≤3*k+j∧Sl encP 3 wx wx.heap.size A' (corN (cornersP (ts.take k)) t j)∧l≤c'∧(∀p∈corN (cornersP (ts.take k)) t j,fitsP p)∧Below w.heap.size w wx) (fun _ jv _=>3 - (intOf jv).toNat)
   case atStart=>exact ⟨0,A1,l1,c1,by omega,rfl,rfl,HK.out.1,by omega,HK.out.2.1,hc1,HK.out.2.2.1,HK.out.2.2.2.1⟩
   case round=>
    obtain ⟨j,A2,l2,c2,hj,rfl,rfl,hl2,hl4,hs2,hc2,hf2,hB2⟩:=hrel
    have hz2:=hB2.size
    by_cases hlt2:j < 3
    ·have i2:(j:Int) < 3:=by omega
     obtain ⟨b,o,hA,hb,hct⟩:=(HS.out.1.below hB2).tri HK.out.2.2.2.2.1
     subst hA
     obtain ⟨g0,g1,g2⟩:=hct.corner8 hlt2
     have hfp:=corner_fits HK.out.2.2.2.2.2 j
     have hcal:=with_any A2 c2 (corN (cornersP (ts.take k)) t j) (corner t j) wr hs2 (by omega) (by omega) hfp hf2
     rw [corN_succ _ _ hlt2,←hl2] at hcal
     have hwl:=withP_length (corN (cornersP (ts.take k)) t j) (corner t j)
     rw [corN_succ _ _ hlt2,←hl2] at hwl
     have hfn:∀p∈corN (cornersP (ts.take k)) t (j+1),fitsP p:=fun p hp=>by
      rw [←corN_succ _ _ hlt2] at hp
      rcases withP_mem hp with h | h
      ·exact hf2 p h
      ·rw [h];exact hfp
     have HJ:=hide (And.intro hcal (And.intro hwl (And.intro hfn hB2)))
     clear hct hcal hwl hfn hs2 hf2 hB2 hl2 hfp
     go_wp2_with fail
     refine HJ.out.1.mono ?_
     rintro e w3 ⟨A3,c3,rfl,hs3,hc3,hB3⟩
     obtain ⟨l3,hl3'⟩:∃l3,l3=(corN (cornersP (ts.take k)) t (j+1)).length:=⟨_,rfl⟩
     rw [←hl3'] at hc3⊢
     have HR:=hide (And.intro hs3 (And.intro hl3' hB3))
     clear hs3 hl3' hB3 g0 g1 g2
     go_wp2_with fail
     go_roundw
     case rel=>exact ⟨j+1,A3,l3,c3,by omega,by go_num,rfl,HR.out.2.1,by have:=HJ.out.2.1;have:=HR.out.2.1;omega,HR.out.1,hc3,HJ.out.2.2.1,HJ.out.2.2.2.trans (HR.out.2.2.mono hz2)⟩
     case measure=>simp [intOf];omega
    ·have hj3:j=3:=by omega
     subst hj3
     have HJ:=hide (And.intro hl2 (And.intro hs2 (And.intro hf2 hB2)))
     clear hl2 hs2 hf2 hB2
     go_wp2
     go_roundw
     case rel=>exact ⟨k+1,A2,l2,c2,by omega,by go_num,rfl,by rw [cornersP_snoc _ _ _ HK.out.2.2.2.2.1];exact HJ.out.1,by omega,by rw [cornersP_snoc _ _ _ HK.out.2.2.2.2.1];exact HJ.out.2.1,hc2,by rw [cornersP_snoc _ _ _ HK.out.2.2.2.2.1];exact HJ.out.2.2.1,HJ.out.2.2.2⟩
     case measure=>simp [intOf];omega
  ·have hke:k=ts.length:=by rw [←HS.out.2.2];omega
   rw [hke,List.take_length] at hl1 hs1 hf1
   have hkn:n=k:=by omega
   have HE:=hide (And.intro hl1 (And.intro hs1 (And.intro hf1 hB)))
   clear hl1 hs1 hf1 hB hke
   subst hkn
   go_wp2
   go_ret
   exact ⟨A1,c1,by rw [←HE.out.1];rfl,HE.out.2.1,by rw [←HE.out.1];exact hc1,HE.out.2.2.2,HE.out.2.2.1⟩
end Go.Proofs.YtmemofonebphfaaGreat
namespace Go.Proofs.YtmemofonebphfaaGreat
open Go.RowKit Go.Sort
abbrev Ed:=Pt × Pt
def encE (e:Ed):List Value:= [.int .i64 e.1.1, .int .i64 e.1.2.1, .int .i64 e.1.2.2, .int .i64 e.2.1, .int .i64 e.2.2.1, .int .i64 e.2.2.2]
abbrev vE (e:Ed):Value:= .agg #[.int .i64 e.1.1, .int .i64 e.1.2.1, .int .i64 e.1.2.2, .int .i64 e.2.1, .int .i64 e.2.2.1, .int .i64 e.2.2.2]
theorem encE_len (e:Ed):(encE e).length=6:=rfl
theorem encE_one (e:Ed):∀u∈encE e,u.oneCell'=true:=by
 intro u hu
 simp only [encE,List.mem_cons,List.not_mem_nil,or_false] at hu
 rcases hu with rfl | rfl | rfl | rfl | rfl | rfl <;>rfl
theorem infoE:(Tryz.prog.info? 170).map (fun i=>(i.zero,i.size,i.bytes))=some (some (.agg #[.int .i64 0, .int .i64 0, .int .i64 0, .int .i64 0, .int .i64 0, .int .i64 0]),6,48):=by kernel_rfl
def fitsE (e:Ed):Prop:=fitsP e.1∧fitsP e.2
set_option maxRecDepth 100000 in
theorem litsE (e:Ed) (he:fitsE e):Tryz.prog.keyLits 3 170 (encE e)=some [.int .i64 e.1.1, .int .i64 e.1.2.1, .int .i64 e.1.2.2, .int .i64 e.2.1, .int .i64 e.2.2.1, .int .i64 e.2.2.2]:=by
 have c:Tryz.prog.cellsOf 43=3:=by kernel_rfl
 have c9:Tryz.prog.cellsOf 170=6:=by kernel_rfl
 have h0:=litsP e.1 he.1
 have h1:=litsP e.2 he.2
 unfold Program.keyLits
 simp [encE,Tryz.underlying170,c,c9,List.range_succ,h0,h1]
set_option maxRecDepth 100000 in
theorem eqE (a b:Ed) (ha:fitsE a) (hb:fitsE b) (w:World):(Op.equalIn 10000 170 (vE a) (vE b)).run Tryz.prog w= .ok (decide (a=b)) w:=by
 have c:Tryz.prog.cellsOf 170=6:=by kernel_rfl
 obtain ⟨r,hr,he⟩:=run_equalIn_deep (P:=Tryz.prog) 9997 3 170 (by kernel_rfl) w 3 3 (vE a) (vE b) _ _ (by simp [Value.formed,Tryz.underlying170,c]) (by simp [Value.formed,Tryz.underlying170,c]) (litsE a ha) (litsE b hb)
 rw [hr]
 have:r=decide (a=b):=by
  rw [Bool.eq_iff_iff,he]
  obtain ⟨⟨a1,a2,a3⟩,a4,a5,a6⟩:=a
  obtain ⟨⟨b1,b2,b3⟩,b4,b5,b6⟩:=b
  simp [and_assoc]
 rw [this]
section
variable {α:Type} {enc:α→List Value} {k B:Nat}
theorem Sl.of_blk (hk:∀x,(enc x).length=k) {w:World} {g:Nat} {t:TypeId} {ys:List α} (h:Blk w g t (ys.flatMap enc).toArray) (hg:g < B):Sl enc k w B (some ⟨g,0,none⟩) ys:=by
 refine .inr ⟨g,0,rfl,hg,fun i x hi j u hu=> ?_⟩
 rw [show 0+i*k+j=i*k+j by omega,h.cell]
 have:=flat_get hk ys i x hi j u hu
 simpa using this
end
def edges3 (t:Tri):List Ed:= [(t.1,t.2.1),(t.2.1,t.2.2),(t.2.2,t.1)]
def edgesP (ts:List Tri):List Ed:=ts.flatMap edges3
theorem edgesP_length (ts:List Tri):(edgesP ts).length=3*ts.length:=by
 unfold edgesP
 induction ts with
 | nil=>rfl
 | cons t ts ih=>rw [List.flatMap_cons,List.length_append,ih,List.length_cons];simp [edges3];omega
theorem edgesP_snoc (ts:List Tri) (k:Nat) (t:Tri) (h:ts[k]? =some t):edgesP (ts.take (k+1))=edgesP (ts.take k)++edges3 t:=by
 unfold edgesP
 rw [List.take_add_one,h,Option.toList_some,List.flatMap_append,List.flatMap_singleton]
theorem edgesP_fits {ts:List Tri} (h:∀t∈ts,fitsT t):∀e∈edgesP ts,fitsE e:=by
 intro e he
 obtain ⟨t,ht,he⟩:=List.mem_flatMap.1 he
 have hf:=h t ht
 simp only [edges3,List.mem_cons,List.not_mem_nil,or_false] at he
 rcases he with rfl | rfl | rfl
 ·exact ⟨hf.1,hf.2.1⟩
 ·exact ⟨hf.2.1,hf.2.2⟩
 ·exact ⟨hf.2.2,hf.1⟩
set_option maxRecDepth 100000 in
set_option maxHeartbeats 8000000 in
theorem edges_any (A:Option Addr) (c:Nat) (ts:List Tri) (w:World) (hs:Sl encT 9 w w.heap.size A ts) (hl:ts.length≤1073741824):
  Calls Tryz.prog 122 #[.slice A ts.length c] w fun e w'=>∃v,e= .returned v∧Own encE 6 170 w' w.heap.size v (edgesP ts).length (edgesP ts)∧Below w.heap.size w w':=by
 obtain ⟨n,hn⟩:∃n,n=ts.length:=⟨_,rfl⟩
 rw [←hn] at hl⊢
 have HS:=hide (And.intro hs hn)
 clear hs hn
 go_enter Tryz.func122,Tryz.ntmps122
 go_wp2
 go_loopw [3,4] (fun v iv wr=>∃k:Nat,k≤n∧iv= .int .i64 k∧Own encE 6 170 wr w.heap.size v (3*k) (edgesP (ts.take k))∧Below w.heap.size w wr) (fun _ iv _=>n - (intOf iv).toNat)
 case atStart=>exact ⟨0,by omega,rfl,Own.nil,Below.refl _ w⟩
 case round=>
  obtain ⟨k,hk,rfl,hown,hB⟩:=hrel
  obtain ⟨A1,c1,rfl⟩:=hown.form
  have hz:=hB.size
  by_cases hlt:k < n
  ·obtain ⟨t,ht⟩:∃t,ts[k]? =some t:=⟨_,List.getElem?_eq_getElem (by rw [←HS.out.2];exact hlt)⟩
   have i1:(k:Int) < (n:Int):=by omega
   obtain ⟨b,o,hA,hb,g0,g1,g2,g3,g4,g5,g6,g7,g8⟩:=(HS.out.1.below hB).tri ht
   subst hA
   have HK:=hide (And.intro hown (And.intro hB ht))
   have hown1:=(hown.alloc (.cells (encT t).toArray 46)).alloc (.cells (edges3 t |>.flatMap encE).toArray 170)
   clear hown hB ht
   go_wp2_with (at_builtin;refine wpList_appendS rfl _ _ _ rfl Tryz.underlying167 infoE rfl (by omega) encE_len encE_one rfl hown1 (some ⟨wr.heap.size+1,0,none⟩) 3 (wr.heap.size+2) (edges3 t) rfl (Sl.of_blk encE_len (Blk.new' _ _ _ _ (by simp)) (by omega)) (by unfold maxLen;simp [edges3];omega) (by simp [edges3];omega) (by simp;omega) ?_;intro v2 w2 hown2 hg2 hB2 hat2)
   go_roundw
   case rel=>exact ⟨k+1,by omega,by go_num,by rw [edgesP_snoc _ _ _ HK.out.2.2];exact hown2,((HK.out.2.1.alloc (by omega) _).alloc (by simp;omega) _).trans hB2⟩
   case measure=>simp [intOf];omega
  ·have hke:k=ts.length:=by rw [←HS.out.2];omega
   have hle:=edgesP_length ts
   rw [hke,List.take_length,←hle] at hown
   have hkn:n=k:=by omega
   have HE:=hide (And.intro hown (And.intro hB hle))
   clear hown hB hle hke
   subst hkn
   go_wp2
   go_ret
   exact ⟨_,by rw [show 3*n=(edgesP ts).length by rw [HE.out.2.2,←HS.out.2]];rfl,HE.out.1,HE.out.2.1⟩
end Go.Proofs.YtmemofonebphfaaGreat
namespace Go.Proofs.YtmemofonebphfaaGreat
open Go.RowKit Go.Sort
theorem Sl.ed {w:World} {B b o:Nat} {es:List Ed} (h:Sl encE 6 w B (some ⟨b,o,none⟩) es) {i:Nat} {e:Ed} (hi:es[i]? =some e):
  w.cell? ⟨b,o+i*6,none⟩=some (.int .i64 e.1.1)∧w.cell? ⟨b,o+i*6+1,none⟩=some (.int .i64 e.1.2.1)∧w.cell? ⟨b,o+i*6+2,none⟩=some (.int .i64 e.1.2.2)∧w.cell? ⟨b,o+i*6+3,none⟩=some (.int .i64 e.2.1)∧w.cell? ⟨b,o+i*6+4,none⟩=some (.int .i64 e.2.2.1)∧w.cell? ⟨b,o+i*6+5,none⟩=some (.int .i64 e.2.2.2):=by
 obtain ⟨b',o',ha,_,hc⟩:=h.at hi
 cases ha
 exact ⟨hc 0 _ rfl,hc 1 _ rfl,hc 2 _ rfl,hc 3 _ rfl,hc 4 _ rfl,hc 5 _ rfl⟩
theorem Blk.six {w:World} {g:Nat} {t:TypeId} {e:Ed} (h:Blk w g t (encE e).toArray):
  w.cell? ⟨g,0,none⟩=some (.int .i64 e.1.1)∧w.cell? ⟨g,1,none⟩=some (.int .i64 e.1.2.1)∧w.cell? ⟨g,2,none⟩=some (.int .i64 e.1.2.2)∧w.cell? ⟨g,3,none⟩=some (.int .i64 e.2.1)∧w.cell? ⟨g,4,none⟩=some (.int .i64 e.2.2.1)∧w.cell? ⟨g,5,none⟩=some (.int .i64 e.2.2.2):=
 ⟨h.cell 0,h.cell 1,h.cell 2,h.cell 3,h.cell 4,h.cell 5⟩
def cntE (l:List Ed) (e:Ed):Nat:=l.countP fun x=>decide (x=e)
theorem cntE_snoc (l:List Ed) (e x:Ed) (k:Nat) (h:l[k]? =some x):cntE (l.take (k+1)) e=cntE (l.take k) e+if x=e then 1 else 0:=by
 unfold cntE
 rw [List.take_add_one,h,Option.toList_some,List.countP_append,List.countP_singleton]
 simp
set_option maxRecDepth 100000 in
set_option maxHeartbeats 8000000 in
theorem count_any (A:Option Addr) (c:Nat) (l:List Ed) (e:Ed) (w:World) (hs:Sl encE 6 w w.heap.size A l) (hl:l.length≤4294967296) (he:fitsE e) (hf:∀x∈l,fitsE x):
  Calls Tryz.prog 123 #[.slice A l.length c,vE e] w fun r w'=>r= .returned (.int .i64 (cntE l e:Nat))∧Below w.heap.size w w':=by
 obtain ⟨n,hn⟩:∃n,n=l.length:=⟨_,rfl⟩
 rw [←hn] at hl⊢
 have HS:=hide (And.intro hs (And.intro he (And.intro hf hn)))
 clear hs he hf hn
 go_enter Tryz.func123,Tryz.ntmps123
 go_wp2
 obtain ⟨X,hX⟩:∃X,X=w.alloc (.cells #[.int .i64 e.1.1, .int .i64 e.1.2.1, .int .i64 e.1.2.2, .int .i64 e.2.1, .int .i64 e.2.2.1, .int .i64 e.2.2.2] 170):=⟨_,rfl⟩
 rw [←hX]
 have hBX:Below w.heap.size w X:=by rw [hX];exact (Below.refl _ w).alloc (Nat.le_refl _) _
 have hbx:Blk X w.heap.size 170 (encE e).toArray:=by rw [hX];exact Blk.new _ _ _
 have hzX:X.heap.size=w.heap.size+1:=by rw [hX];simp
 have HX:=hide (And.intro hBX hbx)
 clear hBX hbx hX
 go_loopw [5,6] (fun v iv wr=>∃k q:Nat,k≤n∧iv= .int .i64 k∧v= .int .i64 (cntE (l.take k) e:Nat)∧cntE (l.take k) e≤k∧wr=X.drewN q) (fun _ iv _=>n - (intOf iv).toNat)
 case atStart=>exact ⟨0,0,by omega,rfl,rfl,by simp [cntE],rfl⟩
 case round=>
  obtain ⟨k,q,hk,rfl,rfl,hck,rfl⟩:=hrel
  obtain ⟨m,hm⟩:∃m,m=cntE (l.take k) e:=⟨_,rfl⟩
  rw [←hm] at hck⊢
  by_cases hlt:k < n
  ·obtain ⟨x,hx⟩:∃x,l[k]? =some x:=⟨_,List.getElem?_eq_getElem (by rw [←HS.out.2.2.2];exact hlt)⟩
   have i1:(k:Int) < (n:Int):=by omega
   obtain ⟨b,o,hA,hb,_⟩:=HS.out.1.at hx
   subst hA
   have hslX:Sl encE 6 X w.heap.size (some ⟨b,o,none⟩) l:=HS.out.1.below HX.out.1
   obtain ⟨g0,g1,g2,g3,g4,g5⟩:=hslX.ed hx
   obtain ⟨y0,y1,y2,y3,y4,y5⟩:=HX.out.2.six
   have heq:=eqE x e (HS.out.2.2.1 x (List.mem_of_getElem? hx)) HS.out.2.1
   have hsn:=cntE_snoc l e x k hx
   rw [←hm] at hsn
   have HK:=hide (And.intro hm (And.intro hx hsn))
   clear hslX hm hx hsn
   by_cases hxe:x=e
   ·have hd:decide (x=e)=true:=decide_eq_true hxe
    rw [hd] at heq
    have HE:=hide hxe
    clear hxe hd
    go_wp2_with fail
    go_quiet (fail)
    go_wp2
    go_roundw
    case rel=>
     have h1:=HK.out.2.2
     rw [if_pos HE.out] at h1
     exact ⟨k+1,q+nq,by omega,by go_num,by rw [h1];go_num,by omega,rfl⟩
    case measure=>simp [intOf];omega
   ·have hd:decide (x=e)=false:=decide_eq_false hxe
    rw [hd] at heq
    have HE:=hide hxe
    clear hxe hd
    go_wp2_with fail
    go_quiet (fail)
    go_wp2
    go_roundw
    case rel=>
     have h1:=HK.out.2.2
     rw [if_neg HE.out] at h1
     exact ⟨k+1,q+nq,by omega,by go_num,by rw [h1];rfl,by omega,rfl⟩
    case measure=>simp [intOf];omega
  ·have hke:k=l.length:=by rw [←HS.out.2.2.2];omega
   rw [hke,List.take_length] at hm
   have hkn:n=k:=by omega
   have HE:=hide hm
   clear hm hke
   subst hkn
   go_wp2
   go_ret
   exact ⟨by rw [←HE.out];rfl,below_drewN HX.out.1 _⟩
def ltE (a b:Ed):Bool:=if a.1=b.1 then ltP a.2 b.2 else ltP a.1 b.1
set_option maxRecDepth 100000 in
set_option maxHeartbeats 8000000 in
theorem lessEdge_any (a b:Ed) (w:World) (ha:fitsE a) (hb:fitsE b):
  Calls Tryz.prog 149 #[vE a,vE b] w fun r w'=>r= .returned (.bool (ltE a b))∧Lay w w':=by
 have heq:=eqP a.1 b.1 ha.1 hb.1
 have hlt:ltE a b=if a.1=b.1 then ltP a.2 b.2 else ltP a.1 b.1:=rfl
 clear ha hb
 by_cases he:a.1=b.1
 ·have hd:decide (a.1=b.1)=true:=decide_eq_true he
  rw [hd] at heq
  rw [if_pos he] at hlt
  rw [hlt]
  clear he hd hlt
  go_enter Tryz.func149,Tryz.ntmps149
  go_wp2_with (go_at_call 90;refine (rless_any a.2 b.2 _).mono ?_;rintro e w3 ⟨rfl,hL⟩)
  go_ret
  exact ⟨rfl,(((Lay.refl _).alloc _).alloc _).trans hL⟩
 ·have hd:decide (a.1=b.1)=false:=decide_eq_false he
  rw [hd] at heq
  rw [if_neg he] at hlt
  rw [hlt]
  clear he hd hlt
  go_enter Tryz.func149,Tryz.ntmps149
  go_wp2_with (go_at_call 90;refine (rless_any a.1 b.1 _).mono ?_;rintro e w3 ⟨rfl,hL⟩)
  go_ret
  exact ⟨rfl,(((Lay.refl _).alloc _).alloc _).trans hL⟩
end Go.Proofs.YtmemofonebphfaaGreat
namespace Go.Proofs.YtmemofonebphfaaGreat
open Go.RowKit Go.Sort
def atE (l:List Ed) (e:Ed):Nat:=(l.takeWhile fun x=>ltE x e).length
def insE (l:List Ed) (e:Ed):List Ed:=l.take (atE l e)++(e::l.drop (atE l e))
theorem atE_eq {l:List Ed} {p:Ed} {a:Nat} (ha:a≤l.length) (hlo:∀j q,j < a→l[j]? =some q→ltE q p=true) (hhi:∀q,l[a]? =some q→ltE q p=false):a=atE l p:=by
 unfold atE
 induction l generalizing a with
 | nil=>simpa using ha
 | cons x l ih=>
  cases a with
  | zero=>
   have:=hhi x rfl
   simp [this]
  | succ a=>
   have h0:=hlo 0 x (by omega) rfl
   rw [List.takeWhile_cons,h0,if_pos rfl,List.length_cons]
   rw [←ih (a:=a) (by simpa using ha) (fun j q hj hq=>hlo (j+1) q (by omega) (by simpa using hq)) (fun q hq=>hhi q (by simpa using hq))]
def swapE (e:Ed):Ed:=(e.2,e.1)
def bordS (all out:List Ed) (e:Ed):List Ed:=if 0 < cntE all (swapE e)∨0 < cntE out e then out else insE out e
def bordP (all:List Ed):List Ed:=all.foldl (bordS all) []
def borderP (ts:List Tri):List Ed:=bordP (edgesP ts)
theorem insE_mem {l:List Ed} {e x:Ed} (h:x∈insE l e):x∈l∨x=e:=by
 unfold insE at h
 rcases List.mem_append.1 h with h | h
 ·exact .inl (List.mem_of_mem_take h)
 ·rcases List.mem_cons.1 h with h | h
  ·exact .inr h
  ·exact .inl (List.mem_of_mem_drop h)
theorem bord_snoc (all:List Ed) (k:Nat) (e:Ed) (h:all[k]? =some e):(all.take (k+1)).foldl (bordS all) []=bordS all ((all.take k).foldl (bordS all) []) e:=by
 rw [List.take_add_one,h,Option.toList_some,List.foldl_append]
 rfl
structure BdS (w0:Nat) (w wr:World) (ab:Nat) (all out:List Ed) (A':Option Addr) (lo c':Nat):Prop where
 len:lo=out.length
 sl:Sl encE 6 wr wr.heap.size A' out
 cap:lo≤c'
 fit:∀x∈out,fitsE x
 bel:Below w0 w wr
 big:ab≤wr.heap.size
theorem BdS.step {w0:Nat} {w wr w2:World} {ab:Nat} {all out:List Ed} {A':Option Addr} {lo c':Nat} (h:BdS w0 w wr ab all out A' lo c') (hB:Below wr.heap.size wr w2) (h0:w0≤ab:=by omega):BdS w0 w w2 ab all out A' lo c':=
 ⟨h.len,(h.sl.below hB).more hB.size,h.cap,h.fit,h.bel.trans (hB.mono (by have:=h.big;omega)),by have:=h.big;have:=hB.size;omega⟩
set_option maxRecDepth 100000 in
set_option maxHeartbeats 8000000 in
theorem border_any (A:Option Addr) (c:Nat) (ts:List Tri) (w:World) (hs:Sl encT 9 w w.heap.size A ts) (hl:ts.length≤1073741824) (hf:∀t∈ts,fitsT t):
  Calls Tryz.prog 124 #[.slice A ts.length c] w fun e w'=>∃A' c',e= .returned (.slice A' (borderP ts).length c')∧Sl encE 6 w' w'.heap.size A' (borderP ts)∧(borderP ts).length≤c'∧Below w.heap.size w w':=by
 have hed:=edges_any A c ts w hs hl
 have hfe:=edgesP_fits hf
 have hle:=edgesP_length ts
 obtain ⟨all,hall⟩:∃all,all=edgesP ts:=⟨_,rfl⟩
 have hbp:borderP ts=all.foldl (bordS all) []:=by unfold borderP bordP;rw [hall]
 rw [←hall] at hed hfe hle
 obtain ⟨B,hB⟩:∃B,B=borderP ts:=⟨_,rfl⟩
 rw [←hB] at hbp⊢
 obtain ⟨n,hn⟩:∃n,n=all.length:=⟨_,rfl⟩
 rw [←hn] at hle hed
 have hnb:n≤3221225472:=by omega
 obtain ⟨tl,htl⟩:∃tl,tl=ts.length:=⟨_,rfl⟩
 rw [←htl] at hed⊢
 have HS:=hide (And.intro hed (And.intro hfe (And.intro hbp hn)))
 clear hs hf hed hfe hbp hall hB hle hn htl hl
 go_enter Tryz.func124,Tryz.ntmps124
 go_wp2_with fail
 refine HS.out.1.mono ?_
 rintro e w1 ⟨v1,rfl,hown1,hB1⟩
 obtain ⟨A1,c1,rfl⟩:=hown1.form
 have hz1:=hB1.size
 have H1:=hide (And.intro (hown1.sl encE_len (Nat.le_refl _)) hB1)
 clear hown1 hB1
 go_wp2
 go_loopw [4,5] (fun v iv wr=>∃(k:Nat) (A':Option Addr) (lo c':Nat),k≤n∧iv= .int .i64 k∧v= .slice A' lo c'∧lo≤k∧BdS w1.heap.size w1 wr w1.heap.size all ((all.take k).foldl (bordS all) []) A' lo c') (fun _ iv _=>n - (intOf iv).toNat)
 case atStart=>exact ⟨0,none,0,0,by omega,rfl,rfl,by omega,⟨rfl, .inl ⟨rfl,rfl⟩,Nat.le_refl _,fun x hx=>absurd hx (by simp),Below.refl _ w1,Nat.le_refl _⟩⟩
 case round=>
  obtain ⟨V0,rfl⟩:∃V0,V0=wr:=⟨_,rfl⟩
  obtain ⟨k,A2,lo,c2,hk,rfl,rfl,hlo,hI⟩:=hrel
  obtain ⟨out,hout⟩:∃out,out=(all.take k).foldl (bordS all) []:=⟨_,rfl⟩
  rw [←hout] at hI
  have hzr:=hI.big
  by_cases hlt:k < n
  ·obtain ⟨x,hx⟩:∃x,all[k]? =some x:=⟨_,List.getElem?_eq_getElem (by rw [←HS.out.2.2.2];exact hlt)⟩
   have i1:(k:Int) < (n:Int):=by omega
   have hfx:=HS.out.2.1 x (List.mem_of_getElem? hx)
   have hsn:=bord_snoc all k x hx
   rw [←hout] at hsn
   have hsa:Sl encE 6 V0 w1.heap.size A1 all:=H1.out.1.below hI.bel
   obtain ⟨b,o,hA,hb,_⟩:=hsa.at hx
   subst hA
   obtain ⟨g0,g1,g2,g3,g4,g5⟩:=hsa.ed hx
   obtain ⟨X,hX⟩:∃X,X=V0.alloc (.cells #[.int .i64 x.1.1, .int .i64 x.1.2.1, .int .i64 x.1.2.2, .int .i64 x.2.1, .int .i64 x.2.2.1, .int .i64 x.2.2.2] 170):=⟨_,rfl⟩
   have hBX:Below V0.heap.size V0 X:=by rw [hX];exact (Below.refl _ V0).alloc (Nat.le_refl _) _
   have hbx:Blk X V0.heap.size 170 (encE x).toArray:=by rw [hX];exact Blk.new _ _ _
   have hzX:X.heap.size=V0.heap.size+1:=by rw [hX];simp
   have hc1:=count_any (some ⟨b,o,none⟩) c1 all (swapE x) X ((hsa.below (hBX.mono hzr)).more (by omega)) (by rw [←HS.out.2.2.2];omega) ⟨hfx.2,hfx.1⟩ HS.out.2.1
   have hc2:=fun W (hW:Below X.heap.size X W)=>count_any A2 c2 out x W (((hI.sl.below hBX).below (hW.mono (by omega))).more (by have:=hW.size;omega)) (by rw [←hI.len];omega) hfx hI.fit
   rw [←HS.out.2.2.2] at hc1
   rw [←hI.len] at hc2
   obtain ⟨m1,hm1⟩:∃m,m=cntE all (swapE x):=⟨_,rfl⟩
   obtain ⟨m2,hm2⟩:∃m,m=cntE out x:=⟨_,rfl⟩
   rw [←hm1] at hc1
   rw [←hm2] at hc2
   have hbs:bordS all out x=if 0 < m1∨0 < m2 then out else insE out x:=by unfold bordS;rw [←hm1,←hm2]
   have HK:=hide (And.intro hI (And.intro hc1 (And.intro hc2 (And.intro (hsn.trans hbs) (And.intro hBX (And.intro hbx (And.intro hX hfx)))))))
   clear hI hc1 hc2 hsn hsa hbs hBX hbx hfx hx hm1 hm2 hX
   go_wp2_with fail
   rw [←HK.out.2.2.2.2.2.2.1]
   obtain ⟨y0,y1,y2,y3,y4,y5⟩:=HK.out.2.2.2.2.2.1.six
   refine HK.out.2.1.mono ?_
   rintro e w2 ⟨rfl,hB2⟩
   have hz2:=hB2.size
   obtain ⟨u0,u1,u2,u3,u4,u5⟩:=(HK.out.2.2.2.2.2.1.below hB2 (by omega)).six
   have HB2:=hide hB2
   clear hB2 y0 y1 y2 y3 y4 y5 g0 g1 g2 g3 g4 g5
   by_cases h1:0 < m1
   ·have j1:(0:Int) < (m1:Int):=by omega
    go_wp2
    go_roundw
    case rel=>
     refine ⟨k+1,A2,lo,c2,by omega,by go_num,rfl,by omega,?_⟩
     have he:=HK.out.2.2.2.1
     rw [if_pos (.inl h1)] at he
     rw [he]
     exact HK.out.1.step (HK.out.2.2.2.2.1.trans (HB2.out.mono (by omega)))
    case measure=>simp [intOf];omega
   ·have h10:m1=0:=by omega
    subst h10
    go_wp2_with fail
    refine (HK.out.2.2.1 _ HB2.out).mono ?_
    rintro e w3 ⟨rfl,hB3⟩
    have hz3:=hB3.size
    have hB23:Below V0.heap.size V0 w3:=HK.out.2.2.2.2.1.trans ((HB2.out.mono (by omega)).trans (hB3.mono (by omega)))
    have hb3:=(HK.out.2.2.2.2.2.1.below HB2.out (by omega)).below hB3 (by omega)
    obtain ⟨x0,x1,x2,x3,x4,x5⟩:=hb3.six
    have HB3:=hide (And.intro hB23 hb3)
    clear hB3 hB23 hb3 u0 u1 u2 u3 u4 u5
    by_cases h2:0 < m2
    ·have j2:(0:Int) < (m2:Int):=by omega
     go_wp2
     go_roundw
     case rel=>
      refine ⟨k+1,A2,lo,c2,by omega,by go_num,rfl,by omega,?_⟩
      have he:=HK.out.2.2.2.1
      rw [if_pos (.inr h2)] at he
      rw [he]
      exact HK.out.1.step HB3.out.1
     case measure=>simp [intOf];omega
    ·have h20:m2=0:=by omega
     subst h20
     have hI3:=HK.out.1.step HB3.out.1
     have he:=HK.out.2.2.2.1
     rw [if_neg (by omega)] at he
     have H3:=hide (And.intro hI3 he)
     clear hI3 he h1 h2
     go_upto_block 2 with fail
     go_cut [7] (fun a wx=>∃a':Nat,a= .int .i64 a'∧a'≤lo∧(∀j q,j < a'→out[j]? =some q→ltE q x=true)∧(∀q,out[a']? =some q→ltE q x=false)∧RB w3 wx)
     case first=>
      go_wp2_with fail
      go_loopw [7] (fun a wx=>∃a':Nat,a= .int .i64 a'∧a'≤lo∧(∀j q,j < a'→out[j]? =some q→ltE q x=true)∧RB w3 wx) (fun a _=>lo - (intOf a).toNat)
      case atStart=>exact ⟨0,rfl,Nat.zero_le _,fun j q h=>absurd h (by omega),RB.refl _⟩
      case round=>
       obtain ⟨a,rfl,ha,hlt3,hR⟩:=hrel
       have hszR:=hR.size
       have hbx:=HB3.out.2.below hR HB3.out.2.lt
       by_cases hla:a < lo
       ·obtain ⟨q,hq⟩:∃q,out[a]? =some q:=⟨_,List.getElem?_eq_getElem (by rw [←H3.out.1.len];exact hla)⟩
        have hfq:=H3.out.1.fit q (List.mem_of_getElem? hq)
        obtain ⟨bp,op,hAp,hbp,_⟩:=(H3.out.1.sl.below hR).at hq
        subst hAp
        obtain ⟨k0,k1,k2,k3,k4,k5⟩:=(H3.out.1.sl.below hR).ed hq
        obtain ⟨x0,x1,x2,x3,x4,x5⟩:=hbx.six
        have hbpR:bp < wr.heap.size:=by omega
        have hbxR:=hbx.lt
        have i2:(a:Int) < (lo:Int):=by omega
        have HL:=hide (And.intro hlt3 (And.intro hR hq))
        clear hlt3 hR hq hbx
        cases hless:ltE q x
        ·have HLS:=hide hless
         go_wp2_with fail
         go_region_held3 (fun w'=>w'.cell? ⟨bp,op+a*6,none⟩=some (.int .i64 q.1.1)∧w'.cell? ⟨bp,op+a*6+1,none⟩=some (.int .i64 q.1.2.1)∧w'.cell? ⟨bp,op+a*6+2,none⟩=some (.int .i64 q.1.2.2)∧w'.cell? ⟨bp,op+a*6+3,none⟩=some (.int .i64 q.2.1)∧w'.cell? ⟨bp,op+a*6+4,none⟩=some (.int .i64 q.2.2.1)∧w'.cell? ⟨bp,op+a*6+5,none⟩=some (.int .i64 q.2.2.2)∧w'.cell? ⟨V0.heap.size,0,none⟩=some (.int .i64 x.1.1)∧w'.cell? ⟨V0.heap.size,1,none⟩=some (.int .i64 x.1.2.1)∧w'.cell? ⟨V0.heap.size,2,none⟩=some (.int .i64 x.1.2.2)∧w'.cell? ⟨V0.heap.size,3,none⟩=some (.int .i64 x.2.1)∧w'.cell? ⟨V0.heap.size,4,none⟩=some (.int .i64 x.2.2.1)∧w'.cell? ⟨V0.heap.size,5,none⟩=some (.int .i64 x.2.2.2)) (first | go_keep | exact ⟨cell_lay hL k0,cell_lay hL k1,cell_lay hL k2,cell_lay hL k3,cell_lay hL k4,cell_lay hL k5,cell_lay hL x0,cell_lay hL x1,cell_lay hL x2,cell_lay hL x3,cell_lay hL x4,cell_lay hL x5⟩) ((go_at_call 149;refine (lessEdge_any q x _ hfq HK.out.2.2.2.2.2.2.2).mono ?_;rintro e w3 ⟨rfl,hL⟩;rw [hless]))
         go_wp2_with fail
         go_meet
         case rel=>
          refine ⟨a,rfl,ha,HL.out.1,fun q' hq'=> ?_,HL.out.2.1.trans _ _ _ ((below_drew wr).trans hL.below)⟩
          rw [HL.out.2.2] at hq'
          cases hq'
          exact HLS.out
        ·have HLS:=hide hless
         go_wp2_with fail
         go_region_held3 (fun w'=>w'.cell? ⟨bp,op+a*6,none⟩=some (.int .i64 q.1.1)∧w'.cell? ⟨bp,op+a*6+1,none⟩=some (.int .i64 q.1.2.1)∧w'.cell? ⟨bp,op+a*6+2,none⟩=some (.int .i64 q.1.2.2)∧w'.cell? ⟨bp,op+a*6+3,none⟩=some (.int .i64 q.2.1)∧w'.cell? ⟨bp,op+a*6+4,none⟩=some (.int .i64 q.2.2.1)∧w'.cell? ⟨bp,op+a*6+5,none⟩=some (.int .i64 q.2.2.2)∧w'.cell? ⟨V0.heap.size,0,none⟩=some (.int .i64 x.1.1)∧w'.cell? ⟨V0.heap.size,1,none⟩=some (.int .i64 x.1.2.1)∧w'.cell? ⟨V0.heap.size,2,none⟩=some (.int .i64 x.1.2.2)∧w'.cell? ⟨V0.heap.size,3,none⟩=some (.int .i64 x.2.1)∧w'.cell? ⟨V0.heap.size,4,none⟩=some (.int .i64 x.2.2.1)∧w'.cell? ⟨V0.heap.size,5,none⟩=some (.int .i64 x.2.2.2)) (first | go_keep | exact ⟨cell_lay hL k0,cell_lay hL k1,cell_lay hL k2,cell_lay hL k3,cell_lay hL k4,cell_lay hL k5,cell_lay hL x0,cell_lay hL x1,cell_lay hL x2,cell_lay hL x3,cell_lay hL x4,cell_lay hL x5⟩) ((go_at_call 149;refine (lessEdge_any q x _ hfq HK.out.2.2.2.2.2.2.2).mono ?_;rintro e w3 ⟨rfl,hL⟩;rw [hless]))
         go_wp2_with fail
         go_roundw
         case rel=>
          refine ⟨a+1,by go_num,by omega,fun j q' hj hq'=> ?_,HL.out.2.1.trans _ _ _ ((below_drew wr).trans hL.below)⟩
          rcases Nat.lt_or_ge j a with h | h
          ·exact HL.out.1 j q' h hq'
          ·have hja:j=a:=by omega
           subst hja
           rw [HL.out.2.2] at hq'
           cases hq'
           exact HLS.out
         case measure=>simp [intOf];omega
       ·have hae:a=lo:=by omega
        have HL:=hide (And.intro hlt3 (And.intro hR hae))
        clear hlt3 hR hbx hae
        go_wp2_with fail
        go_meet
        case rel=>exact ⟨a,rfl,ha,HL.out.1,(fun q' hq'=>by rw [HL.out.2.2,H3.out.1.len,List.getElem?_eq_none (Nat.le_refl _)] at hq';cases hq'),HL.out.2.1⟩
     case rest=>
      obtain ⟨a,rfl,ha,hlo',hhi,hR⟩:=hcut
      have hat:a=atE out x:=atE_eq (by rw [←H3.out.1.len];exact ha) hlo' hhi
      have hI4:=H3.out.1.step hR
      have hb4:=HB3.out.2.below hR HB3.out.2.lt
      have hzc:=hR.size
      obtain ⟨x0',x1',x2',x3',x4',x5'⟩:=hb4.six
      obtain ⟨W,hW⟩:∃W,W=wc:=⟨_,rfl⟩
      rw [←hW] at hI4 hb4 hzc hR x0' x1' x2' x3' x4' x5'⊢
      have hzW1:=hb4.lt
      have hzW2:=hI4.big
      have hc2:=hI4.cap
      have hln:=hI4.len
      have hta:(out.take a).length=a:=by rw [List.length_take];omega
      have htd:(out.drop a).length=lo - a:=by rw [List.length_drop,←hln]
      have hrunH:∀V:World,(Instr.slice 167 (.slice A2 lo c2) none (some (.int .i64 a)) none).run Tryz.prog V= .ok (.slice A2 a c2) V:=fun V=>run_cutH Tryz.underlying167 Tryz.sizeOf170 ha hc2 V
      have hrunL:∀V:World,(Instr.slice 167 (.slice A2 lo c2) (some (.int .i64 a)) none none).run Tryz.prog V= .ok (.slice (cutA A2 c2 a 6) (lo - a) (c2 - a)) V:=fun V=>run_cut Tryz.underlying167 Tryz.sizeOf170 ha V
      have hslT:Sl encE 6 W W.heap.size A2 (out.take a):=hI4.sl.take8 a
      have hslD:Sl encE 6 W W.heap.size (cutA A2 c2 a 6) (out.drop a):=hI4.sl.cut (by rw [←hln];exact ha) (by rw [←hln];exact hc2)
      have HT:=hide (And.intro hslT (And.intro hslD (And.intro hta (And.intro htd (And.intro hI4 (And.intro hb4 (And.intro hat hln)))))))
      clear hI4 hb4 hslT hslD hta htd hR hlo' hhi hat hW hln
      go_upto_region 15 with (at_builtin;refine wpList_appendS rfl _ _ _ rfl Tryz.underlying167 infoE rfl (by omega) encE_len encE_one rfl (Own.nil (base:=W.heap.size)) A2 c2 W.heap.size (out.take a) (by rw [HT.out.2.2.1];rfl) HT.out.1 (by rw [HT.out.2.2.1];unfold maxLen;omega) (by rw [HT.out.2.2.1];omega) (Nat.le_refl _) ?_;intro v1 w4 hown4 hg1 hB4 hat1;rw [HT.out.2.2.1,Nat.zero_add,List.nil_append] at hown4;obtain ⟨A4,c4,rfl⟩:=hown4.form)
      have y0:=(hB4.cell (p:=⟨V0.heap.size,0,none⟩) hzW1).trans x0'
      have y1:=(hB4.cell (p:=⟨V0.heap.size,1,none⟩) hzW1).trans x1'
      have y2:=(hB4.cell (p:=⟨V0.heap.size,2,none⟩) hzW1).trans x2'
      have y3:=(hB4.cell (p:=⟨V0.heap.size,3,none⟩) hzW1).trans x3'
      have y4:=(hB4.cell (p:=⟨V0.heap.size,4,none⟩) hzW1).trans x4'
      have y5:=(hB4.cell (p:=⟨V0.heap.size,5,none⟩) hzW1).trans x5'
      have HO1:=hide (And.intro hown4 hB4)
      have hz4:=hB4.size
      have hown4':=hown4.alloc (.cells #[.int .i64 x.1.1, .int .i64 x.1.2.1, .int .i64 x.1.2.2, .int .i64 x.2.1, .int .i64 x.2.2.1, .int .i64 x.2.2.2] 170)
      clear hown4 hg1 hB4 hat1 x0' x1' x2' x3' x4' x5'
      go_upto_region 16 with (at_builtin;refine wpList_append1 rfl _ _ _ rfl Tryz.underlying167 infoE rfl (by omega) encE_len encE_one rfl hown4' w4.heap.size 1 x rfl (Blk.new _ _ _) (by unfold maxLen;omega) (by omega) (by simp;omega) ?_;intro g2' cap2 w5 hown5 hg2' hB5 hat2 hgb2 hlt2)
      have hB15:Below W.heap.size W w5:=HO1.out.2.trans (((Below.refl _ w4).alloc (by omega) _).trans hB5)
      have hz5:=hB15.size
      have HO2:=hide (And.intro hown5 (And.intro hB15 ((HT.out.2.1.below hB15))))
      clear hown5 hg2' hB5 hat2 hown4' hB15 y0 y1 y2 y3 y4 y5
      go_wp2_with (at_builtin;refine wpList_appendS rfl _ _ _ rfl Tryz.underlying167 infoE rfl (by omega) encE_len encE_one rfl HO2.out.1 (cutA A2 c2 a 6) (c2 - a) W.heap.size (out.drop a) (by rw [HT.out.2.2.2.1];rfl) HO2.out.2.2 (by rw [HT.out.2.2.2.1];unfold maxLen;omega) (by rw [HT.out.2.2.2.1];omega) hz5 ?_;intro v6 w6 hown6 hg6 hB6 hat6;obtain ⟨A6,c6,rfl⟩:=hown6.form)
      go_roundw
      case rel=>
       have hln:=HT.out.2.2.2.2.2.2.2
       rw [List.append_assoc,List.singleton_append,HT.out.2.2.2.1] at hown6
       have hins:out.take a++(x::out.drop a)=insE out x:=by unfold insE;rw [←HT.out.2.2.2.2.2.2.1]
       rw [hins] at hown6
       refine ⟨k+1,A6,_,c6,by omega,by go_num,rfl,?_,?_⟩
       ·rw [←hout,←hln];omega
       ·rw [←hout,←hln,H3.out.2]
        have hB6':Below w1.heap.size w1 w6:=HT.out.2.2.2.2.1.bel.trans ((HO2.out.2.1.mono (by omega)).trans (hB6.mono (by omega)))
        refine ⟨hown6.1,hown6.sl encE_len (Nat.le_refl _),hown6.place.1,fun y hy=> ?_,hB6',hB6'.size⟩
        rcases insE_mem hy with h | h
        ·exact HT.out.2.2.2.2.1.fit y h
        ·rw [h];exact HK.out.2.2.2.2.2.2.2
      case measure=>simp [intOf];omega
  ·have hke:k=all.length:=by rw [←HS.out.2.2.2];omega
   rw [hke,List.take_length,←HS.out.2.2.1] at hout
   have hkn:n=k:=by omega
   rw [hout] at hI
   have HE:=hide hI
   clear hI hout hke
   subst hkn
   go_wp2
   go_ret
   exact ⟨A2,c2,by rw [←HE.out.len];rfl,HE.out.sl,by rw [←HE.out.len];exact HE.out.cap,H1.out.2.trans (HE.out.bel.mono hz1)⟩
end Go.Proofs.YtmemofonebphfaaGreat
namespace Go.Proofs.YtmemofonebphfaaGreat
open Go.RowKit Go.Sort
def behK (t:Tri) (p q:Pt):Option Pt:=if t.1=p∧t.2.1=q then some t.2.2 else if t.2.1=p∧t.2.2=q then some t.1 else if t.2.2=p∧t.1=q then some t.2.1 else none
def behP (l:List Tri) (p q:Pt):Option Pt:=l.findSome? fun t=>behK t p q
theorem behK_at {t:Tri} {p q:Pt} (j:Nat) (hj:j < 3) (h1:corner t j=p) (h2:corner t ((j+1) % 3)=q) (hn:∀i,i < j→¬(corner t i=p∧corner t ((i+1) % 3)=q)):behK t p q=some (corner t ((j+2) % 3)):=by
 unfold behK
 have hc:j=0∨j=1∨j=2:=by omega
 rcases hc with rfl | rfl | rfl
 ·exact if_pos ⟨h1,h2⟩
 ·exact (if_neg (hn 0 (by omega))).trans (if_pos ⟨h1,h2⟩)
 ·exact (if_neg (hn 0 (by omega))).trans ((if_neg (hn 1 (by omega))).trans (if_pos ⟨h1,h2⟩))
theorem behK_none {t:Tri} {p q:Pt} (hn:∀i,i < 3→¬(corner t i=p∧corner t ((i+1) % 3)=q)):behK t p q=none:=by
 unfold behK
 exact (if_neg (hn 0 (by omega))).trans ((if_neg (hn 1 (by omega))).trans (if_neg (hn 2 (by omega))))
theorem noJ_succ {t:Tri} {p q:Pt} {j:Nat} (hn:∀i,i < j→¬(corner t i=p∧corner t ((i+1) % 3)=q)) (h:¬(corner t j=p∧corner t ((j+1) % 3)=q)):∀i,i < j+1→¬(corner t i=p∧corner t ((i+1) % 3)=q):=fun i hi=>by
 rcases Nat.lt_or_ge i j with h1 | h1
 ·exact hn i h1
 ·have e:i=j:=by omega
  rw [e];exact h
theorem findSome_take {α β:Type} (f:α→Option β) (l:List α) (k:Nat) (x:α) (h:l[k]? =some x):(l.take (k+1)).findSome? f=((l.take k).findSome? f).or (f x):=by
 rw [List.take_add_one,h,Option.toList_some,List.findSome?_append]
 simp [List.findSome?_cons]
 cases f x <;>rfl
theorem bh_some {l:List Tri} {p q r:Pt} {k:Nat} {t:Tri} (h:l[k]? =some t) (hn:behP (l.take k) p q=none) (hb:behK t p q=some r):behP l p q=some r:=by
 have h1:behP (l.take (k+1)) p q=some r:=by
  unfold behP at hn⊢
  rw [findSome_take _ _ _ _ h,hn,hb];rfl
 unfold behP at h1⊢
 rw [←List.take_append_drop (k+1) l,List.findSome?_append,h1]
 rfl
structure BhX (w X:World) (p q:Pt):Prop where
 bel:Below w.heap.size w X
 bp:Blk X w.heap.size 43 #[.int .i64 p.1, .int .i64 p.2.1, .int .i64 p.2.2]
 bq:Blk X (w.heap.size+1) 43 #[.int .i64 q.1, .int .i64 q.2.1, .int .i64 q.2.2]
 br:Blk X (w.heap.size+1+1) 43 #[.int .i64 0, .int .i64 0, .int .i64 0]
theorem beh_ret {w X:World} {p q r:Pt} {b:Bool} {fn:Func} {R:Ending→World→Prop} {a:Act} {w':World} (hd:a.defers= []) (h:BhX w X p q) (m:Nat)
  (hr:∀Z:World,Z.cell? ⟨w.heap.size+1+1,0,none⟩=some (.int .i64 r.1)→Z.cell? ⟨w.heap.size+1+1,1,none⟩=some (.int .i64 r.2.1)→Z.cell? ⟨w.heap.size+1+1,2,none⟩=some (.int .i64 r.2.2)→(results fn a.tmps).run Tryz.prog Z= .ok (.tuple #[vP r, .bool b]) Z)
  (hw:w'=((((X.drewN m).setCell ⟨w.heap.size+1+1,0,none⟩ (.int .i64 r.1)).setCell ⟨w.heap.size+1+1,1,none⟩ (.int .i64 r.2.1)).setCell ⟨w.heap.size+1+1,2,none⟩ (.int .i64 r.2.2)))
  (hR:∀W,Below w.heap.size w W→R (.returned (.tuple #[vP r, .bool b])) W):bodyPost Tryz.prog fn R .ret a w':=by
 subst hw
 obtain ⟨z0,z1,z2⟩:=((h.br.drewN m).set3 (.int .i64 r.1) (.int .i64 r.2.1) (.int .i64 r.2.2)).three8
 exact bodyPost_ret (hr _ z0 z1 z2) hd (hR _ ((((below_drewN h.bel m).setCell (by dsimp only;omega) _).setCell (by dsimp only;omega) _).setCell (by dsimp only;omega) _))
set_option maxRecDepth 100000 in
set_option maxHeartbeats 16000000 in
theorem behind_any (A:Option Addr) (c:Nat) (l:List Tri) (p q:Pt) (w:World) (hs:Sl encT 9 w w.heap.size A l) (hl:l.length≤4294967296) (hp:fitsP p) (hq:fitsP q) (hf:∀t∈l,fitsT t):
  Calls Tryz.prog 150 #[.slice A l.length c,vP p,vP q] w fun e w'=>e= .returned (.tuple #[vP ((behP l p q).getD p), .bool (behP l p q).isSome])∧Below w.heap.size w w':=by
 obtain ⟨n,hn⟩:∃n,n=l.length:=⟨_,rfl⟩
 rw [←hn] at hl⊢
 have HS:=hide (And.intro hs (And.intro hn (And.intro hf trivial)))
 have HP:=hide (And.intro hp (And.intro hq trivial))
 clear hs hn hf hp hq
 go_enter Tryz.func150,Tryz.ntmps150
 go_wp2_with fail
 obtain ⟨X,hX⟩:∃X,X=((w.alloc (.cells #[.int .i64 p.1, .int .i64 p.2.1, .int .i64 p.2.2] 43)).alloc (.cells #[.int .i64 q.1, .int .i64 q.2.1, .int .i64 q.2.2] 43)).alloc (.cells #[.int .i64 0, .int .i64 0, .int .i64 0] 43):=⟨_,rfl⟩
 rw [←hX]
 have hBX:BhX w X p q:=by
  rw [hX]
  refine ⟨(((Below.refl _ w).alloc (Nat.le_refl _) _).alloc (by simp) _).alloc (by simp;omega) _,((Blk.new _ _ _).alloc _).alloc _,(Blk.new' _ _ _ _ (by simp)).alloc _,Blk.new' _ _ _ _ (by simp)⟩
 have hslX:Sl encT 9 X w.heap.size A l:=HS.out.1.below hBX.bel
 have hzX:X.heap.size=w.heap.size+3:=by rw [hX];simp
 have HX:=hide (And.intro hBX (And.intro hslX trivial))
 clear hX hBX hslX
 go_loopw [8] (fun iv wr=>∃k m:Nat,k≤n∧iv= .int .i64 k∧behP (l.take k) p q=none∧wr=X.drewN m) (fun iv _=>n - (intOf iv).toNat)
 case atStart=>exact ⟨0,0,by omega,rfl,rfl,rfl⟩
 case round=>
  obtain ⟨k,m0,hk,rfl,hno,rfl⟩:=hrel
  by_cases hlt:k < n
  ·obtain ⟨t,ht⟩:∃t,l[k]? =some t:=⟨_,List.getElem?_eq_getElem (by rw [←HS.out.2.1];exact hlt)⟩
   have i1:(k:Int) < (n:Int):=by omega
   obtain ⟨b,o,hA,hb,hct⟩:=HX.out.2.1.tri ht
   subst hA
   have HK:=hide (And.intro ht hno)
   have HC:=hide hct
   clear ht hno hct
   go_wp2
   go_loopw [9] (fun iv wr=>∃j m:Nat,j≤3∧iv= .int .i64 j∧(∀i,i < j→¬(corner t i=p∧corner t ((i+1) % 3)=q))∧wr=X.drewN m) (fun iv _=>3 - (intOf iv).toNat)
   case atStart=>exact ⟨0,m0,by omega,rfl,fun i hi=>absurd hi (by omega),rfl⟩
   case round=>
    obtain ⟨j,m,hj,rfl,hnj,rfl⟩:=hrel
    have HJ:=hide hnj
    clear hnj
    have hc:j=0∨j=1∨j=2∨j=3:=by omega
    obtain ⟨g0,g1,g2,g3,g4,g5,g6,g7,g8⟩:=HC.out
    obtain ⟨x0,x1,x2⟩:=HX.out.1.bp.three8
    obtain ⟨y0,y1,y2⟩:=HX.out.1.bq.three8
    rcases hc with rfl | rfl | rfl | rfl
    ·have e1:=eqP t.1 p (HS.out.2.2.1 t (List.mem_of_getElem? HK.out.1)).1 HP.out.1
     have e2:=eqP t.2.1 q (HS.out.2.2.1 t (List.mem_of_getElem? HK.out.1)).2.1 HP.out.2.1
     by_cases h1:t.1=p
     ·have d1:decide (t.1=p)=true:=decide_eq_true h1
      rw [d1] at e1
      by_cases h2:t.2.1=q
      ·have d2:decide (t.2.1=q)=true:=decide_eq_true h2
       rw [d2] at e2
       have hb:behK t p q=some t.2.2:=behK_at 0 (by omega) h1 h2 HJ.out
       have HB:=hide (bh_some HK.out.1 HK.out.2 hb)
       clear h1 h2 d1 d2 hb
       go_wp2_with fail
       go_quiet (fail)
       have hr:=HX.out.1.br.drewN (m+nq)
       obtain ⟨r0,r1,r2⟩:=hr.three8
       have f0:=hr.frozen 0
       have f1:=hr.frozen 1
       have f2:=hr.frozen 2
       go_wp2
       refine beh_ret (r:=t.2.2) (b:=true) rfl HX.out.1 (m+nq) ?_ rfl ?_
       ·intro Z z0 z1 z2;simp [results,Tryz.results150,go_sem,z0,z1,z2]
       ·intro W hW;exact ⟨by rw [HB.out];rfl,hW⟩
      ·have d2:decide (t.2.1=q)=false:=decide_eq_false h2
       rw [d2] at e2
       have HN:=hide (show∀i,i < 0+1→¬(corner t i=p∧corner t ((i+1) % 3)=q) from noJ_succ HJ.out (fun h=>h2 h.2))
       clear h1 h2 d1 d2
       go_wp2_with fail
       go_quiet (fail)
       go_wp2
       go_roundw
       case rel=>exact ⟨0+1,m+nq,by omega,by go_num,HN.out,rfl⟩
       case measure=>(simp [intOf] <;>omega)
     ·have d1:decide (t.1=p)=false:=decide_eq_false h1
      rw [d1] at e1
      have HN:=hide (show∀i,i < 0+1→¬(corner t i=p∧corner t ((i+1) % 3)=q) from noJ_succ HJ.out (fun h=>h1 h.1))
      clear h1 d1
      go_wp2_with fail
      go_quiet (fail)
      go_wp2
      go_roundw
      case rel=>exact ⟨0+1,m+nq,by omega,by go_num,HN.out,rfl⟩
      case measure=>(simp [intOf] <;>omega)
    ·have e1:=eqP t.2.1 p (HS.out.2.2.1 t (List.mem_of_getElem? HK.out.1)).2.1 HP.out.1
     have e2:=eqP t.2.2 q (HS.out.2.2.1 t (List.mem_of_getElem? HK.out.1)).2.2 HP.out.2.1
     by_cases h1:t.2.1=p
     ·have d1:decide (t.2.1=p)=true:=decide_eq_true h1
      rw [d1] at e1
      by_cases h2:t.2.2=q
      ·have d2:decide (t.2.2=q)=true:=decide_eq_true h2
       rw [d2] at e2
       have hb:behK t p q=some t.1:=behK_at 1 (by omega) h1 h2 HJ.out
       have HB:=hide (bh_some HK.out.1 HK.out.2 hb)
       clear h1 h2 d1 d2 hb
       go_wp2_with fail
       go_quiet (fail)
       have hr:=HX.out.1.br.drewN (m+nq)
       obtain ⟨r0,r1,r2⟩:=hr.three8
       have f0:=hr.frozen 0
       have f1:=hr.frozen 1
       have f2:=hr.frozen 2
       go_wp2
       refine beh_ret (r:=t.1) (b:=true) rfl HX.out.1 (m+nq) ?_ rfl ?_
       ·intro Z z0 z1 z2;simp [results,Tryz.results150,go_sem,z0,z1,z2]
       ·intro W hW;exact ⟨by rw [HB.out];rfl,hW⟩
      ·have d2:decide (t.2.2=q)=false:=decide_eq_false h2
       rw [d2] at e2
       have HN:=hide (show∀i,i < 1+1→¬(corner t i=p∧corner t ((i+1) % 3)=q) from noJ_succ HJ.out (fun h=>h2 h.2))
       clear h1 h2 d1 d2
       go_wp2_with fail
       go_quiet (fail)
       go_wp2
       go_roundw
       case rel=>exact ⟨1+1,m+nq,by omega,by go_num,HN.out,rfl⟩
       case measure=>(simp [intOf] <;>omega)
     ·have d1:decide (t.2.1=p)=false:=decide_eq_false h1
      rw [d1] at e1
      have HN:=hide (show∀i,i < 1+1→¬(corner t i=p∧corner t ((i+1) % 3)=q) from noJ_succ HJ.out (fun h=>h1 h.1))
      clear h1 d1
      go_wp2_with fail
      go_quiet (fail)
      go_wp2
      go_roundw
      case rel=>exact ⟨1+1,m+nq,by omega,by go_num,HN.out,rfl⟩
      case measure=>(simp [intOf] <;>omega)
    ·have e1:=eqP t.2.2 p (HS.out.2.2.1 t (List.mem_of_getElem? HK.out.1)).2.2 HP.out.1
     have e2:=eqP t.1 q (HS.out.2.2.1 t (List.mem_of_getElem? HK.out.1)).1 HP.out.2.1
     by_cases h1:t.2.2=p
     ·have d1:decide (t.2.2=p)=true:=decide_eq_true h1
      rw [d1] at e1
      by_cases h2:t.1=q
      ·have d2:decide (t.1=q)=true:=decide_eq_true h2
       rw [d2] at e2
       have hb:behK t p q=some t.2.1:=behK_at 2 (by omega) h1 h2 HJ.out
       have HB:=hide (bh_some HK.out.1 HK.out.2 hb)
       clear h1 h2 d1 d2 hb
       go_wp2_with fail
       go_quiet (fail)
       have hr:=HX.out.1.br.drewN (m+nq)
       obtain ⟨r0,r1,r2⟩:=hr.three8
       have f0:=hr.frozen 0
       have f1:=hr.frozen 1
       have f2:=hr.frozen 2
       go_wp2
       refine beh_ret (r:=t.2.1) (b:=true) rfl HX.out.1 (m+nq) ?_ rfl ?_
       ·intro Z z0 z1 z2;simp [results,Tryz.results150,go_sem,z0,z1,z2]
       ·intro W hW;exact ⟨by rw [HB.out];rfl,hW⟩
      ·have d2:decide (t.1=q)=false:=decide_eq_false h2
       rw [d2] at e2
       have HN:=hide (show∀i,i < 2+1→¬(corner t i=p∧corner t ((i+1) % 3)=q) from noJ_succ HJ.out (fun h=>h2 h.2))
       clear h1 h2 d1 d2
       go_wp2_with fail
       go_quiet (fail)
       go_wp2
       go_roundw
       case rel=>exact ⟨2+1,m+nq,by omega,by go_num,HN.out,rfl⟩
       case measure=>(simp [intOf] <;>omega)
     ·have d1:decide (t.2.2=p)=false:=decide_eq_false h1
      rw [d1] at e1
      have HN:=hide (show∀i,i < 2+1→¬(corner t i=p∧corner t ((i+1) % 3)=q) from noJ_succ HJ.out (fun h=>h1 h.1))
      clear h1 d1
      go_wp2_with fail
      go_quiet (fail)
      go_wp2
      go_roundw
      case rel=>exact ⟨2+1,m+nq,by omega,by go_num,HN.out,rfl⟩
      case measure=>(simp [intOf] <;>omega)
    ·have hb:=behK_none HJ.out
     have hn1:behP (l.take (k+1)) p q=none:=by
      have h1:=HK.out.2
      unfold behP at h1⊢
      rw [findSome_take _ _ _ _ HK.out.1,h1,hb];rfl
     have HN:=hide hn1
     clear hb hn1 g0 g1 g2 g3 g4 g5 g6 g7 g8
     go_wp2
     go_roundw
     case rel=>exact ⟨k+1,m,by omega,by go_num,HN.out,rfl⟩
     case measure=>simp [intOf];omega
  ·have hke:k=l.length:=by rw [←HS.out.2.1];omega
   rw [hke,List.take_length] at hno
   have hkn:n=k:=by omega
   have HE:=hide hno
   clear hno hke
   subst hkn
   obtain ⟨x0,x1,x2⟩:=HX.out.1.bp.three8
   obtain ⟨r0,r1,r2⟩:=HX.out.1.br.three8
   have f0:=HX.out.1.br.frozen 0
   have f1:=HX.out.1.br.frozen 1
   have f2:=HX.out.1.br.frozen 2
   go_wp2
   refine beh_ret (r:=p) (b:=false) rfl HX.out.1 m0 ?_ rfl ?_
   ·intro Z z0 z1 z2
    simp [results,Tryz.results150,go_sem,z0,z1,z2]
   ·intro W hW
    exact ⟨by rw [HE.out];rfl,hW⟩
end Go.Proofs.YtmemofonebphfaaGreat
namespace Go.Proofs.YtmemofonebphfaaGreat
open Go.RowKit Go.Sort
theorem own_row8 {β:Type} {encb:β→List Value} {kb:Nat} {eb:TypeId} {n base:Nat} {w:World} {v:Value} {xs:List β} {t:TypeId} (h:Own encb kb eb w base v n xs) (hte:eb≠t):∀r,v.ownBlock=some r→r < base∨∀cs,w.heap[r]? ≠some (.cells cs t (0,0)):=fun r hr=>by
 obtain ⟨cs,hc⟩:=h.cells r hr
 refine .inr fun cs' hc'=> ?_
 rw [hc] at hc'
 cases hc'
 exact hte rfl
def pinN (t:Tri) (p:Pt) (j:Nat):List (Tri × Pt):=(List.range j).flatMap fun i=>if corner t i=p then [(t,corner t ((i+1) % 3))] else []
def pinL (l:List Tri) (p:Pt):List (Tri × Pt):=l.flatMap fun t=>pinN t p 3
theorem pinN_yes (j:Nat) {t:Tri} {p:Pt} (h:corner t j=p):pinN t p (j+1)=pinN t p j++ [(t,corner t ((j+1) % 3))]:=by
 unfold pinN
 rw [List.range_succ,List.flatMap_append,List.flatMap_singleton,if_pos h]
theorem pinN_no (j:Nat) {t:Tri} {p:Pt} (h:corner t j≠p):pinN t p (j+1)=pinN t p j:=by
 unfold pinN
 rw [List.range_succ,List.flatMap_append,List.flatMap_singleton,if_neg h,List.append_nil]
theorem pinL_snoc (l:List Tri) (p:Pt) (k:Nat) (t:Tri) (h:l[k]? =some t):pinL (l.take (k+1)) p=pinL (l.take k) p++pinN t p 3:=by
 unfold pinL
 rw [List.take_add_one,h,Option.toList_some,List.flatMap_append,List.flatMap_singleton]
theorem pinL_fits {l:List Tri} {p:Pt} (h:∀t∈l,fitsT t):∀x∈pinL l p,fitsT x.1∧fitsP x.2:=by
 intro x hx
 obtain ⟨t,ht,hx⟩:=List.mem_flatMap.1 hx
 obtain ⟨i,_,hx⟩:=List.mem_flatMap.1 hx
 split at hx
 ·rw [List.mem_singleton.1 hx]
  exact ⟨h t ht,corner_fits (h t ht) _⟩
 ·cases hx
def runP (mine:List Tri) (p s:Pt):Nat→Pt→Bool
 | 0,_=>false
 | f+1,x=>match behP mine p x with
  | none=>false
  | some y=>if y=s then true else runP mine p s f y
def pinchedP (l:List Tri) (p:Pt):Bool:=((pinL l p).map (·.2)).any fun s=>runP ((pinL l p).map (·.1)) p s ((pinL l p).length - 1) s
theorem CellsT.below8 {w w':World} {b o n:Nat} {t:Tri} (h:CellsT w b o t) (hB:Below n w w') (hb:b < n):CellsT w' b o t:=by
 obtain ⟨h0,h1,h2,h3,h4,h5,h6,h7,h8⟩:=h
 exact ⟨(hB.cell (p:=⟨b,_,none⟩) hb).trans h0,(hB.cell (p:=⟨b,_,none⟩) hb).trans h1,(hB.cell (p:=⟨b,_,none⟩) hb).trans h2,(hB.cell (p:=⟨b,_,none⟩) hb).trans h3,(hB.cell (p:=⟨b,_,none⟩) hb).trans h4,(hB.cell (p:=⟨b,_,none⟩) hb).trans h5,(hB.cell (p:=⟨b,_,none⟩) hb).trans h6,(hB.cell (p:=⟨b,_,none⟩) hb).trans h7,(hB.cell (p:=⟨b,_,none⟩) hb).trans h8⟩
theorem behP_fits {l:List Tri} (h:∀t∈l,fitsT t) {p q r:Pt} (hb:behP l p q=some r):fitsP r:=by
 unfold behP at hb
 obtain ⟨t,ht,hr⟩:=List.exists_of_findSome?_eq_some hb
 have hf:=h t ht
 unfold behK at hr
 split at hr
 ·cases hr;exact hf.2.2
 ·split at hr
  ·cases hr;exact hf.1
  ·split at hr
   ·cases hr;exact hf.2.1
   ·cases hr
set_option maxRecDepth 100000 in
set_option maxHeartbeats 16000000 in
theorem pinched_any (A:Option Addr) (c:Nat) (l:List Tri) (p:Pt) (w:World) (hs:Sl encT 9 w w.heap.size A l) (hl:l.length≤1073741824) (hp:fitsP p) (hf:∀t∈l,fitsT t):
  Calls Tryz.prog 125 #[.slice A l.length c,vP p] w fun e w'=>e= .returned (.bool (pinchedP l p))∧Below w.heap.size w w':=by
 obtain ⟨n,hn⟩:∃n,n=l.length:=⟨_,rfl⟩
 rw [←hn] at hl⊢
 have HS:=hide (And.intro hs (And.intro hn (And.intro hf trivial)))
 have HP:=hide (And.intro hp trivial)
 clear hs hn hf hp
 go_enter Tryz.func125,Tryz.ntmps125
 go_wp2_with fail
 obtain ⟨X,hX⟩:∃X,X=w.alloc (.cells #[.int .i64 p.1, .int .i64 p.2.1, .int .i64 p.2.2] 43):=⟨_,rfl⟩
 rw [←hX]
 have hBX:Below w.heap.size w X:=by rw [hX];exact (Below.refl _ w).alloc (Nat.le_refl _) _
 have hbX:Blk X w.heap.size 43 #[.int .i64 p.1, .int .i64 p.2.1, .int .i64 p.2.2]:=by rw [hX];exact Blk.new _ _ _
 have hzX:X.heap.size=w.heap.size+1:=by rw [hX];simp
 have hzX0:w.heap.size≤X.heap.size:=by omega
 have HX:=hide (And.intro hBX (And.intro hbX (HS.out.1.below hBX)))
 clear hX hBX hbX
 go_loopw [5,6,7] (fun v1 v2 iv wr=>∃(k m:Nat) (L:List (Tri × Pt)),k≤n∧iv= .int .i64 k∧m≤3*k∧L=pinL (l.take k) p∧Own encT 9 46 wr X.heap.size v1 m (L.map (·.1))∧Own encP 3 43 wr X.heap.size v2 m (L.map (·.2))∧Below X.heap.size X wr) (fun _ _ iv _=>n - (intOf iv).toNat)
 case atStart=>exact ⟨0,0, [],by omega,rfl,by omega,rfl,Own.nil,Own.nil,Below.refl _ X⟩
 case round=>
  obtain ⟨k,m0,L0,hk,rfl,hm0,hL0,hown1,hown2,hB⟩:=hrel
  obtain ⟨A10,c10,rfl⟩:=hown1.form
  obtain ⟨A20,c20,rfl⟩:=hown2.form
  by_cases hlt:k < n
  ·obtain ⟨t,ht⟩:∃t,l[k]? =some t:=⟨_,List.getElem?_eq_getElem (by rw [←HS.out.2.1];exact hlt)⟩
   have i1:(k:Int) < (n:Int):=by omega
   obtain ⟨b,o,hA,hbb,hct⟩:=HX.out.2.2.tri ht
   subst hA
   have HK:=hide (And.intro ht (HS.out.2.2.1 t (List.mem_of_getElem? ht)))
   have HL:=hide (And.intro hL0 (And.intro hown1 (And.intro hown2 hB)))
   have HC:=hide hct
   clear ht hct hL0 hown1 hown2 hB
   go_wp2
   go_loopw [5,6,8] (fun v1 v2 iv wr=>∃(j m:Nat) (L:List (Tri × Pt)),j≤3∧iv= .int .i64 j∧m≤3*k+j∧L=L0++pinN t p j∧Own encT 9 46 wr X.heap.size v1 m (L.map (·.1))∧Own encP 3 43 wr X.heap.size v2 m (L.map (·.2))∧Below X.heap.size X wr) (fun _ _ iv _=>3 - (intOf iv).toNat)
   case atStart=>exact ⟨0,m0,L0,by omega,rfl,by omega,by simp [pinN],HL.out.2.1,HL.out.2.2.1,HL.out.2.2.2⟩
   case round=>
    obtain ⟨j,m,L,hj,rfl,hm,hL,ho1,ho2,hB⟩:=hrel
    obtain ⟨A1,c1,rfl⟩:=ho1.form
    obtain ⟨A2,c2,rfl⟩:=ho2.form
    have hBC:=HC.out.below8 (hB.mono hzX0) hbb
    obtain ⟨x0,x1,x2⟩:=(HX.out.2.1.below hB (by omega)).three8
    have HJ:=hide (And.intro ho1 (And.intro ho2 (And.intro hL hB)))
    obtain ⟨g0,g1,g2,g3,g4,g5,g6,g7,g8⟩:=hBC
    clear hL ho1 ho2 hB
    have hc:j=0∨j=1∨j=2∨j=3:=by omega
    rcases hc with rfl | rfl | rfl | rfl
    ·have e1:=eqP t.1 p HK.out.2.1 HP.out.1
     by_cases h1:t.1=p
     ·have d1:decide (t.1=p)=true:=decide_eq_true h1
      rw [d1] at e1
      have hsn:=pinN_yes 0 (t:=t) (p:=p) h1
      have HN:=hide hsn
      clear h1 d1 hsn
      go_upto_region 9 with fail
      go_quiet (fail)
      obtain ⟨W,hW⟩:∃W,W=wr.drewN nq:=⟨_,rfl⟩
      have hBW:Below X.heap.size X W:=by rw [hW];exact below_drewN HJ.out.2.2.2 nq
      have ho1:Own encT 9 46 W X.heap.size (.slice A1 m c1) m (L.map (·.1)):=by rw [hW];exact HJ.out.1
      have ho2:Own encP 3 43 W X.heap.size (.slice A2 m c2) m (L.map (·.2)):=by rw [hW];exact HJ.out.2.1
      have hcW:=HC.out.below8 (hBW.mono hzX0)
      obtain ⟨q0,q1,q2,q3,q4,q5,q6,q7,q8⟩:=hcW hbb
      have hzW:=hBW.size
      have HW:=hide (And.intro hBW (And.intro ho1 ho2))
      rw [←hW]
      clear hBW hcW hW g0 g1 g2 g3 g4 g5 g6 g7 g8 x0 x1 x2 e1
      have ho1':=ho1.alloc (.cells (encT t).toArray 46)
      go_upto_region 11 with (at_builtin;refine wpList_append1 rfl _ _ _ rfl Tryz.underlying44 infoT rfl (by omega) encT_len encT_one rfl ho1' W.heap.size 1 t rfl (Blk.new _ _ _) (by unfold maxLen;omega) (by omega) (by simp;omega) ?_;intro g4' cap4 w4 hown4 hg4 hB4 hat4 hgb4 hlt4)
      have ho2':=((HW.out.2.2.alloc (.cells (encT t).toArray 46)).step hg4 (own_row8 ho1' (by decide)))
      have hBw4:Below X.heap.size X w4:=(HW.out.1.alloc hzW _).trans hB4
      have hcw4:=HC.out.below8 (hBw4.mono hzX0)
      obtain ⟨g0,g1,g2,g3,g4,g5,g6,g7,g8⟩:=hcw4 hbb
      have hz4:=hBw4.size
      have H4:=hide (And.intro hown4 (And.intro ho2' hBw4))
      clear hown4 hg4 hB4 hat4 ho2' ho1' ho1 ho2 hcw4 hBw4 q0 q1 q2 q3 q4 q5 q6 q7 q8
      have ho2':=H4.out.2.1.alloc (.cells (encP t.2.1).toArray 43)
      go_wp2_with (at_builtin;refine wpList_append1 rfl _ _ _ rfl Tryz.underlying28 infoPt rfl (by omega) encP_len encP_one rfl ho2' w4.heap.size 1 t.2.1 rfl (Blk.new _ _ _) (by unfold maxLen;omega) (by omega) (by simp;omega) ?_;intro g5' cap5 w5 hown5 hg5 hB5 hat5 hgb5 hlt5)
      go_roundw
      case rel=>
       have ho1'':=(H4.out.1.alloc (.cells (encP t.2.1).toArray 43)).step hg5 (own_row8 ho2' (by decide))
       refine ⟨0+1,m+1,L++ [(t,t.2.1)],by omega,by go_num,by omega,by rw [HN.out,←List.append_assoc,←HJ.out.2.2.1];rfl,?_,?_,(H4.out.2.2.alloc hz4 _).trans hB5⟩
       ·rw [List.map_append];exact ho1''
       ·rw [List.map_append];exact hown5
      case measure=>(simp [intOf] <;>omega)
     ·have d1:decide (t.1=p)=false:=decide_eq_false h1
      rw [d1] at e1
      have hsn:=pinN_no 0 (t:=t) (p:=p) h1
      have HN:=hide hsn
      clear h1 d1 hsn
      go_upto_region 9 with fail
      go_quiet (fail)
      clear g0 g1 g2 g3 g4 g5 g6 g7 g8 e1
      go_wp2
      go_roundw
      case rel=>exact ⟨0+1,m,L,by omega,by go_num,by omega,by rw [HN.out];exact HJ.out.2.2.1,HJ.out.1,HJ.out.2.1,below_drewN HJ.out.2.2.2 nq⟩
      case measure=>(simp [intOf] <;>omega)
    ·have e1:=eqP t.2.1 p HK.out.2.2.1 HP.out.1
     by_cases h1:t.2.1=p
     ·have d1:decide (t.2.1=p)=true:=decide_eq_true h1
      rw [d1] at e1
      have hsn:=pinN_yes 1 (t:=t) (p:=p) h1
      have HN:=hide hsn
      clear h1 d1 hsn
      go_upto_region 9 with fail
      go_quiet (fail)
      obtain ⟨W,hW⟩:∃W,W=wr.drewN nq:=⟨_,rfl⟩
      have hBW:Below X.heap.size X W:=by rw [hW];exact below_drewN HJ.out.2.2.2 nq
      have ho1:Own encT 9 46 W X.heap.size (.slice A1 m c1) m (L.map (·.1)):=by rw [hW];exact HJ.out.1
      have ho2:Own encP 3 43 W X.heap.size (.slice A2 m c2) m (L.map (·.2)):=by rw [hW];exact HJ.out.2.1
      have hcW:=HC.out.below8 (hBW.mono hzX0)
      obtain ⟨q0,q1,q2,q3,q4,q5,q6,q7,q8⟩:=hcW hbb
      have hzW:=hBW.size
      have HW:=hide (And.intro hBW (And.intro ho1 ho2))
      rw [←hW]
      clear hBW hcW hW g0 g1 g2 g3 g4 g5 g6 g7 g8 x0 x1 x2 e1
      have ho1':=ho1.alloc (.cells (encT t).toArray 46)
      go_upto_region 11 with (at_builtin;refine wpList_append1 rfl _ _ _ rfl Tryz.underlying44 infoT rfl (by omega) encT_len encT_one rfl ho1' W.heap.size 1 t rfl (Blk.new _ _ _) (by unfold maxLen;omega) (by omega) (by simp;omega) ?_;intro g4' cap4 w4 hown4 hg4 hB4 hat4 hgb4 hlt4)
      have ho2':=((HW.out.2.2.alloc (.cells (encT t).toArray 46)).step hg4 (own_row8 ho1' (by decide)))
      have hBw4:Below X.heap.size X w4:=(HW.out.1.alloc hzW _).trans hB4
      have hcw4:=HC.out.below8 (hBw4.mono hzX0)
      obtain ⟨g0,g1,g2,g3,g4,g5,g6,g7,g8⟩:=hcw4 hbb
      have hz4:=hBw4.size
      have H4:=hide (And.intro hown4 (And.intro ho2' hBw4))
      clear hown4 hg4 hB4 hat4 ho2' ho1' ho1 ho2 hcw4 hBw4 q0 q1 q2 q3 q4 q5 q6 q7 q8
      have ho2':=H4.out.2.1.alloc (.cells (encP t.2.2).toArray 43)
      go_wp2_with (at_builtin;refine wpList_append1 rfl _ _ _ rfl Tryz.underlying28 infoPt rfl (by omega) encP_len encP_one rfl ho2' w4.heap.size 1 t.2.2 rfl (Blk.new _ _ _) (by unfold maxLen;omega) (by omega) (by simp;omega) ?_;intro g5' cap5 w5 hown5 hg5 hB5 hat5 hgb5 hlt5)
      go_roundw
      case rel=>
       have ho1'':=(H4.out.1.alloc (.cells (encP t.2.2).toArray 43)).step hg5 (own_row8 ho2' (by decide))
       refine ⟨1+1,m+1,L++ [(t,t.2.2)],by omega,by go_num,by omega,by rw [HN.out,←List.append_assoc,←HJ.out.2.2.1];rfl,?_,?_,(H4.out.2.2.alloc hz4 _).trans hB5⟩
       ·rw [List.map_append];exact ho1''
       ·rw [List.map_append];exact hown5
      case measure=>(simp [intOf] <;>omega)
     ·have d1:decide (t.2.1=p)=false:=decide_eq_false h1
      rw [d1] at e1
      have hsn:=pinN_no 1 (t:=t) (p:=p) h1
      have HN:=hide hsn
      clear h1 d1 hsn
      go_upto_region 9 with fail
      go_quiet (fail)
      clear g0 g1 g2 g3 g4 g5 g6 g7 g8 e1
      go_wp2
      go_roundw
      case rel=>exact ⟨1+1,m,L,by omega,by go_num,by omega,by rw [HN.out];exact HJ.out.2.2.1,HJ.out.1,HJ.out.2.1,below_drewN HJ.out.2.2.2 nq⟩
      case measure=>(simp [intOf] <;>omega)
    ·have e1:=eqP t.2.2 p HK.out.2.2.2 HP.out.1
     by_cases h1:t.2.2=p
     ·have d1:decide (t.2.2=p)=true:=decide_eq_true h1
      rw [d1] at e1
      have hsn:=pinN_yes 2 (t:=t) (p:=p) h1
      have HN:=hide hsn
      clear h1 d1 hsn
      go_upto_region 9 with fail
      go_quiet (fail)
      obtain ⟨W,hW⟩:∃W,W=wr.drewN nq:=⟨_,rfl⟩
      have hBW:Below X.heap.size X W:=by rw [hW];exact below_drewN HJ.out.2.2.2 nq
      have ho1:Own encT 9 46 W X.heap.size (.slice A1 m c1) m (L.map (·.1)):=by rw [hW];exact HJ.out.1
      have ho2:Own encP 3 43 W X.heap.size (.slice A2 m c2) m (L.map (·.2)):=by rw [hW];exact HJ.out.2.1
      have hcW:=HC.out.below8 (hBW.mono hzX0)
      obtain ⟨q0,q1,q2,q3,q4,q5,q6,q7,q8⟩:=hcW hbb
      have hzW:=hBW.size
      have HW:=hide (And.intro hBW (And.intro ho1 ho2))
      rw [←hW]
      clear hBW hcW hW g0 g1 g2 g3 g4 g5 g6 g7 g8 x0 x1 x2 e1
      have ho1':=ho1.alloc (.cells (encT t).toArray 46)
      go_upto_region 11 with (at_builtin;refine wpList_append1 rfl _ _ _ rfl Tryz.underlying44 infoT rfl (by omega) encT_len encT_one rfl ho1' W.heap.size 1 t rfl (Blk.new _ _ _) (by unfold maxLen;omega) (by omega) (by simp;omega) ?_;intro g4' cap4 w4 hown4 hg4 hB4 hat4 hgb4 hlt4)
      have ho2':=((HW.out.2.2.alloc (.cells (encT t).toArray 46)).step hg4 (own_row8 ho1' (by decide)))
      have hBw4:Below X.heap.size X w4:=(HW.out.1.alloc hzW _).trans hB4
      have hcw4:=HC.out.below8 (hBw4.mono hzX0)
      obtain ⟨g0,g1,g2,g3,g4,g5,g6,g7,g8⟩:=hcw4 hbb
      have hz4:=hBw4.size
      have H4:=hide (And.intro hown4 (And.intro ho2' hBw4))
      clear hown4 hg4 hB4 hat4 ho2' ho1' ho1 ho2 hcw4 hBw4 q0 q1 q2 q3 q4 q5 q6 q7 q8
      have ho2':=H4.out.2.1.alloc (.cells (encP t.1).toArray 43)
      go_wp2_with (at_builtin;refine wpList_append1 rfl _ _ _ rfl Tryz.underlying28 infoPt rfl (by omega) encP_len encP_one rfl ho2' w4.heap.size 1 t.1 rfl (Blk.new _ _ _) (by unfold maxLen;omega) (by omega) (by simp;omega) ?_;intro g5' cap5 w5 hown5 hg5 hB5 hat5 hgb5 hlt5)
      go_roundw
      case rel=>
       have ho1'':=(H4.out.1.alloc (.cells (encP t.1).toArray 43)).step hg5 (own_row8 ho2' (by decide))
       refine ⟨2+1,m+1,L++ [(t,t.1)],by omega,by go_num,by omega,by rw [HN.out,←List.append_assoc,←HJ.out.2.2.1];rfl,?_,?_,(H4.out.2.2.alloc hz4 _).trans hB5⟩
       ·rw [List.map_append];exact ho1''
       ·rw [List.map_append];exact hown5
      case measure=>(simp [intOf] <;>omega)
     ·have d1:decide (t.2.2=p)=false:=decide_eq_false h1
      rw [d1] at e1
      have hsn:=pinN_no 2 (t:=t) (p:=p) h1
      have HN:=hide hsn
      clear h1 d1 hsn
      go_upto_region 9 with fail
      go_quiet (fail)
      clear g0 g1 g2 g3 g4 g5 g6 g7 g8 e1
      go_wp2
      go_roundw
      case rel=>exact ⟨2+1,m,L,by omega,by go_num,by omega,by rw [HN.out];exact HJ.out.2.2.1,HJ.out.1,HJ.out.2.1,below_drewN HJ.out.2.2.2 nq⟩
      case measure=>(simp [intOf] <;>omega)
    ·have hsn:=pinL_snoc l p k t HK.out.1
     rw [←HL.out.1] at hsn
     have HN:=hide hsn
     clear hsn g0 g1 g2 g3 g4 g5 g6 g7 g8
     go_wp2
     go_roundw
     case rel=>exact ⟨k+1,m,L,by omega,by go_num,by omega,by rw [HN.out];exact HJ.out.2.2.1,HJ.out.1,HJ.out.2.1,HJ.out.2.2.2⟩
     case measure=>simp [intOf];omega
  ·have hke:k=l.length:=by rw [←HS.out.2.1];omega
   rw [hke,List.take_length] at hL0
   have hkn:n=k:=by omega
   have hfl:=pinL_fits (p:=p) HS.out.2.2.1
   rw [←hL0] at hfl
   have hpp:pinchedP l p=(L0.map (·.2)).any fun s=>runP (L0.map (·.1)) p s (m0 - 1) s:=by
    have h1:=hown1.1
    rw [List.length_map] at h1
    unfold pinchedP
    rw [←hL0,h1]
   have HE:=hide (And.intro hpp (And.intro hown1 (And.intro hown2 (And.intro hB hfl))))
   clear hL0 hke hown1 hown2 hB hfl hpp
   subst hkn
   obtain ⟨V,rfl⟩:∃V,V=wr:=⟨_,rfl⟩
   obtain ⟨M,hM⟩:∃M,M=L0.map (·.1):=⟨_,rfl⟩
   obtain ⟨S,hS⟩:∃S,S=L0.map (·.2):=⟨_,rfl⟩
   rw [←hM,←hS] at HE
   have hMf:∀u∈M,fitsT u:=fun u hu=>by
    rw [hM] at hu
    obtain ⟨y,hy,rfl⟩:=List.mem_map.1 hu
    exact (HE.out.2.2.2.2 y hy).1
   have hSf:∀u∈S,fitsP u:=fun u hu=>by
    rw [hS] at hu
    obtain ⟨y,hy,rfl⟩:=List.mem_map.1 hu
    exact (HE.out.2.2.2.2 y hy).2
   have hzV:=HE.out.2.2.2.1.size
   have hSl:=HE.out.2.2.1.1
   have hMl:=HE.out.2.1.1
   have HF:=hide (And.intro hMf (And.intro hSf (And.intro hSl (And.intro hMl trivial))))
   have hslM:Sl encT 9 V V.heap.size A10 M:=HE.out.2.1.sl encT_len (Nat.le_refl _)
   have hslS:Sl encP 3 V V.heap.size A20 S:=HE.out.2.2.1.sl encP_len (Nat.le_refl _)
   have hbp:Blk V w.heap.size 43 #[.int .i64 p.1, .int .i64 p.2.1, .int .i64 p.2.2]:=HX.out.2.1.below HE.out.2.2.2.1 (by omega)
   have HV:=hide (And.intro hslM (And.intro hslS (And.intro hbp trivial)))
   clear hMf hSf hSl hMl hM hS hslM hslS hbp
   go_wp2
   go_loopw [9] (fun iv wx=>∃k:Nat,k≤m0∧iv= .int .i64 k∧(∀i s,i < k→S[i]? =some s→runP M p s (m0 - 1) s=false)∧Below V.heap.size V wx) (fun iv _=>m0 - (intOf iv).toNat)
   case atStart=>exact ⟨0,by omega,rfl,fun i s hi=>absurd hi (by omega),Below.refl _ V⟩
   case round=>
    obtain ⟨k,hk,rfl,hno,hB⟩:=hrel
    obtain ⟨V1,rfl⟩:∃V1,V1=wr:=⟨_,rfl⟩
    have hzV1:=hB.size
    by_cases hlt:k < m0
    ·obtain ⟨s,hs⟩:∃s,S[k]? =some s:=⟨_,List.getElem?_eq_getElem (by rw [←HF.out.2.2.1];exact hlt)⟩
     have i1:(k:Int) < (m0:Int):=by omega
     have hfs:=HF.out.2.1 s (List.mem_of_getElem? hs)
     obtain ⟨b2,o2,hA2,hb2,_⟩:=HV.out.2.1.at hs
     subst hA2
     obtain ⟨g0,g1,g2⟩:=(HV.out.2.1.below hB).pt8 hs
     have HK:=hide (And.intro hs (And.intro hno (And.intro hB hfs)))
     clear hs hno hB hfs
     go_wp2
     obtain ⟨Y,hY⟩:∃Y,Y=V1.alloc (.cells #[.int .i64 s.1, .int .i64 s.2.1, .int .i64 s.2.2] 43):=⟨_,rfl⟩
     rw [←hY]
     have hBY:Below V1.heap.size V1 Y:=by rw [hY];exact (Below.refl _ V1).alloc (Nat.le_refl _) _
     have hbY:Blk Y V1.heap.size 43 #[.int .i64 s.1, .int .i64 s.2.1, .int .i64 s.2.2]:=by rw [hY];exact Blk.new _ _ _
     have HY:=hide (And.intro hBY hbY)
     clear hBY hbY hY g0 g1 g2
     go_loopw [11] (fun zv wx=>∃(z:Nat) (x:Pt),1≤z∧z≤m0∧zv= .int .i64 z∧runP M p s (m0 - 1) s=runP M p s (m0 - z) x∧fitsP x∧Blk wx V1.heap.size 43 #[.int .i64 x.1, .int .i64 x.2.1, .int .i64 x.2.2]∧Below V1.heap.size V1 wx) (fun zv _=>m0 - (intOf zv).toNat)
     case atStart=>exact ⟨1,s,by omega,by omega,rfl,rfl,HK.out.2.2.2,HY.out.2,HY.out.1⟩
     case round=>
      obtain ⟨z,x,hz1,hz,rfl,hrun,hfx,hbx,hBz⟩:=hrel
      have hzr:=hBz.size
      have hzb:=hbx.lt
      obtain ⟨x0,x1,x2⟩:=hbx.three8
      obtain ⟨y0,y1,y2⟩:=((HV.out.2.2.1.below HK.out.2.2.1 (by omega)).below hBz (by omega)).three8
      by_cases hlz:z < m0
      ·have i2:(z:Int) < (m0:Int):=by omega
       have hcal:=behind_any A10 c10 M p x wr (((HV.out.1.below HK.out.2.2.1).below (hBz.mono hzV1)).more (by omega)) (by rw [←HF.out.2.2.2.1];omega) HP.out.1 hfx HF.out.1
       rw [←HF.out.2.2.2.1] at hcal
       have HZ:=hide (And.intro hrun (And.intro hfx (And.intro hbx (And.intro hBz hcal))))
       clear hrun hfx hbx hBz hcal
       have hrs:runP M p s (m0 - z) x=match behP M p x with | none=>false | some y=>if y=s then true else runP M p s (m0 - (z+1)) y:=by
        rw [show m0 - z=(m0 - (z+1))+1 by omega];rfl
       go_wp2_with fail
       refine HZ.out.2.2.2.2.mono ?_
       rintro e w5 ⟨rfl,hB5⟩
       have hz5:=hB5.size
       have hb5:=HZ.out.2.2.1.below hB5 hzb
       cases hbeh:behP M p x with
       | none=>
        rw [hbeh] at hrs
        have HR:=hide (HZ.out.1.trans hrs)
        have HB5:=hide hB5
        clear hrs hbeh hB5 hb5
        go_wp2
        go_roundw
        case rel=>
         refine ⟨k+1,by omega,by go_num,fun i s' hi hs'=> ?_,HK.out.2.2.1.trans ((HZ.out.2.2.2.1.mono hzV1).trans ((HB5.out.mono (by omega)).alloc (by omega) _))⟩
         rcases Nat.lt_or_ge i k with h | h
         ·exact HK.out.2.1 i s' h hs'
         ·have e:i=k:=by omega
          subst e
          rw [HK.out.1] at hs'
          cases hs'
          exact HR.out
        case measure=>simp [intOf];omega
       | some y=>
        rw [hbeh] at hrs
        have hfy:fitsP y:=behP_fits HF.out.1 hbeh
        obtain ⟨u0,u1,u2⟩:=hb5.three8
        have f0:=hb5.frozen 0
        have f1:=hb5.frozen 1
        have f2:=hb5.frozen 2
        have hne:w5.heap.size≠V1.heap.size:=by omega
        have hlt5:V1.heap.size < w5.heap.size:=by omega
        have HR:=hide (And.intro (HZ.out.1.trans hrs) (And.intro hfy (And.intro hb5 hB5)))
        clear hrs hbeh hB5 hb5 hfy x0 x1 x2 y0 y1 y2
        go_upto_region 22 with fail
        obtain ⟨W,hW⟩:∃W,W=(((w5.setCell ⟨V1.heap.size,0,none⟩ (.int .i64 y.1)).setCell ⟨V1.heap.size,1,none⟩ (.int .i64 y.2.1)).setCell ⟨V1.heap.size,2,none⟩ (.int .i64 y.2.2)).alloc (.cells #[.int .i64 y.1, .int .i64 y.2.1, .int .i64 y.2.2] 43):=⟨_,rfl⟩
        rw [←hW]
        have hBW:Below V1.heap.size V1 W:=by
         rw [hW]
         exact ((((HZ.out.2.2.2.1.trans (HR.out.2.2.2.mono hzr)).setCell (by dsimp only;omega) _).setCell (by dsimp only;omega) _).setCell (by dsimp only;omega) _).alloc (by simp [World.setCell];omega) _
        have hbW:Blk W V1.heap.size 43 #[.int .i64 y.1, .int .i64 y.2.1, .int .i64 y.2.2]:=by rw [hW];exact (HR.out.2.2.1.set3 _ _ _).alloc _
        have hsW:Sl encP 3 W V.heap.size (some ⟨b2,o2,none⟩) S:=(HV.out.2.1.below HK.out.2.2.1).below (hBW.mono hzV1)
        obtain ⟨x0,x1,x2⟩:=hbW.three8
        obtain ⟨g0,g1,g2⟩:=hsW.pt8 HK.out.1
        have heq:=eqP y s HR.out.2.1 HK.out.2.2.2
        have HW:=hide (And.intro hBW hbW)
        clear hW hBW hbW hsW u0 u1 u2 f0 f1 f2
        by_cases hys:y=s
        ·have hd:decide (y=s)=true:=decide_eq_true hys
         rw [hd] at heq
         have hres:pinchedP l p=true:=by
          rw [HE.out.1,List.any_eq_true]
          refine ⟨s,List.mem_of_getElem? HK.out.1,?_⟩
          rw [HR.out.1]
          simp [hys]
         have HG:=hide hres
         clear hys hd hres
         go_quiet (fail)
         go_wp2
         go_ret
         exact ⟨by rw [HG.out];rfl,below_drewN (HX.out.1.trans ((HE.out.2.2.2.1.mono hzX0).trans ((HK.out.2.2.1.mono (by omega)).trans (HW.out.1.mono (by omega))))) _⟩
        ·have hd:decide (y=s)=false:=decide_eq_false hys
         rw [hd] at heq
         have hrn:runP M p s (m0 - 1) s=runP M p s (m0 - (z+1)) y:=by
          rw [HR.out.1]
          simp [hys]
         have HG:=hide hrn
         clear hys hd hrn
         go_quiet (fail)
         go_wp2
         go_roundw
         case rel=>exact ⟨z+1,y,by omega,by omega,by go_num,HG.out,HR.out.2.1,HW.out.2.drewN _,below_drewN HW.out.1 _⟩
         case measure=>simp [intOf];omega
      ·have hze:z=m0:=by omega
       subst hze
       rw [Nat.sub_self] at hrun
       have HR:=hide (And.intro hrun hBz)
       clear hrun hfx hbx hBz
       go_wp2
       go_roundw
       case rel=>
        refine ⟨k+1,by omega,by go_num,fun i s' hi hs'=> ?_,HK.out.2.2.1.trans (HR.out.2.mono hzV1)⟩
        rcases Nat.lt_or_ge i k with h | h
        ·exact HK.out.2.1 i s' h hs'
        ·have e:i=k:=by omega
         subst e
         rw [HK.out.1] at hs'
         cases hs'
         exact HR.out.1
       case measure=>simp [intOf];omega
    ·have hke:k=m0:=by omega
     have hall:pinchedP l p=false:=by
      rw [HE.out.1,List.any_eq_false]
      intro s hs
      obtain ⟨i,hi⟩:=List.mem_iff_getElem?.1 hs
      have hil:i < S.length:=(List.getElem?_eq_some_iff.1 hi).1
      rw [hno i s (by rw [hke,HF.out.2.2.1];exact hil) hi]
      simp
     have HR:=hide (And.intro hall hB)
     clear hno hall hB
     subst hke
     go_wp2
     go_ret
     exact ⟨by rw [HR.out.1];rfl,HX.out.1.trans ((HE.out.2.2.2.1.mono hzX0).trans (HR.out.2.mono (by omega)))⟩
end Go.Proofs.YtmemofonebphfaaGreat
namespace Go.Proofs.YtmemofonebphfaaGreat
open Go.RowKit Go.Sort
def flatT (t:Tri):Bool:=decide (t.1=t.2.1) || decide (t.2.1=t.2.2) || decide (t.2.2=t.1)
def twiceE (l:List Ed) (e:Ed):Bool:=decide (1 < cntE l e)
def checkP (l:List Tri) (op:Bool):Int:=if l.any flatT=true then 20 else if (edgesP l).any (twiceE (edgesP l))=true then 21 else if (!op && decide (0 < (borderP l).length))=true then 22 else if (cornersP l).any (pinchedP l)=true then 23 else 0
theorem any_none {α:Type} {f:α→Bool} {l:List α} {n k:Nat} (hn:n=l.length) (hk:n≤k) (h:∀i x,i < k→l[i]? =some x→f x=false):l.any f=false:=by
 rw [List.any_eq_false]
 intro x hx
 obtain ⟨i,hi⟩:=List.mem_iff_getElem?.1 hx
 have hil:i < l.length:=(List.getElem?_eq_some_iff.1 hi).1
 rw [h i x (by omega) hi]
 simp
theorem any_some {α:Type} {f:α→Bool} {l:List α} {k:Nat} {x:α} (h:l[k]? =some x) (hf:f x=true):l.any f=true:=List.any_eq_true.2 ⟨x,List.mem_of_getElem? h,hf⟩
theorem none_succ {α:Type} {f:α→Bool} {l:List α} {k:Nat} {x:α} (hk:l[k]? =some x) (h:∀i x,i < k→l[i]? =some x→f x=false) (hf:f x=false):∀i x,i < k+1→l[i]? =some x→f x=false:=fun i y hi hy=>by
 rcases Nat.lt_or_ge i k with h1 | h1
 ·exact h i y h1 hy
 ·have e:i=k:=by omega
  subst e
  rw [hk] at hy
  cases hy
  exact hf
theorem corN_le (l:List Pt) (t:Tri):(corN l t 3).length≤l.length+3:=by
 have h1:=withP_length l t.1
 have h2:=withP_length (withP l t.1) t.2.1
 have h3:=withP_length (withP (withP l t.1) t.2.1) t.2.2
 show (withP (withP (withP l t.1) t.2.1) t.2.2).length≤_
 omega
theorem cornersP_le (ts:List Tri):(cornersP ts).length≤3*ts.length:=by
 have key:∀(us:List Tri) (l:List Pt),(us.foldl (fun l t=>corN l t 3) l).length≤l.length+3*us.length:=by
  intro us
  induction us with
  | nil=>intro l;simp
  | cons t us ih=>
   intro l
   have h1:=ih (corN l t 3)
   have h2:=corN_le l t
   rw [List.foldl_cons,List.length_cons]
   omega
 have:=key ts []
 unfold cornersP
 simpa using this
set_option maxRecDepth 100000 in
set_option maxHeartbeats 16000000 in
theorem check_any (A:Option Addr) (c:Nat) (l:List Tri) (op:Bool) (w:World) (hs:Sl encT 9 w w.heap.size A l) (hl:l.length≤1073741824) (hf:∀t∈l,fitsT t):
  Calls Tryz.prog 98 #[.slice A l.length c, .bool op] w fun e w'=>e= .returned (.int .i64 (checkP l op))∧Below w.heap.size w w':=by
 obtain ⟨n,hn⟩:∃n,n=l.length:=⟨_,rfl⟩
 have hed:=fun W (hW:Below w.heap.size w W)=>edges_any A c l W ((hs.below hW).more hW.size) hl
 have hbo:=fun W (hW:Below w.heap.size w W)=>border_any A c l W ((hs.below hW).more hW.size) hl hf
 have hco:=fun W (hW:Below w.heap.size w W)=>corners_any A c l W ((hs.below hW).more hW.size) hl hf
 have hpi:=fun W (hW:Below w.heap.size w W) (p:Pt) (hp:fitsP p)=>pinched_any A c l p W ((hs.below hW).more hW.size) hl hp hf
 have hqb:=cornersP_le l
 have hfe:=edgesP_fits hf
 have hle:=edgesP_length l
 obtain ⟨E,hE⟩:∃E,E=edgesP l:=⟨_,rfl⟩
 obtain ⟨B,hB⟩:∃B,B=borderP l:=⟨_,rfl⟩
 obtain ⟨Q,hQ⟩:∃Q,Q=cornersP l:=⟨_,rfl⟩
 obtain ⟨R,hR⟩:∃R,R=checkP l op:=⟨_,rfl⟩
 have hRe:R=if l.any flatT=true then 20 else if E.any (twiceE E)=true then 21 else if (!op && decide (0 < B.length))=true then 22 else if Q.any (pinchedP l)=true then 23 else 0:=by rw [hR,hE,hB,hQ];rfl
 rw [←hE] at hed hfe hle
 rw [←hB] at hbo
 rw [←hQ] at hco hqb
 rw [←hR]
 rw [←hn] at hl hed hbo hco hpi hle hqb⊢
 obtain ⟨el,hel⟩:∃el,el=E.length:=⟨_,rfl⟩
 rw [←hel] at hed hle
 have HS:=hide (And.intro hs (And.intro hn (And.intro hf (And.intro hfe (And.intro hel hRe)))))
 have HC:=hide (And.intro hed (And.intro hbo (And.intro hco (And.intro hpi (show Q.length≤3221225472 by omega)))))
 have hel3:el≤3221225472:=by omega
 clear hs hn hf hfe hel hRe hed hbo hco hpi hqb hE hB hQ hR hle
 go_enter Tryz.func98,Tryz.ntmps98
 go_wp2
 go_loopw [5] (fun iv wr=>∃k q:Nat,k≤n∧iv= .int .i64 k∧(∀i t,i < k→l[i]? =some t→flatT t=false)∧wr=w.drewN q) (fun iv _=>n - (intOf iv).toNat)
 case atStart=>exact ⟨0,0,by omega,rfl,fun i t hi=>absurd hi (by omega),rfl⟩
 case round=>
  obtain ⟨k,q,hk,rfl,hno,rfl⟩:=hrel
  by_cases hlt:k < n
  ·obtain ⟨t,ht⟩:∃t,l[k]? =some t:=⟨_,List.getElem?_eq_getElem (by rw [←HS.out.2.1];exact hlt)⟩
   have i1:(k:Int) < (n:Int):=by omega
   obtain ⟨b,o,hA,hbb,g0,g1,g2,g3,g4,g5,g6,g7,g8⟩:=HS.out.1.tri ht
   subst hA
   have hft:=HS.out.2.2.1 t (List.mem_of_getElem? ht)
   have e1:=eqP t.1 t.2.1 hft.1 hft.2.1
   have e2:=eqP t.2.1 t.2.2 hft.2.1 hft.2.2
   have e3:=eqP t.2.2 t.1 hft.2.2 hft.1
   have hfl:flatT t=(decide (t.1=t.2.1) || decide (t.2.1=t.2.2) || decide (t.2.2=t.1)):=rfl
   have HK:=hide (And.intro ht hno)
   clear ht hno hft
   by_cases h1:t.1=t.2.1
   ·have d1:decide (t.1=t.2.1)=true:=decide_eq_true h1
    rw [d1] at e1
    have hx:flatT t=true:=by rw [hfl,d1];rfl
    have HX:=hide (any_some HK.out.1 hx)
    clear h1 d1 hfl hx e2 e3
    go_wp2_with fail
    go_quiet (fail)
    go_wp2
    go_ret
    exact ⟨by rw [HS.out.2.2.2.2.2,if_pos HX.out];rfl,below_drewN (below_drewN (Below.refl _ w) q) nq⟩
   ·have d1:decide (t.1=t.2.1)=false:=decide_eq_false h1
    rw [d1] at e1
    by_cases h2:t.2.1=t.2.2
    ·have d2:decide (t.2.1=t.2.2)=true:=decide_eq_true h2
     rw [d2] at e2
     have hx:flatT t=true:=by rw [hfl,d1,d2];rfl
     have HX:=hide (any_some HK.out.1 hx)
     clear h1 d1 h2 d2 hfl hx e3
     go_wp2_with fail
     go_quiet (fail)
     go_wp2
     go_ret
     exact ⟨by rw [HS.out.2.2.2.2.2,if_pos HX.out];rfl,below_drewN (below_drewN (Below.refl _ w) q) nq⟩
    ·have d2:decide (t.2.1=t.2.2)=false:=decide_eq_false h2
     rw [d2] at e2
     by_cases h3:t.2.2=t.1
     ·have d3:decide (t.2.2=t.1)=true:=decide_eq_true h3
      rw [d3] at e3
      have hx:flatT t=true:=by rw [hfl,d1,d2,d3];rfl
      have HX:=hide (any_some HK.out.1 hx)
      clear h1 d1 h2 d2 h3 d3 hfl hx
      go_wp2_with fail
      go_quiet (fail)
      go_wp2
      go_ret
      exact ⟨by rw [HS.out.2.2.2.2.2,if_pos HX.out];rfl,below_drewN (below_drewN (Below.refl _ w) q) nq⟩
     ·have d3:decide (t.2.2=t.1)=false:=decide_eq_false h3
      rw [d3] at e3
      have hx:flatT t=false:=by rw [hfl,d1,d2,d3];rfl
      have HX:=hide (none_succ HK.out.1 HK.out.2 hx)
      clear h1 d1 h2 d2 h3 d3 hfl hx
      go_wp2_with fail
      go_quiet (fail)
      go_wp2
      go_roundw
      case rel=>exact ⟨k+1,q+nq,by omega,by go_num,HX.out,rfl⟩
      case measure=>simp [intOf];omega
  ·have hnone:=any_none HS.out.2.1 (by omega:n≤k) hno
   have hRe:=HS.out.2.2.2.2.2
   rw [if_neg (by rw [hnone];simp)] at hRe
   have HR:=hide hRe
   clear hno hnone hRe
   have hB0:Below w.heap.size w (w.drewN q):=below_drewN (Below.refl _ w) q
   obtain ⟨w0,hw0⟩:∃w0,w0=w.drewN q:=⟨_,rfl⟩
   rw [←hw0] at hB0⊢
   clear hw0
   have hz0:=hB0.size
   go_wp2_with fail
   refine (HC.out.1 w0 hB0).mono ?_
   rintro e w1 ⟨v1,rfl,hown1,hB1⟩
   obtain ⟨A1,c1,rfl⟩:=hown1.form
   have hB01:Below w.heap.size w w1:=hB0.trans (hB1.mono hz0)
   have hz1:=hB01.size
   have H1:=hide (And.intro (hown1.sl encE_len (Nat.le_refl _)) hB01)
   clear hown1 hB1 hB01 hB0
   go_wp2
   go_loopw [7] (fun iv wr=>∃k:Nat,k≤el∧iv= .int .i64 k∧(∀i x,i < k→E[i]? =some x→twiceE E x=false)∧Below w1.heap.size w1 wr) (fun iv _=>el - (intOf iv).toNat)
   case atStart=>exact ⟨0,by omega,rfl,fun i t hi=>absurd hi (by omega),Below.refl _ w1⟩
   case round=>
    obtain ⟨k2,hk2,rfl,hno,hB⟩:=hrel
    have hzr:=hB.size
    by_cases hlt2:k2 < el
    ·obtain ⟨x,hx⟩:∃x,E[k2]? =some x:=⟨_,List.getElem?_eq_getElem (by rw [←HS.out.2.2.2.2.1];exact hlt2)⟩
     have i2:(k2:Int) < (el:Int):=by omega
     have hsl:=H1.out.1.below hB
     obtain ⟨b,o,hA,hbb,_⟩:=hsl.at hx
     subst hA
     obtain ⟨g0,g1,g2,g3,g4,g5⟩:=hsl.ed hx
     have hcal:=count_any (some ⟨b,o,none⟩) c1 E x wr (hsl.more hzr) (by rw [←HS.out.2.2.2.2.1];omega) (HS.out.2.2.2.1 x (List.mem_of_getElem? hx)) HS.out.2.2.2.1
     rw [←HS.out.2.2.2.2.1] at hcal
     have htw:twiceE E x=decide (1 < cntE E x):=rfl
     obtain ⟨m,hm⟩:∃m,m=cntE E x:=⟨_,rfl⟩
     rw [←hm] at hcal htw
     have HK:=hide (And.intro hx (And.intro hno (And.intro hB hcal)))
     clear hsl hx hno hB hcal hm
     go_wp2_with fail
     refine HK.out.2.2.2.mono ?_
     rintro e w2 ⟨rfl,hB2⟩
     have hB12:Below w1.heap.size w1 w2:=HK.out.2.2.1.trans (hB2.mono hzr)
     by_cases h1:1 < m
     ·have j1:(1:Int) < (m:Int):=by omega
      have hx:twiceE E x=true:=by rw [htw];simp [h1]
      have HX:=hide (And.intro (any_some HK.out.1 hx) hB12)
      clear htw hx hB2 hB12
      go_wp2
      go_ret
      exact ⟨by rw [HR.out,if_pos HX.out.1];rfl,H1.out.2.trans (HX.out.2.mono hz1)⟩
     ·have j1:¬(1:Int) < (m:Int):=by omega
      have hx:twiceE E x=false:=by rw [htw];simp [h1]
      have HX:=hide (And.intro (none_succ HK.out.1 HK.out.2.1 hx) hB12)
      clear htw hx hB2 hB12
      go_wp2
      go_roundw
      case rel=>exact ⟨k2+1,by omega,by go_num,HX.out.1,HX.out.2⟩
      case measure=>simp [intOf];omega
    ·have hnone:=any_none HS.out.2.2.2.2.1 (by omega:el≤k2) hno
     have hRe:=HR.out
     rw [if_neg (by rw [hnone];simp)] at hRe
     have hBw:Below w.heap.size w wr:=H1.out.2.trans (hB.mono hz1)
     have HR2:=hide (And.intro hRe hBw)
     clear hno hnone hRe hBw hB
     have hzw:w.heap.size≤wr.heap.size:=HR2.out.2.size
     cases op with
     | true=>
      have hRe:=HR2.out.1
      rw [if_neg (by simp)] at hRe
      have HR3:=hide hRe
      clear hRe
      obtain ⟨V,rfl⟩:∃V,V=wr:=⟨_,rfl⟩
      have HV:=hide HR2.out.2
      go_wp2_with fail
      refine (HC.out.2.2.1 V HV.out).mono ?_
      rintro e w5 ⟨A5,c5,rfl,hs5,_,hB5,hf5⟩
      have hB05:Below w.heap.size w w5:=HV.out.trans (hB5.mono HV.out.size)
      have hz5:=hB05.size
      have hqb:=HC.out.2.2.2.2
      obtain ⟨ql,hql⟩:∃ql,ql=Q.length:=⟨_,rfl⟩
      rw [←hql] at hqb⊢
      have H5:=hide (And.intro hs5 (And.intro hf5 (And.intro hql hB05)))
      clear hs5 hf5 hql hB5 hB05
      go_wp2
      go_loopw [9] (fun iv wr=>∃k:Nat,k≤ql∧iv= .int .i64 k∧(∀i x,i < k→Q[i]? =some x→pinchedP l x=false)∧Below w5.heap.size w5 wr) (fun iv _=>ql - (intOf iv).toNat)
      case atStart=>exact ⟨0,by omega,rfl,fun i t hi=>absurd hi (by omega),Below.refl _ w5⟩
      case round=>
       obtain ⟨k5,hk5,rfl,hno,hB⟩:=hrel
       have hzr:=hB.size
       by_cases hlt5:k5 < ql
       ·obtain ⟨x,hx⟩:∃x,Q[k5]? =some x:=⟨_,List.getElem?_eq_getElem (by rw [←H5.out.2.2.1];exact hlt5)⟩
        have i5:(k5:Int) < (ql:Int):=by omega
        have hsl:=H5.out.1.below hB
        obtain ⟨b,o,hA,hbb,_⟩:=hsl.at hx
        subst hA
        obtain ⟨g0,g1,g2⟩:=hsl.pt8 hx
        have hcal:=HC.out.2.2.2.1 wr (H5.out.2.2.2.trans (hB.mono hz5)) x (H5.out.2.1 x (List.mem_of_getElem? hx))
        have HK:=hide (And.intro hx (And.intro hno (And.intro hB hcal)))
        clear hsl hx hno hB hcal
        go_wp2_with fail
        refine HK.out.2.2.2.mono ?_
        rintro e w6 ⟨rfl,hB6⟩
        have hB56:Below w5.heap.size w5 w6:=HK.out.2.2.1.trans (hB6.mono (by omega))
        cases hp:pinchedP l x
        ·have HX:=hide (And.intro (none_succ HK.out.1 HK.out.2.1 hp) hB56)
         clear hp hB6 hB56
         go_wp2
         go_roundw
         case rel=>exact ⟨k5+1,by omega,by go_num,HX.out.1,HX.out.2⟩
         case measure=>simp [intOf];omega
        ·have HX:=hide (And.intro (any_some HK.out.1 hp) hB56)
         clear hp hB6 hB56
         go_wp2
         go_ret
         exact ⟨by rw [HR3.out,if_pos HX.out.1];rfl,H5.out.2.2.2.trans (HX.out.2.mono hz5)⟩
       ·have hnone:=any_none H5.out.2.2.1 (by omega:ql≤k5) hno
        have hRf:=HR3.out
        rw [if_neg (by rw [hnone];simp)] at hRf
        have HX:=hide (And.intro hRf (H5.out.2.2.2.trans (hB.mono hz5)))
        clear hno hnone hRf hB
        go_wp2
        go_ret
        exact ⟨by rw [HX.out.1];rfl,HX.out.2⟩
     | false=>
      have hRe:=HR2.out.1
      simp only [Bool.not_false,Bool.true_and,decide_eq_true_eq] at hRe
      have HRb:=hide hRe
      clear hRe
      go_wp2_with fail
      refine (HC.out.2.1 wr HR2.out.2).mono ?_
      rintro e w4 ⟨A4,c4,rfl,_,_,hB4⟩
      have hB04:Below w.heap.size w w4:=HR2.out.2.trans (hB4.mono hzw)
      obtain ⟨bl,hbl⟩:∃bl,bl=B.length:=⟨_,rfl⟩
      rw [←hbl] at HRb⊢
      by_cases h0:0 < bl
      ·have j0:(0:Int) < (bl:Int):=by omega
       have hRf:=HRb.out
       rw [if_pos h0] at hRf
       have HX:=hide (And.intro hRf hB04)
       clear hbl hB4 hB04 hRf
       go_wp2
       go_ret
       exact ⟨by rw [HX.out.1];rfl,HX.out.2⟩
      ·have j0:bl=0:=by omega
       have hRf:=HRb.out
       rw [if_neg h0] at hRf
       have HR3:=hide hRf
       clear hbl hRf h0
       subst j0
       have HV:=hide hB04
       clear hB4 hB04
       obtain ⟨V,rfl⟩:∃V,V=w4:=⟨_,rfl⟩
       go_wp2_with fail
       refine (HC.out.2.2.1 V HV.out).mono ?_
       rintro e w5 ⟨A5,c5,rfl,hs5,_,hB5,hf5⟩
       have hB05:Below w.heap.size w w5:=HV.out.trans (hB5.mono HV.out.size)
       have hz5:=hB05.size
       have hqb:=HC.out.2.2.2.2
       obtain ⟨ql,hql⟩:∃ql,ql=Q.length:=⟨_,rfl⟩
       rw [←hql] at hqb⊢
       have H5:=hide (And.intro hs5 (And.intro hf5 (And.intro hql hB05)))
       clear hs5 hf5 hql hB5 hB05
       go_wp2
       go_loopw [9] (fun iv wr=>∃k:Nat,k≤ql∧iv= .int .i64 k∧(∀i x,i < k→Q[i]? =some x→pinchedP l x=false)∧Below w5.heap.size w5 wr) (fun iv _=>ql - (intOf iv).toNat)
       case atStart=>exact ⟨0,by omega,rfl,fun i t hi=>absurd hi (by omega),Below.refl _ w5⟩
       case round=>
        obtain ⟨k5,hk5,rfl,hno,hB⟩:=hrel
        have hzr:=hB.size
        by_cases hlt5:k5 < ql
        ·obtain ⟨x,hx⟩:∃x,Q[k5]? =some x:=⟨_,List.getElem?_eq_getElem (by rw [←H5.out.2.2.1];exact hlt5)⟩
         have i5:(k5:Int) < (ql:Int):=by omega
         have hsl:=H5.out.1.below hB
         obtain ⟨b,o,hA,hbb,_⟩:=hsl.at hx
         subst hA
         obtain ⟨g0,g1,g2⟩:=hsl.pt8 hx
         have hcal:=HC.out.2.2.2.1 wr (H5.out.2.2.2.trans (hB.mono hz5)) x (H5.out.2.1 x (List.mem_of_getElem? hx))
         have HK:=hide (And.intro hx (And.intro hno (And.intro hB hcal)))
         clear hsl hx hno hB hcal
         go_wp2_with fail
         refine HK.out.2.2.2.mono ?_
         rintro e w6 ⟨rfl,hB6⟩
         have hB56:Below w5.heap.size w5 w6:=HK.out.2.2.1.trans (hB6.mono (by omega))
         cases hp:pinchedP l x
         ·have HX:=hide (And.intro (none_succ HK.out.1 HK.out.2.1 hp) hB56)
          clear hp hB6 hB56
          go_wp2
          go_roundw
          case rel=>exact ⟨k5+1,by omega,by go_num,HX.out.1,HX.out.2⟩
          case measure=>simp [intOf];omega
         ·have HX:=hide (And.intro (any_some HK.out.1 hp) hB56)
          clear hp hB6 hB56
          go_wp2
          go_ret
          exact ⟨by rw [HR3.out,if_pos HX.out.1];rfl,H5.out.2.2.2.trans (HX.out.2.mono hz5)⟩
        ·have hnone:=any_none H5.out.2.2.1 (by omega:ql≤k5) hno
         have hRf:=HR3.out
         rw [if_neg (by rw [hnone];simp)] at hRf
         have HX:=hide (And.intro hRf (H5.out.2.2.2.trans (hB.mono hz5)))
         clear hno hnone hRf hB
         go_wp2
         go_ret
         exact ⟨by rw [HX.out.1];rfl,HX.out.2⟩
theorem Check_any (A:Option Addr) (c:Nat) (l:List Tri) (w:World) (hs:Sl encT 9 w w.heap.size A l) (hl:l.length≤1073741824) (hf:∀t∈l,fitsT t):
  Calls Tryz.prog 70 #[.slice A l.length c] w fun e w'=>e= .returned (.int .i64 (checkP l false))∧Below w.heap.size w w':=by
 have hcal:=check_any A c l false w hs hl hf
 have HC:=hide hcal
 clear hcal hs hl hf
 go_enter Tryz.func70,Tryz.ntmps70
 go_wp2_with fail
 refine HC.out.mono ?_
 rintro e w1 ⟨rfl,hB⟩
 go_wp2
 go_ret
 exact ⟨rfl,hB⟩
end Go.Proofs.YtmemofonebphfaaGreat
namespace Go.Proofs.YtmemofonebphfaaGreat
open Go.RowKit Go.Sort
section
variable {α:Type} {lt:α→α→Bool}
def Srt (lt:α→α→Bool) (l:List α):Prop:=l.Pairwise fun a b=>lt a b=true
theorem Srt.nodup (h:STO lt) {l:List α} (hl:Srt lt l):l.Nodup:=hl.imp fun {f g} h' e=>by subst e;rw [h.irrefl] at h';cases h'
theorem srt_uniq (h:STO lt) {l m:List α} (hl:Srt lt l) (hm:Srt lt m) (hmem:∀x,x∈l ↔ x∈m):l=m:=by
 haveI:DecidableEq α:=fun a b=>Classical.propDecidable (a=b)
 exact ((List.perm_ext_iff_of_nodup (hl.nodup h) (hm.nodup h)).2 hmem).eq_of_pairwise (fun a b _ _ h1 h2=>by have:=h.trans _ _ _ h1 h2;rw [h.irrefl] at this;cases this) hl hm
def sortG (lt:α→α→Bool) (l:List α):List α:=l.mergeSort fun x y=> !lt y x
theorem sortG_mem {l:List α} {x:α}:x∈sortG lt l ↔ x∈l:=List.mem_mergeSort
theorem sortG_length (l:List α):(sortG lt l).length=l.length:=by simp [sortG]
theorem sortG_srt (h:STO lt) {l:List α} (hl:l.Nodup):Srt lt (sortG lt l):=by
 have hp:(sortG lt l).Perm l:=List.mergeSort_perm l _
 have hs:(sortG lt l).Pairwise fun f g=>(!lt g f)=true:=List.pairwise_mergeSort (fun a b c h1 h2=>by
  rw [Bool.not_eq_true'] at*
  exact h.swo.ntrans _ _ _ h2 h1) (fun a b=>by
  rw [Bool.or_eq_true,Bool.not_eq_true',Bool.not_eq_true']
  cases h1:lt b a with
  | false=>exact .inl rfl
  | true=>
   refine .inr ?_
   cases h2:lt a b with
   | false=>rfl
   | true=>have:=h.trans _ _ _ h1 h2;rw [h.irrefl] at this;cases this) l
 have hnd:(sortG lt l).Nodup:=hp.nodup_iff.2 hl
 refine (hs.and hnd).imp fun {a b} hab=> ?_
 have h1:lt b a=false:=by have:=hab.1;rwa [Bool.not_eq_true'] at this
 cases h2:lt a b with
 | true=>rfl
 | false=>exact absurd (h.total a b h2 h1) hab.2
def atG (lt:α→α→Bool) (l:List α) (p:α):Nat:=(l.takeWhile fun x=>lt x p).length
def insG (lt:α→α→Bool) (l:List α) (p:α):List α:=l.take (atG lt l p)++(p::l.drop (atG lt l p))
theorem insG_mem {l:List α} {p q:α}:q∈insG lt l p ↔ q∈l∨q=p:=by
 unfold insG
 rw [List.mem_append,List.mem_cons]
 have:q∈l ↔ q∈l.take (atG lt l p)∨q∈l.drop (atG lt l p):=by rw [←List.mem_append,List.take_append_drop]
 rw [this]
 constructor
 ·rintro (h | h | h)
  ·exact .inl (.inl h)
  ·exact .inr h
  ·exact .inl (.inr h)
 ·rintro ((h | h) | h)
  ·exact .inl h
  ·exact .inr (.inr h)
  ·exact .inr (.inl h)
theorem atG_cons (a:α) (l:List α) (p:α):atG lt (a::l) p=if lt a p=true then atG lt l p+1 else 0:=by
 unfold atG
 rw [List.takeWhile_cons]
 split <;>rfl
theorem atG_spec:∀(l:List α) (p:α),(∀x∈l.take (atG lt l p),lt x p=true)∧∀x,l[atG lt l p]? =some x→lt x p=false
 | [],p=>⟨by simp,by simp⟩
 | a::l,p=>by
  have ih:=atG_spec l p
  rw [atG_cons]
  by_cases h:lt a p=true
  ·rw [if_pos h]
   refine ⟨fun x hx=> ?_,fun x hx=> ?_⟩
   ·rw [List.take_succ_cons] at hx
    rcases List.mem_cons.1 hx with rfl | hx
    ·exact h
    ·exact ih.1 x hx
   ·rw [List.getElem?_cons_succ] at hx
    exact ih.2 x hx
  ·rw [if_neg h]
   refine ⟨by simp,fun x hx=> ?_⟩
   simp only [List.getElem?_cons_zero,Option.some.injEq] at hx
   rw [←hx]
   simpa using h
theorem insG_srt (ho:STO lt) {l:List α} (h:Srt lt l) (p:α) (hne:l[atG lt l p]? ≠some p):Srt lt (insG lt l p):=by
 have hlo:=(atG_spec (lt:=lt) l p).1
 have hhi:∀x∈l.drop (atG lt l p),lt p x=true:=fun x hx=>by
  obtain ⟨j,hj⟩:=List.mem_iff_getElem?.1 hx
  rw [List.getElem?_drop] at hj
  obtain ⟨hlt,ej⟩:=List.getElem?_eq_some_iff.1 hj
  have hi:atG lt l p < l.length:=by omega
  have h0:lt l[atG lt l p] p=false:=(atG_spec l p).2 _ (List.getElem?_eq_getElem hi)
  have hn:l[atG lt l p]≠p:=fun e=>hne (by rw [List.getElem?_eq_getElem hi,e])
  have h1:lt p l[atG lt l p]=true:=by
   cases hb:lt p l[atG lt l p] with
   | true=>rfl
   | false=>exact absurd (ho.total _ _ h0 hb) hn
  rcases Nat.eq_zero_or_pos j with rfl | hj0
  ·simp only [Nat.add_zero] at ej;rw [←ej];exact h1
  ·have:=List.pairwise_iff_getElem.1 h (atG lt l p) (atG lt l p+j) hi hlt (by omega)
   rw [ej] at this
   exact ho.trans _ _ _ h1 this
 refine List.pairwise_append.2 ⟨h.sublist (List.take_sublist _ _),List.pairwise_cons.2 ⟨hhi,h.sublist (List.drop_sublist _ _)⟩,fun a ha b hb=> ?_⟩
 rcases List.mem_cons.1 hb with rfl | hb
 ·exact hlo a ha
 ·exact ho.trans _ _ _ (hlo a ha) (hhi b hb)
end
section
variable {α:Type} [DecidableEq α]
def addL (L:List α) (x:α):List α:=if x∈L then L else L++ [x]
def dedup (xs:List α):List α:=xs.foldl addL []
theorem addL_mem {L:List α} {x y:α}:y∈addL L x ↔ y∈L∨y=x:=by
 unfold addL
 split
 ·rename_i h
  constructor
  ·exact .inl
  ·rintro (h1 | rfl)
   ·exact h1
   ·exact h
 ·rw [List.mem_append,List.mem_singleton]
theorem addL_nodup {L:List α} (h:L.Nodup) (x:α):(addL L x).Nodup:=by
 unfold addL
 split
 ·exact h
 ·rename_i hx
  rw [List.nodup_append]
  refine ⟨h,by simp,fun a ha b hb=> ?_⟩
  rw [List.mem_singleton] at hb
  subst hb
  intro e
  subst e
  exact hx ha
theorem addL_length (L:List α) (x:α):(addL L x).length≤L.length+1:=by
 unfold addL
 split
 ·omega
 ·simp
theorem fold_addL_mem {xs L:List α} {y:α}:y∈xs.foldl addL L ↔ y∈L∨y∈xs:=by
 induction xs generalizing L with
 | nil=>simp
 | cons x xs ih=>
  rw [List.foldl_cons,ih,addL_mem,List.mem_cons,or_assoc]
theorem dedup_mem {xs:List α} {y:α}:y∈dedup xs ↔ y∈xs:=by
 unfold dedup
 rw [fold_addL_mem]
 simp
theorem fold_addL_nodup {xs L:List α} (h:L.Nodup):(xs.foldl addL L).Nodup:=by
 induction xs generalizing L with
 | nil=>exact h
 | cons x xs ih=>exact ih (addL_nodup h x)
theorem dedup_nodup (xs:List α):(dedup xs).Nodup:=fold_addL_nodup List.nodup_nil
theorem dedup_snoc (xs:List α) (x:α):dedup (xs++ [x])=addL (dedup xs) x:=by
 unfold dedup
 rw [List.foldl_append]
 rfl
theorem dedup_length (xs:List α):(dedup xs).length≤xs.length:=by
 have key:∀(xs L:List α),(xs.foldl addL L).length≤L.length+xs.length:=by
  intro xs
  induction xs with
  | nil=>intro L;simp
  | cons x xs ih=>
   intro L
   have h1:=ih (addL L x)
   have h2:=addL_length L x
   rw [List.foldl_cons,List.length_cons]
   omega
 have:=key xs []
 unfold dedup
 simpa using this
omit [DecidableEq α] in
theorem nodup_snoc {xs:List α} {x:α}:(xs++ [x]).Nodup ↔ xs.Nodup∧x ∉ xs:=by
 rw [List.nodup_append]
 constructor
 ·rintro ⟨h1,_,h3⟩
  exact ⟨h1,fun hx=>h3 x hx x (by simp) rfl⟩
 ·rintro ⟨h1,h2⟩
  refine ⟨h1,by simp,fun a ha b hb e=> ?_⟩
  rw [List.mem_singleton] at hb
  subst hb
  subst e
  exact h2 ha
end
def cors3 (t:Tri):List Pt:= [t.1,t.2.1,t.2.2]
def corsP (ts:List Tri):List Pt:=ts.flatMap cors3
theorem withP_iff4 {l:List Pt} {p q:Pt}:q∈withP l p ↔ q∈l∨q=p:=by
 unfold withP
 split
 ·rename_i h
  constructor
  ·exact .inl
  ·rintro (h1 | rfl)
   ·exact h1
   ·exact List.mem_of_getElem? h
 ·exact insG_mem (lt:=ltP)
theorem withP_srt {l:List Pt} (h:Srt ltP l) (p:Pt):Srt ltP (withP l p):=by
 unfold withP
 split
 ·exact h
 ·rename_i hne
  exact insG_srt sto_P h p hne
theorem corners_both (ts:List Tri):Srt ltP (cornersP ts)∧∀q,q∈cornersP ts ↔ q∈corsP ts:=by
 have key:∀(ts:List Tri) (l:List Pt),Srt ltP l→Srt ltP (ts.foldl (fun l t=>corN l t 3) l)∧∀q,q∈ts.foldl (fun l t=>corN l t 3) l ↔ q∈l∨q∈corsP ts:=by
  intro ts
  induction ts with
  | nil=>intro l h;exact ⟨h,fun q=>by simp [corsP]⟩
  | cons t ts ih=>
   intro l h
   obtain ⟨h1,h2⟩:=ih (corN l t 3) (withP_srt (withP_srt (withP_srt h _) _) _)
   refine ⟨h1,fun q=> ?_⟩
   rw [List.foldl_cons,h2]
   show q∈withP (withP (withP l t.1) t.2.1) t.2.2∨_ ↔ _
   rw [withP_iff4,withP_iff4,withP_iff4]
   unfold corsP
   rw [List.flatMap_cons,List.mem_append]
   unfold cors3
   simp only [List.mem_cons,List.not_mem_nil,or_false]
   constructor
   ·rintro ((((h | h) | h) | h) | h)
    ·exact .inl h
    ·exact .inr (.inl (.inl h))
    ·exact .inr (.inl (.inr (.inl h)))
    ·exact .inr (.inl (.inr (.inr h)))
    ·exact .inr (.inr h)
   ·rintro (h | (h | h | h) | h)
    ·exact .inl (.inl (.inl (.inl h)))
    ·exact .inl (.inl (.inl (.inr h)))
    ·exact .inl (.inl (.inr h))
    ·exact .inl (.inr h)
    ·exact .inr h
 have:=key ts [] List.Pairwise.nil
 refine ⟨this.1,fun q=>(this.2 q).trans (by simp)⟩
theorem ltE_lex:ltE=lexB ltP ltP:=by
 funext a b
 obtain ⟨a1,a2⟩:=a
 obtain ⟨b1,b2⟩:=b
 simp only [ltE,lexB]
 by_cases h1:a1=b1 <;>simp [h1,sto_P.irrefl]
theorem sto_E:STO ltE:=by rw [ltE_lex];exact sto_P.lex sto_P
theorem cntE_pos {l:List Ed} {e:Ed}:0 < cntE l e ↔ e∈l:=by
 unfold cntE
 rw [List.countP_pos_iff]
 simp
theorem border_both (ts:List Tri):Srt ltE (borderP ts)∧∀e,e∈borderP ts ↔ e∈edgesP ts∧swapE e ∉ edgesP ts:=by
 have key:∀(all:List Ed) (xs l:List Ed),Srt ltE l→Srt ltE (xs.foldl (bordS all) l)∧∀e,e∈xs.foldl (bordS all) l ↔ e∈l∨(e∈xs∧swapE e ∉ all):=by
  intro all xs
  induction xs with
  | nil=>intro l h;exact ⟨h,fun e=>by simp⟩
  | cons x xs ih=>
   intro l h
   have hb:Srt ltE (bordS all l x)∧∀e,e∈bordS all l x ↔ e∈l∨(e=x∧swapE e ∉ all):=by
    unfold bordS
    split
    ·rename_i hc
     refine ⟨h,fun e=> ?_⟩
     constructor
     ·exact .inl
     ·rintro (h1 | ⟨rfl,h1⟩)
      ·exact h1
      ·rcases hc with hc | hc
       ·exact absurd (cntE_pos.1 hc) h1
       ·exact cntE_pos.1 hc
    ·rename_i hc
     have h1:swapE x ∉ all:=fun h1=>hc (.inl (cntE_pos.2 h1))
     have h2:x ∉ l:=fun h1=>hc (.inr (cntE_pos.2 h1))
     refine ⟨insG_srt sto_E h x (fun hh=>h2 (List.mem_of_getElem? hh)),fun e=> ?_⟩
     show e∈insG ltE l x ↔ _
     rw [insG_mem]
     constructor
     ·rintro (h3 | rfl)
      ·exact .inl h3
      ·exact .inr ⟨rfl,h1⟩
     ·rintro (h3 | ⟨h3,_⟩)
      ·exact .inl h3
      ·exact .inr h3
   obtain ⟨h1,h2⟩:=ih _ hb.1
   refine ⟨h1,fun e=> ?_⟩
   rw [List.foldl_cons,h2,hb.2,List.mem_cons]
   constructor
   ·rintro ((h | ⟨h,k⟩) | ⟨h,k⟩)
    ·exact .inl h
    ·exact .inr ⟨.inl h,k⟩
    ·exact .inr ⟨.inr h,k⟩
   ·rintro (h | ⟨h | h,k⟩)
    ·exact .inl (.inl h)
    ·exact .inl (.inr ⟨h,k⟩)
    ·exact .inr ⟨h,k⟩
 have:=key (edgesP ts) (edgesP ts) [] List.Pairwise.nil
 exact ⟨this.1,fun e=>(this.2 e).trans (by simp)⟩
theorem border_sort {L:List Ed} {ts:List Tri} (hn:L.Nodup) (hm:∀e,e∈L ↔ e∈edgesP ts∧swapE e ∉ edgesP ts):sortG ltE L=borderP ts:=
 srt_uniq sto_E (sortG_srt sto_E hn) (border_both ts).1 fun q=>by rw [sortG_mem,hm,(border_both ts).2]
theorem cntE_count (es:List Ed) (e:Ed):cntE es e=List.count e es:=by
 unfold cntE List.count
 exact List.countP_congr fun x _=>by simp
theorem twice_iff (es:List Ed):es.any (twiceE es)=true ↔¬es.Nodup:=by
 rw [List.any_eq_true]
 constructor
 ·rintro ⟨e,he,h⟩ hn
  have h1:=List.nodup_iff_count.1 hn e
  have h2:1 < cntE es e:=of_decide_eq_true h
  rw [cntE_count] at h2
  omega
 ·intro hn
  have h1:∃e,1 < List.count e es:=by
   exact Classical.byContradiction fun h=>hn (List.nodup_iff_count.2 fun e=>Nat.le_of_not_lt fun h'=>h ⟨e,h'⟩)
  obtain ⟨e,he⟩:=h1
  refine ⟨e,List.count_pos_iff.1 (by omega),?_⟩
  show decide (1 < cntE es e)=true
  rw [cntE_count]
  exact decide_eq_true he
end Go.Proofs.YtmemofonebphfaaGreat
namespace Go.Proofs.YtmemofonebphfaaGreat
open Go.RowKit Go.Sort
def edJ (t:Tri) (j:Nat):Ed:=(corner t j,corner t ((j+1) % 3))
def updE (m:Ed→Option Pt) (e:Ed) (v:Pt):Ed→Option Pt:=fun q=>if q=e then some v else m q
def nxtJ (m:Ed→Option Pt) (t:Tri):Nat→Ed→Option Pt
 | 0=>m
 | j+1=>updE (nxtJ m t j) (edJ t j) (corner t ((j+2) % 3))
def nxtN (l:List Tri):Ed→Option Pt:=l.foldl (fun m t=>nxtJ m t 3) fun _=>none
theorem nxtN_snoc (l:List Tri) (k:Nat) (t:Tri) (h:l[k]? =some t):nxtN (l.take (k+1))=nxtJ (nxtN (l.take k)) t 3:=by
 unfold nxtN
 rw [List.take_add_one,h,Option.toList_some,List.foldl_append]
 rfl
def cntJ (t:Tri) (p:Pt) (j:Nat):Nat:=(pinN t p j).length
def cntC (l:List Tri) (p:Pt):Nat:=(pinL l p).length
theorem cntJ_succ (t:Tri) (p:Pt) (j:Nat):cntJ t p (j+1)=if p=corner t j then cntJ t p j+1 else cntJ t p j:=by
 unfold cntJ
 by_cases h:corner t j=p
 ·rw [pinN_yes j h,if_pos h.symm];simp
 ·rw [pinN_no j h,if_neg (fun e=>h e.symm)]
theorem cntC_snoc (l:List Tri) (p:Pt) (k:Nat) (t:Tri) (h:l[k]? =some t):cntC (l.take (k+1)) p=cntC (l.take k) p+cntJ t p 3:=by
 unfold cntC cntJ
 rw [pinL_snoc _ _ _ _ h,List.length_append]
theorem edges3_nodup {t:Tri} (h:(edges3 t).Nodup):(t.1,t.2.1)≠(t.2.1,t.2.2)∧(t.1,t.2.1)≠(t.2.2,t.1)∧(t.2.1,t.2.2)≠(t.2.2,t.1):=by
 unfold edges3 at h
 simp only [List.nodup_cons,List.mem_cons,List.not_mem_nil,or_false,not_or,not_false_eq_true] at h
 exact ⟨h.1.1,h.1.2,h.2.1⟩
theorem behK_mem {t:Tri} {e:Ed} (h:e ∉ edges3 t):behK t e.1 e.2=none:=by
 unfold edges3 at h
 simp only [List.mem_cons,List.not_mem_nil,or_false,not_or] at h
 obtain ⟨h1,h2,h3⟩:=h
 unfold behK
 rw [if_neg (fun c=>h1 (Prod.ext c.1.symm c.2.symm)),if_neg (fun c=>h2 (Prod.ext c.1.symm c.2.symm)),if_neg (fun c=>h3 (Prod.ext c.1.symm c.2.symm))]
theorem nxtJ_beh {t:Tri} (hn:(edges3 t).Nodup) (m:Ed→Option Pt) (e:Ed):nxtJ m t 3 e=(behK t e.1 e.2).or (m e):=by
 obtain ⟨h1,h2,h3⟩:=edges3_nodup hn
 show (if e=(t.2.2,t.1) then some t.2.1 else if e=(t.2.1,t.2.2) then some t.1 else if e=(t.1,t.2.1) then some t.2.2 else m e)=_
 unfold behK
 by_cases c1:e=(t.1,t.2.1)
 ·subst c1
  rw [if_neg h2,if_neg h1,if_pos rfl,if_pos ⟨rfl,rfl⟩];rfl
 ·rw [if_neg (fun c:t.1=e.1∧t.2.1=e.2=>c1 (Prod.ext c.1.symm c.2.symm))]
  by_cases c2:e=(t.2.1,t.2.2)
  ·subst c2
   rw [if_neg h3,if_pos rfl,if_pos ⟨rfl,rfl⟩];rfl
  ·rw [if_neg (fun c:t.2.1=e.1∧t.2.2=e.2=>c2 (Prod.ext c.1.symm c.2.symm))]
   by_cases c3:e=(t.2.2,t.1)
   ·subst c3
    rw [if_pos rfl,if_pos ⟨rfl,rfl⟩];rfl
   ·rw [if_neg c3,if_neg c2,if_neg c1,if_neg (fun c:t.2.2=e.1∧t.1=e.2=>c3 (Prod.ext c.1.symm c.2.symm))];rfl
theorem behP_snoc (l:List Tri) (t:Tri) (p q:Pt):behP (l++ [t]) p q=(behP l p q).or (behK t p q):=by
 unfold behP
 rw [List.findSome?_append]
 simp
theorem behP_mem {l:List Tri} {e:Ed} (h:e ∉ edgesP l):behP l e.1 e.2=none:=by
 unfold behP
 rw [List.findSome?_eq_none_iff]
 intro t ht
 exact behK_mem fun h'=>h (List.mem_flatMap.2 ⟨t,ht,h'⟩)
theorem nxtN_beh {l:List Tri} (hn:(edgesP l).Nodup):∀e,nxtN l e=behP l e.1 e.2:=by
 have key:∀(k:Nat),k≤l.length→∀e,nxtN (l.take k) e=behP (l.take k) e.1 e.2:=by
  intro k
  induction k with
  | zero=>intro _ e;rfl
  | succ k ih=>
   intro hk e
   obtain ⟨t,ht⟩:∃t,l[k]? =some t:=⟨_,List.getElem?_eq_getElem hk⟩
   have hsub:(edgesP (l.take (k+1))).Sublist (edgesP l):=by
    have h1:=List.take_append_drop (k+1) l
    have h2:edgesP l=edgesP (l.take (k+1))++edgesP (l.drop (k+1)):=by
     unfold edgesP
     rw [←List.flatMap_append,h1]
    rw [h2]
    exact List.sublist_append_left _ _
   have hd:=hn.sublist hsub
   rw [edgesP_snoc _ _ _ ht,List.nodup_append] at hd
   rw [nxtN_snoc _ _ _ ht,nxtJ_beh hd.2.1,ih (by omega)]
   have e1:l.take (k+1)=l.take k++ [t]:=by rw [List.take_add_one,ht];rfl
   rw [e1,behP_snoc]
   by_cases hm:e∈edges3 t
   ·have:e ∉ edgesP (l.take k):=fun h'=>hd.2.2 e h' e hm rfl
    rw [behP_mem this]
    cases behK t e.1 e.2 <;>rfl
   ·rw [behK_mem hm]
    cases behP (l.take k) e.1 e.2 <;>rfl
 intro e
 have:=key l.length (Nat.le_refl _) e
 rwa [List.take_length] at this
theorem behP_has {l:List Tri} {e:Ed} (h:e∈edgesP l):∃x,behP l e.1 e.2=some x:=by
 obtain ⟨t,ht,he⟩:=List.mem_flatMap.1 h
 cases hb:behP l e.1 e.2 with
 | some x=>exact ⟨x,rfl⟩
 | none=>
  exfalso
  unfold behP at hb
  rw [List.findSome?_eq_none_iff] at hb
  have h1:=hb t ht
  unfold behK at h1
  simp only [edges3,List.mem_cons,List.not_mem_nil,or_false] at he
  rcases he with rfl | rfl | rfl
  ·rw [if_pos ⟨rfl,rfl⟩] at h1;cases h1
  ·split at h1
   ·cases h1
   ·rw [if_pos ⟨rfl,rfl⟩] at h1;cases h1
  ·split at h1
   ·cases h1
   ·split at h1
    ·cases h1
    ·rw [if_pos ⟨rfl,rfl⟩] at h1;cases h1
theorem behK_at_p {t:Tri} {p q x:Pt} (h:behK t p q=some x):pinN t p 3≠ []:=by
 have hh:t.1=p∨t.2.1=p∨t.2.2=p:=by
  unfold behK at h
  split at h
  ·rename_i c;exact .inl c.1
  ·split at h
   ·rename_i c;exact .inr (.inl c.1)
   ·split at h
    ·rename_i c;exact .inr (.inr c.1)
    ·cases h
 intro hn
 have key:∀j,j < 3→corner t j≠p:=fun j hj hc=>by
  have:(t,corner t ((j+1) % 3))∈pinN t p 3:=List.mem_flatMap.2 ⟨j,List.mem_range.2 hj,by rw [if_pos hc];simp⟩
  rw [hn] at this
  cases this
 rcases hh with h | h | h
 ·exact key 0 (by omega) h
 ·exact key 1 (by omega) h
 ·exact key 2 (by omega) h
theorem pinN_fst {t:Tri} {p:Pt} {j:Nat}:∀x∈(pinN t p j).map (·.1),x=t:=by
 intro x hx
 obtain ⟨y,hy,rfl⟩:=List.mem_map.1 hx
 obtain ⟨i,_,hy⟩:=List.mem_flatMap.1 hy
 split at hy
 ·rw [List.mem_singleton.1 hy]
 ·cases hy
theorem findSome_rep {β:Type} (f:Tri→Option β) (t:Tri):∀l:List Tri,(∀x∈l,x=t)→l≠ []→l.findSome? f=f t
 | [],_,h=>absurd rfl h
 | [x],h,_=>by
  rw [h x (by simp)]
  simp [List.findSome?]
  cases f t <;>rfl
 | x::y::l,h,_=>by
  rw [List.findSome?_cons,h x (by simp)]
  cases hf:f t with
  | some v=>rfl
  | none=>
   have:=findSome_rep f t (y::l) (fun z hz=>h z (by simp [List.mem_cons.1 hz])) (by simp)
   rw [hf] at this
   exact this
theorem behP_mine (l:List Tri) (p q:Pt):behP ((pinL l p).map (·.1)) p q=behP l p q:=by
 unfold pinL
 induction l with
 | nil=>rfl
 | cons t l ih=>
  rw [List.flatMap_cons,List.map_append]
  unfold behP at*
  rw [List.findSome?_append,ih,List.findSome?_cons]
  by_cases hn:pinN t p 3= []
  ·rw [hn]
   cases hb:behK t p q with
   | none=>rfl
   | some x=>exact absurd hn (behK_at_p hb)
  ·rw [findSome_rep (fun t=>behK t p q) t _ pinN_fst (fun h=>hn (List.map_eq_nil_iff.1 h))]
   cases behK t p q <;>rfl
theorem runP_O (l:List Tri) (p s:Pt):∀(n:Nat) (x:Pt),runP ((pinL l p).map (·.1)) p s n x=runO (fun q=>behP l p q) s n x
 | 0,x=>rfl
 | n+1,x=>by
  unfold runP runO
  rw [behP_mine]
  cases behP l p x with
  | none=>rfl
  | some y=>
   show (if y=s then true else runP ((pinL l p).map (·.1)) p s n y)=(decide (y=s) || runO (fun q=>behP l p q) s n y)
   rw [←runP_O l p s n y]
   by_cases h:y=s
   ·simp [h]
   ·simp [h]
theorem pinL_iff {l:List Tri} {p s:Pt}:s∈(pinL l p).map (·.2) ↔ (p,s)∈edgesP l:=by
 unfold pinL edgesP
 rw [List.map_flatMap,List.mem_flatMap,List.mem_flatMap]
 constructor
 ·rintro ⟨t,ht,hs⟩
  refine ⟨t,ht,?_⟩
  obtain ⟨y,hy,rfl⟩:=List.mem_map.1 hs
  obtain ⟨i,hi,hy⟩:=List.mem_flatMap.1 hy
  rw [List.mem_range] at hi
  split at hy
  ·rename_i hc
   rw [List.mem_singleton.1 hy]
   have hc3:i=0∨i=1∨i=2:=by omega
   rcases hc3 with rfl | rfl | rfl <;>(subst hc;simp [edges3,corner])
  ·cases hy
 ·rintro ⟨t,ht,hs⟩
  refine ⟨t,ht,?_⟩
  simp only [edges3,List.mem_cons,List.not_mem_nil,or_false,Prod.mk.injEq] at hs
  rw [List.mem_map]
  rcases hs with ⟨rfl,rfl⟩ | ⟨rfl,rfl⟩ | ⟨rfl,rfl⟩
  ·exact ⟨(t,t.2.1),List.mem_flatMap.2 ⟨0,by simp,by rw [if_pos (show corner t 0=t.1 from rfl)];exact List.mem_singleton.2 rfl⟩,rfl⟩
  ·exact ⟨(t,t.2.2),List.mem_flatMap.2 ⟨1,by simp,by rw [if_pos (show corner t 1=t.2.1 from rfl)];exact List.mem_singleton.2 rfl⟩,rfl⟩
  ·exact ⟨(t,t.1),List.mem_flatMap.2 ⟨2,by simp,by rw [if_pos (show corner t 2=t.2.2 from rfl)];exact List.mem_singleton.2 rfl⟩,rfl⟩
def ringM (l:List Tri) (e:Ed):Bool:=match behP l e.1 e.2 with
 | none=>false
 | some x=>prgO (fun q=>behP l e.1 q) e.2 (cntC l e.1) (cntC l e.1) 1 x
theorem edge_cors {l:List Tri} {e:Ed} (h:e∈edgesP l):e.1∈corsP l:=by
 obtain ⟨t,ht,he⟩:=List.mem_flatMap.1 h
 refine List.mem_flatMap.2 ⟨t,ht,?_⟩
 simp only [edges3,List.mem_cons,List.not_mem_nil,or_false] at he
 rcases he with rfl | rfl | rfl <;>simp [cors3]
theorem pinch_same (l:List Tri):(cornersP l).any (pinchedP l)=(edgesP l).any (ringM l):=by
 have hr:∀e∈edgesP l,ringM l e=runP ((pinL l e.1).map (·.1)) e.1 e.2 ((pinL l e.1).length - 1) e.2:=fun e he=>by
  obtain ⟨x,hx⟩:=behP_has he
  unfold ringM
  rw [hx]
  show prgO _ _ _ _ _ _=_
  rw [ring_same (fun q=>behP l e.1 q) e.2 x (cntC l e.1) (cntC l e.1) hx (Nat.le_refl _),runP_O]
  rfl
 rw [Bool.eq_iff_iff,List.any_eq_true,List.any_eq_true]
 constructor
 ·rintro ⟨p,_,h⟩
  unfold pinchedP at h
  rw [List.any_eq_true] at h
  obtain ⟨s,hs,h⟩:=h
  have he:(p,s)∈edgesP l:=pinL_iff.1 hs
  exact ⟨(p,s),he,by rw [hr _ he];exact h⟩
 ·rintro ⟨e,he,h⟩
  refine ⟨e.1,((corners_both l).2 _).2 (edge_cors he),?_⟩
  unfold pinchedP
  rw [List.any_eq_true]
  exact ⟨e.2,pinL_iff.2 he,by rw [←hr e he];exact h⟩
theorem check_is (l:List Tri) (op:Bool):checkP l op=if l.any flatT=true then 20 else if¬(edgesP l).Nodup then 21 else if (!op && decide (0 < (borderP l).length))=true then 22 else if (edgesP l).any (ringM l)=true then 23 else 0:=by
 unfold checkP
 rw [pinch_same]
 by_cases h:(edgesP l).any (twiceE (edgesP l))=true
 ·rw [if_pos h,if_pos ((twice_iff _).1 h)]
 ·rw [if_neg h,if_neg (fun h'=>h ((twice_iff _).2 h'))]
end Go.Proofs.YtmemofonebphfaaGreat
namespace Go.Proofs.YtmemofonebphfaaGreat
open Go.RowKit Go.Sort
def tri3 (t:Tri):List Tri:= [t,(t.2.1,t.2.2,t.1),(t.2.2,t.1,t.2.1)]
def tripP (l:List Tri):List Tri:=l.flatMap tri3
def edOf (t:Tri):Ed:=(t.1,t.2.1)
theorem edges_trip (l:List Tri):edgesP l=(tripP l).map edOf:=by
 unfold edgesP tripP
 induction l with
 | nil=>rfl
 | cons t l ih=>rw [List.flatMap_cons,List.flatMap_cons,List.map_append,←ih];rfl
theorem cors_trip (l:List Tri):corsP l=(tripP l).map (·.1):=by
 unfold corsP tripP
 induction l with
 | nil=>rfl
 | cons t l ih=>rw [List.flatMap_cons,List.flatMap_cons,List.map_append,←ih];rfl
theorem flat_trip (l:List Tri):l.any flatT=(tripP l).any fun u=>decide (u.1=u.2.1):=by
 unfold tripP
 induction l with
 | nil=>rfl
 | cons t l ih=>
  rw [List.any_cons,List.flatMap_cons,List.any_append,←ih]
  congr 1
  simp [tri3,flatT,Bool.or_assoc]
theorem behK_of {t:Tri} {p q x:Pt} (h:behK t p q=some x):(p,q,x)∈tri3 t:=by
 unfold behK at h
 unfold tri3
 split at h
 ·rename_i h1
  obtain ⟨rfl,rfl⟩:=h1
  injection h with h;subst h
  simp
 ·split at h
  ·rename_i h1
   obtain ⟨rfl,rfl⟩:=h1
   injection h with h;subst h
   simp
  ·split at h
   ·rename_i h1
    obtain ⟨rfl,rfl⟩:=h1
    injection h with h;subst h
    simp
   ·cases h
theorem behP_of {l:List Tri} {p q x:Pt} (h:behP l p q=some x):(p,q,x)∈tripP l:=by
 unfold behP at h
 obtain ⟨t,ht,hb⟩:=List.exists_of_findSome?_eq_some h
 exact List.mem_flatMap.2 ⟨t,ht,behK_of hb⟩
theorem trip_one {l:List Tri} (hn:(edgesP l).Nodup) {p q x y:Pt} (hx:(p,q,x)∈tripP l) (hy:(p,q,y)∈tripP l):x=y:=by
 rw [edges_trip] at hn
 obtain ⟨i,hi⟩:=List.mem_iff_getElem?.1 hx
 obtain ⟨j,hj⟩:=List.mem_iff_getElem?.1 hy
 obtain ⟨hil,ei⟩:=List.getElem?_eq_some_iff.1 hi
 obtain ⟨hjl,ej⟩:=List.getElem?_eq_some_iff.1 hj
 have nd:=List.pairwise_iff_getElem.1 hn
 rcases Nat.lt_trichotomy i j with h | h | h
 ·exact absurd (by rw [List.getElem_map,List.getElem_map,ei,ej];rfl) (nd i j (by simpa using hil) (by simpa using hjl) h)
 ·subst h;rw [ei] at ej;injection ej with _ ej;injection ej
 ·exact absurd (by rw [List.getElem_map,List.getElem_map,ei,ej];rfl) (nd j i (by simpa using hjl) (by simpa using hil) h)
theorem behP_iff {l:List Tri} (hn:(edgesP l).Nodup) {p q x:Pt}:behP l p q=some x ↔ (p,q,x)∈tripP l:=by
 constructor
 ·exact behP_of
 ·intro h
  have he:(p,q)∈edgesP l:=by rw [edges_trip];exact List.mem_map.2 ⟨_,h,rfl⟩
  obtain ⟨y,hy⟩:=behP_has he
  have hy':behP l p q=some y:=hy
  rw [hy',trip_one hn (behP_of hy') h]
theorem pinN_len (t:Tri) (p:Pt):(pinN t p 3).length=(cors3 t).count p:=by
 show ((List.range 3).flatMap fun i=>if corner t i=p then [(t,corner t ((i+1) % 3))] else []).length= [t.1,t.2.1,t.2.2].count p
 rw [show List.range 3= [0,1,2] from rfl]
 simp only [List.flatMap_cons,List.flatMap_nil,List.append_nil,List.length_append,List.count_cons,List.count_nil]
 rw [show corner t 0=t.1 from rfl,show corner t 1=t.2.1 from rfl,show corner t 2=t.2.2 from rfl]
 by_cases h1:t.1=p <;>by_cases h2:t.2.1=p <;>by_cases h3:t.2.2=p <;>simp [h1,h2,h3]
theorem cntC_count (l:List Tri) (p:Pt):cntC l p=(corsP l).count p:=by
 unfold cntC pinL corsP
 induction l with
 | nil=>rfl
 | cons t l ih=>rw [List.flatMap_cons,List.flatMap_cons,List.length_append,List.count_append,←ih,pinN_len]
end Go.Proofs.YtmemofonebphfaaGreat
namespace Go.Proofs.YtmemofonebphfaaGreat
open Go.RowKit Go.Sort
def iterO (b:Pt→Option Pt):Nat→Pt→Option Pt
 | 0,s=>some s
 | k+1,s=>(b s).bind (iterO b k)
theorem runO_iff (b:Pt→Option Pt) (s:Pt):∀(n:Nat) (a:Pt),runO b s n a=true ↔∃k,1≤k∧k≤n∧iterO b k a=some s
 | 0,a=>by
  constructor
  ·intro h;cases h
  ·rintro ⟨k,h1,h2,_⟩;omega
 | n+1,a=>by
  unfold runO
  cases hb:b a with
  | none=>
   constructor
   ·intro h;cases h
   ·rintro ⟨k,h1,h2,h3⟩
    obtain ⟨k,rfl⟩:∃j,k=j+1:=⟨k - 1,by omega⟩
    unfold iterO at h3
    rw [hb] at h3;cases h3
  | some x=>
   show (decide (x=s) || runO b s n x)=true ↔ _
   rw [Bool.or_eq_true,decide_eq_true_eq,runO_iff b s n x]
   constructor
   ·rintro (rfl | ⟨k,h1,h2,h3⟩)
    ·exact ⟨1,by omega,by omega,by unfold iterO;rw [hb];rfl⟩
    ·exact ⟨k+1,by omega,by omega,by unfold iterO;rw [hb];exact h3⟩
   ·rintro ⟨k,h1,h2,h3⟩
    obtain ⟨k,rfl⟩:∃j,k=j+1:=⟨k - 1,by omega⟩
    unfold iterO at h3
    rw [hb] at h3
    change iterO b k x=some s at h3
    rcases Nat.eq_zero_or_pos k with rfl | hk
    ·unfold iterO at h3
     injection h3 with h3
     exact .inl h3
    ·exact .inr ⟨k,hk,by omega,h3⟩
theorem ringM_iff {l:List Tri} {e:Ed}:ringM l e=true ↔∃k,1≤k∧k < cntC l e.1∧iterO (behP l e.1) k e.2=some e.2:=by
 unfold ringM
 cases hb:behP l e.1 e.2 with
 | none=>
  constructor
  ·intro h;cases h
  ·rintro ⟨k,h1,_,h3⟩
   obtain ⟨k,rfl⟩:∃j,k=j+1:=⟨k - 1,by omega⟩
   unfold iterO at h3
   rw [hb] at h3;cases h3
 | some x=>
  show prgO (behP l e.1) e.2 (cntC l e.1) (cntC l e.1) 1 x=true ↔ _
  rw [ring_same _ _ _ _ _ hb (Nat.le_refl _),runO_iff]
  constructor
  ·rintro ⟨k,h1,h2,h3⟩;exact ⟨k,h1,by omega,h3⟩
  ·rintro ⟨k,h1,h2,h3⟩;exact ⟨k,h1,by omega,h3⟩
def calmP (l:List Tri):Prop:=∀p s k,1≤k→iterO (behP l p) k s=some s→cntC l p≤k
theorem calm_iff {l:List Tri}:(edgesP l).any (ringM l)=false ↔ calmP l:=by
 constructor
 ·intro h p s k hk hi
  refine Classical.byContradiction fun hc=> ?_
  have he:(p,s)∈edgesP l:=by
   obtain ⟨j,rfl⟩:∃j,k=j+1:=⟨k - 1,by omega⟩
   unfold iterO at hi
   cases hb:behP l p s with
   | none=>rw [hb] at hi;cases hi
   | some x=>rw [edges_trip];exact List.mem_map.2 ⟨_,behP_of hb,rfl⟩
  have:(edgesP l).any (ringM l)=true:=List.any_eq_true.2 ⟨(p,s),he,ringM_iff.2 ⟨k,hk,by show k < cntC l p;omega,hi⟩⟩
  rw [h] at this;cases this
 ·intro h
  cases hb:(edgesP l).any (ringM l) with
  | false=>rfl
  | true=>
   obtain ⟨e,_,he⟩:=List.any_eq_true.1 hb
   obtain ⟨k,h1,h2,h3⟩:=ringM_iff.1 he
   have:=h _ _ _ h1 h3
   omega
theorem check_iff {l:List Tri} {op:Bool}:checkP l op=0 ↔ l.any flatT=false∧(edgesP l).Nodup∧(op=true∨borderP l= [])∧calmP l:=by
 rw [check_is,←calm_iff]
 by_cases h1:l.any flatT=true
 ·rw [if_pos h1,h1];simp
 ·rw [if_neg h1]
  have h1':l.any flatT=false:=by simpa using h1
  by_cases h2:(edgesP l).Nodup
  ·rw [if_neg (fun h=>h h2)]
   cases op with
   | true=>by_cases h4:(edgesP l).any (ringM l)=true <;>simp [h1',h2,h4]
   | false=>
    by_cases h3:borderP l= []
    ·by_cases h4:(edgesP l).any (ringM l)=true <;>simp [h1',h2,h3,h4]
    ·have:0 < (borderP l).length:=List.length_pos_iff.2 h3
     rw [if_pos (by simpa using this)]
     simp [h3]
  ·rw [if_pos h2];simp [h2]
theorem trip_cyc {l:List Tri} {p q x:Pt} (h:(p,q,x)∈tripP l):(q,x,p)∈tripP l:=by
 obtain ⟨t,ht,hu⟩:=List.mem_flatMap.1 h
 refine List.mem_flatMap.2 ⟨t,ht,?_⟩
 obtain ⟨a,b,c⟩:=t
 simp only [tri3,List.mem_cons,List.not_mem_nil,or_false,Prod.mk.injEq] at hu⊢
 rcases hu with ⟨rfl,rfl,rfl⟩ | ⟨rfl,rfl,rfl⟩ | ⟨rfl,rfl,rfl⟩
 ·exact .inr (.inl ⟨rfl,rfl,rfl⟩)
 ·exact .inr (.inr ⟨rfl,rfl,rfl⟩)
 ·exact .inl ⟨rfl,rfl,rfl⟩
theorem closed_swap {l:List Tri} (h:borderP l= []):∀e,e∈edgesP l→swapE e∈edgesP l:=fun e he=>by
 refine Classical.byContradiction fun hc=> ?_
 have:=((border_both l).2 e).2 ⟨he,hc⟩
 rw [h] at this;cases this
end Go.Proofs.YtmemofonebphfaaGreat
namespace Go.Proofs.YtmemofonebphfaaGreat
open Go.RowKit Go.Sort
abbrev E2:=Int × Int
def swE (e:E2):E2:=(e.2,e.1)
def de3 (x:Pt):List E2:= [(x.1,x.2.1),(x.2.1,x.2.2),(x.2.2,x.1)]
def dirE (t:List Pt):List E2:=t.flatMap de3
theorem mem_dirE {t:List Pt} {e:E2}:e∈dirE t ↔∃x∈t,e∈de3 x:=List.mem_flatMap
theorem mem_de3 {x:Pt} {e:E2}:e∈de3 x ↔ e=(x.1,x.2.1)∨e=(x.2.1,x.2.2)∨e=(x.2.2,x.1):=by simp [de3]
structure Cls3 (t:List Pt) (n:Int):Prop where
 idx:∀x∈t,(0≤x.1∧x.1 < n)∧(0≤x.2.1∧x.2.1 < n)∧0≤x.2.2∧x.2.2 < n
 dist:∀x∈t,x.1≠x.2.1∧x.2.1≠x.2.2∧x.2.2≠x.1
 nodup:(dirE t).Nodup
 clos:∀e∈dirE t,swE e∈dirE t
 back:∀x∈t,∀y∈t,¬∀e∈de3 x,swE e∈de3 y
theorem nodup_flat {α β:Type} {f:α→List β}:∀{l:List α},(l.flatMap f).Nodup→∀{i j:Nat} {x y:α} {e:β},l[i]? =some x→l[j]? =some y→e∈f x→e∈f y→i=j
 | a::l,h,i,j,x,y,e,hi,hj,hx,hy=>by
  rw [List.flatMap_cons] at h
  obtain ⟨_,h2,h3⟩:=List.nodup_append.1 h
  match i,j with
  | 0,0=>rfl
  | 0,j+1=>
   have e0:a=x:=by simpa using hi
   subst e0
   exact absurd rfl (h3 e hx e (List.mem_flatMap.2 ⟨y,List.mem_of_getElem? (by simpa using hj),hy⟩))
  | i+1,0=>
   have e0:a=y:=by simpa using hj
   subst e0
   exact absurd rfl (h3 e hy e (List.mem_flatMap.2 ⟨x,List.mem_of_getElem? (by simpa using hi),hx⟩))
  | i+1,j+1=>
   have:=nodup_flat (l:=l) h2 (i:=i) (j:=j) (by simpa using hi) (by simpa using hj) hx hy
   omega
 | [],_,i,_,_,_,_,hi,_,_,_=>by simp at hi
theorem flat_nodup {α β:Type} {f:α→List β}:∀{l:List α},(∀x∈l,(f x).Nodup)→(∀(i j:Nat) (x y:α) (e:β),l[i]? =some x→l[j]? =some y→e∈f x→e∈f y→i=j)→(l.flatMap f).Nodup
 | [],_,_=>by simp
 | a::l,h1,h2=>by
  rw [List.flatMap_cons]
  refine List.nodup_append.2 ⟨h1 a (by simp),flat_nodup (fun x hx=>h1 x (by simp [hx])) (fun i j x y e hi hj hx hy=> ?_),fun e he e' he' heq=> ?_⟩
  ·have:=h2 (i+1) (j+1) x y e (by simpa using hi) (by simpa using hj) hx hy
   omega
  ·subst heq
   obtain ⟨y,hy,hey⟩:=List.mem_flatMap.1 he'
   obtain ⟨j,hj⟩:=List.mem_iff_getElem?.1 hy
   have:=h2 0 (j+1) a y e (by simp) (by simpa using hj) he hey
   omega
theorem Cls3.same {t:List Pt} {n:Int} (h:Cls3 t n) {x y:Pt} (hx:x∈t) (hy:y∈t) {e:E2} (ex:e∈de3 x) (ey:e∈de3 y):x=y:=by
 obtain ⟨i,hi⟩:=List.mem_iff_getElem?.1 hx
 obtain ⟨j,hj⟩:=List.mem_iff_getElem?.1 hy
 have:=nodup_flat h.nodup hi hj ex ey
 subst this
 rw [hi] at hj
 exact Option.some.inj hj
structure MidM (m:Int→Int→Int) (t:List Pt) (n k:Int):Prop where
 low:∀e∈dirE t,n≤m e.1 e.2∧m e.1 e.2 < k
 sym:∀a b,m a b=m b a
 inj:∀e∈dirE t,∀f∈dirE t,m e.1 e.2=m f.1 f.2→e=f∨e=swE f
def four (m:Int→Int→Int) (x:Pt):List Pt:=
 [(x.1,m x.1 x.2.1,m x.2.2 x.1),(m x.1 x.2.1,x.2.1,m x.2.1 x.2.2),(m x.2.2 x.1,m x.2.1 x.2.2,x.2.2),(m x.1 x.2.1,m x.2.1 x.2.2,m x.2.2 x.1)]
def stepT (m:Int→Int→Int) (t:List Pt):List Pt:=t.flatMap (four m)
def halves (m:Int→Int→Int) (x:Pt):List E2:=(de3 x).flatMap fun e=> [(e.1,m e.1 e.2),(m e.1 e.2,e.2)]
def inner (m:Int→Int→Int) (x:Pt):List E2:= [(m x.1 x.2.1,m x.2.2 x.1),(m x.2.1 x.2.2,m x.1 x.2.1),(m x.2.2 x.1,m x.2.1 x.2.2),(m x.1 x.2.1,m x.2.1 x.2.2),(m x.2.1 x.2.2,m x.2.2 x.1),(m x.2.2 x.1,m x.1 x.2.1)]
theorem four_edges (m:Int→Int→Int) (x:Pt) (e:E2):e∈(four m x).flatMap de3 ↔ e∈halves m x∨e∈inner m x:=by
 simp only [four,halves,inner,de3,List.flatMap_cons,List.flatMap_nil,List.mem_append,List.mem_cons,List.not_mem_nil,or_false]
 constructor
 ·rintro ((h | h | h) | (h | h | h) | (h | h | h) | (h | h | h)) <;>simp [h]
 ·rintro ((((h | h) | ((h | h) | ((h | h))))) | (h | h | h | h | h | h)) <;>simp [h]
theorem dir_same {t:List Pt} (h:(dirE t).Nodup) {x y:Pt} (hx:x∈t) (hy:y∈t) {e:E2} (ex:e∈de3 x) (ey:e∈de3 y):x=y:=by
 obtain ⟨i,hi⟩:=List.mem_iff_getElem?.1 hx
 obtain ⟨j,hj⟩:=List.mem_iff_getElem?.1 hy
 have:=nodup_flat h hi hj ex ey
 subst this
 rw [hi] at hj
 exact Option.some.inj hj
theorem mem_halves {m:Int→Int→Int} {x:Pt} {e:E2}:e∈halves m x ↔∃d∈de3 x,e=(d.1,m d.1 d.2)∨e=(m d.1 d.2,d.2):=by
 unfold halves
 rw [List.mem_flatMap]
 simp
theorem mem_inner {m:Int→Int→Int} {x:Pt} (hd:x.1≠x.2.1∧x.2.1≠x.2.2∧x.2.2≠x.1) {e:E2}:e∈inner m x ↔∃d∈de3 x,∃f∈de3 x,d≠f∧e=(m d.1 d.2,m f.1 f.2):=by
 obtain ⟨a,b,c⟩:=x
 obtain ⟨h1,h2,h3⟩:=hd
 simp only at h1 h2 h3
 have n1:(a,b)≠(b,c):=fun h=>h1 (congrArg Prod.fst h)
 have n2:(b,c)≠(c,a):=fun h=>h2 (congrArg Prod.fst h)
 have n3:(c,a)≠(a,b):=fun h=>h3 (congrArg Prod.fst h)
 constructor
 ·intro h
  simp only [inner,List.mem_cons,List.not_mem_nil,or_false] at h
  rcases h with h | h | h | h | h | h
  ·exact ⟨(a,b),by simp [de3],(c,a),by simp [de3],n3.symm,h⟩
  ·exact ⟨(b,c),by simp [de3],(a,b),by simp [de3],n1.symm,h⟩
  ·exact ⟨(c,a),by simp [de3],(b,c),by simp [de3],n2.symm,h⟩
  ·exact ⟨(a,b),by simp [de3],(b,c),by simp [de3],n1,h⟩
  ·exact ⟨(b,c),by simp [de3],(c,a),by simp [de3],n2,h⟩
  ·exact ⟨(c,a),by simp [de3],(a,b),by simp [de3],n3,h⟩
 ·rintro ⟨d,hd,f,hf,hne,rfl⟩
  rcases mem_de3.1 hd with rfl | rfl | rfl <;>rcases mem_de3.1 hf with rfl | rfl | rfl <;>first | exact absurd rfl hne | simp [inner]
theorem two_back {x y:Pt} (hx:x.1≠x.2.1∧x.2.1≠x.2.2∧x.2.2≠x.1) {d f:E2} (hd:d∈de3 x) (hf:f∈de3 x) (hne:d≠f) (hd':swE d∈de3 y) (hf':swE f∈de3 y):∀e∈de3 x,swE e∈de3 y:=by
 obtain ⟨a,b,c⟩:=x
 obtain ⟨p,q,r⟩:=y
 obtain ⟨h1,h2,h3⟩:=hx
 simp only at h1 h2 h3
 intro e he
 rw [mem_de3] at hd hf hd' hf' he⊢
 rcases hd with rfl | rfl | rfl <;>rcases hf with rfl | rfl | rfl <;>first
  | exact absurd rfl hne
  | (rcases he with rfl | rfl | rfl <;>simp only [swE,Prod.mk.injEq] at hd' hf'⊢ <;>omega)
theorem stepT_dir (m:Int→Int→Int) (t:List Pt):dirE (stepT m t)=t.flatMap fun x=>(four m x).flatMap de3:=by
 unfold dirE stepT
 rw [List.flatMap_assoc]
theorem mem_stepE {m:Int→Int→Int} {t:List Pt} {e:E2}:e∈dirE (stepT m t) ↔∃x∈t,e∈halves m x∨e∈inner m x:=by
 rw [stepT_dir,List.mem_flatMap]
 simp only [four_edges]
theorem mem_stepT {m:Int→Int→Int} {t:List Pt} {y:Pt}:y∈stepT m t ↔∃x∈t,y∈four m x:=List.mem_flatMap
theorem Cls3.step {t:List Pt} {n k:Int} (h:Cls3 t n) {m:Int→Int→Int} (hm:MidM m t n k):Cls3 (stepT m t) k:=by
 have hin:∀x∈t,∀e∈de3 x,e∈dirE t:=fun x hx e he=>mem_dirE.2 ⟨x,hx,he⟩
 have hlow:∀x∈t,∀e∈de3 x,(0≤e.1∧e.1 < n)∧(0≤e.2∧e.2 < n)∧e.1≠e.2∧n≤m e.1 e.2∧m e.1 e.2 < k:=fun x hx e he=>by
  have h1:=h.idx x hx
  have h2:=h.dist x hx
  have h3:=hm.low e (hin x hx e he)
  rcases mem_de3.1 he with rfl | rfl | rfl
  ·exact ⟨h1.1,h1.2.1,h2.1,h3⟩
  ·exact ⟨h1.2.1,h1.2.2,h2.2.1,h3⟩
  ·exact ⟨h1.2.2,h1.1,h2.2.2,h3⟩
 have hmid:∀x∈t,∀d∈de3 x,∀f∈de3 x,d≠f→m d.1 d.2≠m f.1 f.2:=fun x hx d hd f hf hne he=>by
  rcases hm.inj d (hin x hx d hd) f (hin x hx f hf) he with h1 | h1
  ·exact hne h1
  ·have h2:=h.dist x hx
   obtain ⟨a,b,c⟩:=x
   simp only at h2
   rcases mem_de3.1 hd with rfl | rfl | rfl <;>rcases mem_de3.1 hf with rfl | rfl | rfl <;>simp only [swE,Prod.mk.injEq] at h1 <;>first | exact hne rfl | omega
 have hnod:(dirE (stepT m t)).Nodup:=by
  rw [stepT_dir]
  refine flat_nodup (fun x hx=> ?_) (fun i j x y e hi hj ex ey=> ?_)
  ·have h1:=hlow x hx (x.1,x.2.1) (by simp [de3])
   have h2:=hlow x hx (x.2.1,x.2.2) (by simp [de3])
   have h3:=hlow x hx (x.2.2,x.1) (by simp [de3])
   have hd:=h.dist x hx
   have m1:=hmid x hx (x.1,x.2.1) (by simp [de3]) (x.2.1,x.2.2) (by simp [de3]) (fun e=>hd.1 (congrArg Prod.fst e))
   have m2:=hmid x hx (x.2.1,x.2.2) (by simp [de3]) (x.2.2,x.1) (by simp [de3]) (fun e=>hd.2.1 (congrArg Prod.fst e))
   have m3:=hmid x hx (x.2.2,x.1) (by simp [de3]) (x.1,x.2.1) (by simp [de3]) (fun e=>hd.2.2 (congrArg Prod.fst e))
   simp only at h1 h2 h3 m1 m2 m3
   unfold four
   generalize m x.1 x.2.1=X at*
   generalize m x.2.1 x.2.2=Y at*
   generalize m x.2.2 x.1=Z at*
   simp only [de3,List.flatMap_cons,List.flatMap_nil,List.cons_append,List.nil_append,List.append_nil,List.nodup_cons,List.mem_cons,Prod.mk.injEq,List.not_mem_nil,or_false,List.nodup_nil,not_false_eq_true,and_true]
   refine ⟨?_,?_,?_,?_,?_,?_,?_,?_,?_,?_,?_⟩ <;>omega
  ·have hx:=List.mem_of_getElem? hi
   have hy:=List.mem_of_getElem? hj
   rw [four_edges] at ex ey
   rcases ex with ex | ex
   ·obtain ⟨d,hd,ex⟩:=mem_halves.1 ex
    have ld:=hlow x hx d hd
    rcases ey with ey | ey
    ·obtain ⟨f,hf,ey⟩:=mem_halves.1 ey
     have lf:=hlow y hy f hf
     rcases ex with rfl | rfl <;>rcases ey with ey | ey <;>simp only [Prod.mk.injEq] at ey
     ·rcases hm.inj d (hin x hx d hd) f (hin y hy f hf) ey.2 with h1 | h1
      ·subst h1;exact nodup_flat h.nodup hi hj hd hf
      ·subst h1;simp only [swE] at ey ld;omega
     ·omega
     ·omega
     ·rcases hm.inj d (hin x hx d hd) f (hin y hy f hf) ey.1 with h1 | h1
      ·subst h1;exact nodup_flat h.nodup hi hj hd hf
      ·subst h1;simp only [swE] at ey ld;omega
    ·obtain ⟨f,hf,g,hg,_,ey⟩:=(mem_inner (h.dist y hy)).1 ey
     have lf:=hlow y hy f hf
     have lg:=hlow y hy g hg
     rcases ex with rfl | rfl <;>simp only [Prod.mk.injEq] at ey <;>omega
   ·obtain ⟨d,hd,d2,hd2,hdn,rfl⟩:=(mem_inner (h.dist x hx)).1 ex
    have ld:=hlow x hx d hd
    have ld2:=hlow x hx d2 hd2
    rcases ey with ey | ey
    ·obtain ⟨f,hf,ey⟩:=mem_halves.1 ey
     have lf:=hlow y hy f hf
     rcases ey with ey | ey <;>simp only [Prod.mk.injEq] at ey <;>omega
    ·obtain ⟨f,hf,f2,hf2,hfn,ey⟩:=(mem_inner (h.dist y hy)).1 ey
     simp only [Prod.mk.injEq] at ey
     rcases hm.inj d (hin x hx d hd) f (hin y hy f hf) ey.1 with h1 | h1
     ·subst h1;exact nodup_flat h.nodup hi hj hd hf
     ·rcases hm.inj d2 (hin x hx d2 hd2) f2 (hin y hy f2 hf2) ey.2 with h2 | h2
      ·subst h2;exact nodup_flat h.nodup hi hj hd2 hf2
      ·exact absurd (two_back (h.dist x hx) hd hd2 hdn (by rw [h1];exact hf) (by rw [h2];exact hf2)) (h.back x hx y hy)
 refine ⟨fun y hy=> ?_,fun y hy=> ?_,hnod,fun e he=> ?_,fun x' hx' y' hy' hall=> ?_⟩
 ·obtain ⟨x,hx,hy⟩:=mem_stepT.1 hy
  have h1:=hlow x hx (x.1,x.2.1) (by simp [de3])
  have h2:=hlow x hx (x.2.1,x.2.2) (by simp [de3])
  have h3:=hlow x hx (x.2.2,x.1) (by simp [de3])
  simp only at h1 h2 h3
  simp only [four,List.mem_cons,List.not_mem_nil,or_false] at hy
  rcases hy with rfl | rfl | rfl | rfl <;>simp only <;>omega
 ·obtain ⟨x,hx,hy⟩:=mem_stepT.1 hy
  have h1:=hlow x hx (x.1,x.2.1) (by simp [de3])
  have h2:=hlow x hx (x.2.1,x.2.2) (by simp [de3])
  have h3:=hlow x hx (x.2.2,x.1) (by simp [de3])
  have hd:=h.dist x hx
  have m1:=hmid x hx (x.1,x.2.1) (by simp [de3]) (x.2.1,x.2.2) (by simp [de3]) (fun e=>hd.1 (congrArg Prod.fst e))
  have m2:=hmid x hx (x.2.1,x.2.2) (by simp [de3]) (x.2.2,x.1) (by simp [de3]) (fun e=>hd.2.1 (congrArg Prod.fst e))
  have m3:=hmid x hx (x.2.2,x.1) (by simp [de3]) (x.1,x.2.1) (by simp [de3]) (fun e=>hd.2.2 (congrArg Prod.fst e))
  simp only at h1 h2 h3 m1 m2 m3
  simp only [four,List.mem_cons,List.not_mem_nil,or_false] at hy
  rcases hy with rfl | rfl | rfl | rfl <;>simp only <;>omega
 ·obtain ⟨x,hx,he⟩:=mem_stepE.1 he
  rcases he with he | he
  ·obtain ⟨d,hd,he⟩:=mem_halves.1 he
   obtain ⟨y,hy,hyd⟩:=mem_dirE.1 (h.clos d (hin x hx d hd))
   refine mem_stepE.2 ⟨y,hy, .inl (mem_halves.2 ⟨swE d,hyd,?_⟩)⟩
   rcases he with rfl | rfl
   ·exact .inr (by simp only [swE,hm.sym d.2 d.1])
   ·exact .inl (by simp only [swE,hm.sym d.2 d.1])
  ·obtain ⟨d,hd,f,hf,hne,rfl⟩:=(mem_inner (h.dist x hx)).1 he
   exact mem_stepE.2 ⟨x,hx, .inr ((mem_inner (h.dist x hx)).2 ⟨f,hf,d,hd,hne.symm,rfl⟩)⟩
 ·obtain ⟨x,hx,hxf⟩:=mem_stepT.1 hx'
  have h1:=hlow x hx (x.1,x.2.1) (by simp [de3])
  have h2:=hlow x hx (x.2.1,x.2.2) (by simp [de3])
  have h3:=hlow x hx (x.2.2,x.1) (by simp [de3])
  have hd:=h.dist x hx
  have m1:=hmid x hx (x.1,x.2.1) (by simp [de3]) (x.2.1,x.2.2) (by simp [de3]) (fun e=>hd.1 (congrArg Prod.fst e))
  have m2:=hmid x hx (x.2.1,x.2.2) (by simp [de3]) (x.2.2,x.1) (by simp [de3]) (fun e=>hd.2.1 (congrArg Prod.fst e))
  have m3:=hmid x hx (x.2.2,x.1) (by simp [de3]) (x.1,x.2.1) (by simp [de3]) (fun e=>hd.2.2 (congrArg Prod.fst e))
  simp only at h1 h2 h3 m1 m2 m3
  have f1:(x.1,m x.1 x.2.1,m x.2.2 x.1)∈stepT m t:=mem_stepT.2 ⟨x,hx,by simp [four]⟩
  have f2:(m x.1 x.2.1,x.2.1,m x.2.1 x.2.2)∈stepT m t:=mem_stepT.2 ⟨x,hx,by simp [four]⟩
  have f4:(m x.1 x.2.1,m x.2.1 x.2.2,m x.2.2 x.1)∈stepT m t:=mem_stepT.2 ⟨x,hx,by simp [four]⟩
  simp only [four,List.mem_cons,List.not_mem_nil,or_false] at hxf
  rcases hxf with rfl | rfl | rfl | rfl
  ·have e1:=hall (m x.1 x.2.1,m x.2.2 x.1) (by simp [de3])
   have e2:=hall (x.1,m x.1 x.2.1) (by simp [de3])
   have hs:=dir_same hnod hy' f4 e1 (by simp [de3,swE])
   subst hs
   simp only [mem_de3,swE,Prod.mk.injEq] at e2
   omega
  ·have e1:=hall (m x.2.1 x.2.2,m x.1 x.2.1) (by simp [de3])
   have e2:=hall (x.2.1,m x.2.1 x.2.2) (by simp [de3])
   have hs:=dir_same hnod hy' f4 e1 (by simp [de3,swE])
   subst hs
   simp only [mem_de3,swE,Prod.mk.injEq] at e2
   omega
  ·have e1:=hall (m x.2.2 x.1,m x.2.1 x.2.2) (by simp [de3])
   have e2:=hall (x.2.2,m x.2.2 x.1) (by simp [de3])
   have hs:=dir_same hnod hy' f4 e1 (by simp [de3,swE])
   subst hs
   simp only [mem_de3,swE,Prod.mk.injEq] at e2
   omega
  ·have e1:=hall (m x.1 x.2.1,m x.2.1 x.2.2) (by simp [de3])
   have e2:=hall (m x.2.1 x.2.2,m x.2.2 x.1) (by simp [de3])
   have hs:=dir_same hnod hy' f2 e1 (by simp [de3,swE])
   subst hs
   simp only [mem_de3,swE,Prod.mk.injEq] at e2
   omega
end Go.Proofs.YtmemofonebphfaaGreat
namespace Go.Proofs.YtmemofonebphfaaGreat
open Go.RowKit Go.Sort
def ltE2 (a b:E2):Bool:=decide (a.1 < b.1) || (decide (a.1=b.1) && decide (a.2 < b.2))
theorem tot_E2:Tot ltE2 where
 irr x:=by simp [ltE2]
 tr x y z h1 h2:=by
  simp [ltE2] at h1 h2⊢
  omega
 tot x y h1 h2:=by
  simp [ltE2] at h1 h2
  exact Prod.ext (by omega) (by omega)
def upE (t:List Pt):List E2:=(dirE t).filter fun e=>decide (e.1 < e.2)
def edgesE (t:List Pt):List E2:=sortO ltE2 (upE t)
def nrmE (a b:Int):E2:=(min a b,max a b)
theorem nrmE_sym (a b:Int):nrmE a b=nrmE b a:=by unfold nrmE;rw [Int.min_comm,Int.max_comm]
theorem nrmE_eq {a b c d:Int} (h:nrmE a b=nrmE c d):(a,b)=(c,d)∨(a,b)=(d,c):=by
 simp only [nrmE,Prod.mk.injEq] at h⊢
 omega
theorem nrmE_up {a b:Int} (h:a < b):nrmE a b=(a,b):=by simp only [nrmE,Prod.mk.injEq];omega
def posE (l:List E2) (a b:Int):Int:=match l.findIdx? fun e=>decide (e=nrmE a b) with
 | some i=>i
 | none=> -1
theorem posE_sym (l:List E2) (a b:Int):posE l a b=posE l b a:=by unfold posE;rw [nrmE_sym]
theorem posE_at {l:List E2} (hn:l.Nodup) {a b:Int} {i:Nat} (h:l[i]? =some (nrmE a b)):posE l a b=i:=by
 unfold posE
 have hi:=(List.getElem?_eq_some_iff.1 h).1
 have e:l.findIdx? (fun e=>decide (e=nrmE a b))=some i:=by
  rw [List.findIdx?_eq_some_iff_getElem]
  refine ⟨hi,by rw [(List.getElem?_eq_some_iff.1 h).2];simp,fun j hj=> ?_⟩
  have hne:l[j]≠nrmE a b:=fun e=>by
   rw [←(List.getElem?_eq_some_iff.1 h).2] at e
   have:=(List.getElem_inj hn).1 e
   omega
  simp [hne]
 rw [e]
theorem posE_mem {l:List E2} {a b:Int} (h:nrmE a b∈l):∃i:Nat,posE l a b=i∧l[i]? =some (nrmE a b):=by
 unfold posE
 cases hf:l.findIdx? (fun e=>decide (e=nrmE a b)) with
 | none=>
  rw [List.findIdx?_eq_none_iff] at hf
  have:=hf _ h
  simp at this
 | some i=>
  rw [List.findIdx?_eq_some_iff_getElem] at hf
  obtain ⟨hi,he,_⟩:=hf
  exact ⟨i,rfl,by rw [List.getElem?_eq_getElem hi];simpa using he⟩
theorem mem_edgesE {t:List Pt} {e:E2}:e∈edgesE t ↔ e∈dirE t∧e.1 < e.2:=by
 unfold edgesE upE
 rw [sortO_mem,List.mem_filter]
 simp
theorem edgesE_nodup {t:List Pt} (h:(dirE t).Nodup):(edgesE t).Nodup:=(sortO_perm _).nodup_iff.2 (h.filter _)
theorem Cls3.ne {t:List Pt} {n:Int} (h:Cls3 t n) {e:E2} (he:e∈dirE t):e.1≠e.2:=by
 obtain ⟨x,hx,hd⟩:=mem_dirE.1 he
 have:=h.dist x hx
 rcases mem_de3.1 hd with rfl | rfl | rfl
 ·exact this.1
 ·exact this.2.1
 ·exact this.2.2
theorem Cls3.nrm {t:List Pt} {n:Int} (h:Cls3 t n) {e:E2} (he:e∈dirE t):nrmE e.1 e.2∈edgesE t:=by
 have hne:=h.ne he
 rcases Int.lt_or_gt_of_ne hne with hlt | hlt
 ·rw [nrmE_up hlt];exact mem_edgesE.2 ⟨he,hlt⟩
 ·rw [nrmE_sym,nrmE_up hlt];exact mem_edgesE.2 ⟨h.clos e he,hlt⟩
def midE (t:List Pt) (n:Int) (a b:Int):Int:=n+posE (edgesE t) a b
theorem Cls3.mid {t:List Pt} {n:Int} (h:Cls3 t n):MidM (midE t n) t n (n+(edgesE t).length) where
 low e he:=by
  obtain ⟨i,h1,h2⟩:=posE_mem (h.nrm he)
  have:=(List.getElem?_eq_some_iff.1 h2).1
  unfold midE
  rw [h1]
  omega
 sym a b:=by unfold midE;rw [posE_sym]
 inj e he f hf heq:=by
  obtain ⟨i,h1,h2⟩:=posE_mem (h.nrm he)
  obtain ⟨j,h3,h4⟩:=posE_mem (h.nrm hf)
  unfold midE at heq
  rw [h1,h3] at heq
  have:i=j:=by omega
  subst this
  rw [h2] at h4
  rcases nrmE_eq (Option.some.inj h4) with h5 | h5
  ·exact .inl h5
  ·exact .inr h5
theorem dirE_length (t:List Pt):(dirE t).length=3*t.length:=by
 unfold dirE
 induction t with
 | nil=>rfl
 | cons x t ih=>rw [List.flatMap_cons,List.length_append,ih,List.length_cons];show 3+_=_;omega
theorem filter_split {α:Type} (p:α→Bool) (l:List α):(l.filter p).length+(l.filter fun x=> !p x).length=l.length:=by
 induction l with
 | nil=>rfl
 | cons x l ih=>
  rw [List.filter_cons,List.filter_cons]
  cases hp:p x <;>simp <;>omega
theorem edges_count {t:List Pt} (hne:∀e∈dirE t,e.1≠e.2) (hnd:(dirE t).Nodup) (hcl:∀e∈dirE t,swE e∈dirE t):2*(edgesE t).length=3*t.length:=by
 have h1:=filter_split (fun e:E2=>decide (e.1 < e.2)) (dirE t)
 have h2:((dirE t).filter fun x=> !decide (x.1 < x.2)).Perm ((upE t).map swE):=by
  refine (List.perm_ext_iff_of_nodup (hnd.filter _) ?_).2 fun e=> ?_
  ·refine List.Pairwise.map swE (fun a b (hab:a≠b)=> ?_) (hnd.filter _)
   intro he
   apply hab
   simp only [swE,Prod.mk.injEq] at he
   exact Prod.ext he.2 he.1
  ·rw [List.mem_filter,List.mem_map]
   constructor
   ·rintro ⟨he,hlt⟩
    have hne:=hne _ he
    refine ⟨swE e,List.mem_filter.2 ⟨hcl e he,?_⟩,rfl⟩
    simp at hlt
    exact decide_eq_true (show e.2 < e.1 by omega)
   ·rintro ⟨f,hf,rfl⟩
    obtain ⟨hf,hlt⟩:=List.mem_filter.1 hf
    refine ⟨hcl f hf,?_⟩
    simp at hlt
    show (!decide (f.2 < f.1))=true
    rw [decide_eq_false (by omega)]
    rfl
 have h3:=h2.length_eq
 rw [List.length_map] at h3
 rw [dirE_length] at h1
 unfold edgesE
 rw [sortO_length]
 unfold upE at h3⊢
 omega
theorem Cls3.count {t:List Pt} {n:Int} (h:Cls3 t n):2*(edgesE t).length=3*t.length:=edges_count (fun _ he=>h.ne he) h.nodup h.clos
def thr3 (x:Pt) (a b:Int):Option Int:=if x.1=a∧x.2.1=b then some x.2.2 else if x.2.1=a∧x.2.2=b then some x.1 else if x.2.2=a∧x.1=b then some x.2.1 else none
def thirdE (t:List Pt) (a b:Int):Int:=(t.findSome? fun x=>thr3 x a b).getD (-1)
theorem thr3_some {x:Pt} {a b c:Int} (h:thr3 x a b=some c):(a,b)∈de3 x∧(b,c)∈de3 x∧(c,a)∈de3 x:=by
 unfold thr3 at h
 split at h
 ·rename_i h1
  cases h
  obtain ⟨rfl,rfl⟩:=h1
  simp [de3]
 ·split at h
  ·rename_i h1
   cases h
   obtain ⟨rfl,rfl⟩:=h1
   simp [de3]
  ·split at h
   ·rename_i h1
    cases h
    obtain ⟨rfl,rfl⟩:=h1
    simp [de3]
   ·cases h
theorem thr3_has {x:Pt} {a b:Int} (h:(a,b)∈de3 x):∃c,thr3 x a b=some c:=by
 unfold thr3
 split
 ·exact ⟨_,rfl⟩
 ·split
  ·exact ⟨_,rfl⟩
  ·split
   ·exact ⟨_,rfl⟩
   ·rename_i h1 h2 h3
    rcases mem_de3.1 h with h | h | h <;>simp only [Prod.mk.injEq] at h
    ·exact absurd ⟨h.1.symm,h.2.symm⟩ h1
    ·exact absurd ⟨h.1.symm,h.2.symm⟩ h2
    ·exact absurd ⟨h.1.symm,h.2.symm⟩ h3
theorem third_is {t:List Pt} (hn:(dirE t).Nodup) {x:Pt} {a b c:Int} (hx:x∈t) (h:thr3 x a b=some c):thirdE t a b=c:=by
 unfold thirdE
 cases hf:t.findSome? (fun x=>thr3 x a b) with
 | none=>
  have:=List.findSome?_eq_none_iff.1 hf x hx
  rw [this] at h;cases h
 | some d=>
  obtain ⟨y,hy,hyd⟩:=List.exists_of_findSome?_eq_some hf
  have:=dir_same hn hx hy (thr3_some h).1 (thr3_some hyd).1
  subst this
  rw [h] at hyd
  cases hyd
  rfl
theorem third_mem {t:List Pt} (hn:(dirE t).Nodup) {a b:Int} (h:(a,b)∈dirE t):(b,thirdE t a b)∈dirE t∧(thirdE t a b,a)∈dirE t:=by
 obtain ⟨x,hx,hd⟩:=mem_dirE.1 h
 obtain ⟨c,hc⟩:=thr3_has hd
 rw [third_is hn hx hc]
 exact ⟨mem_dirE.2 ⟨x,hx,(thr3_some hc).2.1⟩,mem_dirE.2 ⟨x,hx,(thr3_some hc).2.2⟩⟩
end Go.Proofs.YtmemofonebphfaaGreat
namespace Go.Proofs.YtmemofonebphfaaGreat
open Go.RowKit Go.Sort
def numT (x:Pt):Tri:=((x.1,0,0),(x.2.1,0,0),(x.2.2,0,0))
def numE (e:E2):Ed:=((e.1,0,0),(e.2,0,0))
theorem numE_inj {e f:E2} (h:numE e=numE f):e=f:=by
 simp only [numE,Prod.mk.injEq,and_true] at h
 exact Prod.ext h.1 h.2
theorem edges_num (t:List Pt):edgesP (t.map numT)=(dirE t).map numE:=by
 unfold edgesP dirE
 induction t with
 | nil=>rfl
 | cons x t ih=>rw [List.map_cons,List.flatMap_cons,ih,List.flatMap_cons,List.map_append];rfl
theorem nodup_of_map {α β:Type} {f:α→β}:∀{l:List α},(l.map f).Nodup→l.Nodup
 | [],_=> .nil
 | x::l,h=>by
  rw [List.map_cons,List.nodup_cons] at h
  exact List.nodup_cons.2 ⟨fun hx=>h.1 (List.mem_map.2 ⟨x,hx,rfl⟩),nodup_of_map h.2⟩
theorem cls_of_check {t:List Pt} {n:Int} (hc:checkP (t.map numT) false=0) (hi:∀x∈t,(0≤x.1∧x.1 < n)∧(0≤x.2.1∧x.2.1 < n)∧0≤x.2.2∧x.2.2 < n)
  (hb:∀x∈t,∀y∈t,¬∀e∈de3 x,swE e∈de3 y):Cls3 t n:=by
 obtain ⟨h1,h2,h3,_⟩:=check_iff.1 hc
 have h3:borderP (t.map numT)= []:=by
  rcases h3 with h | h
  ·cases h
  ·exact h
 rw [edges_num] at h2
 refine ⟨hi,fun x hx=> ?_,nodup_of_map h2,fun e he=> ?_,hb⟩
 ·have:=List.any_eq_false.1 h1 (numT x) (List.mem_map.2 ⟨x,hx,rfl⟩)
  simp [flatT,numT] at this
  omega
 ·have hm:numE e∈edgesP (t.map numT):=by rw [edges_num];exact List.mem_map.2 ⟨e,he,rfl⟩
  have:=closed_swap h3 _ hm
  rw [edges_num] at this
  obtain ⟨f,hf,hfe⟩:=List.mem_map.1 this
  have:f=swE e:=numE_inj (by rw [hfe];rfl)
  rw [←this];exact hf
theorem wrap64_add_l (a b:Int):wrap64 (wrap64 a+b)=wrap64 (a+b):=by unfold wrap64;omega
theorem wrap64_add_r (a b:Int):wrap64 (a+wrap64 b)=wrap64 (a+b):=by unfold wrap64;omega
def wsum (p:List Pt):List (Int × Int)→Pt
 | []=>(0,0,0)
 | (k,i)::ws=>(k*(p.getD i.toNat (0,0,0)).1+(wsum p ws).1,k*(p.getD i.toNat (0,0,0)).2.1+(wsum p ws).2.1,k*(p.getD i.toNat (0,0,0)).2.2+(wsum p ws).2.2)
def wrapP (p:Pt):Pt:=(wrap64 p.1,wrap64 p.2.1,wrap64 p.2.2)
def endsE (cr:List E2) (a:Int):List Int:=cr.flatMap fun e=>(if e.1=a then [e.2] else [])++if e.2=a then [e.1] else []
def beyE (cr:List E2) (co:List Int) (a b:Int):Int:=if a∈co∨(endsE cr a).length≠2 then a else if (endsE cr a)[0]? =some b then (endsE cr a).getD 1 0 else (endsE cr a).getD 0 0
def wsE (t:List Pt) (cr:List E2) (co:List Int) (a b:Int):List (Int × Int):=
 if nrmE a b∈cr then [(9,a),(9,b),(-1,beyE cr co a b),(-1,beyE cr co b a)]
 else [(8,a),(8,b),(2,thirdE t a b),(2,thirdE t b a),(-1,thirdE t (thirdE t a b) b),(-1,thirdE t a (thirdE t a b)),(-1,thirdE t (thirdE t b a) a),(-1,thirdE t b (thirdE t b a))]
def ruleE (p t:List Pt) (cr:List E2) (co:List Int) (a b:Int):Pt:=
 ((wrap64 (wsum p (wsE t cr co a b)).1).tdiv 16,(wrap64 (wsum p (wsE t cr co a b)).2.1).tdiv 16,(wrap64 (wsum p (wsE t cr co a b)).2.2).tdiv 16)
def setE (l:List E2):List E2:=sortO ltE2 (dedup (l.map fun e=>nrmE e.1 e.2))
structure Lev where
 p:List Pt
 t:List Pt
 cr:List E2
def Lev.rules (L:Lev) (co:List Int):List Pt:=(edgesE L.t).map fun e=>ruleE L.p L.t L.cr co e.1 e.2
def Lev.halved (L:Lev):List E2:=L.cr.flatMap fun e=> [(e.1,midE L.t L.p.length e.1 e.2),(e.2,midE L.t L.p.length e.1 e.2)]
def Lev.step (L:Lev) (added:List Pt):Lev:=⟨L.p++added,stepT (midE L.t L.p.length) L.t,setE L.halved⟩
def plusP (p q:Pt) (n:Int):Pt:=(wrap64 (p.1+n*q.1),wrap64 (p.2.1+n*q.2.1),wrap64 (p.2.2+n*q.2.2))
def detE (added:List Pt) (ds:List Pt) (n:Int):List Pt:=added.mapIdx fun i p=>match ds[i]? with
 | some d=>plusP p d n
 | none=>p
structure Ctl where
 points:List Pt
 tris:List Pt
 creases:List E2
 corners:List Int
 steps:Int
 details:List (List Pt)
def Ctl.begin (c:Ctl):Lev:=⟨c.points.map fun p=>plusP (0,0,0) p (16^c.steps.toNat),c.tris,setE c.creases⟩
def Ctl.level (c:Ctl):Nat→Lev
 | 0=>c.begin
 | k+1=>(c.level k).step (detE ((c.level k).rules c.corners) (c.details.getD k []) (16^(c.steps.toNat - 1 - k)))
def outE (n:Nat) (l:List Int):Bool:=l.any fun i=>decide (i < 0∨(n:Int)≤i)
def outR (lo hi:Int) (l:List Pt):Bool:=l.any fun p=>decide (min (min p.1 p.2.1) p.2.2 < lo∨hi < max (max p.1 p.2.1) p.2.2)
def manyE (ds:List (List Pt)):Nat→Nat→Bool
 | 0,_=>false
 | k+1,m=>match ds with
  | []=>false
  | d::ds=>decide (m < d.length) || manyE ds k (4*m)
end Go.Proofs.YtmemofonebphfaaGreat
namespace Go.Proofs.YtmemofonebphfaaGreat
open Go.RowKit Go.Sort
def trN (x:Pt):List Pt:= [x,(x.2.1,x.2.2,x.1),(x.2.2,x.1,x.2.1)]
def tripN (t:List Pt):List Pt:=t.flatMap trN
def corN3 (x:Pt):List Int:= [x.1,x.2.1,x.2.2]
def corsN (t:List Pt):List Int:=t.flatMap corN3
def nmP (i:Int):Pt:=(i,0,0)
theorem nmP_inj {i j:Int} (h:nmP i=nmP j):i=j:=congrArg Prod.fst h
theorem trip_num (t:List Pt):tripP (t.map numT)=(tripN t).map numT:=by
 unfold tripP tripN
 induction t with
 | nil=>rfl
 | cons x t ih=>rw [List.map_cons,List.flatMap_cons,ih,List.flatMap_cons,List.map_append];rfl
theorem cors_num (t:List Pt):corsP (t.map numT)=(corsN t).map nmP:=by
 unfold corsP corsN
 induction t with
 | nil=>rfl
 | cons x t ih=>rw [List.map_cons,List.flatMap_cons,ih,List.flatMap_cons,List.map_append];rfl
theorem mem_tripN {t:List Pt} {y:Pt}:y∈tripN t ↔∃x∈t,y=x∨y=(x.2.1,x.2.2,x.1)∨y=(x.2.2,x.1,x.2.1):=by
 unfold tripN
 rw [List.mem_flatMap]
 simp [trN]
theorem tripN_cyc {t:List Pt} {a b c:Int} (h:(a,b,c)∈tripN t):(b,c,a)∈tripN t:=by
 obtain ⟨x,hx,h⟩:=mem_tripN.1 h
 refine mem_tripN.2 ⟨x,hx,?_⟩
 obtain ⟨x1,x2,x3⟩:=x
 simp only [Prod.mk.injEq] at h⊢
 omega
theorem tripN_edge {t:List Pt} {a b c:Int} (h:(a,b,c)∈tripN t):(a,b)∈dirE t:=by
 obtain ⟨x,hx,h⟩:=mem_tripN.1 h
 refine mem_dirE.2 ⟨x,hx,mem_de3.2 ?_⟩
 obtain ⟨x1,x2,x3⟩:=x
 simp only [Prod.mk.injEq] at h⊢
 omega
theorem edge_tripN {t:List Pt} {a b:Int} (h:(a,b)∈dirE t):∃c,(a,b,c)∈tripN t:=by
 obtain ⟨x,hx,h⟩:=mem_dirE.1 h
 obtain ⟨x1,x2,x3⟩:=x
 rcases mem_de3.1 h with h | h | h <;>simp only [Prod.mk.injEq] at h <;>obtain ⟨rfl,rfl⟩:=h
 ·exact ⟨x3,mem_tripN.2 ⟨_,hx,by simp⟩⟩
 ·exact ⟨x1,mem_tripN.2 ⟨_,hx,by simp⟩⟩
 ·exact ⟨x2,mem_tripN.2 ⟨_,hx,by simp⟩⟩
def itR (R:Int→Int→Prop):Nat→Int→Int→Prop
 | 0,s,r=>s=r
 | k+1,s,r=>∃x,R s x∧itR R k x r
def nxR (t:List Pt) (p:Int) (q r:Int):Prop:=(p,q,r)∈tripN t
def calmN (t:List Pt):Prop:=∀p s k,1≤k→itR (nxR t p) k s s→(corsN t).count p≤k
theorem count_map_inj {α β:Type} [BEq α] [LawfulBEq α] [BEq β] [LawfulBEq β] {f:α→β}:∀(l:List α) (a:α),(∀b∈l,f b=f a→b=a)→(l.map f).count (f a)=l.count a
 | [],_,_=>rfl
 | x::l,a,h=>by
  rw [List.map_cons,List.count_cons,List.count_cons,count_map_inj l a fun b hb=>h b (by simp [hb])]
  congr 1
  by_cases e:x=a
  ·subst e;simp
  ·have:f x≠f a:=fun h'=>e (h x (by simp) h')
   simp [e,this]
theorem behP_num {t:List Pt} (hn:(dirE t).Nodup) {P Q X:Pt}:behP (t.map numT) P Q=some X ↔∃p q x,P=nmP p∧Q=nmP q∧X=nmP x∧nxR t p q x:=by
 have hn':(edgesP (t.map numT)).Nodup:=by
  rw [edges_num]
  exact List.Pairwise.map _ (fun a b hab he=>hab (numE_inj he)) hn
 rw [behP_iff hn',trip_num,List.mem_map]
 constructor
 ·rintro ⟨⟨p,q,x⟩,hm,he⟩
  simp only [numT,Prod.mk.injEq] at he
  obtain ⟨h1,h2,h3⟩:=he
  exact ⟨p,q,x,h1.symm,h2.symm,h3.symm,hm⟩
 ·rintro ⟨p,q,x,rfl,rfl,rfl,hm⟩
  exact ⟨_,hm,rfl⟩
theorem it_fwd {t:List Pt} (hn:(dirE t).Nodup) {p:Int}:∀(k:Nat) (s r:Int),itR (nxR t p) k s r→iterO (behP (t.map numT) (nmP p)) k (nmP s)=some (nmP r)
 | 0,s,r,h=>by unfold itR at h;subst h;rfl
 | k+1,s,r,⟨x,h1,h2⟩=>by
  unfold iterO
  rw [(behP_num hn).2 ⟨p,s,x,rfl,rfl,rfl,h1⟩]
  exact it_fwd hn k x r h2
theorem it_bwd {t:List Pt} (hn:(dirE t).Nodup) {p:Int}:∀(k:Nat) (s:Int) (Y:Pt),iterO (behP (t.map numT) (nmP p)) k (nmP s)=some Y→∃r,Y=nmP r∧itR (nxR t p) k s r
 | 0,s,Y,h=>by unfold iterO at h;cases h;exact ⟨s,rfl,rfl⟩
 | k+1,s,Y,h=>by
  unfold iterO at h
  cases hb:behP (t.map numT) (nmP p) (nmP s) with
  | none=>rw [hb] at h;cases h
  | some X=>
   rw [hb] at h
   obtain ⟨p',q',x,e1,e2,rfl,hx⟩:=(behP_num hn).1 hb
   obtain rfl:=nmP_inj e1
   obtain rfl:=nmP_inj e2
   obtain ⟨r,hr,h2⟩:=it_bwd hn k x Y h
   exact ⟨r,hr,x,hx,h2⟩
theorem calm_num {t:List Pt} (hn:(dirE t).Nodup):calmP (t.map numT) ↔ calmN t:=by
 constructor
 ·intro h p s k hk hi
  have h1:=h (nmP p) (nmP s) k hk (it_fwd hn k s s hi)
  rw [cntC_count,cors_num,count_map_inj _ _ fun b _ e=>nmP_inj e] at h1
  exact h1
 ·intro h P S k hk hi
  obtain ⟨j,rfl⟩:∃j,k=j+1:=⟨k - 1,by omega⟩
  have h0:=hi
  unfold iterO at h0
  cases hb:behP (t.map numT) P S with
  | none=>rw [hb] at h0;cases h0
  | some X=>
   obtain ⟨p,s,x,rfl,rfl,_,_⟩:=(behP_num hn).1 hb
   obtain ⟨r,e,h2⟩:=it_bwd hn (j+1) s _ hi
   obtain rfl:=nmP_inj e
   have:=h p s (j+1) hk h2
   rw [cntC_count,cors_num,count_map_inj _ _ fun b _ e=>nmP_inj e]
   exact this
theorem check_num {t:List Pt}:checkP (t.map numT) false=0 ↔ (∀x∈t,x.1≠x.2.1∧x.2.1≠x.2.2∧x.2.2≠x.1)∧(dirE t).Nodup∧(∀e∈dirE t,swE e∈dirE t)∧calmN t:=by
 rw [check_iff]
 have e1:(t.map numT).any flatT=false ↔∀x∈t,x.1≠x.2.1∧x.2.1≠x.2.2∧x.2.2≠x.1:=by
  rw [List.any_map,List.any_eq_false]
  refine forall_congr' fun x=>forall_congr' fun _=> ?_
  simp [flatT,numT]
  omega
 have e2:(edgesP (t.map numT)).Nodup ↔ (dirE t).Nodup:=by
  rw [edges_num]
  exact ⟨nodup_of_map,fun h=>List.Pairwise.map _ (fun a b hab he=>hab (numE_inj he)) h⟩
 have e3:borderP (t.map numT)= [] ↔∀e∈dirE t,swE e∈dirE t:=by
  constructor
  ·intro h e he
   have hm:numE e∈edgesP (t.map numT):=by rw [edges_num];exact List.mem_map.2 ⟨e,he,rfl⟩
   have:=closed_swap h _ hm
   rw [edges_num] at this
   obtain ⟨f,hf,hfe⟩:=List.mem_map.1 this
   have:f=swE e:=numE_inj (by rw [hfe];rfl)
   rw [←this];exact hf
  ·intro h
   refine List.eq_nil_iff_forall_not_mem.2 fun E hE=> ?_
   obtain ⟨h1,h2⟩:=((border_both (t.map numT)).2 E).1 hE
   rw [edges_num] at h1 h2
   obtain ⟨e,he,rfl⟩:=List.mem_map.1 h1
   exact h2 (List.mem_map.2 ⟨swE e,h e he,rfl⟩)
 rw [e1,e2,e3]
 constructor
 ·rintro ⟨h1,h2,h3,h4⟩
  exact ⟨h1,h2,by simpa using h3,(calm_num h2).1 h4⟩
 ·rintro ⟨h1,h2,h3,h4⟩
  exact ⟨h1,h2, .inr h3,(calm_num h2).2 h4⟩
theorem mem_tripStep {m:Int→Int→Int} {t:List Pt} {p q r:Int}:(p,q,r)∈tripN (stepT m t) ↔∃a b c,(a,b,c)∈tripN t∧((p=a∧q=m a b∧r=m c a)∨(p=m a b∧q=m c a∧r=a)∨(p=m c a∧q=a∧r=m a b)∨(p=m a b∧q=m b c∧r=m c a)):=by
 constructor
 ·intro h
  obtain ⟨y,hy,h⟩:=mem_tripN.1 h
  obtain ⟨x,hx,hy⟩:=mem_stepT.1 hy
  obtain ⟨a,b,c⟩:=x
  have t1:(a,b,c)∈tripN t:=mem_tripN.2 ⟨_,hx, .inl rfl⟩
  have t2:=tripN_cyc t1
  have t3:=tripN_cyc t2
  simp only [four,List.mem_cons,List.not_mem_nil,or_false] at hy
  rcases hy with rfl | rfl | rfl | rfl <;>simp only [Prod.mk.injEq] at h <;>rcases h with ⟨rfl,rfl,rfl⟩ | ⟨rfl,rfl,rfl⟩ | ⟨rfl,rfl,rfl⟩
  ·exact ⟨_,_,_,t1,by simp⟩
  ·exact ⟨_,_,_,t1,by simp⟩
  ·exact ⟨_,_,_,t1,by simp⟩
  ·exact ⟨_,_,_,t2,by simp⟩
  ·exact ⟨_,_,_,t2,by simp⟩
  ·exact ⟨_,_,_,t2,by simp⟩
  ·exact ⟨_,_,_,t3,by simp⟩
  ·exact ⟨_,_,_,t3,by simp⟩
  ·exact ⟨_,_,_,t3,by simp⟩
  ·exact ⟨_,_,_,t1,by simp⟩
  ·exact ⟨_,_,_,t2,by simp⟩
  ·exact ⟨_,_,_,t3,by simp⟩
 ·rintro ⟨a,b,c,h,hc⟩
  obtain ⟨x,hx,h⟩:=mem_tripN.1 h
  obtain ⟨x1,x2,x3⟩:=x
  have f1:(x1,m x1 x2,m x3 x1)∈stepT m t:=mem_stepT.2 ⟨_,hx,by simp [four]⟩
  have f2:(m x1 x2,x2,m x2 x3)∈stepT m t:=mem_stepT.2 ⟨_,hx,by simp [four]⟩
  have f3:(m x3 x1,m x2 x3,x3)∈stepT m t:=mem_stepT.2 ⟨_,hx,by simp [four]⟩
  have f4:(m x1 x2,m x2 x3,m x3 x1)∈stepT m t:=mem_stepT.2 ⟨_,hx,by simp [four]⟩
  simp only [Prod.mk.injEq] at h
  rcases h with ⟨rfl,rfl,rfl⟩ | ⟨rfl,rfl,rfl⟩ | ⟨rfl,rfl,rfl⟩ <;>rcases hc with ⟨rfl,rfl,rfl⟩ | ⟨rfl,rfl,rfl⟩ | ⟨rfl,rfl,rfl⟩ | ⟨rfl,rfl,rfl⟩
  ·exact mem_tripN.2 ⟨_,f1,by simp⟩
  ·exact mem_tripN.2 ⟨_,f1,by simp⟩
  ·exact mem_tripN.2 ⟨_,f1,by simp⟩
  ·exact mem_tripN.2 ⟨_,f4,by simp⟩
  ·exact mem_tripN.2 ⟨_,f2,by simp⟩
  ·exact mem_tripN.2 ⟨_,f2,by simp⟩
  ·exact mem_tripN.2 ⟨_,f2,by simp⟩
  ·exact mem_tripN.2 ⟨_,f4,by simp⟩
  ·exact mem_tripN.2 ⟨_,f3,by simp⟩
  ·exact mem_tripN.2 ⟨_,f3,by simp⟩
  ·exact mem_tripN.2 ⟨_,f3,by simp⟩
  ·exact mem_tripN.2 ⟨_,f4,by simp⟩
theorem len_two {α:Type} {l:List α} {u v:α} (hn:l.Nodup) (h:∀x∈l,x=u∨x=v):l.length≤2:=by
 match l,hn,h with
 | [],_,_=>simp
 | [_],_,_=>simp
 | [_,_],_,_=>simp
 | a::b::c::l,hn,h=>
  exfalso
  simp only [List.nodup_cons,List.mem_cons,not_or] at hn
  have h1:=h a (by simp)
  have h2:=h b (by simp)
  have h3:=h c (by simp)
  obtain ⟨⟨n1,n2,_⟩,⟨n3,_⟩,_⟩:=hn
  rcases h1 with rfl | rfl <;>rcases h2 with rfl | rfl <;>rcases h3 with rfl | rfl <;>simp at n1 n2 n3
theorem count_old {m:Int→Int→Int} {p:Int}:∀{t:List Pt},(∀e∈dirE t,m e.1 e.2≠p)→(corsN (stepT m t)).count p=(corsN t).count p
 | [],_=>rfl
 | x::t,h=>by
  have ih:=count_old (t:=t) fun e he=>h e (by unfold dirE at he⊢;rw [List.flatMap_cons];exact List.mem_append_right _ he)
  have h1:∀e∈de3 x,m e.1 e.2≠p:=fun e he=>h e (mem_dirE.2 ⟨x,by simp,he⟩)
  have a1:=h1 (x.1,x.2.1) (by simp [de3])
  have a2:=h1 (x.2.1,x.2.2) (by simp [de3])
  have a3:=h1 (x.2.2,x.1) (by simp [de3])
  simp only at a1 a2 a3
  unfold corsN stepT at ih⊢
  rw [List.flatMap_cons,List.flatMap_append,List.flatMap_cons,List.count_append,List.count_append,ih]
  congr 1
  simp only [four,corN3,List.flatMap_cons,List.flatMap_nil,List.cons_append,List.nil_append,List.append_nil,List.count_cons,List.count_nil]
  have b1:(m x.1 x.2.1==p)=false:=beq_false_of_ne a1
  have b2:(m x.2.1 x.2.2==p)=false:=beq_false_of_ne a2
  have b3:(m x.2.2 x.1==p)=false:=beq_false_of_ne a3
  simp only [b1,b2,b3]
  simp <;>omega
theorem count_new {m:Int→Int→Int} {p:Int}:∀{t:List Pt},(∀x∈t,x.1≠p∧x.2.1≠p∧x.2.2≠p)→(corsN (stepT m t)).count p=3*((dirE t).filter fun e=>decide (m e.1 e.2=p)).length
 | [],_=>rfl
 | x::t,h=>by
  have ih:=count_new (m:=m) (t:=t) fun y hy=>h y (by simp [hy])
  obtain ⟨a1,a2,a3⟩:=h x (by simp)
  unfold corsN stepT dirE at ih⊢
  rw [List.flatMap_cons,List.flatMap_append,List.flatMap_cons,List.filter_append,List.length_append,List.count_append,ih,Nat.mul_add]
  congr 1
  have b1:(x.1==p)=false:=beq_false_of_ne a1
  have b2:(x.2.1==p)=false:=beq_false_of_ne a2
  have b3:(x.2.2==p)=false:=beq_false_of_ne a3
  simp only [four,corN3,de3,List.flatMap_cons,List.flatMap_nil,List.cons_append,List.nil_append,List.append_nil,List.count_cons,List.count_nil,b1,b2,b3]
  by_cases c1:m x.1 x.2.1=p <;>by_cases c2:m x.2.1 x.2.2=p <;>by_cases c3:m x.2.2 x.1=p <;>simp [c1,c2,c3]
theorem ring_six {R:Int→Int→Prop} {X:List Int} (hl:X.length=6) (hn:X.Nodup) (hR:∀q r,R q r→∃i,i < 6∧X[i]? =some q∧X[(i+1) % 6]? =some r):∀(k:Nat) (s r:Int),1≤k→itR R k s r→∃i,i < 6∧X[i]? =some s∧X[(i+k) % 6]? =some r
 | 0,_,_,h,_=>absurd h (by omega)
 | 1,s,r,_,⟨x,h1,h2⟩=>by
  have h2:x=r:=h2
  subst h2
  exact hR _ _ h1
 | k+2,s,r,_,⟨x,h1,h2⟩=>by
  obtain ⟨i,hi,e1,e2⟩:=hR _ _ h1
  obtain ⟨j,hj,e3,e4⟩:=ring_six hl hn hR (k+1) x r (by omega) h2
  have hij:(i+1) % 6=j:=by
   obtain ⟨l1,g1⟩:=List.getElem?_eq_some_iff.1 e2
   obtain ⟨l2,g2⟩:=List.getElem?_eq_some_iff.1 e3
   exact (List.getElem_inj hn).1 (g1.trans g2.symm)
  refine ⟨i,hi,e1,?_⟩
  rw [←e4]
  congr 1
  omega
theorem Cls3.calm_step {t:List Pt} {n k:Int} (h:Cls3 t n) {m:Int→Int→Int} (hm:MidM m t n k) (hc:calmN t):calmN (stepT m t):=by
 have hbd:∀{a b c:Int},(a,b,c)∈tripN t→(0≤a∧a < n)∧a≠b∧(a,b)∈dirE t:=fun {a b c} ht=>by
  have he:=tripN_edge ht
  refine ⟨?_,h.ne he,he⟩
  obtain ⟨x,hx,h'⟩:=mem_tripN.1 ht
  have:=h.idx x hx
  obtain ⟨x1,x2,x3⟩:=x
  simp only [Prod.mk.injEq] at h' this
  omega
 have hlow:∀{a b:Int},(a,b)∈dirE t→n≤m a b:=fun {a b} he=>(hm.low _ he).1
 have hsw:∀{a b:Int},(a,b)∈dirE t→(b,a)∈dirE t:=fun {a b} he=>h.clos _ he
 have hinj:∀{a b c d:Int},(a,b)∈dirE t→(c,d)∈dirE t→m a b=m c d→(a=c∧b=d)∨(a=d∧b=c):=fun {a b c d} h1 h2 he=>by
  rcases hm.inj _ h1 _ h2 he with e | e <;>simp only [swE,Prod.mk.injEq] at e
  ·exact .inl e
  ·exact .inr e
 intro p s k0 hk hi
 obtain ⟨j,rfl⟩:∃j,k0=j+1:=⟨k0 - 1,by omega⟩
 obtain ⟨x0,hx0,_⟩:=id hi
 obtain ⟨a0,b0,c0,ht0,hcase⟩:=mem_tripStep.1 hx0
 have hb0:=hbd ht0
 have ht1:=tripN_cyc ht0
 have hb1:=hbd ht1
 have ht2:=tripN_cyc ht1
 have hb2:=hbd ht2
 rcases Int.lt_or_le p n with hp | hp
 ·-- an old corner
  have hold:∀q r,nxR (stepT m t) p q r→∃b c,(p,b,c)∈tripN t∧q=m p b∧r=m p c:=fun q r hq=>by
   obtain ⟨a,b,c,ht,hcase⟩:=mem_tripStep.1 hq
   have l1:=hlow (hbd ht).2.2
   have l2:=hlow (hbd (tripN_cyc ht)).2.2
   have l3:=hlow (hbd (tripN_cyc (tripN_cyc ht))).2.2
   rcases hcase with ⟨rfl,rfl,rfl⟩ | ⟨e,_⟩ | ⟨e,_⟩ | ⟨e,_⟩
   ·exact ⟨b,c,ht,rfl,hm.sym c p⟩
   all_goals omega
  have hlift:∀(k:Nat) (q r:Int),1≤k→itR (nxR (stepT m t) p) k q r→∃b c,(p,b)∈dirE t∧(p,c)∈dirE t∧q=m p b∧r=m p c∧itR (nxR t p) k b c:=by
   intro k
   induction k with
   | zero=>intro q r h;omega
   | succ k ih=>
    intro q r _ ⟨x,hx,hr⟩
    obtain ⟨b,c,ht,rfl,rfl⟩:=hold _ _ hx
    have e1:=(hbd ht).2.2
    have e2:=hsw (hbd (tripN_cyc (tripN_cyc ht))).2.2
    rcases Nat.eq_zero_or_pos k with rfl | hk
    ·have hr:m p c=r:=hr
     exact ⟨b,c,e1,e2,rfl,hr.symm,c,ht,rfl⟩
    ·obtain ⟨b',c',f1,f2,g1,g2,g3⟩:=ih _ _ hk hr
     have hcb:c=b':=by
      rcases hinj e2 f1 g1 with e | e
      ·exact e.2
      ·have:=h.ne f1
       simp only at this
       omega
     subst hcb
     exact ⟨b,c',e1,f2,rfl,g2,c,ht,g3⟩
  obtain ⟨b,c,e1,e2,rfl,g2,g3⟩:=hlift _ _ _ hk hi
  have hbc:b=c:=by
   rcases hinj e1 e2 g2 with e | e
   ·exact e.2
   ·have:=h.ne e1
    simp only at this
    omega
  subst hbc
  rw [count_old fun e he=>by have:=(hm.low e he).1;omega]
  exact hc p b _ hk g3
 ·-- a new one
  obtain ⟨a,b,hab,rfl⟩:∃a b,(a,b)∈dirE t∧p=m a b:=by
   rcases hcase with ⟨rfl,_⟩ | ⟨rfl,_⟩ | ⟨rfl,_⟩ | ⟨rfl,_⟩
   ·omega
   ·exact ⟨_,_,hb0.2.2,rfl⟩
   ·exact ⟨_,_,hb2.2.2,rfl⟩
   ·exact ⟨_,_,hb0.2.2,rfl⟩
  obtain ⟨c,hc1⟩:=edge_tripN hab
  obtain ⟨d,hd1⟩:=edge_tripN (hsw hab)
  have hc2:=tripN_cyc hc1
  have hc3:=tripN_cyc hc2
  have hd2:=tripN_cyc hd1
  have hd3:=tripN_cyc hd2
  have ebc:=(hbd hc2).2.2
  have eca:=(hbd hc3).2.2
  have ead:=(hbd hd2).2.2
  have edb:=(hbd hd3).2.2
  have hne:c≠d:=fun e=>by
   subst e
   obtain ⟨x,hx,h1⟩:=mem_tripN.1 hc1
   obtain ⟨y,hy,h2⟩:=mem_tripN.1 hd1
   refine h.back x hx y hy ?_
   obtain ⟨x1,x2,x3⟩:=x
   obtain ⟨y1,y2,y3⟩:=y
   intro f hf
   obtain ⟨f1,f2⟩:=f
   simp only [de3,swE,List.mem_cons,List.not_mem_nil,or_false,Prod.mk.injEq] at hf h1 h2⊢
   omega
  have one:∀{u v w z:Int},(u,v,w)∈tripN t→(u,v,z)∈tripN t→w=z:=fun {u v w z} h1 h2=>by
   obtain ⟨x,hx,g1⟩:=mem_tripN.1 h1
   obtain ⟨y,hy,g2⟩:=mem_tripN.1 h2
   have e:x=y:=by
    refine h.same hx hy (e:=(u,v)) (mem_de3.2 ?_) (mem_de3.2 ?_)
    ·obtain ⟨x1,x2,x3⟩:=x
     simp only [Prod.mk.injEq] at g1⊢
     omega
    ·obtain ⟨x1,x2,x3⟩:=y
     simp only [Prod.mk.injEq] at g2⊢
     omega
   subst e
   have hd:=h.dist x hx
   obtain ⟨x1,x2,x3⟩:=x
   simp only [Prod.mk.injEq] at g1 g2 hd
   omega
  have nab:a≠b:=(hbd hc1).2.1
  have nbc:b≠c:=(hbd hc2).2.1
  have nca:c≠a:=(hbd hc3).2.1
  have nad:a≠d:=(hbd hd2).2.1
  have ndb:d≠b:=(hbd hd3).2.1
  have la:=(hbd hc1).1
  have lb:=(hbd hc2).1
  have l1:=hlow ebc
  have l2:=hlow eca
  have l3:=hlow ead
  have l4:=hlow edb
  have d1:m b c≠m c a:=fun e=>by rcases hinj ebc eca e with e | e <;>omega
  have d2:m b c≠m a d:=fun e=>by rcases hinj ebc ead e with e | e <;>omega
  have d3:m b c≠m d b:=fun e=>by rcases hinj ebc edb e with e | e <;>omega
  have d4:m c a≠m a d:=fun e=>by rcases hinj eca ead e with e | e <;>omega
  have d5:m c a≠m d b:=fun e=>by rcases hinj eca edb e with e | e <;>omega
  have d6:m a d≠m d b:=fun e=>by rcases hinj ead edb e with e | e <;>omega
  have hR:∀q r,nxR (stepT m t) (m a b) q r→∃i,i < 6∧ [b,m b c,m c a,a,m a d,m d b][i]? =some q∧ [b,m b c,m c a,a,m a d,m d b][(i+1) % 6]? =some r:=fun q r hq=>by
   obtain ⟨a',b',c',ht,hcase⟩:=mem_tripStep.1 hq
   have x1:=(hbd ht)
   have x3:=(hbd (tripN_cyc (tripN_cyc ht)))
   rcases hcase with ⟨e,_⟩ | ⟨e,rfl,rfl⟩ | ⟨e,rfl,rfl⟩ | ⟨e,rfl,rfl⟩
   ·have:=hlow hab
    omega
   ·rcases hinj hab x1.2.2 e with ⟨rfl,rfl⟩ | ⟨rfl,rfl⟩
    ·obtain rfl:=one hc1 ht
     exact ⟨2,by omega,rfl,rfl⟩
    ·obtain rfl:=one hd1 ht
     exact ⟨5,by omega,rfl,rfl⟩
   ·rcases hinj hab x3.2.2 e with ⟨rfl,rfl⟩ | ⟨rfl,rfl⟩
    ·obtain rfl:=one hc1 (tripN_cyc (tripN_cyc ht))
     exact ⟨0,by omega,rfl,rfl⟩
    ·obtain rfl:=one hd1 (tripN_cyc (tripN_cyc ht))
     exact ⟨3,by omega,rfl,rfl⟩
   ·rcases hinj hab x1.2.2 e with ⟨rfl,rfl⟩ | ⟨rfl,rfl⟩
    ·obtain rfl:=one hc1 ht
     exact ⟨1,by omega,rfl,rfl⟩
    ·obtain rfl:=one hd1 ht
     exact ⟨4,by omega,rfl,rfl⟩
  have hnd: [b,m b c,m c a,a,m a d,m d b].Nodup:=by
   simp only [List.nodup_cons,List.mem_cons,List.not_mem_nil,or_false,not_or,List.nodup_nil,not_false_eq_true,and_true]
   refine ⟨⟨?_,?_,?_,?_,?_⟩,⟨?_,?_,?_,?_⟩,⟨?_,?_,?_⟩,⟨?_,?_⟩,?_⟩ <;>first | assumption | omega
  obtain ⟨i,hi6,g1,g2⟩:=ring_six rfl hnd hR _ _ _ hk hi
  have hmod:i=(i+(j+1)) % 6:=by
   obtain ⟨l1,g1⟩:=List.getElem?_eq_some_iff.1 g1
   obtain ⟨l2,g2⟩:=List.getElem?_eq_some_iff.1 g2
   exact (List.getElem_inj hnd).1 (g1.trans g2.symm)
  have h6:6≤j+1:=by omega
  have hcnt:(corsN (stepT m t)).count (m a b)=3*((dirE t).filter fun e=>decide (m e.1 e.2=m a b)).length:=count_new fun x hx=>by
   have:=h.idx x hx
   have:=hlow hab
   omega
  have h2:((dirE t).filter fun e=>decide (m e.1 e.2=m a b)).length≤2:=len_two (u:=(a,b)) (v:=swE (a,b)) (h.nodup.filter _) fun e he=>by
   obtain ⟨h1,h2⟩:=List.mem_filter.1 he
   exact hm.inj e h1 (a,b) hab (of_decide_eq_true h2)
  omega
end Go.Proofs.YtmemofonebphfaaGreat
namespace Go.Proofs.YtmemofonebphfaaGreat
open Go.RowKit Go.Sort
def BndL (P:List Pt) (C:Int):Prop:=∀p∈P,(-C≤p.1∧p.1≤C)∧(-C≤p.2.1∧p.2.1≤C)∧ -C≤p.2.2∧p.2.2≤C
def DivL (P:List Pt) (k:Int):Prop:=∀p∈P,k ∣ p.1∧k ∣ p.2.1∧k ∣ p.2.2
def wabs:List (Int × Int)→Int
 | []=>0
 | (k,_)::ws=>k.natAbs+wabs ws
theorem wabs_nn:∀ws,0≤wabs ws
 | []=>by simp [wabs]
 | (k,_)::ws=>by have:=wabs_nn ws;simp only [wabs];omega
theorem mul_bnd {k x C:Int} (h1: -C≤x) (h2:x≤C): -((k.natAbs:Int)*C)≤k*x∧k*x≤(k.natAbs:Int)*C:=by
 have hC:0≤C:=by omega
 rcases Int.le_total 0 k with hk | hk
 ·have e:(k.natAbs:Int)=k:=Int.natAbs_of_nonneg hk
  rw [e]
  have a1:=Int.mul_le_mul_of_nonneg_left h2 hk
  have a2:=Int.mul_le_mul_of_nonneg_left h1 hk
  rw [Int.mul_neg] at a2
  exact ⟨a2,a1⟩
 ·have e:(k.natAbs:Int)= -k:=by omega
  rw [e]
  have hk':0≤ -k:=by omega
  have a1:=Int.mul_le_mul_of_nonneg_left h2 hk'
  have a2:=Int.mul_le_mul_of_nonneg_left h1 hk'
  rw [Int.mul_neg] at a2
  have e2: -k*x= -(k*x):=Int.neg_mul _ _
  omega
theorem getD_mem {P:List Pt} {i:Nat}:P.getD i (0,0,0)∈P∨P.getD i (0,0,0)=(0,0,0):=by
 rw [List.getD_eq_getElem?_getD]
 cases h:P[i]? with
 | none=>exact .inr rfl
 | some p=>exact .inl (List.mem_of_getElem? h)
theorem BndL.get {P:List Pt} {C:Int} (h:BndL P C) (hC:0≤C) (i:Nat):(-C≤(P.getD i (0,0,0)).1∧(P.getD i (0,0,0)).1≤C)∧(-C≤(P.getD i (0,0,0)).2.1∧(P.getD i (0,0,0)).2.1≤C)∧ -C≤(P.getD i (0,0,0)).2.2∧(P.getD i (0,0,0)).2.2≤C:=by
 rcases getD_mem (P:=P) (i:=i) with hm | hm
 ·exact h _ hm
 ·rw [hm];dsimp only;omega
theorem DivL.get {P:List Pt} {k:Int} (h:DivL P k) (i:Nat):k ∣ (P.getD i (0,0,0)).1∧k ∣ (P.getD i (0,0,0)).2.1∧k ∣ (P.getD i (0,0,0)).2.2:=by
 rcases getD_mem (P:=P) (i:=i) with hm | hm
 ·exact h _ hm
 ·rw [hm];exact ⟨Int.dvd_zero _,Int.dvd_zero _,Int.dvd_zero _⟩
theorem wsum_bnd {P:List Pt} {C:Int} (h:BndL P C) (hC:0≤C):∀ws,(-(wabs ws*C)≤(wsum P ws).1∧(wsum P ws).1≤wabs ws*C)∧(-(wabs ws*C)≤(wsum P ws).2.1∧(wsum P ws).2.1≤wabs ws*C)∧ -(wabs ws*C)≤(wsum P ws).2.2∧(wsum P ws).2.2≤wabs ws*C
 | []=>by simp [wsum,wabs]
 | (k,i)::ws=>by
  have ih:=wsum_bnd h hC ws
  obtain ⟨g1,g2,g3⟩:=h.get hC i.toNat
  have m1:=mul_bnd (k:=k) g1.1 g1.2
  have m2:=mul_bnd (k:=k) g2.1 g2.2
  have m3:=mul_bnd (k:=k) g3.1 g3.2
  simp only [wsum,wabs,Int.add_mul]
  omega
theorem wsum_div {P:List Pt} {k:Int} (h:DivL P k):∀ws,k ∣ (wsum P ws).1∧k ∣ (wsum P ws).2.1∧k ∣ (wsum P ws).2.2
 | []=>⟨Int.dvd_zero _,Int.dvd_zero _,Int.dvd_zero _⟩
 | (c,i)::ws=>by
  have ih:=wsum_div h ws
  obtain ⟨g1,g2,g3⟩:=h.get i.toNat
  exact ⟨Int.dvd_add (Int.dvd_mul_of_dvd_right g1) ih.1,Int.dvd_add (Int.dvd_mul_of_dvd_right g2) ih.2.1,Int.dvd_add (Int.dvd_mul_of_dvd_right g3) ih.2.2⟩
theorem wabs_ws (t:List Pt) (cr:List E2) (co:List Int) (a b:Int):wabs (wsE t cr co a b)≤24:=by
 unfold wsE
 split <;>simp [wabs]
theorem rule_ex {P t:List Pt} {cr:List E2} {co:List Int} {a b C k:Int} (h:BndL P C) (hC:0≤C) (hC2:C≤281474976710656) (hd:DivL P (16*k)):
  (16*(ruleE P t cr co a b).1=(wsum P (wsE t cr co a b)).1∧16*(ruleE P t cr co a b).2.1=(wsum P (wsE t cr co a b)).2.1∧16*(ruleE P t cr co a b).2.2=(wsum P (wsE t cr co a b)).2.2)∧
  (k ∣ (ruleE P t cr co a b).1∧k ∣ (ruleE P t cr co a b).2.1∧k ∣ (ruleE P t cr co a b).2.2)∧
  (-(2*C)≤(ruleE P t cr co a b).1∧(ruleE P t cr co a b).1≤2*C)∧(-(2*C)≤(ruleE P t cr co a b).2.1∧(ruleE P t cr co a b).2.1≤2*C)∧ -(2*C)≤(ruleE P t cr co a b).2.2∧(ruleE P t cr co a b).2.2≤2*C:=by
 have hb:=wsum_bnd h hC (wsE t cr co a b)
 have hv:=wsum_div hd (wsE t cr co a b)
 have hw:wabs (wsE t cr co a b)*C≤24*C:=Int.mul_le_mul_of_nonneg_right (wabs_ws t cr co a b) hC
 have key:∀x:Int,-(24*C)≤x→x≤24*C→16*k ∣ x→16*(wrap64 x).tdiv 16=x∧k ∣ (wrap64 x).tdiv 16∧ -(2*C)≤(wrap64 x).tdiv 16∧(wrap64 x).tdiv 16≤2*C:=fun x h1 h2 h3=>by
  have e:wrap64 x=x:=by unfold wrap64;omega
  rw [e]
  obtain ⟨q,rfl⟩:=h3
  have e2:(16*k*q).tdiv 16=k*q:=by rw [Int.mul_assoc,Int.mul_tdiv_cancel_left _ (by omega)]
  rw [e2]
  have e3:16*k*q=16*(k*q):=Int.mul_assoc _ _ _
  rw [e3] at h1 h2⊢
  exact ⟨rfl,Int.dvd_mul_right k q,by omega,by omega⟩
 unfold ruleE
 obtain ⟨a1,a2,a3,a4⟩:=key (wsum P (wsE t cr co a b)).1 (by omega) (by omega) hv.1
 obtain ⟨b1,b2,b3,b4⟩:=key (wsum P (wsE t cr co a b)).2.1 (by omega) (by omega) hv.2.1
 obtain ⟨c1,c2,c3,c4⟩:=key (wsum P (wsE t cr co a b)).2.2 (by omega) (by omega) hv.2.2
 exact ⟨⟨a1,b1,c1⟩,⟨a2,b2,c2⟩,⟨a3,a4⟩,⟨b3,b4⟩,c3,c4⟩
end Go.Proofs.YtmemofonebphfaaGreat
namespace Go.Proofs.YtmemofonebphfaaGreat
open Go.RowKit Go.Sort
def noEdge (t:List Pt) (cr:List E2):Bool:=cr.any fun e=> !(edgesE t).contains (nrmE e.1 e.2)
def badIx (c:Ctl):Bool:=outE c.points.length (corsN c.tris) || outE c.points.length (c.creases.flatMap fun e=> [e.1,e.2]) || outE c.points.length c.corners
def manyC (c:Ctl):Bool:=manyE c.details c.steps.toNat (3*c.tris.length / 2) || decide (65536 < 4^c.steps.toNat*c.tris.length)
def farC (c:Ctl):Bool:=outR 0 (2097151 / 16^c.steps.toNat) c.points || c.details.any (outR (-2097151) 2097151)
def argC (c:Ctl):Bool:=decide (c.steps < 0) || decide (4 < c.steps) || decide (c.steps < c.details.length)
def errC (c:Ctl):Int:=
 if argC c=true then 1 else if badIx c=true then 14 else if checkP (c.tris.map numT) false≠0 then checkP (c.tris.map numT) false
 else if noEdge c.tris c.creases=true then 13 else if manyC c=true then 2 else if farC c=true then 3 else 0
theorem outE_no {n:Nat} {l:List Int} (h:outE n l=false):∀i∈l,0≤i∧i < n:=fun i hi=>by
 have:=List.any_eq_false.1 h i hi
 simp at this
 omega
theorem outR_no {lo hi:Int} {l:List Pt} (h:outR lo hi l=false):∀p∈l,(lo≤p.1∧p.1≤hi)∧(lo≤p.2.1∧p.2.1≤hi)∧lo≤p.2.2∧p.2.2≤hi:=fun p hp=>by
 have:=List.any_eq_false.1 h p hp
 simp at this
 omega
theorem edgesE_sorted (t:List Pt):(edgesE t).Pairwise (fun a b=>leO ltE2 a b=true):=tot_E2.sorted _
structure RightC (c:Ctl):Prop where
 st:0≤c.steps∧c.steps≤4
 det:(c.details.length:Int)≤c.steps
 idx:∀x∈c.tris,(0≤x.1∧x.1 < (c.points.length:Int))∧(0≤x.2.1∧x.2.1 < (c.points.length:Int))∧0≤x.2.2∧x.2.2 < (c.points.length:Int)
 cor:∀i∈c.corners,0≤i∧i < (c.points.length:Int)
 chk:checkP (c.tris.map numT) false=0
 cre:∀e∈c.creases,nrmE e.1 e.2∈edgesE c.tris
 many:manyE c.details c.steps.toNat (3*c.tris.length / 2)=false
 tri:4^c.steps.toNat*c.tris.length≤65536
 rng:outR 0 (2097151 / 16^c.steps.toNat) c.points=false
 drng:∀d∈c.details,outR (-2097151) 2097151 d=false
theorem noEdge_no {t:List Pt} {cr:List E2}:noEdge t cr=false ↔∀e∈cr,nrmE e.1 e.2∈edgesE t:=by
 unfold noEdge
 rw [List.any_eq_false]
 refine forall_congr' fun e=>forall_congr' fun _=> ?_
 simp
theorem right_iff {c:Ctl}:errC c=0 ↔ argC c=false∧badIx c=false∧checkP (c.tris.map numT) false=0∧noEdge c.tris c.creases=false∧manyC c=false∧farC c=false:=by
 unfold errC
 by_cases h1:argC c=true
 ·rw [if_pos h1];simp [h1]
 rw [if_neg h1]
 by_cases h2:badIx c=true
 ·rw [if_pos h2];simp [h2]
 rw [if_neg h2]
 by_cases h3:checkP (c.tris.map numT) false=0
 ·rw [if_neg (fun h=>h h3)]
  by_cases h4:noEdge c.tris c.creases=true
  ·rw [if_pos h4];simp [h4]
  rw [if_neg h4]
  by_cases h5:manyC c=true
  ·rw [if_pos h5];simp [h5]
  rw [if_neg h5]
  by_cases h6:farC c=true
  ·rw [if_pos h6];simp [h6]
  rw [if_neg h6]
  simp only [Bool.not_eq_true] at h1 h2 h4 h5 h6
  simp [h1,h2,h3,h4,h5,h6]
 ·rw [if_pos h3];simp [h3]
theorem right_of {c:Ctl} (h:errC c=0):RightC c:=by
 obtain ⟨h1,h2,h3,h4,h5,h6⟩:=right_iff.1 h
 unfold argC at h1
 unfold badIx at h2
 unfold manyC at h5
 unfold farC at h6
 simp only [Bool.or_eq_false_iff,decide_eq_false_iff_not] at h1 h2 h5 h6
 have hi:=outE_no h2.1.1
 refine ⟨by omega,by omega,fun x hx=> ?_,outE_no h2.2,h3,noEdge_no.1 h4,h5.1,by omega,h6.1,fun d hd=>by simpa using List.any_eq_false.1 h6.2 d hd⟩
 have hm:∀i∈corN3 x,i∈corsN c.tris:=fun i hi=>List.mem_flatMap.2 ⟨x,hx,hi⟩
 exact ⟨hi _ (hm _ (by simp [corN3])),hi _ (hm _ (by simp [corN3])),hi _ (hm _ (by simp [corN3]))⟩
def NoBack (t:List Pt):Prop:=∀x∈t,∀y∈t,¬∀e∈de3 x,swE e∈de3 y
structure LvR (L:Lev):Prop where
 cls:Cls3 L.t L.p.length
 calm:calmN L.t
 crE:∀e∈L.cr,e∈edgesE L.t
 crS:L.cr.Pairwise (fun a b=>leO ltE2 a b=true)
 crN:L.cr.Nodup
theorem setE_mem {l:List E2} {e:E2}:e∈setE l ↔∃f∈l,e=nrmE f.1 f.2:=by
 unfold setE
 rw [sortO_mem,dedup_mem,List.mem_map]
 exact exists_congr fun f=>and_congr_right fun _=>eq_comm
theorem setE_sorted (l:List E2):(setE l).Pairwise (fun a b=>leO ltE2 a b=true):=tot_E2.sorted _
theorem setE_nodup (l:List E2):(setE l).Nodup:=(sortO_perm _).nodup_iff.2 (dedup_nodup _)
theorem RightC.lev {c:Ctl} (h:RightC c) (hb:NoBack c.tris):LvR c.begin where
 cls:=by
  have e:c.begin.p.length=c.points.length:=List.length_map _
  rw [e]
  exact cls_of_check h.chk h.idx hb
 calm:=(check_num.1 h.chk).2.2.2
 crE e he:=by
  obtain ⟨f,hf,rfl⟩:=setE_mem.1 he
  exact h.cre f hf
 crS:=setE_sorted _
 crN:=setE_nodup _
theorem stepT_len (m:Int→Int→Int) (t:List Pt):(stepT m t).length=4*t.length:=by
 unfold stepT
 induction t with
 | nil=>rfl
 | cons x t ih=>rw [List.flatMap_cons,List.length_append,ih,List.length_cons];show 4+_=_;omega
theorem detE_len (a d:List Pt) (n:Int):(detE a d n).length=a.length:=List.length_mapIdx
theorem rules_len (L:Lev) (co:List Int):(L.rules co).length=(edgesE L.t).length:=List.length_map _
theorem LvR.step {L:Lev} (h:LvR L) {added:List Pt} (ha:added.length=(edgesE L.t).length):LvR (L.step added):=by
 have hm:=h.cls.mid
 have el:((L.step added).p.length:Int)=L.p.length+(edgesE L.t).length:=by
  show ((L.p++added).length:Int)=_
  rw [List.length_append,ha]
  omega
 refine ⟨?_,h.cls.calm_step hm h.calm,fun e he=> ?_,setE_sorted _,setE_nodup _⟩
 ·rw [el];exact h.cls.step hm
 ·obtain ⟨f,hf,rfl⟩:=setE_mem.1 he
  obtain ⟨g,hg,hf⟩:=List.mem_flatMap.1 hf
  obtain ⟨hd,hlt⟩:=mem_edgesE.1 (h.crE g hg)
  obtain ⟨a,b⟩:=g
  have hds:=h.cls.clos _ hd
  have l1:=hm.low _ hd
  have hi:a < L.p.length∧b < L.p.length:=by
   obtain ⟨x,hx,hx2⟩:=mem_dirE.1 hd
   have:=h.cls.idx x hx
   obtain ⟨x1,x2,x3⟩:=x
   simp only [mem_de3,Prod.mk.injEq] at hx2
   dsimp only at this
   omega
  simp only at hf l1
  rw [List.mem_cons,List.mem_singleton] at hf
  have key:∀u v:Int,(u,v)∈dirE L.t→u < L.p.length→(L.p.length:Int)≤midE L.t L.p.length u v→nrmE u (midE L.t L.p.length u v)∈edgesE (stepT (midE L.t L.p.length) L.t):=fun u v huv hu hl=>by
   rw [nrmE_up (by omega)]
   obtain ⟨x,hx,hx2⟩:=mem_dirE.1 huv
   exact mem_edgesE.2 ⟨mem_stepE.2 ⟨x,hx, .inl (mem_halves.2 ⟨_,hx2, .inl rfl⟩)⟩,by show u < _;omega⟩
  rcases hf with rfl | rfl
  ·exact key a b hd hi.1 l1.1
  ·have hs:=hm.sym a b
   show nrmE b (midE L.t L.p.length a b)∈_
   rw [hs]
   exact key b a hds hi.2 (by rw [←hs];exact l1.1)
theorem Ctl.level_right {c:Ctl} (h:RightC c) (hb:NoBack c.tris):∀k,LvR (c.level k)
 | 0=>h.lev hb
 | k+1=>(Ctl.level_right h hb k).step (by rw [detE_len,rules_len])
theorem Ctl.level_t (c:Ctl):∀k,(c.level k).t.length=4^k*c.tris.length
 | 0=>by simp [Ctl.level,Ctl.begin]
 | k+1=>by
  show (stepT _ _).length=_
  rw [stepT_len,Ctl.level_t c k,Nat.pow_succ,←Nat.mul_assoc,Nat.mul_comm 4]
theorem Ctl.level_p (c:Ctl) (k:Nat):(c.level (k+1)).p.length=(c.level k).p.length+(edgesE (c.level k).t).length:=by
 show ((c.level k).p++detE _ _ _).length=_
 rw [List.length_append,detE_len,rules_len]
end Go.Proofs.YtmemofonebphfaaGreat
namespace Go.Proofs.YtmemofonebphfaaGreat
open Go.RowKit Go.Sort
set_option maxRecDepth 100000 in
set_option maxHeartbeats 8000000 in
theorem quad_any (a b c d:Pt) (w:World):Calls Tryz.prog 121 #[vP a,vP b,vP c,vP d] w fun e w'=>∃v,e= .returned v∧Own encT 9 46 w' w.heap.size v 2 (quadP a b c d)∧Below w.heap.size w w':=by
 obtain ⟨a1,a2,a3⟩:=a
 obtain ⟨b1,b2,b3⟩:=b
 obtain ⟨c1,c2,c3⟩:=c
 obtain ⟨d1,d2,d3⟩:=d
 go_enter Tryz.func121,Tryz.ntmps121
 go_wp2
 go_ret
 refine ⟨.slice (some ⟨w.heap.size+1+1+1+1,0,none⟩) 2 2,rfl,own_lits' encT_len 46 (quadP (a1,a2,a3) (b1,b2,b3) (c1,c2,c3) (d1,d2,d3)) (by simp) (by omega) (show 2≤4294967296 by omega),?_⟩
 exact Below.alloc (Below.alloc (Below.alloc (Below.alloc (Below.alloc (Below.refl _ w) (Nat.le_refl _) _) (by simp) _) (by simp;omega) _) (by simp;omega) _) (by simp;omega) _
end Go.Proofs.YtmemofonebphfaaGreat
namespace Go.Proofs.YtmemofonebphfaaGreat
open Go.RowKit Go.Sort
def encE2 (e:E2):List Value:= [.int .i64 e.1, .int .i64 e.2]
theorem encE2_len (e:E2):(encE2 e).length=2:=rfl
theorem encE2_one (e:E2):∀u∈encE2 e,u.oneCell'=true:=by
 intro u hu
 simp only [encE2,List.mem_cons,List.not_mem_nil,or_false] at hu
 rcases hu with rfl | rfl <;>rfl
abbrev vE2 (e:E2):Value:= .agg #[.int .i64 e.1, .int .i64 e.2]
def addP (p q:Pt):Pt:=(wrap64 (p.1+q.1),wrap64 (p.2.1+q.2.1),wrap64 (p.2.2+q.2.2))
set_option maxRecDepth 100000 in
theorem plus9_any (p q:Pt) (w:World):Calls Tryz.prog 22 #[vP p,vP q] w fun e w'=>e= .returned (vP (addP p q))∧Below w.heap.size w w':=by
 obtain ⟨p1,p2,p3⟩:=p
 obtain ⟨q1,q2,q3⟩:=q
 go_enter Tryz.func22,Tryz.ntmps22
 go_upto_region 1 with fail
 obtain ⟨g0,hg0⟩:∃g,g=w.heap.size:=⟨_,rfl⟩
 obtain ⟨g1,hg1⟩:∃g,g=w.heap.size+1:=⟨_,rfl⟩
 obtain ⟨g2,hg2⟩:∃g,g=w.heap.size+1+1:=⟨_,rfl⟩
 obtain ⟨X,hX⟩:∃X,X=(((w.alloc (.cells #[.int .i64 p1, .int .i64 p2, .int .i64 p3] 43)).alloc (.cells #[.int .i64 q1, .int .i64 q2, .int .i64 q3] 43)).alloc (.cells #[.int .i64 0, .int .i64 0, .int .i64 0] 43)):=⟨_,rfl⟩
 have hb0:Blk X g0 43 #[.int .i64 p1, .int .i64 p2, .int .i64 p3]:=by rw [hX,hg0];exact (((Blk.new _ _ _).alloc _).alloc _)
 have hb1:Blk X g1 43 #[.int .i64 q1, .int .i64 q2, .int .i64 q3]:=by rw [hX,hg1];exact ((Blk.new' _ _ _ _ (by simp)).alloc _)
 have hb2:Blk X g2 43 #[.int .i64 0, .int .i64 0, .int .i64 0]:=by rw [hX,hg2];exact (Blk.new' _ _ _ _ (by simp))
 have hB:Below w.heap.size w X:=by rw [hX];exact ((((Below.refl _ w).alloc (Nat.le_refl _) _).alloc (by simp;try omega) _).alloc (by simp;try omega) _)
 have hgw:w.heap.size≤g2:=by omega
 rw [←hX,←hg2,←hg1,←hg0]
 have c00:X.cell? ⟨g0,0,none⟩=some (.int .i64 p1):=hb0.cell 0
 have c01:X.cell? ⟨g0,1,none⟩=some (.int .i64 p2):=hb0.cell 1
 have c02:X.cell? ⟨g0,2,none⟩=some (.int .i64 p3):=hb0.cell 2
 have c10:X.cell? ⟨g1,0,none⟩=some (.int .i64 q1):=hb1.cell 0
 have c11:X.cell? ⟨g1,1,none⟩=some (.int .i64 q2):=hb1.cell 1
 have c12:X.cell? ⟨g1,2,none⟩=some (.int .i64 q3):=hb1.cell 2
 have c20:X.cell? ⟨g2,0,none⟩=some (.int .i64 0):=hb2.cell 0
 have c21:X.cell? ⟨g2,1,none⟩=some (.int .i64 0):=hb2.cell 1
 have c22:X.cell? ⟨g2,2,none⟩=some (.int .i64 0):=hb2.cell 2
 have l0:=hb0.lt
 have l1:=hb1.lt
 have l2:=hb2.lt
 have f0:=hb2.frozen 0
 have f1:=hb2.frozen 1
 have f2:=hb2.frozen 2
 have HX:=hide (And.intro hb2 (And.intro hB hgw))
 clear hX hB hgw hg0 hg1 hg2 hb0 hb1 hb2
 go_wp2
 refine ret_at (v:=vP (addP (p1,p2,p3) (q1,q2,q3))) (fun W=>Blk W g2 43 #[.int .i64 (wrap64 (p1+q1)), .int .i64 (wrap64 (p2+q2)), .int .i64 (wrap64 (p3+q3))]) ?_ (fun W hW=> ?_) rfl ⟨rfl,?_⟩
 ·exact HX.out.1.set3 _ _ _
 ·obtain ⟨a0,a1,a2⟩:=hW.three
  simp [results,Tryz.results22,go_sem,a0,a1,a2]
  trivial
 ·exact ((HX.out.2.1.setCell (p:=⟨g2,0,none⟩) HX.out.2.2 _).setCell (p:=⟨g2,1,none⟩) HX.out.2.2 _).setCell (p:=⟨g2,2,none⟩) HX.out.2.2 _
set_option maxRecDepth 100000 in
theorem power_any (n:Nat) (hn:n≤4) (w:World):Calls Tryz.prog 39 #[.int .i64 n] w fun e w'=>e= .returned (.int .i64 (16^n))∧w'=w:=by
 go_enter Tryz.func39,Tryz.ntmps39
 have hc:n=0∨n=1∨n=2∨n=3∨n=4:=by omega
 rcases hc with rfl | rfl | rfl | rfl | rfl
 all_goals
  go_wp2
  go_ret
  exact ⟨rfl,rfl⟩
set_option maxRecDepth 100000 in
theorem before_any (a b:E2) (w:World):Calls Tryz.prog 82 #[vE2 a,vE2 b] w fun e w'=>e= .returned (.bool (ltE2 a b))∧Below w.heap.size w w':=by
 obtain ⟨a1,a2⟩:=a
 obtain ⟨b1,b2⟩:=b
 have hr:ltE2 (a1,a2) (b1,b2)=(decide (a1 < b1) || (decide (a1=b1) && decide (a2 < b2))):=rfl
 rw [hr]
 clear hr
 go_enter Tryz.func82,Tryz.ntmps82
 go_upto_region 1 with fail
 have hB:Below w.heap.size w ((w.alloc (.cells #[.int .i64 a1, .int .i64 a2] 56)).alloc (.cells #[.int .i64 b1, .int .i64 b2] 56)):=((Below.refl _ w).alloc (Nat.le_refl _) _).alloc (by simp) _
 have HB:=hide hB
 clear hB
 by_cases h1:a1 < b1
 ·go_wp2
  go_ret
  exact ⟨by simp [h1],HB.out⟩
 ·by_cases h2:a1=b1
  ·subst h2
   go_wp2
   go_ret
   exact ⟨by simp,HB.out⟩
  ·go_wp2
   go_ret
   exact ⟨by simp [h1],HB.out⟩
end Go.Proofs.YtmemofonebphfaaGreat
namespace Go.Proofs.YtmemofonebphfaaGreat
open Go.RowKit Go.Sort
def encN3 (p:Pt):List Value:= [.int .i64 p.1, .int .i64 p.2.1, .int .i64 p.2.2]
theorem encN3_len (p:Pt):(encN3 p).length=3:=rfl
theorem encN3_one (p:Pt):∀u∈encN3 p,u.oneCell'=true:=by
 intro u hu
 simp only [encN3,List.mem_cons,List.not_mem_nil,or_false] at hu
 rcases hu with rfl | rfl | rfl <;>rfl
theorem Sl.n3 {w:World} {B:Nat} {A:Option Addr} {t:List Pt} (h:Sl encN3 3 w B A t) {i:Nat} {x:Pt} (hx:t[i]? =some x):
  ∃b o,A=some ⟨b,o,none⟩∧b < B∧w.cell? ⟨b,o+i*3,none⟩=some (.int .i64 x.1)∧w.cell? ⟨b,o+i*3+1,none⟩=some (.int .i64 x.2.1)∧w.cell? ⟨b,o+i*3+2,none⟩=some (.int .i64 x.2.2):=by
 obtain ⟨b,o,hA,hb,hc⟩:=h.at hx
 exact ⟨b,o,hA,hb,hc 0 _ rfl,hc 1 _ rfl,hc 2 _ rfl⟩
end Go.Proofs.YtmemofonebphfaaGreat
namespace Go.Proofs.YtmemofonebphfaaGreat
open Go.RowKit Go.Sort
def renT (f:Pt→Pt) (t:Tri):Tri:=(f t.1,f t.2.1,f t.2.2)
theorem trip_ren (f:Pt→Pt) (l:List Tri):tripP (l.map (renT f))=(tripP l).map (renT f):=by
 unfold tripP
 induction l with
 | nil=>rfl
 | cons x t ih=>rw [List.map_cons,List.flatMap_cons,ih,List.flatMap_cons,List.map_append];rfl
theorem edges_ren (f:Pt→Pt) (l:List Tri):edgesP (l.map (renT f))=(edgesP l).map fun e=>(f e.1,f e.2):=by
 unfold edgesP
 induction l with
 | nil=>rfl
 | cons x t ih=>rw [List.map_cons,List.flatMap_cons,ih,List.flatMap_cons,List.map_append];rfl
theorem cors_ren (f:Pt→Pt) (l:List Tri):corsP (l.map (renT f))=(corsP l).map f:=by
 unfold corsP
 induction l with
 | nil=>rfl
 | cons x t ih=>rw [List.map_cons,List.flatMap_cons,ih,List.flatMap_cons,List.map_append];rfl
theorem trip_cors {l:List Tri} {p q x:Pt} (h:(p,q,x)∈tripP l):p∈corsP l∧q∈corsP l∧x∈corsP l:=by
 have h2:=trip_cyc h
 have h3:=trip_cyc h2
 rw [cors_trip]
 exact ⟨List.mem_map.2 ⟨_,h,rfl⟩,List.mem_map.2 ⟨_,h2,rfl⟩,List.mem_map.2 ⟨_,h3,rfl⟩⟩
theorem edge_cors2 {l:List Tri} {e:Ed} (h:e∈edgesP l):e.1∈corsP l∧e.2∈corsP l:=by
 rw [edges_trip] at h
 obtain ⟨⟨p,q,x⟩,h2,rfl⟩:=List.mem_map.1 h
 have:=trip_cors h2
 exact ⟨this.1,this.2.1⟩
theorem nodup_map_on {α β:Type} {f:α→β}:∀{l:List α},(∀a∈l,∀b∈l,f a=f b→a=b)→l.Nodup→(l.map f).Nodup
 | [],_,_=> .nil
 | x::l,h,hn=>by
  rw [List.nodup_cons] at hn
  rw [List.map_cons,List.nodup_cons]
  refine ⟨fun hm=> ?_,nodup_map_on (fun a ha b hb=>h a (by simp [ha]) b (by simp [hb])) hn.2⟩
  obtain ⟨y,hy,e⟩:=List.mem_map.1 hm
  have:=h y (by simp [hy]) x (by simp) e
  subst this
  exact hn.1 hy
section
variable {l:List Tri} {f:Pt→Pt} (hf:∀p∈corsP l,∀q∈corsP l,f p=f q→p=q)
include hf
theorem ren_edge_inj {d e:Ed} (hd:d∈edgesP l) (he:e∈edgesP l) (h:(f d.1,f d.2)=(f e.1,f e.2)):d=e:=by
 simp only [Prod.mk.injEq] at h
 have h1:=edge_cors2 hd
 have h2:=edge_cors2 he
 exact Prod.ext (hf _ h1.1 _ h2.1 h.1) (hf _ h1.2 _ h2.2 h.2)
theorem ren_nodup:(edgesP (l.map (renT f))).Nodup ↔ (edgesP l).Nodup:=by
 rw [edges_ren]
 exact ⟨nodup_of_map,nodup_map_on fun a ha b hb h=>ren_edge_inj hf ha hb h⟩
theorem ren_flat:(l.map (renT f)).any flatT=l.any flatT:=by
 rw [flat_trip,flat_trip,trip_ren,List.any_map,Bool.eq_iff_iff,List.any_eq_true,List.any_eq_true]
 refine exists_congr fun u=>and_congr_right fun hu=> ?_
 obtain ⟨p,q,x⟩:=u
 have:=trip_cors hu
 show decide (f p=f q)=true ↔ decide (p=q)=true
 rw [decide_eq_true_eq,decide_eq_true_eq]
 exact ⟨fun h=>hf _ this.1 _ this.2.1 h,fun h=>by rw [h]⟩
theorem ren_border:borderP (l.map (renT f))= [] ↔ borderP l= []:=by
 constructor
 ·intro h
  refine List.eq_nil_iff_forall_not_mem.2 fun E hE=> ?_
  obtain ⟨h1,h2⟩:=((border_both l).2 E).1 hE
  have:=closed_swap h (f E.1,f E.2) (by rw [edges_ren];exact List.mem_map.2 ⟨E,h1,rfl⟩)
  rw [edges_ren] at this
  obtain ⟨d,hd,e⟩:=List.mem_map.1 this
  have c1:=edge_cors2 h1
  have c2:=edge_cors2 hd
  simp only [swapE,Prod.mk.injEq] at e
  have:d=swapE E:=Prod.ext (hf _ c2.1 _ c1.2 e.1) (hf _ c2.2 _ c1.1 e.2)
  exact h2 (this▸hd)
 ·intro h
  refine List.eq_nil_iff_forall_not_mem.2 fun E hE=> ?_
  obtain ⟨h1,h2⟩:=((border_both _).2 E).1 hE
  rw [edges_ren] at h1 h2
  obtain ⟨d,hd,rfl⟩:=List.mem_map.1 h1
  exact h2 (List.mem_map.2 ⟨swapE d,closed_swap h _ hd,rfl⟩)
theorem ren_behP (hn:(edgesP l).Nodup) {p q:Pt} (hp:p∈corsP l) (hq:q∈corsP l):behP (l.map (renT f)) (f p) (f q)=(behP l p q).map f:=by
 have hn':=(ren_nodup hf).2 hn
 cases hb:behP l p q with
 | some x=>
  refine (behP_iff hn').2 ?_
  rw [trip_ren]
  exact List.mem_map.2 ⟨_,(behP_iff hn).1 hb,rfl⟩
 | none=>
  cases hc:behP (l.map (renT f)) (f p) (f q) with
  | none=>rfl
  | some y=>
   have:=(behP_iff hn').1 hc
   rw [trip_ren] at this
   obtain ⟨⟨p',q',x'⟩,hm,e⟩:=List.mem_map.1 this
   simp only [renT,Prod.mk.injEq] at e
   have hk:=trip_cors hm
   obtain rfl:=hf _ hk.1 _ hp e.1
   obtain rfl:=hf _ hk.2.1 _ hq e.2.1
   rw [(behP_iff hn).2 hm] at hb
   cases hb
omit hf in
theorem iter_cors {p:Pt}:∀(k:Nat) (s y:Pt),s∈corsP l→iterO (behP l p) k s=some y→y∈corsP l
 | 0,s,y,hs,h=>by unfold iterO at h;cases h;exact hs
 | k+1,s,y,hs,h=>by
  unfold iterO at h
  cases hb:behP l p s with
  | none=>rw [hb] at h;cases h
  | some x=>
   rw [hb] at h
   exact iter_cors k x y (trip_cors (behP_of hb)).2.2 h
theorem ren_iter (hn:(edgesP l).Nodup) {p:Pt} (hp:p∈corsP l):∀(k:Nat) (s:Pt),s∈corsP l→iterO (behP (l.map (renT f)) (f p)) k (f s)=(iterO (behP l p) k s).map f
 | 0,s,hs=>rfl
 | k+1,s,hs=>by
  unfold iterO
  rw [ren_behP hf hn hp hs]
  cases hb:behP l p s with
  | none=>rfl
  | some x=>exact ren_iter hn hp k x (trip_cors (behP_of hb)).2.2
theorem ren_cnt {p:Pt} (hp:p∈corsP l):cntC (l.map (renT f)) (f p)=cntC l p:=by
 rw [cntC_count,cntC_count,cors_ren]
 exact count_map_inj _ _ fun b hb e=>hf _ hb _ hp e
theorem ren_calm (hn:(edgesP l).Nodup):calmP (l.map (renT f)) ↔ calmP l:=by
 constructor
 ·intro h p s k hk hi
  obtain ⟨j,rfl⟩:∃j,k=j+1:=⟨k - 1,by omega⟩
  have h0:=hi
  unfold iterO at h0
  cases hb:behP l p s with
  | none=>rw [hb] at h0;cases h0
  | some x=>
   have hc:=trip_cors (behP_of hb)
   have:=h (f p) (f s) (j+1) hk (by rw [ren_iter hf hn hc.1 _ _ hc.2.1,hi];rfl)
   rw [ren_cnt hf hc.1] at this
   exact this
 ·intro h P S k hk hi
  obtain ⟨j,rfl⟩:∃j,k=j+1:=⟨k - 1,by omega⟩
  have h0:=hi
  unfold iterO at h0
  cases hb:behP (l.map (renT f)) P S with
  | none=>rw [hb] at h0;cases h0
  | some X=>
   have hm:=behP_of hb
   rw [trip_ren] at hm
   obtain ⟨⟨p,s,x⟩,hm2,e⟩:=List.mem_map.1 hm
   simp only [renT,Prod.mk.injEq] at e
   obtain ⟨rfl,rfl,_⟩:=e
   have hc:=trip_cors hm2
   rw [ren_iter hf hn hc.1 _ _ hc.2.1] at hi
   cases hi2:iterO (behP l p) (j+1) s with
   | none=>rw [hi2] at hi;cases hi
   | some y=>
    rw [hi2] at hi
    have hy:=iter_cors (j+1) s y hc.2.1 hi2
    have:y=s:=hf _ hy _ hc.2.1 (Option.some.inj hi)
    subst this
    rw [ren_cnt hf hc.1]
    exact h p y (j+1) hk hi2
theorem check_ren:checkP (l.map (renT f)) false=0 ↔ checkP l false=0:=by
 rw [check_iff,check_iff,ren_flat hf,ren_nodup hf,ren_border hf]
 constructor
 ·rintro ⟨h1,h2,h3,h4⟩;exact ⟨h1,h2,h3,(ren_calm hf h2).1 h4⟩
 ·rintro ⟨h1,h2,h3,h4⟩;exact ⟨h1,h2,h3,(ren_calm hf h2).2 h4⟩
end
end Go.Proofs.YtmemofonebphfaaGreat
namespace Go.Proofs.YtmemofonebphfaaGreat
open Go.RowKit Go.Sort
def sideG (n f:Nat):List Tri:=sideP (cor8 (voxC (0,0,0) 1 n) 1) f
def memE (e:Ed) (l:List Ed):Bool:=l.any fun x=>decide (x=e)
theorem memE_iff {e:Ed} {l:List Ed}:memE e l=true ↔ e∈l:=by unfold memE;rw [List.any_eq_true];simp
theorem mem_voxP {b:Nat→Bool} {o:Pt} {s:Int} {n f:Nat} (hn:n < 27) (hf:f < 6) (hb:b n=true) (ho:openV b n f=true) {t:Tri} (ht:t∈sideP (cor8 (voxC o s n) s) f):t∈voxP b o s:=by
 unfold voxP voxL
 refine List.mem_flatMap.2 ⟨n,List.mem_range.2 hn,?_⟩
 unfold voxM
 rw [if_pos hb]
 exact List.mem_flatMap.2 ⟨f,List.mem_range.2 hf,by rw [if_pos ho];exact ht⟩
theorem vox_range {o:Pt} {s:Int} {B:Int} (hs0:0≤s) (h1: -B≤o.1∧o.1+3*s≤B) (h2: -B≤o.2.1∧o.2.1+3*s≤B) (h3: -B≤o.2.2∧o.2.2+3*s≤B) {n:Nat} (hn:n < 27) {m:Nat} (hm:m < 8):
  (-B≤(cor8 (voxC o s n) s m).1∧(cor8 (voxC o s n) s m).1≤B)∧(-B≤(cor8 (voxC o s n) s m).2.1∧(cor8 (voxC o s n) s m).2.1≤B)∧(-B≤(cor8 (voxC o s n) s m).2.2∧(cor8 (voxC o s n) s m).2.2≤B):=by
 have key:∀(a:Int) (i j:Nat),i≤2→j≤1→ -B≤a→a+3*s≤B→ -B≤a+(i:Int)*s+(j:Int)*s∧a+(i:Int)*s+(j:Int)*s≤B:=fun a i j hi hj h1 h2=>by
  have h3:i=0∨i=1∨i=2:=by omega
  have h4:j=0∨j=1:=by omega
  rcases h3 with rfl | rfl | rfl <;>rcases h4 with rfl | rfl <;>constructor <;>simp <;>omega
 exact ⟨key _ _ _ (by omega) (by omega) h1.1 h1.2,key _ _ _ (by omega) (by omega) h2.1 h2.2,key _ _ _ (by omega) (by omega) h3.1 h3.2⟩
end Go.Proofs.YtmemofonebphfaaGreat
namespace Go.Proofs.YtmemofonebphfaaGreat
open Go.RowKit Go.Sort
def crn (p:Pt) (s:Int) (k i:Nat):Pt:=if i < k then cor8 p s i else (0,0,0)
def crnA (p:Pt) (s:Int) (k:Nat):Array Value:=([0,1,2,3,4,5,6,7].flatMap fun i=>encP (crn p s k i)).toArray
theorem crnA_zero (p:Pt) (s:Int):crnA p s 0=#[.int .i64 0, .int .i64 0, .int .i64 0, .int .i64 0, .int .i64 0, .int .i64 0, .int .i64 0, .int .i64 0, .int .i64 0, .int .i64 0, .int .i64 0, .int .i64 0, .int .i64 0, .int .i64 0, .int .i64 0, .int .i64 0, .int .i64 0, .int .i64 0, .int .i64 0, .int .i64 0, .int .i64 0, .int .i64 0, .int .i64 0, .int .i64 0]:=rfl
def cubeR (p:Pt) (s:Int):Prop:=(fits p.1∧fits (p.1+s))∧(fits p.2.1∧fits (p.2.1+s))∧(fits p.2.2∧fits (p.2.2+s))∧fits s
set_option maxRecDepth 100000 in
set_option maxHeartbeats 32000000 in
theorem cube_any (p:Pt) (s:Int) (w:World) (hr:cubeR p s):Calls Tryz.prog 97 #[vP p, .int .i64 s] w fun e w'=>∃v,e= .returned v∧Own encT 9 46 w' w.heap.size v 12 (cubeP (cor8 p s))∧Below w.heap.size w w':=by
 obtain ⟨x,y,z⟩:=p
 obtain ⟨⟨hx,hx1⟩,⟨hy,hy1⟩,⟨hz,hz1⟩,hs⟩:=hr
 dsimp only at hx hx1 hy hy1 hz hz1
 have x0:IntKind.i64.wrap x=x:=IntWalk.i64_in _ (by unfold fits at hx;omega)
 have x1:IntKind.i64.wrap (x+s)=x+s:=IntWalk.i64_in _ (by unfold fits at hx1;omega)
 have y0:IntKind.i64.wrap y=y:=IntWalk.i64_in _ (by unfold fits at hy;omega)
 have y1:IntKind.i64.wrap (y+s)=y+s:=IntWalk.i64_in _ (by unfold fits at hy1;omega)
 have z0:IntKind.i64.wrap z=z:=IntWalk.i64_in _ (by unfold fits at hz;omega)
 have z1:IntKind.i64.wrap (z+s)=z+s:=IntWalk.i64_in _ (by unfold fits at hz1;omega)
 have s0:IntKind.i64.wrap s=s:=IntWalk.i64_in _ (by unfold fits at hs;omega)
 have HW:=hide (And.intro x0 (And.intro x1 (And.intro y0 (And.intro y1 (And.intro z0 (And.intro z1 s0))))))
 clear x0 x1 y0 y1 z0 z1 s0 hx hx1 hy hy1 hz hz1 hs
 go_enter Tryz.func97,Tryz.ntmps97
 go_wp2_with fail
 obtain ⟨pb,hpb⟩:∃b,b=w.heap.size:=⟨_,rfl⟩
 obtain ⟨cb,hcb⟩:∃b,b=w.heap.size+1:=⟨_,rfl⟩
 rw [←hcb]
 obtain ⟨X,hX⟩:∃X,X=(w.alloc (.cells #[.int .i64 x, .int .i64 y, .int .i64 z] 43)).alloc (.cells (crnA (x,y,z) s 0) 165):=⟨_,rfl⟩
 have hX':=hX
 rw [crnA_zero] at hX'
 rw [←hX',←hpb]
 have hbp:Blk X pb 43 #[.int .i64 x, .int .i64 y, .int .i64 z]:=by rw [hX,hpb];exact (Blk.new _ _ _).alloc _
 have hbc:Blk X cb 165 (crnA (x,y,z) s 0):=by rw [hX];exact Blk.new' _ _ _ _ (by rw [hcb];simp)
 have hBX:Below w.heap.size w X:=by rw [hX];exact ((Below.refl _ w).alloc (Nat.le_refl _) _).alloc (by simp) _
 have HX:=hide (And.intro hbp (And.intro hbc (And.intro hBX (And.intro (show w.heap.size≤pb by omega) (And.intro (show w.heap.size≤cb by omega) (show pb≠cb by omega))))))
 clear hbp hbc hBX hX hX' hpb hcb
 go_loopw [6] (fun kv wr=>∃k:Nat,k≤8∧kv= .int .i64 k∧Blk wr pb 43 #[.int .i64 x, .int .i64 y, .int .i64 z]∧Blk wr cb 165 (crnA (x,y,z) s k)∧Below w.heap.size w wr) (fun kv _=>8 - (intOf kv).toNat)
 case atStart=>exact ⟨0,by omega,rfl,HX.out.1,HX.out.2.1,HX.out.2.2.1⟩
 case round=>
  obtain ⟨k,hk,rfl,hbp,hbc,hB⟩:=hrel
  obtain ⟨R,rfl⟩:∃x,x=wr:=⟨_,rfl⟩
  have hlp:=hbp.lt
  have hlc:=hbc.lt
  have p0:R.cell? ⟨pb,0,none⟩=some (.int .i64 x):=hbp.cell 0
  have p1:R.cell? ⟨pb,1,none⟩=some (.int .i64 y):=hbp.cell 1
  have p2:R.cell? ⟨pb,2,none⟩=some (.int .i64 z):=hbp.cell 2
  by_cases hk0:k=0
  ·subst hk0
   have i2:((0:Nat):Int) < 8:=by omega
   have f0:=hbc.frozen 0
   have c0:R.cell? ⟨cb,0,none⟩=some (.int .i64 0):=hbc.cell 0
   have f1:=hbc.frozen 1
   have c1:R.cell? ⟨cb,1,none⟩=some (.int .i64 0):=hbc.cell 1
   have f2:=hbc.frozen 2
   have c2:R.cell? ⟨cb,2,none⟩=some (.int .i64 0):=hbc.cell 2
   have HR:=hide (And.intro hbp (And.intro hbc hB))
   clear hbp hbc hB
   have ⟨x0,x1,y0,y1,z0,z1,s0⟩:=HW.out
   go_wp2
   go_roundw
   case rel=>
    refine ⟨1,by omega,by go_num,?_,?_,?_⟩
    ·exact HR.out.1.far3 (g':=cb) HX.out.2.2.2.2.2 _ _ _
    ·have h8:=((HR.out.2.1.set_ 0 (.int .i64 (x))).set_ 1 (.int .i64 (y))).set_ 2 (.int .i64 (z))
     rw [show (((crnA (x,y,z) s 0).setIfInBounds 0 (.int .i64 (x))).setIfInBounds 1 (.int .i64 (y))).setIfInBounds 2 (.int .i64 (z))=crnA (x,y,z) s 1 by simp [crnA,crn,cor8,encP]] at h8
     exact h8
    ·exact ((HR.out.2.2.setCell (p:=⟨cb,0,none⟩) HX.out.2.2.2.2.1 _).setCell (p:=⟨cb,1,none⟩) HX.out.2.2.2.2.1 _).setCell (p:=⟨cb,2,none⟩) HX.out.2.2.2.2.1 _
   case measure=>(simp [intOf];try omega)
  by_cases hk1:k=1
  ·subst hk1
   have i2:((1:Nat):Int) < 8:=by omega
   have f0:=hbc.frozen 3
   have c0:R.cell? ⟨cb,3,none⟩=some (.int .i64 0):=hbc.cell 3
   have f1:=hbc.frozen 4
   have c1:R.cell? ⟨cb,4,none⟩=some (.int .i64 0):=hbc.cell 4
   have f2:=hbc.frozen 5
   have c2:R.cell? ⟨cb,5,none⟩=some (.int .i64 0):=hbc.cell 5
   have HR:=hide (And.intro hbp (And.intro hbc hB))
   clear hbp hbc hB
   have ⟨x0,x1,y0,y1,z0,z1,s0⟩:=HW.out
   go_wp2
   go_roundw
   case rel=>
    refine ⟨2,by omega,by go_num,?_,?_,?_⟩
    ·exact ((HR.out.1.far (p:=⟨cb,3,none⟩) HX.out.2.2.2.2.2 _).far (p:=⟨cb,4,none⟩) HX.out.2.2.2.2.2 _).far (p:=⟨cb,5,none⟩) HX.out.2.2.2.2.2 _
    ·have h8:=((HR.out.2.1.set_ 3 (.int .i64 (x+s))).set_ 4 (.int .i64 (y))).set_ 5 (.int .i64 (z))
     rw [show (((crnA (x,y,z) s 1).setIfInBounds 3 (.int .i64 (x+s))).setIfInBounds 4 (.int .i64 (y))).setIfInBounds 5 (.int .i64 (z))=crnA (x,y,z) s 2 by simp [crnA,crn,cor8,encP]] at h8
     exact h8
    ·exact ((HR.out.2.2.setCell (p:=⟨cb,3,none⟩) HX.out.2.2.2.2.1 _).setCell (p:=⟨cb,4,none⟩) HX.out.2.2.2.2.1 _).setCell (p:=⟨cb,5,none⟩) HX.out.2.2.2.2.1 _
   case measure=>(simp [intOf];try omega)
  by_cases hk2:k=2
  ·subst hk2
   have i2:((2:Nat):Int) < 8:=by omega
   have f0:=hbc.frozen 6
   have c0:R.cell? ⟨cb,6,none⟩=some (.int .i64 0):=hbc.cell 6
   have f1:=hbc.frozen 7
   have c1:R.cell? ⟨cb,7,none⟩=some (.int .i64 0):=hbc.cell 7
   have f2:=hbc.frozen 8
   have c2:R.cell? ⟨cb,8,none⟩=some (.int .i64 0):=hbc.cell 8
   have HR:=hide (And.intro hbp (And.intro hbc hB))
   clear hbp hbc hB
   have ⟨x0,x1,y0,y1,z0,z1,s0⟩:=HW.out
   go_wp2
   go_roundw
   case rel=>
    refine ⟨3,by omega,by go_num,?_,?_,?_⟩
    ·exact ((HR.out.1.far (p:=⟨cb,6,none⟩) HX.out.2.2.2.2.2 _).far (p:=⟨cb,7,none⟩) HX.out.2.2.2.2.2 _).far (p:=⟨cb,8,none⟩) HX.out.2.2.2.2.2 _
    ·have h8:=((HR.out.2.1.set_ 6 (.int .i64 (x))).set_ 7 (.int .i64 (y+s))).set_ 8 (.int .i64 (z))
     rw [show (((crnA (x,y,z) s 2).setIfInBounds 6 (.int .i64 (x))).setIfInBounds 7 (.int .i64 (y+s))).setIfInBounds 8 (.int .i64 (z))=crnA (x,y,z) s 3 by simp [crnA,crn,cor8,encP]] at h8
     exact h8
    ·exact ((HR.out.2.2.setCell (p:=⟨cb,6,none⟩) HX.out.2.2.2.2.1 _).setCell (p:=⟨cb,7,none⟩) HX.out.2.2.2.2.1 _).setCell (p:=⟨cb,8,none⟩) HX.out.2.2.2.2.1 _
   case measure=>(simp [intOf];try omega)
  by_cases hk3:k=3
  ·subst hk3
   have i2:((3:Nat):Int) < 8:=by omega
   have f0:=hbc.frozen 9
   have c0:R.cell? ⟨cb,9,none⟩=some (.int .i64 0):=hbc.cell 9
   have f1:=hbc.frozen 10
   have c1:R.cell? ⟨cb,10,none⟩=some (.int .i64 0):=hbc.cell 10
   have f2:=hbc.frozen 11
   have c2:R.cell? ⟨cb,11,none⟩=some (.int .i64 0):=hbc.cell 11
   have HR:=hide (And.intro hbp (And.intro hbc hB))
   clear hbp hbc hB
   have ⟨x0,x1,y0,y1,z0,z1,s0⟩:=HW.out
   go_wp2
   go_roundw
   case rel=>
    refine ⟨4,by omega,by go_num,?_,?_,?_⟩
    ·exact ((HR.out.1.far (p:=⟨cb,9,none⟩) HX.out.2.2.2.2.2 _).far (p:=⟨cb,10,none⟩) HX.out.2.2.2.2.2 _).far (p:=⟨cb,11,none⟩) HX.out.2.2.2.2.2 _
    ·have h8:=((HR.out.2.1.set_ 9 (.int .i64 (x+s))).set_ 10 (.int .i64 (y+s))).set_ 11 (.int .i64 (z))
     rw [show (((crnA (x,y,z) s 3).setIfInBounds 9 (.int .i64 (x+s))).setIfInBounds 10 (.int .i64 (y+s))).setIfInBounds 11 (.int .i64 (z))=crnA (x,y,z) s 4 by simp [crnA,crn,cor8,encP]] at h8
     exact h8
    ·exact ((HR.out.2.2.setCell (p:=⟨cb,9,none⟩) HX.out.2.2.2.2.1 _).setCell (p:=⟨cb,10,none⟩) HX.out.2.2.2.2.1 _).setCell (p:=⟨cb,11,none⟩) HX.out.2.2.2.2.1 _
   case measure=>(simp [intOf];try omega)
  by_cases hk4:k=4
  ·subst hk4
   have i2:((4:Nat):Int) < 8:=by omega
   have f0:=hbc.frozen 12
   have c0:R.cell? ⟨cb,12,none⟩=some (.int .i64 0):=hbc.cell 12
   have f1:=hbc.frozen 13
   have c1:R.cell? ⟨cb,13,none⟩=some (.int .i64 0):=hbc.cell 13
   have f2:=hbc.frozen 14
   have c2:R.cell? ⟨cb,14,none⟩=some (.int .i64 0):=hbc.cell 14
   have HR:=hide (And.intro hbp (And.intro hbc hB))
   clear hbp hbc hB
   have ⟨x0,x1,y0,y1,z0,z1,s0⟩:=HW.out
   go_wp2
   go_roundw
   case rel=>
    refine ⟨5,by omega,by go_num,?_,?_,?_⟩
    ·exact ((HR.out.1.far (p:=⟨cb,12,none⟩) HX.out.2.2.2.2.2 _).far (p:=⟨cb,13,none⟩) HX.out.2.2.2.2.2 _).far (p:=⟨cb,14,none⟩) HX.out.2.2.2.2.2 _
    ·have h8:=((HR.out.2.1.set_ 12 (.int .i64 (x))).set_ 13 (.int .i64 (y))).set_ 14 (.int .i64 (z+s))
     rw [show (((crnA (x,y,z) s 4).setIfInBounds 12 (.int .i64 (x))).setIfInBounds 13 (.int .i64 (y))).setIfInBounds 14 (.int .i64 (z+s))=crnA (x,y,z) s 5 by simp [crnA,crn,cor8,encP]] at h8
     exact h8
    ·exact ((HR.out.2.2.setCell (p:=⟨cb,12,none⟩) HX.out.2.2.2.2.1 _).setCell (p:=⟨cb,13,none⟩) HX.out.2.2.2.2.1 _).setCell (p:=⟨cb,14,none⟩) HX.out.2.2.2.2.1 _
   case measure=>(simp [intOf];try omega)
  by_cases hk5:k=5
  ·subst hk5
   have i2:((5:Nat):Int) < 8:=by omega
   have f0:=hbc.frozen 15
   have c0:R.cell? ⟨cb,15,none⟩=some (.int .i64 0):=hbc.cell 15
   have f1:=hbc.frozen 16
   have c1:R.cell? ⟨cb,16,none⟩=some (.int .i64 0):=hbc.cell 16
   have f2:=hbc.frozen 17
   have c2:R.cell? ⟨cb,17,none⟩=some (.int .i64 0):=hbc.cell 17
   have HR:=hide (And.intro hbp (And.intro hbc hB))
   clear hbp hbc hB
   have ⟨x0,x1,y0,y1,z0,z1,s0⟩:=HW.out
   go_wp2
   go_roundw
   case rel=>
    refine ⟨6,by omega,by go_num,?_,?_,?_⟩
    ·exact ((HR.out.1.far (p:=⟨cb,15,none⟩) HX.out.2.2.2.2.2 _).far (p:=⟨cb,16,none⟩) HX.out.2.2.2.2.2 _).far (p:=⟨cb,17,none⟩) HX.out.2.2.2.2.2 _
    ·have h8:=((HR.out.2.1.set_ 15 (.int .i64 (x+s))).set_ 16 (.int .i64 (y))).set_ 17 (.int .i64 (z+s))
     rw [show (((crnA (x,y,z) s 5).setIfInBounds 15 (.int .i64 (x+s))).setIfInBounds 16 (.int .i64 (y))).setIfInBounds 17 (.int .i64 (z+s))=crnA (x,y,z) s 6 by simp [crnA,crn,cor8,encP]] at h8
     exact h8
    ·exact ((HR.out.2.2.setCell (p:=⟨cb,15,none⟩) HX.out.2.2.2.2.1 _).setCell (p:=⟨cb,16,none⟩) HX.out.2.2.2.2.1 _).setCell (p:=⟨cb,17,none⟩) HX.out.2.2.2.2.1 _
   case measure=>(simp [intOf];try omega)
  by_cases hk6:k=6
  ·subst hk6
   have i2:((6:Nat):Int) < 8:=by omega
   have f0:=hbc.frozen 18
   have c0:R.cell? ⟨cb,18,none⟩=some (.int .i64 0):=hbc.cell 18
   have f1:=hbc.frozen 19
   have c1:R.cell? ⟨cb,19,none⟩=some (.int .i64 0):=hbc.cell 19
   have f2:=hbc.frozen 20
   have c2:R.cell? ⟨cb,20,none⟩=some (.int .i64 0):=hbc.cell 20
   have HR:=hide (And.intro hbp (And.intro hbc hB))
   clear hbp hbc hB
   have ⟨x0,x1,y0,y1,z0,z1,s0⟩:=HW.out
   go_wp2
   go_roundw
   case rel=>
    refine ⟨7,by omega,by go_num,?_,?_,?_⟩
    ·exact ((HR.out.1.far (p:=⟨cb,18,none⟩) HX.out.2.2.2.2.2 _).far (p:=⟨cb,19,none⟩) HX.out.2.2.2.2.2 _).far (p:=⟨cb,20,none⟩) HX.out.2.2.2.2.2 _
    ·have h8:=((HR.out.2.1.set_ 18 (.int .i64 (x))).set_ 19 (.int .i64 (y+s))).set_ 20 (.int .i64 (z+s))
     rw [show (((crnA (x,y,z) s 6).setIfInBounds 18 (.int .i64 (x))).setIfInBounds 19 (.int .i64 (y+s))).setIfInBounds 20 (.int .i64 (z+s))=crnA (x,y,z) s 7 by simp [crnA,crn,cor8,encP]] at h8
     exact h8
    ·exact ((HR.out.2.2.setCell (p:=⟨cb,18,none⟩) HX.out.2.2.2.2.1 _).setCell (p:=⟨cb,19,none⟩) HX.out.2.2.2.2.1 _).setCell (p:=⟨cb,20,none⟩) HX.out.2.2.2.2.1 _
   case measure=>(simp [intOf];try omega)
  by_cases hk7:k=7
  ·subst hk7
   have i2:((7:Nat):Int) < 8:=by omega
   have f0:=hbc.frozen 21
   have c0:R.cell? ⟨cb,21,none⟩=some (.int .i64 0):=hbc.cell 21
   have f1:=hbc.frozen 22
   have c1:R.cell? ⟨cb,22,none⟩=some (.int .i64 0):=hbc.cell 22
   have f2:=hbc.frozen 23
   have c2:R.cell? ⟨cb,23,none⟩=some (.int .i64 0):=hbc.cell 23
   have HR:=hide (And.intro hbp (And.intro hbc hB))
   clear hbp hbc hB
   have ⟨x0,x1,y0,y1,z0,z1,s0⟩:=HW.out
   go_wp2
   go_roundw
   case rel=>
    refine ⟨8,by omega,by go_num,?_,?_,?_⟩
    ·exact ((HR.out.1.far (p:=⟨cb,21,none⟩) HX.out.2.2.2.2.2 _).far (p:=⟨cb,22,none⟩) HX.out.2.2.2.2.2 _).far (p:=⟨cb,23,none⟩) HX.out.2.2.2.2.2 _
    ·have h8:=((HR.out.2.1.set_ 21 (.int .i64 (x+s))).set_ 22 (.int .i64 (y+s))).set_ 23 (.int .i64 (z+s))
     rw [show (((crnA (x,y,z) s 7).setIfInBounds 21 (.int .i64 (x+s))).setIfInBounds 22 (.int .i64 (y+s))).setIfInBounds 23 (.int .i64 (z+s))=crnA (x,y,z) s 8 by simp [crnA,crn,cor8,encP]] at h8
     exact h8
    ·exact ((HR.out.2.2.setCell (p:=⟨cb,21,none⟩) HX.out.2.2.2.2.1 _).setCell (p:=⟨cb,22,none⟩) HX.out.2.2.2.2.1 _).setCell (p:=⟨cb,23,none⟩) HX.out.2.2.2.2.1 _
   case measure=>(simp [intOf];try omega)
  obtain rfl:k=8:=by omega
  have i2:¬((8:Nat):Int) < 8:=by omega
  have hall:∀W:World,Blk W cb 165 (crnA (x,y,z) s 8)→W.cell? ⟨cb,0,none⟩=some (.int .i64 (cor8 (x,y,z) s 0).1)∧W.cell? ⟨cb,1,none⟩=some (.int .i64 (cor8 (x,y,z) s 0).2.1)∧W.cell? ⟨cb,2,none⟩=some (.int .i64 (cor8 (x,y,z) s 0).2.2)∧W.cell? ⟨cb,3,none⟩=some (.int .i64 (cor8 (x,y,z) s 1).1)∧W.cell? ⟨cb,4,none⟩=some (.int .i64 (cor8 (x,y,z) s 1).2.1)∧W.cell? ⟨cb,5,none⟩=some (.int .i64 (cor8 (x,y,z) s 1).2.2)∧W.cell? ⟨cb,6,none⟩=some (.int .i64 (cor8 (x,y,z) s 2).1)∧W.cell? ⟨cb,7,none⟩=some (.int .i64 (cor8 (x,y,z) s 2).2.1)∧W.cell? ⟨cb,8,none⟩=some (.int .i64 (cor8 (x,y,z) s 2).2.2)∧W.cell? ⟨cb,9,none⟩=some (.int .i64 (cor8 (x,y,z) s 3).1)∧W.cell? ⟨cb,10,none⟩=some (.int .i64 (cor8 (x,y,z) s 3).2.1)∧W.cell? ⟨cb,11,none⟩=some (.int .i64 (cor8 (x,y,z) s 3).2.2)∧W.cell? ⟨cb,12,none⟩=some (.int .i64 (cor8 (x,y,z) s 4).1)∧W.cell? ⟨cb,13,none⟩=some (.int .i64 (cor8 (x,y,z) s 4).2.1)∧W.cell? ⟨cb,14,none⟩=some (.int .i64 (cor8 (x,y,z) s 4).2.2)∧W.cell? ⟨cb,15,none⟩=some (.int .i64 (cor8 (x,y,z) s 5).1)∧W.cell? ⟨cb,16,none⟩=some (.int .i64 (cor8 (x,y,z) s 5).2.1)∧W.cell? ⟨cb,17,none⟩=some (.int .i64 (cor8 (x,y,z) s 5).2.2)∧W.cell? ⟨cb,18,none⟩=some (.int .i64 (cor8 (x,y,z) s 6).1)∧W.cell? ⟨cb,19,none⟩=some (.int .i64 (cor8 (x,y,z) s 6).2.1)∧W.cell? ⟨cb,20,none⟩=some (.int .i64 (cor8 (x,y,z) s 6).2.2)∧W.cell? ⟨cb,21,none⟩=some (.int .i64 (cor8 (x,y,z) s 7).1)∧W.cell? ⟨cb,22,none⟩=some (.int .i64 (cor8 (x,y,z) s 7).2.1)∧W.cell? ⟨cb,23,none⟩=some (.int .i64 (cor8 (x,y,z) s 7).2.2):=fun W h=>⟨h.cell 0,h.cell 1,h.cell 2,h.cell 3,h.cell 4,h.cell 5,h.cell 6,h.cell 7,h.cell 8,h.cell 9,h.cell 10,h.cell 11,h.cell 12,h.cell 13,h.cell 14,h.cell 15,h.cell 16,h.cell 17,h.cell 18,h.cell 19,h.cell 20,h.cell 21,h.cell 22,h.cell 23⟩
  obtain ⟨q0,q1,q2,q3,q4,q5,q6,q7,hq⟩:∃q0 q1 q2 q3 q4 q5 q6 q7:Pt,q0=cor8 (x,y,z) s 0∧q1=cor8 (x,y,z) s 1∧q2=cor8 (x,y,z) s 2∧q3=cor8 (x,y,z) s 3∧q4=cor8 (x,y,z) s 4∧q5=cor8 (x,y,z) s 5∧q6=cor8 (x,y,z) s 6∧q7=cor8 (x,y,z) s 7:=⟨_,_,_,_,_,_,_,_,rfl,rfl,rfl,rfl,rfl,rfl,rfl,rfl⟩
  have hcu:cubeP (cor8 (x,y,z) s)=quadP q0 q2 q3 q1++(quadP q4 q5 q7 q6++(quadP q0 q1 q5 q4++(quadP q2 q6 q7 q3++(quadP q0 q4 q6 q2++quadP q1 q3 q7 q5)))):=by obtain ⟨rfl,rfl,rfl,rfl,rfl,rfl,rfl,rfl⟩:=hq;rfl
  have HCU:=hide hcu
  rw [←hq.1,←hq.2.1,←hq.2.2.1,←hq.2.2.2.1,←hq.2.2.2.2.1,←hq.2.2.2.2.2.1,←hq.2.2.2.2.2.2.1,←hq.2.2.2.2.2.2.2] at hall
  have HA:=hide hall
  clear hall hcu hq p0 p1 p2 hlp
  have HB0:=hide hB
  have H0:=hide (And.intro hbc (Below.refl R.heap.size R))
  have HL:=hide hlc
  clear hbc hB hbp hlc
  obtain ⟨R0,rfl⟩:∃x,x=R:=⟨_,rfl⟩
  have ⟨g0,g1,g2,g3,g4,g5,g6,g7,g8,g9,g10,g11,g12,g13,g14,g15,g16,g17,g18,g19,g20,g21,g22,g23⟩:=HA.out R0 H0.out.1
  go_upto_region 7 with (go_at_call 121;refine (quad_any q0 q2 q3 q1 R0).mono ?_;rintro e u0 ⟨v0,rfl,ho,hB⟩;obtain ⟨A10,c10,rfl⟩:=ho.form;have HC0:=hide (And.intro (H0.out.1.below hB H0.out.1.lt) (And.intro (H0.out.2.trans (hB.mono H0.out.2.size)) (And.intro ho hB)));clear ho hB)
  obtain ⟨R1,rfl⟩:∃x,x=u0:=⟨_,rfl⟩
  have H1:=hide (And.intro HC0.out.1 HC0.out.2.1)
  have K1:=hide (show Own encT 9 46 R1 R0.heap.size (.slice A10 2 c10) 2 (quadP q0 q2 q3 q1) from HC0.out.2.2.1)
  clear HC0 g0 g1 g2 g3 g4 g5 g6 g7 g8 g9 g10 g11 g12 g13 g14 g15 g16 g17 g18 g19 g20 g21 g22 g23
  obtain ⟨B1,d1,hBd⟩:∃B d,B=A10∧d=c10:=⟨_,_,rfl,rfl⟩
  obtain ⟨rfl,rfl⟩:=hBd
  have ⟨g0,g1,g2,g3,g4,g5,g6,g7,g8,g9,g10,g11,g12,g13,g14,g15,g16,g17,g18,g19,g20,g21,g22,g23⟩:=HA.out R1 H1.out.1
  go_upto_region 8 with (first | (at_builtin;refine wpList_appendS rfl _ _ _ rfl Tryz.underlying44 infoT rfl (by omega) encT_len encT_one rfl (K1.out.below HC1.out.2.2.2 (Nat.le_refl _)) A11 c11 u1.heap.size (quadP q4 q5 q7 q6) rfl (HC1.out.2.2.1.sl encT_len (Nat.le_refl _)) (by unfold maxLen;simp [quadP]) (by simp [quadP]) HC1.out.2.1.size ?_;intro w2 R2 hown hg hBa hat;obtain ⟨B2,d2,rfl⟩:=hown.form;have K2:=hide (show Own encT 9 46 R2 R0.heap.size (.slice B2 4 d2) 4 (quadP q0 q2 q3 q1++quadP q4 q5 q7 q6) from hown);have H2:=hide (And.intro (HC1.out.1.below hBa HL.out) (HC1.out.2.1.trans hBa));clear hown hg hBa hat HC1) | (go_at_call 121;refine (quad_any q4 q5 q7 q6 R1).mono ?_;rintro e u1 ⟨v1,rfl,ho,hB⟩;obtain ⟨A11,c11,rfl⟩:=ho.form;have HC1:=hide (And.intro (H1.out.1.below hB H1.out.1.lt) (And.intro (H1.out.2.trans (hB.mono H1.out.2.size)) (And.intro ho hB)));clear ho hB))
  clear g0 g1 g2 g3 g4 g5 g6 g7 g8 g9 g10 g11 g12 g13 g14 g15 g16 g17 g18 g19 g20 g21 g22 g23
  have ⟨g0,g1,g2,g3,g4,g5,g6,g7,g8,g9,g10,g11,g12,g13,g14,g15,g16,g17,g18,g19,g20,g21,g22,g23⟩:=HA.out R2 H2.out.1
  go_upto_region 9 with (first | (at_builtin;refine wpList_appendS rfl _ _ _ rfl Tryz.underlying44 infoT rfl (by omega) encT_len encT_one rfl (K2.out.below HC2.out.2.2.2 (Nat.le_refl _)) A12 c12 u2.heap.size (quadP q0 q1 q5 q4) rfl (HC2.out.2.2.1.sl encT_len (Nat.le_refl _)) (by unfold maxLen;simp [quadP]) (by simp [quadP]) HC2.out.2.1.size ?_;intro w3 R3 hown hg hBa hat;obtain ⟨B3,d3,rfl⟩:=hown.form;have K3:=hide (show Own encT 9 46 R3 R0.heap.size (.slice B3 6 d3) 6 (quadP q0 q2 q3 q1++quadP q4 q5 q7 q6++quadP q0 q1 q5 q4) from hown);have H3:=hide (And.intro (HC2.out.1.below hBa HL.out) (HC2.out.2.1.trans hBa));clear hown hg hBa hat HC2) | (go_at_call 121;refine (quad_any q0 q1 q5 q4 R2).mono ?_;rintro e u2 ⟨v2,rfl,ho,hB⟩;obtain ⟨A12,c12,rfl⟩:=ho.form;have HC2:=hide (And.intro (H2.out.1.below hB H2.out.1.lt) (And.intro (H2.out.2.trans (hB.mono H2.out.2.size)) (And.intro ho hB)));clear ho hB))
  clear g0 g1 g2 g3 g4 g5 g6 g7 g8 g9 g10 g11 g12 g13 g14 g15 g16 g17 g18 g19 g20 g21 g22 g23
  have ⟨g0,g1,g2,g3,g4,g5,g6,g7,g8,g9,g10,g11,g12,g13,g14,g15,g16,g17,g18,g19,g20,g21,g22,g23⟩:=HA.out R3 H3.out.1
  go_upto_region 10 with (first | (at_builtin;refine wpList_appendS rfl _ _ _ rfl Tryz.underlying44 infoT rfl (by omega) encT_len encT_one rfl (K3.out.below HC3.out.2.2.2 (Nat.le_refl _)) A13 c13 u3.heap.size (quadP q2 q6 q7 q3) rfl (HC3.out.2.2.1.sl encT_len (Nat.le_refl _)) (by unfold maxLen;simp [quadP]) (by simp [quadP]) HC3.out.2.1.size ?_;intro w4 R4 hown hg hBa hat;obtain ⟨B4,d4,rfl⟩:=hown.form;have K4:=hide (show Own encT 9 46 R4 R0.heap.size (.slice B4 8 d4) 8 (quadP q0 q2 q3 q1++quadP q4 q5 q7 q6++quadP q0 q1 q5 q4++quadP q2 q6 q7 q3) from hown);have H4:=hide (And.intro (HC3.out.1.below hBa HL.out) (HC3.out.2.1.trans hBa));clear hown hg hBa hat HC3) | (go_at_call 121;refine (quad_any q2 q6 q7 q3 R3).mono ?_;rintro e u3 ⟨v3,rfl,ho,hB⟩;obtain ⟨A13,c13,rfl⟩:=ho.form;have HC3:=hide (And.intro (H3.out.1.below hB H3.out.1.lt) (And.intro (H3.out.2.trans (hB.mono H3.out.2.size)) (And.intro ho hB)));clear ho hB))
  clear g0 g1 g2 g3 g4 g5 g6 g7 g8 g9 g10 g11 g12 g13 g14 g15 g16 g17 g18 g19 g20 g21 g22 g23
  have ⟨g0,g1,g2,g3,g4,g5,g6,g7,g8,g9,g10,g11,g12,g13,g14,g15,g16,g17,g18,g19,g20,g21,g22,g23⟩:=HA.out R4 H4.out.1
  go_upto_region 11 with (first | (at_builtin;refine wpList_appendS rfl _ _ _ rfl Tryz.underlying44 infoT rfl (by omega) encT_len encT_one rfl (K4.out.below HC4.out.2.2.2 (Nat.le_refl _)) A14 c14 u4.heap.size (quadP q0 q4 q6 q2) rfl (HC4.out.2.2.1.sl encT_len (Nat.le_refl _)) (by unfold maxLen;simp [quadP]) (by simp [quadP]) HC4.out.2.1.size ?_;intro w5 R5 hown hg hBa hat;obtain ⟨B5,d5,rfl⟩:=hown.form;have K5:=hide (show Own encT 9 46 R5 R0.heap.size (.slice B5 10 d5) 10 (quadP q0 q2 q3 q1++quadP q4 q5 q7 q6++quadP q0 q1 q5 q4++quadP q2 q6 q7 q3++quadP q0 q4 q6 q2) from hown);have H5:=hide (And.intro (HC4.out.1.below hBa HL.out) (HC4.out.2.1.trans hBa));clear hown hg hBa hat HC4) | (go_at_call 121;refine (quad_any q0 q4 q6 q2 R4).mono ?_;rintro e u4 ⟨v4,rfl,ho,hB⟩;obtain ⟨A14,c14,rfl⟩:=ho.form;have HC4:=hide (And.intro (H4.out.1.below hB H4.out.1.lt) (And.intro (H4.out.2.trans (hB.mono H4.out.2.size)) (And.intro ho hB)));clear ho hB))
  clear g0 g1 g2 g3 g4 g5 g6 g7 g8 g9 g10 g11 g12 g13 g14 g15 g16 g17 g18 g19 g20 g21 g22 g23
  have ⟨g0,g1,g2,g3,g4,g5,g6,g7,g8,g9,g10,g11,g12,g13,g14,g15,g16,g17,g18,g19,g20,g21,g22,g23⟩:=HA.out R5 H5.out.1
  go_wp2_with (first | (at_builtin;refine wpList_appendS rfl _ _ _ rfl Tryz.underlying44 infoT rfl (by omega) encT_len encT_one rfl (K5.out.below HC5.out.2.2.2 (Nat.le_refl _)) A15 c15 u5.heap.size (quadP q1 q3 q7 q5) rfl (HC5.out.2.2.1.sl encT_len (Nat.le_refl _)) (by unfold maxLen;simp [quadP]) (by simp [quadP]) HC5.out.2.1.size ?_;intro w6 R6 hown hg hBa hat;obtain ⟨B6,d6,rfl⟩:=hown.form;have K6:=hide (show Own encT 9 46 R6 R0.heap.size (.slice B6 12 d6) 12 (quadP q0 q2 q3 q1++quadP q4 q5 q7 q6++quadP q0 q1 q5 q4++quadP q2 q6 q7 q3++quadP q0 q4 q6 q2++quadP q1 q3 q7 q5) from hown);have H6:=hide (And.intro (HC5.out.1.below hBa HL.out) (HC5.out.2.1.trans hBa));clear hown hg hBa hat HC5) | (go_at_call 121;refine (quad_any q1 q3 q7 q5 R5).mono ?_;rintro e u5 ⟨v5,rfl,ho,hB⟩;obtain ⟨A15,c15,rfl⟩:=ho.form;have HC5:=hide (And.intro (H5.out.1.below hB H5.out.1.lt) (And.intro (H5.out.2.trans (hB.mono H5.out.2.size)) (And.intro ho hB)));clear ho hB))
  go_ret
  rw [HCU.out]
  exact ⟨_,rfl,K6.out.base_le HB0.out.size,HB0.out.trans (H6.out.2.mono HB0.out.size)⟩
end Go.Proofs.YtmemofonebphfaaGreat
namespace Go.Proofs.YtmemofonebphfaaGreat
open Go.RowKit Go.Sort
def Bk (x y:Pt):Prop:=∀e∈de3 x,swE e∈de3 y
end Go.Proofs.YtmemofonebphfaaGreat
