import Derived.OrdersHeld
import Derived.OrdersIn
import Derived.RangeFuncCalls
import Derived.OwnWalkIn
import Derived.WalkKit
namespace Go.Proofs.YtmemofonebphfaaGreat
section
variable {P:Program} {ops:Array Oper} {Q:Exit→Act→World→Prop} {md:Region.Mode} {S:World→Prop}
def reaches (md:Region.Mode) (ops:Array Oper):Nat→Nat→Nat→Bool
 | 0,_,_=>false
 | f+1,j,i=>match ops[j]? with
  | some o=>o.after.any fun e=>Region.binds md e && (e.on==i || reaches md ops f e.on i)
  | none=>false
def needsS (md:Region.Mode) (ops:Array Oper) (qs:List Nat) (j:Nat):Bool:=qs.any fun i=> !(i==j) && !reaches md ops ops.size j i
def Closed (md:Region.Mode) (ops:Array Oper) (listed:Array Bool):Prop:=
 ∀j oj,ops[j]? =some oj→listed.getD j false=true→∀e∈oj.after,Region.binds md e=true→listed.getD e.on false=true
theorem getD_both' {listed:Array Bool} {i:Nat} (h:listed.getD i true=false):listed.getD i false=false:=by
 rcases Nat.lt_or_ge i listed.size with h' | h'
 ·simp [h'] at h⊢;exact h
 ·simp [Array.getElem?_eq_none h'] at h
theorem reaches_listed {listed:Array Bool} (hc:Closed md ops listed):∀(f j i:Nat),(∀oj,ops[j]? =some oj→∀e∈oj.after,Region.binds md e=true→listed.getD e.on false=true)→
  reaches md ops f j i=true→listed.getD i false=true
 | 0,_,_,_,h=>by simp [reaches] at h
 | f+1,j,i,hj,h=>by
  unfold reaches at h
  cases ho:ops[j]? with
  | none=>simp [ho] at h
  | some o=>
   simp only [ho,Array.any_eq_true',Bool.and_eq_true,Bool.or_eq_true,beq_iff_eq] at h
   obtain ⟨e,he,hb,h⟩:=h
   have hl:=hj o ho e he hb
   rcases h with h | h
   ·rw [←h];exact hl
   ·exact reaches_listed hc f e.on i (fun oj hoj=>hc e.on oj hoj hl) h
theorem Closed.set {listed:Array Bool} {i:Nat} (hc:Closed md ops listed) (hi:i∈Region.ready md ops listed):Closed md ops (listed.setIfInBounds i true):=by
 obtain ⟨_,oi,hoi,hall⟩:=mem_ready.1 hi
 intro j oj hj hl e he hb
 by_cases hij:i=j
 ·subst hij
  have:oj=oi:=Option.some.inj (hj.symm.trans hoi)
  subst this
  exact getD_set_true (hall e he hb)
 ·rw [getD_set_ne false hij] at hl
  exact getD_set_true (hc j oj hj hl e he hb)
def wpAnyM (P:Program) (md:Region.Mode) (ops:Array Oper) (Q:Exit→Act→World→Prop) (S:World→Prop) (qs:List Nat):Nat→Array Bool→Act→World→Prop
 | 0,listed,a,w=>Region.ready md ops listed= []∧Q .normal a w
 | fuel+1,listed,a,w=>
  (Region.ready md ops listed= []→Q .normal a w)∧
  ∀i∈Region.ready md ops listed,wpOp P ops Q i (fun a' w'=>(needsS md ops qs i=true→S w')∧wpAnyM P md ops Q S qs fuel (listed.setIfInBounds i true) a' w') a w
theorem wpAny_of_mixed {qs:List Nat}:∀(fuel:Nat) (listed:Array Bool) (a:Act) (w:World),wpAnyM P md ops Q S qs fuel listed a w→wpAny P md ops Q fuel listed a w
 | 0,_,_,_,h=>h
 | fuel+1,_,_,_,h=>⟨h.1,fun i hi=>wpOp_mono (fun a' w' h'=>wpAny_of_mixed fuel _ a' w' h'.2) (h.2 i hi)⟩
theorem wpAnyM_first {qs:List Nat} {i:Nat} {oi:Oper} {v:Value} (hi:ops[i]? =some oi) (hq:i∈qs) (hsel:∀(j:Nat) (o:Oper) cs b,ops[j]? =some o→o.op≠ .select cs b)
  (hQ:∀c a w,Q (.panic c) (a.put oi.dst v) w→Q (.panic c) a w):
  ∀(fuel:Nat) (listed:Array Bool) (a:Act) (w:World),Closed md ops listed→
   (∀j oj,ops[j]? =some oj→j≠i→listed.getD j true=false→(∀e∈oj.after,Region.binds md e=true→e.on≠i)→oi.apart ops oj=true)→
   i∈Region.ready md ops listed→YieldsIf P ops S oi v a→S w→
   wpAnyM P md ops Q S qs fuel (listed.setIfInBounds i true) (a.put oi.dst v) w→wpAnyM P md ops Q S qs (fuel+1) listed a w:=by
 intro fuel
 induction fuel with
 | zero=>
  intro listed a w _ _ hr hy hS H
  refine ⟨fun h=>(by rw [h] at hr;cases hr),fun j hj=> ?_⟩
  by_cases hji:j=i
  ·subst hji;exact hy.wpOp hi hS ⟨fun _=>hS,H⟩
  ·have:=ready_mono hj hji
   rw [H.1] at this
   cases this
 | succ fuel ih=>
  intro listed a w hcl hfree hr hy hS H
  refine ⟨fun h=>(by rw [h] at hr;cases hr),fun j hj=> ?_⟩
  by_cases hji:j=i
  ·subst hji;exact hy.wpOp hi hS ⟨fun _=>hS,H⟩
  ·have h1:=H.2 j (ready_mono hj hji)
   obtain ⟨hjun,oj,hoj,hall⟩:=mem_ready.1 hj
   have hiun:=(mem_ready.1 hr).1
   have hnot:∀e∈oj.after,Region.binds md e=true→e.on≠i:=fun e he hb heq=>by
    have h1:=hall e he hb
    rw [heq,getD_both' hiun] at h1
    cases h1
   have hneed:needsS md ops qs j=true:=by
    unfold needsS
    rw [List.any_eq_true]
    refine ⟨i,hq,?_⟩
    simp only [Bool.and_eq_true,Bool.not_eq_true',beq_eq_false_iff_ne]
    refine ⟨fun e=>hji e.symm,?_⟩
    cases hre:reaches md ops ops.size j i with
    | false=>rfl
    | true=>
     have:=reaches_listed hcl ops.size j i (fun o' ho' e he hb=>by
      have:o'=oj:=Option.some.inj (ho'.symm.trans hoj)
      subst this
      exact hall e he hb) hre
     rw [getD_both' hiun] at this
     cases this
   have h2:=wpOp_putIf hoj (hfree j oj hoj hji hjun hnot) (fun cs b=>hsel i oi cs b hi) (fun cs b=>hsel j oj cs b hoj) hQ hy h1
   have hfree':∀k ok,ops[k]? =some ok→k≠i→(listed.setIfInBounds j true).getD k true=false→
     (∀e∈ok.after,Region.binds md e=true→e.on≠i)→oi.apart ops ok=true:=fun k ok hk hki hun hno=>by
    refine hfree k ok hk hki ?_ hno
    by_cases hjk:j=k
    ·subst hjk;exact hjun
    ·rw [getD_set_ne true hjk] at hun;exact hun
   refine wpOp_mono (fun a' w' h3=>⟨h3.2.1,ih (listed.setIfInBounds j true) a' w' (hcl.set hj) hfree' (ready_mono hr (Ne.symm hji)) h3.1 (h3.2.1 hneed) ?_⟩) h2
   rw [Array.setIfInBounds_comm _ _ hji]
   exact h3.2.2
def mixB (md:Region.Mode) (ops:Array Oper) (qs:List Nat):List Nat→Array Bool→Bool
 | [],listed=>(Region.ready md ops listed).isEmpty
 | i::r,listed=>(if qs.contains i then (Region.ready md ops listed).contains i && Region.free md ops listed i else decide (Region.ready md ops listed= [i])) && mixB md ops qs r (listed.setIfInBounds i true)
def wpMix (P:Program) (md:Region.Mode) (ops:Array Oper) (Q:Exit→Act→World→Prop) (S:World→Prop) (qs:List Nat):List Nat→Act→World→Prop
 | [],a,w=>Q .normal a w
 | i::r,a,w=>if qs.contains i then S w∧∃o v,ops[i]? =some o∧YieldsIf P ops S o v a∧(∀c a w,Q (.panic c) (a.put o.dst v) w→Q (.panic c) a w)∧wpMix P md ops Q S qs r (a.put o.dst v) w
  else wpOp P ops Q i (fun a' w'=>(needsS md ops qs i=true→S w')∧wpMix P md ops Q S qs r a' w') a w
theorem wpAnyM_of_mix {qs:List Nat} (hsel:Region.noSelect ops=true):∀(l:List Nat) (listed:Array Bool) (a:Act) (w:World),Closed md ops listed→mixB md ops qs l listed=true→
  wpMix P md ops Q S qs l a w→wpAnyM P md ops Q S qs l.length listed a w
 | [],_,_,_,_,hB,h=>⟨by simpa [mixB] using hB,h⟩
 | i::r,listed,a,w,hc,hB,h=>by
  simp only [mixB,Bool.and_eq_true] at hB
  obtain ⟨h1,hB'⟩:=hB
  unfold wpMix at h
  by_cases hq:qs.contains i=true
  ·simp only [hq,if_true,Bool.and_eq_true] at h h1
   obtain ⟨hS,o,v,ho,hy,hQ,hK⟩:=h
   have hr:i∈Region.ready md ops listed:=by simpa using h1.1
   exact wpAnyM_first ho (by simpa using hq) (Region.noSelect_spec hsel) hQ r.length listed a w hc (Region.free_spec ho h1.2) hr hy hS
    (wpAnyM_of_mix hsel r _ _ w (hc.set hr) hB' hK)
  ·simp only [hq,Bool.false_eq_true,if_false,decide_eq_true_eq] at h h1
   refine ⟨fun h0=>(by rw [h1] at h0;cases h0),fun j hj=> ?_⟩
   have hj':=hj
   rw [h1] at hj'
   have:j=i:=by simpa using hj'
   subst this
   exact wpOp_mono (fun a' w' h'=>⟨h'.1,wpAnyM_of_mix hsel r _ a' w' (hc.set hj) hB' h'.2⟩) h
theorem closed_none (md:Region.Mode) (ops:Array Oper) (n:Nat):Closed md ops (Array.replicate n false):=by
 intro j oj _ hl
 exfalso
 rcases Nat.lt_or_ge j n with h | h
 ·simp [h] at hl
 ·rw [Array.getD_eq_getD_getElem?,Array.getElem?_eq_none (by simpa using h)] at hl
  cases hl
def mixOK (ops:Array Oper) (qs l:List Nat):Bool:=Region.noSelect ops && decide (l.length=ops.size) && mixB .any ops qs l (Array.replicate ops.size false)
theorem wpAny_of_mix {qs l:List Nat} {a:Act} {w:World} (hB:mixOK ops qs l=true) (h:wpMix P .any ops Q S qs l a w):wpAny P .any ops Q ops.size (Array.replicate ops.size false) a w:=by
 simp only [mixOK,Bool.and_eq_true,decide_eq_true_eq] at hB
 have:=wpAnyM_of_mix hB.1.1 l _ a w (closed_none _ _ _) hB.2 h
 rw [hB.1.2] at this
 exact wpAny_of_mixed _ _ _ _ this
theorem wp_region_mix {id:Nat} {a:Act} {w:World} (S:World→Prop) (qs l:List Nat) (hm:P.follows .mixedOrders=true) (hB:mixOK ops qs l=true)
  (h:wpMix P .any ops Q S qs l a w.drew):(Code.region id ops true).wp P Q a w:=
 wp_region_any hm (wpAny_of_mix hB h)
theorem wpMix_nil {qs:List Nat} {a:Act} {w:World} (h:Q .normal a w):wpMix P md ops Q S qs [] a w:=h
theorem wpMix_q {qs r:List Nat} {i:Nat} {a:Act} {w:World} {o:Oper} {v:Value} (hq:qs.contains i=true) (ho:ops[i]? =some o) (hQ:∀c a w,Q (.panic c) (a.put o.dst v) w→Q (.panic c) a w)
  (hS:S w) (hy:Region.wanted o (yielded ops a.tmps)=true∧∀w,S w→(execOp a.eval o).run P w= .ok (.value v) w) (h:wpMix P md ops Q S qs r (a.put o.dst v) w):wpMix P md ops Q S qs (i::r) a w:=by
 unfold wpMix
 rw [if_pos hq]
 exact ⟨hS,o,v,ho, .inl hy,hQ,h⟩
theorem wpOp_of_list {i:Nat} {o:Oper} {K:Act→World→Prop} {a:Act} {w:World} (ho:ops[i]? =some o) (h:wpList P ops (Exit.then K Q) [o] a w):wpOp P ops Q i K a w:=by
 have hl:LetsOut (Exit.then K Q)→LetsOut Q:=fun ⟨a,w,h⟩=>⟨a,w,h⟩
 unfold wpOp
 simp only [ho]
 unfold wpList at h
 split
 ·rename_i hw
  rw [if_pos hw] at h
  refine h.imp (fun h=> ?_) (fun ⟨h1,h2⟩=>⟨h1,hl h2⟩)
  unfold Oper.wp at*
  generalize (execOp a.eval o).run P w=res at*
  cases res with
  | ok n w'=>
   cases n <;>simp only [Oper.upon] at h⊢ <;>
    first
     | exact h
     | exact Calls.mono h (fun e w'' he=>by cases e <;>first | exact he | exact hl he)
     | exact Rows.mono h (fun _ _ he=>he)
  | halt x w'=>cases x <;>simp only [Oper.upon] at h⊢ <;>exact h
 ·rename_i hw
  rw [if_neg hw] at h
  exact h
theorem wpMix_n {qs r:List Nat} {i:Nat} {a:Act} {w:World} {o:Oper} (hq:qs.contains i=false) (ho:ops[i]? =some o)
  (h:wpList P ops (Exit.then (fun a' w'=>(needsS md ops qs i=true→S w')∧wpMix P md ops Q S qs r a' w') Q) [o] a w):wpMix P md ops Q S qs (i::r) a w:=by
 unfold wpMix
 rw [if_neg (by rw [hq];exact Bool.false_ne_true)]
 exact wpOp_of_list ho h
theorem wpMix_tail {qs:List Nat}:∀(r:List Nat) (os:List Oper) {a:Act} {w:World},(r.all fun i=> !qs.contains i && !needsS md ops qs i)=true→r.map (fun i=>ops[i]?)=os.map some→
  wpList P ops Q os a w→wpMix P md ops Q S qs r a w
 | [], [],_,_,_,_,h=>h
 | [],_::_,_,_,_,hm,_=>by simp at hm
 | _::_, [],_,_,_,hm,_=>by simp at hm
 | i::r,o::os,a,w,hB,hm,h=>by
  simp only [List.all_cons,Bool.and_eq_true,Bool.not_eq_true'] at hB
  simp only [List.map_cons,List.cons.injEq] at hm
  unfold wpMix
  rw [if_neg (by rw [hB.1.1];exact Bool.false_ne_true)]
  have hstep:wpOp P ops Q i (wpList P ops Q os) a w:=by
   unfold wpOp
   simp only [hm.1]
   unfold wpList at h
   exact h
  exact wpOp_mono (fun a' w' h'=>⟨fun hn=>(by rw [hB.1.2] at hn;cases hn),wpMix_tail r os (by simpa using hB.2) hm.2 h'⟩) hstep
end
end Go.Proofs.YtmemofonebphfaaGreat
namespace Go.Proofs.YtmemofonebphfaaGreat
open Go.RowKit
section
variable {P:Program} {ops:Array Oper} {Q:Exit→Act→World→Prop} {a0:Act} {w0:World}
def dstOf (ops:Array Oper) (i:Nat):Option Tmp:=(ops[i]?).bind (·.dst)
def setAll (ops:Array Oper) (vals:Nat→Value):List Nat→Array Value→Array Value
 | [],t=>t
 | i::r,t=>setAll ops vals r (match dstOf ops i with | some d=>t.setIfInBounds d (vals i) | none=>t)
def allAct (ops:Array Oper) (rs:List Nat) (a0:Act) (vals:Nat→Value):Act:={tmps:=setAll ops vals rs a0.tmps,defers:=a0.defers}
def QF:Exit→Act→World→Prop:=fun _ _ _=>False
theorem not_letsOut_QF:¬LetsOut QF:=fun ⟨_,_,h⟩=>h
theorem setAll_size (vals:Nat→Value):∀(l:List Nat) (t:Array Value),(setAll ops vals l t).size=t.size
 | [],_=>rfl
 | i::r,t=>by
  unfold setAll
  rw [setAll_size vals r]
  cases dstOf ops i <;>simp
theorem setAll_other (vals:Nat→Value) (d:Tmp):∀(l:List Nat) (t:Array Value),(∀i∈l,dstOf ops i≠some d)→(setAll ops vals l t)[d]? =t[d]?
 | [],_,_=>rfl
 | i::r,t,h=>by
  unfold setAll
  rw [setAll_other vals d r _ (fun j hj=>h j (by simp [hj]))]
  have:=h i (by simp)
  cases hd:dstOf ops i with
  | none=>rfl
  | some e=>
   have hne:e≠d:=fun he=>this (by rw [hd,he])
   simp [Array.getElem?_setIfInBounds_ne hne]
theorem setAll_at (vals:Nat→Value) {i:Nat} {d:Tmp} (hd:dstOf ops i=some d):∀(l:List Nat) (t:Array Value),i∈l→(∀j∈l,j≠i→dstOf ops j≠some d)→d < t.size→(setAll ops vals l t)[d]? =some (vals i)
 | [],_,h,_,_=>by cases h
 | j::r,t,hm,hu,hlt=>by
  unfold setAll
  by_cases hir:i∈r
  ·refine setAll_at vals hd r _ hir (fun k hk hne=>hu k (by simp [hk]) hne) ?_
   cases dstOf ops j <;>simp [hlt]
  ·have hij:i=j:=by
    rcases List.mem_cons.1 hm with h | h
    ·exact h
    ·exact absurd h hir
   subst hij
   rw [setAll_other vals d r _ (fun k hk=>hu k (by simp [hk]) (fun e=>hir (e▸hk)))]
   simp [hd,hlt]
theorem wpOp_move {i:Nat} {A a:Act} {w:World} {o:Oper} {KA Ka:Act→World→Prop} (ho:ops[i]? =some o) (he:execOp a.eval o=execOp A.eval o) (hw:Region.wanted o (yielded ops a.tmps)=Region.wanted o (yielded ops A.tmps))
  (hKd:∀a' w',KA a' w'→a'.defers=A.defers) (hK:∀v w',KA (A.put o.dst v) w'→Ka (a.put o.dst v) w') (h:wpOp P ops QF i KA A w):wpOp P ops Q i Ka a w:=by
 unfold wpOp at*
 simp only [ho] at h⊢
 rw [hw]
 split
 ·rename_i hwt
  rw [if_pos hwt] at h
  rcases h with h | ⟨_,h⟩
  ·left
   unfold Oper.wp at*
   rw [he]
   generalize (execOp A.eval o).run P w=res at*
   cases res with
   | ok x w'=>
    cases x <;>simp only [Oper.upon] at h⊢ <;>
     first
      | exact hK _ _ h
      | exact Calls.mono h (fun e w'' he=>by cases e <;>first | exact hK _ _ he | exact he.elim | exact absurd he not_letsOut_QF)
      | exact Rows.mono h (fun _ _ he=>hK _ _ he)
      | exact h.elim
      | exact absurd (hKd _ _ h) (by cases o.dst <;>simp [Act.put])
   | halt x w'=>cases x <;>simp only [Oper.upon] at h⊢ <;>exact h.elim
  ·exact absurd h not_letsOut_QF
 ·rename_i hwt
  rw [if_neg hwt] at h
  exact hK _ _ h
def also (L:Nat→Bool) (i:Nat):Nat→Bool:=fun j=>if j=i then true else L j
def withV (vals:Nat→Value) (i:Nat) (v:Value):Nat→Value:=fun j=>if j=i then v else vals j
def slotOf (ops:Array Oper) (i:Nat) (a:Act):Value:=match dstOf ops i with | some d=>a.tmps.getD d undef | none=>undef
structure Part (ops:Array Oper) (rs:List Nat) (a0:Act) (Inv:(Nat→Bool)→(Nat→Value)→World→Prop) (listed:Array Bool) (a:Act) (w:World):Prop where
 size:listed.size=ops.size
 closed:Closed .any ops listed
 only:∀i,listed.getD i false=true→i∈rs
 defers:a.defers=a0.defers
 tsize:a.tmps.size=a0.tmps.size
 other:∀t,(∀i∈rs,dstOf ops i≠some t)→a.tmps[t]? =a0.tmps[t]?
 vals:∃(L:Nat→Bool) (vals:Nat→Value),(∀i,L i=listed.getD i false)∧(∀i∈rs,listed.getD i false=true→∀d,dstOf ops i=some d→a.tmps[d]? =some (vals i))∧Inv L vals w
theorem filter_less {l:List Nat} (hn:l.Nodup) {p q:Nat→Bool} {i:Nat} (hi:i∈l) (hp:p i=true) (hq:∀x,q x=(p x && x !=i)):(l.filter p).length=(l.filter q).length+1:=by
 have h1:l.filter q=(l.filter p).erase i:=by
  rw [List.Nodup.erase_eq_filter (show (l.filter p).Nodup from hn.filter p),List.filter_filter]
  congr 1
  funext x
  rw [hq,Bool.and_comm]
 have h2:i∈l.filter p:=List.mem_filter.2 ⟨hi,hp⟩
 rw [h1,List.length_erase_of_mem h2]
 have:=List.length_pos_of_mem h2
 omega
def edgesMask (ms:List Nat):List Edge→Nat
 | []=>0
 | e::r=>if Region.binds .any e then 2^e.on ||| ms.getD e.on 0 ||| edgesMask ms r else edgesMask ms r
def masksGo (ms:List Nat):List Oper→Nat→Bool
 | [],_=>true
 | o::r,i=>ms.getD i 0==edgesMask ms o.after.toList && o.after.toList.all (fun e=> !Region.binds .any e || decide (e.on < i)) && masksGo ms r (i+1)
theorem masksGo_at {ms:List Nat}:∀{l:List Oper} {k:Nat},masksGo ms l k=true→∀i o,l[i]? =some o→ms.getD (k+i) 0=edgesMask ms o.after.toList∧∀e∈o.after,Region.binds .any e=true→e.on < k+i
 | [],_,_,i,o,h=>by simp at h
 | p::r,k,hk,i,o,h=>by
  simp only [masksGo,Bool.and_eq_true,beq_iff_eq,List.all_eq_true,Bool.or_eq_true,Bool.not_eq_true',decide_eq_true_eq] at hk
  cases i with
  | zero=>
   simp only [List.getElem?_cons_zero,Option.some.injEq] at h
   subst h
   refine ⟨hk.1.1,fun e he hb=> ?_⟩
   rcases hk.1.2 e (by simpa using he) with h | h
   ·rw [hb] at h;cases h
   ·exact h
  | succ i=>
   simp only [List.getElem?_cons_succ] at h
   have:=masksGo_at hk.2 i o h
   rw [show k+(i+1)=k+1+i by omega]
   exact this
theorem edgesMask_bit {ms:List Nat} {j:Nat}:∀{l:List Edge},(edgesMask ms l).testBit j=true→∃e∈l,Region.binds .any e=true∧(e.on=j∨(ms.getD e.on 0).testBit j=true)
 | [],h=>by simp [edgesMask] at h
 | e::r,h=>by
  unfold edgesMask at h
  split at h
  ·rename_i hb
   simp only [Nat.testBit_or,Bool.or_eq_true,Nat.testBit_two_pow,decide_eq_true_eq] at h
   rcases h with (h | h) | h
   ·exact ⟨e,by simp,hb, .inl h⟩
   ·exact ⟨e,by simp,hb, .inr h⟩
   ·obtain ⟨e',h1,h2⟩:=edgesMask_bit h
    exact ⟨e',by simp [h1],h2⟩
  ·obtain ⟨e',h1,h2⟩:=edgesMask_bit h
   exact ⟨e',by simp [h1],h2⟩
def bitAt (ms:List Nat) (i j:Nat):Bool:=(ms.getD i 0).testBit j
theorem listed_of_bit {ms:List Nat} (hm:masksGo ms ops.toList 0=true) {listed:Array Bool} (hc:Closed .any ops listed) (j:Nat):∀(n i:Nat),i < n→(∀o,ops[i]? =some o→∀e∈o.after,Region.binds .any e=true→listed.getD e.on false=true)→
  ∀o,ops[i]? =some o→bitAt ms i j=true→listed.getD j false=true
 | 0,i,h,_,_,_,_=>by omega
 | n+1,i,hn,hd,o,ho,hb=>by
  have ho':ops.toList[i]? =some o:=by simpa using ho
  obtain ⟨h1,h2⟩:=masksGo_at hm i o ho'
  rw [Nat.zero_add] at h1 h2
  unfold bitAt at hb
  rw [h1] at hb
  obtain ⟨e,he,hbd,h⟩:=edgesMask_bit hb
  have he:e∈o.after:=by simpa using he
  have hl:=hd o ho e he hbd
  rcases h with h | h
  ·rw [←h];exact hl
  ·have hlt:=h2 e he hbd
   rcases Nat.lt_or_ge e.on ops.size with hs | hs
   ·exact listed_of_bit hm hc j n e.on (by omega) (fun o' ho' e' he' hb'=>hc e.on o' ho' hl e' he' hb') _ (Array.getElem?_eq_getElem hs) h
   ·have:=(Array.getElem?_eq_some_iff.1 ho).1
    omega
def relyOK (ops:Array Oper) (sz:Nat) (rs ms:List Nat) (ds:List (Nat × Tmp)):Bool:=
 Region.noSelect ops && decide (rs=List.range ops.size) && masksGo ms ops.toList 0 && decide (rs.filterMap (fun i=>(dstOf ops i).map fun d=>(i,d))=ds) && ds.all (fun p=>decide (p.2 < sz)) && decide ((ds.map (·.2)).Nodup) &&
 rs.all (fun i=>match ops[i]? with | some o=>(o.looksAt ops).all fun t=>ds.all fun p=>p.2 !=t || bitAt ms i p.1 | none=>false)
structure Rely (ops:Array Oper) (sz:Nat) (rs ms:List Nat):Prop where
 sel:Region.noSelect ops=true
 all:∀i,i∈rs ↔ i < ops.size
 nodup:rs.Nodup
 len:rs.length=ops.size
 masks:masksGo ms ops.toList 0=true
 dst:∀i∈rs,∀d,dstOf ops i=some d→d < sz
 apart:∀i∈rs,∀j∈rs,i≠j→∀d,dstOf ops i=some d→dstOf ops j≠some d
 reads:∀i∈rs,∀o,ops[i]? =some o→∀t∈o.looksAt ops,∀j∈rs,dstOf ops j=some t→bitAt ms i j=true
theorem pairs_apart {α β:Type}:∀{l:List (α × β)},(l.map (·.2)).Nodup→∀a a' b,(a,b)∈l→(a',b)∈l→a=a'
 | [],_,_,_,_,h,_=>by cases h
 | (x,y)::r,hn,a,a',b,h,h'=>by
  simp only [List.map_cons,List.nodup_cons,List.mem_map,not_exists,not_and] at hn
  rcases List.mem_cons.1 h with e | h
  ·rcases List.mem_cons.1 h' with e' | h'
   ·have e1:=congrArg Prod.fst e;have e2:=congrArg Prod.fst e'
    exact e1.trans e2.symm
   ·exact absurd (congrArg Prod.snd e) (fun hh=>hn.1 _ h' hh)
  ·rcases List.mem_cons.1 h' with e' | h'
   ·exact absurd (congrArg Prod.snd e') (fun hh=>hn.1 _ h hh)
   ·exact pairs_apart hn.2 a a' b h h'
theorem Rely.of {sz:Nat} {rs ms:List Nat} {ds:List (Nat × Tmp)} (h:relyOK ops sz rs ms ds=true):Rely ops sz rs ms∧rs.filterMap (fun i=>(dstOf ops i).map fun d=>(i,d))=ds:=by
 simp only [relyOK,Bool.and_eq_true,decide_eq_true_eq,List.all_eq_true] at h
 obtain ⟨⟨⟨⟨⟨⟨h1,h2⟩,h3⟩,h4⟩,h5⟩,h6⟩,h7⟩:=h
 have hmem:∀i d,i∈rs→dstOf ops i=some d→(i,d)∈ds:=fun i d hi hd=>by
  rw [←h4]
  exact List.mem_filterMap.2 ⟨i,hi,by simp [hd]⟩
 refine ⟨⟨h1,fun i=>by rw [h2];simp,by rw [h2];exact List.nodup_range,by rw [h2];simp,h3,fun i hi d hd=>h5 _ (hmem i d hi hd),fun i hi j hj hne d hd hd'=>hne (pairs_apart h6 i j d (hmem i d hi hd) (hmem j d hj hd')),?_⟩,h4⟩
 intro i hi o ho t ht j hj hd
 have:=h7 i hi
 rw [ho] at this
 have:=List.all_eq_true.1 this t ht
 have:=List.all_eq_true.1 this _ (hmem j t hj hd)
 simpa using this
theorem rely_go {rs ms:List Nat} {Inv:(Nat→Bool)→(Nat→Value)→World→Prop} (hB:Rely ops a0.tmps.size rs ms)
  (hstep:∀i∈rs,∀(L:Nat→Bool) (vals:Nat→Value) w,L i=false→(∀j,bitAt ms i j=true→L j=true)→Inv L vals w→
   wpOp P ops QF i (fun a' w'=>a'.defers=a0.defers∧Inv (also L i) (withV vals i (slotOf ops i a')) w') (allAct ops rs a0 vals) w)
  (hend:∀(L:Nat→Bool) (vals:Nat→Value) w,(∀j∈rs,L j=true)→Inv L vals w→Q .normal (allAct ops rs a0 vals) w):
  ∀(fuel:Nat) (listed:Array Bool) (a:Act) (w:World),fuel=(rs.filter fun i=> !listed.getD i false).length→Part ops rs a0 Inv listed a w→wpAny P .any ops Q fuel listed a w:=by
 intro fuel
 -- all of rs are listed
 have hdone:∀(listed:Array Bool) (a:Act) (w:World),(∀i∈rs,listed.getD i false=true)→Part ops rs a0 Inv listed a w→wpAny P .any ops Q 0 listed a w:=by
  intro listed a w hall hp
  obtain ⟨L,vals,hLl,hv,hInv⟩:=hp.vals
  have ha:a=allAct ops rs a0 vals:=by
   have ht:a.tmps=setAll ops vals rs a0.tmps:=by
    refine Array.ext_getElem? fun t=> ?_
    by_cases hex:∃i∈rs,dstOf ops i=some t
    ·obtain ⟨i,hi,hd⟩:=hex
     rw [hv i hi (hall i hi) t hd]
     rw [setAll_at vals hd rs _ hi (fun j hj hne he=>hB.apart j hj i hi hne t he hd) (hB.dst i hi t hd)]
    ·have hno:∀i∈rs,dstOf ops i≠some t:=fun i hi he=>hex ⟨i,hi,he⟩
     rw [hp.other t hno,setAll_other vals t rs _ hno]
   cases a
   simp only [allAct,Act.mk.injEq]
   exact ⟨ht,hp.defers⟩
  have hm:wpAnyM P .any ops Q (fun _=>True) [] 0 listed a w:=by
   refine wpAnyM_of_mix (l:= []) hB.sel listed a w hp.closed ?_ ?_
   ·have:Region.ready .any ops listed= []:=by
     refine List.eq_nil_iff_forall_not_mem.2 fun i hi=> ?_
     obtain ⟨hun,o,ho,_⟩:=mem_ready.1 hi
     have h1:=getD_both' hun
     rw [hall i ((hB.all i).2 (Array.getElem?_eq_some_iff.1 ho).1)] at h1
     cases h1
    simp [mixB,this]
   ·rw [ha]
    exact hend L vals w (fun j hj=>by rw [hLl];exact hall j hj) hInv
  exact wpAny_of_mixed _ _ _ _ hm
 induction fuel with
 | zero=>
  intro listed a w hf hp
  have h0:(rs.filter fun i=> !listed.getD i false)= []:=List.eq_nil_of_length_eq_zero (by omega)
  exact hdone listed a w (fun i hi=>by
   have:=List.filter_eq_nil_iff.1 h0 i hi
   simpa using this) hp
 | succ fuel ih=>
  intro listed a w hf hp
  by_cases hall:∀i∈rs,listed.getD i false=true
  ·have h0:(rs.filter fun i=> !listed.getD i false)= []:=by
    rw [List.filter_eq_nil_iff]
    intro i hi
    rw [hall i hi];simp
   rw [h0] at hf
   cases hf
  ·have hex:∃i,i∈rs∧listed.getD i false=false:=by
    refine Classical.byContradiction fun hno=>hall fun i hi=> ?_
    cases hc:listed.getD i false with
    | true=>rfl
    | false=>exact absurd ⟨i,hi,hc⟩ hno
   have hself:∀{i:Nat} {o:Oper},ops[i]? =some o→(∀e∈o.after,Region.binds .any e=true→listed.getD e.on false=true)→∀j,bitAt ms i j=true→listed.getD j false=true:=fun {i o} ho hd j hr=>
    listed_of_bit hB.masks hp.closed j (i+1) i (by omega) (fun o' ho' e he hb=>by
     have:o'=o:=Option.some.inj (ho'.symm.trans ho)
     subst this
     exact hd e he hb) o ho hr
   have hready:∀i∈Region.ready .any ops listed,i∈rs:=by
    intro i hi
    obtain ⟨hun,o,ho,hd⟩:=mem_ready.1 hi
    exact (hB.all i).2 (Array.getElem?_eq_some_iff.1 ho).1
   refine ⟨fun hr=> ?_,fun i hi=> ?_⟩
   ·exfalso
    have hcl:∀k,k≤ops.size→∀j,j < k→listed.getD j false=true:=by
     intro k
     induction k with
     | zero=>intro _ j hj;omega
     | succ k ihk=>
      intro hk j hj
      have hbelow:=ihk (by omega)
      rcases Nat.lt_or_ge j k with h | h
      ·exact hbelow j h
      ·have hjk:j=k:=by omega
       subst hjk
       cases hc:listed.getD j false with
       | true=>rfl
       | false=>
        have hjo:ops[j]? =some ops[j]:=Array.getElem?_eq_getElem (by omega)
        have:j∈Region.ready .any ops listed:=mem_ready.2 ⟨by
         have hlt:j < listed.size:=by rw [hp.size];omega
         simp [hlt] at hc⊢
         exact hc,ops[j],hjo,fun e he hb=>hbelow _ (by have:=(masksGo_at hB.masks j ops[j] (by rw [Array.getElem?_toList];exact hjo)).2 e he hb;omega)⟩
        rw [hr] at this
        cases this
    obtain ⟨i,hi,hf'⟩:=hex
    rw [hcl ops.size (Nat.le_refl _) i ((hB.all i).1 hi)] at hf'
    cases hf'
   ·have hir:=hready i hi
    obtain ⟨hun,o,ho,hd⟩:=mem_ready.1 hi
    obtain ⟨L,vals,hLl,hv,hInv⟩:=hp.vals
    have hod:o.dst=dstOf ops i:=by simp [dstOf,ho]
    have hiun:listed.getD i false=false:=getD_both' hun
    have hilt:i < listed.size:=by rw [hp.size];exact (hB.all i).1 hir
    -- what i reads is as in the whole frame
    have hsame:∀t∈o.looksAt ops,a.tmps[t]? =(allAct ops rs a0 vals).tmps[t]? :=by
     intro t ht
     by_cases hex':∃j∈rs,dstOf ops j=some t
     ·obtain ⟨j,hj,hdj⟩:=hex'
      have hlj:=hself ho hd j (hB.reads i hir o ho t ht j hj hdj)
      rw [hv j hj hlj t hdj]
      exact (setAll_at vals hdj rs _ hj (fun k hk hne he=>hB.apart k hk j hj hne t he hdj) (hB.dst j hj t hdj)).symm
     ·have hno:∀j∈rs,dstOf ops j≠some t:=fun j hj he=>hex' ⟨j,hj,he⟩
      rw [hp.other t hno]
      exact (setAll_other vals t rs _ hno).symm
    have heval:execOp a.eval o=execOp (allAct ops rs a0 vals).eval o:=by
     refine execOp_congr o (fun cs b=>Region.noSelect_spec hB.sel i o cs b ho) fun x hx=> ?_
     cases x with
     | tmp t=>
      have:=hsame t (List.mem_append_left _ (List.mem_filterMap.2 ⟨.tmp t,by simpa using hx,rfl⟩))
      simp only [Act.eval,Array.getD_eq_getD_getElem?,this]
     | _=>rfl
    have hwant:Region.wanted o (yielded ops a.tmps)=Region.wanted o (yielded ops (allAct ops rs a0 vals).tmps):=by
     unfold Region.wanted
     cases hg:o.guard with
     | none=>rfl
     | some gw=>
      obtain ⟨g,want⟩:=gw
      have:yielded ops a.tmps g=yielded ops (allAct ops rs a0 vals).tmps g:=by
       unfold yielded
       cases ht:(ops[g]?).bind (·.dst) with
       | none=>rfl
       | some t=>
        have:=hsame t (by simp [Oper.looksAt,hg,ht])
        simp only [Option.bind_some,this]
      simp only [this]
    refine wpOp_move ho heval hwant (fun a' w' h=>h.1) ?_ (hstep i hir L vals w (by rw [hLl];exact hiun) (fun j hr=>by rw [hLl];exact hself ho hd j hr) hInv)
    rintro v w' ⟨_,hInv'⟩
    have hsl:∀d,dstOf ops i=some d→slotOf ops i ((allAct ops rs a0 vals).put o.dst v)=v:=by
     intro d hdi
     have hds:d < (allAct ops rs a0 vals).tmps.size:=by
      show d < (setAll ops vals rs a0.tmps).size
      rw [setAll_size];exact hB.dst i hir d hdi
     rw [hod]
     simp [slotOf,hdi,Act.put,hds]
    refine ih (listed.setIfInBounds i true) (a.put o.dst v) w' ?_ ?_
    ·have:=filter_less (q:=fun j=> !(listed.setIfInBounds i true).getD j false) hB.nodup (p:=fun j=> !listed.getD j false) hir (by rw [hiun];rfl) (fun x=>by
      by_cases hx:i=x
      ·subst hx;simp [hilt]
      ·rw [getD_set_ne false hx]
       have:x≠i:=fun e=>hx e.symm
       simp [this])
     omega
    ·have hset:(listed.setIfInBounds i true).getD i false=true:=by simp [hilt]
     refine ⟨by simp [hp.size],hp.closed.set hi,fun j hj=> ?_,?_,?_,fun t ht=> ?_,⟨also L i,_,fun j=> ?_,fun j hj hl d' hd'=> ?_,hInv'⟩⟩
     ·by_cases hij:i=j
      ·subst hij;exact hir
      ·rw [getD_set_ne false hij] at hj
       exact hp.only j hj
     ·rw [hod];cases dstOf ops i <;>exact hp.defers
     ·rw [hod];cases dstOf ops i <;>simp [Act.put,hp.tsize]
     ·rw [←hp.other t ht,hod]
      cases hdi:dstOf ops i with
      | none=>rfl
      | some d=>
       have hne:d≠t:=fun e=>ht i hir (by rw [hdi,e])
       simp only [Act.put,Array.getElem?_setIfInBounds_ne hne]
     ·unfold also
      by_cases hij:j=i
      ·subst hij;rw [if_pos rfl,hset]
      ·rw [if_neg hij,getD_set_ne false (fun e=>hij e.symm),hLl]
     ·unfold withV
      by_cases hij:j=i
      ·subst hij
       rw [if_pos rfl,hsl d' hd',hod,hd']
       have hds:d' < a.tmps.size:=by rw [hp.tsize];exact hB.dst j hir d' hd'
       simp [Act.put,hds]
      ·rw [if_neg hij,←hv j hj (by rwa [getD_set_ne false (fun e=>hij e.symm)] at hl) d' hd',hod]
       cases hdi:dstOf ops i with
       | none=>rfl
       | some d=>
        have hne:d≠d':=fun e=>hB.apart i hir j hj (fun e=>hij e.symm) d hdi (by rw [hd',e])
        simp only [Act.put,Array.getElem?_setIfInBounds_ne hne]
def setL (vals:Nat→Value):List (Nat × Tmp)→Array Value→Array Value
 | [],t=>t
 | (i,d)::r,t=>setL vals r (t.setIfInBounds d (vals i))
def actL (ds:List (Nat × Tmp)) (a0:Act) (vals:Nat→Value):Act:={tmps:=setL vals ds a0.tmps,defers:=a0.defers}
theorem setAll_setL (vals:Nat→Value):∀(rs:List Nat) (t:Array Value),setAll ops vals rs t=setL vals (rs.filterMap (fun i=>(dstOf ops i).map fun d=>(i,d))) t
 | [],_=>rfl
 | i::r,t=>by
  unfold setAll
  cases hd:dstOf ops i with
  | none=>rw [List.filterMap_cons_none (by simp [hd])];exact setAll_setL vals r t
  | some d=>rw [List.filterMap_cons_some (b:=(i,d)) (by simp [hd])];exact setAll_setL vals r _
theorem allAct_actL {rs:List Nat} {ds:List (Nat × Tmp)} (h:rs.filterMap (fun i=>(dstOf ops i).map fun d=>(i,d))=ds) (vals:Nat→Value):allAct ops rs a0 vals=actL ds a0 vals:=by
 subst h
 unfold allAct actL
 rw [setAll_setL]
def StepI (P:Program) (ops:Array Oper) (ms:List Nat) (ds:List (Nat × Tmp)) (a0:Act) (Inv:(Nat→Bool)→(Nat→Value)→World→Prop) (i:Nat):Prop:=
 ∀(L:Nat→Bool) (vals:Nat→Value) w,L i=false→(∀j,bitAt ms i j=true→L j=true)→Inv L vals w→
  wpOp P ops QF i (fun a' w'=>a'.defers=a0.defers∧Inv (also L i) (withV vals i (slotOf ops i a')) w') (actL ds a0 vals) w
def StepsI (P:Program) (ops:Array Oper) (ms:List Nat) (ds:List (Nat × Tmp)) (a0:Act) (Inv:(Nat→Bool)→(Nat→Value)→World→Prop):List Nat→Prop
 | []=>True
 | i::r=>StepI P ops ms ds a0 Inv i∧StepsI P ops ms ds a0 Inv r
theorem StepsI.mem {ms:List Nat} {ds:List (Nat × Tmp)} {Inv:(Nat→Bool)→(Nat→Value)→World→Prop}:∀{l:List Nat},StepsI P ops ms ds a0 Inv l→∀i∈l,StepI P ops ms ds a0 Inv i
 | [],_,_,h=>by cases h
 | j::r,h,i,hi=>by
  rcases List.mem_cons.1 hi with e | hi
  ·subst e;exact h.1
  ·exact StepsI.mem h.2 i hi
theorem wpAny_of_inv {w:World} {rs ms:List Nat} {ds:List (Nat × Tmp)} {Inv:(Nat→Bool)→(Nat→Value)→World→Prop} (hB:relyOK ops a0.tmps.size rs ms ds=true)
  (h0:Inv (fun _=>false) (fun _=>undef) w) (hstep:StepsI P ops ms ds a0 Inv rs)
  (hend:∀(L:Nat→Bool) (vals:Nat→Value) w',(∀j∈rs,L j=true)→Inv L vals w'→Q .normal (actL ds a0 vals) w'):wpAny P .any ops Q ops.size (Array.replicate ops.size false) a0 w:=by
 obtain ⟨hR,hB2⟩:=Rely.of hB
 have hun:∀j,(Array.replicate ops.size false).getD j false=false:=fun j=>by
  rcases Nat.lt_or_ge j ops.size with h | h
  ·simp [h]
  ·rw [Array.getD_eq_getD_getElem?,Array.getElem?_eq_none (by simpa using h)];rfl
 refine rely_go (Inv:=Inv) hR (fun i hi=>by have:=hstep.mem i hi;unfold StepI at this;simpa only [allAct_actL hB2] using this) (by simpa only [allAct_actL hB2] using hend) ops.size _ a0 w ?_ ⟨by simp,closed_none _ _ _,fun j hj=>(by rw [hun j] at hj;cases hj),rfl,rfl,fun _ _=>rfl,⟨fun _=>false,fun _=>undef,fun i=>(hun i).symm,fun j _ hj=>(by rw [hun j] at hj;cases hj),h0⟩⟩
 have:(rs.filter fun i=> !(Array.replicate ops.size false).getD i false)=rs:=List.filter_eq_self.2 fun j _=>by rw [hun j];rfl
 rw [this,hR.len]
theorem wp_region_inv {id:Nat} {w:World} {rs ms:List Nat} {ds:List (Nat × Tmp)} (Inv:(Nat→Bool)→(Nat→Value)→World→Prop) (hm:P.follows .mixedOrders=true) (hB:relyOK ops a0.tmps.size rs ms ds=true)
  (h0:Inv (fun _=>false) (fun _=>undef) w.drew) (hstep:StepsI P ops ms ds a0 Inv rs)
  (hend:∀(L:Nat→Bool) (vals:Nat→Value) w',(∀j∈rs,L j=true)→Inv L vals w'→Q .normal (actL ds a0 vals) w'):(Code.region id ops true).wp P Q a0 w:=
 wp_region_any hm (wpAny_of_inv (Inv:=Inv) (w:=w.drew) hB h0 hstep hend)
end
end Go.Proofs.YtmemofonebphfaaGreat
namespace Go.Proofs.YtmemofonebphfaaGreat
section
variable {P:Program} {ops:Array Oper} {Q:Exit→Act→World→Prop} {md:Region.Mode} {S:World→Prop}
inductive MixT where
 | nil:MixT
 | q (i:Nat) (r:MixT):MixT
 | one (i:Nat) (r:MixT):MixT
 | two (i:Nat) (r:MixT) (j:Nat) (s:MixT):MixT
def mixTB (md:Region.Mode) (ops:Array Oper) (qs:List Nat):MixT→Nat→Array Bool→Bool
 | .nil,n,listed=>decide (n=0) && (Region.ready md ops listed).isEmpty
 | .q i r,n,listed=>decide (0 < n) && (qs.contains i && (Region.ready md ops listed).contains i && Region.free md ops listed i && mixTB md ops qs r (n - 1) (listed.setIfInBounds i true))
 | .one i r,n,listed=>decide (0 < n) && (decide (Region.ready md ops listed= [i]) && mixTB md ops qs r (n - 1) (listed.setIfInBounds i true))
 | .two i r j s,n,listed=>decide (0 < n) && (decide (Region.ready md ops listed= [i,j]) && mixTB md ops qs r (n - 1) (listed.setIfInBounds i true) && mixTB md ops qs s (n - 1) (listed.setIfInBounds j true))
def wpMixT (P:Program) (md:Region.Mode) (ops:Array Oper) (Q:Exit→Act→World→Prop) (S:World→Prop) (qs:List Nat):MixT→Act→World→Prop
 | .nil,a,w=>Q .normal a w
 | .q i r,a,w=>S w∧∃o v,ops[i]? =some o∧YieldsIf P ops S o v a∧(∀c a w,Q (.panic c) (a.put o.dst v) w→Q (.panic c) a w)∧wpMixT P md ops Q S qs r (a.put o.dst v) w
 | .one i r,a,w=>wpOp P ops Q i (fun a' w'=>(needsS md ops qs i=true→S w')∧wpMixT P md ops Q S qs r a' w') a w
 | .two i r j s,a,w=>wpOp P ops Q i (fun a' w'=>(needsS md ops qs i=true→S w')∧wpMixT P md ops Q S qs r a' w') a w∧wpOp P ops Q j (fun a' w'=>(needsS md ops qs j=true→S w')∧wpMixT P md ops Q S qs s a' w') a w
theorem wpAnyM_of_tree {qs:List Nat} (hsel:Region.noSelect ops=true):∀(t:MixT) (n:Nat) (listed:Array Bool) (a:Act) (w:World),Closed md ops listed→mixTB md ops qs t n listed=true→
  wpMixT P md ops Q S qs t a w→wpAnyM P md ops Q S qs n listed a w
 | .nil,n,_,_,_,_,hB,h=>by
  simp only [mixTB,Bool.and_eq_true,decide_eq_true_eq] at hB
  obtain ⟨rfl,hB⟩:=hB
  exact ⟨by simpa using hB,h⟩
 | .q i r,n,listed,a,w,hc,hB,h=>by
  simp only [mixTB,Bool.and_eq_true,decide_eq_true_eq] at hB
  obtain ⟨hn,⟨⟨hq,hr⟩,hf⟩,hB'⟩:=hB
  obtain ⟨m,rfl⟩:∃m,n=m+1:=⟨n - 1,by omega⟩
  obtain ⟨hS,o,v,ho,hy,hQ,hK⟩:=h
  have hr:i∈Region.ready md ops listed:=by simpa using hr
  exact wpAnyM_first ho (by simpa using hq) (Region.noSelect_spec hsel) hQ m listed a w hc (Region.free_spec ho hf) hr hy hS
   (wpAnyM_of_tree hsel r m _ _ w (hc.set hr) hB' hK)
 | .one i r,n,listed,a,w,hc,hB,h=>by
  simp only [mixTB,Bool.and_eq_true,decide_eq_true_eq] at hB
  obtain ⟨hn,h1,hB'⟩:=hB
  obtain ⟨m,rfl⟩:∃m,n=m+1:=⟨n - 1,by omega⟩
  refine ⟨fun h0=>(by rw [h1] at h0;cases h0),fun j hj=> ?_⟩
  have hj':=hj
  rw [h1] at hj'
  have:j=i:=by simpa using hj'
  subst this
  exact wpOp_mono (fun a' w' h'=>⟨h'.1,wpAnyM_of_tree hsel r m _ a' w' (hc.set hj) hB' h'.2⟩) h
 | .two i r k s,n,listed,a,w,hc,hB,h=>by
  simp only [mixTB,Bool.and_eq_true,decide_eq_true_eq] at hB
  obtain ⟨hn,⟨h1,hB'⟩,hB2⟩:=hB
  obtain ⟨m,rfl⟩:∃m,n=m+1:=⟨n - 1,by omega⟩
  refine ⟨fun h0=>(by rw [h1] at h0;cases h0),fun j hj=> ?_⟩
  have hj':=hj
  rw [h1] at hj'
  have hc':j=i∨j=k:=by simpa using hj'
  rcases hc' with rfl | rfl
  ·exact wpOp_mono (fun a' w' h'=>⟨h'.1,wpAnyM_of_tree hsel r m _ a' w' (hc.set hj) hB' h'.2⟩) h.1
  ·exact wpOp_mono (fun a' w' h'=>⟨h'.1,wpAnyM_of_tree hsel s m _ a' w' (hc.set hj) hB2 h'.2⟩) h.2
def mixTOK (ops:Array Oper) (qs:List Nat) (t:MixT):Bool:=Region.noSelect ops && mixTB .any ops qs t ops.size (Array.replicate ops.size false)
theorem wp_region_tree {id:Nat} {a:Act} {w:World} (S:World→Prop) (qs:List Nat) (t:MixT) (hm:P.follows .mixedOrders=true) (hB:mixTOK ops qs t=true)
  (h:wpMixT P .any ops Q S qs t a w.drew):(Code.region id ops true).wp P Q a w:=by
 simp only [mixTOK,Bool.and_eq_true] at hB
 exact wp_region_any hm (wpAny_of_mixed _ _ _ _ (wpAnyM_of_tree hB.1 t _ _ a _ (closed_none _ _ _) hB.2 h))
theorem wpMixT_nil {qs:List Nat} {a:Act} {w:World} (h:Q .normal a w):wpMixT P md ops Q S qs .nil a w:=h
theorem wpMixT_q {qs:List Nat} {r:MixT} {i:Nat} {a:Act} {w:World} {o:Oper} {v:Value} (ho:ops[i]? =some o) (hQ:∀c a w,Q (.panic c) (a.put o.dst v) w→Q (.panic c) a w)
  (hS:S w) (hy:Region.wanted o (yielded ops a.tmps)=true∧∀w,S w→(execOp a.eval o).run P w= .ok (.value v) w) (h:wpMixT P md ops Q S qs r (a.put o.dst v) w):wpMixT P md ops Q S qs (.q i r) a w:=
 ⟨hS,o,v,ho, .inl hy,hQ,h⟩
theorem wpMixT_one {qs:List Nat} {r:MixT} {i:Nat} {a:Act} {w:World} {o:Oper} (ho:ops[i]? =some o)
  (h:wpList P ops (Exit.then (fun a' w'=>(needsS md ops qs i=true→S w')∧wpMixT P md ops Q S qs r a' w') Q) [o] a w):wpMixT P md ops Q S qs (.one i r) a w:=wpOp_of_list ho h
theorem wpMixT_two {qs:List Nat} {r s:MixT} {i j:Nat} {a:Act} {w:World} {o u:Oper} (ho:ops[i]? =some o) (hu:ops[j]? =some u)
  (h:wpList P ops (Exit.then (fun a' w'=>(needsS md ops qs i=true→S w')∧wpMixT P md ops Q S qs r a' w') Q) [o] a w)
  (k:wpList P ops (Exit.then (fun a' w'=>(needsS md ops qs j=true→S w')∧wpMixT P md ops Q S qs s a' w') Q) [u] a w):wpMixT P md ops Q S qs (.two i r j s) a w:=⟨wpOp_of_list ho h,wpOp_of_list hu k⟩
end
end Go.Proofs.YtmemofonebphfaaGreat
