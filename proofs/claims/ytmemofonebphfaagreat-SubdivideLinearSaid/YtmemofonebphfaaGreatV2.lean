import Derived.OrdersHeld
import Derived.OrdersIn
import Derived.RangeFuncCalls
import Derived.OwnWalkIn
import Derived.WalkKit
namespace Go.Proofs.YtmemofonebphfaaGreat
section
variable {P:Program} {ops:Array Oper} {Q:Exit→Act→World→Prop} {md:Region.Mode} {S:World→Prop}
def reaches (md:Region.Mode) (ops:Array Oper):Nat→Nat→Nat→Bool
 | 0,_,_=>false
 | f+1,j,i=>match ops[j]? with
  | some o=>o.after.any fun e=>Region.binds md e && (e.on==i || reaches md ops f e.on i)
  | none=>false
def needsS (md:Region.Mode) (ops:Array Oper) (qs:List Nat) (j:Nat):Bool:=qs.any fun i=> !(i==j) && !reaches md ops ops.size j i
def Closed (md:Region.Mode) (ops:Array Oper) (listed:Array Bool):Prop:=
 ∀j oj,ops[j]? =some oj→listed.getD j false=true→∀e∈oj.after,Region.binds md e=true→listed.getD e.on false=true
theorem getD_both' {listed:Array Bool} {i:Nat} (h:listed.getD i true=false):listed.getD i false=false:=by
 rcases Nat.lt_or_ge i listed.size with h' | h'
 ·simp [h'] at h⊢;exact h
 ·simp [Array.getElem?_eq_none h'] at h
theorem reaches_listed {listed:Array Bool} (hc:Closed md ops listed):∀(f j i:Nat),(∀oj,ops[j]? =some oj→∀e∈oj.after,Region.binds md e=true→listed.getD e.on false=true)→
  reaches md ops f j i=true→listed.getD i false=true
 | 0,_,_,_,h=>by simp [reaches] at h
 | f+1,j,i,hj,h=>by
  unfold reaches at h
  cases ho:ops[j]? with
  | none=>simp [ho] at h
  | some o=>
   simp only [ho,Array.any_eq_true',Bool.and_eq_true,Bool.or_eq_true,beq_iff_eq] at h
   obtain ⟨e,he,hb,h⟩:=h
   have hl:=hj o ho e he hb
   rcases h with h | h
   ·rw [←h];exact hl
   ·exact reaches_listed hc f e.on i (fun oj hoj=>hc e.on oj hoj hl) h
theorem Closed.set {listed:Array Bool} {i:Nat} (hc:Closed md ops listed) (hi:i∈Region.ready md ops listed):Closed md ops (listed.setIfInBounds i true):=by
 obtain ⟨_,oi,hoi,hall⟩:=mem_ready.1 hi
 intro j oj hj hl e he hb
 by_cases hij:i=j
 ·subst hij
  have:oj=oi:=Option.some.inj (hj.symm.trans hoi)
  subst this
  exact getD_set_true (hall e he hb)
 ·rw [getD_set_ne false hij] at hl
  exact getD_set_true (hc j oj hj hl e he hb)
def wpAnyM (P:Program) (md:Region.Mode) (ops:Array Oper) (Q:Exit→Act→World→Prop) (S:World→Prop) (qs:List Nat):Nat→Array Bool→Act→World→Prop
 | 0,listed,a,w=>Region.ready md ops listed= []∧Q .normal a w
 | fuel+1,listed,a,w=>
  (Region.ready md ops listed= []→Q .normal a w)∧
  ∀i∈Region.ready md ops listed,wpOp P ops Q i (fun a' w'=>(needsS md ops qs i=true→S w')∧wpAnyM P md ops Q S qs fuel (listed.setIfInBounds i true) a' w') a w
theorem wpAny_of_mixed {qs:List Nat}:∀(fuel:Nat) (listed:Array Bool) (a:Act) (w:World),wpAnyM P md ops Q S qs fuel listed a w→wpAny P md ops Q fuel listed a w
 | 0,_,_,_,h=>h
 | fuel+1,_,_,_,h=>⟨h.1,fun i hi=>wpOp_mono (fun a' w' h'=>wpAny_of_mixed fuel _ a' w' h'.2) (h.2 i hi)⟩
theorem wpAnyM_first {qs:List Nat} {i:Nat} {oi:Oper} {v:Value} (hi:ops[i]? =some oi) (hq:i∈qs) (hsel:∀(j:Nat) (o:Oper) cs b,ops[j]? =some o→o.op≠ .select cs b)
  (hQ:∀c a w,Q (.panic c) (a.put oi.dst v) w→Q (.panic c) a w):
  ∀(fuel:Nat) (listed:Array Bool) (a:Act) (w:World),Closed md ops listed→
   (∀j oj,ops[j]? =some oj→j≠i→listed.getD j true=false→(∀e∈oj.after,Region.binds md e=true→e.on≠i)→oi.apart ops oj=true)→
   i∈Region.ready md ops listed→YieldsIf P ops S oi v a→S w→
   wpAnyM P md ops Q S qs fuel (listed.setIfInBounds i true) (a.put oi.dst v) w→wpAnyM P md ops Q S qs (fuel+1) listed a w:=by
 intro fuel
 induction fuel with
 | zero=>
  intro listed a w _ _ hr hy hS H
  refine ⟨fun h=>(by rw [h] at hr;cases hr),fun j hj=> ?_⟩
  by_cases hji:j=i
  ·subst hji;exact hy.wpOp hi hS ⟨fun _=>hS,H⟩
  ·have:=ready_mono hj hji
   rw [H.1] at this
   cases this
 | succ fuel ih=>
  intro listed a w hcl hfree hr hy hS H
  refine ⟨fun h=>(by rw [h] at hr;cases hr),fun j hj=> ?_⟩
  by_cases hji:j=i
  ·subst hji;exact hy.wpOp hi hS ⟨fun _=>hS,H⟩
  ·have h1:=H.2 j (ready_mono hj hji)
   obtain ⟨hjun,oj,hoj,hall⟩:=mem_ready.1 hj
   have hiun:=(mem_ready.1 hr).1
   have hnot:∀e∈oj.after,Region.binds md e=true→e.on≠i:=fun e he hb heq=>by
    have h1:=hall e he hb
    rw [heq,getD_both' hiun] at h1
    cases h1
   have hneed:needsS md ops qs j=true:=by
    unfold needsS
    rw [List.any_eq_true]
    refine ⟨i,hq,?_⟩
    simp only [Bool.and_eq_true,Bool.not_eq_true',beq_eq_false_iff_ne]
    refine ⟨fun e=>hji e.symm,?_⟩
    cases hre:reaches md ops ops.size j i with
    | false=>rfl
    | true=>
     have:=reaches_listed hcl ops.size j i (fun o' ho' e he hb=>by
      have:o'=oj:=Option.some.inj (ho'.symm.trans hoj)
      subst this
      exact hall e he hb) hre
     rw [getD_both' hiun] at this
     cases this
   have h2:=wpOp_putIf hoj (hfree j oj hoj hji hjun hnot) (fun cs b=>hsel i oi cs b hi) (fun cs b=>hsel j oj cs b hoj) hQ hy h1
   have hfree':∀k ok,ops[k]? =some ok→k≠i→(listed.setIfInBounds j true).getD k true=false→
     (∀e∈ok.after,Region.binds md e=true→e.on≠i)→oi.apart ops ok=true:=fun k ok hk hki hun hno=>by
    refine hfree k ok hk hki ?_ hno
    by_cases hjk:j=k
    ·subst hjk;exact hjun
    ·rw [getD_set_ne true hjk] at hun;exact hun
   refine wpOp_mono (fun a' w' h3=>⟨h3.2.1,ih (listed.setIfInBounds j true) a' w' (hcl.set hj) hfree' (ready_mono hr (Ne.symm hji)) h3.1 (h3.2.1 hneed) ?_⟩) h2
   rw [Array.setIfInBounds_comm _ _ hji]
   exact h3.2.2
def mixB (md:Region.Mode) (ops:Array Oper) (qs:List Nat):List Nat→Array Bool→Bool
 | [],listed=>(Region.ready md ops listed).isEmpty
 | i::r,listed=>(if qs.contains i then (Region.ready md ops listed).contains i && Region.free md ops listed i else decide (Region.ready md ops listed= [i])) && mixB md ops qs r (listed.setIfInBounds i true)
def wpMix (P:Program) (md:Region.Mode) (ops:Array Oper) (Q:Exit→Act→World→Prop) (S:World→Prop) (qs:List Nat):List Nat→Act→World→Prop
 | [],a,w=>Q .normal a w
 | i::r,a,w=>if qs.contains i then S w∧∃o v,ops[i]? =some o∧YieldsIf P ops S o v a∧(∀c a w,Q (.panic c) (a.put o.dst v) w→Q (.panic c) a w)∧wpMix P md ops Q S qs r (a.put o.dst v) w
  else wpOp P ops Q i (fun a' w'=>(needsS md ops qs i=true→S w')∧wpMix P md ops Q S qs r a' w') a w
theorem wpAnyM_of_mix {qs:List Nat} (hsel:Region.noSelect ops=true):∀(l:List Nat) (listed:Array Bool) (a:Act) (w:World),Closed md ops listed→mixB md ops qs l listed=true→
  wpMix P md ops Q S qs l a w→wpAnyM P md ops Q S qs l.length listed a w
 | [],_,_,_,_,hB,h=>⟨by simpa [mixB] using hB,h⟩
 | i::r,listed,a,w,hc,hB,h=>by
  simp only [mixB,Bool.and_eq_true] at hB
  obtain ⟨h1,hB'⟩:=hB
  unfold wpMix at h
  by_cases hq:qs.contains i=true
  ·simp only [hq,if_true,Bool.and_eq_true] at h h1
   obtain ⟨hS,o,v,ho,hy,hQ,hK⟩:=h
   have hr:i∈Region.ready md ops listed:=by simpa using h1.1
   exact wpAnyM_first ho (by simpa using hq) (Region.noSelect_spec hsel) hQ r.length listed a w hc (Region.free_spec ho h1.2) hr hy hS
    (wpAnyM_of_mix hsel r _ _ w (hc.set hr) hB' hK)
  ·simp only [hq,Bool.false_eq_true,if_false,decide_eq_true_eq] at h h1
   refine ⟨fun h0=>(by rw [h1] at h0;cases h0),fun j hj=> ?_⟩
   have hj':=hj
   rw [h1] at hj'
   have:j=i:=by simpa using hj'
   subst this
   exact wpOp_mono (fun a' w' h'=>⟨h'.1,wpAnyM_of_mix hsel r _ a' w' (hc.set hj) hB' h'.2⟩) h
theorem closed_none (md:Region.Mode) (ops:Array Oper) (n:Nat):Closed md ops (Array.replicate n false):=by
 intro j oj _ hl
 exfalso
 rcases Nat.lt_or_ge j n with h | h
 ·simp [h] at hl
 ·rw [Array.getD_eq_getD_getElem?,Array.getElem?_eq_none (by simpa using h)] at hl
  cases hl
def mixOK (ops:Array Oper) (qs l:List Nat):Bool:=Region.noSelect ops && decide (l.length=ops.size) && mixB .any ops qs l (Array.replicate ops.size false)
theorem wpAny_of_mix {qs l:List Nat} {a:Act} {w:World} (hB:mixOK ops qs l=true) (h:wpMix P .any ops Q S qs l a w):wpAny P .any ops Q ops.size (Array.replicate ops.size false) a w:=by
 simp only [mixOK,Bool.and_eq_true,decide_eq_true_eq] at hB
 have:=wpAnyM_of_mix hB.1.1 l _ a w (closed_none _ _ _) hB.2 h
 rw [hB.1.2] at this
 exact wpAny_of_mixed _ _ _ _ this
theorem wp_region_mix {id:Nat} {a:Act} {w:World} (S:World→Prop) (qs l:List Nat) (hm:P.follows .mixedOrders=true) (hB:mixOK ops qs l=true)
  (h:wpMix P .any ops Q S qs l a w.drew):(Code.region id ops true).wp P Q a w:=
 wp_region_any hm (wpAny_of_mix hB h)
theorem wpMix_nil {qs:List Nat} {a:Act} {w:World} (h:Q .normal a w):wpMix P md ops Q S qs [] a w:=h
theorem wpMix_q {qs r:List Nat} {i:Nat} {a:Act} {w:World} {o:Oper} {v:Value} (hq:qs.contains i=true) (ho:ops[i]? =some o) (hQ:∀c a w,Q (.panic c) (a.put o.dst v) w→Q (.panic c) a w)
  (hS:S w) (hy:Region.wanted o (yielded ops a.tmps)=true∧∀w,S w→(execOp a.eval o).run P w= .ok (.value v) w) (h:wpMix P md ops Q S qs r (a.put o.dst v) w):wpMix P md ops Q S qs (i::r) a w:=by
 unfold wpMix
 rw [if_pos hq]
 exact ⟨hS,o,v,ho, .inl hy,hQ,h⟩
theorem wpOp_of_list {i:Nat} {o:Oper} {K:Act→World→Prop} {a:Act} {w:World} (ho:ops[i]? =some o) (h:wpList P ops (Exit.then K Q) [o] a w):wpOp P ops Q i K a w:=by
 have hl:LetsOut (Exit.then K Q)→LetsOut Q:=fun ⟨a,w,h⟩=>⟨a,w,h⟩
 unfold wpOp
 simp only [ho]
 unfold wpList at h
 split
 ·rename_i hw
  rw [if_pos hw] at h
  refine h.imp (fun h=> ?_) (fun ⟨h1,h2⟩=>⟨h1,hl h2⟩)
  unfold Oper.wp at*
  generalize (execOp a.eval o).run P w=res at*
  cases res with
  | ok n w'=>
   cases n <;>simp only [Oper.upon] at h⊢ <;>
    first
     | exact h
     | exact Calls.mono h (fun e w'' he=>by cases e <;>first | exact he | exact hl he)
     | exact Rows.mono h (fun _ _ he=>he)
  | halt x w'=>cases x <;>simp only [Oper.upon] at h⊢ <;>exact h
 ·rename_i hw
  rw [if_neg hw] at h
  exact h
theorem wpMix_n {qs r:List Nat} {i:Nat} {a:Act} {w:World} {o:Oper} (hq:qs.contains i=false) (ho:ops[i]? =some o)
  (h:wpList P ops (Exit.then (fun a' w'=>(needsS md ops qs i=true→S w')∧wpMix P md ops Q S qs r a' w') Q) [o] a w):wpMix P md ops Q S qs (i::r) a w:=by
 unfold wpMix
 rw [if_neg (by rw [hq];exact Bool.false_ne_true)]
 exact wpOp_of_list ho h
theorem wpMix_tail {qs:List Nat}:∀(r:List Nat) (os:List Oper) {a:Act} {w:World},(r.all fun i=> !qs.contains i && !needsS md ops qs i)=true→r.map (fun i=>ops[i]?)=os.map some→
  wpList P ops Q os a w→wpMix P md ops Q S qs r a w
 | [], [],_,_,_,_,h=>h
 | [],_::_,_,_,_,hm,_=>by simp at hm
 | _::_, [],_,_,_,hm,_=>by simp at hm
 | i::r,o::os,a,w,hB,hm,h=>by
  simp only [List.all_cons,Bool.and_eq_true,Bool.not_eq_true'] at hB
  simp only [List.map_cons,List.cons.injEq] at hm
  unfold wpMix
  rw [if_neg (by rw [hB.1.1];exact Bool.false_ne_true)]
  have hstep:wpOp P ops Q i (wpList P ops Q os) a w:=by
   unfold wpOp
   simp only [hm.1]
   unfold wpList at h
   exact h
  exact wpOp_mono (fun a' w' h'=>⟨fun hn=>(by rw [hB.1.2] at hn;cases hn),wpMix_tail r os (by simpa using hB.2) hm.2 h'⟩) hstep
end
end Go.Proofs.YtmemofonebphfaaGreat
