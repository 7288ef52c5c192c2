import Derived.Test.YtmemofonebphfaaGreatRows
import Derived.Carry
import Derived.OpenShut
import Derived.ProofKit
import Derived.ChangeSame
import Derived.Test.YtmemofonebphfaaGreatV11
namespace Go.Proofs.YtmemofonebphfaaGreat
open Go.ChangeShapes Go.WideShapes Go.ChangeAt Go.RowKit
theorem laidOut:laidOutB Tryz.prog=true:=by kernel_rfl
theorem ownK:ownKnob Tryz.prog.godebug=none:=by kernel_rfl
theorem arg_stays {H:Type} {enc:TypeId × Value→H} {t:TypeId} (hr:Tryz.prog.readableRec t=true) (hrow:t < Tryz.prog.types.size) {W W':World} {sp:Nat→Bool} {v:Value} {d:DataW H} {ps:List MemPlace}
  (h:DataW.Trod enc Tryz.prog W 0 (fun _=>true) true t v d ps) (hb:Below W.heap.size W W') (hlt:∀x∈ps,x.block < W.heap.size) (hs:∀p∈ps,sp p.block=true):DataW.Trod enc Tryz.prog W' 0 sp true t v d ps:=
 WideElems.Trod_stays laidOut hr hrow h (fun x hx=>hb.same (hlt x hx)) hs
theorem args_stay {H:Type} {enc:TypeId × Value→H} {W W':World} {sp:Nat→Bool} (hb:Below W.heap.size W W'):∀{ts:List TypeId} {vs:List Value} {ds:List (DataW H)} {ps:List MemPlace},(∀t∈ts,Tryz.prog.readableRec t=true∧t < Tryz.prog.types.size)→
  DataW.TrodAll enc Tryz.prog W 0 (fun _=>true) true ts vs ds ps→(∀x∈ps,x.block < W.heap.size)→(∀x∈ps,sp x.block=true)→DataW.TrodAll enc Tryz.prog W' 0 sp true ts vs ds ps
 | [],vs,ds,ps,_,h,_,_=>by
  obtain ⟨rfl,rfl,rfl⟩:=trodAll_nil h
  exact trodAll_mk0
 | t::ts,vs,ds,ps,ht,h,hl,hs=>by
  obtain ⟨v,vs',d,ds',p,q,rfl,rfl,rfl,h1,h2⟩:=trodAll_cons h
  exact trodAll_cons_mk (arg_stays (ht t (by simp)).1 (ht t (by simp)).2 h1 hb (fun x hx=>hl x (by simp [hx])) (fun x hx=>hs x (by simp [hx])))
   (args_stay hb (fun u hu=>ht u (by simp [hu])) h2 (fun x hx=>hl x (by simp [hx])) (fun x hx=>hs x (by simp [hx])))
set_option maxRecDepth 100000 in
theorem law_close {H:Type} {enc:TypeId × Value→H} {f:Func} {s:ChangeSpec} {W W':World} {args:Array Value} {ds:List (DataW H)} {before:List MemPlace} (hrt:f.resultTypes=#[4]) (hvs:s.vars= [])
  (hW:DataW.Whole enc Tryz.prog f.params.toList s.vars false W args.toList ds [] before) (hfn:s.fn H ds={results:= [.lit (.bool true)],args:=ds}) (hro:∀t∈f.params.toList,Tryz.prog.readableRec t=true∧t < Tryz.prog.types.size)
  (hb:Below W.heap.size W W'):s.post enc Tryz.prog f false true false false W args (.bool true) W':=by
 have hlt:∀p∈before,p.block < W.heap.size:=fun p hp=>hW.lt p hp
 have hW0:=hW
 obtain ⟨p,q,hA,hV,hps,hz,hn⟩:=hW0
 rw [hvs] at hV
 obtain ⟨_,hq⟩:=trodVars_none hV
 subst hq
 rw [List.append_nil] at hps
 subst hps
 have hF:s.fn H (ds++ [])={results:= [.lit (.bool true)],args:=ds}:=by rw [List.append_nil];exact hfn
 have hst:∀sp:Nat→Bool,(∀x∈before,sp x.block=true)→DataW.TrodAll enc Tryz.prog W' 0 sp true f.params.toList args.toList ds before:=fun sp hsp=>args_stay hb hro hA hlt hsp
 have hres:∀(b:Nat) (sp:Nat→Bool) (hd:Bool),DataW.TrodAll enc Tryz.prog W' b sp hd f.resultTypes.toList ((Value.bool true).resultList f.resultTypes.size) [.lit (.bool true)] []:=fun b sp hd=>by
  rw [hrt]
  exact trodAll_mk1 (shut_bool Tryz.underlying4 true)
 have hold:∀x∈before,(fun b=>decide (b < W.heap.size)) x.block=true:=fun x hx=>by simpa using hlt x hx
 have hva:∀sp:Nat→Bool,DataW.TrodVars enc Tryz.prog W' sp s.vars [] []:=fun sp=>by rw [hvs];rfl
 refine ⟨ds, [],before, [],before, [],hW,by rw [hF];exact hres _ _ _,by rw [hF];exact hst _ hold,by rw [hF];exact hva _,World.keptBut_mono (fun x hx=>⟨hx, .inr (.inl hx)⟩) (hb.frame (·∈before)),fun _=> ?_⟩
 refine ⟨?_, [.lit (.bool true)]++ds, [], []++before,⟨[]++before, [],trodAll_append (hst _ (fun _ _=>rfl)) (hres _ _ _),hva _,by simp,?_,fun h=>by cases h⟩,?_⟩
 ·intro j t r hj hr
  rw [hrt] at hj hr
  cases j with
  | zero=>
   simp [Value.resultList] at hj hr
   subst hj;subst hr
   exact okWide_bool_mk Tryz.underlying4 _
  | succ j=>simp at hj
 ·intro b off hp
  have hin:MemPlace.cell b off∈before:=by simpa using hp
  rw [hb.frozen (hlt _ hin)]
  exact hz b off hin
 ·intro x hx _
  simpa using hx
end Go.Proofs.YtmemofonebphfaaGreat
