import Derived.Test.YtmemofonebphfaaGreatP47
namespace Go.Proofs.YtmemofonebphfaaGreat
section
variable {α:Type} {lt:α→α→Bool}
theorem Tot.sort_id (h:Tot lt) {l:List α} (hs:l.Pairwise (fun a b=>leO lt a b=true)):sortO lt l=l:=(h.uniq (.refl _) hs).symm
end
end Go.Proofs.YtmemofonebphfaaGreat
namespace Go.Proofs.YtmemofonebphfaaGreat
open Go.RowKit Go.Sort Go.WideMaps Go.Maps
theorem Own.lower {α:Type} {enc:α→List Value} {k base base' n:Nat} {e:TypeId} {w:World} {v:Value} {xs:List α} (h:Own enc k e w base v n xs) (hb:base'≤base):Own enc k e w base' v n xs:=by
 rcases h.2.2 with h0 | ⟨g,cap,cur,a,b,c⟩
 ·exact ⟨h.1,h.2.1, .inl h0⟩
 ·exact ⟨h.1,h.2.1, .inr ⟨g,cap,cur,a,Nat.le_trans hb b,c⟩⟩
end Go.Proofs.YtmemofonebphfaaGreat
namespace Go.Proofs.YtmemofonebphfaaGreat
open Go.Shelf
def sortPtL_ren:Go.Shelf.Ren:=⟨fun | 6=>88 | 15=>114 | 14=>115 | 28=>136 | 29=>137 | 20=>138 | 21=>139 | 22=>140 | 23=>141 | 24=>142 | 25=>143 | 26=>144 | 27=>145 | 46=>164 | 47=>160 | 48=>161 | 49=>165 | 50=>166 | 57=>171 | n=>n,fun | 22=>28 | 24=>43 | 25=>101 | 3=>3 | 39=>136 | 0=>0 | 53=>182 | 55=>184 | 4=>4 | 46=>176 | 45=>175 | 50=>96 | 5=>5 | 9=>9 | 66=>198 | 70=>202 | 76=>208 | 77=>209 | n=>n,fun | n=>n⟩
theorem sortPtL:Go.Proofs.SlLaysF0.n6 Tryz.prog sortPtL_ren:=
 {mixed:=by kernel_rfl,f6:=⟨Tryz.f88.name,by decide,Tryz.func88.trans (congrArg some (by kernel_rfl))⟩,f14:=⟨Tryz.f115.name,by decide,Tryz.func115.trans (congrArg some (by kernel_rfl))⟩,f15:=Tryz.func114.trans (congrArg some (by kernel_rfl)),f20:=⟨Tryz.f138.name,by decide,Tryz.func138.trans (congrArg some (by kernel_rfl))⟩,f21:=⟨Tryz.f139.name,by decide,Tryz.func139.trans (congrArg some (by kernel_rfl))⟩,f22:=⟨Tryz.f140.name,by decide,Tryz.func140.trans (congrArg some (by kernel_rfl))⟩,f23:=⟨Tryz.f141.name,by decide,Tryz.func141.trans (congrArg some (by kernel_rfl))⟩,f24:=⟨Tryz.f142.name,by decide,Tryz.func142.trans (congrArg some (by kernel_rfl))⟩,f25:=⟨Tryz.f143.name,by decide,Tryz.func143.trans (congrArg some (by kernel_rfl))⟩,f26:=⟨Tryz.f144.name,by decide,Tryz.func144.trans (congrArg some (by kernel_rfl))⟩,f27:=⟨Tryz.f145.name,by decide,Tryz.func145.trans (congrArg some (by kernel_rfl))⟩,f28:=Tryz.func136.trans (congrArg some (by kernel_rfl)),f29:=Tryz.func137.trans (congrArg some (by kernel_rfl)),f46:=⟨Tryz.f164.name,by decide,Tryz.func164.trans (congrArg some (by kernel_rfl))⟩,f47:=Tryz.func160.trans (congrArg some (by kernel_rfl)),f48:=Tryz.func161.trans (congrArg some (by kernel_rfl)),f49:=⟨Tryz.f165.name,by decide,Tryz.func165.trans (congrArg some (by kernel_rfl))⟩,f50:=⟨Tryz.f166.name,by decide,Tryz.func166.trans (congrArg some (by kernel_rfl))⟩,f57:=⟨Tryz.f171.name,by decide,Tryz.func171.trans (congrArg some (by kernel_rfl))⟩,t0:=Tryz.underlying0,a0:=Tryz.isAgg0,z0:=Tryz.sizeOf0,v0:=Tryz.zeroValue0,t3:=Tryz.underlying3,a3:=Tryz.isAgg3,z3:=Tryz.sizeOf3,v3:=Tryz.zeroValue3,t4:=Tryz.underlying4,a4:=Tryz.isAgg4,z4:=Tryz.sizeOf4,v4:=Tryz.zeroValue4,t5:=Tryz.underlying5,a5:=Tryz.isAgg5,z5:=Tryz.sizeOf5,v5:=Tryz.zeroValue5,t9:=Tryz.underlying9,a9:=Tryz.isAgg9,z9:=Tryz.sizeOf9,v9:=Tryz.zeroValue9,t22:=Tryz.underlying28,a22:=Tryz.isAgg28,z22:=Tryz.sizeOf28,v22:=Tryz.zeroValue28,t25:=Tryz.underlying101,a25:=Tryz.isAgg101,z25:=Tryz.sizeOf101,v25:=Tryz.zeroValue101,t39:=Tryz.underlying136,a39:=Tryz.isAgg136,z39:=Tryz.sizeOf136,v39:=Tryz.zeroValue136,t45:=Tryz.underlying175,a45:=Tryz.isAgg175,z45:=Tryz.sizeOf175,v45:=Tryz.zeroValue175,t46:=Tryz.underlying176,a46:=Tryz.isAgg176,z46:=Tryz.sizeOf176,v46:=Tryz.zeroValue176,t50:=Tryz.underlying96,a50:=Tryz.isAgg96,z50:=Tryz.sizeOf96,v50:=Tryz.zeroValue96,t53:=Tryz.underlying182,a53:=Tryz.isAgg182,z53:=Tryz.sizeOf182,v53:=Tryz.zeroValue182,t55:=Tryz.underlying184,a55:=Tryz.isAgg184,z55:=Tryz.sizeOf184,v55:=Tryz.zeroValue184,t66:=Tryz.underlying198,a66:=Tryz.isAgg198,z66:=Tryz.sizeOf198,v66:=Tryz.zeroValue198,t70:=Tryz.underlying202,a70:=Tryz.isAgg202,z70:=Tryz.sizeOf202,v70:=Tryz.zeroValue202,t76:=Tryz.underlying208,a76:=Tryz.isAgg208,z76:=Tryz.sizeOf208,v76:=Tryz.zeroValue208,t77:=Tryz.underlying209,a77:=Tryz.isAgg209,z77:=Tryz.sizeOf209,v77:=Tryz.zeroValue209}
end Go.Proofs.YtmemofonebphfaaGreat
namespace Go.Proofs.YtmemofonebphfaaGreat
open Go.RowKit Go.Sort
theorem ltOf_cmpP:ltOf cmpP=ltP:=by
 funext a b
 unfold ltOf
 rw [Bool.eq_iff_iff]
 simp [cmpP_neg]
end Go.Proofs.YtmemofonebphfaaGreat
namespace Go.Proofs.YtmemofonebphfaaGreat
open Go.RowKit Go.Sort
theorem corners_sort {L:List Pt} {ts:List Tri} (hn:L.Nodup) (hm:∀q,q∈L ↔ q∈corsP ts):sortG ltP L=cornersP ts:=
 srt_uniq sto_P (sortG_srt sto_P hn) (corners_both ts).1 fun q=>by rw [sortG_mem,hm,(corners_both ts).2]
theorem corners_len (ts:List Tri):(cornersP ts).length=(dedup (corsP ts)).length:=by
 rw [←corners_sort (dedup_nodup _) (fun q=>dedup_mem),sortG_length]
end Go.Proofs.YtmemofonebphfaaGreat
namespace Go.Proofs.YtmemofonebphfaaGreat
open Go.RowKit Go.Sort
def cyc3 (t:Tri):Tri:=(t.2.1,t.2.2,t.1)
theorem tri3_cyc (t:Tri):(tri3 (cyc3 t)).Perm (tri3 t):=by
 show [(t.2.1,t.2.2,t.1),(t.2.2,t.1,t.2.1),(t.1,t.2.1,t.2.2)].Perm [t,(t.2.1,t.2.2,t.1),(t.2.2,t.1,t.2.1)]
 exact (List.perm_append_comm (l₁:= [(t.2.1,t.2.2,t.1),(t.2.2,t.1,t.2.1)]) (l₂:= [(t.1,t.2.1,t.2.2)]))
section
variable {s t:List Tri} (h:(tripP s).Perm (tripP t))
include h
theorem edges_perm:(edgesP s).Perm (edgesP t):=by rw [edges_trip,edges_trip];exact h.map _
theorem cors_perm:(corsP s).Perm (corsP t):=by rw [cors_trip,cors_trip];exact h.map _
theorem flat_perm:s.any flatT=t.any flatT:=by
 rw [flat_trip,flat_trip]
 exact h.any_eq
theorem behP_perm (hn:(edgesP t).Nodup) (p q:Pt):behP s p q=behP t p q:=by
 have hs:(edgesP s).Nodup:=(edges_perm h).nodup_iff.2 hn
 cases ht:behP t p q with
 | some x=>exact (behP_iff hs).2 (h.mem_iff.2 ((behP_iff hn).1 ht))
 | none=>
  cases hb:behP s p q with
  | none=>rfl
  | some x=>
   have:=(behP_iff hn).2 (h.mem_iff.1 ((behP_iff hs).1 hb))
   rw [ht] at this;cases this
theorem cntC_perm (p:Pt):cntC s p=cntC t p:=by rw [cntC_count,cntC_count];exact (cors_perm h).count_eq p
theorem ringM_perm (hn:(edgesP t).Nodup) (e:Ed):ringM s e=ringM t e:=by
 unfold ringM
 rw [behP_perm h hn,cntC_perm h,show (fun q=>behP s e.1 q)=fun q=>behP t e.1 q from funext fun q=>behP_perm h hn e.1 q]
theorem border_perm:borderP s=borderP t:=
 srt_uniq sto_E (border_both s).1 (border_both t).1 fun e=>by
  rw [(border_both s).2,(border_both t).2,(edges_perm h).mem_iff,(edges_perm h).mem_iff]
theorem check_perm (op:Bool):checkP s op=checkP t op:=by
 rw [check_is,check_is,flat_perm h,border_perm h]
 have hnd:=(edges_perm h).nodup_iff
 by_cases hn:(edgesP t).Nodup
 ·have hr:(edgesP s).any (ringM s)=(edgesP t).any (ringM t):=by
   rw [(edges_perm h).any_eq]
   exact congrArg _ (funext fun e=>ringM_perm h hn e)
  rw [hr]
  simp only [hnd]
 ·simp only [hnd]
  by_cases hf:t.any flatT=true
  ·rw [if_pos hf,if_pos hf]
  ·rw [if_neg hf,if_neg hf,if_pos hn,if_pos hn]
end
end Go.Proofs.YtmemofonebphfaaGreat
namespace Go.Proofs.YtmemofonebphfaaGreat
open Go.RowKit Go.Sort
def distT4 (t:Tri):Prop:=t.1≠t.2.1∧t.2.1≠t.2.2∧t.2.2≠t.1
theorem ltP_not4 {a b:Pt} (h:a≠b):ltP a b= !ltP b a:=by
 cases h1:ltP a b <;>cases h2:ltP b a
 ·exact absurd (sto_P.total _ _ h1 h2) h
 ·rfl
 ·rfl
 ·have:=sto_P.trans _ _ _ h1 h2;rw [sto_P.irrefl] at this;cases this
theorem rotT_cyc4 {t:Tri} (h:distT4 t):rotT (cyc3 t)=rotT t:=by
 obtain ⟨a,b,c⟩:=t
 obtain ⟨hab,hbc,hca⟩:=h
 simp only at hab hbc hca
 have e1:=ltP_not4 hbc.symm
 have e2:=ltP_not4 hca.symm
 have e3:=ltP_not4 hab.symm
 show (if ltP c b=true then (if ltP a c=true then (a,b,c) else (c,a,b)) else (if ltP a b=true then (a,b,c) else (b,c,a)))=(if ltP b a=true then (if ltP c b=true then (c,a,b) else (b,c,a)) else (if ltP c a=true then (c,a,b) else (a,b,c)))
 cases h1:ltP a b <;>cases h2:ltP b c <;>cases h3:ltP c a <;>simp only [h1,h2,h3] at e1 e2 e3 <;>simp [e1,e2,e3]
 ·have:=sto_P.trans _ _ _ e1 e3
  have:=sto_P.trans _ _ _ this e2
  rw [sto_P.irrefl] at this;cases this
 ·have:=sto_P.trans _ _ _ (sto_P.trans _ _ _ h1 h2) h3
  rw [sto_P.irrefl] at this;cases this
theorem distT4_cyc {t:Tri} (h:distT4 t):distT4 (cyc3 t):=⟨h.2.1,h.2.2,h.1⟩
theorem rotT_cases4 (t:Tri):rotT t=t∨rotT t=cyc3 t∨rotT t=cyc3 (cyc3 t):=by
 obtain ⟨a,b,c⟩:=t
 unfold rotT
 split <;>split
 ·exact .inr (.inr rfl)
 ·exact .inr (.inl rfl)
 ·exact .inr (.inr rfl)
 ·exact .inl rfl
theorem rotT_tri3 {t u:Tri} (hd:distT4 t) (h:u∈tri3 t):rotT u=rotT t:=by
 simp only [tri3,List.mem_cons,List.not_mem_nil,or_false] at h
 rcases h with rfl | rfl | rfl
 ·rfl
 ·exact rotT_cyc4 hd
 ·exact (rotT_cyc4 (distT4_cyc hd)).trans (rotT_cyc4 hd)
theorem rotT_idem4 (t:Tri):rotT (rotT t)=rotT t:=by
 obtain ⟨a,b,c⟩:=t
 have h0:=sto_P.irrefl
 have htr:=sto_P.trans
 have hto:=sto_P.total
 show rotT (if ltP b a=true then (if ltP c b=true then (c,a,b) else (b,c,a)) else (if ltP c a=true then (c,a,b) else (a,b,c)))=(if ltP b a=true then (if ltP c b=true then (c,a,b) else (b,c,a)) else (if ltP c a=true then (c,a,b) else (a,b,c)))
 have as1:∀x y,ltP x y=true→ltP y x=false:=fun x y h=>by
  cases h2:ltP y x with
  | false=>rfl
  | true=>have:=htr _ _ _ h h2;rw [h0] at this;cases this
 split <;>split
 ·rename_i h1 h2
  have h3:=htr _ _ _ h2 h1
  show (if ltP a c=true then _ else (if ltP b c=true then _ else (c,a,b)))=_
  rw [as1 _ _ h3,as1 _ _ h2];rfl
 ·rename_i h1 h2
  have h2:ltP c b=false:=by simpa using h2
  show (if ltP c b=true then _ else (if ltP a b=true then _ else (b,c,a)))=_
  rw [h2,as1 _ _ h1];rfl
 ·rename_i h1 h2
  have h1:ltP b a=false:=by simpa using h1
  have h3:ltP b c=false:=by
   cases h3:ltP b c with
   | false=>rfl
   | true=>have:=htr _ _ _ h3 h2;rw [h1] at this;cases this
  show (if ltP a c=true then _ else (if ltP b c=true then _ else (c,a,b)))=_
  rw [as1 _ _ h2,h3];rfl
 ·rename_i h1 h2
  have h1:ltP b a=false:=by simpa using h1
  have h2:ltP c a=false:=by simpa using h2
  show (if ltP b a=true then _ else (if ltP c a=true then _ else (a,b,c)))=_
  rw [h1,h2];rfl
theorem tri3_self {x y:Tri} (h:y∈tri3 x):(tri3 y).Perm (tri3 x):=by
 simp only [tri3,List.mem_cons,List.not_mem_nil,or_false] at h
 rcases h with rfl | rfl | rfl
 ·exact List.Perm.refl _
 ·exact tri3_cyc x
 ·exact (tri3_cyc (cyc3 x)).trans (tri3_cyc x)
end Go.Proofs.YtmemofonebphfaaGreat
namespace Go.Proofs.YtmemofonebphfaaGreat
open Go.RowKit Go.Sort Go.Lib
set_option maxRecDepth 100000
section
attribute [local go_sem ↓] Go.wp_at_zero Go.wp_at_succ
end
theorem sort_pt_none (p:Option Addr) (c:Nat) (w:World):Calls Tryz.prog 88 #[.slice p 0 c, .func (.func 53) #[] #[]] w fun e w'=>e= .returned (.tuple #[])∧w=w':=by
 have h:=AnyF.slices_SortFunc_none sortPtL p c (.func (.func 53) #[] #[]) w
 exact h.mono fun e w' h=>⟨h.1,h.2.symm⟩
theorem sort_pt_own (g cap n base:Nat) (ts:List Pt) (w:World) (hO:Own encP 3 43 w base (.slice (some ⟨g,0,none⟩) n cap) n ts) (hn:ts.length < 4611686018427387904):
  Calls Tryz.prog 88 #[.slice (some ⟨g,0,none⟩) n cap, .func (.func 53) #[] #[]] w fun e w'=>
   e= .returned (.tuple #[])∧w.grownBy w' (some g)∧Own encP 3 43 w' base (.slice (some ⟨g,0,none⟩) n cap) n (sortG ltP ts):=by
 have hH:=hO.holdsK encP_len
 have hlen:=hO.1
 rcases hO.2.2 with ⟨h0,_⟩ | ⟨g',cap',cur,hv,hbg,hg,hc,hm,hs,_⟩
 ·cases h0
 injection hv with hv _ hcc
 injection hv with hv
 injection hv with hv
 subst hv
 subst hcc
 have hlt:g < w.heap.size:=(Array.getElem?_eq_some_iff.1 hg).1
 have eg:∀args w,(callFunc 53 args).run Tryz.prog w= .ok (.enter 53 args) w:=enters_of Tryz.func53 (by kernel_rfl) rfl
 have hO:SWO (ltOf cmpP):=by rw [ltOf_cmpP];exact sto_P.swo
 have hT:∀x y,ltOf cmpP x y=false→ltOf cmpP y x=false→x=y:=by rw [ltOf_cmpP];exact sto_P.total
 have h:=AnyQ.slices_SortFunc_total sortPtL 3 Tryz.isAgg43 Tryz.sizeOf43 encP encP_len encP_one cmpP hO 53 #[] g 0 cap ts.toArray w eg
  (fun _ _ _ _ x y=>cmpPoints_any x y _) hH hlt (by simpa using hn) hT
 change Calls Tryz.prog 88 _ _ _ at h
 rw [ltOf_cmpP] at h
 rw [show ts.toArray.size=n by simp [hlen]] at h
 refine h.mono ?_
 rintro e w' ⟨rfl,m,os,rfl⟩
 refine ⟨rfl,sortWorldK_grownBy,?_⟩
 have hHs:HoldsK encP 3 (sortWorldK encP 3 w g 0 m (sortG ltP ts).toArray os) g 0 (sortG ltP ts).toArray:=sortWorldK_holds hlt hH (by simp [sortG])
 have hgs:∃cur',(sortWorldK encP 3 w g 0 m (sortG ltP ts).toArray os).heap[g]? =some (.cells cur' 43 (0,0))∧cur'.size=cur.size:=by
  unfold sortWorldK
  rw [heap_grow_old _ _ (by simpa [putRowK] using hlt)]
  simp only [putRowK,putRow,mapBlock,heap_ahead,Array.getElem?_modify,hg,if_true,Option.map_some]
  exact ⟨_,rfl,by simp [putCells]⟩
 obtain ⟨cur',hg',hsz⟩:=hgs
 exact Own.of_holdsK encP_len hbg hg' hc hm (by rw [hsz,hs]) (by rw [hlen];simp [sortG]) hHs
end Go.Proofs.YtmemofonebphfaaGreat
namespace Go.Proofs.YtmemofonebphfaaGreat
open Go.RowKit Go.Sort Go.WideMaps Go.Maps
set_option maxRecDepth 100000
set_option maxHeartbeats 8000000 in
theorem sortedP_any (mb n:Nat) (L:List Pt) (w:World) (hM:SetPM w mb n L) (hn:L.Nodup) (hf:∀p∈L,fitsP p) (hl:L.length≤1073741824):
  Calls Tryz.prog 52 #[.map (some mb), .func (.func 53) #[] #[]] w fun e w'=>∃v,e= .returned v∧Own encP 3 43 w' w.heap.size v L.length (sortG ltP L)∧Below w.heap.size w w':=by
 obtain ⟨w1,c0,hrun,hrg,hg1,hz1,_⟩:=MapK.range_le kfP4 (t:=98) (e:=4) (show MapK Tryz.prog 43 vP fitsP w mb n (setK4 L) from hM) Tryz.underlying98
 have hB1:=below_of_grown_none hg1 (Nat.le_refl _)
 have hmb:=hM.lt
 have hrg0:∀p,(setK4 L p).isSome=true ↔ p∈L:=fun p=>by
  unfold setK4
  by_cases h:p∈L
  ·rw [if_pos h];exact ⟨fun _=>h,fun _=>rfl⟩
  ·rw [if_neg h];exact ⟨fun h'=>(by cases h'),fun h'=>absurd h' h⟩
 have HG:=hide (And.intro hrg (And.intro hB1 (And.intro hz1 (And.intro hn (And.intro hf (And.intro hl (And.intro hmb hrg0)))))))
 clear hrg hB1 hg1 hM hn hf hl hmb hrg0
 have hz1':w.heap.size+1≤w1.heap.size:=by omega
 clear hz1
 go_enter Tryz.func52,Tryz.ntmps52
 go_wp2_with fail
 go_loopw [5] (fun v wr=>∃(left:Pt→Bool) (c m:Nat) (ks:List Pt),RngK Tryz.prog 43 vP fitsP wr mb w.heap.size n (setK4 L) left c∧Own encP 3 43 wr w1.heap.size v m ks∧m≤1073741824∧ks.Nodup∧(∀p∈ks,p∈L)∧(∀p∈L,p∈ks∨left p=true)∧(∀p,left p=true→p∈L∧p ∉ ks)∧Below w.heap.size w wr∧w1.heap.size≤wr.heap.size) (fun _ wr=>wr.rangeLeft mb w.heap.size)
 case atStart=>exact ⟨_,c0,0, [],HG.out.1,Own.nil,by omega,List.nodup_nil,(fun p h=>by cases h),fun p h=> .inr ((HG.out.2.2.2.2.2.2.2 p).2 h),fun p h=>⟨(HG.out.2.2.2.2.2.2.2 p).1 h,by simp⟩,HG.out.2.1,Nat.le_refl _⟩
 case round=>
  obtain ⟨left,c,m,ks,hrg,hown,hm,hnd,hsub,hcov,hlf,hB,hz⟩:=hrel
  obtain ⟨V,rfl⟩:∃V,V=wr:=⟨_,rfl⟩
  obtain ⟨A1,c1,rfl⟩:=hown.form
  rcases hrg.next kfP4 0 with ⟨_,hdone,hrunN⟩ | ⟨p,pv,w8,c',hok,hleft,hm8,hrunN,hr8,hlt8,hg8,hz8,hent⟩
  ·have hall:∀p∈L,p∈ks:=fun p hp=>by
    rcases hcov p hp with h | h
    ·exact h
    ·rw [hdone p (HG.out.2.2.2.2.1 p hp)] at h;cases h
   have hperm:ks.Perm L:=(List.perm_ext_iff_of_nodup hnd HG.out.2.2.2.1).2 fun p=>⟨hsub p,hall p⟩
   have hlen:m=L.length:=hown.1.trans hperm.length_eq
   have hsort:sortG ltP ks=sortG ltP L:=srt_uniq sto_P (sortG_srt sto_P hnd) (sortG_srt sto_P HG.out.2.2.2.1) fun p=>by rw [sortG_mem,sortG_mem];exact ⟨hsub p,hall p⟩
   by_cases hne:ks= []
   ·subst hne
    have hm0:m=0:=hown.1
    subst hm0
    have HO:=hide (And.intro hown (And.intro hsort (And.intro hlen hB)))
    clear hrg hown hm hnd hsub hcov hlf hB hz hdone hall hperm hlen hsort hrun
    go_wp2_with (go_at_call 88;refine (sort_pt_none _ _ _).mono ?_;rintro e w1 ⟨rfl,rfl⟩)
    go_ret
    refine ⟨_,rfl,?_,HO.out.2.2.2⟩
    rw [←HO.out.2.2.1,←HO.out.2.1,show sortG ltP ([]:List Pt)= [] by simp [sortG]]
    exact HO.out.1.lower (by omega)
   ·obtain ⟨g,cap,hv,hbg,hlt⟩:=hown.at hne
    injection hv with e1 _ e3
    subst e1 e3
    have hcon:=sort_pt_own g c1 m w1.heap.size ks V hown (by rw [←hown.1];omega)
    rw [hsort,hlen] at hcon
    have HC:=hide (And.intro hcon (And.intro hlen (And.intro hB (show w.heap.size≤g by omega))))
    clear hrg hown hnd hsub hcov hlf hB hz hdone hall hperm hsort hrun hcon hbg hne
    rw [hlen]
    clear hlen hm
    go_wp2_with (go_at_call 88;refine (unhide HC).1.mono ?_;rintro e w9 ⟨rfl,hg9,hH9⟩)
    go_ret
    exact ⟨_,rfl,hH9.lower (by omega),HC.out.2.2.1.grown hg9 HC.out.2.2.1.size (fun r hr=>by injection hr with hr;have:=HC.out.2.2.2;omega)⟩
  ·have hpL:=hlf p hleft
   have hks:ks.length+1≤L.length:=by
    have h1:(ks++ [p]).length≤L.length:=by
     have h2:(ks++ [p]).Nodup:=nodup_snoc.2 ⟨hnd,hpL.2⟩
     exact nodup_sub_len h2 (fun q hq=>by
      rcases List.mem_append.1 hq with h | h
      ·exact hsub q h
      ·rw [List.mem_singleton.1 h];exact hpL.1)
    simpa using h1
   have hm1:m+1≤1073741824:=by have:=hown.1;have:=HG.out.2.2.2.2.2.1;omega
   have hrb:some w.heap.size≠(Value.slice A1 m c1).ownBlock:=fun e=>by have:=(hown.blk _ e.symm).1;omega
   have hown8:=hown.step hg8 (fun r hr=> .inl (by injection hr with hr;omega))
   have hz8':w1.heap.size≤w8.heap.size:=by omega
   have hB8:Below w.heap.size w w8:=hB.grown hg8 hB.size (fun r hr=>by injection hr with hr;omega)
   have hmbr:mb < w1.heap.size:=by have:=HG.out.2.2.2.2.2.2.1;omega
   have HO:=hide (And.intro hr8 (And.intro hown8 (And.intro hnd (And.intro hsub (And.intro hcov (And.intro hlf (And.intro hpL (And.intro hB8 (And.intro hm1 hlt8)))))))))
   have HL:=hide hrg.left_eq
   clear hrg hown hnd hsub hcov hlf hB hz hpL hm8 hg8 hks hown8 hB8 hleft hz8 hlt8 hrb hm hrun
   go_wp2_with (at_builtin;refine wpList_append1 rfl _ _ _ rfl Tryz.underlying28 infoPt rfl (by omega) encP_len encP_one rfl ((HO.out.2.1.alloc _).alloc _) (w8.heap.size+1) 1 p rfl (Blk.new' _ _ _ _ (by simp)) (by unfold maxLen;have:=HO.out.2.2.2.2.2.2.2.2.1;omega) (by have:=HO.out.2.2.2.2.2.2.2.2.1;omega) (by simp;omega) ?_;intro g cap w9 hown9 hg9 hB9 hat9 hgb9 hlt9)
   have hg9':((w8.alloc (.cells (encP p).toArray 43)).alloc (.cells (encP p).toArray 43)).grownBy w9 (Value.slice A1 m c1).ownBlock:=hg9
   have hrow:∀x,(Value.slice A1 m c1).ownBlock=some x→w1.heap.size≤x:=fun x hx=>((HO.out.2.1).blk x hx).1
   have hr9:=(HO.out.1.below (((Below.refl w8.heap.size w8).alloc (Nat.le_refl _) (.cells (encP p).toArray 43)).alloc (by simp) (.cells (encP p).toArray 43)) (Nat.le_refl _)).kept hg9' (fun e=>by have:=hrow _ e.symm;omega) (fun e=>by have:=hrow _ e.symm;omega)
   have hB9':=(((HO.out.2.2.2.2.2.2.2.1.alloc HO.out.2.2.2.2.2.2.2.1.size (.cells (encP p).toArray 43)).alloc (by have:=HO.out.2.2.2.2.2.2.2.1.size;simp;omega) (.cells (encP p).toArray 43))).grown hg9' (by have:=HO.out.2.2.2.2.2.2.2.1.size;simp;omega) (fun x hx=>by have:=hrow x hx;omega)
   have hz9:=hB9.size
   have H9:=hide (And.intro hr9 (And.intro hown9 (And.intro hB9' (show w1.heap.size≤w9.heap.size by simp at hz9;omega))))
   clear hr9 hown9 hB9' hg9' hrow hz9 hg9 hB9 hat9
   go_roundw
   case rel=>
    obtain ⟨hr8,hown8,hnd,hsub,hcov,hlf,hpL,hB8,hm1,hlt8⟩:=HO.out
    refine ⟨_,c',m+1,ks++ [p],H9.out.1,H9.out.2.1,hm1,nodup_snoc.2 ⟨hnd,hpL.2⟩,fun q hq=> ?_,fun q hq=> ?_,fun q hq=> ?_,H9.out.2.2.1,H9.out.2.2.2⟩
    ·rcases List.mem_append.1 hq with h | h
     ·exact hsub q h
     ·rw [List.mem_singleton.1 h];exact hpL.1
    ·by_cases hqp:q=p
     ·exact .inl (by simp [hqp])
     ·rcases hcov q hq with h | h
      ·exact .inl (List.mem_append.2 (.inl h))
      ·exact .inr (by simp [h,hqp])
    ·simp only [Bool.and_eq_true,Bool.not_eq_true',decide_eq_false_iff_not] at hq
     have h1:=hlf q hq.1
     exact ⟨h1.1,fun h=>by
      rcases List.mem_append.1 h with h | h
      ·exact h1.2 h
      ·exact hq.2 (List.mem_singleton.1 h)⟩
   case measure=>
    rw [H9.out.1.left_eq,HL.out]
    exact HO.out.2.2.2.2.2.2.2.2.2
end Go.Proofs.YtmemofonebphfaaGreat
namespace Go.Proofs.YtmemofonebphfaaGreat
open Go.RowKit Go.Sort Go.WideMaps Go.Maps
set_option maxRecDepth 100000
theorem cors_snoc (ts:List Tri) (k:Nat) (t:Tri) (h:ts[k]? =some t):corsP (ts.take (k+1))=corsP (ts.take k)++cors3 t:=by
 unfold corsP
 rw [List.take_add_one,h,Option.toList_some,List.flatMap_append,List.flatMap_singleton]
theorem corsP_fits {ts:List Tri} (h:∀t∈ts,fitsT t):∀p∈corsP ts,fitsP p:=by
 intro p hp
 obtain ⟨t,ht,hp⟩:=List.mem_flatMap.1 hp
 have hf:=h t ht
 simp only [cors3,List.mem_cons,List.not_mem_nil,or_false] at hp
 rcases hp with rfl | rfl | rfl
 ·exact hf.1
 ·exact hf.2.1
 ·exact hf.2.2
theorem corsP_length (ts:List Tri):(corsP ts).length=3*ts.length:=by
 unfold corsP
 induction ts with
 | nil=>rfl
 | cons t ts ih=>rw [List.flatMap_cons,List.length_append,ih,List.length_cons];simp [cors3];omega
set_option maxHeartbeats 8000000 in
theorem corners4_any (A:Option Addr) (c:Nat) (ts:List Tri) (w:World) (hs:Sl encT 9 w w.heap.size A ts) (hl:ts.length≤100000000) (hf:∀t∈ts,fitsT t):
  Calls Tryz.prog 28 #[.slice A ts.length c] w fun e w'=>∃v,e= .returned v∧Own encP 3 43 w' w.heap.size v (cornersP ts).length (cornersP ts)∧Below w.heap.size w w':=by
 have hmm:=@run_makeMap Tryz.prog
 obtain ⟨M,hM⟩:∃n,n=ts.length:=⟨_,rfl⟩
 rw [←hM] at hl⊢
 have HS:=hide (And.intro hs (And.intro hf hM))
 clear hs hf hM
 go_enter Tryz.func28,Tryz.ntmps28
 go_upto_region 2 with fail
 obtain ⟨X,hX⟩:∃X,X=w.alloc (.map #[] 0):=⟨_,rfl⟩
 rw [←hX]
 have hBX:Below w.heap.size w X:=by rw [hX];exact (Below.refl _ w).alloc (Nat.le_refl _) _
 have hMX:SetPM X w.heap.size 0 []:=by rw [hX];exact (MapK.made Tryz.prog 43 vP fitsP w).same fun p=>by simp [setK4]
 obtain ⟨mb,hmb⟩:∃b,b=w.heap.size:=⟨_,rfl⟩
 rw [←hmb] at hMX⊢
 have HX:=hide (And.intro hBX (And.intro hMX hmb))
 clear hX hBX hMX hmm hmb
 go_wp2_with fail
 go_loopw [11] (fun iv wr=>∃(k n:Nat),k≤M∧iv= .int .i64 k∧SetPM wr mb n (dedup (corsP (ts.take k)))∧n≤3*k∧Below w.heap.size w wr) (fun iv _=>M - (intOf iv).toNat)
 case atStart=>exact ⟨0,0,by omega,rfl,HX.out.2.1,by omega,HX.out.1⟩
 case round=>
  obtain ⟨k,n,hk,rfl,hMr,hn,hB⟩:=hrel
  obtain ⟨V,rfl⟩:∃V,V=wr:=⟨_,rfl⟩
  by_cases hlt:k < M
  ·obtain ⟨t,ht⟩:∃t,ts[k]? =some t:=⟨_,List.getElem?_eq_getElem (by rw [←HS.out.2.2];exact hlt)⟩
   have i1:(k:Int) < (M:Int):=by omega
   obtain ⟨b,o,hA,hbb,g0,g1,g2,g3,g4,g5,g6,g7,g8⟩:=(HS.out.1.below hB).tri ht
   subst hA
   have hft:=HS.out.2.1 t (List.mem_of_getElem? ht)
   have hsn:=cors_snoc ts k t ht
   obtain ⟨L0,hL0⟩:∃L,L=corsP (ts.take k):=⟨_,rfl⟩
   rw [←hL0] at hMr hsn
   have hzV:=hB.size
   have HK:=hide (And.intro hMr (And.intro hn (And.intro hB (And.intro hft hsn))))
   clear hMr hn hB hft hsn ht hL0
   go_upto_region 5 with fail
   obtain ⟨Y,hY⟩:∃Y,Y=V.alloc (.cells #[.int .i64 t.1.1, .int .i64 t.1.2.1, .int .i64 t.1.2.2, .int .i64 t.2.1.1, .int .i64 t.2.1.2.1, .int .i64 t.2.1.2.2, .int .i64 t.2.2.1, .int .i64 t.2.2.2.1, .int .i64 t.2.2.2.2] 46):=⟨_,rfl⟩
   rw [←hY]
   have hBY:Below w.heap.size w Y:=by rw [hY];exact HK.out.2.2.1.alloc hzV _
   have hMY:SetPM Y mb n (dedup (L0++(cors3 t).take 0)):=by
    rw [hY,List.take_zero,List.append_nil]
    exact HK.out.1.below ((Below.refl V.heap.size V).alloc (Nat.le_refl _) _) HK.out.1.lt
   obtain ⟨a0,a1,a2,a3,a4,a5,a6,a7,a8⟩:=cells9z (w:=Y) (b:=V.heap.size) (ty:=46) (t:=t) (by rw [hY];exact Blk.new _ _ _)
   have HY:=hide (And.intro hMY hBY)
   clear hY hBY hMY g0 g1 g2 g3 g4 g5 g6 g7 g8
   go_wp2_with fail
   go_loopw [16] (fun jv wr=>∃(j n':Nat),j≤3∧jv= .int .i64 j∧SetPM wr mb n' (dedup (L0++(cors3 t).take j))∧n'≤n+j∧Below w.heap.size w wr) (fun jv _=>3 - (intOf jv).toNat)
   case atStart=>exact ⟨0,n,by omega,rfl,HY.out.1,by omega,HY.out.2⟩
   case round=>
    obtain ⟨j,n',hj,rfl,hMr,hn',hB⟩:=hrel
    obtain ⟨R,rfl⟩:∃V,V=wr:=⟨_,rfl⟩
    by_cases hj3:j < 3
    ·have i2:(j:Int) < 3:=by omega
     have hidx:=fun W=>idxT t j hj3 W
     have hcs:=cors3_succ t hj3
     have hfc:=corner_fits HK.out.2.2.2.1 j
     obtain ⟨p,hp⟩:∃p,p=corner t j:=⟨_,rfl⟩
     rw [←hp] at hcs hfc
     simp only [←hp] at hidx
     have HJ:=hide (And.intro hMr (And.intro hn' (And.intro hB (And.intro hcs hfc))))
     have hzR:=hB.size
     clear hMr hn' hB hcs hfc hp a0 a1 a2 a3 a4 a5 a6 a7 a8
     have hnb:n' < maxLen:=by have:=HJ.out.2.1;have:=HK.out.2.1;unfold maxLen;omega
     go_upto_region 8 with fail
     obtain ⟨Z,hZ⟩:∃Z,Z=R.alloc (.cells #[.int .i64 p.1, .int .i64 p.2.1, .int .i64 p.2.2] 43):=⟨_,rfl⟩
     rw [←hZ]
     have hBZ:Below w.heap.size w Z:=by rw [hZ];exact HJ.out.2.2.1.alloc hzR _
     have hMZ:SetPM Z mb n' (dedup (L0++(cors3 t).take j)):=by rw [hZ];exact HJ.out.1.below ((Below.refl R.heap.size R).alloc (Nat.le_refl _) _) HJ.out.1.lt
     obtain ⟨x0,x1,x2⟩:=(show Blk Z R.heap.size 43 #[.int .i64 p.1, .int .i64 p.2.1, .int .i64 p.2.2] by rw [hZ];exact Blk.new _ _ _).three
     have hcal:=addP_any mb n' _ p Z hMZ HJ.out.2.2.2.2 hnb
     have HZ:=hide (And.intro hcal hBZ)
     clear hZ hBZ hMZ hcal hidx
     go_wp2_with (go_at_call 51;refine (unhide HZ).1.mono ?_;rintro e w5 ⟨rfl,hM5,hg5⟩)
     go_roundw
     case rel=>
      refine ⟨j+1,n'+1,by omega,by go_num,?_,by have:=HJ.out.2.1;omega,HZ.out.2.grown hg5 HZ.out.2.size (fun r hr=>by injection hr with hr;have:=HX.out.2.2;omega)⟩
      rw [HJ.out.2.2.2.1,←List.append_assoc,dedup_snoc]
      exact hM5
     case measure=>simp [intOf];omega
    ·have hje:j=3:=by omega
     subst hje
     have i2:¬((3:Nat):Int) < 3:=by omega
     have h3:L0++(cors3 t).take 3=corsP (ts.take (k+1)):=HK.out.2.2.2.2.symm
     rw [h3] at hMr
     have HE:=hide (And.intro hMr (And.intro hn' hB))
     clear hMr hn' hB h3
     go_wp2
     go_roundw
     case rel=>exact ⟨k+1,n',by omega,by go_num,HE.out.1,by have:=HE.out.2.1;have:=HK.out.2.1;omega,HE.out.2.2⟩
     case measure=>simp [intOf];omega
  ·have hke:k=M:=by omega
   subst hke
   rw [List.take_of_length_le (by have:=HS.out.2.2;omega)] at hMr
   have hfc:∀p∈dedup (corsP ts),fitsP p:=fun p hp=>corsP_fits HS.out.2.1 p (dedup_mem.1 hp)
   have hlen:=corsP_length ts
   have hdl:=dedup_length (corsP ts)
   have hcal:=sortedP_any mb n (dedup (corsP ts)) V hMr (dedup_nodup _) hfc (by have:=HS.out.2.2;omega)
   rw [corners_sort (dedup_nodup _) (fun q=>dedup_mem),←corners_len] at hcal
   have HE:=hide (And.intro hcal hB)
   have hzV:=hB.size
   clear hMr hn hB hfc hlen hdl hcal
   go_wp2_with (go_at_call 52;refine (unhide HE).1.mono ?_;rintro e w5 ⟨v,rfl,hO5,hB5⟩)
   go_ret
   exact ⟨v,rfl,hO5.lower hzV,HE.out.2.trans (hB5.mono hzV)⟩
end Go.Proofs.YtmemofonebphfaaGreat
namespace Go.Proofs.YtmemofonebphfaaGreat
open Go.RowKit Go.Sort
theorem canon_trip9 (L:List Tri):(tripP (canonO L)).Perm (tripP L):=by
 have hp:(canonO L).Perm (L.map rotT):=sortO_perm (lt:=ltT) (L.map rotT)
 refine (hp.flatMap_right tri3).trans ?_
 clear hp
 induction L with
 | nil=>exact List.Perm.refl _
 | cons t L ih=>
  rw [List.map_cons,List.flatMap_cons]
  unfold tripP
  rw [List.flatMap_cons]
  refine List.Perm.append ?_ ih
  refine tri3_self ?_
  rcases rotT_cases4 t with e | e | e <;>rw [e] <;>simp [tri3,cyc3]
theorem canon_idem9 (L:List Tri):canonO (canonO L)=canonO L:=by
 have h1:(canonO L).map rotT=canonO L:=by
  refine (List.map_congr_left fun t ht=> ?_).trans (List.map_id _)
  obtain ⟨s,_,rfl⟩:=List.mem_map.1 ((sortO_perm (lt:=ltT) (L.map rotT)).mem_iff.1 ht)
  exact rotT_idem4 s
 show sortO ltT ((canonO L).map rotT)=_
 rw [h1]
 exact tot_T.sort_id (tot_T.sorted _)
theorem errS_parts {c:Ctl} (h:errS c=0):errC c=0∧outR 0 2097151 (finP c)=false∧dupB (finP c) (corsN (finT c))=false:=by
 unfold errS at h
 by_cases he:errC c≠0
 ·rw [if_pos he] at h
  exact absurd h he
 ·rw [if_neg he] at h
  have he:errC c=0:=by
   by_cases e:errC c=0
   ·exact e
   ·exact absurd e he
  by_cases ho:outR 0 2097151 (finP c)=true
  ·rw [if_pos ho] at h
   cases h
  ·rw [if_neg ho] at h
   by_cases hd:dupB (finP c) (corsN (finT c))=true
   ·rw [if_pos hd] at h
    cases h
   ·exact ⟨he,by simpa using ho,by simpa using hd⟩
theorem dup_inj {P:List Pt} {l:List Int} (h:dupB P l=false) {a b:Int} (ha:a∈l) (hb:b∈l) (e:gP P a=gP P b):a=b:=by
 by_cases hab:a=b
 ·exact hab
 ·have:=dup_yes ha hb e hab
  rw [h] at this
  cases this
theorem sub_check {c:Ctl} (he:errS c=0) (hnb:errC c=0→NoBack c.tris):checkP (subT c) false=0:=by
 obtain ⟨h1,_,h3⟩:=errS_parts he
 have hF:=(fin_facts h1 (hnb h1)).chk
 have e:subT c=((finT c).map numT).map (renT fun p=>gP (finP c) p.1):=by
  unfold subT
  rw [List.map_map]
  rfl
 rw [e]
 refine (check_ren (fun p hp q hq hpq=> ?_)).2 hF
 rw [cors_num] at hp hq
 obtain ⟨a,ha,rfl⟩:=List.mem_map.1 hp
 obtain ⟨b,hb,rfl⟩:=List.mem_map.1 hq
 have:=dup_inj h3 ha hb hpq
 rw [this]
theorem sub_surface {c:Ctl} (he:errS c=0) (hnb:errC c=0→NoBack c.tris):checkP (subR c) false=0∧canonO (subR c)=subR c∧(subR c).length=4^c.steps.toNat*c.tris.length∧∀p∈cornersP (subR c),(0≤p.1∧p.1≤2097151)∧(0≤p.2.1∧p.2.1≤2097151)∧0≤p.2.2∧p.2.2≤2097151:=by
 have hs:subR c=canonO (subT c):=by
  unfold subR
  rw [if_pos he]
  rfl
 obtain ⟨h1,h2,_⟩:=errS_parts he
 rw [hs]
 refine ⟨by rw [check_perm (canon_trip9 (subT c))];exact sub_check he hnb,canon_idem9 _,?_,fun p hp=> ?_⟩
 ·rw [canonO_length,subT,List.length_map]
  exact (fin_facts h1 (hnb h1)).lenT
 ·have hg:∀n:Int,(0≤(gP (finP c) n).1∧(gP (finP c) n).1≤2097151)∧(0≤(gP (finP c) n).2.1∧(gP (finP c) n).2.1≤2097151)∧0≤(gP (finP c) n).2.2∧(gP (finP c) n).2.2≤2097151:=fun n=>by
   unfold gP
   rw [List.getD_eq_getElem?_getD]
   cases e:(finP c)[n.toNat]? with
   | none=>decide
   | some x=>exact outR_no h2 x (List.mem_of_getElem? e)
  obtain ⟨t,ht,hpt⟩:=List.mem_flatMap.1 (((corners_both (canonO (subT c))).2 p).1 hp)
  obtain ⟨s,hs2,rfl⟩:=List.mem_map.1 ((sortO_perm (lt:=ltT) ((subT c).map rotT)).mem_iff.1 ht)
  obtain ⟨x,_,rfl⟩:=List.mem_map.1 hs2
  have hc:p=gP (finP c) x.1∨p=gP (finP c) x.2.1∨p=gP (finP c) x.2.2:=by
   rcases rotT_cases4 (triP9 (finP c) x) with e | e | e <;>rw [e] at hpt <;>simp [cors3,cyc3,triP9] at hpt <;>rcases hpt with h | h | h <;>simp [h]
  rcases hc with rfl | rfl | rfl <;>exact hg _
end Go.Proofs.YtmemofonebphfaaGreat
namespace Go.Proofs.YtmemofonebphfaaGreat
open Go.RowKit Go.Sort
theorem ctlM_ofS {W:World} {B:Nat} {Ap At Ac Ao Ad:Option Addr} {cp ct cc oc dc:Nat} {c:Ctl} (ht:Own encN3 3 35 W B (.slice At c.tris.length ct) c.tris.length c.tris) (hp:Own encP 3 43 W B (.slice Ap c.points.length cp) c.points.length c.points) (hcr:Own encE2 2 56 W B (.slice Ac c.creases.length cc) c.creases.length c.creases) (ho:Own encZ9 1 3 W B (.slice Ao c.corners.length oc) c.corners.length c.corners) (hd:Pcs encP 3 43 28 W B (.slice Ad c.details.length dc) c.details):CtlM W W.heap.size Ap At Ac Ao Ad c:=
 ⟨hp.sl encP_len (Nat.le_refl _),ht.sl encN3_len (Nat.le_refl _),hcr.sl encE2_len (Nat.le_refl _),ho.sl encZ9_len (Nat.le_refl _),hd.sl (Nat.le_refl _)⟩
theorem ctlM_offS2 {W W':World} {B g:Nat} {Ap At Ac Ao Ad:Option Addr} {cp ct cc oc dc:Nat} {c:Ctl} {cs:Array Value} (h:(Own encN3 3 35 W B (.slice At c.tris.length ct) c.tris.length c.tris)∧(Own encP 3 43 W B (.slice Ap c.points.length cp) c.points.length c.points)∧(Own encE2 2 56 W B (.slice Ac c.creases.length cc) c.creases.length c.creases)∧(Own encZ9 1 3 W B (.slice Ao c.corners.length oc) c.corners.length c.corners)∧(Pcs encP 3 43 28 W B (.slice Ad c.details.length dc) c.details)) (hb:Blk W g 32 cs) (hg:W.grownBy W' (some g)):CtlM W' W'.heap.size Ap At Ac Ao Ad c:=
 ⟨(h.2.1.step hg (ctl_row hb (by decide) _)).sl encP_len (Nat.le_refl _),(h.1.step hg (ctl_row hb (by decide) _)).sl encN3_len (Nat.le_refl _),(h.2.2.1.step hg (ctl_row hb (by decide) _)).sl encE2_len (Nat.le_refl _),(h.2.2.2.1.step hg (ctl_row hb (by decide) _)).sl encZ9_len (Nat.le_refl _),(h.2.2.2.2.turn hg (fun t e=>ctl_row hb (by rcases e with rfl | rfl <;>decide) _)).sl (Nat.le_refl _)⟩
set_option maxRecDepth 100000 in
set_option maxHeartbeats 64000000 in
theorem surface9_of (hmade:MadeSaid) (Ap Ac Ao Ad:Option Addr) (cp cc oc dc:Nat) (s:ShpC) (q:Pt) (w:World) (hm:ShpA w w.heap.size Ap Ac Ao Ad s) (hb:fits s.bits) (hl:s.points.length≤9223372036854775807∧s.creases.length≤9223372036854775807∧s.corners.length≤9223372036854775807∧s.details.length≤9223372036854775807) (_hq:fitsP q):
  Calls Tryz.prog 9 #[vShp s.kind s.bits s.steps Ap s.points.length cp Ac s.creases.length cc Ao s.corners.length oc Ad s.details.length dc,vP q] w fun e w'=>e= .returned (.bool true)∧Below w.heap.size w w':=by
 have kmade:=fun (W:World) (hW:Below w.heap.size w W)=>hmade Ap Ac Ao Ad cp cc oc dc s W (hm.below hW hW.size) hb hl
 have ks1:=fun (Ap At Ac Ao Ad:Option Addr) (cp ct cc oc dc:Nat) (W:World) (h:CtlM W W.heap.size Ap At Ac Ao Ad (madeC s))=>spoil9_any Ap At Ac Ao Ad cp ct cc oc dc (madeC s) q W h (made_small s) (made_pos s).2 (made_pos s).1
 have hs1:=spoil_sml (made_sml s) q
 have kd:=fun (Ap At Ac Ao Ad:Option Addr) (cp ct cc oc dc:Nat) (W:World) (h:CtlM W W.heap.size Ap At Ac Ao Ad (spoilC (madeC s) q))=>subdiv_any Ap At Ac Ao Ad cp ct cc oc dc (spoilC (madeC s) q) W h (hs1.bound (by decide)) hs1.fits (spoil_back s q)
 have hsu:=fun he=>sub_surface (c:=spoilC (madeC s) q) he (spoil_back s q)
 have hsf:=sub_fits (spoilC (madeC s) q)
 have hsl:=sub_len (hs1.bound (by decide)) (spoil_back s q)
 have hst0:=fun (he:errS (spoilC (madeC s) q)=0)=>(right_of (errS_parts he).1).st
 have hno:errS (spoilC (madeC s) q)≠0→subR (spoilC (madeC s) q)= []:=fun he=>if_neg he
 obtain ⟨c1,hc1⟩:∃c,c=spoilC (madeC s) q:=⟨_,rfl⟩
 simp only [←hc1] at hs1 ks1 kd hsu hsf hsl hno hst0
 obtain ⟨c0,hc0⟩:∃c,c=madeC s:=⟨_,rfl⟩
 simp only [←hc0] at kmade ks1
 obtain ⟨q1,q2,q3⟩:=q
 dsimp only at ks1
 obtain ⟨E,hE⟩:∃E,E=errS c1:=⟨_,rfl⟩
 obtain ⟨R,hR⟩:∃E,E=subR c1:=⟨_,rfl⟩
 simp only [←hE,←hR] at kd hsu hsf hsl hno hst0
 have b1:=hs1.t
 have b3:=hs1.st
 clear hs1 hc0 hc1 hE hR
 obtain ⟨np0,hnp0⟩:∃n,n=c0.points.length:=⟨_,rfl⟩
 obtain ⟨nt0,hnt0⟩:∃n,n=c0.tris.length:=⟨_,rfl⟩
 obtain ⟨nc0,hnc0⟩:∃n,n=c0.creases.length:=⟨_,rfl⟩
 obtain ⟨no0,hno0⟩:∃n,n=c0.corners.length:=⟨_,rfl⟩
 obtain ⟨nd0,hnd0⟩:∃n,n=c0.details.length:=⟨_,rfl⟩
 obtain ⟨st0,hst0⟩:∃n,n=c0.steps:=⟨_,rfl⟩
 simp only [←hnp0,←hnt0,←hnc0,←hno0,←hnd0,←hst0] at ks1
 have HN0:=hide (And.intro hnp0 (And.intro hnt0 (And.intro hnc0 (And.intro hno0 (And.intro hnd0 hst0)))))
 clear hnp0 hnt0 hnc0 hno0 hnd0 hst0
 obtain ⟨np1,hnp1⟩:∃n,n=c1.points.length:=⟨_,rfl⟩
 obtain ⟨nt1,hnt1⟩:∃n,n=c1.tris.length:=⟨_,rfl⟩
 obtain ⟨nc1,hnc1⟩:∃n,n=c1.creases.length:=⟨_,rfl⟩
 obtain ⟨no1,hno1⟩:∃n,n=c1.corners.length:=⟨_,rfl⟩
 obtain ⟨nd1,hnd1⟩:∃n,n=c1.details.length:=⟨_,rfl⟩
 obtain ⟨st1,hst1⟩:∃n,n=c1.steps:=⟨_,rfl⟩
 simp only [←hnp1,←hnt1,←hnc1,←hno1,←hnd1,←hst1] at kd b1 b3 hsu hst0
 have HN1:=hide (And.intro hnp1 (And.intro hnt1 (And.intro hnc1 (And.intro hno1 (And.intro hnd1 hst1)))))
 clear hnp1 hnt1 hnc1 hno1 hnd1 hst1
 have HK:=hide (And.intro kmade (And.intro ks1 kd))
 have HR:=hide (And.intro hsu (And.intro hsf (And.intro hsl (And.intro hno hst0))))
 clear kmade ks1 kd hm hb hl hsu hsf hsl hno hst0
 go_enter Tryz.func9,Tryz.ntmps9
 go_upto_region 1 with fail
 obtain ⟨g1,hg1⟩:∃g,g=w.heap.size:=⟨_,rfl⟩
 obtain ⟨g2,hg2⟩:∃g,g=w.heap.size+1:=⟨_,rfl⟩
 obtain ⟨X0,hX⟩:∃W,W=(w.alloc (.cells (cShp s.kind s.bits s.steps Ap s.points.length cp Ac s.creases.length cc Ao s.corners.length oc Ad s.details.length dc) 25)).alloc (.cells #[.int .i64 q1, .int .i64 q2, .int .i64 q3] 35):=⟨_,rfl⟩
 rw [←hX,←hg2,←hg1]
 have hb1:Blk X0 g1 25 (cShp s.kind s.bits s.steps Ap s.points.length cp Ac s.creases.length cc Ao s.corners.length oc Ad s.details.length dc):=by rw [hX,hg1];exact (Blk.new _ _ _).alloc _
 have hb2:Blk X0 g2 35 #[.int .i64 q1, .int .i64 q2, .int .i64 q3]:=by rw [hX,hg2];exact Blk.new' _ _ _ _ (by simp)
 have hBX:Below w.heap.size w X0:=by rw [hX];exact ((Below.refl _ w).alloc (Nat.le_refl _) _).alloc (by simp) _
 have H0:=hide (And.intro hb1 (And.intro hb2 hBX))
 clear hb1 hb2 hBX hX hg1 hg2
 go_upto_region 2 with (go_at_call 13;refine (sanity9_any X0).mono ?_;rintro e X1 ⟨rfl,hB1⟩;have H1:=hide (And.intro (H0.out.1.below hB1 H0.out.1.lt) (And.intro (H0.out.2.1.below hB1 H0.out.2.1.lt) (H0.out.2.2.trans (hB1.mono H0.out.2.2.size))));clear hB1)
 obtain ⟨z0,z1,z2,z3,z4,z5,z6⟩:=H1.out.1.seven9
 obtain ⟨y0,y1,y2⟩:=H1.out.2.1.three
 have hgl:=H1.out.1.lt
 have hg2l:=H1.out.2.1.lt
 go_cut [6] (fun v wx=>∃(g8:Nat) (Ap1 At1 Ac1 Ao1 Ad1:Option Addr) (cp1 ct1 cc1 oc1 dc1:Nat),v= .pointer (some ⟨g8,0,none⟩)∧CtlM wx wx.heap.size Ap1 At1 Ac1 Ao1 Ad1 c1∧Blk wx g8 32 (cCtl Ap1 np1 cp1 At1 nt1 ct1 Ac1 nc1 cc1 Ao1 no1 oc1 st1 Ad1 nd1 dc1)∧Below X1.heap.size X1 wx)
 case first=>
  have HSB:=hide (show Below X1.heap.size X1 X1.drew from (Below.refl _ X1).drew)
  refine wp_region_tree (fun W=>Below X1.heap.size X1 W) [0,2] (.q 0 (.q 2 (.two 1 (.two 3 (.one 4 (.one 5 .nil)) 4 (.one 3 (.one 5 .nil))) 4 (.one 1 (.one 3 (.one 5 .nil)))))) mixed_ok (by kernel_rfl) ?_
  refine wpMixT_q (v:=(.agg (cShp s.kind s.bits s.steps Ap s.points.length cp Ac s.creases.length cc Ao s.corners.length oc Ad s.details.length dc))) rfl (fun _ _ _ h=>h) HSB.out ⟨rfl,fun _ h'=>by have a0:=(h'.cell (p:=⟨g1,0,none⟩) hgl).trans z0;have a1:=(h'.cell (p:=⟨g1,1,none⟩) hgl).trans z1;have a2:=(h'.cell (p:=⟨g1,2,none⟩) hgl).trans z2;have a3:=(h'.cell (p:=⟨g1,3,none⟩) hgl).trans z3;have a4:=(h'.cell (p:=⟨g1,4,none⟩) hgl).trans z4;have a5:=(h'.cell (p:=⟨g1,5,none⟩) hgl).trans z5;have a6:=(h'.cell (p:=⟨g1,6,none⟩) hgl).trans z6;simp [go_sem,a0,a1,a2,a3,a4,a5,a6]⟩ ?_
  refine wpMixT_q (v:=(.agg #[.int .i64 q1, .int .i64 q2, .int .i64 q3])) rfl (fun _ _ _ h=>h) HSB.out ⟨rfl,fun _ h'=>by have a0:=(h'.cell (p:=⟨g2,0,none⟩) hg2l).trans y0;have a1:=(h'.cell (p:=⟨g2,1,none⟩) hg2l).trans y1;have a2:=(h'.cell (p:=⟨g2,2,none⟩) hg2l).trans y2;simp [go_sem,a0,a1,a2]⟩ ?_
  simp only [List.getElem_toArray,List.getElem_cons_succ,List.getElem_cons_zero,Act.put,List.setIfInBounds_toArray,List.set_cons_succ,List.set_cons_zero]
  clear z0 z1 z2 z3 z4 z5 z6 y0 y1 y2 hgl hg2l
  have hBd:=HSB.out
  have HB1:=hide hBd
  clear hBd
  refine wpMixT_two rfl rfl ?_ ?_
  ·skip
   go_wp2_with fail
   refine (HK.out.1 X1.drew (H1.out.2.2.trans (HB1.out.mono H1.out.2.2.size))).mono ?_
   rintro e X2 ⟨Ap0,At0,Ac0,Ao0,Ad0,cp0,ct0,cc0,oc0,dc0,rfl,ht,hp,hcr,hco,hd,hB⟩
   have H2:=hide (And.intro (ctlM_ofS ht hp hcr hco hd) (HB1.out.trans (hB.mono HB1.out.size)))
   try simp only [←HN0.out.1,←HN0.out.2.1,←HN0.out.2.2.1,←HN0.out.2.2.2.1,←HN0.out.2.2.2.2.1,←HN0.out.2.2.2.2.2]
   clear ht hp hcr hco hd hB
   go_wp2_with fail
   refine ⟨fun _=>H2.out.2,?_⟩
   refine wpMixT_two rfl rfl ?_ ?_
   ·skip
    go_wp2_with fail
    refine (HK.out.2.1 _ _ _ _ _ _ _ _ _ _ X2 H2.out.1).mono ?_
    rintro e X3 ⟨Ap1,At1,Ac1,Ao1,Ad1,cp1,ct1,cc1,oc1,dc1,rfl,ht,hp,hcr,hco,hd,hB⟩
    have H3:=hide (And.intro (And.intro ht (And.intro hp (And.intro hcr (And.intro hco hd)))) (H2.out.2.trans (hB.mono H2.out.2.size)))
    try simp only [←HN1.out.1,←HN1.out.2.1,←HN1.out.2.2.1,←HN1.out.2.2.2.1,←HN1.out.2.2.2.2.1,←HN1.out.2.2.2.2.2]
    clear ht hp hcr hco hd hB
    go_wp2_with fail
    refine ⟨fun _=>H3.out.2,?_⟩
    refine wpMixT_one rfl ?_
    go_wp2_with fail
    obtain ⟨g8,hg8⟩:∃g,g=X3.heap.size:=⟨_,rfl⟩
    obtain ⟨Z,hZ⟩:∃W,W=X3.alloc (.cells (cCtl none 0 0 none 0 0 none 0 0 none 0 0 0 none 0 0) 32):=⟨_,rfl⟩
    rw [←hZ,←hg8]
    have hBz:Below X3.heap.size X3 Z:=by rw [hZ];exact (Below.refl _ _).alloc (Nat.le_refl _) _
    have hbz:Blk Z g8 32 (cCtl none 0 0 none 0 0 none 0 0 none 0 0 0 none 0 0):=by rw [hZ,hg8];exact Blk.new X3 _ _
    have hSz:Below X1.heap.size X1 Z:=H3.out.2.trans (hBz.mono H3.out.2.size)
    have HZ:=hide (And.intro hbz (And.intro hSz hBz))
    have hgz:X1.heap.size≤g8:=by rw [hg8];exact H3.out.2.size
    have HG:=hide hg8
    clear hBz hbz hSz hZ hg8
    refine ⟨fun _=>HZ.out.2.1,?_⟩
    refine wpMixT_one rfl ?_
    have f0:=HZ.out.1.frozen 0
    have f1:=HZ.out.1.frozen 1
    have f2:=HZ.out.1.frozen 2
    have f3:=HZ.out.1.frozen 3
    have f4:=HZ.out.1.frozen 4
    have f5:=HZ.out.1.frozen 5
    have hlz:=HZ.out.1.lt
    obtain ⟨k0,k1,k2,k3,k4,k5⟩:=HZ.out.1.six9
    go_wp2_with fail
    refine ⟨fun h=>absurd (h.symm.trans (show _=false by kernel_rfl)) (by simp),?_⟩
    refine wpMixT_nil ?_
    go_wp2_with fail
    go_meet
    case rel=>
     have hgw:=setW_grown g8 [(.slice Ap1 np1 cp1),(.slice At1 nt1 ct1),(.slice Ac1 nc1 cc1),(.slice Ao1 no1 oc1),(.int .i64 st1),(.slice Ad1 nd1 dc1)] Z 0
     exact ⟨g8,Ap1,At1,Ac1,Ao1,Ad1,cp1,ct1,cc1,oc1,dc1,rfl,ctlM_offS2 (And.intro (H3.out.1.1.below HZ.out.2.2 (Nat.le_refl _)) (And.intro (H3.out.1.2.1.below HZ.out.2.2 (Nat.le_refl _)) (And.intro (H3.out.1.2.2.1.below HZ.out.2.2 (Nat.le_refl _)) (And.intro (H3.out.1.2.2.2.1.below HZ.out.2.2 (Nat.le_refl _)) (H3.out.1.2.2.2.2.below HZ.out.2.2 (Nat.le_refl _)))))) HZ.out.1 hgw,((((((HZ.out.1.set_ 0 (.slice Ap1 np1 cp1)).set_ 1 (.slice At1 nt1 ct1)).set_ 2 (.slice Ac1 nc1 cc1)).set_ 3 (.slice Ao1 no1 oc1)).set_ 4 (.int .i64 st1)).set_ 5 (.slice Ad1 nd1 dc1)),HZ.out.2.1.trans (grown_bel hgw hgz HZ.out.2.1.size)⟩
   ·skip
    go_wp2_with fail
    obtain ⟨g8,hg8⟩:∃g,g=X2.heap.size:=⟨_,rfl⟩
    obtain ⟨Z,hZ⟩:∃W,W=X2.alloc (.cells (cCtl none 0 0 none 0 0 none 0 0 none 0 0 0 none 0 0) 32):=⟨_,rfl⟩
    rw [←hZ,←hg8]
    have hBz:Below X2.heap.size X2 Z:=by rw [hZ];exact (Below.refl _ _).alloc (Nat.le_refl _) _
    have hbz:Blk Z g8 32 (cCtl none 0 0 none 0 0 none 0 0 none 0 0 0 none 0 0):=by rw [hZ,hg8];exact Blk.new X2 _ _
    have hSz:Below X1.heap.size X1 Z:=H2.out.2.trans (hBz.mono H2.out.2.size)
    have HZ:=hide (And.intro hbz (And.intro hSz hBz))
    have hgz:X1.heap.size≤g8:=by rw [hg8];exact H2.out.2.size
    have HG:=hide hg8
    clear hBz hbz hSz hZ hg8
    refine ⟨fun _=>HZ.out.2.1,?_⟩
    refine wpMixT_one rfl ?_
    go_wp2_with fail
    refine (HK.out.2.1 _ _ _ _ _ _ _ _ _ _ Z (H2.out.1.below HZ.out.2.2 HZ.out.2.2.size)).mono ?_
    rintro e X3 ⟨Ap1,At1,Ac1,Ao1,Ad1,cp1,ct1,cc1,oc1,dc1,rfl,ht,hp,hcr,hco,hd,hB⟩
    have H3:=hide (And.intro (And.intro ht (And.intro hp (And.intro hcr (And.intro hco hd)))) (HZ.out.2.1.trans (hB.mono HZ.out.2.1.size)))
    try simp only [←HN1.out.1,←HN1.out.2.1,←HN1.out.2.2.1,←HN1.out.2.2.2.1,←HN1.out.2.2.2.2.1,←HN1.out.2.2.2.2.2]
    have hbX:=HZ.out.1.below hB HZ.out.1.lt
    have HBX:=hide hbX
    clear hbX
    clear ht hp hcr hco hd hB
    go_wp2_with fail
    refine ⟨fun _=>H3.out.2,?_⟩
    refine wpMixT_one rfl ?_
    have f0:=HBX.out.frozen 0
    have f1:=HBX.out.frozen 1
    have f2:=HBX.out.frozen 2
    have f3:=HBX.out.frozen 3
    have f4:=HBX.out.frozen 4
    have f5:=HBX.out.frozen 5
    have hlz:=HBX.out.lt
    obtain ⟨k0,k1,k2,k3,k4,k5⟩:=HBX.out.six9
    go_wp2_with fail
    refine ⟨fun h=>absurd (h.symm.trans (show _=false by kernel_rfl)) (by simp),?_⟩
    refine wpMixT_nil ?_
    go_wp2_with fail
    go_meet
    case rel=>
     have hgw:=setW_grown g8 [(.slice Ap1 np1 cp1),(.slice At1 nt1 ct1),(.slice Ac1 nc1 cc1),(.slice Ao1 no1 oc1),(.int .i64 st1),(.slice Ad1 nd1 dc1)] X3 0
     exact ⟨g8,Ap1,At1,Ac1,Ao1,Ad1,cp1,ct1,cc1,oc1,dc1,rfl,ctlM_offS2 H3.out.1 HBX.out hgw,((((((HBX.out.set_ 0 (.slice Ap1 np1 cp1)).set_ 1 (.slice At1 nt1 ct1)).set_ 2 (.slice Ac1 nc1 cc1)).set_ 3 (.slice Ao1 no1 oc1)).set_ 4 (.int .i64 st1)).set_ 5 (.slice Ad1 nd1 dc1)),H3.out.2.trans (grown_bel hgw hgz H3.out.2.size)⟩
  ·skip
   go_wp2_with fail
   obtain ⟨g8,hg8⟩:∃g,g=X1.heap.size:=⟨_,rfl⟩
   obtain ⟨Z,hZ⟩:∃W,W=(X1.alloc (.cells (cCtl none 0 0 none 0 0 none 0 0 none 0 0 0 none 0 0) 32)).drew:=⟨_,rfl⟩
   rw [←hZ,←hg8]
   have hBz:Below X1.heap.size X1 Z:=by rw [hZ];exact ((Below.refl _ _).alloc (Nat.le_refl _) _).drew
   have hbz:Blk Z g8 32 (cCtl none 0 0 none 0 0 none 0 0 none 0 0 0 none 0 0):=by rw [hZ,hg8];exact Blk.new X1 _ _
   have hSz:Below X1.heap.size X1 Z:=(Below.refl X1.heap.size X1).trans (hBz.mono (Below.refl X1.heap.size X1).size)
   have HZ:=hide (And.intro hbz (And.intro hSz hBz))
   have hgz:X1.heap.size≤g8:=by rw [hg8];exact (Below.refl X1.heap.size X1).size
   have HG:=hide hg8
   clear hBz hbz hSz hZ hg8
   refine ⟨fun _=>by first | exact HZ.out.2.1 | (rw [HG.out];exact HZ.out.2.1),?_⟩
   refine wpMixT_one rfl ?_
   go_wp2_with fail
   refine (HK.out.1 Z (H1.out.2.2.trans (HZ.out.2.1.mono H1.out.2.2.size))).mono ?_
   rintro e X2 ⟨Ap0,At0,Ac0,Ao0,Ad0,cp0,ct0,cc0,oc0,dc0,rfl,ht,hp,hcr,hco,hd,hB⟩
   have H2:=hide (And.intro (ctlM_ofS ht hp hcr hco hd) (HZ.out.2.1.trans (hB.mono HZ.out.2.1.size)))
   try simp only [←HN0.out.1,←HN0.out.2.1,←HN0.out.2.2.1,←HN0.out.2.2.2.1,←HN0.out.2.2.2.2.1,←HN0.out.2.2.2.2.2]
   have hbX:=HZ.out.1.below hB HZ.out.1.lt
   have HBX:=hide hbX
   clear hbX
   clear ht hp hcr hco hd hB
   go_wp2_with fail
   refine ⟨fun _=>by first | exact H2.out.2 | (rw [HG.out];exact H2.out.2),?_⟩
   refine wpMixT_one rfl ?_
   go_wp2_with fail
   refine (HK.out.2.1 _ _ _ _ _ _ _ _ _ _ X2 H2.out.1).mono ?_
   rintro e X3 ⟨Ap1,At1,Ac1,Ao1,Ad1,cp1,ct1,cc1,oc1,dc1,rfl,ht,hp,hcr,hco,hd,hB⟩
   have H3:=hide (And.intro (And.intro ht (And.intro hp (And.intro hcr (And.intro hco hd)))) (H2.out.2.trans (hB.mono H2.out.2.size)))
   try simp only [←HN1.out.1,←HN1.out.2.1,←HN1.out.2.2.1,←HN1.out.2.2.2.1,←HN1.out.2.2.2.2.1,←HN1.out.2.2.2.2.2]
   have hbY:=HBX.out.below hB HBX.out.lt
   have HBY:=hide hbY
   clear hbY
   clear ht hp hcr hco hd hB
   go_wp2_with fail
   refine ⟨fun _=>by first | exact H3.out.2 | (rw [HG.out];exact H3.out.2),?_⟩
   refine wpMixT_one rfl ?_
   have f0:=HBY.out.frozen 0
   have f1:=HBY.out.frozen 1
   have f2:=HBY.out.frozen 2
   have f3:=HBY.out.frozen 3
   have f4:=HBY.out.frozen 4
   have f5:=HBY.out.frozen 5
   have hlz:=HBY.out.lt
   obtain ⟨k0,k1,k2,k3,k4,k5⟩:=HBY.out.six9
   go_wp2_with fail
   refine ⟨fun h=>absurd (h.symm.trans (show _=false by kernel_rfl)) (by simp),?_⟩
   refine wpMixT_nil ?_
   go_wp2_with fail
   go_meet
   case rel=>
    have hgw:=setW_grown g8 [(.slice Ap1 np1 cp1),(.slice At1 nt1 ct1),(.slice Ac1 nc1 cc1),(.slice Ao1 no1 oc1),(.int .i64 st1),(.slice Ad1 nd1 dc1)] X3 0
    exact ⟨g8,Ap1,At1,Ac1,Ao1,Ad1,cp1,ct1,cc1,oc1,dc1,rfl,ctlM_offS2 H3.out.1 HBY.out hgw,((((((HBY.out.set_ 0 (.slice Ap1 np1 cp1)).set_ 1 (.slice At1 nt1 ct1)).set_ 2 (.slice Ac1 nc1 cc1)).set_ 3 (.slice Ao1 no1 oc1)).set_ 4 (.int .i64 st1)).set_ 5 (.slice Ad1 nd1 dc1)),H3.out.2.trans (grown_bel hgw hgz H3.out.2.size)⟩
 case rest=>
  obtain ⟨g8,Ap1,At1,Ac1,Ao1,Ad1,cp1,ct1,cc1,oc1,dc1,rfl,hcm,hb8,hBc⟩:=hcut
  obtain ⟨X4,rfl⟩:∃x,x=wc:=⟨_,rfl⟩
  have H3:=hide (And.intro hcm (And.intro hb8 hBc))
  clear hcm hb8 hBc
  try clear z0 z1 z2 z3 z4 z5 z6 y0 y1 y2 hgl hg2l
  go_upto_region 3 with fail
  have H4:=hide (And.intro H3.out.1 (And.intro H3.out.2.1 (H1.out.2.2.trans (H3.out.2.2.mono H1.out.2.2.size))))
  obtain ⟨z0,z1,z2,z3,z4,z5⟩:=H4.out.2.1.six9
  have hgl:=H4.out.2.1.lt
  obtain ⟨m5,hm5⟩:∃n:Nat,n=(st1 % 5).toNat:=⟨_,rfl⟩
  have hm6:st1 % 5=(m5:Int):=by omega
  have hm4:m5≤4:=by omega
  have km:=fun W=>mod1_any st1 5 (by decide) (by decide) W
  rw [hm6] at km
  obtain ⟨s2,hs2⟩:∃n:Nat,n=2*m5:=⟨_,rfl⟩
  have t1:2*(m5:Int)=(s2:Int):=by omega
  have w1:IntKind.i64.wrap (s2:Int)=(s2:Int):=IntWalk.i64_in _ (by omega)
  obtain ⟨sz,hsz⟩:∃n:Nat,n=nt1*2^(2*m5):=⟨_,rfl⟩
  have t2:(nt1:Int)*2^s2=(sz:Int):=by
   rw [hsz,hs2,Int.natCast_mul,Int.natCast_pow]
   rfl
  have szb:sz≤512512:=by
   have key:∀s:Nat,s≤4→2^(2*s)≤256:=by decide
   rw [hsz]
   exact Nat.mul_le_mul (show nt1≤2002 by omega) (key m5 hm4)
  have w2:IntKind.i64.wrap (sz:Int)=(sz:Int):=IntWalk.i64_in _ (by omega)
  have s2b:s2≤8:=by omega
  obtain ⟨bg,hbg⟩:∃b,b=decide ((1500:Int) < (sz:Int)):=⟨_,rfl⟩
  have HM:=hide (And.intro km (And.intro hsz (And.intro hs2 hm6)))
  clear km hm5 hm6 hs2 hsz
  have HSB:=hide (show Below X4.heap.size X4 X4.drew from (Below.refl _ X4).drew)
  refine wp_region_mix (fun W=>Below X4.heap.size X4 W) [0,1,2,3,4,6,7,8] [0,1,2,3,4,5,6,7,8] mixed_ok (by kernel_rfl) ?_
  refine wpMix_q (v:=(.pointer (some ⟨g8,1,none⟩))) rfl rfl (fun _ _ _ h=>h) HSB.out ⟨rfl,fun _ _=>by simp [go_sem]⟩ ?_
  refine wpMix_q (v:=(.slice At1 nt1 ct1)) rfl rfl (fun _ _ _ h=>h) HSB.out ⟨rfl,fun _ h'=>by have a0:=(h'.cell (p:=⟨g8,1,none⟩) hgl).trans z1;simp [go_sem,a0]⟩ ?_
  refine wpMix_q (v:=(.int .i64 nt1)) rfl rfl (fun _ _ _ h=>h) HSB.out ⟨rfl,fun _ _=>by simp [go_sem,Builtin.lenOf]⟩ ?_
  refine wpMix_q (v:=(.pointer (some ⟨g8,4,none⟩))) rfl rfl (fun _ _ _ h=>h) HSB.out ⟨rfl,fun _ _=>by simp [go_sem]⟩ ?_
  refine wpMix_q (v:=(.int .i64 st1)) rfl rfl (fun _ _ _ h=>h) HSB.out ⟨rfl,fun _ h'=>by have a0:=(h'.cell (p:=⟨g8,4,none⟩) hgl).trans z4;simp [go_sem,a0]⟩ ?_
  simp only [List.getElem_toArray,List.getElem_cons_succ,List.getElem_cons_zero,Act.put,List.setIfInBounds_toArray,List.set_cons_succ,List.set_cons_zero]
  refine wpMix_n rfl rfl ?_
  go_wp2_with fail
  refine (HM.out.1 X4.drew).mono ?_
  rintro e W1 ⟨rfl,rfl⟩
  go_wp2_with fail
  refine ⟨fun _=>HSB.out,?_⟩
  refine wpMix_q (v:=(.int .i64 s2)) rfl rfl (fun _ _ _ h=>h) HSB.out ⟨rfl,fun _ _=>by simp [go_sem,t1,w1]⟩ ?_
  refine wpMix_q (v:=(.int .i64 sz)) rfl rfl (fun _ _ _ h=>h) HSB.out ⟨rfl,fun _ _=>by simp [go_sem,t2,w2]⟩ ?_
  refine wpMix_q (v:=(.bool bg)) rfl rfl (fun _ _ _ h=>h) HSB.out ⟨rfl,fun _ _=>by simp [go_sem,hbg]⟩ ?_
  simp only [List.getElem_toArray,List.getElem_cons_succ,List.getElem_cons_zero,Act.put,List.setIfInBounds_toArray,List.set_cons_succ,List.set_cons_zero]
  refine wpMix_nil ?_
  clear HSB z0 z1 z2 z3 z4 z5 hgl w1 w2 t1 t2
  obtain ⟨X5,hX5⟩:∃W,W=X4.drew:=⟨_,rfl⟩
  rw [←hX5]
  have hBd:Below X4.heap.size X4 X5:=by rw [hX5];exact (Below.refl _ _).drew
  have H5:=hide (And.intro (H4.out.1.below hBd hBd.size) (And.intro (H4.out.2.1.below hBd H4.out.2.1.lt) (H4.out.2.2.trans (hBd.mono H4.out.2.2.size))))
  clear hBd hX5 hbg HM szb hm4 s2b
  cases bg with
  | true=>
   go_wp2
   go_ret
   exact ⟨rfl,H5.out.2.2⟩
  | false=>
   obtain ⟨z0,z1,z2,z3,z4,z5⟩:=H5.out.2.1.six9
   have hgl:=H5.out.2.1.lt
   go_upto_region 6 with (go_at_call 27;refine (HK.out.2.2 _ _ _ _ _ _ _ _ _ _ X5 H5.out.1).mono ?_;rintro e X6 ⟨A1,n1,k1,rfl,ho,hB⟩;have H6:=hide (And.intro (ho.sl encT_len (Nat.le_refl _)) (And.intro (H5.out.2.1.below hB H5.out.2.1.lt) (H5.out.2.2.trans (hB.mono H5.out.2.2.size))));have HNN:=hide ho.1;clear ho hB)
   clear z0 z1 z2 z3 z4 z5 hgl
   by_cases he:E=0
   ·subst he
    obtain ⟨hck,hcn,hln,hco⟩:=HR.out.1 rfl
    obtain ⟨h0s,h4s⟩:=HR.out.2.2.2.2 rfl
    obtain ⟨kk,rfl⟩:∃kk:Nat,st1=(kk:Int):=⟨st1.toNat,by omega⟩
    rw [Int.toNat_natCast] at hln
    have hk4:kk≤4:=by omega
    have hn1:=HNN.out
    have hn1b:n1≤65536:=by rw [hn1];exact HR.out.2.2.1
    have hsT:Sl encT 9 X6 X6.heap.size A1 R:=H6.out.1
    have kcor:=corners4_any A1 k1 R X6 hsT (by omega) HR.out.2.1
    obtain ⟨NC,hNC⟩:∃n,n=(cornersP R).length:=⟨_,rfl⟩
    rw [←hn1,←hNC] at kcor
    have hNCb:NC≤200000:=by have h1:=cornersP_le R;rw [←hNC,←hn1] at h1;omega
    have kchk:=fun (W:World) (hW:Below X6.heap.size X6 W)=>Check4_any A1 k1 R W ((hsT.below hW).more hW.size) (by omega) HR.out.2.1
    have kcan:=fun (W:World) (hW:Below X6.heap.size X6 W)=>canon04_any A1 k1 R W ((hsT.below hW).more hW.size) (by omega) HR.out.2.1
    have keq:=fun (W:World) (hW:Below X6.heap.size X6 W) (A:Option Addr) (d n2:Nat) (hA:Sl encT 9 W n2 A R)=>equal_any A1 A k1 d R R W W.heap.size n2 ((hsT.below hW).more hW.size) hA (by omega) (by omega) HR.out.2.1 HR.out.2.1
    rw [hck] at kchk
    rw [hcn] at kcan
    simp only [←hn1,decide_true] at kchk kcan keq
    have hlen:n1=nt1*2^(2*kk):=by rw [hn1,hln,Nat.pow_mul,Nat.mul_comm]
    have HC:=hide (And.intro kcor (And.intro kchk (And.intro kcan (And.intro keq (And.intro hlen (And.intro hco hNC))))))
    clear kcor kchk kcan keq hlen hco hNC hck hcn hln hsT hn1
    go_upto_region 10 with (go_at_call 28;refine HC.out.1.mono ?_;rintro e X7 ⟨v,rfl,hO,hB⟩;obtain ⟨A2,k2,rfl⟩:=hO.form;have H7:=hide (And.intro (hO.sl encP_len (Nat.le_refl _)) hB);clear hO hB)
    go_loopw [10] (fun iv wr=>∃i:Nat,i≤NC∧iv= .int .i64 i∧Below X7.heap.size X7 wr) (fun iv _=>NC - (intOf iv).toNat)
    case atStart=>exact ⟨0,by omega,rfl,Below.refl _ _⟩
    case round=>
     obtain ⟨i,hi,rfl,hB⟩:=hrel
     obtain ⟨V,rfl⟩:∃x,x=wr:=⟨_,rfl⟩
     by_cases hlt:i < NC
     ·have i1:(i:Int) < (NC:Int):=by omega
      obtain ⟨x,hx⟩:∃x,(cornersP R)[i]? =some x:=⟨_,List.getElem?_eq_getElem (by rw [←HC.out.2.2.2.2.2.2];exact hlt)⟩
      have hr:=HC.out.2.2.2.2.2.1 x (List.mem_of_getElem? hx)
      obtain ⟨b,o,hA,hb,d0,d1,d2⟩:=(H7.out.1.below hB).pt4 hx
      subst hA
      have hbV:b < V.heap.size:=Nat.lt_of_lt_of_le hb hB.size
      obtain ⟨x1,x2,x3⟩:=x
      dsimp only at hr d0 d1 d2
      obtain ⟨m1,e1⟩:∃m,min x1 x2=m:=⟨_,rfl⟩
      obtain ⟨m2,e2⟩:∃m,min m1 x3=m:=⟨_,rfl⟩
      obtain ⟨m3,e3⟩:∃m,max x1 x2=m:=⟨_,rfl⟩
      obtain ⟨m4,e4⟩:∃m,max m3 x3=m:=⟨_,rfl⟩
      have j1:¬m2 < 0:=by omega
      have j2:¬(2097151:Int) < m4:=by omega
      have HV:=hide hB
      clear hB hx hr hb
      go_upto_region 12 with fail
      go_quiet (fail)
      go_wp2
      go_roundw
      case rel=>repeat (first | exact ⟨i+1,by omega,by go_num,by first | exact HV.out.drew | exact below_drewN HV.out _⟩ | (refine ⟨?_,rfl⟩;exact ⟨i+1,by omega,by go_num,by first | exact HV.out.drew | exact below_drewN HV.out _⟩) | apply Exists.intro)
      case measure=>(simp [intOf];try omega)
     ·obtain rfl:i=NC:=by omega
      have i1:¬(i:Int) < (i:Int):=by omega
      have hBV:=H7.out.2.trans (hB.mono H7.out.2.size)
      have hb8:=H6.out.2.1.below hBV H6.out.2.1.lt
      have HV:=hide (And.intro hBV (And.intro hb8 (H6.out.2.2.trans (hBV.mono H6.out.2.2.size))))
      clear hB hBV hb8
      go_upto_region 14 with fail
      clear i1
      obtain ⟨s2,hs2⟩:∃n:Nat,n=2*kk:=⟨_,rfl⟩
      have u2:2*(kk:Int)=(s2:Int):=by omega
      have u4:(nt1:Int)*2^s2=(n1:Int):=by
       rw [HC.out.2.2.2.2.1,hs2,Int.natCast_mul,Int.natCast_pow]
       rfl
      have HS2:=hide hs2
      clear hs2
      go_wp2_with (first
       | (go_at_call 19;refine (HC.out.2.1 V HV.out.1).mono ?_;rintro e W1 ⟨rfl,hB⟩;have J1:=hide (HV.out.1.trans (hB.mono HV.out.1.size));clear hB)
       | (go_at_call 30;refine (HC.out.2.2.1 W1 J1.out).mono ?_;rintro e W2 ⟨A9,k9,rfl,hB,hs9,_⟩;have J2:=hide (And.intro hs9 (J1.out.trans (hB.mono J1.out.size)));clear hB hs9)
       | (go_at_call 29;refine (HC.out.2.2.2.1 W2 J2.out.2 A9 k9 W2.heap.size J2.out.1).mono ?_;rintro e W3 ⟨rfl,k7,hX7⟩;have hBw:Below X6.heap.size X6 W3:=(by rw [hX7];exact below_drewN J2.out.2 k7);have hbw:=H6.out.2.1.below hBw H6.out.2.1.lt;have z1:=hbw.cell 1;have z4:=hbw.cell 4;have hgl:=hbw.lt;have J3:=hide (H6.out.2.2.trans (hBw.mono H6.out.2.2.size));clear hX7 hBw hbw))
      go_ret
      exact ⟨rfl,J3.out⟩
   ·have hR:=HR.out.2.2.2.1 he
    have hne:(E !=0)=true:=by simpa using he
    have hn1:=HNN.out
    rw [hR,List.length_nil] at hn1
    subst hn1
    go_wp2
    go_ret
    exact ⟨rfl,H6.out.2.2⟩
end Go.Proofs.YtmemofonebphfaaGreat
