import Derived.Test.YtmemofonebphfaaGreatZ14
import Derived.Test.YtmemofonebphfaaGreatZ17
namespace Go.Proofs.YtmemofonebphfaaGreat
open Go.RowKit Go.Sort
theorem zNS:ltP=lexB (fun a b:Int=>decide (a < b)) (lexB (fun a b:Int=>decide (a < b)) (fun a b:Int=>decide (a < b))):=by
 funext a b
 obtain ⟨a1,a2,a3⟩:=a
 obtain ⟨b1,b2,b3⟩:=b
 simp only [ltP,lexB]
 by_cases h1:a1=b1 <;>by_cases h2:a2=b2 <;>simp [h1,h2]
theorem fJ:STO ltP:=by rw [zNS];exact zE5.lex (zE5.lex zE5)
def ltT (s t:Tri):Bool:=lexB ltP (lexB ltP ltP) s t
theorem zJ1:STO ltT:=fJ.lex (fJ.lex fJ)
theorem zL1 (a b:Pt):cmpP a b < 0 ↔ ltP a b=true:=by
 unfold cmpP
 cases ltP a b <;>cases ltP b a <;>simp
theorem zII (a b:Pt):cmpP a b=0 ↔ a=b:=by
 unfold cmpP
 constructor
 ·intro h
  cases h1:ltP a b <;>cases h2:ltP b a <;>simp [h1,h2] at h
  exact fJ.total _ _ h1 h2
 ·rintro rfl
  simp [fJ.irrefl]
end Go.Proofs.YtmemofonebphfaaGreat
namespace Go.Proofs.YtmemofonebphfaaGreat
open Go.RowKit Go.Sort
def cutA (A:Option Addr) (c i s:Nat):Option Addr:=if c=i then A else A.map (·.add (i*s))
theorem Sl.cut {α:Type} {enc:α→List Value} {k:Nat} {w:World} {B:Nat} {A:Option Addr} {xs:List α} {i c:Nat} (h:Sl enc k w B A xs) (hi:i≤xs.length) (hc:xs.length≤c):Sl enc k w B (cutA A c i k) (xs.drop i):=by
 rcases h with ⟨rfl,rfl⟩ | ⟨b,o,rfl,hb,hcs⟩
 ·refine .inl ⟨by simp,?_⟩
  unfold cutA;split <;>rfl
 ·unfold cutA
  split
  ·rename_i h
   refine .inr ⟨b,o,rfl,hb,fun j x hx=> ?_⟩
   rw [List.getElem?_drop,List.getElem?_eq_none (by omega)] at hx
   cases hx
  ·refine .inr ⟨b,o+i*k,by rw [Option.map_some,jF],hb,fun j x hx l u hu=> ?_⟩
   rw [List.getElem?_drop] at hx
   have:=hcs _ _ hx l u hu
   rw [Nat.add_mul,←Nat.add_assoc] at this
   exact this
theorem Sl.take {α:Type} {enc:α→List Value} {k:Nat} {w:World} {B:Nat} {A:Option Addr} {xs:List α} (i:Nat) (h:Sl enc k w B A xs):Sl enc k w B A (xs.take i):=by
 rcases h with ⟨rfl,rfl⟩ | ⟨b,o,rfl,hb,hcs⟩
 ·exact .inl ⟨by simp,rfl⟩
 ·refine .inr ⟨b,o,rfl,hb,fun j x hx l u hu=> ?_⟩
  rw [List.getElem?_take] at hx
  split at hx
  ·exact hcs _ _ hx l u hu
  ·cases hx
theorem kN {P:Program} {T E:TypeId} {s n c i:Nat} {A:Option Addr} (hT:P.underlying T=some (.slice E)) (hs:∀W:World,(sizeOf E).run P W= .ok s W) (hi:i≤n) (W:World):(Instr.slice T (.slice A n c) (some (.int .i64 i)) none none).run P W= .ok (.slice (cutA A c i s) (n - i) (c - i)) W:=by
 have hE:P.elem T=E:=by simp [Program.elem,hT]
 have hT':P.underlying T=some (.slice (P.elem T)):=by rw [hE];exact hT
 rw [run_slice_l (t:=T) (ht:=hT') (h0:=by omega) (h1:=by omega)]
 simp [hE,hs,sliced,cutA]
theorem wE {P:Program} {T E:TypeId} {s n c i:Nat} {A:Option Addr} (hT:P.underlying T=some (.slice E)) (hs:∀W:World,(sizeOf E).run P W= .ok s W) (hi:i≤n) (hc:n≤c) (W:World):(Instr.slice T (.slice A n c) none (some (.int .i64 i)) none).run P W= .ok (.slice A i c) W:=by
 have hE:P.elem T=E:=by simp [Program.elem,hT]
 have hT':P.underlying T=some (.slice (P.elem T)):=by rw [hE];exact hT
 rw [run_slice_h (t:=T) (ht:=hT') (h0:=by omega) (h2:=by omega)]
 have hadd:∀a:Addr,a.add 0=a:=fun a=>by simp [Addr.add]
 cases A <;>simp [hE,hs,sliced,hadd]
theorem zW (t:Tri):(encT t).length=9:=rfl
theorem zO (p:Pt):(encP p).length=3:=rfl
theorem yU (t:Tri):∀v∈encT t,v.oneCell'=true:=by
 intro v hv
 simp only [encT,List.mem_cons,List.not_mem_nil,or_false] at hv
 rcases hv with rfl | rfl | rfl | rfl | rfl | rfl | rfl | rfl | rfl <;>rfl
theorem yQ (p:Pt):∀v∈encP p,v.oneCell'=true:=by
 intro v hv
 simp only [encP,List.mem_cons,List.not_mem_nil,or_false] at hv
 rcases hv with rfl | rfl | rfl <;>rfl
theorem kF:(Tryz.prog.info? 46).map (fun i=>(i.zero,i.size,i.bytes))=some (some (.agg #[.int .i64 0, .int .i64 0, .int .i64 0, .int .i64 0, .int .i64 0, .int .i64 0, .int .i64 0, .int .i64 0, .int .i64 0]),9,72):=by kernel_rfl
theorem bC:(Tryz.prog.info? 43).map (fun i=>(i.zero,i.size,i.bytes))=some (some (.agg #[.int .i64 0, .int .i64 0, .int .i64 0]),3,24):=by kernel_rfl
end Go.Proofs.YtmemofonebphfaaGreat
namespace Go.Proofs.YtmemofonebphfaaGreat
open Go.RowKit Go.Sort
theorem dL:ltOf cmpT=ltT:=by
 funext s t
 obtain ⟨a,b,c⟩:=s
 obtain ⟨d,e,f⟩:=t
 unfold ltOf cmpT orI ltT lexB
 rw [Bool.eq_iff_iff]
 simp only [decide_eq_true_eq,Bool.or_eq_true,Bool.and_eq_true,←zL1,←zII]
 by_cases h1:cmpP a d=0
 ·by_cases h2:cmpP b e=0
  ·simp [h1,h2]
  ·simp [h1,h2]
 ·simp [h1]
end Go.Proofs.YtmemofonebphfaaGreat
namespace Go.Proofs.YtmemofonebphfaaGreat
open Go.RowKit Go.Sort
theorem zL5 {α:Type} {enc:α→List Value} {k:Nat} {e:TypeId} {w:World} {base n cap g o:Nat} {xs ys:List α} {vs:List Value} (hk:∀x,(enc x).length=k) (h:Own enc k e w base (.slice (some ⟨g,0,none⟩) n cap) n xs) (hl:ys.length=xs.length) (ho:o+vs.length≤n*k) (hf:ys.flatMap enc=setMany (xs.flatMap enc) o vs):
  Own enc k e (setW w g o vs) base (.slice (some ⟨g,0,none⟩) n cap) n ys:=by
 refine ⟨by rw [hl];exact h.1,?_⟩
 obtain ⟨h0,h1⟩:=h.2
 have hn:=h.1
 have hfl:=xG hk xs
 have hfl2:=xG hk ys
 refine ⟨by rw [hfl2,hl,hn],?_⟩
 rcases h1 with ⟨h1,_⟩ | ⟨g',cap',cur,h1,hb,hheap,hnc,hcm,hsz,htake⟩
 ·cases h1
 ·cases h1
  obtain ⟨cs',h2,h3⟩:=zAA vs w o cur hheap
  have e1:cur.toList.length=cur.size:=Array.length_toList
  have hnk:n*k≤cur.toList.length:=by rw [e1,hsz];exact Nat.mul_le_mul_right _ hnc
  have hsm:=uU vs cur.toList o (by omega)
  have hsm2:=uU vs (xs.flatMap enc) o (by rw [hfl,←hn];exact ho)
  refine .inr ⟨g,cap,cs',rfl,hb,h2,hnc,hcm,?_,?_⟩
  ·have:cs'.toList.length=cur.toList.length:=by
    rw [h3,hsm]
    simp only [List.length_append,List.length_take,List.length_drop]
    omega
   simpa [hsz] using this
  ·rw [h3,hsm,hf,hsm2,←htake]
   rw [List.take_append,List.take_append,List.take_take,List.length_take,List.length_append,List.length_take]
   rw [show min (n*k) o=o by omega,show min o cur.toList.length=o by omega]
   rw [List.take_of_length_le (l:=vs) (by omega),List.take_take,show min o (n*k)=o by omega]
   congr 1
   rw [List.drop_take]
end Go.Proofs.YtmemofonebphfaaGreat
