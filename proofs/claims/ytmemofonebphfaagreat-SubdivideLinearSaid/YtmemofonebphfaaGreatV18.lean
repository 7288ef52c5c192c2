import Derived.Test.YtmemofonebphfaaGreatV14
import Derived.Test.YtmemofonebphfaaGreatV17
namespace Go.Proofs.YtmemofonebphfaaGreat
open Go.RowKit Go.Sort
theorem ltP_lex:ltP=lexB (fun a b:Int=>decide (a < b)) (lexB (fun a b:Int=>decide (a < b)) (fun a b:Int=>decide (a < b))):=by
 funext a b
 obtain ⟨a1,a2,a3⟩:=a
 obtain ⟨b1,b2,b3⟩:=b
 simp only [ltP,lexB]
 by_cases h1:a1=b1 <;>by_cases h2:a2=b2 <;>simp [h1,h2]
theorem sto_P:STO ltP:=by rw [ltP_lex];exact sto_int.lex (sto_int.lex sto_int)
def ltT (s t:Tri):Bool:=lexB ltP (lexB ltP ltP) s t
theorem sto_T:STO ltT:=sto_P.lex (sto_P.lex sto_P)
theorem cmpP_neg (a b:Pt):cmpP a b < 0 ↔ ltP a b=true:=by
 unfold cmpP
 cases ltP a b <;>cases ltP b a <;>simp
theorem cmpP_zero (a b:Pt):cmpP a b=0 ↔ a=b:=by
 unfold cmpP
 constructor
 ·intro h
  cases h1:ltP a b <;>cases h2:ltP b a <;>simp [h1,h2] at h
  exact sto_P.total _ _ h1 h2
 ·rintro rfl
  simp [sto_P.irrefl]
end Go.Proofs.YtmemofonebphfaaGreat
namespace Go.Proofs.YtmemofonebphfaaGreat
open Go.RowKit Go.Sort
def cutA (A:Option Addr) (c i s:Nat):Option Addr:=if c=i then A else A.map (·.add (i*s))
theorem Sl.cut {α:Type} {enc:α→List Value} {k:Nat} {w:World} {B:Nat} {A:Option Addr} {xs:List α} {i c:Nat} (h:Sl enc k w B A xs) (hi:i≤xs.length) (hc:xs.length≤c):Sl enc k w B (cutA A c i k) (xs.drop i):=by
 rcases h with ⟨rfl,rfl⟩ | ⟨b,o,rfl,hb,hcs⟩
 ·refine .inl ⟨by simp,?_⟩
  unfold cutA;split <;>rfl
 ·unfold cutA
  split
  ·rename_i h
   refine .inr ⟨b,o,rfl,hb,fun j x hx=> ?_⟩
   rw [List.getElem?_drop,List.getElem?_eq_none (by omega)] at hx
   cases hx
  ·refine .inr ⟨b,o+i*k,by rw [Option.map_some,add_none],hb,fun j x hx l u hu=> ?_⟩
   rw [List.getElem?_drop] at hx
   have:=hcs _ _ hx l u hu
   rw [Nat.add_mul,←Nat.add_assoc] at this
   exact this
theorem run_cut {P:Program} {T E:TypeId} {s n c i:Nat} {A:Option Addr} (hT:P.underlying T=some (.slice E)) (hs:∀W:World,(sizeOf E).run P W= .ok s W) (hi:i≤n) (W:World):(Instr.slice T (.slice A n c) (some (.int .i64 i)) none none).run P W= .ok (.slice (cutA A c i s) (n - i) (c - i)) W:=by
 have hE:P.elem T=E:=by simp [Program.elem,hT]
 have hT':P.underlying T=some (.slice (P.elem T)):=by rw [hE];exact hT
 rw [run_slice_l (t:=T) (ht:=hT') (h0:=by omega) (h1:=by omega)]
 simp [hE,hs,sliced,cutA]
theorem run_cutH {P:Program} {T E:TypeId} {s n c i:Nat} {A:Option Addr} (hT:P.underlying T=some (.slice E)) (hs:∀W:World,(sizeOf E).run P W= .ok s W) (hi:i≤n) (hc:n≤c) (W:World):(Instr.slice T (.slice A n c) none (some (.int .i64 i)) none).run P W= .ok (.slice A i c) W:=by
 have hE:P.elem T=E:=by simp [Program.elem,hT]
 have hT':P.underlying T=some (.slice (P.elem T)):=by rw [hE];exact hT
 rw [run_slice_h (t:=T) (ht:=hT') (h0:=by omega) (h2:=by omega)]
 have hadd:∀a:Addr,a.add 0=a:=fun a=>by simp [Addr.add]
 cases A <;>simp [hE,hs,sliced,hadd]
theorem encT_len (t:Tri):(encT t).length=9:=rfl
theorem encP_len (p:Pt):(encP p).length=3:=rfl
theorem encT_one (t:Tri):∀v∈encT t,v.oneCell'=true:=by
 intro v hv
 simp only [encT,List.mem_cons,List.not_mem_nil,or_false] at hv
 rcases hv with rfl | rfl | rfl | rfl | rfl | rfl | rfl | rfl | rfl <;>rfl
theorem encP_one (p:Pt):∀v∈encP p,v.oneCell'=true:=by
 intro v hv
 simp only [encP,List.mem_cons,List.not_mem_nil,or_false] at hv
 rcases hv with rfl | rfl | rfl <;>rfl
theorem infoT:(Tryz.prog.info? 46).map (fun i=>(i.zero,i.size,i.bytes))=some (some (.agg #[.int .i64 0, .int .i64 0, .int .i64 0, .int .i64 0, .int .i64 0, .int .i64 0, .int .i64 0, .int .i64 0, .int .i64 0]),9,72):=by kernel_rfl
theorem infoP:(Tryz.prog.info? 43).map (fun i=>(i.zero,i.size,i.bytes))=some (some (.agg #[.int .i64 0, .int .i64 0, .int .i64 0]),3,24):=by kernel_rfl
end Go.Proofs.YtmemofonebphfaaGreat
namespace Go.Proofs.YtmemofonebphfaaGreat
open Go.RowKit Go.Sort
theorem ltOf_cmpT:ltOf cmpT=ltT:=by
 funext s t
 obtain ⟨a,b,c⟩:=s
 obtain ⟨d,e,f⟩:=t
 unfold ltOf cmpT orI ltT lexB
 rw [Bool.eq_iff_iff]
 simp only [decide_eq_true_eq,Bool.or_eq_true,Bool.and_eq_true,←cmpP_neg,←cmpP_zero]
 by_cases h1:cmpP a d=0
 ·by_cases h2:cmpP b e=0
  ·simp [h1,h2]
  ·simp [h1,h2]
 ·simp [h1]
end Go.Proofs.YtmemofonebphfaaGreat
