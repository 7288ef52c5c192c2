import Derived.Test.YtmemofonebphfaaGreatP18
import Derived.Test.YtmemofonebphfaaGreatP39
namespace Go.Proofs.YtmemofonebphfaaGreat
open Go.RowKit Go.Sort
theorem own_many {α:Type} {enc:α→List Value} {k:Nat} {e:TypeId} {w:World} {base n cap g o:Nat} {xs ys:List α} {vs:List Value} (hk:∀x,(enc x).length=k) (h:Own enc k e w base (.slice (some ⟨g,0,none⟩) n cap) n xs) (hl:ys.length=xs.length) (ho:o+vs.length≤n*k) (hf:ys.flatMap enc=setMany (xs.flatMap enc) o vs):
  Own enc k e (setW w g o vs) base (.slice (some ⟨g,0,none⟩) n cap) n ys:=by
 refine ⟨by rw [hl];exact h.1,?_⟩
 obtain ⟨h0,h1⟩:=h.2
 have hn:=h.1
 have hfl:=flat_len hk xs
 have hfl2:=flat_len hk ys
 refine ⟨by rw [hfl2,hl,hn],?_⟩
 rcases h1 with ⟨h1,_⟩ | ⟨g',cap',cur,h1,hb,hheap,hnc,hcm,hsz,htake⟩
 ·cases h1
 ·cases h1
  obtain ⟨cs',h2,h3⟩:=setW_heap vs w o cur hheap
  have e1:cur.toList.length=cur.size:=Array.length_toList
  have hnk:n*k≤cur.toList.length:=by rw [e1,hsz];exact Nat.mul_le_mul_right _ hnc
  have hsm:=setMany_eq vs cur.toList o (by omega)
  have hsm2:=setMany_eq vs (xs.flatMap enc) o (by rw [hfl,←hn];exact ho)
  refine .inr ⟨g,cap,cs',rfl,hb,h2,hnc,hcm,?_,?_⟩
  ·have:cs'.toList.length=cur.toList.length:=by
    rw [h3,hsm]
    simp only [List.length_append,List.length_take,List.length_drop]
    omega
   simpa [hsz] using this
  ·rw [h3,hsm,hf,hsm2,←htake]
   rw [List.take_append,List.take_append,List.take_take,List.length_take,List.length_append,List.length_take]
   rw [show min (n*k) o=o by omega,show min o cur.toList.length=o by omega]
   rw [List.take_of_length_le (l:=vs) (by omega),List.take_take,show min o (n*k)=o by omega]
   congr 1
   rw [List.drop_take]
end Go.Proofs.YtmemofonebphfaaGreat
