import Derived.Test.YtmemofonebphfaaGreatV16
import Derived.Test.YtmemofonebphfaaGreatV18
namespace Go.Proofs.YtmemofonebphfaaGreat
open Go.RowKit Go.Sort Go.Lib
def sortT (ts:List Tri):List Tri:=ts.mergeSort fun x y=> !ltT y x
end Go.Proofs.YtmemofonebphfaaGreat
namespace Go.Proofs.YtmemofonebphfaaGreat
open Go.RowKit Go.Sort
def canonT (ts:List Tri):List Tri:=sortT (ts.map rotT)
theorem map_take_snoc {α β:Type} (f:α→β) (xs:List α) (k:Nat) (x:α) (h:xs[k]? =some x):(xs.take (k+1)).map f=(xs.take k).map f++ [f x]:=by
 rw [List.take_add_one,h]
 simp
theorem sort_tri_none (p:Option Addr) (c:Nat) (w:World):Calls Tryz.prog 86 #[.slice p 0 c, .func (.func 87) #[] #[]] w fun e w'=>e= .returned (.tuple #[])∧w=w':=by
 have h:=AnyF.slices_SortFunc_none sortTriL p c (.func (.func 87) #[] #[]) w
 exact h.mono fun e w' h=>⟨h.1,h.2.symm⟩
end Go.Proofs.YtmemofonebphfaaGreat
namespace Go.Proofs.YtmemofonebphfaaGreat
open Go.RowKit Go.Sort
theorem sort_tri_own (g cap n base:Nat) (ts:List Tri) (w:World) (hO:Own encT 9 46 w base (.slice (some ⟨g,0,none⟩) n cap) n ts) (hn:ts.length < 4611686018427387904):
  Calls Tryz.prog 86 #[.slice (some ⟨g,0,none⟩) n cap, .func (.func 87) #[] #[]] w fun e w'=>
   e= .returned (.tuple #[])∧w.grownBy w' (some g)∧Own encT 9 46 w' base (.slice (some ⟨g,0,none⟩) n cap) n (sortT ts):=by
 have hH:=hO.holdsK encT_len
 have hlen:=hO.1
 rcases hO.2.2 with ⟨h0,_⟩ | ⟨g',cap',cur,hv,hbg,hg,hc,hm,hs,_⟩
 ·cases h0
 injection hv with hv _ hcc
 injection hv with hv
 injection hv with hv
 subst hv
 subst hcc
 have hlt:g < w.heap.size:=(Array.getElem?_eq_some_iff.1 hg).1
 have eg:∀args w,(callFunc 87 args).run Tryz.prog w= .ok (.enter 87 args) w:=enters_of Tryz.func87 (by kernel_rfl) rfl
 have hO:SWO (ltOf cmpT):=by rw [ltOf_cmpT];exact sto_T.swo
 have hT:∀x y,ltOf cmpT x y=false→ltOf cmpT y x=false→x=y:=by rw [ltOf_cmpT];exact sto_T.total
 have h:=AnyQ.slices_SortFunc_total sortTriL 9 Tryz.isAgg46 Tryz.sizeOf46 encT encT_len encT_one cmpT hO 87 #[] g 0 cap ts.toArray w eg
  (fun _ _ _ _ x y=>cmpTris_any x y _) hH hlt (by simpa using hn) hT
 change Calls Tryz.prog 86 _ _ _ at h
 rw [ltOf_cmpT] at h
 rw [show ts.toArray.size=n by simp [hlen]] at h
 refine h.mono ?_
 rintro e w' ⟨rfl,m,os,rfl⟩
 refine ⟨rfl,sortWorldK_grownBy,?_⟩
 have hHs:HoldsK encT 9 (sortWorldK encT 9 w g 0 m (sortT ts).toArray os) g 0 (sortT ts).toArray:=sortWorldK_holds hlt hH (by simp [sortT])
 have hgs:∃cur',(sortWorldK encT 9 w g 0 m (sortT ts).toArray os).heap[g]? =some (.cells cur' 46 (0,0))∧cur'.size=cur.size:=by
  unfold sortWorldK
  rw [heap_grow_old _ _ (by simpa [putRowK] using hlt)]
  simp only [putRowK,putRow,mapBlock,heap_ahead,Array.getElem?_modify,hg,if_true,Option.map_some]
  exact ⟨_,rfl,by simp [putCells]⟩
 obtain ⟨cur',hg',hsz⟩:=hgs
 exact Own.of_holdsK encT_len hbg hg' hc hm (by rw [hsz,hs]) (by rw [hlen];simp [sortT]) hHs
set_option maxHeartbeats 2000000 in
set_option maxRecDepth 100000 in
theorem canon_own (A:Option Addr) (c:Nat) (ts:List Tri) (w:World) (hs:Sl encT 9 w w.heap.size A ts) (hl:ts.length≤4294967296):
  Calls Tryz.prog 50 #[.slice A ts.length c] w fun e w'=>∃v,e= .returned v∧Own encT 9 46 w' w.heap.size v ts.length (canonT ts)∧Below w.heap.size w w':=by
 go_enter Tryz.func50,Tryz.ntmps50
 go_wp2
 go_loopw [8,3] (fun i v wr=>∃k:Nat,k≤ts.length∧i= .int .i64 k∧Own encT 9 46 wr w.heap.size v k ((ts.take k).map rotT)∧Below w.heap.size w wr) (fun i _ _=>ts.length - (intOf i).toNat)
 case atStart=>exact ⟨0,by omega,rfl,Own.nil,Below.refl _ _⟩
 case round=>
  obtain ⟨k,hk,rfl,hown,hB⟩:=hrel
  obtain ⟨A1,c1,rfl⟩:=hown.form
  have hsz:=hB.size
  by_cases hlt:k < ts.length
  ·obtain ⟨u,hu⟩:∃u,ts[k]? =some u:=⟨_,List.getElem?_eq_getElem hlt⟩
   obtain ⟨b,o,hA,hb,g0,g1,g2,g3,g4,g5,g6,g7,g8⟩:=(hs.below hB).tri hu
   subst hA
   have HU:=hide hu
   have HS:=hide hs
   have HOwn:=hide hown
   clear hu hs hown
   go_wp2_with fail
   refine (rotate_any u _).mono ?_
   rintro e w1 ⟨rfl,hL1⟩
   have hL:Lay wr w1:=((Lay.refl _).alloc _).trans hL1
   have hB1:=hL.below
   have hown1:=HOwn.out.below hB1 (Nat.le_refl _)
   have hz1:=hB1.size
   have HL:=hide (hB.trans (hB1.mono hsz))
   clear hL hB1 hL1 g0 g1 g2 g3 g4 g5 g6 g7 g8
   go_wp2_with (at_builtin;refine wpList_append1 rfl _ _ _ rfl Tryz.underlying44 infoT rfl (by omega) encT_len encT_one rfl (hown1.alloc _) w1.heap.size 1 (rotT u) rfl (Blk.new _ _ _) (by unfold maxLen;omega) (by omega) (by simp;omega) ?_;intro g cap w2 hown2 hg2 hB2 hat2 hgb2 hlt2)
   go_roundw
   case rel=>exact ⟨k+1,by omega,by go_num,by rw [map_take_snoc _ _ _ _ HU.out];exact hown2,(HL.out.alloc (by omega) _).trans hB2⟩
   case measure=>simp [intOf];omega
  ·have hk:k=ts.length:=by omega
   subst hk
   rw [List.take_length] at hown
   by_cases hne:ts= []
   ·subst hne
    have HO:=hide hown
    clear hs hown
    go_wp2_with (go_at_call 86;refine (sort_tri_none _ _ _).mono ?_;rintro e w1 ⟨rfl,rfl⟩)
    go_ret
    refine ⟨_,rfl,?_,hB⟩
    rw [show canonT []= [] by simp [canonT,sortT]]
    exact HO.out
   ·have hne':ts.map rotT≠ []:=by simpa using hne
    have hcap:=hown.place.1
    obtain ⟨g,cap,hv,hbg,hlt⟩:=hown.at hne'
    injection hv with e1 _ e3
    subst e1 e3
    have hcon:=sort_tri_own g c1 ts.length w.heap.size (ts.map rotT) wr hown (by simp;omega)
    have HC:=hide hcon
    clear hs hown hcon hne hne'
    go_wp2_with (go_at_call 86;refine (unhide HC).mono ?_;rintro e w1 ⟨rfl,hg1,hH1⟩)
    go_ret
    exact ⟨_,rfl,hH1,hB.grown hg1 hsz (fun r hr=>by injection hr with hr;omega)⟩
end Go.Proofs.YtmemofonebphfaaGreat
