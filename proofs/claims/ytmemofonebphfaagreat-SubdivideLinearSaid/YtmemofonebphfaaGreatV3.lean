import Derived.WalkKit
import Derived.WalkSpells
import Derived.WalkLawsBesides
import Derived.Laws.OwnMore
import Derived.Deep.AppendLies
import Derived.Deep.Draws
import Derived.IntWalk
namespace Go.Proofs.YtmemofonebphfaaGreat
open Go.RowKit
abbrev Pt:=Int × Int × Int
abbrev Tri:=Pt × Pt × Pt
abbrev vi (x:Int):Value:= .int .i64 x
def encP (p:Pt):List Value:= [.int .i64 p.1, .int .i64 p.2.1, .int .i64 p.2.2]
def encT (t:Tri):List Value:= [.int .i64 t.1.1, .int .i64 t.1.2.1, .int .i64 t.1.2.2, .int .i64 t.2.1.1, .int .i64 t.2.1.2.1, .int .i64 t.2.1.2.2, .int .i64 t.2.2.1, .int .i64 t.2.2.2.1, .int .i64 t.2.2.2.2]
abbrev vP (p:Pt):Value:= .agg #[.int .i64 p.1, .int .i64 p.2.1, .int .i64 p.2.2]
abbrev vT (t:Tri):Value:= .agg #[.int .i64 t.1.1, .int .i64 t.1.2.1, .int .i64 t.1.2.2, .int .i64 t.2.1.1, .int .i64 t.2.1.2.1, .int .i64 t.2.1.2.2, .int .i64 t.2.2.1, .int .i64 t.2.2.2.1, .int .i64 t.2.2.2.2]
theorem add_none (b o n:Nat):(Addr.add ⟨b,o,none⟩ n)=⟨b,o+n,none⟩:=by
 unfold Addr.add;split
 ·subst_vars;rfl
 ·rfl
def Sl {α:Type} (enc:α→List Value) (k:Nat) (w:World) (B:Nat) (A:Option Addr) (xs:List α):Prop:=
 (xs= []∧A=none)∨∃b o,A=some ⟨b,o,none⟩∧b < B∧∀i x,xs[i]? =some x→∀j u,(enc x)[j]? =some u→w.cell? ⟨b,o+i*k+j,none⟩=some u
section
variable {α:Type} {enc:α→List Value} {k:Nat} {w w':World} {B B':Nat} {A:Option Addr} {xs:List α}
theorem Sl.keep (h:Sl enc k w B A xs) (hk:∀p:Addr,p.block < B→w'.cell? p=w.cell? p):Sl enc k w' B A xs:=by
 rcases h with h | ⟨b,o,ha,hb,hc⟩
 ·exact .inl h
 ·exact .inr ⟨b,o,ha,hb,fun i x hx j u hu=>(hk ⟨b,_,none⟩ hb).trans (hc i x hx j u hu)⟩
theorem Sl.more (h:Sl enc k w B A xs) (hB:B≤B'):Sl enc k w B' A xs:=by
 rcases h with h | ⟨b,o,ha,hb,hc⟩
 ·exact .inl h
 ·exact .inr ⟨b,o,ha,by omega,hc⟩
theorem Sl.below (h:Sl enc k w B A xs) (hb:Below B w w'):Sl enc k w' B A xs:=h.keep fun _ hp=>hb.cell hp
theorem Sl.at {i:Nat} {x:α} (h:Sl enc k w B A xs) (hi:xs[i]? =some x):∃b o,A=some ⟨b,o,none⟩∧b < B∧∀j u,(enc x)[j]? =some u→w.cell? ⟨b,o+i*k+j,none⟩=some u:=by
 rcases h with ⟨h,_⟩ | ⟨b,o,ha,hb,hc⟩
 ·subst h;simp at hi
 ·exact ⟨b,o,ha,hb,hc i x hi⟩
end
def CellsT (w:World) (b o:Nat) (t:Tri):Prop:=
 w.cell? ⟨b,o,none⟩=some (.int .i64 t.1.1)∧w.cell? ⟨b,o+1,none⟩=some (.int .i64 t.1.2.1)∧w.cell? ⟨b,o+2,none⟩=some (.int .i64 t.1.2.2)∧
 w.cell? ⟨b,o+3,none⟩=some (.int .i64 t.2.1.1)∧w.cell? ⟨b,o+4,none⟩=some (.int .i64 t.2.1.2.1)∧w.cell? ⟨b,o+5,none⟩=some (.int .i64 t.2.1.2.2)∧
 w.cell? ⟨b,o+6,none⟩=some (.int .i64 t.2.2.1)∧w.cell? ⟨b,o+7,none⟩=some (.int .i64 t.2.2.2.1)∧w.cell? ⟨b,o+8,none⟩=some (.int .i64 t.2.2.2.2)
theorem Sl.tri {w:World} {B:Nat} {A:Option Addr} {ts:List Tri} (h:Sl encT 9 w B A ts) {i:Nat} {t:Tri} (hi:ts[i]? =some t):
  ∃b o,A=some ⟨b,o,none⟩∧b < B∧CellsT w b (o+i*9) t:=by
 obtain ⟨b,o,ha,hb,hc⟩:=h.at hi
 exact ⟨b,o,ha,hb,hc 0 _ rfl,hc 1 _ rfl,hc 2 _ rfl,hc 3 _ rfl,hc 4 _ rfl,hc 5 _ rfl,hc 6 _ rfl,hc 7 _ rfl,hc 8 _ rfl⟩
def Blk (w:World) (g:Nat) (t:TypeId) (cs:Array Value):Prop:=w.heap[g]? =some (.cells cs t (0,0))
section
variable {w w':World} {g:Nat} {t:TypeId} {cs:Array Value}
theorem Blk.lt (h:Blk w g t cs):g < w.heap.size:=by
 rcases Nat.lt_or_ge g w.heap.size with hlt | hge
 ·exact hlt
 ·unfold Blk at h;rw [Array.getElem?_eq_none hge] at h;cases h
theorem Blk.cell (h:Blk w g t cs) (i:Nat):w.cell? ⟨g,i,none⟩=cs[i]? :=cell_of_row w g i cs t (0,0) h
theorem Blk.frozen (h:Blk w g t cs) (i:Nat):w.frozen? ⟨g,i,none⟩=false:=by
 unfold Blk at h
 simp [World.frozen?,h]
theorem Blk.new (w:World) (t:TypeId) (cs:Array Value):Blk (w.alloc (.cells cs t)) w.heap.size t cs:=heap_alloc_new w _
theorem Blk.new' (w:World) (t:TypeId) (cs:Array Value) (g:Nat) (hg:g=w.heap.size):Blk (w.alloc (.cells cs t)) g t cs:=by subst hg;exact Blk.new w t cs
theorem Blk.drew (h:Blk w g t cs):Blk w.drew g t cs:=h
theorem Blk.drewN (h:Blk w g t cs) (n:Nat):Blk (w.drewN n) g t cs:=h
theorem Blk.alloc (h:Blk w g t cs) (o:Obj):Blk (w.alloc o) g t cs:=(Below.heap_alloc w o g h.lt).trans h
theorem Blk.set_ (h:Blk w g t cs) (i:Nat) (u:Value):Blk (w.setCell ⟨g,i,none⟩ u) g t (cs.setIfInBounds i u):=by
 unfold Blk at h⊢
 simp [World.setCell,Array.getElem?_modify,h]
theorem Blk.far (h:Blk w g t cs) {p:Addr} (hp:g≠p.block) (u:Value):Blk (w.setCell p u) g t cs:=(Below.heap_setCell w p u g hp).trans h
theorem Blk.set3 {a b c:Value} (h:Blk w g t #[a,b,c]) (x y z:Value):Blk (((w.setCell ⟨g,0,none⟩ x).setCell ⟨g,1,none⟩ y).setCell ⟨g,2,none⟩ z) g t #[x,y,z]:=
 ((h.set_ 0 x).set_ 1 y).set_ 2 z
theorem Blk.far3 (h:Blk w g t cs) {g':Nat} (hg:g≠g') (x y z:Value):Blk (((w.setCell ⟨g',0,none⟩ x).setCell ⟨g',1,none⟩ y).setCell ⟨g',2,none⟩ z) g t cs:=
 ((h.far (p:=⟨g',0,none⟩) hg x).far (p:=⟨g',1,none⟩) hg y).far (p:=⟨g',2,none⟩) hg z
theorem Blk.below {B:Nat} (h:Blk w g t cs) (hb:Below B w w') (hg:g < B):Blk w' g t cs:=(hb.block g hg).trans h
theorem Blk.grown {row:Option Nat} (h:Blk w g t cs) (hb:w.grownBy w' row) (hg:some g≠row):Blk w' g t cs:=(hb.block g h.lt hg).trans h
end
theorem below_drewN {B:Nat} {a w:World} (h:Below B a w) (n:Nat):Below B a (w.drewN n):=⟨h.os,h.tape,h.output,h.size,h.block⟩
theorem hide {p:Prop} (h:p):Hid p:=h
theorem unhide {p:Prop} (h:Hid p):p:=h
end Go.Proofs.YtmemofonebphfaaGreat
namespace Go.Proofs.YtmemofonebphfaaGreat
def runO (b:Pt→Option Pt) (s:Pt):Nat→Pt→Bool
 | 0,_=>false
 | k+1,at_=>match b at_ with
  | none=>false
  | some x=>decide (x=s) || runO b s k x
def prgO (b:Pt→Option Pt) (s:Pt) (m:Nat):Nat→Nat→Pt→Bool
 | 0,size,at_=>decide (at_=s) && decide (size < m)
 | f+1,size,at_=>if at_=s∨m < size then decide (at_=s) && decide (size < m) else match b at_ with
  | none=>false
  | some x=>prgO b s m f (size+1) x
theorem prgO_run (b:Pt→Option Pt) (s:Pt) (m:Nat):∀(f size:Nat) (a:Pt),m < f+size→prgO b s m f size a=(decide (size < m) && (decide (a=s) || runO b s (m - 1 - size) a))
 | 0,size,a,h=>by
  unfold prgO
  rw [decide_eq_false (by omega:¬size < m)]
  simp
 | f+1,size,a,h=>by
  unfold prgO
  by_cases ha:a=s
  ·rw [if_pos (.inl ha),decide_eq_true ha]
   simp
  ·by_cases hm:m < size
   ·rw [if_pos (.inr hm),decide_eq_false ha,decide_eq_false (by omega:¬size < m)]
    rfl
   ·rw [if_neg (by rintro (h1 | h1);exact ha h1;exact hm h1),decide_eq_false ha,Bool.false_or]
    cases hb:b a with
    | none=>
     by_cases hs:size < m
     ·rw [decide_eq_true hs,Bool.true_and]
      cases hk:m - 1 - size with
      | zero=>rfl
      | succ k=>unfold runO;rw [hb]
     ·rw [decide_eq_false hs];rfl
    | some x=>
     show prgO b s m f (size+1) x=_
     rw [prgO_run b s m f (size+1) x (by omega)]
     by_cases hs:size+1 < m
     ·rw [decide_eq_true hs,decide_eq_true (by omega:size < m),Bool.true_and,Bool.true_and]
      have hk:m - 1 - size=(m - 1 - (size+1))+1:=by omega
      rw [hk]
      show _=runO b s (m - 1 - (size+1)+1) a
      conv=>rhs;unfold runO
      rw [hb]
     ·rw [decide_eq_false hs,Bool.false_and]
      by_cases h1:size < m
      ·have hk:m - 1 - size=0:=by omega
       rw [hk,decide_eq_true h1]
       rfl
      ·rw [decide_eq_false h1];rfl
theorem ring_same (b:Pt→Option Pt) (s x:Pt) (m f:Nat) (hx:b s=some x) (hf:m≤f):prgO b s m f 1 x=runO b s (m - 1) s:=by
 rw [prgO_run b s m f 1 x (by omega)]
 by_cases h:1 < m
 ·rw [decide_eq_true h,Bool.true_and]
  have hk:m - 1=(m - 1 - 1)+1:=by omega
  conv=>rhs;rw [hk];unfold runO
  rw [hx]
 ·rw [decide_eq_false h,Bool.false_and]
  have hk:m - 1=0:=by omega
  rw [hk]
  rfl
end Go.Proofs.YtmemofonebphfaaGreat
namespace Go.Proofs.YtmemofonebphfaaGreat
def cor8 (p:Pt) (s:Int) (m:Nat):Pt:=(p.1+((m % 2:Nat):Int)*s,p.2.1+((m / 2 % 2:Nat):Int)*s,p.2.2+((m / 4:Nat):Int)*s)
def quadP (a b c d:Pt):List Tri:= [(a,b,c),(a,c,d)]
def sideP (f:Nat→Pt):Nat→List Tri
 | 0=>quadP (f 0) (f 2) (f 3) (f 1)
 | 1=>quadP (f 4) (f 5) (f 7) (f 6)
 | 2=>quadP (f 0) (f 1) (f 5) (f 4)
 | 3=>quadP (f 2) (f 6) (f 7) (f 3)
 | 4=>quadP (f 0) (f 4) (f 6) (f 2)
 | _=>quadP (f 1) (f 3) (f 7) (f 5)
def cubeP (f:Nat→Pt):List Tri:=sideP f 0++(sideP f 1++(sideP f 2++(sideP f 3++(sideP f 4++sideP f 5))))
def nbrV (n:Nat):Nat→Option Nat
 | 0=>if n / 9=0 then none else some (n - 9)
 | 1=>if n / 9=2 then none else some (n+9)
 | 2=>if n / 3 % 3=0 then none else some (n - 3)
 | 3=>if n / 3 % 3=2 then none else some (n+3)
 | 4=>if n % 3=0 then none else some (n - 1)
 | _=>if n % 3=2 then none else some (n+1)
def openV (b:Nat→Bool) (n f:Nat):Bool:=match nbrV n f with
 | none=>true
 | some m=> !b m
def voxC (o:Pt) (s:Int) (n:Nat):Pt:=(o.1+((n % 3:Nat):Int)*s,o.2.1+((n / 3 % 3:Nat):Int)*s,o.2.2+((n / 9:Nat):Int)*s)
def voxN (b:Nat→Bool) (o:Pt) (s:Int) (n:Nat) (k:Nat):List Tri:=(List.range k).flatMap fun f=>if openV b n f=true then sideP (cor8 (voxC o s n) s) f else []
def voxM (b:Nat→Bool) (o:Pt) (s:Int) (n:Nat):List Tri:=if b n=true then voxN b o s n 6 else []
def voxL (b:Nat→Bool) (o:Pt) (s:Int) (k:Nat):List Tri:=(List.range k).flatMap (voxM b o s)
def voxP (b:Nat→Bool) (o:Pt) (s:Int):List Tri:=voxL b o s 27
theorem voxL_succ (b:Nat→Bool) (o:Pt) (s:Int) (k:Nat):voxL b o s (k+1)=voxL b o s k++voxM b o s k:=by
 unfold voxL
 rw [List.range_succ,List.flatMap_append,List.flatMap_cons,List.flatMap_nil,List.append_nil]
theorem voxN_succ (b:Nat→Bool) (o:Pt) (s:Int) (n k:Nat):voxN b o s n (k+1)=voxN b o s n k++if openV b n k=true then sideP (cor8 (voxC o s n) s) k else []:=by
 unfold voxN
 rw [List.range_succ,List.flatMap_append,List.flatMap_cons,List.flatMap_nil,List.append_nil]
theorem sideP_len (f:Nat→Pt) (k:Nat):(sideP f k).length=2:=by
 unfold sideP
 split <;>rfl
theorem voxN_le (b:Nat→Bool) (o:Pt) (s:Int) (n:Nat):∀k,(voxN b o s n k).length≤2*k
 | 0=>by simp [voxN]
 | k+1=>by
  rw [voxN_succ,List.length_append]
  have:=voxN_le b o s n k
  split
  ·rw [sideP_len];omega
  ·simp;omega
theorem voxL_le (b:Nat→Bool) (o:Pt) (s:Int):∀k,(voxL b o s k).length≤12*k
 | 0=>by simp [voxL]
 | k+1=>by
  rw [voxL_succ,List.length_append]
  have h1:=voxL_le b o s k
  have h2:=voxN_le b o s k 6
  unfold voxM
  split
  ·omega
  ·simp;omega
theorem voxP_le (b:Nat→Bool) (o:Pt) (s:Int):(voxP b o s).length≤324:=voxL_le b o s 27
theorem mem_side {f:Nat→Pt} {k:Nat} {t:Tri} (h:t∈sideP f k):∃i j l,i < 8∧j < 8∧l < 8∧t=(f i,f j,f l):=by
 unfold sideP at h
 split at h <;>simp only [quadP,List.mem_cons,List.not_mem_nil,or_false] at h <;>rcases h with rfl | rfl <;>exact ⟨_,_,_,by omega,by omega,by omega,rfl⟩
theorem mem_vox {b:Nat→Bool} {o:Pt} {s:Int} {t:Tri} {k:Nat} (h:t∈voxL b o s k):∃n f,n < k∧f < 6∧b n=true∧openV b n f=true∧t∈sideP (cor8 (voxC o s n) s) f:=by
 obtain ⟨n,hn,ht⟩:=List.mem_flatMap.1 h
 rw [List.mem_range] at hn
 unfold voxM at ht
 split at ht
 ·rename_i hb
  obtain ⟨f,hf,hu⟩:=List.mem_flatMap.1 ht
  rw [List.mem_range] at hf
  split at hu
  ·rename_i ho
   exact ⟨n,f,hn,hf,hb,ho,hu⟩
  ·cases hu
 ·cases ht
end Go.Proofs.YtmemofonebphfaaGreat
namespace Go.Proofs.YtmemofonebphfaaGreat
open Go.RowKit
theorem and_one4 (x:Int):bits .and .i64 x 1=x % 2:=by
 have e:(BitVec.ofInt IntKind.i64.bits 1)=(1#64):=rfl
 have h:(BitVec.ofInt IntKind.i64.bits x &&& BitVec.ofInt IntKind.i64.bits 1).toNat=(x % 2).toNat:=by
  rw [BitVec.toNat_and,e]
  show (BitVec.ofInt 64 x).toNat &&& 1=_
  rw [BitVec.toNat_ofInt,Nat.and_one_is_mod]
  omega
 show IntKind.i64.wrap ((BitVec.ofInt IntKind.i64.bits x &&& BitVec.ofInt IntKind.i64.bits 1).toNat:Nat)=_
 rw [h]
 have h0:x % 2=0∨x % 2=1:=by omega
 rcases h0 with h0 | h0 <;>rw [h0] <;>rfl
theorem bit_and (b n:Nat):bits .and .i64 ((b:Int) / 2^n) 1=if b.testBit n=true then 1 else 0:=by
 have e:((b:Int) / 2^n)=((b / 2^n:Nat):Int):=by
  rw [Int.natCast_ediv,Int.natCast_pow];rfl
 rw [and_one4,e,Nat.testBit_eq_decide_div_mod_eq]
 have h:b / 2^n % 2=0∨b / 2^n % 2=1:=by omega
 rcases h with h | h
 ·rw [h];simp;omega
 ·rw [h];simp;omega
end Go.Proofs.YtmemofonebphfaaGreat
