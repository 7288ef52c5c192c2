import Derived.Below
namespace Go.RowKit
theorem Hid.o {p:Prop} (h:Hid p):p:=h
end Go.RowKit
namespace Go.Proofs.YtmemofonebphfaaGreat
theorem ai9 {a b:Prop} (x:a) (y:b):a∧b:=⟨x,y⟩
theorem lr9 {n:Nat}:n≤n:=Nat.le_refl n
theorem ex9 {α:Type} (a:α):∃n,n=a:=⟨a,rfl⟩
end Go.Proofs.YtmemofonebphfaaGreat
