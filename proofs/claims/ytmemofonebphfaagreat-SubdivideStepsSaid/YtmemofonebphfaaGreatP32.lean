import Derived.Test.YtmemofonebphfaaGreatP3
namespace Go.Proofs.YtmemofonebphfaaGreat
open Go.RowKit
section
variable {α:Type} {enc:α→List Value} {k:Nat} {w w':World} {B B':Nat} {A:Option Addr} {xs:List α}
theorem Sl.nil:Sl enc k w B none ([]:List α):= .inl ⟨rfl,rfl⟩
end
end Go.Proofs.YtmemofonebphfaaGreat
