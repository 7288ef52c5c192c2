/-
  DERIVED. GIVEN WITH THE SEED: THE CARDS: each row of YtelfnmohpjkilaaDoorRows.lean that lists a variable, with what it lists TIED to the program's text (the seventh form; the later family's looks); each row that meets fmt, with fmt's text TOLD by the authors' own Lean function (tested against real Go, not proved from fmt's source: count such statements apart). THE CARD IS WHAT COUNTS. Prove the row's statement (the work); the ties are given (YtelfnmohpjkilaaDoorTie.lean); close each card by the builder's one call (the guide's Derived/Test/ToyasCard.lean, 'card_holds'). Laid BY PROGRAM, IN A SANDBOX (cutbox-door.mjs). By AI agents, Wed Nov 11 2026. No macro, syntax, notation, axiom, sorry.
-/
import Derived.Test.YtelfnmohpjkilaaDoorRows
import GoSem.ClaimSeven
namespace Go.Proofs.YtelfnmohpjkilaaDoor
namespace Rows

/-- THE TIED CARD OF 'lithophanelaw04.MeshRotates'. -/
def meshRotatesCard : Claim7 := { stood := { row := meshRotatesRow, standIns := [], harness := (true, "88e9bbc3f62d81b244dd35a0c0086ad470ca3f6a807a1c74e8b170232bd2bea8"), looks := false }, kinds := [], alts := [], laidByText := true, laidKinds := [.data, .pinned], laidTests := true, laidLooks := .later }
def MeshRotatesCardSaid : Prop := Claim7.holds Tryd.pinned (.plain (OpenSpec.ofChange meshRotatesSpec)) meshRotatesCard

/-- THE TIED CARD OF 'lithophanelaw04.MeshSolids'. -/
def meshSolidsCard : Claim7 := { stood := { row := meshSolidsRow, standIns := [], harness := (true, "88e9bbc3f62d81b244dd35a0c0086ad470ca3f6a807a1c74e8b170232bd2bea8"), looks := false }, kinds := [], alts := [], laidByText := true, laidKinds := [.data, .pinned], laidTests := true, laidLooks := .later }
def MeshSolidsCardSaid : Prop := Claim7.holds Tryd.pinned (.plain (OpenSpec.ofChange meshSolidsSpec)) meshSolidsCard

/-- THE TIED CARD OF 'lithophanelaw04.MeshPieces'. -/
def meshPiecesCard : Claim7 := { stood := { row := meshPiecesRow, standIns := [], harness := (true, "88e9bbc3f62d81b244dd35a0c0086ad470ca3f6a807a1c74e8b170232bd2bea8"), looks := false }, kinds := [], alts := [], laidByText := true, laidKinds := [.data, .pinned], laidTests := true, laidLooks := .later }
def MeshPiecesCardSaid : Prop := Claim7.holds Tryd.pinned (.plain (OpenSpec.ofChange meshPiecesSpec)) meshPiecesCard

/-- THE SECOND FORM's CARD OF 'lithophanelaw04.MeshRotates'. -/
def meshRotatesUptoCard : Claim7 := { stood := { row := meshRotatesUptoRow, standIns := [], harness := (true, "88e9bbc3f62d81b244dd35a0c0086ad470ca3f6a807a1c74e8b170232bd2bea8"), looks := false }, kinds := [], alts := [], laidByText := true, laidKinds := [.data, .pinned], laidTests := true, laidLooks := .later }
def MeshRotatesUptoCardSaid : Prop := Claim7.holds Tryd.pinned (.plain (OpenSpec.upto meshRotatesSpec)) meshRotatesUptoCard

/-- THE SECOND FORM's CARD OF 'lithophanelaw04.MeshSolids'. -/
def meshSolidsUptoCard : Claim7 := { stood := { row := meshSolidsUptoRow, standIns := [], harness := (true, "88e9bbc3f62d81b244dd35a0c0086ad470ca3f6a807a1c74e8b170232bd2bea8"), looks := false }, kinds := [], alts := [], laidByText := true, laidKinds := [.data, .pinned], laidTests := true, laidLooks := .later }
def MeshSolidsUptoCardSaid : Prop := Claim7.holds Tryd.pinned (.plain (OpenSpec.upto meshSolidsSpec)) meshSolidsUptoCard

/-- THE SECOND FORM's CARD OF 'lithophanelaw04.MeshPieces'. -/
def meshPiecesUptoCard : Claim7 := { stood := { row := meshPiecesUptoRow, standIns := [], harness := (true, "88e9bbc3f62d81b244dd35a0c0086ad470ca3f6a807a1c74e8b170232bd2bea8"), looks := false }, kinds := [], alts := [], laidByText := true, laidKinds := [.data, .pinned], laidTests := true, laidLooks := .later }
def MeshPiecesUptoCardSaid : Prop := Claim7.holds Tryd.pinned (.plain (OpenSpec.upto meshPiecesSpec)) meshPiecesUptoCard
end Rows
end Go.Proofs.YtelfnmohpjkilaaDoor
