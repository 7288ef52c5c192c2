/-
  DERIVED. GIVEN WITH THE SEED: THE CARDS: each row of YtelfnmohpjkilaaGreatDoorRows.lean that lists a variable, with what it lists TIED to the program's text (the seventh form; the later family's looks); each row that meets fmt, with fmt's text TOLD by the authors' own Lean function (tested against real Go, not proved from fmt's source: count such statements apart). THE CARD IS WHAT COUNTS. Prove the row's statement (the work); the ties are given (YtelfnmohpjkilaaGreatDoorTie.lean); close each card by the builder's one call (the guide's Derived/Test/ToyasCard.lean, 'card_holds'). Laid BY PROGRAM, IN A SANDBOX (cutbox-door.mjs). By AI agents, Wed Nov 11 2026. No macro, syntax, notation, axiom, sorry.
-/
import Derived.Test.YtelfnmohpjkilaaGreatDoorRows
import GoSem.ClaimSeven
namespace Go.Proofs.YtelfnmohpjkilaaGreatDoor
namespace Rows

/-- THE TIED CARD OF 'lithophanelaw04.MeshChecks'. -/
def meshChecksCard : Claim7 := { stood := { row := meshChecksRow, standIns := [], harness := (true, "04c07113075498dd1a965284c191efc7a4137cd9f45fb354244b29608e4c9900"), looks := false }, kinds := [], alts := [], laidByText := true, laidKinds := [.data, .pinned], laidTests := true, laidLooks := .later }
def MeshChecksCardSaid : Prop := Claim7.holds Tryz.pinned (.plain (OpenSpec.ofChange meshChecksSpec)) meshChecksCard

/-- THE TIED CARD OF 'lithophanelaw04.MeshBorders'. -/
def meshBordersCard : Claim7 := { stood := { row := meshBordersRow, standIns := [], harness := (true, "04c07113075498dd1a965284c191efc7a4137cd9f45fb354244b29608e4c9900"), looks := false }, kinds := [], alts := [], laidByText := true, laidKinds := [.data, .pinned], laidTests := true, laidLooks := .later }
def MeshBordersCardSaid : Prop := Claim7.holds Tryz.pinned (.plain (OpenSpec.ofChange meshBordersSpec)) meshBordersCard

/-- THE TIED CARD OF 'lithophanelaw04.MeshVolumes'. -/
def meshVolumesCard : Claim7 := { stood := { row := meshVolumesRow, standIns := [], harness := (true, "04c07113075498dd1a965284c191efc7a4137cd9f45fb354244b29608e4c9900"), looks := false }, kinds := [], alts := [], laidByText := true, laidKinds := [.data, .pinned], laidTests := true, laidLooks := .later }
def MeshVolumesCardSaid : Prop := Claim7.holds Tryz.pinned (.plain (OpenSpec.ofChange meshVolumesSpec)) meshVolumesCard

/-- THE TIED CARD OF 'lithophanelaw04.MeshCanons'. -/
def meshCanonsCard : Claim7 := { stood := { row := meshCanonsRow, standIns := [], harness := (true, "04c07113075498dd1a965284c191efc7a4137cd9f45fb354244b29608e4c9900"), looks := false }, kinds := [], alts := [], laidByText := true, laidKinds := [.data, .pinned], laidTests := true, laidLooks := .later }
def MeshCanonsCardSaid : Prop := Claim7.holds Tryz.pinned (.plain (OpenSpec.ofChange meshCanonsSpec)) meshCanonsCard

/-- THE TIED CARD OF 'lithophanelaw04.MeshRaw'. -/
def meshRawCard : Claim7 := { stood := { row := meshRawRow, standIns := [], harness := (true, "04c07113075498dd1a965284c191efc7a4137cd9f45fb354244b29608e4c9900"), looks := false }, kinds := [], alts := [], laidByText := true, laidKinds := [.data, .pinned], laidTests := true, laidLooks := .later }
def MeshRawCardSaid : Prop := Claim7.holds Tryz.pinned (.plain (OpenSpec.ofChange meshRawSpec)) meshRawCard

/-- THE TIED CARD OF 'lithophanelaw04.MeshEulers'. -/
def meshEulersCard : Claim7 := { stood := { row := meshEulersRow, standIns := [], harness := (true, "04c07113075498dd1a965284c191efc7a4137cd9f45fb354244b29608e4c9900"), looks := false }, kinds := [], alts := [], laidByText := true, laidKinds := [.data, .pinned], laidTests := true, laidLooks := .later }
def MeshEulersCardSaid : Prop := Claim7.holds Tryz.pinned (.plain (OpenSpec.ofChange meshEulersSpec)) meshEulersCard

/-- THE TIED CARD OF 'lithophanelaw04.MeshKeeps'. -/
def meshKeepsCard : Claim7 := { stood := { row := meshKeepsRow, standIns := [], harness := (true, "04c07113075498dd1a965284c191efc7a4137cd9f45fb354244b29608e4c9900"), looks := false }, kinds := [], alts := [], laidByText := true, laidKinds := [.data, .pinned], laidTests := true, laidLooks := .later }
def MeshKeepsCardSaid : Prop := Claim7.holds Tryz.pinned (.plain (OpenSpec.ofChange meshKeepsSpec)) meshKeepsCard

/-- THE TIED CARD OF 'lithophanelaw04.MeshParts'. -/
def meshPartsCard : Claim7 := { stood := { row := meshPartsRow, standIns := [], harness := (true, "04c07113075498dd1a965284c191efc7a4137cd9f45fb354244b29608e4c9900"), looks := false }, kinds := [], alts := [], laidByText := true, laidKinds := [.data, .pinned], laidTests := true, laidLooks := .later }
def MeshPartsCardSaid : Prop := Claim7.holds Tryz.pinned (.plain (OpenSpec.ofChange meshPartsSpec)) meshPartsCard

/-- THE TIED CARD OF 'lithophanelaw04.MeshShuffled'. -/
def meshShuffledCard : Claim7 := { stood := { row := meshShuffledRow, standIns := [], harness := (true, "04c07113075498dd1a965284c191efc7a4137cd9f45fb354244b29608e4c9900"), looks := false }, kinds := [], alts := [], laidByText := true, laidKinds := [.data, .pinned], laidTests := true, laidLooks := .later }
def MeshShuffledCardSaid : Prop := Claim7.holds Tryz.pinned (.plain (OpenSpec.ofChange meshShuffledSpec)) meshShuffledCard

/-- THE SECOND FORM's CARD OF 'lithophanelaw04.MeshChecks'. -/
def meshChecksUptoCard : Claim7 := { stood := { row := meshChecksUptoRow, standIns := [], harness := (true, "04c07113075498dd1a965284c191efc7a4137cd9f45fb354244b29608e4c9900"), looks := false }, kinds := [], alts := [], laidByText := true, laidKinds := [.data, .pinned], laidTests := true, laidLooks := .later }
def MeshChecksUptoCardSaid : Prop := Claim7.holds Tryz.pinned (.plain (OpenSpec.upto meshChecksSpec)) meshChecksUptoCard

/-- THE SECOND FORM's CARD OF 'lithophanelaw04.MeshBorders'. -/
def meshBordersUptoCard : Claim7 := { stood := { row := meshBordersUptoRow, standIns := [], harness := (true, "04c07113075498dd1a965284c191efc7a4137cd9f45fb354244b29608e4c9900"), looks := false }, kinds := [], alts := [], laidByText := true, laidKinds := [.data, .pinned], laidTests := true, laidLooks := .later }
def MeshBordersUptoCardSaid : Prop := Claim7.holds Tryz.pinned (.plain (OpenSpec.upto meshBordersSpec)) meshBordersUptoCard

/-- THE SECOND FORM's CARD OF 'lithophanelaw04.MeshVolumes'. -/
def meshVolumesUptoCard : Claim7 := { stood := { row := meshVolumesUptoRow, standIns := [], harness := (true, "04c07113075498dd1a965284c191efc7a4137cd9f45fb354244b29608e4c9900"), looks := false }, kinds := [], alts := [], laidByText := true, laidKinds := [.data, .pinned], laidTests := true, laidLooks := .later }
def MeshVolumesUptoCardSaid : Prop := Claim7.holds Tryz.pinned (.plain (OpenSpec.upto meshVolumesSpec)) meshVolumesUptoCard

/-- THE SECOND FORM's CARD OF 'lithophanelaw04.MeshCanons'. -/
def meshCanonsUptoCard : Claim7 := { stood := { row := meshCanonsUptoRow, standIns := [], harness := (true, "04c07113075498dd1a965284c191efc7a4137cd9f45fb354244b29608e4c9900"), looks := false }, kinds := [], alts := [], laidByText := true, laidKinds := [.data, .pinned], laidTests := true, laidLooks := .later }
def MeshCanonsUptoCardSaid : Prop := Claim7.holds Tryz.pinned (.plain (OpenSpec.upto meshCanonsSpec)) meshCanonsUptoCard

/-- THE SECOND FORM's CARD OF 'lithophanelaw04.MeshRaw'. -/
def meshRawUptoCard : Claim7 := { stood := { row := meshRawUptoRow, standIns := [], harness := (true, "04c07113075498dd1a965284c191efc7a4137cd9f45fb354244b29608e4c9900"), looks := false }, kinds := [], alts := [], laidByText := true, laidKinds := [.data, .pinned], laidTests := true, laidLooks := .later }
def MeshRawUptoCardSaid : Prop := Claim7.holds Tryz.pinned (.plain (OpenSpec.upto meshRawSpec)) meshRawUptoCard

/-- THE SECOND FORM's CARD OF 'lithophanelaw04.MeshEulers'. -/
def meshEulersUptoCard : Claim7 := { stood := { row := meshEulersUptoRow, standIns := [], harness := (true, "04c07113075498dd1a965284c191efc7a4137cd9f45fb354244b29608e4c9900"), looks := false }, kinds := [], alts := [], laidByText := true, laidKinds := [.data, .pinned], laidTests := true, laidLooks := .later }
def MeshEulersUptoCardSaid : Prop := Claim7.holds Tryz.pinned (.plain (OpenSpec.upto meshEulersSpec)) meshEulersUptoCard

/-- THE SECOND FORM's CARD OF 'lithophanelaw04.MeshKeeps'. -/
def meshKeepsUptoCard : Claim7 := { stood := { row := meshKeepsUptoRow, standIns := [], harness := (true, "04c07113075498dd1a965284c191efc7a4137cd9f45fb354244b29608e4c9900"), looks := false }, kinds := [], alts := [], laidByText := true, laidKinds := [.data, .pinned], laidTests := true, laidLooks := .later }
def MeshKeepsUptoCardSaid : Prop := Claim7.holds Tryz.pinned (.plain (OpenSpec.upto meshKeepsSpec)) meshKeepsUptoCard

/-- THE SECOND FORM's CARD OF 'lithophanelaw04.MeshParts'. -/
def meshPartsUptoCard : Claim7 := { stood := { row := meshPartsUptoRow, standIns := [], harness := (true, "04c07113075498dd1a965284c191efc7a4137cd9f45fb354244b29608e4c9900"), looks := false }, kinds := [], alts := [], laidByText := true, laidKinds := [.data, .pinned], laidTests := true, laidLooks := .later }
def MeshPartsUptoCardSaid : Prop := Claim7.holds Tryz.pinned (.plain (OpenSpec.upto meshPartsSpec)) meshPartsUptoCard

/-- THE SECOND FORM's CARD OF 'lithophanelaw04.MeshShuffled'. -/
def meshShuffledUptoCard : Claim7 := { stood := { row := meshShuffledUptoRow, standIns := [], harness := (true, "04c07113075498dd1a965284c191efc7a4137cd9f45fb354244b29608e4c9900"), looks := false }, kinds := [], alts := [], laidByText := true, laidKinds := [.data, .pinned], laidTests := true, laidLooks := .later }
def MeshShuffledUptoCardSaid : Prop := Claim7.holds Tryz.pinned (.plain (OpenSpec.upto meshShuffledSpec)) meshShuffledUptoCard
end Rows
end Go.Proofs.YtelfnmohpjkilaaGreatDoor
