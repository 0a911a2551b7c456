/-
  DERIVED. GIVEN WITH THE SEED: THE CARDS: each row of YtcopnpkblcgocaaDoorRows.lean that lists a variable, with what it lists TIED to the program's text (the seventh form; the later family's looks); each row that meets fmt, with fmt's text TOLD by the authors' own Lean function (tested against real Go, not proved from fmt's source: count such statements apart). THE CARD IS WHAT COUNTS. Prove the row's statement (the work); the ties are given (YtcopnpkblcgocaaDoorTie.lean); close each card by the builder's one call (the guide's Derived/Test/ToyasCard.lean, 'card_holds'). Laid BY PROGRAM, IN A SANDBOX (cutbox-door.mjs). By AI agents, Wed Nov 11 2026. No macro, syntax, notation, axiom, sorry.
-/
import Derived.Test.YtcopnpkblcgocaaDoorRows
import GoSem.ClaimSeven
namespace Go.Proofs.YtcopnpkblcgocaaDoor
namespace Rows

/-- THE TIED CARD OF 'escrowlaw8.SchemaSteps'. -/
def schemaStepsCard : Claim7 := { stood := { row := schemaStepsRow, standIns := [], harness := (true, "e8047b325ff8932f7c21dadbd5a0eb0419622f02caf4d530ba50d7ce1224dc4e"), looks := false }, kinds := [], alts := [], laidByText := true, laidKinds := [.data, .pinned], laidTests := true, laidLooks := .later }
def SchemaStepsCardSaid : Prop := Claim7.holds Tryd.pinned (.plain (OpenSpec.ofChange schemaStepsSpec)) schemaStepsCard

/-- THE TIED CARD OF 'escrowlaw8.SchemaBytes'. -/
def schemaBytesCard : Claim7 := { stood := { row := schemaBytesRow, standIns := [], harness := (true, "e8047b325ff8932f7c21dadbd5a0eb0419622f02caf4d530ba50d7ce1224dc4e"), looks := false }, kinds := [], alts := [], laidByText := true, laidKinds := [.data, .pinned], laidTests := true, laidLooks := .later }
def SchemaBytesCardSaid : Prop := Claim7.holds Tryd.pinned (.plain (OpenSpec.ofChange schemaBytesSpec)) schemaBytesCard

/-- THE TIED CARD OF 'escrowlaw8.SchemaAlike'. -/
def schemaAlikeCard : Claim7 := { stood := { row := schemaAlikeRow, standIns := [], harness := (true, "e8047b325ff8932f7c21dadbd5a0eb0419622f02caf4d530ba50d7ce1224dc4e"), looks := false }, kinds := [], alts := [], laidByText := true, laidKinds := [.data, .pinned], laidTests := true, laidLooks := .later }
def SchemaAlikeCardSaid : Prop := Claim7.holds Tryd.pinned (.plain (OpenSpec.ofChange schemaAlikeSpec)) schemaAlikeCard

/-- THE TIED CARD OF 'escrowlaw8.SchemaUps'. -/
def schemaUpsCard : Claim7 := { stood := { row := schemaUpsRow, standIns := [], harness := (true, "e8047b325ff8932f7c21dadbd5a0eb0419622f02caf4d530ba50d7ce1224dc4e"), looks := false }, kinds := [], alts := [], laidByText := true, laidKinds := [.data, .pinned], laidTests := true, laidLooks := .later }
def SchemaUpsCardSaid : Prop := Claim7.holds Tryd.pinned (.plain (OpenSpec.ofChange schemaUpsSpec)) schemaUpsCard

/-- THE TIED CARD OF 'escrowlaw8.SchemaDowns'. -/
def schemaDownsCard : Claim7 := { stood := { row := schemaDownsRow, standIns := [], harness := (true, "e8047b325ff8932f7c21dadbd5a0eb0419622f02caf4d530ba50d7ce1224dc4e"), looks := false }, kinds := [], alts := [], laidByText := true, laidKinds := [.data, .pinned], laidTests := true, laidLooks := .later }
def SchemaDownsCardSaid : Prop := Claim7.holds Tryd.pinned (.plain (OpenSpec.ofChange schemaDownsSpec)) schemaDownsCard

/-- THE SECOND FORM's CARD OF 'escrowlaw8.SchemaSteps'. -/
def schemaStepsUptoCard : Claim7 := { stood := { row := schemaStepsUptoRow, standIns := [], harness := (true, "e8047b325ff8932f7c21dadbd5a0eb0419622f02caf4d530ba50d7ce1224dc4e"), looks := false }, kinds := [], alts := [], laidByText := true, laidKinds := [.data, .pinned], laidTests := true, laidLooks := .later }
def SchemaStepsUptoCardSaid : Prop := Claim7.holds Tryd.pinned (.plain (OpenSpec.upto schemaStepsSpec)) schemaStepsUptoCard

/-- THE SECOND FORM's CARD OF 'escrowlaw8.SchemaBytes'. -/
def schemaBytesUptoCard : Claim7 := { stood := { row := schemaBytesUptoRow, standIns := [], harness := (true, "e8047b325ff8932f7c21dadbd5a0eb0419622f02caf4d530ba50d7ce1224dc4e"), looks := false }, kinds := [], alts := [], laidByText := true, laidKinds := [.data, .pinned], laidTests := true, laidLooks := .later }
def SchemaBytesUptoCardSaid : Prop := Claim7.holds Tryd.pinned (.plain (OpenSpec.upto schemaBytesSpec)) schemaBytesUptoCard

/-- THE SECOND FORM's CARD OF 'escrowlaw8.SchemaAlike'. -/
def schemaAlikeUptoCard : Claim7 := { stood := { row := schemaAlikeUptoRow, standIns := [], harness := (true, "e8047b325ff8932f7c21dadbd5a0eb0419622f02caf4d530ba50d7ce1224dc4e"), looks := false }, kinds := [], alts := [], laidByText := true, laidKinds := [.data, .pinned], laidTests := true, laidLooks := .later }
def SchemaAlikeUptoCardSaid : Prop := Claim7.holds Tryd.pinned (.plain (OpenSpec.upto schemaAlikeSpec)) schemaAlikeUptoCard

/-- THE SECOND FORM's CARD OF 'escrowlaw8.SchemaUps'. -/
def schemaUpsUptoCard : Claim7 := { stood := { row := schemaUpsUptoRow, standIns := [], harness := (true, "e8047b325ff8932f7c21dadbd5a0eb0419622f02caf4d530ba50d7ce1224dc4e"), looks := false }, kinds := [], alts := [], laidByText := true, laidKinds := [.data, .pinned], laidTests := true, laidLooks := .later }
def SchemaUpsUptoCardSaid : Prop := Claim7.holds Tryd.pinned (.plain (OpenSpec.upto schemaUpsSpec)) schemaUpsUptoCard

/-- THE SECOND FORM's CARD OF 'escrowlaw8.SchemaDowns'. -/
def schemaDownsUptoCard : Claim7 := { stood := { row := schemaDownsUptoRow, standIns := [], harness := (true, "e8047b325ff8932f7c21dadbd5a0eb0419622f02caf4d530ba50d7ce1224dc4e"), looks := false }, kinds := [], alts := [], laidByText := true, laidKinds := [.data, .pinned], laidTests := true, laidLooks := .later }
def SchemaDownsUptoCardSaid : Prop := Claim7.holds Tryd.pinned (.plain (OpenSpec.upto schemaDownsSpec)) schemaDownsUptoCard
end Rows
end Go.Proofs.YtcopnpkblcgocaaDoor
