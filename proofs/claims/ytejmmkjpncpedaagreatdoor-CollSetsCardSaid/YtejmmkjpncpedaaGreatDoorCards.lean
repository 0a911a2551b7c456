/-
  DERIVED. GIVEN WITH THE SEED: THE CARDS: each row of YtejmmkjpncpedaaGreatDoorRows.lean that lists a variable, with what it lists TIED to the program's text (the seventh form; the later family's looks); each row that meets fmt, with fmt's text TOLD by the authors' own Lean function (tested against real Go, not proved from fmt's source: count such statements apart). THE CARD IS WHAT COUNTS. Prove the row's statement (the work); the ties are given (YtejmmkjpncpedaaGreatDoorTie.lean); close each card by the builder's one call (the guide's Derived/Test/ToyasCard.lean, 'card_holds'). Laid BY PROGRAM, IN A SANDBOX (cutbox-door.mjs). By AI agents, Wed Nov 11 2026. No macro, syntax, notation, axiom, sorry.
-/
import Derived.Test.YtejmmkjpncpedaaGreatDoorRows
import GoSem.ClaimSeven
namespace Go.Proofs.YtejmmkjpncpedaaGreatDoor
namespace Rows

/-- THE TIED CARD OF 'escrowlaw10.CollRegs'. -/
def collRegsCard : Claim7 := { stood := { row := collRegsRow, standIns := [], harness := (true, "f1b611af5deb30751f7dd234cfad85a8b0e2ca5fe5d9cd73d701b228a759c60f"), looks := false }, kinds := [], alts := [], laidByText := true, laidKinds := [.data, .pinned], laidTests := true, laidLooks := .later }
def CollRegsCardSaid : Prop := Claim7.holds Tryz.pinned (.plain (OpenSpec.ofChange collRegsSpec)) collRegsCard

/-- THE TIED CARD OF 'escrowlaw10.CollBinds'. -/
def collBindsCard : Claim7 := { stood := { row := collBindsRow, standIns := [], harness := (true, "f1b611af5deb30751f7dd234cfad85a8b0e2ca5fe5d9cd73d701b228a759c60f"), looks := false }, kinds := [], alts := [], laidByText := true, laidKinds := [.data, .pinned], laidTests := true, laidLooks := .later }
def CollBindsCardSaid : Prop := Claim7.holds Tryz.pinned (.plain (OpenSpec.ofChange collBindsSpec)) collBindsCard

/-- THE TIED CARD OF 'escrowlaw10.CollSets'. -/
def collSetsCard : Claim7 := { stood := { row := collSetsRow, standIns := [], harness := (true, "f1b611af5deb30751f7dd234cfad85a8b0e2ca5fe5d9cd73d701b228a759c60f"), looks := false }, kinds := [], alts := [], laidByText := true, laidKinds := [.data, .pinned], laidTests := true, laidLooks := .later }
def CollSetsCardSaid : Prop := Claim7.holds Tryz.pinned (.plain (OpenSpec.ofChange collSetsSpec)) collSetsCard

/-- THE TIED CARD OF 'escrowlaw10.CollVers'. -/
def collVersCard : Claim7 := { stood := { row := collVersRow, standIns := [], harness := (true, "f1b611af5deb30751f7dd234cfad85a8b0e2ca5fe5d9cd73d701b228a759c60f"), looks := false }, kinds := [], alts := [], laidByText := true, laidKinds := [.data, .pinned], laidTests := true, laidLooks := .later }
def CollVersCardSaid : Prop := Claim7.holds Tryz.pinned (.plain (OpenSpec.ofChange collVersSpec)) collVersCard

/-- THE SECOND FORM's CARD OF 'escrowlaw10.CollRegs'. -/
def collRegsUptoCard : Claim7 := { stood := { row := collRegsUptoRow, standIns := [], harness := (true, "f1b611af5deb30751f7dd234cfad85a8b0e2ca5fe5d9cd73d701b228a759c60f"), looks := false }, kinds := [], alts := [], laidByText := true, laidKinds := [.data, .pinned], laidTests := true, laidLooks := .later }
def CollRegsUptoCardSaid : Prop := Claim7.holds Tryz.pinned (.plain (OpenSpec.upto collRegsSpec)) collRegsUptoCard

/-- THE SECOND FORM's CARD OF 'escrowlaw10.CollBinds'. -/
def collBindsUptoCard : Claim7 := { stood := { row := collBindsUptoRow, standIns := [], harness := (true, "f1b611af5deb30751f7dd234cfad85a8b0e2ca5fe5d9cd73d701b228a759c60f"), looks := false }, kinds := [], alts := [], laidByText := true, laidKinds := [.data, .pinned], laidTests := true, laidLooks := .later }
def CollBindsUptoCardSaid : Prop := Claim7.holds Tryz.pinned (.plain (OpenSpec.upto collBindsSpec)) collBindsUptoCard

/-- THE SECOND FORM's CARD OF 'escrowlaw10.CollSets'. -/
def collSetsUptoCard : Claim7 := { stood := { row := collSetsUptoRow, standIns := [], harness := (true, "f1b611af5deb30751f7dd234cfad85a8b0e2ca5fe5d9cd73d701b228a759c60f"), looks := false }, kinds := [], alts := [], laidByText := true, laidKinds := [.data, .pinned], laidTests := true, laidLooks := .later }
def CollSetsUptoCardSaid : Prop := Claim7.holds Tryz.pinned (.plain (OpenSpec.upto collSetsSpec)) collSetsUptoCard

/-- THE SECOND FORM's CARD OF 'escrowlaw10.CollVers'. -/
def collVersUptoCard : Claim7 := { stood := { row := collVersUptoRow, standIns := [], harness := (true, "f1b611af5deb30751f7dd234cfad85a8b0e2ca5fe5d9cd73d701b228a759c60f"), looks := false }, kinds := [], alts := [], laidByText := true, laidKinds := [.data, .pinned], laidTests := true, laidLooks := .later }
def CollVersUptoCardSaid : Prop := Claim7.holds Tryz.pinned (.plain (OpenSpec.upto collVersSpec)) collVersUptoCard
end Rows
end Go.Proofs.YtejmmkjpncpedaaGreatDoor
