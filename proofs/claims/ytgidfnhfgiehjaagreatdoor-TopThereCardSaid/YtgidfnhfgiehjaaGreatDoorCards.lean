/-
  DERIVED. GIVEN WITH THE SEED: THE CARDS: each row of YtgidfnhfgiehjaaGreatDoorRows.lean that lists a variable, with what it lists TIED to the program's text (the seventh form; the later family's looks); each row that meets fmt, with fmt's text TOLD by the authors' own Lean function (tested against real Go, not proved from fmt's source: count such statements apart). THE CARD IS WHAT COUNTS. Prove the row's statement (the work); the ties are given (YtgidfnhfgiehjaaGreatDoorTie.lean); close each card by the builder's one call (the guide's Derived/Test/ToyasCard.lean, 'card_holds'). Laid BY PROGRAM, IN A SANDBOX (cutbox-door.mjs). By AI agents, Wed Nov 11 2026. No macro, syntax, notation, axiom, sorry.
-/
import Derived.Test.YtgidfnhfgiehjaaGreatDoorRows
import GoSem.ClaimSeven
namespace Go.Proofs.YtgidfnhfgiehjaaGreatDoor
namespace Rows

/-- THE TIED CARD OF 'postmarktop.TopRejects'. -/
def topRejectsCard : Claim7 := { stood := { row := topRejectsRow, standIns := [], harness := (true, "5b5cd9bf7b2c0b203eb7f4220d4ce6eb8a2db4961ef83337261350c8fccd7443"), looks := true }, kinds := [], alts := [], laidByText := true, laidKinds := [.data, .pinned], laidTests := true, laidLooks := .later }
def TopRejectsCardSaid : Prop := Claim7.holds Tryz.pinned (.plain (OpenSpec.ofChange topRejectsSpec)) topRejectsCard

/-- THE TIED CARD OF 'postmarktop.TopBurst'. -/
def topBurstCard : Claim7 := { stood := { row := topBurstRow, standIns := [], harness := (true, "5b5cd9bf7b2c0b203eb7f4220d4ce6eb8a2db4961ef83337261350c8fccd7443"), looks := true }, kinds := [], alts := [], laidByText := true, laidKinds := [.data, .pinned], laidTests := true, laidLooks := .later }
def TopBurstCardSaid : Prop := Claim7.holds Tryz.pinned (.plain (OpenSpec.ofChange topBurstSpec)) topBurstCard

/-- THE TIED CARD OF 'postmarktop.TopOne'. -/
def topOneCard : Claim7 := { stood := { row := topOneRow, standIns := [], harness := (true, "5b5cd9bf7b2c0b203eb7f4220d4ce6eb8a2db4961ef83337261350c8fccd7443"), looks := true }, kinds := [], alts := [], laidByText := true, laidKinds := [.data, .pinned], laidTests := true, laidLooks := .later }
def TopOneCardSaid : Prop := Claim7.holds Tryz.pinned (.plain (OpenSpec.ofChange topOneSpec)) topOneCard

/-- THE TIED CARD OF 'postmarktop.TopThere'. -/
def topThereCard : Claim7 := { stood := { row := topThereRow, standIns := [], harness := (true, "5b5cd9bf7b2c0b203eb7f4220d4ce6eb8a2db4961ef83337261350c8fccd7443"), looks := true }, kinds := [], alts := [], laidByText := true, laidKinds := [.data, .pinned], laidTests := true, laidLooks := .later }
def TopThereCardSaid : Prop := Claim7.holds Tryz.pinned (.plain (OpenSpec.ofChange topThereSpec)) topThereCard

/-- THE TIED CARD OF 'postmarktop.TopStream'. -/
def topStreamCard : Claim7 := { stood := { row := topStreamRow, standIns := [], harness := (true, "5b5cd9bf7b2c0b203eb7f4220d4ce6eb8a2db4961ef83337261350c8fccd7443"), looks := true }, kinds := [], alts := [], laidByText := true, laidKinds := [.data, .pinned], laidTests := true, laidLooks := .later }
def TopStreamCardSaid : Prop := Claim7.holds Tryz.pinned (.plain (OpenSpec.ofChange topStreamSpec)) topStreamCard

/-- THE SECOND FORM's CARD OF 'postmarktop.TopRejects'. -/
def topRejectsUptoCard : Claim7 := { stood := { row := topRejectsUptoRow, standIns := [], harness := (true, "5b5cd9bf7b2c0b203eb7f4220d4ce6eb8a2db4961ef83337261350c8fccd7443"), looks := true }, kinds := [], alts := [], laidByText := true, laidKinds := [.data, .pinned], laidTests := true, laidLooks := .later }
def TopRejectsUptoCardSaid : Prop := Claim7.holds Tryz.pinned (.plain (OpenSpec.upto topRejectsSpec)) topRejectsUptoCard

/-- THE SECOND FORM's CARD OF 'postmarktop.TopBurst'. -/
def topBurstUptoCard : Claim7 := { stood := { row := topBurstUptoRow, standIns := [], harness := (true, "5b5cd9bf7b2c0b203eb7f4220d4ce6eb8a2db4961ef83337261350c8fccd7443"), looks := true }, kinds := [], alts := [], laidByText := true, laidKinds := [.data, .pinned], laidTests := true, laidLooks := .later }
def TopBurstUptoCardSaid : Prop := Claim7.holds Tryz.pinned (.plain (OpenSpec.upto topBurstSpec)) topBurstUptoCard

/-- THE SECOND FORM's CARD OF 'postmarktop.TopOne'. -/
def topOneUptoCard : Claim7 := { stood := { row := topOneUptoRow, standIns := [], harness := (true, "5b5cd9bf7b2c0b203eb7f4220d4ce6eb8a2db4961ef83337261350c8fccd7443"), looks := true }, kinds := [], alts := [], laidByText := true, laidKinds := [.data, .pinned], laidTests := true, laidLooks := .later }
def TopOneUptoCardSaid : Prop := Claim7.holds Tryz.pinned (.plain (OpenSpec.upto topOneSpec)) topOneUptoCard

/-- THE SECOND FORM's CARD OF 'postmarktop.TopThere'. -/
def topThereUptoCard : Claim7 := { stood := { row := topThereUptoRow, standIns := [], harness := (true, "5b5cd9bf7b2c0b203eb7f4220d4ce6eb8a2db4961ef83337261350c8fccd7443"), looks := true }, kinds := [], alts := [], laidByText := true, laidKinds := [.data, .pinned], laidTests := true, laidLooks := .later }
def TopThereUptoCardSaid : Prop := Claim7.holds Tryz.pinned (.plain (OpenSpec.upto topThereSpec)) topThereUptoCard

/-- THE SECOND FORM's CARD OF 'postmarktop.TopStream'. -/
def topStreamUptoCard : Claim7 := { stood := { row := topStreamUptoRow, standIns := [], harness := (true, "5b5cd9bf7b2c0b203eb7f4220d4ce6eb8a2db4961ef83337261350c8fccd7443"), looks := true }, kinds := [], alts := [], laidByText := true, laidKinds := [.data, .pinned], laidTests := true, laidLooks := .later }
def TopStreamUptoCardSaid : Prop := Claim7.holds Tryz.pinned (.plain (OpenSpec.upto topStreamSpec)) topStreamUptoCard
end Rows
end Go.Proofs.YtgidfnhfgiehjaaGreatDoor
