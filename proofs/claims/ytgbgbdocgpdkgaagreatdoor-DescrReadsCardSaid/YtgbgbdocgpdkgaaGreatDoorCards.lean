/-
  DERIVED. GIVEN WITH THE SEED: THE CARDS: each row of YtgbgbdocgpdkgaaGreatDoorRows.lean that lists a variable, with what it lists TIED to the program's text (the seventh form; the later family's looks); each row that meets fmt, with fmt's text TOLD by the authors' own Lean function (tested against real Go, not proved from fmt's source: count such statements apart). THE CARD IS WHAT COUNTS. Prove the row's statement (the work); the ties are given (YtgbgbdocgpdkgaaGreatDoorTie.lean); close each card by the builder's one call (the guide's Derived/Test/ToyasCard.lean, 'card_holds'). Laid BY PROGRAM, IN A SANDBOX (cutbox-door.mjs). By AI agents, Wed Nov 11 2026. No macro, syntax, notation, axiom, sorry.
-/
import Derived.Test.YtgbgbdocgpdkgaaGreatDoorRows
import GoSem.ClaimSeven
namespace Go.Proofs.YtgbgbdocgpdkgaaGreatDoor
namespace Rows

/-- THE TIED CARD OF 'postmarklaw12.DescrApart'. -/
def descrApartCard : Claim7 := { stood := { row := descrApartRow, standIns := [], harness := (true, "ec5d2fcdf2d1dba01528cbb1b7f3688a02407159cc619b9e35123fb3e26f0096"), looks := false }, kinds := [], alts := [], laidByText := true, laidKinds := [.data, .pinned], laidTests := true, laidLooks := .later }
def DescrApartCardSaid : Prop := Claim7.holds Tryz.pinned (.plain (OpenSpec.ofChange descrApartSpec)) descrApartCard

/-- THE TIED CARD OF 'postmarklaw12.DescrTells'. -/
def descrTellsCard : Claim7 := { stood := { row := descrTellsRow, standIns := [], harness := (true, "ec5d2fcdf2d1dba01528cbb1b7f3688a02407159cc619b9e35123fb3e26f0096"), looks := false }, kinds := [], alts := [], laidByText := true, laidKinds := [.data, .pinned], laidTests := true, laidLooks := .later }
def DescrTellsCardSaid : Prop := Claim7.holds Tryz.pinned (.plain (OpenSpec.ofChange descrTellsSpec)) descrTellsCard

/-- THE TIED CARD OF 'postmarklaw12.DescrReads'. -/
def descrReadsCard : Claim7 := { stood := { row := descrReadsRow, standIns := [], harness := (true, "ec5d2fcdf2d1dba01528cbb1b7f3688a02407159cc619b9e35123fb3e26f0096"), looks := false }, kinds := [], alts := [], laidByText := true, laidKinds := [.data, .pinned], laidTests := true, laidLooks := .later }
def DescrReadsCardSaid : Prop := Claim7.holds Tryz.pinned (.plain (OpenSpec.ofChange descrReadsSpec)) descrReadsCard

/-- THE TIED CARD OF 'postmarklaw12.DescrOne'. -/
def descrOneCard : Claim7 := { stood := { row := descrOneRow, standIns := [], harness := (true, "ec5d2fcdf2d1dba01528cbb1b7f3688a02407159cc619b9e35123fb3e26f0096"), looks := false }, kinds := [], alts := [], laidByText := true, laidKinds := [.data, .pinned], laidTests := true, laidLooks := .later }
def DescrOneCardSaid : Prop := Claim7.holds Tryz.pinned (.plain (OpenSpec.ofChange descrOneSpec)) descrOneCard

/-- THE SECOND FORM's CARD OF 'postmarklaw12.DescrApart'. -/
def descrApartUptoCard : Claim7 := { stood := { row := descrApartUptoRow, standIns := [], harness := (true, "ec5d2fcdf2d1dba01528cbb1b7f3688a02407159cc619b9e35123fb3e26f0096"), looks := false }, kinds := [], alts := [], laidByText := true, laidKinds := [.data, .pinned], laidTests := true, laidLooks := .later }
def DescrApartUptoCardSaid : Prop := Claim7.holds Tryz.pinned (.plain (OpenSpec.upto descrApartSpec)) descrApartUptoCard

/-- THE SECOND FORM's CARD OF 'postmarklaw12.DescrTells'. -/
def descrTellsUptoCard : Claim7 := { stood := { row := descrTellsUptoRow, standIns := [], harness := (true, "ec5d2fcdf2d1dba01528cbb1b7f3688a02407159cc619b9e35123fb3e26f0096"), looks := false }, kinds := [], alts := [], laidByText := true, laidKinds := [.data, .pinned], laidTests := true, laidLooks := .later }
def DescrTellsUptoCardSaid : Prop := Claim7.holds Tryz.pinned (.plain (OpenSpec.upto descrTellsSpec)) descrTellsUptoCard

/-- THE SECOND FORM's CARD OF 'postmarklaw12.DescrReads'. -/
def descrReadsUptoCard : Claim7 := { stood := { row := descrReadsUptoRow, standIns := [], harness := (true, "ec5d2fcdf2d1dba01528cbb1b7f3688a02407159cc619b9e35123fb3e26f0096"), looks := false }, kinds := [], alts := [], laidByText := true, laidKinds := [.data, .pinned], laidTests := true, laidLooks := .later }
def DescrReadsUptoCardSaid : Prop := Claim7.holds Tryz.pinned (.plain (OpenSpec.upto descrReadsSpec)) descrReadsUptoCard

/-- THE SECOND FORM's CARD OF 'postmarklaw12.DescrOne'. -/
def descrOneUptoCard : Claim7 := { stood := { row := descrOneUptoRow, standIns := [], harness := (true, "ec5d2fcdf2d1dba01528cbb1b7f3688a02407159cc619b9e35123fb3e26f0096"), looks := false }, kinds := [], alts := [], laidByText := true, laidKinds := [.data, .pinned], laidTests := true, laidLooks := .later }
def DescrOneUptoCardSaid : Prop := Claim7.holds Tryz.pinned (.plain (OpenSpec.upto descrOneSpec)) descrOneUptoCard
end Rows
end Go.Proofs.YtgbgbdocgpdkgaaGreatDoor
