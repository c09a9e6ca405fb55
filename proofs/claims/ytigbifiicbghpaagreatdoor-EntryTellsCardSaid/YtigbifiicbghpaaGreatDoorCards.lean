/-
  DERIVED. GIVEN WITH THE SEED: THE CARDS: each row of YtigbifiicbghpaaGreatDoorRows.lean that lists a variable, with what it lists TIED to the program's text (the seventh form; the later family's looks); each row that meets fmt, with fmt's text TOLD by the authors' own Lean function (tested against real Go, not proved from fmt's source: count such statements apart). THE CARD IS WHAT COUNTS. Prove the row's statement (the work); the ties are given (YtigbifiicbghpaaGreatDoorTie.lean); close each card by the builder's one call (the guide's Derived/Test/ToyasCard.lean, 'card_holds'). Laid BY PROGRAM, IN A SANDBOX (cutbox-door.mjs). By AI agents, Wed Nov 11 2026. No macro, syntax, notation, axiom, sorry.
-/
import Derived.Test.YtigbifiicbghpaaGreatDoorRows
import GoSem.ClaimSeven
namespace Go.Proofs.YtigbifiicbghpaaGreatDoor
namespace Rows

/-- THE TIED CARD OF 'postmarklaw11.EntryTells'. -/
def entryTellsCard : Claim7 := { stood := { row := entryTellsRow, standIns := [], harness := (true, "170ef1cec6febbe160e3fc7a7352dada5abeb4c9f62d7f3bd7c32406f0f03a02"), looks := false }, kinds := [], alts := [], laidByText := true, laidKinds := [.data, .pinned], laidTests := true, laidLooks := .later }
def EntryTellsCardSaid : Prop := Claim7.holds Tryz.pinned (.plain (OpenSpec.ofChange entryTellsSpec)) entryTellsCard

/-- THE TIED CARD OF 'postmarklaw12.DescrApart'. -/
def descrApartCard : Claim7 := { stood := { row := descrApartRow, standIns := [], harness := (true, "170ef1cec6febbe160e3fc7a7352dada5abeb4c9f62d7f3bd7c32406f0f03a02"), looks := false }, kinds := [], alts := [], laidByText := true, laidKinds := [.data, .pinned], laidTests := true, laidLooks := .later }
def DescrApartCardSaid : Prop := Claim7.holds Tryz.pinned (.plain (OpenSpec.ofChange descrApartSpec)) descrApartCard

/-- THE TIED CARD OF 'postmarklaw12.DescrTells'. -/
def descrTellsCard : Claim7 := { stood := { row := descrTellsRow, standIns := [], harness := (true, "170ef1cec6febbe160e3fc7a7352dada5abeb4c9f62d7f3bd7c32406f0f03a02"), looks := false }, kinds := [], alts := [], laidByText := true, laidKinds := [.data, .pinned], laidTests := true, laidLooks := .later }
def DescrTellsCardSaid : Prop := Claim7.holds Tryz.pinned (.plain (OpenSpec.ofChange descrTellsSpec)) descrTellsCard

/-- THE TIED CARD OF 'postmarklaw12.DescrReads'. -/
def descrReadsCard : Claim7 := { stood := { row := descrReadsRow, standIns := [], harness := (true, "170ef1cec6febbe160e3fc7a7352dada5abeb4c9f62d7f3bd7c32406f0f03a02"), looks := false }, kinds := [], alts := [], laidByText := true, laidKinds := [.data, .pinned], laidTests := true, laidLooks := .later }
def DescrReadsCardSaid : Prop := Claim7.holds Tryz.pinned (.plain (OpenSpec.ofChange descrReadsSpec)) descrReadsCard

/-- THE TIED CARD OF 'postmarklaw12.DescrOne'. -/
def descrOneCard : Claim7 := { stood := { row := descrOneRow, standIns := [], harness := (true, "170ef1cec6febbe160e3fc7a7352dada5abeb4c9f62d7f3bd7c32406f0f03a02"), looks := false }, kinds := [], alts := [], laidByText := true, laidKinds := [.data, .pinned], laidTests := true, laidLooks := .later }
def DescrOneCardSaid : Prop := Claim7.holds Tryz.pinned (.plain (OpenSpec.ofChange descrOneSpec)) descrOneCard

/-- THE SECOND FORM's CARD OF 'postmarklaw11.EntryTells'. -/
def entryTellsUptoCard : Claim7 := { stood := { row := entryTellsUptoRow, standIns := [], harness := (true, "170ef1cec6febbe160e3fc7a7352dada5abeb4c9f62d7f3bd7c32406f0f03a02"), looks := false }, kinds := [], alts := [], laidByText := true, laidKinds := [.data, .pinned], laidTests := true, laidLooks := .later }
def EntryTellsUptoCardSaid : Prop := Claim7.holds Tryz.pinned (.plain (OpenSpec.upto entryTellsSpec)) entryTellsUptoCard

/-- THE SECOND FORM's CARD OF 'postmarklaw12.DescrApart'. -/
def descrApartUptoCard : Claim7 := { stood := { row := descrApartUptoRow, standIns := [], harness := (true, "170ef1cec6febbe160e3fc7a7352dada5abeb4c9f62d7f3bd7c32406f0f03a02"), looks := false }, kinds := [], alts := [], laidByText := true, laidKinds := [.data, .pinned], laidTests := true, laidLooks := .later }
def DescrApartUptoCardSaid : Prop := Claim7.holds Tryz.pinned (.plain (OpenSpec.upto descrApartSpec)) descrApartUptoCard

/-- THE SECOND FORM's CARD OF 'postmarklaw12.DescrTells'. -/
def descrTellsUptoCard : Claim7 := { stood := { row := descrTellsUptoRow, standIns := [], harness := (true, "170ef1cec6febbe160e3fc7a7352dada5abeb4c9f62d7f3bd7c32406f0f03a02"), looks := false }, kinds := [], alts := [], laidByText := true, laidKinds := [.data, .pinned], laidTests := true, laidLooks := .later }
def DescrTellsUptoCardSaid : Prop := Claim7.holds Tryz.pinned (.plain (OpenSpec.upto descrTellsSpec)) descrTellsUptoCard

/-- THE SECOND FORM's CARD OF 'postmarklaw12.DescrReads'. -/
def descrReadsUptoCard : Claim7 := { stood := { row := descrReadsUptoRow, standIns := [], harness := (true, "170ef1cec6febbe160e3fc7a7352dada5abeb4c9f62d7f3bd7c32406f0f03a02"), looks := false }, kinds := [], alts := [], laidByText := true, laidKinds := [.data, .pinned], laidTests := true, laidLooks := .later }
def DescrReadsUptoCardSaid : Prop := Claim7.holds Tryz.pinned (.plain (OpenSpec.upto descrReadsSpec)) descrReadsUptoCard

/-- THE SECOND FORM's CARD OF 'postmarklaw12.DescrOne'. -/
def descrOneUptoCard : Claim7 := { stood := { row := descrOneUptoRow, standIns := [], harness := (true, "170ef1cec6febbe160e3fc7a7352dada5abeb4c9f62d7f3bd7c32406f0f03a02"), looks := false }, kinds := [], alts := [], laidByText := true, laidKinds := [.data, .pinned], laidTests := true, laidLooks := .later }
def DescrOneUptoCardSaid : Prop := Claim7.holds Tryz.pinned (.plain (OpenSpec.upto descrOneSpec)) descrOneUptoCard
end Rows
end Go.Proofs.YtigbifiicbghpaaGreatDoor
