/-
  DERIVED. GIVEN WITH THE SEED: THE CARDS: each row of YtigbifiicbghpaaDoorRows.lean that lists a variable, with what it lists TIED to the program's text (the seventh form; the later family's looks); each row that meets fmt, with fmt's text TOLD by the authors' own Lean function (tested against real Go, not proved from fmt's source: count such statements apart). THE CARD IS WHAT COUNTS. Prove the row's statement (the work); the ties are given (YtigbifiicbghpaaDoorTie.lean); close each card by the builder's one call (the guide's Derived/Test/ToyasCard.lean, 'card_holds'). Laid BY PROGRAM, IN A SANDBOX (cutbox-door.mjs). By AI agents, Wed Nov 11 2026. No macro, syntax, notation, axiom, sorry.
-/
import Derived.Test.YtigbifiicbghpaaDoorRows
import GoSem.ClaimSeven
namespace Go.Proofs.YtigbifiicbghpaaDoor
namespace Rows

/-- THE TIED CARD OF 'postmarklaw10.PickMerges'. -/
def pickMergesCard : Claim7 := { stood := { row := pickMergesRow, standIns := [], harness := (true, "3bd6ce6a80a1c831c4dba4066e79a7e690258fbd50e3d93cf7431c6bdfe51797"), looks := false }, kinds := [], alts := [], laidByText := true, laidKinds := [.data, .pinned], laidTests := true, laidLooks := .later }
def PickMergesCardSaid : Prop := Claim7.holds Tryd.pinned (.plain (OpenSpec.ofChange pickMergesSpec)) pickMergesCard

/-- THE TIED CARD OF 'postmarklaw10.PickParts'. -/
def pickPartsCard : Claim7 := { stood := { row := pickPartsRow, standIns := [], harness := (true, "3bd6ce6a80a1c831c4dba4066e79a7e690258fbd50e3d93cf7431c6bdfe51797"), looks := false }, kinds := [], alts := [], laidByText := true, laidKinds := [.data, .pinned], laidTests := true, laidLooks := .later }
def PickPartsCardSaid : Prop := Claim7.holds Tryd.pinned (.plain (OpenSpec.ofChange pickPartsSpec)) pickPartsCard

/-- THE TIED CARD OF 'postmarklaw10.PickBack'. -/
def pickBackCard : Claim7 := { stood := { row := pickBackRow, standIns := [], harness := (true, "3bd6ce6a80a1c831c4dba4066e79a7e690258fbd50e3d93cf7431c6bdfe51797"), looks := false }, kinds := [], alts := [], laidByText := true, laidKinds := [.data, .pinned], laidTests := true, laidLooks := .later }
def PickBackCardSaid : Prop := Claim7.holds Tryd.pinned (.plain (OpenSpec.ofChange pickBackSpec)) pickBackCard

/-- THE TIED CARD OF 'postmarklaw11.EntryBack'. -/
def entryBackCard : Claim7 := { stood := { row := entryBackRow, standIns := [], harness := (true, "3bd6ce6a80a1c831c4dba4066e79a7e690258fbd50e3d93cf7431c6bdfe51797"), looks := false }, kinds := [], alts := [], laidByText := true, laidKinds := [.data, .pinned], laidTests := true, laidLooks := .later }
def EntryBackCardSaid : Prop := Claim7.holds Tryd.pinned (.plain (OpenSpec.ofChange entryBackSpec)) entryBackCard

/-- THE SECOND FORM's CARD OF 'postmarklaw10.PickMerges'. -/
def pickMergesUptoCard : Claim7 := { stood := { row := pickMergesUptoRow, standIns := [], harness := (true, "3bd6ce6a80a1c831c4dba4066e79a7e690258fbd50e3d93cf7431c6bdfe51797"), looks := false }, kinds := [], alts := [], laidByText := true, laidKinds := [.data, .pinned], laidTests := true, laidLooks := .later }
def PickMergesUptoCardSaid : Prop := Claim7.holds Tryd.pinned (.plain (OpenSpec.upto pickMergesSpec)) pickMergesUptoCard

/-- THE SECOND FORM's CARD OF 'postmarklaw10.PickParts'. -/
def pickPartsUptoCard : Claim7 := { stood := { row := pickPartsUptoRow, standIns := [], harness := (true, "3bd6ce6a80a1c831c4dba4066e79a7e690258fbd50e3d93cf7431c6bdfe51797"), looks := false }, kinds := [], alts := [], laidByText := true, laidKinds := [.data, .pinned], laidTests := true, laidLooks := .later }
def PickPartsUptoCardSaid : Prop := Claim7.holds Tryd.pinned (.plain (OpenSpec.upto pickPartsSpec)) pickPartsUptoCard

/-- THE SECOND FORM's CARD OF 'postmarklaw10.PickBack'. -/
def pickBackUptoCard : Claim7 := { stood := { row := pickBackUptoRow, standIns := [], harness := (true, "3bd6ce6a80a1c831c4dba4066e79a7e690258fbd50e3d93cf7431c6bdfe51797"), looks := false }, kinds := [], alts := [], laidByText := true, laidKinds := [.data, .pinned], laidTests := true, laidLooks := .later }
def PickBackUptoCardSaid : Prop := Claim7.holds Tryd.pinned (.plain (OpenSpec.upto pickBackSpec)) pickBackUptoCard

/-- THE SECOND FORM's CARD OF 'postmarklaw11.EntryBack'. -/
def entryBackUptoCard : Claim7 := { stood := { row := entryBackUptoRow, standIns := [], harness := (true, "3bd6ce6a80a1c831c4dba4066e79a7e690258fbd50e3d93cf7431c6bdfe51797"), looks := false }, kinds := [], alts := [], laidByText := true, laidKinds := [.data, .pinned], laidTests := true, laidLooks := .later }
def EntryBackUptoCardSaid : Prop := Claim7.holds Tryd.pinned (.plain (OpenSpec.upto entryBackSpec)) entryBackUptoCard
end Rows
end Go.Proofs.YtigbifiicbghpaaDoor
