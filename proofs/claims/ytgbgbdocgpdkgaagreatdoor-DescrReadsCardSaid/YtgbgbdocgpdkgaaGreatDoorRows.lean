/-
  NARROWER THAN 'FOR EVERY INPUT', by the rows' own cells (each row's printed sentence says how): DescrApart: laid · DescrTells: laid · DescrReads: laid · DescrOne: laid.
  DERIVED. THE GIVEN ROWS OF THIS SEAT. 4 by the template 'for every input the law returns true; each argument reads behind the call as it read before'; 0 by the template 'total and deterministic' (their statements: YtgbgbdocgpdkgaaGreatDoorTotals.lean).
  GIVEN WITH THE SEED: the statements are not yours to turn. If you find one false, say at which input.
  Laid BY PROGRAM, IN A SANDBOX (cutbox-rows.mjs): the forced cells as the released guide's own fill.sh prints them over the translation 2cb66f725cf3c3c8… (all of the seat's roots in one cut). By AI agents, Wed Nov 11 2026. No macro, syntax, notation, axiom, sorry.
-/
import Derived.Test.YtgbgbdocgpdkgaaGreatDoorChecked
import GoSem.PinnedTables
import GoSem.Claim
import GoSem.ClaimJoined
import GoSem.ClaimMapViews
import Derived.JoinedTies
import Derived.KernelRfl
namespace Go.Proofs.YtgbgbdocgpdkgaaGreatDoor
/- THE CELL 'sum', in the pinned program and in every row, IS THE sha256 OF THE DUMP (.gsa) THAT YtgbgbdocgpdkgaaGreatDoorProg.lean LOADS. Nothing in Lean hashes anything: it is a label: what it is worth is what the hold of that sum in a sandbox is worth. -/
noncomputable def Tryz.pinned : Pinned := { name := "ytgbgbdocgpdkgaagreatdoor", sum := "2cb66f725cf3c3c8004998b591ca387b34b8db2fa3810fcdc0d4b26cb6519e8a", checked := Tryz.checked }
namespace Rows
def none {H : Type} : Left H := { results := [], args := [] }

/- WHAT THE LISTED PACKAGE-LEVEL VARIABLES READ AS WHEN THE CALL BEGINS. Each datum BY PROGRAM (the guide's laid-datum.mjs) off the statement by which the dump's own 'gosem.cut.vars' lays the variable. In a bare row this is a premise. The card (YtgbgbdocgpdkgaaGreatDoorCards.lean) ties it to the program's text. -/
def laid_unicode_utf8_acceptRanges {H : Type} : DataW H := .agg [.agg [.lit (.int .u8 128), .lit (.int .u8 191)], .agg [.lit (.int .u8 160), .lit (.int .u8 191)], .agg [.lit (.int .u8 128), .lit (.int .u8 159)], .agg [.lit (.int .u8 144), .lit (.int .u8 191)], .agg [.lit (.int .u8 128), .lit (.int .u8 143)], .agg [.lit (.int .u8 0), .lit (.int .u8 0)], .agg [.lit (.int .u8 0), .lit (.int .u8 0)], .agg [.lit (.int .u8 0), .lit (.int .u8 0)], .agg [.lit (.int .u8 0), .lit (.int .u8 0)], .agg [.lit (.int .u8 0), .lit (.int .u8 0)], .agg [.lit (.int .u8 0), .lit (.int .u8 0)], .agg [.lit (.int .u8 0), .lit (.int .u8 0)], .agg [.lit (.int .u8 0), .lit (.int .u8 0)], .agg [.lit (.int .u8 0), .lit (.int .u8 0)], .agg [.lit (.int .u8 0), .lit (.int .u8 0)], .agg [.lit (.int .u8 0), .lit (.int .u8 0)]]
/-- One of Go's own tables, pinned by name: the form's constant. -/
def laid_unicode_utf8_first : DataW Unit := Go.Pinned.utf8First

/-- 'postmarklaw12.DescrApart': WHATEVER THE INPUT: true; the input reads as it did. -/
def descrApartSpec : ChangeSpec := { name := "descrApart", fn := fun _ => fun
  | [d1, d2] => { results := [.lit (.bool true)], args := [d1, d2] }
  | _ => none }
def descrApartRow : OpenClaim := { program := "ytgbgbdocgpdkgaagreatdoor", sum := "2cb66f725cf3c3c8004998b591ca387b34b8db2fa3810fcdc0d4b26cb6519e8a", func := "postmark/postmarklaw12.DescrApart", spec := "descrApart", inPlace := ["internal/bytealg.abigen_runtime_cmpstring", "internal/abi.NoEscape"], unfollowed := true, recurses := true, named := ["unicode/utf8.first", "unicode/utf8.acceptRanges"], apart := false, laid := [("unicode/utf8.acceptRanges", laid_unicode_utf8_acceptRanges), ("unicode/utf8.first", laid_unicode_utf8_first)] }
def DescrApartSaid : Prop := descrApartRow.holds Tryz.pinned (OpenSpec.ofChange descrApartSpec)

/-- ITS FALSE NEIGHBOUR: 'it returns false'. Refute it at one input. -/
def descrApartWrong : ChangeSpec := { name := "descrApart", fn := fun _ => fun
  | [d1, d2] => { results := [.lit (.bool false)], args := [d1, d2] }
  | _ => none }
def DescrApartWrongFalsely : Prop := descrApartRow.holds Tryz.pinned (OpenSpec.ofChange descrApartWrong)

/-- 'postmarklaw12.DescrTells': WHATEVER THE INPUT: true; the input reads as it did. -/
def descrTellsSpec : ChangeSpec := { name := "descrTells", fn := fun _ => fun
  | [d1, d2, d3] => { results := [.lit (.bool true)], args := [d1, d2, d3] }
  | _ => none }
def descrTellsRow : OpenClaim := { program := "ytgbgbdocgpdkgaagreatdoor", sum := "2cb66f725cf3c3c8004998b591ca387b34b8db2fa3810fcdc0d4b26cb6519e8a", func := "postmark/postmarklaw12.DescrTells", spec := "descrTells", inPlace := ["internal/bytealg.abigen_runtime_cmpstring", "internal/abi.NoEscape"], unfollowed := true, recurses := true, named := ["unicode/utf8.first", "unicode/utf8.acceptRanges"], apart := false, laid := [("unicode/utf8.acceptRanges", laid_unicode_utf8_acceptRanges), ("unicode/utf8.first", laid_unicode_utf8_first)] }
def DescrTellsSaid : Prop := descrTellsRow.holds Tryz.pinned (OpenSpec.ofChange descrTellsSpec)

/-- ITS FALSE NEIGHBOUR: 'it returns false'. Refute it at one input. -/
def descrTellsWrong : ChangeSpec := { name := "descrTells", fn := fun _ => fun
  | [d1, d2, d3] => { results := [.lit (.bool false)], args := [d1, d2, d3] }
  | _ => none }
def DescrTellsWrongFalsely : Prop := descrTellsRow.holds Tryz.pinned (OpenSpec.ofChange descrTellsWrong)

/-- 'postmarklaw12.DescrReads': WHATEVER THE INPUT: true; the input reads as it did. -/
def descrReadsSpec : ChangeSpec := { name := "descrReads", fn := fun _ => fun
  | [d] => { results := [.lit (.bool true)], args := [d] }
  | _ => none }
def descrReadsRow : OpenClaim := { program := "ytgbgbdocgpdkgaagreatdoor", sum := "2cb66f725cf3c3c8004998b591ca387b34b8db2fa3810fcdc0d4b26cb6519e8a", func := "postmark/postmarklaw12.DescrReads", spec := "descrReads", inPlace := ["internal/bytealg.abigen_runtime_cmpstring", "internal/abi.NoEscape"], unfollowed := true, recurses := true, named := ["unicode/utf8.first", "unicode/utf8.acceptRanges"], apart := false, laid := [("unicode/utf8.acceptRanges", laid_unicode_utf8_acceptRanges), ("unicode/utf8.first", laid_unicode_utf8_first)] }
def DescrReadsSaid : Prop := descrReadsRow.holds Tryz.pinned (OpenSpec.ofChange descrReadsSpec)

/-- ITS FALSE NEIGHBOUR: 'it returns false'. Refute it at one input. -/
def descrReadsWrong : ChangeSpec := { name := "descrReads", fn := fun _ => fun
  | [d] => { results := [.lit (.bool false)], args := [d] }
  | _ => none }
def DescrReadsWrongFalsely : Prop := descrReadsRow.holds Tryz.pinned (OpenSpec.ofChange descrReadsWrong)

/-- 'postmarklaw12.DescrOne': WHATEVER THE INPUT: true; the input reads as it did. -/
def descrOneSpec : ChangeSpec := { name := "descrOne", fn := fun _ => fun
  | [d1, d2, d3] => { results := [.lit (.bool true)], args := [d1, d2, d3] }
  | _ => none }
def descrOneRow : OpenClaim := { program := "ytgbgbdocgpdkgaagreatdoor", sum := "2cb66f725cf3c3c8004998b591ca387b34b8db2fa3810fcdc0d4b26cb6519e8a", func := "postmark/postmarklaw12.DescrOne", spec := "descrOne", inPlace := ["internal/bytealg.abigen_runtime_cmpstring", "internal/abi.NoEscape"], unfollowed := true, recurses := true, named := ["unicode/utf8.first", "unicode/utf8.acceptRanges"], apart := false, laid := [("unicode/utf8.acceptRanges", laid_unicode_utf8_acceptRanges), ("unicode/utf8.first", laid_unicode_utf8_first)] }
def DescrOneSaid : Prop := descrOneRow.holds Tryz.pinned (OpenSpec.ofChange descrOneSpec)

/-- ITS FALSE NEIGHBOUR: 'it returns false'. Refute it at one input. -/
def descrOneWrong : ChangeSpec := { name := "descrOne", fn := fun _ => fun
  | [d1, d2, d3] => { results := [.lit (.bool false)], args := [d1, d2, d3] }
  | _ => none }
def DescrOneWrongFalsely : Prop := descrOneRow.holds Tryz.pinned (OpenSpec.ofChange descrOneWrong)

/- THE SECOND FORM. 'bulk': how many values and letters a reading holds, each counted each time it is reached (what is shared counts as often as it is met; a slice's spare places count too). A statement '..UptoSaid' is the law's where the arguments, and the package variables that the reading takes, are together of bulk at most 1048576: NARROWER than '..Said'. Prove '..Said' where nothing that the law and all that it calls make is longer than what came in: it says more and counts as full. Else prove '..UptoSaid'. A law counts once. -/
mutual
def uptoBulk {H : Type} : DataW H → Nat
  | .lit (.string bytes) => bytes.length + 1
  | .lit _ => 1
  | .nil => 1
  | .ptr d => uptoBulk d + 1
  | .slice elems spare => uptoBulkAll elems + uptoBulkAll spare + 1
  | .agg parts => uptoBulkAll parts + 1
  | .iface _ d => uptoBulk d + 1
  | .map entries => uptoBulkEntries entries + 1
  | .held _ => 1
def uptoBulkAll {H : Type} : List (DataW H) → Nat
  | [] => 0
  | d :: r => uptoBulk d + uptoBulkAll r
def uptoBulkEntries {H : Type} : List (Lit × DataW H) → Nat
  | [] => 0
  | x :: r => uptoBulkEntry x + uptoBulkEntries r
def uptoBulkEntry {H : Type} : Lit × DataW H → Nat
  | (.string bytes, d) => bytes.length + uptoBulk d + 1
  | (_, d) => uptoBulk d + 1
 end
def uptoSmall : (H : Type) → List (DataW H) → Bool := fun _ ds => decide (uptoBulkAll ds ≤ 1048576)
def OpenSpec.upto (s : _root_.Go.ChangeSpec) : _root_.Go.OpenSpec := { _root_.Go.OpenSpec.ofChange s with cond := some uptoSmall }

/-- 'postmarklaw12.DescrApart', WHERE WHAT IT READS IS OF BULK AT MOST 1048576: true; the input reads as it did. -/
def descrApartUptoRow : OpenClaim := { program := "ytgbgbdocgpdkgaagreatdoor", sum := "2cb66f725cf3c3c8004998b591ca387b34b8db2fa3810fcdc0d4b26cb6519e8a", func := "postmark/postmarklaw12.DescrApart", spec := "descrApart", inPlace := ["internal/bytealg.abigen_runtime_cmpstring", "internal/abi.NoEscape"], unfollowed := true, recurses := true, named := ["unicode/utf8.first", "unicode/utf8.acceptRanges"], apart := false, laid := [("unicode/utf8.acceptRanges", laid_unicode_utf8_acceptRanges), ("unicode/utf8.first", laid_unicode_utf8_first)], narrowed := true }
def DescrApartUptoSaid : Prop := descrApartUptoRow.holds Tryz.pinned (OpenSpec.upto descrApartSpec)

/-- 'postmarklaw12.DescrTells', WHERE WHAT IT READS IS OF BULK AT MOST 1048576: true; the input reads as it did. -/
def descrTellsUptoRow : OpenClaim := { program := "ytgbgbdocgpdkgaagreatdoor", sum := "2cb66f725cf3c3c8004998b591ca387b34b8db2fa3810fcdc0d4b26cb6519e8a", func := "postmark/postmarklaw12.DescrTells", spec := "descrTells", inPlace := ["internal/bytealg.abigen_runtime_cmpstring", "internal/abi.NoEscape"], unfollowed := true, recurses := true, named := ["unicode/utf8.first", "unicode/utf8.acceptRanges"], apart := false, laid := [("unicode/utf8.acceptRanges", laid_unicode_utf8_acceptRanges), ("unicode/utf8.first", laid_unicode_utf8_first)], narrowed := true }
def DescrTellsUptoSaid : Prop := descrTellsUptoRow.holds Tryz.pinned (OpenSpec.upto descrTellsSpec)

/-- 'postmarklaw12.DescrReads', WHERE WHAT IT READS IS OF BULK AT MOST 1048576: true; the input reads as it did. -/
def descrReadsUptoRow : OpenClaim := { program := "ytgbgbdocgpdkgaagreatdoor", sum := "2cb66f725cf3c3c8004998b591ca387b34b8db2fa3810fcdc0d4b26cb6519e8a", func := "postmark/postmarklaw12.DescrReads", spec := "descrReads", inPlace := ["internal/bytealg.abigen_runtime_cmpstring", "internal/abi.NoEscape"], unfollowed := true, recurses := true, named := ["unicode/utf8.first", "unicode/utf8.acceptRanges"], apart := false, laid := [("unicode/utf8.acceptRanges", laid_unicode_utf8_acceptRanges), ("unicode/utf8.first", laid_unicode_utf8_first)], narrowed := true }
def DescrReadsUptoSaid : Prop := descrReadsUptoRow.holds Tryz.pinned (OpenSpec.upto descrReadsSpec)

/-- 'postmarklaw12.DescrOne', WHERE WHAT IT READS IS OF BULK AT MOST 1048576: true; the input reads as it did. -/
def descrOneUptoRow : OpenClaim := { program := "ytgbgbdocgpdkgaagreatdoor", sum := "2cb66f725cf3c3c8004998b591ca387b34b8db2fa3810fcdc0d4b26cb6519e8a", func := "postmark/postmarklaw12.DescrOne", spec := "descrOne", inPlace := ["internal/bytealg.abigen_runtime_cmpstring", "internal/abi.NoEscape"], unfollowed := true, recurses := true, named := ["unicode/utf8.first", "unicode/utf8.acceptRanges"], apart := false, laid := [("unicode/utf8.acceptRanges", laid_unicode_utf8_acceptRanges), ("unicode/utf8.first", laid_unicode_utf8_first)], narrowed := true }
def DescrOneUptoSaid : Prop := descrOneUptoRow.holds Tryz.pinned (OpenSpec.upto descrOneSpec)

end Rows
end Go.Proofs.YtgbgbdocgpdkgaaGreatDoor
