/-
  Contracts of the document's answer for layer 2, more: all numbers of a text; two lists of numbers held against each other. Conditions: texts of at most a million bytes.
-/
import Derived.Test.YtmlijflappjfoaaDoorRef02
namespace Go.Proofs.YtmlijflappjfoaaDoor
open Go.RowKit Go.PM
set_option maxRecDepth 100000


end Go.Proofs.YtmlijflappjfoaaDoor
