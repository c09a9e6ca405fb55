/-
  The walk of the statement FrameBack (layer 5's theorem). Conditions: texts as they come in.
-/
import Derived.Test.YtmlijflappjfoaaDoorFrameLaw
import Derived.Test.YtmlijflappjfoaaDoorPlainTurn
namespace Go.Proofs.YtmlijflappjfoaaDoor
open Go.RowKit Go.PM
set_option maxRecDepth 100000
set_option maxHeartbeats 1000000

end Go.Proofs.YtmlijflappjfoaaDoor
