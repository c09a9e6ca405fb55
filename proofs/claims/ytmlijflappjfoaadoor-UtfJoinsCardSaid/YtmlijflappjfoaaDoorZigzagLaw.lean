/-
  The walks of layer 3's example and of the statement ZigzagReads: they answer true. Conditions: numbers within int64 and uint64, texts within int.
-/
import Derived.Test.YtmlijflappjfoaaDoorVarintLaw2
import Derived.Test.YtmlijflappjfoaaDoorZigzag
namespace Go.Proofs.YtmlijflappjfoaaDoor
open Go.RowKit Go.PM
set_option maxRecDepth 100000

theorem awake03 (w : World) : Calls Tryd.prog 104 #[] w fun e w' => e = .returned (.bool true) ∧ Below w.heap.size w w' := by
  go_enter Tryd.func104, Tryd.ntmps104
  go_wp2_with fail
  refine (awakeE02 _).mono ?_
  rintro e w1 ⟨rfl, hb1⟩
  go_wp2_with fail
  refine (map_any (-3) _ (by unfold InI64; omega)).mono ?_
  rintro e w2 ⟨rfl, hb2⟩
  rw [show zmap (-3) = 5 from by decide]
  go_wp2_with fail
  refine (back_any 5 _ (by unfold In64; omega)).mono ?_
  rintro e w3 ⟨rfl, hb3⟩
  rw [show zback 5 = -3 from by decide]
  go_wp2
  go_ret
  exact ⟨rfl, bb (bb hb1 hb2) hb3⟩
theorem awakeE03 (w : World) : Calls Tryd.prog 102 #[] w fun e w' => e = .returned (.bool true) ∧ Below w.heap.size w w' := by
  go_enter Tryd.func102, Tryd.ntmps102
  go_wp2_with (go_at_call 104; refine (awake03 _).mono ?_; rintro e w' ⟨rfl, hb⟩)
  go_ret
  exact ⟨rfl, hb⟩

end Go.Proofs.YtmlijflappjfoaaDoor
