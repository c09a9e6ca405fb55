/-
  The walks of layer 2's example and of the statement VarintBack: they answer true. Conditions: numbers within uint64, texts within int.
-/
import Derived.Test.YtmlijflappjfoaaDoorCursorLaw
import Derived.Test.YtmlijflappjfoaaDoorVarint
import Derived.Test.YtmlijflappjfoaaDoorReg
namespace Go.Proofs.YtmlijflappjfoaaDoor
open Go.RowKit Go.PM
set_option maxRecDepth 100000

theorem awakeE01 (w : World) : Calls Tryd.prog 110 #[] w fun e w' => e = .returned (.bool true) ∧ Below w.heap.size w w' := by
  go_enter Tryd.func110, Tryd.ntmps110
  go_wp2_with (go_at_call 111; refine (awake01 _).mono ?_; rintro e w' ⟨rfl, hb⟩)
  go_ret
  exact ⟨rfl, hb⟩

theorem vput300 : vput 300 = [172, 2] := by
  rw [vput_big (by omega), vput_small (by omega)]; rfl

theorem awake02 (w : World) : Calls Tryd.prog 109 #[] w fun e w' => e = .returned (.bool true) ∧ Below w.heap.size w w' := by
  have e1 : vget [172, 130, 0] = (0, 0, 2) := by decide
  go_enter Tryd.func109, Tryd.ntmps109
  go_wp2_with fail
  refine (get_any _ _ (by decide)).mono ?_
  rintro e w1 ⟨rfl, hb1⟩
  simp only [e1]
  go_wp2_with fail
  refine (awakeE01 _).mono ?_
  rintro e w2 ⟨rfl, hb2⟩
  go_wp2_with fail
  refine (put_any 300 _ (by unfold In64; omega)).mono ?_
  rintro e w3 ⟨rfl, hb3⟩
  rw [vput300]
  go_wp2_with fail
  go_ret
  exact ⟨rfl, bb (bb hb1 hb2) hb3⟩
theorem awakeE02 (w : World) : Calls Tryd.prog 106 #[] w fun e w' => e = .returned (.bool true) ∧ Below w.heap.size w w' := by
  go_enter Tryd.func106, Tryd.ntmps106
  go_wp2_with (go_at_call 109; refine (awake02 _).mono ?_; rintro e w' ⟨rfl, hb⟩)
  go_ret
  exact ⟨rfl, hb⟩

end Go.Proofs.YtmlijflappjfoaaDoor
