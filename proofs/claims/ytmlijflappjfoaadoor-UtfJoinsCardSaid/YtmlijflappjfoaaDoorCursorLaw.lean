/-
  The walks of the statements CursorNone and CursorTakes (layer 1): they answer true. Conditions: the text and the acts as they come in.
-/
import Derived.Test.YtmlijflappjfoaaDoorCursor
namespace Go.Proofs.YtmlijflappjfoaaDoor
open Go.RowKit Go.PM

/-- The chapter's example. -/
theorem awake01 (w : World) : Calls Tryd.prog 111 #[] w fun e w' => e = .returned (.bool true) ∧ Below w.heap.size w w' := by
  go_enter Tryd.func111, Tryd.ntmps111
  go_wp2_with fail
  refine (cur_over _ _).mono ?_
  rintro e w1 ⟨rfl, rfl⟩
  have hc0 : Cur (w.alloc (.cells #[.string ⟨#[97, 98]⟩, .int .i64 0] 107)) w.heap.size ⟨#[97, 98]⟩ 0 := ⟨BlkAt.made _ _ _, Nat.zero_le _, by decide⟩
  have H0 := Lib.hid hc0
  clear hc0
  go_wp2_with fail
  refine (cur_byte_yes _ _ _ _ H0.out (by decide)).mono ?_
  rintro e w1 ⟨rfl, hc1, hg1⟩
  have e1 : ((ByteArray.mk #[97, 98])[0]'(by decide)).toNat = 97 := rfl
  have H1 := Lib.hid hc1
  clear hc1
  rw [e1]
  clear e1
  go_wp2_with fail
  refine (cur_byte_yes _ _ _ _ H1.out (by decide)).mono ?_
  rintro e w2 ⟨rfl, hc2, hg2⟩
  have e1 : ((ByteArray.mk #[97, 98])[0 + 1]'(by decide)).toNat = 98 := rfl
  have H2 := Lib.hid hc2
  clear hc2
  rw [e1]
  clear e1
  go_wp2_with fail
  refine (cur_byte_no _ _ _ _ H2.out (by decide)).mono ?_
  rintro e w3 ⟨rfl, hb3⟩
  go_wp2_with fail
  go_ret
  exact ⟨rfl, bb (bg (bg (ba b0 _) hg1 (Nat.le_refl _)) hg2 (Nat.le_refl _)) hb3⟩

end Go.Proofs.YtmlijflappjfoaaDoor
