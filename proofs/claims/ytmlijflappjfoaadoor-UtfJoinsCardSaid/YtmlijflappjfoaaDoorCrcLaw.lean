/-
  The walks of the statements of layer 4. Conditions: texts as they come in.
-/
import Derived.Test.YtmlijflappjfoaaDoorCrc3
import Derived.Test.YtmlijflappjfoaaDoorZigzagLaw
import Derived.Test.YtmlijflappjfoaaDoorRow
namespace Go.Proofs.YtmlijflappjfoaaDoor
open Go.RowKit Go.PM
set_option maxRecDepth 100000

theorem awake04 (w : World) :
    Calls Tryd.prog 99 #[] w fun e w' => e = .returned (.bool true) ∧ Below w.heap.size w w' := by
  go_enter Tryd.func99, Tryd.ntmps99
  go_wp2_with fail
  refine (awakeE03 _).mono ?_
  rintro e w1 ⟨rfl, hb1⟩
  go_wp2_with fail
  refine (sum_one _ _ _ (BlkAt.made _ _ _) (by decide)).mono ?_
  rintro e w2 ⟨rfl, hb2⟩
  rw [show csum (ByteArray.mk #[49, 50, 51, 52, 53, 54, 55, 56, 57]).data.toList = 3421780262 by decide +kernel]
  go_wp2
  go_ret
  exact ⟨rfl, bb (ba hb1 _) hb2⟩
theorem awakeE04 (w : World) : Calls Tryd.prog 93 #[] w fun e w' => e = .returned (.bool true) ∧ Below w.heap.size w w' := by
  go_enter Tryd.func93, Tryd.ntmps93
  go_wp2_with (go_at_call 99; refine (awake04 _).mono ?_; rintro e w' ⟨rfl, hb⟩)
  go_ret
  exact ⟨rfl, hb⟩

theorem bit_flip (B : UInt8) (M : Nat) (h : M < 8) : bits .xor .u8 (B.toNat : Int) (2 ^ M % 256) = ((B ^^^ UInt8.ofNat (2 ^ M)).toNat : Int) := by
  have hp : 2 ^ M < 256 := by
    have : 2 ^ M < 2 ^ 8 := Nat.pow_lt_pow_right (by omega) h
    omega
  have e : ((2 : Int) ^ M % 256) = ((2 ^ M : Nat) : Int) := (by decide : ∀ M, M < 8 → ((2 : Int) ^ M % 256) = ((2 ^ M : Nat) : Int)) M h
  rw [e, u8_xor_nat _ _ B.toNat_lt hp, UInt8.toNat_xor]
  have : (UInt8.ofNat (2 ^ M)).toNat = 2 ^ M := by simp; omega
  rw [this]
end Go.Proofs.YtmlijflappjfoaaDoor
