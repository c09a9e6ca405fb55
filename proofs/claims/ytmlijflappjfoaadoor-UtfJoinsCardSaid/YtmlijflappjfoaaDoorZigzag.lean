/-
  Contracts of layer 3 (zigzag) and of the document's answer. Conditions: numbers within int64, uint64, texts within int.
-/
import Derived.Test.YtmlijflappjfoaaDoorRef02b
namespace Go.Proofs.YtmlijflappjfoaaDoor
open Go.RowKit Go.PM
set_option maxRecDepth 100000

/-- A number's zigzag, and back. -/
def zmap (n : Int) : Nat := if 0 ≤ n then (2 * n).toNat else (-2 * n - 1).toNat
def zback (z : Nat) : Int := if z % 2 = 0 then ((z / 2 : Nat) : Int) else -((z / 2 : Nat) : Int) - 1
def InI64 (n : Int) : Prop := -9223372036854775808 ≤ n ∧ n ≤ 9223372036854775807
theorem zmap_64 {n : Int} (h : InI64 n) : In64 (zmap n) := by unfold zmap In64; unfold InI64 at h; split <;> omega
theorem zback_64 {z : Nat} (h : In64 z) : InI64 (zback z) := by unfold zback InI64; unfold In64 at h; split <;> omega

theorem xor_ones (a : Nat) (h : a < 18446744073709551616) : a ^^^ 18446744073709551615 = 18446744073709551615 - a := by
  have e : (BitVec.ofNat 64 a ^^^ BitVec.allOnes 64).toNat = (~~~BitVec.ofNat 64 a).toNat := by rw [BitVec.xor_allOnes]
  rw [BitVec.toNat_xor, BitVec.toNat_not, BitVec.toNat_ofNat, BitVec.toNat_allOnes] at e
  rw [Nat.mod_eq_of_lt (by omega)] at e
  omega
theorem map_eq (n : Int) (h : InI64 n) : bits .xor .u64 (IntKind.u64.wrap (IntKind.u64.wrap n * 2)) (IntKind.u64.wrap (n / 9223372036854775808)) = (zmap n : Int) := by
  unfold InI64 at h
  unfold zmap
  rw [IntKind.wrap_u64, IntKind.wrap_u64, IntKind.wrap_u64]
  by_cases h0 : 0 ≤ n
  · rw [if_pos h0]
    have e1 : n % 18446744073709551616 * 2 % 18446744073709551616 = ((2 * n).toNat : Int) := by omega
    have e2 : n / 9223372036854775808 % 18446744073709551616 = ((0 : Nat) : Int) := by omega
    rw [e1, e2, bits_xor_u64_nat _ _ (by omega) (by omega), Nat.xor_zero]
  · rw [if_neg h0]
    have e1 : n % 18446744073709551616 * 2 % 18446744073709551616 = ((18446744073709551616 + 2 * n).toNat : Int) := by omega
    have e2 : n / 9223372036854775808 % 18446744073709551616 = ((18446744073709551615 : Nat) : Int) := by omega
    rw [e1, e2, bits_xor_u64_nat _ _ (by omega) (by omega), xor_ones _ (by omega)]
    omega
theorem and_one (z : Nat) (h : In64 z) : bits .and .u64 (z : Int) 1 = (z : Int) % 2 := by
  have := bits_and_u64_nat z 1 h.out (by omega)
  rw [Nat.and_one_is_mod] at this
  simpa using this
theorem back_eq (z : Nat) (h : In64 z) : bits .xor .i64 (wrap64 ((z : Int) / 2)) (wrap64 (-wrap64 (bits .and .u64 (z : Int) 1))) = zback z := by
  rw [and_one z h]
  unfold In64 at h
  unfold zback
  have e1 : wrap64 ((z : Int) / 2) = ((z / 2 : Nat) : Int) := by unfold wrap64; omega
  have o : ∀ a : Nat, a < 9223372036854775808 → (BitVec.ofInt 64 (a : Int)).toNat = a := fun a ha => by
    rw [BitVec.ofInt_natCast, BitVec.toNat_ofNat]; exact Nat.mod_eq_of_lt (by omega)
  have ho := o (z / 2) (by omega)
  by_cases h0 : z % 2 = 0
  · rw [if_pos h0, e1]
    have e2 : wrap64 (-wrap64 ((z : Int) % 2)) = ((0 : Nat) : Int) := by unfold wrap64; omega
    rw [e2]
    show IntKind.i64.wrap ((BitVec.ofInt 64 ((z / 2 : Nat) : Int) ^^^ BitVec.ofInt 64 ((0 : Nat) : Int)).toNat : Int) = _
    rw [BitVec.toNat_xor, ho, o 0 (by omega), Nat.xor_zero, IntKind.wrap_i64]
    omega
  · rw [if_neg h0, e1]
    have e2 : wrap64 (-wrap64 ((z : Int) % 2)) = -1 := by unfold wrap64; omega
    rw [e2]
    show IntKind.i64.wrap ((BitVec.ofInt 64 ((z / 2 : Nat) : Int) ^^^ BitVec.ofInt 64 (-1)).toNat : Int) = _
    have e3 : BitVec.ofInt 64 (-1) = BitVec.allOnes 64 := by decide
    rw [e3, BitVec.xor_allOnes, BitVec.toNat_not, ho, IntKind.wrap_i64]
    omega

theorem map_any (n : Int) (w : World) (hn : InI64 n) : Calls Tryd.prog 107 #[.int .i64 n] w fun e w' => e = .returned (.int .u64 (zmap n : Int)) ∧ Below w.heap.size w w' := by
  have HE := Lib.hid (map_eq n hn)
  clear hn
  go_enter Tryd.func107, Tryd.ntmps107
  go_wp2
  go_ret
  rw [← HE.out]
  exact ⟨rfl, b0⟩
theorem back_any (z : Nat) (w : World) (hz : In64 z) : Calls Tryd.prog 108 #[.int .u64 (z : Int)] w fun e w' => e = .returned (.int .i64 (zback z)) ∧ Below w.heap.size w w' := by
  have HE := Lib.hid (back_eq z hz)
  clear hz
  go_enter Tryd.func108, Tryd.ntmps108
  go_wp2
  go_ret
  rw [← HE.out]
  exact ⟨rfl, b0⟩


/-- The number whose zigzag a text begins with. -/
def zget (l : List UInt8) : Int × Nat × Nat := if (vget l).2.2 = 0 then (zback (vget l).1, (vget l).2.1, 0) else (0, 0, (vget l).2.2)


end Go.Proofs.YtmlijflappjfoaaDoor
