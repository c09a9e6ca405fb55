/-
  Contracts of layer 4 (a sum of 32 bits) and of the document's answer. Conditions: texts within int.
-/
import Derived.Test.YtmlijflappjfoaaDoorRef02b
import Derived.Laws.BitsAllLaws
namespace Go.Proofs.YtmlijflappjfoaaDoor
open Go.RowKit Go.PM
set_option maxRecDepth 100000

/-- The register behind i bytes. -/
def Rg (l : List UInt8) (i r : Nat) : Prop := r = Go.PM.cover 4294967295 (l.take i) ∧ r < 4294967296
theorem Rg.step {s : ByteArray} {i r : Nat} (h : Rg s.data.toList i r) (hi : i < s.size) : Rg s.data.toList (i + 1) (csteps 8 (r ^^^ s[i].toNat)) := by
  obtain ⟨e, hlt⟩ := h
  refine ⟨?_, cbyte_lt hlt s[i]⟩
  have hl : i < s.data.toList.length := by simpa using hi
  have hg : s.data.toList[i] = s[i] := by simp; rfl
  rw [← List.take_append_getElem hl, cover_append, ← e, hg]
  rfl
/-- The register k bits on. -/
def Rb (x k r : Nat) : Prop := csteps (8 - k) r = x ∧ r < 4294967296
theorem Rb.step {x k r : Nat} (h : Rb x k r) (hk : k < 8) : Rb x (k + 1) (cstep r) := by
  refine ⟨?_, cstep_lt h.2⟩
  have e := h.1
  rw [show 8 - k = (8 - (k + 1)) + 1 by omega] at e
  exact e
theorem not_sub (r : Nat) (h : r < 4294967296) : 4294967295 - r = 4294967295 ^^^ r := by
  apply Nat.eq_of_testBit_eq
  intro i
  rw [show 4294967295 - r = 2 ^ 32 - (r + 1) by omega, Nat.testBit_two_pow_sub_succ (by omega), Nat.testBit_xor, show (4294967295 : Nat) = 2 ^ 32 - 1 by rfl, Nat.testBit_two_pow_sub_one]
  by_cases hi : i < 32
  · simp [hi]
  · have : r.testBit i = false := Nat.testBit_lt_two_pow (Nat.lt_of_lt_of_le h (by rw [show (4294967296 : Nat) = 2 ^ 32 by rfl]; exact Nat.pow_le_pow_right (by omega) (by omega)))
    simp [hi, this]


theorem cput_bvals (n : Nat) (hn : n < 4294967296) : (#[.int .u8 ((n : Int) % 256), .int .u8 ((n : Int) / 256 % 256), .int .u8 ((n : Int) / 65536 % 256), .int .u8 ((n : Int) / 16777216)] : Array Value).toList.take 4 = bvals (cput n) := by
  have e : ∀ k, k < 256 → (UInt8.ofNat k).toNat = k := fun k hk => by simp; omega
  simp only [cput, bvals, List.map]
  rw [e _ (by omega), e _ (by omega), e _ (by omega), e _ (by omega)]
  have h1 : (((n % 256 : Nat)) : Int) = (n : Int) % 256 := by omega
  have h2 : (((n / 256 % 256 : Nat)) : Int) = (n : Int) / 256 % 256 := by omega
  have h3 : (((n / 65536 % 256 : Nat)) : Int) = (n : Int) / 65536 % 256 := by omega
  have h4 : (((n / 16777216 % 256 : Nat)) : Int) = (n : Int) / 16777216 := by omega
  rw [h1, h2, h3, h4]
  rfl
theorem cput_any (n : Nat) (w : World) (hn : n < 4294967296) :
    Calls Tryd.prog 97 #[.int .u32 (n : Int)] w fun e w' => e = .returned (.string (txt (cput n))) ∧ Below w.heap.size w w' := by
  have hcv := run_row_string (P := Tryd.prog) (w.alloc (.cells #[.int .u8 ((n : Int) % 256), .int .u8 ((n : Int) / 256 % 256), .int .u8 ((n : Int) / 65536 % 256), .int .u8 ((n : Int) / 16777216)] 5)) 79 9 5 w.heap.size 4 4 _ (cput n) Tryd.underlying79 Tryd.underlying5 Tryd.underlying9 (BlkAt.made _ _ _) rfl (cput_bvals n hn)
  rw [show ByteArray.mk (cput n).toArray = txt (cput n) from rfl] at hcv
  go_enter Tryd.func97, Tryd.ntmps97
  go_wp2
  go_ret
  exact ⟨rfl, ba b0 _⟩
/-- One byte and those behind it. -/
theorem join4 (a b c d : Nat) (ha : a < 256) (hb : b < 256) (hc : c < 256) (hd : d < 256) :
    bits .or .u32 (bits .or .u32 (bits .or .u32 ((a : Int) % 4294967296) ((b : Int) % 4294967296 * 256 % 4294967296)) ((c : Int) % 4294967296 * 65536 % 4294967296)) ((d : Int) % 4294967296 * 16777216 % 4294967296) = ((a + b * 256 + c * 65536 + d * 16777216 : Nat) : Int) := by
  have j1 : a ||| b * 256 = a + b * 256 := by rw [Nat.or_comm, nat_join 8 _ _ (by omega) (by omega)]; omega
  have j2 : (a + b * 256) ||| c * 65536 = a + b * 256 + c * 65536 := by rw [Nat.or_comm, nat_join 16 _ _ (by omega) (by omega)]; omega
  have j3 : (a + b * 256 + c * 65536) ||| d * 16777216 = a + b * 256 + c * 65536 + d * 16777216 := by rw [Nat.or_comm, nat_join 24 _ _ (by omega) (by omega)]; omega
  rw [show (a : Int) % 4294967296 = (a : Int) by omega, show (b : Int) % 4294967296 * 256 % 4294967296 = ((b * 256 : Nat) : Int) by omega, show (c : Int) % 4294967296 * 65536 % 4294967296 = ((c * 65536 : Nat) : Int) by omega, show (d : Int) % 4294967296 * 16777216 % 4294967296 = ((d * 16777216 : Nat) : Int) by omega,
    u32_or_nat _ _ (by omega) (by omega), j1, u32_or_nat _ _ (by omega) (by omega), j2, u32_or_nat _ _ (by omega) (by omega), j3]
theorem cget_four (s : ByteArray) (h4 : s.size = 4) : cget s.data.toList = s[0].toNat + s[1].toNat * 256 + s[2].toNat * 65536 + s[3].toNat * 16777216 := by
  have hl : s.data.toList = [s[0], s[1], s[2], s[3]] := by
    have e := drop_at s 0 (by omega)
    rw [drop_at s 1 (by omega), drop_at s 2 (by omega), drop_at s 3 (by omega)] at e
    rw [List.drop_zero] at e
    rw [e, List.drop_eq_nil_of_le (by simp; omega)]
  rw [hl]
  rfl
theorem cget_any (s : ByteArray) (w : World) (h4 : s.size = 4) :
    Calls Tryd.prog 100 #[.string s] w fun e w' => e = .returned (.tuple #[.int .u32 (cget s.data.toList : Int), .bool true]) ∧ Below w.heap.size w w' := by
  have hj := join4 s[0].toNat s[1].toNat s[2].toNat s[3].toNat (by have := s[0].toNat_lt; omega) (by have := s[1].toNat_lt; omega) (by have := s[2].toNat_lt; omega) (by have := s[3].toNat_lt; omega)
  rw [← cget_four s h4] at hj
  generalize cget s.data.toList = V at hj
  have HJ := Lib.hid hj
  clear hj
  go_enter Tryd.func100, Tryd.ntmps100
  go_wp2
  go_quiet (fail)
  go_wp2
  rw [HJ.out]
  go_ret2
  exact ⟨rfl, bn b0 _⟩
theorem cget_no (s : ByteArray) (w : World) (h4 : s.size ≠ 4) :
    Calls Tryd.prog 100 #[.string s] w fun e w' => e = .returned (.tuple #[.int .u32 0, .bool false]) ∧ Below w.heap.size w w' := by
  have hne : (((s.size : Nat) : Int) == 4) = false := by rw [beq_eq_false_iff_ne]; omega
  go_enter Tryd.func100, Tryd.ntmps100
  go_wp2
  go_ret2
  exact ⟨rfl, b0⟩
end Go.Proofs.YtmlijflappjfoaaDoor
