/-
  Contracts of layer 4 (a sum of 32 bits) and of the document's answer. Conditions: texts within int.
-/
import Derived.Test.YtlkdoahdcepncaaRef02b
import Derived.Laws.BitsAllLaws
namespace Go.Proofs.Ytlkdoahdcepncaa
open Go.RowKit Go.PM
set_option maxRecDepth 100000

/-- The register behind i bytes. -/
def Rg (l : List UInt8) (i r : Nat) : Prop := r = Go.PM.cover 4294967295 (l.take i) ∧ r < 4294967296
theorem Rg.step {s : ByteArray} {i r : Nat} (h : Rg s.data.toList i r) (hi : i < s.size) : Rg s.data.toList (i + 1) (csteps 8 (r ^^^ s[i].toNat)) := by
  obtain ⟨e, hlt⟩ := h
  refine ⟨?_, cbyte_lt hlt s[i]⟩
  have hl : i < s.data.toList.length := by simpa using hi
  have hg : s.data.toList[i] = s[i] := by simp; rfl
  rw [← List.take_append_getElem hl, cover_append, ← e, hg]
  rfl
/-- The register k bits on. -/
def Rb (x k r : Nat) : Prop := csteps (8 - k) r = x ∧ r < 4294967296
theorem Rb.step {x k r : Nat} (h : Rb x k r) (hk : k < 8) : Rb x (k + 1) (cstep r) := by
  refine ⟨?_, cstep_lt h.2⟩
  have e := h.1
  rw [show 8 - k = (8 - (k + 1)) + 1 by omega] at e
  exact e
theorem not_sub (r : Nat) (h : r < 4294967296) : 4294967295 - r = 4294967295 ^^^ r := by
  apply Nat.eq_of_testBit_eq
  intro i
  rw [show 4294967295 - r = 2 ^ 32 - (r + 1) by omega, Nat.testBit_two_pow_sub_succ (by omega), Nat.testBit_xor, show (4294967295 : Nat) = 2 ^ 32 - 1 by rfl, Nat.testBit_two_pow_sub_one]
  by_cases hi : i < 32
  · simp [hi]
  · have : r.testBit i = false := Nat.testBit_lt_two_pow (Nat.lt_of_lt_of_le h (by rw [show (4294967296 : Nat) = 2 ^ 32 by rfl]; exact Nat.pow_le_pow_right (by omega) (by omega)))
    simp [hi, this]

theorem rsum_any (s : ByteArray) (w : World) (hs : s.size ≤ 9223372036854775807) :
    Calls Try.prog 55 #[.string s] w fun e w' => e = .returned (.int .u32 (csum s.data.toList : Int)) ∧ Below w.heap.size w w' := by
  go_enter Try.func55, Try.ntmps55
  go_wp2
  go_loop [3, 4] (fun rr ii => ∃ i r : Nat, i ≤ s.size ∧ ii = .int .i64 (i : Int) ∧ rr = .int .u32 (r : Int) ∧ Rg s.data.toList i r) (fun _ k => s.size - (intOf k).toNat)
  case atStart => exact ⟨0, 4294967295, by omega, rfl, rfl, rfl, by omega⟩
  case round =>
    obtain ⟨i, r, hi, rfl, rfl, hrg⟩ := hrel
    by_cases hil : i < s.size
    · have hst := hrg.step hil
      have hr := hrg.2
      have hx : r ^^^ s[i].toNat < 4294967296 := Nat.xor_lt_two_pow (n := 32) hr (by have := s[i].toNat_lt; omega)
      have hbx : bits .xor .u32 (r : Int) ((s[i].toNat : Int) % 4294967296) = ((r ^^^ s[i].toNat : Nat) : Int) := by
        rw [show (s[i].toNat : Int) % 4294967296 = (s[i].toNat : Int) by have := s[i].toNat_lt; omega]
        exact u32_xor_nat _ _ hr (by have := s[i].toNat_lt; omega)
      generalize hX : r ^^^ s[i].toNat = X at hst hx hbx
      generalize hY : csteps 8 X = Y at hst
      have HST := Lib.hid hst
      have HY := Lib.hid hY
      have HX := Lib.hid hx
      clear hX hst hY hrg hx
      go_wp2
      go_loop [3, 5] (fun rr kk => ∃ k r : Nat, k ≤ 8 ∧ kk = .int .i64 (k : Int) ∧ rr = .int .u32 (r : Int) ∧ Rb Y k r) (fun _ k => 8 - (intOf k).toNat)
      case atStart => exact ⟨0, X, by omega, rfl, rfl, HY.out, HX.out⟩
      case round =>
        obtain ⟨k, q, hk, rfl, rfl, hrb⟩ := hrel
        by_cases hk8 : k < 8
        · have hst := hrb.step hk8
          have hq := hrb.2
          clear hrb
          by_cases hodd : q % 2 = 1
          · have ho : (((q : Int) % 2) == 1) = true := by rw [beq_iff_eq]; omega
            have hbx : bits .xor .u32 ((q : Int) / 2) 3988292384 = ((cstep q : Nat) : Int) := by
              unfold cstep
              rw [if_pos hodd, ← u32_xor_nat _ _ (by omega) (by omega)]
              rfl
            generalize cstep q = Q at hst hbx
            have HST := Lib.hid hst
            clear hst hodd
            go_wp2
            go_round
            case rel => exact ⟨k + 1, Q, by omega, by go_num, rfl, HST.out⟩
            case measure => simp [intOf]; omega
          · have ho : (((q : Int) % 2) == 1) = false := by rw [beq_eq_false_iff_ne]; omega
            have hbx : ((q : Int) / 2) = ((cstep q : Nat) : Int) := by
              unfold cstep
              rw [if_neg hodd]
              omega
            have HBX := Lib.hid hbx
            generalize cstep q = Q at hst HBX
            have HST := Lib.hid hst
            clear hst hodd hbx
            go_wp2
            go_round
            case rel => exact ⟨k + 1, Q, by omega, by go_num, by rw [HBX.out], HST.out⟩
            case measure => simp [intOf]; omega
        · obtain rfl : k = 8 := by omega
          have hqy : q = Y := hrb.1
          subst hqy
          go_wp2
          go_round
          case rel => exact ⟨i + 1, q, by omega, by go_num, rfl, HST.out⟩
          case measure => simp [intOf]; omega
    · obtain rfl : i = s.size := by omega
      have hr := hrg.2
      have hcs : ((4294967295 : Int) - (r : Int)) = (csum s.data.toList : Int) := by
        unfold csum
        have e := hrg.1
        rw [List.take_of_length_le (by simp)] at e
        rw [← e, ← not_sub _ hr]
        omega
      clear hrg
      go_wp2
      go_ret
      exact ⟨rfl, b0⟩

theorem cput_bvals (n : Nat) (hn : n < 4294967296) : (#[.int .u8 ((n : Int) % 256), .int .u8 ((n : Int) / 256 % 256), .int .u8 ((n : Int) / 65536 % 256), .int .u8 ((n : Int) / 16777216)] : Array Value).toList.take 4 = bvals (cput n) := by
  have e : ∀ k, k < 256 → (UInt8.ofNat k).toNat = k := fun k hk => by simp; omega
  simp only [cput, bvals, List.map]
  rw [e _ (by omega), e _ (by omega), e _ (by omega), e _ (by omega)]
  have h1 : (((n % 256 : Nat)) : Int) = (n : Int) % 256 := by omega
  have h2 : (((n / 256 % 256 : Nat)) : Int) = (n : Int) / 256 % 256 := by omega
  have h3 : (((n / 65536 % 256 : Nat)) : Int) = (n : Int) / 65536 % 256 := by omega
  have h4 : (((n / 16777216 % 256 : Nat)) : Int) = (n : Int) / 16777216 := by omega
  rw [h1, h2, h3, h4]
  rfl
theorem cput_any (n : Nat) (w : World) (hn : n < 4294967296) :
    Calls Try.prog 46 #[.int .u32 (n : Int)] w fun e w' => e = .returned (.string (txt (cput n))) ∧ Below w.heap.size w w' := by
  have hcv := run_row_string (P := Try.prog) (w.alloc (.cells #[.int .u8 ((n : Int) % 256), .int .u8 ((n : Int) / 256 % 256), .int .u8 ((n : Int) / 65536 % 256), .int .u8 ((n : Int) / 16777216)] 5)) 35 9 5 w.heap.size 4 4 _ (cput n) Try.underlying35 Try.underlying5 Try.underlying9 (BlkAt.made _ _ _) rfl (cput_bvals n hn)
  rw [show ByteArray.mk (cput n).toArray = txt (cput n) from rfl] at hcv
  go_enter Try.func46, Try.ntmps46
  go_wp2
  go_ret
  exact ⟨rfl, ba b0 _⟩
theorem rcput_any (n : Nat) (w : World) (hn : n < 4294967296) :
    Calls Try.prog 54 #[.int .u32 (n : Int)] w fun e w' => e = .returned (.string (txt (cput n))) ∧ Below w.heap.size w w' := by
  have hcv := run_row_string (P := Try.prog) (w.alloc (.cells #[.int .u8 ((n : Int) % 256), .int .u8 ((n : Int) / 256 % 256), .int .u8 ((n : Int) / 65536 % 256), .int .u8 ((n : Int) / 16777216)] 5)) 35 9 5 w.heap.size 4 4 _ (cput n) Try.underlying35 Try.underlying5 Try.underlying9 (BlkAt.made _ _ _) rfl (cput_bvals n hn)
  rw [show ByteArray.mk (cput n).toArray = txt (cput n) from rfl] at hcv
  go_enter Try.func54, Try.ntmps54
  go_wp2
  go_ret
  exact ⟨rfl, ba b0 _⟩
/-- One byte and those behind it. -/
theorem join4 (a b c d : Nat) (ha : a < 256) (hb : b < 256) (hc : c < 256) (hd : d < 256) :
    bits .or .u32 (bits .or .u32 (bits .or .u32 ((a : Int) % 4294967296) ((b : Int) % 4294967296 * 256 % 4294967296)) ((c : Int) % 4294967296 * 65536 % 4294967296)) ((d : Int) % 4294967296 * 16777216 % 4294967296) = ((a + b * 256 + c * 65536 + d * 16777216 : Nat) : Int) := by
  have j1 : a ||| b * 256 = a + b * 256 := by rw [Nat.or_comm, nat_join 8 _ _ (by omega) (by omega)]; omega
  have j2 : (a + b * 256) ||| c * 65536 = a + b * 256 + c * 65536 := by rw [Nat.or_comm, nat_join 16 _ _ (by omega) (by omega)]; omega
  have j3 : (a + b * 256 + c * 65536) ||| d * 16777216 = a + b * 256 + c * 65536 + d * 16777216 := by rw [Nat.or_comm, nat_join 24 _ _ (by omega) (by omega)]; omega
  rw [show (a : Int) % 4294967296 = (a : Int) by omega, show (b : Int) % 4294967296 * 256 % 4294967296 = ((b * 256 : Nat) : Int) by omega, show (c : Int) % 4294967296 * 65536 % 4294967296 = ((c * 65536 : Nat) : Int) by omega, show (d : Int) % 4294967296 * 16777216 % 4294967296 = ((d * 16777216 : Nat) : Int) by omega,
    u32_or_nat _ _ (by omega) (by omega), j1, u32_or_nat _ _ (by omega) (by omega), j2, u32_or_nat _ _ (by omega) (by omega), j3]
theorem cget_four (s : ByteArray) (h4 : s.size = 4) : cget s.data.toList = s[0].toNat + s[1].toNat * 256 + s[2].toNat * 65536 + s[3].toNat * 16777216 := by
  have hl : s.data.toList = [s[0], s[1], s[2], s[3]] := by
    have e := drop_at s 0 (by omega)
    rw [drop_at s 1 (by omega), drop_at s 2 (by omega), drop_at s 3 (by omega)] at e
    rw [List.drop_zero] at e
    rw [e, List.drop_eq_nil_of_le (by simp; omega)]
  rw [hl]
  rfl
theorem cget_any (s : ByteArray) (w : World) (h4 : s.size = 4) :
    Calls Try.prog 53 #[.string s] w fun e w' => e = .returned (.tuple #[.int .u32 (cget s.data.toList : Int), .bool true]) ∧ Below w.heap.size w w' := by
  have hj := join4 s[0].toNat s[1].toNat s[2].toNat s[3].toNat (by have := s[0].toNat_lt; omega) (by have := s[1].toNat_lt; omega) (by have := s[2].toNat_lt; omega) (by have := s[3].toNat_lt; omega)
  rw [← cget_four s h4] at hj
  generalize cget s.data.toList = V at hj
  have HJ := Lib.hid hj
  clear hj
  go_enter Try.func53, Try.ntmps53
  go_wp2
  go_quiet (fail)
  go_wp2
  rw [HJ.out]
  go_ret2
  exact ⟨rfl, bn b0 _⟩
theorem cget_no (s : ByteArray) (w : World) (h4 : s.size ≠ 4) :
    Calls Try.prog 53 #[.string s] w fun e w' => e = .returned (.tuple #[.int .u32 0, .bool false]) ∧ Below w.heap.size w w' := by
  have hne : (((s.size : Nat) : Int) == 4) = false := by rw [beq_eq_false_iff_ne]; omega
  go_enter Try.func53, Try.ntmps53
  go_wp2
  go_ret2
  exact ⟨rfl, b0⟩
end Go.Proofs.Ytlkdoahdcepncaa
