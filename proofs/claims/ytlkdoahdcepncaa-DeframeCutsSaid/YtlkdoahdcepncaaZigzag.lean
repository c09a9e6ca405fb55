/-
  Contracts of layer 3 (zigzag) and of the document's answer. Conditions: numbers within int64, uint64, texts within int.
-/
import Derived.Test.YtlkdoahdcepncaaRef02b
namespace Go.Proofs.Ytlkdoahdcepncaa
open Go.RowKit Go.PM
set_option maxRecDepth 100000

/-- A number's zigzag, and back. -/
def zmap (n : Int) : Nat := if 0 ≤ n then (2 * n).toNat else (-2 * n - 1).toNat
def zback (z : Nat) : Int := if z % 2 = 0 then ((z / 2 : Nat) : Int) else -((z / 2 : Nat) : Int) - 1
def InI64 (n : Int) : Prop := -9223372036854775808 ≤ n ∧ n ≤ 9223372036854775807
theorem zmap_64 {n : Int} (h : InI64 n) : In64 (zmap n) := by unfold zmap In64; unfold InI64 at h; split <;> omega
theorem zback_64 {z : Nat} (h : In64 z) : InI64 (zback z) := by unfold zback InI64; unfold In64 at h; split <;> omega

theorem xor_ones (a : Nat) (h : a < 18446744073709551616) : a ^^^ 18446744073709551615 = 18446744073709551615 - a := by
  have e : (BitVec.ofNat 64 a ^^^ BitVec.allOnes 64).toNat = (~~~BitVec.ofNat 64 a).toNat := by rw [BitVec.xor_allOnes]
  rw [BitVec.toNat_xor, BitVec.toNat_not, BitVec.toNat_ofNat, BitVec.toNat_allOnes] at e
  rw [Nat.mod_eq_of_lt (by omega)] at e
  omega
theorem map_eq (n : Int) (h : InI64 n) : bits .xor .u64 (IntKind.u64.wrap (IntKind.u64.wrap n * 2)) (IntKind.u64.wrap (n / 9223372036854775808)) = (zmap n : Int) := by
  unfold InI64 at h
  unfold zmap
  rw [IntKind.wrap_u64, IntKind.wrap_u64, IntKind.wrap_u64]
  by_cases h0 : 0 ≤ n
  · rw [if_pos h0]
    have e1 : n % 18446744073709551616 * 2 % 18446744073709551616 = ((2 * n).toNat : Int) := by omega
    have e2 : n / 9223372036854775808 % 18446744073709551616 = ((0 : Nat) : Int) := by omega
    rw [e1, e2, bits_xor_u64_nat _ _ (by omega) (by omega), Nat.xor_zero]
  · rw [if_neg h0]
    have e1 : n % 18446744073709551616 * 2 % 18446744073709551616 = ((18446744073709551616 + 2 * n).toNat : Int) := by omega
    have e2 : n / 9223372036854775808 % 18446744073709551616 = ((18446744073709551615 : Nat) : Int) := by omega
    rw [e1, e2, bits_xor_u64_nat _ _ (by omega) (by omega), xor_ones _ (by omega)]
    omega
theorem and_one (z : Nat) (h : In64 z) : bits .and .u64 (z : Int) 1 = (z : Int) % 2 := by
  have := bits_and_u64_nat z 1 h.out (by omega)
  rw [Nat.and_one_is_mod] at this
  simpa using this
theorem back_eq (z : Nat) (h : In64 z) : bits .xor .i64 (wrap64 ((z : Int) / 2)) (wrap64 (-wrap64 (bits .and .u64 (z : Int) 1))) = zback z := by
  rw [and_one z h]
  unfold In64 at h
  unfold zback
  have e1 : wrap64 ((z : Int) / 2) = ((z / 2 : Nat) : Int) := by unfold wrap64; omega
  have o : ∀ a : Nat, a < 9223372036854775808 → (BitVec.ofInt 64 (a : Int)).toNat = a := fun a ha => by
    rw [BitVec.ofInt_natCast, BitVec.toNat_ofNat]; exact Nat.mod_eq_of_lt (by omega)
  have ho := o (z / 2) (by omega)
  by_cases h0 : z % 2 = 0
  · rw [if_pos h0, e1]
    have e2 : wrap64 (-wrap64 ((z : Int) % 2)) = ((0 : Nat) : Int) := by unfold wrap64; omega
    rw [e2]
    show IntKind.i64.wrap ((BitVec.ofInt 64 ((z / 2 : Nat) : Int) ^^^ BitVec.ofInt 64 ((0 : Nat) : Int)).toNat : Int) = _
    rw [BitVec.toNat_xor, ho, o 0 (by omega), Nat.xor_zero, IntKind.wrap_i64]
    omega
  · rw [if_neg h0, e1]
    have e2 : wrap64 (-wrap64 ((z : Int) % 2)) = -1 := by unfold wrap64; omega
    rw [e2]
    show IntKind.i64.wrap ((BitVec.ofInt 64 ((z / 2 : Nat) : Int) ^^^ BitVec.ofInt 64 (-1)).toNat : Int) = _
    have e3 : BitVec.ofInt 64 (-1) = BitVec.allOnes 64 := by decide
    rw [e3, BitVec.xor_allOnes, BitVec.toNat_not, ho, IntKind.wrap_i64]
    omega

theorem map_any (n : Int) (w : World) (hn : InI64 n) : Calls Try.prog 40 #[.int .i64 n] w fun e w' => e = .returned (.int .u64 (zmap n : Int)) ∧ Below w.heap.size w w' := by
  have HE := Lib.hid (map_eq n hn)
  clear hn
  go_enter Try.func40, Try.ntmps40
  go_wp2
  go_ret
  rw [← HE.out]
  exact ⟨rfl, b0⟩
theorem back_any (z : Nat) (w : World) (hz : In64 z) : Calls Try.prog 42 #[.int .u64 (z : Int)] w fun e w' => e = .returned (.int .i64 (zback z)) ∧ Below w.heap.size w w' := by
  have HE := Lib.hid (back_eq z hz)
  clear hz
  go_enter Try.func42, Try.ntmps42
  go_wp2
  go_ret
  rw [← HE.out]
  exact ⟨rfl, b0⟩
theorem rmap_any (n : Int) (w : World) (hn : InI64 n) : Calls Try.prog 41 #[.int .i64 n] w fun e w' => e = .returned (.int .u64 (zmap n : Int)) ∧ Below w.heap.size w w' := by
  have HN := Lib.hid hn
  clear hn
  by_cases h0 : 0 ≤ n
  · have e : IntKind.u64.wrap (2 * IntKind.u64.wrap n) = (zmap n : Int) := by
      have := HN.out; unfold InI64 at this; unfold zmap
      rw [IntKind.wrap_u64, IntKind.wrap_u64, if_pos h0]; omega
    have HE := Lib.hid e
    clear e
    go_enter Try.func41, Try.ntmps41
    go_wp2
    go_ret
    rw [← HE.out]
    exact ⟨rfl, b0⟩
  · have e : IntKind.u64.wrap (IntKind.u64.wrap (2 * IntKind.u64.wrap (IntKind.u64.wrap (IntKind.u64.wrap (wrap64 (-wrap64 (n + 1))) + 1) - 1)) + 1) = (zmap n : Int) := by
      have := HN.out; unfold InI64 at this; unfold zmap wrap64
      simp only [IntKind.wrap_u64]
      rw [if_neg h0]; omega
    have HE := Lib.hid e
    clear e
    go_enter Try.func41, Try.ntmps41
    go_wp2
    go_ret
    rw [← HE.out]
    exact ⟨rfl, b0⟩
theorem rback_any (z : Nat) (w : World) (hz : In64 z) : Calls Try.prog 43 #[.int .u64 (z : Int)] w fun e w' => e = .returned (.int .i64 (zback z)) ∧ Below w.heap.size w w' := by
  have HN := Lib.hid hz
  clear hz
  by_cases h0 : z % 2 = 0
  · have e : wrap64 (IntKind.u64.wrap ((z : Int) / 2)) = zback z := by
      have := HN.out.out; unfold zback wrap64
      rw [IntKind.wrap_u64, if_pos h0]; omega
    have ht : ((z : Int) % 2 == 0) = true := by rw [beq_iff_eq]; omega
    have HE := Lib.hid e
    clear e h0
    go_enter Try.func43, Try.ntmps43
    go_wp2
    go_ret
    rw [← HE.out]
    exact ⟨rfl, b0⟩
  · have e : wrap64 (wrap64 (-wrap64 (IntKind.u64.wrap ((z : Int) / 2))) - 1) = zback z := by
      have := HN.out.out; unfold zback wrap64
      rw [IntKind.wrap_u64, if_neg h0]; omega
    have ht : ((z : Int) % 2 == 0) = false := by rw [beq_eq_false_iff_ne]; omega
    have HE := Lib.hid e
    clear e h0
    go_enter Try.func43, Try.ntmps43
    go_wp2
    go_ret
    rw [← HE.out]
    exact ⟨rfl, b0⟩

theorem zput_any (n : Int) (w : World) (hn : InI64 n) : Calls Try.prog 44 #[.int .i64 n] w fun e w' => e = .returned (.string (txt (vput (zmap n)))) ∧ Below w.heap.size w w' := by
  have HN := Lib.hid hn
  clear hn
  go_enter Try.func44, Try.ntmps44
  go_wp2_with (first
    | (go_at_call 40; refine (map_any n _ HN.out).mono ?_; rintro e w1 ⟨rfl, hb1⟩)
    | (go_at_call 27; refine (put_any (zmap n) _ (zmap_64 HN.out)).mono ?_; rintro e w2 ⟨rfl, hb2⟩))
  go_ret
  exact ⟨rfl, bb hb1 hb2⟩

/-- The number whose zigzag a text begins with. -/
def zget (l : List UInt8) : Int × Nat × Nat := if (vget l).2.2 = 0 then (zback (vget l).1, (vget l).2.1, 0) else (0, 0, (vget l).2.2)

theorem zget_any (s : ByteArray) (w : World) (hs : s.size ≤ 9223372036854775807) :
    Calls Try.prog 37 #[.string s] w fun e w' => e = .returned (.tuple #[.int .i64 (zget s.data.toList).1, .int .i64 ((zget s.data.toList).2.1 : Int), .int .i64 ((zget s.data.toList).2.2 : Int)]) ∧ Below w.heap.size w w' := by
  generalize hZ : zget s.data.toList = Z
  generalize hV : vget s.data.toList = V
  obtain ⟨n, m, g⟩ := V
  have hn : g = 0 → In64 n := fun e => by
    have := vget_ok (s := s.data.toList) (by rw [hV]; exact e)
    rw [hV] at this
    exact this.2.2.2.1
  unfold zget at hZ
  rw [hV] at hZ
  have HV := Lib.hid hV
  by_cases hg : g = 0
  · rw [if_pos hg] at hZ
    have HZ := Lib.hid hZ
    have HN := Lib.hid (hn hg)
    subst hg
    clear hZ hV hn
    go_enter Try.func37, Try.ntmps37
    go_wp2_with (first
      | (go_at_call 28; refine (get_any s _ hs).mono ?_; rintro e w1 ⟨rfl, hb1⟩; rw [HV.out])
      | (go_at_call 42; refine (back_any n _ HN.out).mono ?_; rintro e w2 ⟨rfl, hb2⟩))
    go_ret3
    rw [← HZ.out]
    exact ⟨rfl, bb hb1 hb2⟩
  · rw [if_neg hg] at hZ
    have HZ := Lib.hid hZ
    have hv2 : ((g : Int) == 0) = false := by rw [beq_eq_false_iff_ne]; omega
    have hv3 : ((g : Int) != 0) = true := by rw [bne_iff_ne]; omega
    clear hZ hV hn hg
    go_enter Try.func37, Try.ntmps37
    go_wp2_with (go_at_call 28; refine (get_any s _ hs).mono ?_; rintro e w1 ⟨rfl, hb1⟩; rw [HV.out])
    go_ret3
    rw [← HZ.out]
    exact ⟨rfl, hb1⟩
theorem rzget_any (s : ByteArray) (w : World) (hs : s.size ≤ 9223372036854775807) :
    Calls Try.prog 38 #[.string s] w fun e w' => e = .returned (.tuple #[.int .i64 (zget s.data.toList).1, .int .i64 ((zget s.data.toList).2.1 : Int), .int .i64 ((zget s.data.toList).2.2 : Int)]) ∧ Below w.heap.size w w' := by
  generalize hZ : zget s.data.toList = Z
  generalize hV : vget s.data.toList = V
  obtain ⟨n, m, g⟩ := V
  have hn : g = 0 → In64 n := fun e => by
    have := vget_ok (s := s.data.toList) (by rw [hV]; exact e)
    rw [hV] at this
    exact this.2.2.2.1
  unfold zget at hZ
  rw [hV] at hZ
  have HV := Lib.hid hV
  by_cases hg : g = 0
  · rw [if_pos hg] at hZ
    have HZ := Lib.hid hZ
    have HN := Lib.hid (hn hg)
    subst hg
    clear hZ hV hn
    go_enter Try.func38, Try.ntmps38
    go_wp2_with (first
      | (go_at_call 30; refine (rget_any s _ hs).mono ?_; rintro e w1 ⟨rfl, hb1⟩; rw [HV.out])
      | (go_at_call 43; refine (rback_any n _ HN.out).mono ?_; rintro e w2 ⟨rfl, hb2⟩))
    go_ret3
    rw [← HZ.out]
    exact ⟨rfl, bb hb1 hb2⟩
  · rw [if_neg hg] at hZ
    have HZ := Lib.hid hZ
    have hv2 : ((g : Int) == 0) = false := by rw [beq_eq_false_iff_ne]; omega
    have hv3 : ((g : Int) != 0) = true := by rw [bne_iff_ne]; omega
    clear hZ hV hn hg
    go_enter Try.func38, Try.ntmps38
    go_wp2_with (go_at_call 30; refine (rget_any s _ hs).mono ?_; rintro e w1 ⟨rfl, hb1⟩; rw [HV.out])
    go_ret3
    rw [← HZ.out]
    exact ⟨rfl, hb1⟩

theorem znext_any (b : Nat) (s : ByteArray) (k : Nat) (w : World) (h : Cur w b s k) :
    Calls Try.prog 39 #[.pointer (some ⟨b, 0, none⟩)] w fun e w' =>
      e = .returned (.tuple #[.int .i64 (zget (s.data.toList.drop k)).1, .int .i64 ((zget (s.data.toList.drop k)).2.2 : Int)]) ∧ Cur w' b s (k + (zget (s.data.toList.drop k)).2.1) ∧ w.grownBy w' (some b) := by
  generalize hZ : zget (s.data.toList.drop k) = Z
  generalize hV : vget (s.data.toList.drop k) = V
  obtain ⟨n, m, g⟩ := V
  have hn : g = 0 → In64 n := fun e => by
    have := vget_ok (s := s.data.toList.drop k) (by rw [hV]; exact e)
    rw [hV] at this
    exact this.2.2.2.1
  have hm : g ≠ 0 → m = 0 := fun e => by
    have := vget_err (s := s.data.toList.drop k) (by rw [hV]; exact e)
    rw [hV] at this
    simp at this
    exact this.2
  unfold zget at hZ
  rw [hV] at hZ
  have HV := Lib.hid hV
  have H := Lib.hid h
  clear h hV
  by_cases hg : g = 0
  · rw [if_pos hg] at hZ
    have HZ := Lib.hid hZ
    have HN := Lib.hid (hn hg)
    subst hg
    clear hZ hn hm
    go_enter Try.func39, Try.ntmps39
    go_wp2_with (first
      | (go_at_call 29; refine (next_any b s k _ H.out).mono ?_; rintro e w1 ⟨rfl, hc1, hg1⟩; rw [HV.out] at hc1; rw [HV.out])
      | (go_at_call 42; refine (back_any n _ HN.out).mono ?_; rintro e w2 ⟨rfl, hb2⟩))
    go_ret2
    rw [← HZ.out]
    exact ⟨rfl, ⟨hc1.1.below hb2 hc1.1.lt, hc1.2⟩, grown_trans hg1 (grown_of_below hb2 none) (fun x e => by cases e)⟩
  · rw [if_neg hg] at hZ
    have HZ := Lib.hid hZ
    have HM := Lib.hid (hm hg)
    have hv2 : ((g : Int) == 0) = false := by rw [beq_eq_false_iff_ne]; omega
    have hv3 : ((g : Int) != 0) = true := by rw [bne_iff_ne]; omega
    clear hZ hn hg hm
    go_enter Try.func39, Try.ntmps39
    go_wp2_with (go_at_call 29; refine (next_any b s k _ H.out).mono ?_; rintro e w1 ⟨rfl, hc1, hg1⟩; rw [HV.out] at hc1; rw [HV.out])
    go_ret2
    rw [← HZ.out]
    rw [HM.out] at hc1
    exact ⟨rfl, hc1, hg1⟩
end Go.Proofs.Ytlkdoahdcepncaa
