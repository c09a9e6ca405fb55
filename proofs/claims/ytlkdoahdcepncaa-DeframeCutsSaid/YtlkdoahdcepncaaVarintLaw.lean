/-
  The walks of layer 2's example and of the statement VarintBack: they answer true. Conditions: numbers within uint64, texts within int.
-/
import Derived.Test.YtlkdoahdcepncaaCursorLaw
import Derived.Test.YtlkdoahdcepncaaVarint
import Derived.Test.YtlkdoahdcepncaaReg
namespace Go.Proofs.Ytlkdoahdcepncaa
open Go.RowKit Go.PM
set_option maxRecDepth 100000

theorem awakeE01 (w : World) : Calls Try.prog 73 #[] w fun e w' => e = .returned (.bool true) ∧ Below w.heap.size w w' := by
  go_enter Try.func73, Try.ntmps73
  go_wp2_with (go_at_call 17; refine (awake01 _).mono ?_; rintro e w' ⟨rfl, hb⟩)
  go_ret
  exact ⟨rfl, hb⟩

theorem vput300 : vput 300 = [172, 2] := by
  rw [vput_big (by omega), vput_small (by omega)]; rfl

theorem awake02 (w : World) : Calls Try.prog 26 #[] w fun e w' => e = .returned (.bool true) ∧ Below w.heap.size w w' := by
  have e1 : vget [172, 130, 0] = (0, 0, 2) := by decide
  go_enter Try.func26, Try.ntmps26
  go_wp2_with fail
  refine (get_any _ _ (by decide)).mono ?_
  rintro e w1 ⟨rfl, hb1⟩
  simp only [e1]
  go_wp2_with fail
  refine (awakeE01 _).mono ?_
  rintro e w2 ⟨rfl, hb2⟩
  go_wp2_with fail
  refine (put_any 300 _ (by unfold In64; omega)).mono ?_
  rintro e w3 ⟨rfl, hb3⟩
  rw [vput300]
  go_wp2_with fail
  go_ret
  exact ⟨rfl, bb (bb hb1 hb2) hb3⟩
theorem awakeE02 (w : World) : Calls Try.prog 74 #[] w fun e w' => e = .returned (.bool true) ∧ Below w.heap.size w w' := by
  go_enter Try.func74, Try.ntmps74
  go_wp2_with (go_at_call 26; refine (awake02 _).mono ?_; rintro e w' ⟨rfl, hb⟩)
  go_ret
  exact ⟨rfl, hb⟩

theorem back_walk (n : Nat) (s : ByteArray) (cut : Nat) (w : World) (hn : In64 n) (hs : s.size ≤ 9223372036854775807) (hc : cut < 256) :
    Calls Try.prog 5 #[.int .u64 (n : Int), .string s, .int .u8 (cut : Int)] w fun e w' => e = .returned (.bool true) ∧ Below w.heap.size w w' := by
  by_cases hlen : 2000 < s.size
  · go_enter Try.func5, Try.ntmps5
    go_wp2_with (go_at_call 26; refine (awake02 _).mono ?_; rintro e w1 ⟨rfl, hb1⟩)
    go_ret
    exact ⟨rfl, hb1⟩
  · have h10 := vsz_le10 hn
    have hp := vsz_pos n
    obtain ⟨t, ht⟩ : ∃ t, t = ByteArray.mk (vput n).toArray := ⟨_, rfl⟩
    have htl : t.data.toList = vput n := by rw [ht]
    have hts : t.size = vsz n := by rw [← vput_length, ← htl]; rfl
    have HTL := Lib.hid htl
    have HT := Lib.hid ht
    have q1 : 1 ≤ t.size := by omega
    have q2 : t.size ≤ 10 := by omega
    have hm0 : (0 : Int) ≤ (cut : Int) % (t.size : Int) := Int.emod_nonneg _ (by omega)
    have hm1 : (cut : Int) % (t.size : Int) ≤ (t.size : Int) := Int.le_of_lt (Int.emod_lt_of_pos _ (by omega))
    have hmn : cut % t.size < vsz n := by rw [← hts]; exact Nat.mod_lt _ (by omega)
    have HMN := Lib.hid hmn
    clear hmn
    have HTS := Lib.hid hts
    have HN := Lib.hid hn
    clear htl ht hts h10 hp hn
    go_enter Try.func5, Try.ntmps5
    go_wp2_with (go_at_call 26; refine (awake02 _).mono ?_; rintro e w1 ⟨rfl, hb1⟩)
    refine (put_any n _ HN.out).mono ?_
    rintro e w2 ⟨rfl, hb2⟩
    rw [← HT.out]
    go_wp2_with fail
    refine (get_any _ _ (by simp; omega)).mono ?_
    rintro e w3 ⟨rfl, hb3⟩
    have e3 : (t ++ s).data.toList = vput n ++ s.data.toList := by rw [ByteArray.data_append, Array.toList_append, HTL.out]
    rw [e3, vget_put n HN.out, ← HTS.out]
    clear e3
    go_wp2_with fail
    refine (get_any _ _ (by simp; omega)).mono ?_
    rintro e w4 ⟨rfl, hb4⟩
    have e4 : (t.extract 0 (cut % t.size)).data.toList = (vput n).take (cut % t.size) := by rw [ext_list, HTL.out]; simp
    rw [e4, vget_cut n HN.out _ HMN.out]
    clear e4
    go_wp2_with fail
    refine (get_any _ _ hs).mono ?_
    rintro e w5 ⟨rfl, hb5⟩
    by_cases hv : (vget s.data.toList).2.2 = 0
    · obtain ⟨k1, k2, k3, k4, k5⟩ := vget_ok hv
      rw [hv]
      generalize (vget s.data.toList).1 = b at k4 k5
      generalize (vget s.data.toList).2.1 = m at k1 k2 k3 k5
      have K4 := Lib.hid k4
      have e6 : ByteArray.mk (vput b).toArray = s.extract 0 m := by
        apply ByteArray.ext
        apply Array.toList_inj.1
        rw [ext_list, k5]
        simp
      have E6 := Lib.hid e6
      have k2' : m ≤ s.size := by simpa using k2
      clear hv k4 k5 e6 k2
      have P6 : ∀ wx : World, Calls Try.prog 27 #[.int .u64 (b : Int)] wx fun e w' => e = .returned (.string (s.extract 0 m)) ∧ Below wx.heap.size wx w' := fun wx => by
        rw [← E6.out]; exact put_any b wx K4.out
      have HP6 := Lib.hid P6
      clear P6
      go_wp2_with fail
      refine wp_region_below_lit (by kernel_rfl) (by kernel_rfl) ?_
      repeat (first | go_big_quiet_skip | (go_big_quiet_want; go_big_quiet_op; first | go_big_quiet_on | (apply Exists.intro; refine ⟨fun nq => ?_, ?_⟩; (go_at_call 27; exact below_of (HP6.out _)); go_big_quiet_on)))
      refine wpQuiet_nil ?_
      intro wq hnq
      obtain ⟨nq, rfl⟩ := hnq
      have hq := nq.bel
      generalize nq.wld = wq at hq ⊢
      clear nq
      go_wp2
      go_ret
      exact ⟨rfl, bb (bb (bb (bb (bb (bb hb1 hb2) hb3) hb4) hb5) b0) hq⟩
    · rw [vget_err hv]
      have hv2 : (((vget s.data.toList).2.2 : Int) == 0) = false := by rw [beq_eq_false_iff_ne]; omega
      have hv3 : (((vget s.data.toList).2.2 : Int) != 0) = true := by rw [bne_iff_ne]; omega
      generalize (vget s.data.toList).2.2 = g at hv hv2 hv3
      clear hv
      go_wp2_with fail
      refine wp_region_below_lit (by kernel_rfl) (by kernel_rfl) ?_
      repeat (first | go_big_quiet_skip | (go_big_quiet_want; go_big_quiet_op; first | go_big_quiet_on | (apply Exists.intro; refine ⟨fun nq => ?_, ?_⟩; (fail); go_big_quiet_on)))
      refine wpQuiet_nil ?_
      intro wq hnq
      obtain ⟨nq, rfl⟩ := hnq
      have hq := nq.bel
      generalize nq.wld = wq at hq ⊢
      clear nq
      go_wp2
      go_ret
      exact ⟨rfl, bb (bb (bb (bb (bb (bb hb1 hb2) hb3) hb4) hb5) b0) hq⟩
end Go.Proofs.Ytlkdoahdcepncaa
