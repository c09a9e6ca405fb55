/-
  The walks of the statements of layer 4. Conditions: texts as they come in.
-/
import Derived.Test.YtlkdoahdcepncaaCrc3
import Derived.Test.YtlkdoahdcepncaaZigzagLaw
import Derived.Test.YtlkdoahdcepncaaRow
namespace Go.Proofs.Ytlkdoahdcepncaa
open Go.RowKit Go.PM
set_option maxRecDepth 100000

theorem awake04 (w : World) :
    Calls Try.prog 45 #[] w fun e w' => e = .returned (.bool true) ∧ Below w.heap.size w w' := by
  go_enter Try.func45, Try.ntmps45
  go_wp2_with fail
  refine (awakeE03 _).mono ?_
  rintro e w1 ⟨rfl, hb1⟩
  go_wp2_with fail
  refine (sum_one _ _ _ (BlkAt.made _ _ _) (by decide)).mono ?_
  rintro e w2 ⟨rfl, hb2⟩
  rw [show csum (ByteArray.mk #[49, 50, 51, 52, 53, 54, 55, 56, 57]).data.toList = 3421780262 by decide +kernel]
  go_wp2
  go_ret
  exact ⟨rfl, bb (ba hb1 _) hb2⟩
theorem awakeE04 (w : World) : Calls Try.prog 77 #[] w fun e w' => e = .returned (.bool true) ∧ Below w.heap.size w w' := by
  go_enter Try.func77, Try.ntmps77
  go_wp2_with (go_at_call 45; refine (awake04 _).mono ?_; rintro e w' ⟨rfl, hb⟩)
  go_ret
  exact ⟨rfl, hb⟩

theorem bit_flip (B : UInt8) (M : Nat) (h : M < 8) : bits .xor .u8 (B.toNat : Int) (2 ^ M % 256) = ((B ^^^ UInt8.ofNat (2 ^ M)).toNat : Int) := by
  have hp : 2 ^ M < 256 := by
    have : 2 ^ M < 2 ^ 8 := Nat.pow_lt_pow_right (by omega) h
    omega
  have e : ((2 : Int) ^ M % 256) = ((2 ^ M : Nat) : Int) := (by decide : ∀ M, M < 8 → ((2 : Int) ^ M % 256) = ((2 ^ M : Nat) : Int)) M h
  rw [e, u8_xor_nat _ _ B.toNat_lt hp, UInt8.toNat_xor]
  have : (UInt8.ofNat (2 ^ M)).toNat = 2 ^ M := by simp; omega
  rw [this]
theorem bursts_walk (s : ByteArray) (a p : Nat) (w : World) (ha : a < 65536) (hp : p < 4294967296) (hs : s.size ≤ 9223372036854775807) :
    Calls Try.prog 9 #[.string s, .int .u16 (a : Int), .int .u32 (p : Int)] w fun e w' => e = .returned (.bool true) ∧ Below w.heap.size w w' := by
  by_cases hlen : 3000 < s.size
  · go_enter Try.func9, Try.ntmps9
    go_wp2_with (go_at_call 45; refine (awake04 _).mono ?_; rintro e w1 ⟨rfl, hb1⟩)
    go_ret
    exact ⟨rfl, hb1⟩
  by_cases hp0 : p = 0
  · subst hp0
    go_enter Try.func9, Try.ntmps9
    go_wp2_with (go_at_call 45; refine (awake04 _).mono ?_; rintro e w1 ⟨rfl, hb1⟩)
    go_ret
    exact ⟨rfl, hb1⟩
  have hpb : ((p : Int) == 0) = false := by rw [beq_eq_false_iff_ne]; omega
  have hP : ∀ x : World, Calls Try.prog 46 #[.int .u32 (csum s.data.toList : Int)] x fun e w' => e = .returned (.string (txt (cput (csum s.data.toList)))) ∧ Below x.heap.size x w' := fun x => cput_any _ x (csum_lt _)
  have hS : ∀ x : World, Calls Try.prog 47 #[.slice (some ⟨x.heap.size, 0, none⟩) 1 1] (x.alloc (.cells #[.string s] 9)) fun e w' => e = .returned (.int .u32 (csum s.data.toList : Int)) ∧ Below (x.alloc (.cells #[.string s] 9)).heap.size (x.alloc (.cells #[.string s] 9)) w' := fun x => sum_one s _ _ (BlkAt.made _ _ _) hs
  have hB := fun b hb => burst s.data.toList (a % (8 * (s.size + 4))) p 32 (by omega) (by have := Nat.mod_lt a (show 0 < 8 * (s.size + 4) by omega); simp; omega) hp b hb
  have hts : (txt (cput (csum s.data.toList))).size = 4 := rfl
  generalize csum s.data.toList = C at hP hS hB hts
  obtain ⟨q, hq⟩ : ∃ q, q = txt (cput C) := ⟨_, rfl⟩
  rw [← hq] at hP hts
  have hu : (s ++ q).data.toList = s.data.toList ++ cput C := by rw [ByteArray.data_append, Array.toList_append, hq, txt_list]
  have hus : (s ++ q).size = s.size + 4 := by simp [hts]
  rw [← hu] at hB
  have HB := Lib.hid hB
  have HP := Lib.hid hP
  have HS := Lib.hid hS
  clear hB hP hS hq hu
  go_enter Try.func9, Try.ntmps9
  go_wp2_with (go_at_call 45; refine (awake04 _).mono ?_; rintro e w1 ⟨rfl, hb1⟩)
  refine (HS.out _).mono ?_
  rintro e w2 ⟨rfl, hb2⟩
  go_wp2_with fail
  refine (HP.out _).mono ?_
  rintro e w3 ⟨rfl, hb3⟩
  have hb := bb (bb (ba hb1 _) hb2) hb3
  have HBW := Lib.hid hb
  clear hb hb1 hb2 hb3
  go_wp2_with fail
  have hcv := run_bytes_of_string (P := Try.prog) w3 9 35 5 (s ++ q) Try.underlying9 Try.underlying35 Try.underlying5
  have hrow := RowAt.made w3 5 (s ++ q) (grownCap w3 (s ++ q).size 0 5)
  have hge := grownCap_ge w3 (s ++ q).size 0 5
  have hwb : Below w3.heap.size w3 (w3.drew.alloc (.cells (bytesRow (s ++ q) (grownCap w3 (s ++ q).size 0 5)) 5 ((bytesRow (s ++ q) (grownCap w3 (s ++ q).size 0 5)).size, (bytesRow (s ++ q) (grownCap w3 (s ++ q).size 0 5)).size + 1))) := ba (bd b0) _
  generalize grownCap w3 (s ++ q).size 0 5 = cap at hcv hrow hge hwb
  generalize w3.drew.alloc (.cells (bytesRow (s ++ q) cap) 5 ((bytesRow (s ++ q) cap).size, (bytesRow (s ++ q) cap).size + 1)) = W at hcv hrow hwb
  generalize s ++ q = u at hcv hrow hge hwb hus HB ⊢
  have hfm : (a : Int) % (8 * ((s.size : Int) + 4)) = ((a % (8 * (s.size + 4)) : Nat) : Int) := by simp
  have hfl : a % (8 * (s.size + 4)) < 8 * (s.size + 4) := Nat.mod_lt _ (by omega)
  generalize a % (8 * (s.size + 4)) = F at hfm hfl HB
  have HROW := Lib.hid hrow
  have HWB := Lib.hid hwb
  clear hrow hwb
  rw [hcv]
  go_wp2
  have hul : u.data.toList.length = s.size + 4 := by simpa using hus
  go_loopw [9, 34] (fun tt kk wr => ∃ i : Nat, i ≤ 32 ∧ kk = .int .i64 (i : Int) ∧ tt = .bool (cturned (8 * (s.size + 4)) F p i) ∧ RowAt wr w3.heap.size (cturn u.data.toList F p i) ∧ Below w3.heap.size w3 wr) (fun _ k _ => 32 - (intOf k).toNat)
  case atStart => exact ⟨0, by omega, rfl, rfl, HROW.out, HWB.out⟩
  case round =>
    obtain ⟨i, hi, rfl, rfl, hrow, hwb⟩ := hrel
    have HR := Lib.hid hrow
    have HW := Lib.hid hwb
    clear hrow hwb
    by_cases hi32 : i < 32
    · have hpd : (p : Int) / 2 ^ i = ((p / 2 ^ i : Nat) : Int) := by simp
      have hpl : p / 2 ^ i < 4294967296 := Nat.lt_of_le_of_lt (Nat.div_le_self _ _) hp
      have hand : bits .and .u32 ((p : Int) / 2 ^ i) 1 = ((p / 2 ^ i % 2 : Nat) : Int) := by rw [hpd, ← nat_mask1]; exact u32_and_nat _ 1 hpl (by omega)
      clear hpd hpl
      have hct : ∀ b, cturned (8 * (s.size + 4)) F p (i + 1) = b ↔ (if p / 2 ^ i % 2 = 1 ∧ F + i < 8 * (s.size + 4) then true else cturned (8 * (s.size + 4)) F p i) = b := fun _ => Iff.rfl
      have hcl : ∀ b, cturn u.data.toList F p (i + 1) = b ↔ (if p / 2 ^ i % 2 = 1 ∧ F + i < 8 * u.data.toList.length then cflip (cturn u.data.toList F p i) (F + i) else cturn u.data.toList F p i) = b := fun _ => Iff.rfl
      have HCT := Lib.hid hct
      have HCL := Lib.hid hcl
      clear hct hcl
      by_cases hbit : p / 2 ^ i % 2 = 1
      · rw [hbit] at hand
        have HBIT := Lib.hid hbit
        clear hbit
        by_cases hk : F + i < 8 * (s.size + 4)
        · have hcl : (cturn u.data.toList F p i).length = s.size + 4 := by rw [cturn_length, hul]
          have hb := HR.out.at_ (j := (F + i) / 8) (by omega)
          have hq8 : ((F : Int) + (i : Int)) / 8 = (((F + i) / 8 : Nat) : Int) := by omega
          have hm8 : ((F : Int) + (i : Int)) % 8 = (((F + i) % 8 : Nat) : Int) := by omega
          have hk8 : (F + i) / 8 < s.size + 4 := by omega
          have hl8 : (F + i) % 8 < 8 := by omega
          obtain ⟨hb1, hb2⟩ := hb
          have hgl := HR.out.1
          have hfl : cflip (cturn u.data.toList F p i) (F + i) = (cturn u.data.toList F p i).set ((F + i) / 8) ((cturn u.data.toList F p i).getD ((F + i) / 8) 0 ^^^ UInt8.ofNat (2 ^ ((F + i) % 8))) := rfl
          generalize (F + i) / 8 = K at hq8 hk8 hb1 hb2 hfl
          generalize (F + i) % 8 = M at hm8 hl8 hfl
          generalize (cturn u.data.toList F p i).getD K 0 = B at hb1 hfl
          have HX := Lib.hid (bit_flip B M hl8)
          have HFL := Lib.hid hfl
          have HCL2 := Lib.hid hcl
          clear hfl hcl
          go_wp2
          go_region
          go_wp2
          go_round
          case rel =>
            refine ⟨i + 1, by omega, by go_num, ?_, ?_, bd (bs HW.out (by simp) _)⟩
            · rw [(HCT.out _).2 (if_pos ⟨HBIT.out, hk⟩)]
            · rw [(HCL.out _).2 (if_pos ⟨HBIT.out, by rw [hul]; exact hk⟩), HFL.out, HX.out]
              exact HR.out.set (by rw [HCL2.out]; exact hk8) _
          case measure => simp [intOf]; omega
        · go_wp2
          go_round
          case rel =>
            refine ⟨i + 1, by omega, by go_num, ?_, ?_, HW.out⟩
            · rw [(HCT.out _).2 (if_neg fun h => hk h.2)]
            · rw [(HCL.out _).2 (if_neg fun h => hk (by rw [hul] at h; exact h.2))]
              exact HR.out
          case measure => simp [intOf]; omega
      · rw [show p / 2 ^ i % 2 = 0 by omega] at hand
        have HBIT := Lib.hid hbit
        clear hbit
        go_wp2
        go_round
        case rel =>
          refine ⟨i + 1, by omega, by go_num, ?_, ?_, HW.out⟩
          · rw [(HCT.out _).2 (if_neg fun h => HBIT.out h.1)]
          · rw [(HCL.out _).2 (if_neg fun h => HBIT.out h.1)]
            exact HR.out
        case measure => simp [intOf]; omega
    · obtain rfl : i = 32 := by omega
      have hl32 : (cturn u.data.toList F p 32).length = s.size + 4 := by rw [cturn_length, hul]
      have hbb := HB.out _ rfl
      rw [len_list s] at hbb
      have c1 : ∀ n : BelW wr, (convert 35 9 (.slice (some ⟨w3.heap.size, 0, none⟩) s.size cap)).run Try.prog n.wld = .ok (.string (txt ((cturn u.data.toList F p 32).take s.size))) n.wld := fun n => by
        have := (HR.out.below n.bel HR.out.1).back (P := Try.prog) 35 9 5 0 s.size cap Try.underlying35 Try.underlying5 Try.underlying9 (by omega)
        simpa using this
      have c2 : ∀ n : BelW wr, ∀ c, (convert 35 9 (.slice (some ⟨w3.heap.size, s.size, none⟩) 4 c)).run Try.prog n.wld = .ok (.string (txt ((cturn u.data.toList F p 32).drop s.size))) n.wld := fun n c => by
        have := (HR.out.below n.bel HR.out.1).back (P := Try.prog) 35 9 5 s.size 4 c Try.underlying35 Try.underlying5 Try.underlying9 (by omega)
        rw [List.take_of_length_le (by simp; omega)] at this
        exact this
      have hck : ∀ x : World, Calls Try.prog 48 #[.string (txt ((cturn u.data.toList F p 32).take s.size)), .string (txt ((cturn u.data.toList F p 32).drop s.size))] x fun e w' => e = .returned (.bool (!cturned (8 * (s.size + 4)) F p 32)) ∧ Below x.heap.size x w' := fun x => by
        have h := check_any (txt ((cturn u.data.toList F p 32).take s.size)) (txt ((cturn u.data.toList F p 32).drop s.size)) x (by rw [txt_size]; simp; omega) (by rw [txt_size]; simp; omega)
        rw [txt_list, txt_list] at h
        have e : decide (cget ((cturn u.data.toList F p 32).drop s.size) = csum ((cturn u.data.toList F p 32).take s.size)) = !cturned (8 * (s.size + 4)) F p 32 := by
          rw [Bool.eq_iff_iff, decide_eq_true_iff, hbb]
          simp
        rw [e] at h
        exact h
      generalize txt ((cturn u.data.toList F p 32).take s.size) = V1 at c1 hck
      generalize txt ((cturn u.data.toList F p 32).drop s.size) = V2 at c2 hck
      generalize cturned (8 * (s.size + 4)) F p 32 = T at hck ⊢
      have HCK := Lib.hid hck
      clear hck hbb hl32
      go_wp2_with fail
      refine wp_region_below_lit (by kernel_rfl) (by kernel_rfl) ?_
      repeat (first | go_big_quiet_skip | (go_big_quiet_want; go_big_quiet_op; first | go_big_quiet_on | (apply Exists.intro; refine ⟨fun nq => ?_, ?_⟩; (go_at_call 48; exact below_of (HCK.out _)); go_big_quiet_on)))
      refine wpQuiet_nil ?_
      intro wq hnq
      obtain ⟨nq, rfl⟩ := hnq
      have hq := nq.bel
      generalize nq.wld = wq at hq ⊢
      clear nq
      go_wp2
      go_ret
      exact ⟨rfl, bb (bb HBW.out HW.out) hq⟩
end Go.Proofs.Ytlkdoahdcepncaa
