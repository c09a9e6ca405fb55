/-
  The walk of the statement FrameBack (layer 5's theorem). Conditions: texts as they come in.
-/
import Derived.Test.YtlkdoahdcepncaaFrameLaw
import Derived.Test.YtlkdoahdcepncaaPlainTurn
namespace Go.Proofs.Ytlkdoahdcepncaa
open Go.RowKit Go.PM
set_option maxRecDepth 100000
set_option maxHeartbeats 1000000

theorem fback_walk (p r : ByteArray) (cut a pat : Nat) (w : World) (hc : cut < 65536) (ha : a < 65536) (hpat : pat < 4294967296) (hp : p.size ≤ 9223372036854775807) (hr : r.size ≤ 9223372036854775807) :
    Calls Try.prog 10 #[.string p, .string r, .int .u16 (cut : Int), .int .u16 (a : Int), .int .u32 (pat : Int)] w fun e w' => e = .returned (.bool true) ∧ Below w.heap.size w w' := by
  by_cases hlen : 4000 < p.size
  · go_enter Try.func10, Try.ntmps10
    go_wp2_with (go_at_call 49; refine (awake05 _).mono ?_; rintro e w1 ⟨rfl, hb1⟩)
    go_ret
    exact ⟨rfl, hb1⟩
  by_cases hlen2 : 4000 < r.size
  · go_enter Try.func10, Try.ntmps10
    go_wp2_with (go_at_call 49; refine (awake05 _).mono ?_; rintro e w1 ⟨rfl, hb1⟩)
    go_ret
    exact ⟨rfl, hb1⟩
  have hvl := vsz_le10 (n := p.size) (by omega)
  have hus : (txt (ftext p.data.toList)).size = fsize p.size := by rw [txt_size, ftext_length, len_list]
  have HW1 : Hid (∀ x : World, Calls Try.prog 50 #[.string p] x fun e w' => e = .returned (.tuple #[.string (txt (ftext p.data.toList)), .int .i64 0]) ∧ Below x.heap.size x w') := fun x => wrap_any p x (by omega)
  have HP1 : Hid (∀ x : World, Calls Try.prog 51 #[.string (txt (ftext p.data.toList) ++ r)] x fun e w' => e = .returned (.tuple #[.string p, .int .i64 (fsize p.size : Int), .int .i64 0]) ∧ Below x.heap.size x w') := fun x => by
    have h := parse_any (txt (ftext p.data.toList) ++ r) x (by rw [ByteArray.size_append, hus]; unfold fsize; omega)
    rw [show (txt (ftext p.data.toList) ++ r).data.toList = ftext p.data.toList ++ r.data.toList by rw [ByteArray.data_append, Array.toList_append, txt_list], fparse_text _ _ (by rw [len_list]; omega), len_list] at h
    exact h
  have hcl : cut % (txt (ftext p.data.toList)).size < fsize p.size := by rw [hus]; exact Nat.mod_lt _ (by unfold fsize; omega)
  have HP2 : Hid (∀ x : World, Calls Try.prog 51 #[.string ((txt (ftext p.data.toList)).extract 0 (cut % (txt (ftext p.data.toList)).size))] x fun e w' => e = .returned (.tuple #[.string ByteArray.empty, .int .i64 0, .int .i64 1]) ∧ Below x.heap.size x w') := fun x => by
    have h := parse_any ((txt (ftext p.data.toList)).extract 0 (cut % (txt (ftext p.data.toList)).size)) x (by rw [ByteArray.size_extract, hus]; unfold fsize; omega)
    rw [ext_list, List.drop_zero, Nat.sub_zero, txt_list, fparse_cut _ (by rw [len_list]; omega) _ (by rw [len_list]; exact hcl)] at h
    exact h
  have HBU : Hid (∀ (b : ByteArray) (x : World), b.data.toList = cturn (ftext p.data.toList) (8 * (2 + vsz p.size) + a % (8 * (p.size + 4))) pat 32 → Calls Try.prog 51 #[.string (b ++ r)] x fun e w' =>
      ∃ q k, e = .returned (.tuple #[.string q, .int .i64 k, .int .i64 (if cturned (8 * fsize p.size) (8 * (2 + vsz p.size) + a % (8 * (p.size + 4))) pat 32 then 6 else 0)]) ∧ Below x.heap.size x w') := fun b x hb => by
    have hbl : b.size = fsize p.size := by rw [← len_list b, hb, cturn_length, ftext_length, len_list]
    have h := parse_any (b ++ r) x (by rw [ByteArray.size_append, hbl]; unfold fsize; omega)
    have hfb := fparse_burst p.data.toList r.data.toList (by rw [len_list]; omega) (a % (8 * (p.size + 4))) pat (by rw [len_list]; exact Nat.le_of_lt (Nat.mod_lt _ (by omega))) hpat
    rw [len_list] at hfb
    rw [show (b ++ r).data.toList = b.data.toList ++ r.data.toList by rw [ByteArray.data_append, Array.toList_append], hb, hfb] at h
    revert h
    generalize cturned (8 * fsize p.size) (8 * (2 + vsz p.size) + a % (8 * (p.size + 4))) pat 32 = T
    intro h
    refine h.mono ?_
    rintro e w' ⟨rfl, hb'⟩
    cases T
    · exact ⟨_, _, rfl, hb'⟩
    · exact ⟨_, _, rfl, hb'⟩
  have htl : (txt (ftext p.data.toList)).data.toList = ftext p.data.toList := rfl
  have hpu : p.size + 4 ≤ (txt (ftext p.data.toList)).size := by rw [hus]; unfold fsize; omega
  have hub : (txt (ftext p.data.toList)).size ≤ 5000 := by rw [hus]; unfold fsize; omega
  have hfr : 8 * (((txt (ftext p.data.toList)).size : Int) - (p.size : Int) - 4) = ((8 * (2 + vsz p.size) : Nat) : Int) := by rw [hus]; unfold fsize; omega
  have hat : (a : Int) % (8 * ((p.size : Int) + 4)) = ((a % (8 * (p.size + 4)) : Nat) : Int) := by simp
  have hal : a % (8 * (p.size + 4)) < 8 * (p.size + 4) := Nat.mod_lt _ (by omega)
  have hFl : 8 * (2 + vsz p.size) + a % (8 * (p.size + 4)) ≤ 40000 := by omega
  have hFu : 8 * (2 + vsz p.size) + 8 * (p.size + 4) = 8 * (txt (ftext p.data.toList)).size := by rw [hus]; unfold fsize; omega
  generalize txt (ftext p.data.toList) = u at hus HW1 HP1 HP2 htl hpu hub hfr hFu hcl
  rw [← htl] at HBU
  rw [← hus] at HBU HP1 hcl
  have hcm : (cut : Int) % (u.size : Int) = ((cut % u.size : Nat) : Int) := by simp
  generalize cut % u.size = J at HP2 hcl hcm
  generalize a % (8 * (p.size + 4)) = A0 at HBU hat hal hFl
  generalize 8 * (2 + vsz p.size) = F0 at HBU hfr hFl hFu
  have HUS := Lib.hid hus
  have hu0 : u.size ≠ 0 := by omega
  have hFF : (F0 : Int) + (A0 : Int) = ((F0 + A0 : Nat) : Int) := by omega
  have hfl : F0 + A0 < 8 * u.size := by omega
  generalize F0 + A0 = F at HBU hFl hFF hfl
  clear hus htl hvl
  go_enter Try.func10, Try.ntmps10
  go_wp2_with (go_at_call 49; refine (awake05 _).mono ?_; rintro e w1 ⟨rfl, hb1⟩)
  refine (HW1.out _).mono ?_
  rintro e w2 ⟨rfl, hb2⟩
  go_wp2_with fail
  refine (HP1.out _).mono ?_
  rintro e w3 ⟨rfl, hb3⟩
  go_wp2_with fail
  refine (HP2.out _).mono ?_
  rintro e w4 ⟨rfl, hb4⟩
  go_wp2_with fail
  have hb := bb (bb (bb hb1 hb2) hb3) hb4
  have HBW := Lib.hid hb
  clear hb hb1 hb2 hb3 hb4
  have hcv := run_bytes_of_string (P := Try.prog) w4 9 35 5 u Try.underlying9 Try.underlying35 Try.underlying5
  have hrow := RowAt.made w4 5 u (grownCap w4 u.size 0 5)
  have hge := grownCap_ge w4 u.size 0 5
  have hwb : Below w4.heap.size w4 (w4.drew.alloc (.cells (bytesRow u (grownCap w4 u.size 0 5)) 5 ((bytesRow u (grownCap w4 u.size 0 5)).size, (bytesRow u (grownCap w4 u.size 0 5)).size + 1))) := ba (bd b0) _
  generalize grownCap w4 u.size 0 5 = cap at hcv hrow hge hwb
  generalize w4.drew.alloc (.cells (bytesRow u cap) 5 ((bytesRow u cap).size, (bytesRow u cap).size + 1)) = W at hcv hrow hwb
  have HROW := Lib.hid hrow
  have HWB := Lib.hid hwb
  have hul : u.data.toList.length = u.size := len_list u
  clear hrow hwb
  rw [hcv]
  go_wp2
  go_loopw [22, 102] (fun tt kk wr => ∃ i : Nat, i ≤ 32 ∧ kk = .int .i64 (i : Int) ∧ tt = .bool (cturned (8 * u.size) F pat i) ∧ RowAt wr w4.heap.size (cturn u.data.toList F pat i) ∧ Below w4.heap.size w4 wr) (fun _ k _ => 32 - (intOf k).toNat)
  case atStart => exact ⟨0, by omega, rfl, rfl, HROW.out, HWB.out⟩
  case round =>
    obtain ⟨i, hi, rfl, rfl, hrow, hwb⟩ := hrel
    have HR := Lib.hid hrow
    have HW := Lib.hid hwb
    clear hrow hwb
    by_cases hi32 : i < 32
    · have hpd : (pat : Int) / 2 ^ i = ((pat / 2 ^ i : Nat) : Int) := by simp
      have hpl : pat / 2 ^ i < 4294967296 := Nat.lt_of_le_of_lt (Nat.div_le_self _ _) hpat
      have hand : bits .and .u32 ((pat : Int) / 2 ^ i) 1 = ((pat / 2 ^ i % 2 : Nat) : Int) := by rw [hpd, ← nat_mask1]; exact u32_and_nat _ 1 hpl (by omega)
      clear hpd hpl
      have hct : ∀ b, cturned (8 * u.size) F pat (i + 1) = b ↔ (if pat / 2 ^ i % 2 = 1 ∧ F + i < 8 * u.size then true else cturned (8 * u.size) F pat i) = b := fun _ => Iff.rfl
      have hcl : ∀ b, cturn u.data.toList F pat (i + 1) = b ↔ (if pat / 2 ^ i % 2 = 1 ∧ F + i < 8 * u.data.toList.length then cflip (cturn u.data.toList F pat i) (F + i) else cturn u.data.toList F pat i) = b := fun _ => Iff.rfl
      have HCT := Lib.hid hct
      have HCL := Lib.hid hcl
      clear hct hcl
      by_cases hbit : pat / 2 ^ i % 2 = 1
      · rw [hbit] at hand
        have HBIT := Lib.hid hbit
        clear hbit
        by_cases hk : F + i < 8 * u.size
        · have hcl : (cturn u.data.toList F pat i).length = u.size := by rw [cturn_length, hul]
          have hb := HR.out.at_ (j := (F + i) / 8) (by omega)
          have hq8 : ((F : Int) + (i : Int)) / 8 = (((F + i) / 8 : Nat) : Int) := by omega
          have hm8 : ((F : Int) + (i : Int)) % 8 = (((F + i) % 8 : Nat) : Int) := by omega
          have hk8 : (F + i) / 8 < u.size := by omega
          have hl8 : (F + i) % 8 < 8 := by omega
          obtain ⟨hb1, hb2⟩ := hb
          have hgl := HR.out.1
          have hfl : cflip (cturn u.data.toList F pat i) (F + i) = (cturn u.data.toList F pat i).set ((F + i) / 8) ((cturn u.data.toList F pat i).getD ((F + i) / 8) 0 ^^^ UInt8.ofNat (2 ^ ((F + i) % 8))) := rfl
          generalize (F + i) / 8 = K at hq8 hk8 hb1 hb2 hfl
          generalize (F + i) % 8 = M at hm8 hl8 hfl
          generalize (cturn u.data.toList F pat i).getD K 0 = B at hb1 hfl
          have HX := Lib.hid (bit_flip B M hl8)
          have HFL := Lib.hid hfl
          have HCL2 := Lib.hid hcl
          clear hfl hcl
          go_wp2
          go_region
          go_wp2
          go_round
          case rel =>
            refine ⟨i + 1, by omega, by go_num, ?_, ?_, bd (bs HW.out (by simp) _)⟩
            · rw [(HCT.out _).2 (if_pos ⟨HBIT.out, hk⟩)]
            · rw [(HCL.out _).2 (if_pos ⟨HBIT.out, by rw [hul]; exact hk⟩), HFL.out, HX.out]
              exact HR.out.set (by rw [HCL2.out]; exact hk8) _
          case measure => simp [intOf]; omega
        · go_wp2
          go_round
          case rel =>
            refine ⟨i + 1, by omega, by go_num, ?_, ?_, HW.out⟩
            · rw [(HCT.out _).2 (if_neg fun h => hk h.2)]
            · rw [(HCL.out _).2 (if_neg fun h => hk (by rw [hul] at h; exact h.2))]
              exact HR.out
          case measure => simp [intOf]; omega
      · rw [show pat / 2 ^ i % 2 = 0 by omega] at hand
        have HBIT := Lib.hid hbit
        clear hbit
        go_wp2
        go_round
        case rel =>
          refine ⟨i + 1, by omega, by go_num, ?_, ?_, HW.out⟩
          · rw [(HCT.out _).2 (if_neg fun h => HBIT.out h.1)]
          · rw [(HCL.out _).2 (if_neg fun h => HBIT.out h.1)]
            exact HR.out
        case measure => simp [intOf]; omega
    · obtain rfl : i = 32 := by omega
      have hl32 : (cturn u.data.toList F pat 32).length = u.size := by rw [cturn_length, hul]
      have hvs : (txt (cturn u.data.toList F pat 32)).size = u.size := by rw [txt_size, hl32]
      have c1 : (convert 35 9 (.slice (some ⟨w4.heap.size, 0, none⟩) u.size cap)).run Try.prog wr = .ok (.string (txt (cturn u.data.toList F pat 32))) wr := by
        have := HR.out.back (P := Try.prog) 35 9 5 0 u.size cap Try.underlying35 Try.underlying5 Try.underlying9 (by omega)
        rw [List.drop_zero, List.take_of_length_le (by omega)] at this
        exact this
      have HCK : Hid (∀ x : World, Calls Try.prog 51 #[.string (txt (cturn u.data.toList F pat 32) ++ r)] x fun e w' =>
        ∃ q k, e = .returned (.tuple #[.string q, .int .i64 k, .int .i64 (if cturned (8 * u.size) F pat 32 then 6 else 0)]) ∧ Below x.heap.size x w') := fun x => HBU.out _ x rfl
      generalize txt (cturn u.data.toList F pat 32) = V1 at c1 HCK hvs
      generalize cturned (8 * u.size) F pat 32 = T at HCK ⊢
      clear hl32
      go_wp2_with fail
      refine (HCK.out _).mono ?_
      rintro e w5 ⟨q, k, rfl, hb5⟩
      cases T
      · simp only [Bool.false_eq_true, if_false]
        go_wp2
        go_ret
        exact ⟨rfl, bb (bb HBW.out HW.out) hb5⟩
      · simp only [if_true]
        go_wp2
        go_ret
        exact ⟨rfl, bb (bb HBW.out HW.out) hb5⟩
end Go.Proofs.Ytlkdoahdcepncaa
