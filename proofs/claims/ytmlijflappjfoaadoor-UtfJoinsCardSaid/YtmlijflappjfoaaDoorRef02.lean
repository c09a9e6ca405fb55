/-
  Contracts of the document's answer for layer 2. Conditions: numbers within uint64, texts of at most a million bytes where lists are made.
-/
import Derived.Test.YtmlijflappjfoaaDoorVarint2
namespace Go.Proofs.YtmlijflappjfoaaDoor
open Go.RowKit Go.PM
set_option maxRecDepth 100000
set_option maxHeartbeats 4000000

theorem rput_any (n : Nat) (w : World) (hn : In64 n) :
    Calls Tryd.prog 73 #[.int .u64 (n : Int)] w fun e w' => e = .returned (.string (txt (vput n))) ∧ Below w.heap.size w w' := by
  have HN := Lib.hid hn
  have h10 := vsz_le10 hn
  clear hn
  go_enter Tryd.func73, Tryd.ntmps73
  go_wp2
  go_loopw [0, 3] (fun nn sl wr => ∃ (m : Nat) (t : ByteArray), nn = .int .u64 (m : Int) ∧ sl = .string t ∧ t.data.toList ++ vput m = vput n ∧ In64 m ∧ Below w.heap.size w wr) (fun nn _ _ => (intOf nn).toNat)
  case atStart => exact ⟨n, ⟨#[]⟩, rfl, rfl, by simp, HN.out, b0⟩
  case round =>
    obtain ⟨m, t, rfl, rfl, ht, hm, hbel⟩ := hrel
    have HT := Lib.hid ht
    have HM := Lib.hid hm
    have HB := Lib.hid hbel
    clear ht hm hbel
    by_cases h : m < 128
    · have hcv := run_row_string (P := Tryd.prog) (wr.alloc (.cells #[.int .u8 (m : Int)] 5)) 79 9 5 wr.heap.size 1 1 _ [UInt8.ofNat m] Tryd.underlying79 Tryd.underlying5 Tryd.underlying9 (BlkAt.made _ _ _) rfl (by simp [bvals]; omega)
      have hl : t.size ≤ 10 := by
        have := congrArg List.length HT.out
        rw [List.length_append, vput_length, vput_length, len_list] at this
        omega
      go_wp2
      go_ret
      refine ⟨?_, ba HB.out _⟩
      rw [← HT.out, vput_small h]
      rfl
    · have hcv := run_row_string (P := Tryd.prog) (wr.alloc (.cells #[.int .u8 ((m : Int) % 128 + 128)] 5)) 79 9 5 wr.heap.size 1 1 _ [UInt8.ofNat (m % 128 + 128)] Tryd.underlying79 Tryd.underlying5 Tryd.underlying9 (BlkAt.made _ _ _) rfl (by simp [bvals]; omega)
      have hl : t.size ≤ 10 := by
        have := congrArg List.length HT.out
        rw [List.length_append, vput_length, vput_length, len_list] at this
        omega
      have hwr : IntKind.u64.wrap ((m : Int) / 128) = (m : Int) / 128 := by
        rw [IntKind.wrap_u64]; have := HM.out.out; omega
      go_wp2
      go_roundw
      case rel =>
        refine ⟨m / 128, _, by go_num, rfl, ?_, Nat.lt_of_le_of_lt (Nat.div_le_self _ _) HM.out, ba HB.out _⟩
        rw [← HT.out, vput_big (n := m) (by omega), ByteArray.data_append, Array.toList_append]
        simp
      case measure => simp [intOf]; omega

/-- What the first loop knows. -/
def Sz (s : ByteArray) (i z : Nat) : Prop := (z = 0 ∧ rsz s.data.toList = rszL i (s.data.toList.drop i)) ∨ (0 < z ∧ rsz s.data.toList = z)
theorem Sz.more {s : ByteArray} {i : Nat} (h : Sz s i 0) (hi : i < s.size) (h10 : i < 10) (hc : 128 ≤ s[i].toNat) : Sz s (i + 1) 0 := by
  rcases h with ⟨_, h⟩ | ⟨h, _⟩
  · rw [drop_at s i hi, rszL, if_neg (by omega), if_neg (by omega)] at h
    exact .inl ⟨rfl, h⟩
  · omega
theorem Sz.last {s : ByteArray} {i : Nat} (h : Sz s i 0) (hi : i < s.size) (h10 : i < 10) (hc : s[i].toNat < 128) : Sz s (i + 1) (i + 1) := by
  rcases h with ⟨_, h⟩ | ⟨h, _⟩
  · rw [drop_at s i hi, rszL, if_neg (by omega), if_pos hc] at h
    exact .inr ⟨by omega, h⟩
  · omega
theorem Sz.end_ {s : ByteArray} {i z : Nat} (h : Sz s i z) (he : s.size ≤ i ∨ 10 ≤ i ∨ z ≠ 0) : rsz s.data.toList = z := by
  rcases h with ⟨rfl, h⟩ | ⟨_, h⟩
  · rw [h]
    rcases he with he | he | he
    · rw [drop_end s i he]; rfl
    · cases s.data.toList.drop i <;> simp [rszL, he]
    · omega
  · exact h

theorem getD_at (s : ByteArray) (i : Nat) (hi : i < s.size) : s.data.toList.getD i 0 = s[i] := by
  simp [List.getD, hi]
  rfl
/-- What the second loop knows. -/
theorem vacc_lt (l : List UInt8) : ∀ i, vacc l i < 128 ^ i
  | 0 => by simp [vacc]
  | i + 1 => by
    have := vacc_lt l i
    have h : (l.getD i 0).toNat % 128 * 128 ^ i ≤ 127 * 128 ^ i := Nat.mul_le_mul_right _ (by omega)
    rw [vacc, Nat.pow_succ]; omega

def Vc (l : List UInt8) (j acc u : Nat) : Prop := acc = vacc l j ∧ (j < 10 → u = 128 ^ j) ∧ In64 acc
theorem wrap_nat (x : Nat) : IntKind.u64.wrap (x : Int) = ((x % 18446744073709551616 : Nat) : Int) := by rw [IntKind.wrap_u64]; omega
theorem Vc.step {l : List UInt8} {j acc u c : Nat} (h : Vc l j acc u) (hj : j < 10) (hc : (l.getD j 0).toNat = c) (h9 : j = 9 → c ≤ 1) :
    ∃ P X U : Nat, IntKind.u64.wrap ((c : Int) % 128 * (u : Int)) = (P : Int) ∧ IntKind.u64.wrap ((acc : Int) + (P : Int)) = (X : Int) ∧ IntKind.u64.wrap ((u : Int) * 128) = (U : Int) ∧ Vc l (j + 1) X U := by
  obtain ⟨rfl, hu, h64⟩ := h
  have hu := hu hj
  subst hu
  have hlt := vacc_lt l j
  have e1 : ((c : Int) % 128 * ((128 ^ j : Nat) : Int)) = ((c % 128 * 128 ^ j : Nat) : Int) := by push_cast; rfl
  have hb : vacc l j + c % 128 * 128 ^ j < 18446744073709551616 := by
    by_cases e : j = 9
    · subst e
      have := h9 rfl
      have : c % 128 * 128 ^ 9 ≤ 1 * 128 ^ 9 := Nat.mul_le_mul_right _ (by omega)
      have h2 : 128 ^ 9 + 1 * 128 ^ 9 ≤ 18446744073709551616 := by decide
      omega
    · have h3 : 128 ^ (j + 1) ≤ 128 ^ 9 := pow_lt (by omega)
      have : c % 128 * 128 ^ j ≤ 127 * 128 ^ j := Nat.mul_le_mul_right _ (by omega)
      rw [Nat.pow_succ] at h3
      have h2 : 128 ^ 9 < 18446744073709551616 := by decide
      omega
  refine ⟨c % 128 * 128 ^ j, vacc l j + c % 128 * 128 ^ j, 128 ^ j * 128 % 18446744073709551616, ?_, ?_, ?_, ?_, ?_, ?_⟩
  · rw [e1, wrap_nat, Nat.mod_eq_of_lt (by omega)]
  · rw [← Int.natCast_add, wrap_nat, Nat.mod_eq_of_lt hb]
  · have : (((128 ^ j : Nat) : Int) * 128) = ((128 ^ j * 128 : Nat) : Int) := by push_cast; rfl
    rw [this, wrap_nat]
  · rw [vacc, hc]
  · intro h
    have h3 : 128 ^ (j + 1) ≤ 128 ^ 9 := pow_lt (by omega)
    have h2 : 128 ^ 9 < 18446744073709551616 := by decide
    rw [Nat.pow_succ] at h3 ⊢
    exact Nat.mod_eq_of_lt (by omega)
  · exact hb

theorem rget_any (s : ByteArray) (w : World) (hs : s.size ≤ 9223372036854775807) :
    Calls Tryd.prog 79 #[.string s] w fun e w' => e = .returned (.tuple #[.int .u64 ((vget s.data.toList).1 : Int), .int .i64 ((vget s.data.toList).2.1 : Int), .int .i64 ((vget s.data.toList).2.2 : Int)]) ∧ Below w.heap.size w w' := by
  rw [← vref_eq]
  generalize hV : vref s.data.toList = V
  have HV := Lib.hid hV
  clear hV
  go_enter Tryd.func79, Tryd.ntmps79
  go_wp2
  go_loop [5, 6] (fun zz k => ∃ i z : Nat, zz = .int .i64 (z : Int) ∧ k = .int .i64 (i : Int) ∧ i ≤ 10 ∧ z ≤ 10 ∧ i ≤ s.size ∧ z ≤ s.size ∧ Sz s i z) (fun _ k => 10 - (intOf k).toNat)
  case atStart => exact ⟨0, 0, rfl, rfl, by omega, by omega, by omega, by omega, .inl ⟨rfl, rfl⟩⟩
  case round =>
    obtain ⟨i, z, rfl, rfl, hi, hz, his, hzs, hsz⟩ := hrel
    have HSZ := Lib.hid hsz
    clear hsz
    by_cases hgo : i < s.size ∧ i < 10 ∧ z = 0
    · obtain ⟨g1, g2, rfl⟩ := hgo
      by_cases hc : s[i].toNat < 128
      · go_wp2
        go_round
        case rel => exact ⟨i + 1, i + 1, by go_num, by go_num, by omega, by omega, by omega, by omega, HSZ.out.last g1 g2 hc⟩
        case measure => simp [intOf]; omega
      · go_wp2
        go_round
        case rel => exact ⟨i + 1, 0, rfl, by go_num, by omega, by omega, by omega, by omega, HSZ.out.more g1 g2 (by omega)⟩
        case measure => simp [intOf]; omega
    · have hrz := HSZ.out.end_ (by omega)
      have hv := HV.out
      unfold vref at hv
      rw [hrz, len_list] at hv
      rcases (show (s.size ≤ i) ∨ (i < s.size ∧ 10 ≤ i) ∨ (i < s.size ∧ i < 10 ∧ z ≠ 0) by omega) with g1 | ⟨g1, g2⟩ | ⟨g1, g2, g3⟩
      all_goals
        clear hgo hrz
        by_cases z0 : z = 0
        · first
            | (exfalso; omega)
            | (subst z0
               rw [if_pos rfl] at hv
               by_cases h10 : 10 ≤ s.size
               · rw [if_pos h10] at hv
                 have HS := Lib.hid hv
                 clear hv
                 go_wp2
                 go_ret3
                 rw [← HS.out]
                 exact ⟨rfl, b0⟩
               · rw [if_neg h10] at hv
                 have HS := Lib.hid hv
                 clear hv
                 first
                   | (exfalso; omega)
                   | (go_wp2
                      go_ret3
                      rw [← HS.out]
                      exact ⟨rfl, b0⟩))
        · have tz : ((z : Int) == 0) = false := by rw [beq_eq_false_iff_ne]; omega
          rw [if_neg z0] at hv
          have zp : 0 < z := by omega
          clear z0
          have hzz : z - 1 < s.size := by omega
          have hgz := getD_at s (z - 1) hzz
          rw [hgz] at hv
          by_cases h9 : z = 10
          · have hs9 : 9 < s.size := by omega
            have hg9 := getD_at s 9 hs9
            rw [hg9] at hv
            have e9 : s[z - 1]'hzz = s[9]'hs9 := by subst h9; rfl
            rw [e9] at hv hgz
            by_cases h1 : 1 < (s[9]'hs9).toNat
            · rw [if_pos ⟨h9, h1⟩] at hv
              have HS := Lib.hid hv
              subst h9
              clear hv hgz hg9 e9
              go_wp2
              go_ret3
              rw [← HS.out]
              exact ⟨rfl, b0⟩
            · rw [if_neg (by omega)] at hv
              have t9 : ((z : Int) == 10) = true := by rw [beq_iff_eq]; omega
              have t1 : ¬ (1 : Int) < ((s[9]'hs9).toNat : Int) := by omega
              have h3 : 1 < z := by omega
              have H9 : Hid (∀ j (_ : j < s.size), j < z → j = 9 → s[j].toNat ≤ 1) := fun j _ _ e => by subst e; omega
              by_cases h0 : (s[9]'hs9).toNat = 0
              · rw [if_pos ⟨h3, h0⟩] at hv
                have HS := Lib.hid hv
                have t0 : (((s[z - 1]'hzz).toNat : Int) == 0) = true := by rw [e9, beq_iff_eq]; omega
                clear hv hgz hg9 e9 h0 h9
                go_wp2
                go_ret3
                rw [← HS.out]
                exact ⟨rfl, b0⟩
              · rw [if_neg (by omega)] at hv
                have HS := Lib.hid hv
                have t0 : (((s[z - 1]'hzz).toNat : Int) == 0) = false := by rw [e9, beq_eq_false_iff_ne]; omega
                clear hv hgz hg9 e9 h0 h1 h9
                go_wp2
                go_loop [7, 8, 9] (fun nn uu k => ∃ j acc u : Nat, j ≤ z ∧ k = .int .i64 (j : Int) ∧ nn = .int .u64 (acc : Int) ∧ uu = .int .u64 (u : Int) ∧ Vc s.data.toList j acc u) (fun _ _ k => z - (intOf k).toNat)
                case atStart => exact ⟨0, 0, 1, by omega, rfl, rfl, rfl, rfl, fun _ => rfl, by unfold In64; omega⟩
                case round =>
                  obtain ⟨j, acc, u, hj, rfl, rfl, rfl, hvc⟩ := hrel
                  by_cases hjz : j < z
                  · obtain ⟨P, X, U, hP, hX, hU, hvn⟩ := hvc.step (by omega) (c := s[j].toNat) (by rw [getD_at s j (by omega)]) (H9.out j (by omega) hjz)
                    have HVN := Lib.hid hvn
                    clear hvc hvn
                    go_wp2
                    go_round
                    case rel => exact ⟨j + 1, X, U, by omega, by go_num, rfl, rfl, HVN.out⟩
                    case measure => simp [intOf]; omega
                  · have hjz' : j = z := by omega
                    have hva := hvc.1
                    rw [hjz'] at hva
                    have HVA := Lib.hid hva
                    clear hvc hva hjz'
                    go_wp2
                    go_ret3
                    rw [← HS.out, ← HVA.out]
                    exact ⟨rfl, b0⟩
          · rw [if_neg (by omega)] at hv
            have t9 : ((z : Int) == 10) = false := by rw [beq_eq_false_iff_ne]; omega
            have H9 : Hid (∀ j (_ : j < s.size), j < z → j = 9 → s[j].toNat ≤ 1) := fun j _ _ e => by omega
            clear h9
            by_cases h2 : 1 < z ∧ (s[z - 1]'hzz).toNat = 0
            · rw [if_pos h2] at hv
              have HS := Lib.hid hv
              obtain ⟨h2a, h2b⟩ := h2
              have t0 : (((s[z - 1]'hzz).toNat : Int) == 0) = true := by rw [beq_iff_eq]; omega
              have H2 := Lib.hid h2b
              clear hv hgz h2b
              go_wp2
              go_ret3
              rw [← HS.out]
              exact ⟨rfl, b0⟩
            · rw [if_neg h2] at hv
              by_cases h3 : 1 < z
              · have t0 : (((s[z - 1]'hzz).toNat : Int) == 0) = false := by rw [beq_eq_false_iff_ne]; omega
                have HS := Lib.hid hv
                clear hv hgz h2
                go_wp2
                go_loop [7, 8, 9] (fun nn uu k => ∃ j acc u : Nat, j ≤ z ∧ k = .int .i64 (j : Int) ∧ nn = .int .u64 (acc : Int) ∧ uu = .int .u64 (u : Int) ∧ Vc s.data.toList j acc u) (fun _ _ k => z - (intOf k).toNat)
                case atStart => exact ⟨0, 0, 1, by omega, rfl, rfl, rfl, rfl, fun _ => rfl, by unfold In64; omega⟩
                case round =>
                  obtain ⟨j, acc, u, hj, rfl, rfl, rfl, hvc⟩ := hrel
                  by_cases hjz : j < z
                  · obtain ⟨P, X, U, hP, hX, hU, hvn⟩ := hvc.step (by omega) (c := s[j].toNat) (by rw [getD_at s j (by omega)]) (H9.out j (by omega) hjz)
                    have HVN := Lib.hid hvn
                    clear hvc hvn
                    go_wp2
                    go_round
                    case rel => exact ⟨j + 1, X, U, by omega, by go_num, rfl, rfl, HVN.out⟩
                    case measure => simp [intOf]; omega
                  · have hjz' : j = z := by omega
                    have hva := hvc.1
                    rw [hjz'] at hva
                    have HVA := Lib.hid hva
                    clear hvc hva hjz'
                    go_wp2
                    go_ret3
                    rw [← HS.out, ← HVA.out]
                    exact ⟨rfl, b0⟩
              · have HS := Lib.hid hv
                clear hv hgz h2
                go_wp2
                go_loop [7, 8, 9] (fun nn uu k => ∃ j acc u : Nat, j ≤ z ∧ k = .int .i64 (j : Int) ∧ nn = .int .u64 (acc : Int) ∧ uu = .int .u64 (u : Int) ∧ Vc s.data.toList j acc u) (fun _ _ k => z - (intOf k).toNat)
                case atStart => exact ⟨0, 0, 1, by omega, rfl, rfl, rfl, rfl, fun _ => rfl, by unfold In64; omega⟩
                case round =>
                  obtain ⟨j, acc, u, hj, rfl, rfl, rfl, hvc⟩ := hrel
                  by_cases hjz : j < z
                  · obtain ⟨P, X, U, hP, hX, hU, hvn⟩ := hvc.step (by omega) (c := s[j].toNat) (by rw [getD_at s j (by omega)]) (H9.out j (by omega) hjz)
                    have HVN := Lib.hid hvn
                    clear hvc hvn
                    go_wp2
                    go_round
                    case rel => exact ⟨j + 1, X, U, by omega, by go_num, rfl, rfl, HVN.out⟩
                    case measure => simp [intOf]; omega
                  · have hjz' : j = z := by omega
                    have hva := hvc.1
                    rw [hjz'] at hva
                    have HVA := Lib.hid hva
                    clear hvc hva hjz'
                    go_wp2
                    go_ret3
                    rw [← HS.out, ← HVA.out]
                    exact ⟨rfl, b0⟩
end Go.Proofs.YtmlijflappjfoaaDoor
