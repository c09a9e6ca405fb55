/-
  Texts of the proof, joined: Varint Cursor Varint2 Ref02 Ref02b Crc Crc2 Crc3. Conditions: as each names.
-/
import Derived.Test.YtgidfnhfgiehjaaGreatDoorProg
import Derived.Test.YtgidfnhfgiehjaaGreatDoorXTopOneab
import Derived.Test.YtgidfnhfgiehjaaGreatDoorXTopOneaa
import Derived.WalkSpells
import Derived.WalkLawsBesides
import Derived.Deep.QuietTactic
import Derived.BigQuiet
import Derived.Lib.Hide
import Derived.Deep.OwnRows
import Derived.KernelRfl
import Derived.Test.YtgidfnhfgiehjaaGreatDoorXTopOneac
import Derived.Laws.BitsAllLaws
import Derived.Deep.WholeRow

section
namespace Go.Proofs.YtgidfnhfgiehjaaGreatDoor
open Go.RowKit Go.PM
set_option maxRecDepth 100000
theorem info_u8 : (Tryz.prog.info? 5).map (fun i => (i.zero, i.size, i.bytes)) = some (some (.int .u8 0), 1, 1) := by kernel_rfl
theorem size_any (n : Nat) (w : World) (hn : In64 n) :
    Calls Tryz.prog 78 #[.int .u64 (n : Int)] w fun e w' => e = .returned (.int .i64 (vsz n : Int)) ∧ w = w' := by
  go_enter Tryz.func78, Tryz.ntmps78
  have h10 := vsz_le10 hn.out
  have HN := Lib.hid hn
  clear hn
  go_wp2
  go_loop [0, 3] (fun v c => ∃ m k : Nat, v = .int .u64 (m : Int) ∧ c = .int .i64 (k : Int) ∧ k + vsz m = vsz n + 1 ∧ In64 m) (fun v _ => (intOf v).toNat)
  case atStart => exact ⟨n, 1, rfl, rfl, by omega, HN.out⟩
  case round =>
    obtain ⟨m, k, rfl, rfl, hk, hm⟩ := hrel
    have HK := Lib.hid hk
    have HM := Lib.hid hm
    clear hm
    have hp := vsz_pos m
    have hk11 : k ≤ 10 := by omega
    clear hk hp
    by_cases h : m < 128
    · go_wp2
      go_ret
      have e := vsz_small h
      have := HK.out
      exact ⟨congrArg (fun x : Int => Ending.returned (.int .i64 x)) (by omega), rfl⟩
    · go_wp2
      go_round
      case rel =>
        have hb := vsz_big (n := m) (by omega)
        have := HK.out
        exact ⟨m / 128, k + 1, by go_num, by go_num, by omega, Nat.lt_of_le_of_lt (Nat.div_le_self _ _) HM.out⟩
      case measure => simp [intOf]; omega
def Lay (n L i m : Nat) (C : Array Value) : Prop := m = n / 128 ^ i ∧ C.toList = bvals (vraw i n) ++ List.replicate (L - i) (.int .u8 0)
theorem Lay.start (n L : Nat) : Lay n L 0 n (madeCells #[.int .u8 0] L) := ⟨by simp, by rw [toList_madeCells_one]; simp [vraw, bvals]⟩
theorem Lay.at_ {n L i m : Nat} {C : Array Value} (h : Lay n L i m C) (hi : i < L) : C[i]? = some (.int .u8 0) := by
  have : C[i]? = C.toList[i]? := by simp
  rw [this, h.2, List.getElem?_append_right (by rw [bvals_length, vraw_length]; omega), bvals_length, vraw_length, Nat.sub_self, List.getElem?_replicate]
  simp; omega
theorem Lay.step {n L i m : Nat} {C : Array Value} (h : Lay n L i m C) (hi : i < L) : Lay n L (i + 1) (m / 128) (C.setIfInBounds i (.int .u8 ((m : Int) % 128 + 128))) := by
  obtain ⟨rfl, hC⟩ := h
  refine ⟨by rw [Nat.div_div_eq_div_mul, Nat.pow_succ], ?_⟩
  rw [Array.toList_setIfInBounds, hC, vraw_snoc]
  have e : L - i = (L - (i + 1)) + 1 := by omega
  rw [e, List.replicate_succ, List.set_append_right _ _ (by rw [bvals_length, vraw_length]; omega), bvals_length, vraw_length, Nat.sub_self]
  simp only [List.set_cons_zero, bvals, List.map_append, List.map_cons, List.map_nil, List.append_assoc, List.cons_append, List.nil_append]
  congr 3
  rw [toNat_lo (by omega)]
  omega
theorem Lay.done {n i m : Nat} {C : Array Value} (h : Lay n (vsz n) i m C) (hi : i = vsz n) :
    C[vsz n - 1]? = some (.int .u8 ((n / 128 ^ (vsz n - 1) : Nat) + 128 : Int)) ∧ (C.setIfInBounds (vsz n - 1) (.int .u8 (n / 128 ^ (vsz n - 1) : Nat))).toList = bvals (vput n) := by
  subst hi
  obtain ⟨_, hC⟩ := h
  have hp := vsz_pos n
  have ht := vtop_lt n
  rw [Nat.sub_self, List.replicate_zero, List.append_nil] at hC
  have e : vsz n = (vsz n - 1) + 1 := by omega
  rw [e, vraw_snoc] at hC
  rw [Nat.mod_eq_of_lt ht] at hC
  constructor
  · have : C[vsz n - 1]? = C.toList[vsz n - 1]? := by simp
    rw [this, hC, bvals_at _ _ (by simp [vraw_length])]
    rw [List.getElem_append_right (by rw [vraw_length]; omega)]
    simp only [vraw_length, Nat.sub_self, List.getElem_cons_zero]
    rw [toNat_lo (by omega)]
    rfl
  · rw [Array.toList_setIfInBounds, hC, vput_raw]
    unfold bvals
    rw [List.map_append, List.map_append, List.set_append_right _ _ (by simp [vraw_length])]
    simp only [List.length_map, vraw_length, Nat.sub_self, List.map_cons, List.map_nil, List.set_cons_zero]
    rw [toNat_lo (by omega)]
theorem and127 (m : Nat) (h : In64 m) : bits .and .u64 (m : Int) 127 = (m : Int) % 128 := by
  have := bits_and_u64_nat m 127 h.out (by omega)
  rw [show (127 : Nat) = 2 ^ 7 - 1 from rfl, Nat.and_two_pow_sub_one_eq_mod] at this
  simpa using this
theorem or128 (m : Nat) : bits .or .u8 ((m : Int) % 128) 128 = (m : Int) % 128 + 128 := by
  have := u8_or_nat (m % 128) 128 (by omega) (by omega)
  have e : m % 128 ||| 128 = m % 128 + 128 := by
    have := Nat.two_pow_add_eq_or_of_lt (i := 7) (b := m % 128) (by omega) 1
    rw [Nat.or_comm]
    have e7 : (2 : Nat) ^ 7 * 1 = 128 := rfl
    rw [e7] at this
    omega
  rw [e] at this
  simpa using this
theorem and127b (m : Nat) (h : m < 128) : bits .and .u8 ((m : Int) + 128) 127 = (m : Int) := by
  have := u8_and_nat (m + 128) 127 (by omega) (by omega)
  rw [show (127 : Nat) = 2 ^ 7 - 1 from rfl, Nat.and_two_pow_sub_one_eq_mod, show (m + 128) % 2 ^ 7 = m by omega] at this
  simpa using this
theorem put_any (n : Nat) (w : World) (hn : In64 n) :
    Calls Tryz.prog 35 #[.int .u64 (n : Int)] w fun e w' => e = .returned (.string ⟨(vput n).toArray⟩) ∧ Below w.heap.size w w' := by
  have h10 := vsz_le10 hn
  have hp := vsz_pos n
  have hmk := run_make_row' (P := Tryz.prog) 42 5 (.int .u8 0) 1 Tryz.underlying42 info_u8 rfl .i64 .i64 (vsz n) (by omega) (by omega)
  go_enter Tryz.func35, Tryz.ntmps35
  go_wp2_with (go_at_call 78; refine (size_any n _ hn).mono ?_; rintro e w' ⟨rfl, rfl⟩)
  clear hmk
  have HN := Lib.hid hn
  clear hn
  go_loopw [0, 10] (fun nn k wr => ∃ (i m : Nat) (C : Array Value), i ≤ vsz n ∧ k = .int .i64 (i : Int) ∧ nn = .int .u64 (m : Int) ∧ wr = w.alloc (.cells C 5) ∧ Lay n (vsz n) i m C ∧ In64 m) (fun _ k _ => vsz n - (intOf k).toNat)
  case atStart => exact ⟨0, n, _, Nat.zero_le _, rfl, rfl, rfl, Lay.start _ _, HN.out⟩
  case round =>
    obtain ⟨i, m, C, hi, rfl, rfl, rfl, hl, hm⟩ := hrel
    have HL := Lib.hid hl
    have HM := Lib.hid hm
    have e1 := and127 m hm
    have e2 := or128 m
    clear hm hl
    by_cases hlt : i < vsz n
    · have hc := HL.out.at_ hlt
      go_wp2
      go_roundw
      case rel => exact ⟨i + 1, m / 128, _, by omega, by go_num, by go_num, rfl, HL.out.step hlt, Nat.lt_of_le_of_lt (Nat.div_le_self _ _) HM.out⟩
      case measure => simp [intOf]; omega
    · have hi' : i = vsz n := by omega
      obtain ⟨d1, d2⟩ := HL.out.done hi'
      have ht := vtop_lt n
      generalize hq : n / 128 ^ (vsz n - 1) = q at d1 d2 ht
      have e3 := and127b q ht
      have D2 := Lib.hid d2
      have hcv := run_row_string (P := Tryz.prog) (w.alloc (.cells (C.setIfInBounds (vsz n - 1) (.int .u8 (q : Int))) 5)) 42 9 5 w.heap.size (vsz n) (vsz n) _ (vput n) Tryz.underlying42 Tryz.underlying5 Tryz.underlying9 (BlkAt.made _ _ _) (vput_length n).symm (by rw [D2.out, ← bvals_length, List.take_length])
      clear hi' d2 hq
      go_wp2
      go_ret
      exact ⟨rfl, ba b0 _⟩
def Gt (l : List UInt8) (i acc : Nat) : Prop := In64 acc ∧ (i < 10 → acc < 128 ^ i ∧ vget l = vgetL i acc (l.drop i)) ∧ (i = 10 → vget l = (0, 0, 3))
theorem mask127 (c : UInt8) : bits .and .u8 (c.toNat : Int) 127 = (c.toNat : Int) % 128 := by
  have := u8_and_nat c.toNat 127 c.toNat_lt (by omega)
  rw [show (127 : Nat) = 2 ^ 7 - 1 from rfl, Nat.and_two_pow_sub_one_eq_mod] at this
  simpa using this
theorem drop_at (s : ByteArray) (i : Nat) (hi : i < s.size) : s.data.toList.drop i = s[i] :: s.data.toList.drop (i + 1) := by
  rw [List.drop_eq_getElem_cons (by simpa using hi)]
  rfl
theorem drop_end (s : ByteArray) (i : Nat) (hi : s.size ≤ i) : s.data.toList.drop i = [] := by
  apply List.drop_eq_nil_of_le
  simpa using hi
theorem pow128 (i : Nat) : 128 ^ i = 2 ^ (7 * i) := by rw [Nat.pow_mul]
theorem or_any (acc c i : Nat) (ha : In64 acc) : ∃ X : Nat, bits .or .u64 (acc : Int) (IntKind.u64.wrap ((c : Int) % 128 * 2 ^ (7 * i))) = (X : Int) ∧ In64 X ∧ (acc < 128 ^ i → i < 10 → (i = 9 → c % 128 ≤ 1) → X = acc + c % 128 * 128 ^ i) := by
  have e1 : ((c : Int) % 128 * 2 ^ (7 * i)) = ((c % 128 * 128 ^ i : Nat) : Int) := by rw [pow128]; push_cast; rfl
  have e2 : ∀ y : Nat, IntKind.u64.wrap (y : Int) = ((y % 18446744073709551616 : Nat) : Int) := fun y => by rw [IntKind.wrap_u64]; omega
  have hlt : c % 128 * 128 ^ i % 18446744073709551616 < 18446744073709551616 := Nat.mod_lt _ (by omega)
  refine ⟨acc ||| (c % 128 * 128 ^ i % 18446744073709551616), ?_, ?_, ?_⟩
  · rw [e1, e2]; exact bits_or_u64_nat _ _ ha.out hlt
  · exact Nat.or_lt_two_pow (n := 64) ha.out hlt
  · intro h1 h2 h9
    have hb : c % 128 * 128 ^ i < 18446744073709551616 := by
      by_cases e : i = 9
      · subst e
        have := h9 rfl
        have : c % 128 * 128 ^ 9 ≤ 1 * 128 ^ 9 := Nat.mul_le_mul_right _ this
        exact Nat.lt_of_le_of_lt this (by decide)
      · have h3 : 128 ^ i ≤ 128 ^ 8 := pow_lt (by omega)
        have : c % 128 * 128 ^ i ≤ 127 * 128 ^ 8 := Nat.mul_le_mul (by omega) h3
        exact Nat.lt_of_le_of_lt this (by decide)
    rw [Nat.mod_eq_of_lt hb, Nat.or_comm]
    rw [pow128] at h1 ⊢
    have := Nat.two_pow_add_eq_or_of_lt h1 (c % 128)
    rw [Nat.mul_comm (c % 128), ← this]
    omega
theorem Gt.next {l r : List UInt8} {i acc X : Nat} {c : UInt8} (h : Gt l i acc) (hi : i < 10) (hd : l.drop i = c :: r) (hr : l.drop (i + 1) = r) (hc : 128 ≤ c.toNat) (hX : In64 X)
    (hv : acc < 128 ^ i → i < 10 → (i = 9 → c.toNat % 128 ≤ 1) → X = acc + c.toNat % 128 * 128 ^ i) : Gt l (i + 1) X := by
  obtain ⟨h1, h2⟩ := h.2.1 hi
  rw [hd, vgetL, if_neg (by omega), if_pos hc] at h2
  refine ⟨hX, fun h3 => ?_, fun h3 => ?_⟩
  · have e := hv h1 hi (fun h => by omega)
    rw [hr, e]
    refine ⟨?_, h2⟩
    have : c.toNat % 128 * 128 ^ i ≤ 127 * 128 ^ i := Nat.mul_le_mul_right _ (by omega)
    rw [Nat.pow_succ]; omega
  · rw [h2]
    have : 10 ≤ i + 1 := by omega
    cases r <;> simp [vgetL, this]
theorem Gt.stop {l r : List UInt8} {i acc : Nat} {c : UInt8} (h : Gt l i acc) (hi : i < 10) (hd : l.drop i = c :: r) (hc : ¬ 128 ≤ c.toNat) :
    vget l = if i = 9 ∧ 1 < c.toNat then (0, 0, 3) else if 0 < i ∧ c.toNat = 0 then (0, 0, 2) else (acc + c.toNat * 128 ^ i, i + 1, 0) := by
  obtain ⟨h1, h2⟩ := h.2.1 hi
  rw [hd, vgetL, if_neg (by omega), if_neg hc] at h2
  exact h2
theorem get_any (s : ByteArray) (w : World) (hs : s.size ≤ 9223372036854775807) :
    Calls Tryz.prog 36 #[.string s] w fun e w' => e = .returned (.tuple #[.int .u64 ((vget s.data.toList).1 : Int), .int .i64 ((vget s.data.toList).2.1 : Int), .int .i64 ((vget s.data.toList).2.2 : Int)]) ∧ Below w.heap.size w w' := by
  generalize hV : vget s.data.toList = V
  have HV := Lib.hid hV
  clear hV
  go_enter Tryz.func36, Tryz.ntmps36
  go_wp2
  all_goals
    go_loop [5, 10] (fun nn k => ∃ i acc : Nat, i ≤ 10 ∧ i ≤ s.size ∧ k = .int .i64 (i : Int) ∧ nn = .int .u64 (acc : Int) ∧ Gt s.data.toList i acc) (fun _ k => 10 - (intOf k).toNat)
    case atStart => exact ⟨0, 0, by omega, by omega, rfl, rfl, by unfold In64; omega, fun _ => ⟨by decide, rfl⟩, fun h => by omega⟩
    case round =>
      obtain ⟨i, acc, hi, his, rfl, rfl, hg⟩ := hrel
      have HG := Lib.hid hg
      clear hg
      by_cases hlt : i < s.size ∧ i < 10
      · obtain ⟨hl1, hl2⟩ := hlt
        have em := mask127 s[i]
        obtain ⟨X, hX, hX64, hXv⟩ := or_any acc s[i].toNat i HG.out.1
        have HX := Lib.hid (And.intro hX64 hXv)
        have hd := drop_at s i hl1
        have HD := Lib.hid hd
        clear hX64 hXv hd
        by_cases h1 : 128 ≤ s[i].toNat
        · have hn := HG.out.next hl2 HD.out rfl h1 HX.out.1 HX.out.2
          have HNx := Lib.hid hn
          clear hn
          go_wp2
          go_round
          case rel => exact ⟨i + 1, X, by omega, by omega, by go_num, rfl, HNx.out⟩
          case measure => simp [intOf]; omega
        · have hst := HG.out.stop hl2 HD.out h1
          rw [HV.out] at hst
          by_cases h2 : i = 9 ∧ 1 < s[i].toNat
          · rw [if_pos h2] at hst
            obtain ⟨h2a, h2b⟩ := h2
            have HS := Lib.hid hst
            clear hst
            have t9 : ((i : Int) == 9) = true := by rw [beq_iff_eq]; omega
            have h2c : (1 : Int) < (s[i].toNat : Int) := by omega
            clear h2a
            go_wp2
            go_ret3
            rw [HS.out]
            exact ⟨rfl, Below.refl _ _⟩
          · rw [if_neg h2] at hst
            by_cases h3 : 0 < i ∧ s[i].toNat = 0
            · rw [if_pos h3] at hst
              obtain ⟨h3a, h3b⟩ := h3
              have HS := Lib.hid hst
              have t0 : ((s[i].toNat : Int) == 0) = true := by rw [beq_iff_eq]; omega
              have t1 : ¬ (1 : Int) < (s[i].toNat : Int) := by omega
              have p0 : (0 : Int) < (i : Int) := by omega
              have H3 := Lib.hid h3b
              clear hst h3b h2
              by_cases h9 : i = 9
              · have t9 : ((i : Int) == 9) = true := by rw [beq_iff_eq]; omega
                clear h9
                go_wp2
                go_ret3
                rw [HS.out]
                exact ⟨rfl, Below.refl _ _⟩
              · have t9 : ((i : Int) == 9) = false := by rw [beq_eq_false_iff_ne]; omega
                go_wp2
                go_ret3
                rw [HS.out]
                exact ⟨rfl, Below.refl _ _⟩
            · rw [if_neg h3] at hst
              have hX2 : X = acc + s[i].toNat * 128 ^ i := by
                have := HX.out.2 (HG.out.2.1 hl2).1 hl2 (fun h => by omega)
                rw [this, Nat.mod_eq_of_lt (by omega)]
              rw [← hX2] at hst
              have HS := Lib.hid hst
              have H2 := Lib.hid h2
              have H3 := Lib.hid h3
              clear hst hX2 h2 h3
              by_cases h9 : i = 9
              · have t9 : ((i : Int) == 9) = true := by rw [beq_iff_eq]; omega
                have t1 : ¬ (1 : Int) < (s[i].toNat : Int) := by have := H2.out; omega
                have t0 : ((s[i].toNat : Int) == 0) = false := by rw [beq_eq_false_iff_ne]; have := H3.out; omega
                have p0 : (0 : Int) < (i : Int) := by omega
                clear h9
                go_wp2
                go_ret3
                rw [HS.out]
                exact ⟨rfl, Below.refl _ _⟩
              · have t9 : ((i : Int) == 9) = false := by rw [beq_eq_false_iff_ne]; omega
                by_cases p0 : 0 < i
                · have t0 : ((s[i].toNat : Int) == 0) = false := by rw [beq_eq_false_iff_ne]; have := H3.out; omega
                  go_wp2
                  go_ret3
                  rw [HS.out]
                  exact ⟨rfl, Below.refl _ _⟩
                · go_wp2
                  go_ret3
                  rw [HS.out]
                  exact ⟨rfl, Below.refl _ _⟩
      · by_cases h10 : i = 10
        · have hst := HG.out.2.2 h10
          rw [HV.out] at hst
          have HS := Lib.hid hst
          clear hst
          subst h10
          go_wp2
          go_ret3
          rw [HS.out]
          exact ⟨rfl, Below.refl _ _⟩
        · have hst := (HG.out.2.1 (by omega)).2
          rw [HV.out, drop_end s i (by omega), vgetL, if_neg (by omega)] at hst
          have HS := Lib.hid hst
          clear hst
          first
            | (exfalso; omega)
            | (go_wp2
               go_ret3
               rw [HS.out]
               exact ⟨rfl, Below.refl _ _⟩)
end Go.Proofs.YtgidfnhfgiehjaaGreatDoor
end

section
namespace Go.Proofs.YtgidfnhfgiehjaaGreatDoor
open Go.RowKit Go.PM
def Cur (w : World) (b : Nat) (s : ByteArray) (k : Nat) : Prop := BlkAt w b 228 #[.string s, .int .i64 (k : Int)] ∧ k ≤ s.size ∧ s.size ≤ 9223372036854775807
theorem cur_over (s : ByteArray) (w : World) :
    Calls Tryz.prog 80 #[.string s] w fun e w' => e = .returned (.pointer (some ⟨w.heap.size, 0, none⟩)) ∧ w' = w.alloc (.cells #[.string s, .int .i64 0] 228) := by
  go_enter Tryz.func80, Tryz.ntmps80
  go_wp2
  go_ret
  exact ⟨rfl, rfl⟩
theorem cur_left (b : Nat) (s : ByteArray) (k : Nat) (w : World) (h : Cur w b s k) :
    Calls Tryz.prog 135 #[.pointer (some ⟨b, 0, none⟩)] w fun e w' => e = .returned (.int .i64 ((s.size : Int) - (k : Int))) ∧ Below w.heap.size w w' := by
  obtain ⟨hb, hk, hs⟩ := h
  have c0 : w.cell? ⟨b, 0, none⟩ = some (.string s) := hb.cell 0
  have c1 : w.cell? ⟨b, 1, none⟩ = some (.int .i64 (k : Int)) := hb.cell 1
  clear hb
  go_enter Tryz.func135, Tryz.ntmps135
  go_wp2
  go_quiet (fail)
  go_wp2
  go_ret
  exact ⟨rfl, below_drewN (Below.refl _ _) _⟩
theorem cur_rest (b : Nat) (s : ByteArray) (k : Nat) (w : World) (h : Cur w b s k) :
    Calls Tryz.prog 213 #[.pointer (some ⟨b, 0, none⟩)] w fun e w' => e = .returned (.string (s.extract k s.size)) ∧ Below w.heap.size w w' := by
  obtain ⟨hb, hk, hs⟩ := h
  have c0 : w.cell? ⟨b, 0, none⟩ = some (.string s) := hb.cell 0
  have c1 : w.cell? ⟨b, 1, none⟩ = some (.int .i64 (k : Int)) := hb.cell 1
  clear hb
  go_enter Tryz.func213, Tryz.ntmps213
  go_wp2
  go_quiet (fail)
  go_wp2
  go_ret
  exact ⟨rfl, below_drewN (Below.refl _ _) _⟩
theorem cur_take_no (b : Nat) (s : ByteArray) (k : Nat) (n : Int) (w : World) (h : Cur w b s k) (h0 : (s.size : Int) - k < n) (h1 : n < 18446744073709551616) :
    Calls Tryz.prog 214 #[.pointer (some ⟨b, 0, none⟩), .int .u64 n] w fun e w' => e = .returned (.tuple #[.string ByteArray.empty, .bool false]) ∧ Below w.heap.size w w' := by
  have H := Lib.hid h
  obtain ⟨hb, hk, hs⟩ := h
  clear hb
  go_enter Tryz.func214, Tryz.ntmps214
  go_wp2_with (go_at_call 135; refine (cur_left b s k _ H.out).mono ?_; rintro e w1 ⟨rfl, hb1⟩)
  go_ret2
  exact ⟨rfl, hb1⟩
theorem cur_take_yes (b : Nat) (s : ByteArray) (k : Nat) (n : Int) (w : World) (h : Cur w b s k) (h0 : 0 ≤ n) (h1 : n ≤ (s.size : Int) - k) :
    Calls Tryz.prog 214 #[.pointer (some ⟨b, 0, none⟩), .int .u64 n] w fun e w' =>
      e = .returned (.tuple #[.string (s.extract k (k + n.toNat)), .bool true]) ∧ Cur w' b s (k + n.toNat) ∧ w.grownBy w' (some b) := by
  have H := Lib.hid h
  obtain ⟨hb, hk, hs⟩ := h
  have HB := Lib.hid hb
  obtain ⟨m, rfl⟩ := Int.eq_ofNat_of_zero_le h0
  rw [Int.toNat_natCast]
  clear hb
  go_enter Tryz.func214, Tryz.ntmps214
  go_wp2_with (go_at_call 135; refine (cur_left b s k _ H.out).mono ?_; rintro e w1 ⟨rfl, hb1⟩; have c0 : w1.cell? ⟨b, 0, none⟩ = some (.string s) := (HB.out.below hb1 HB.out.lt).cell 0; have c1 : w1.cell? ⟨b, 1, none⟩ = some (.int .i64 (k : Int)) := (HB.out.below hb1 HB.out.lt).cell 1; have f1 : w1.frozen? ⟨b, 1, none⟩ = false := (HB.out.below hb1 HB.out.lt).free 1)
  go_quiet (fail)
  go_wp2
  go_ret2
  refine ⟨rfl, ⟨?_, by omega, hs⟩, grown_put (grown_drn (grown_of_below hb1 _) _) _ _⟩
  have := ((HB.out.below hb1 HB.out.lt).drn nq).put 1 (.int .i64 ((k : Int) + (m : Int)))
  simpa using this
theorem cur_byte_no (b : Nat) (s : ByteArray) (k : Nat) (w : World) (h : Cur w b s k) (h0 : s.size = k) :
    Calls Tryz.prog 331 #[.pointer (some ⟨b, 0, none⟩)] w fun e w' => e = .returned (.tuple #[.int .u8 0, .bool false]) ∧ Below w.heap.size w w' := by
  have H := Lib.hid h
  have H0 := Lib.hid h0
  clear h h0
  go_enter Tryz.func331, Tryz.ntmps331
  go_wp2_with (go_at_call 214; refine (cur_take_no b s k 1 _ H.out (by have := H0.out; omega) (by omega)).mono ?_; rintro e w1 ⟨rfl, hb1⟩)
  go_ret2
  exact ⟨rfl, hb1⟩
theorem cur_byte_yes (b : Nat) (s : ByteArray) (k : Nat) (w : World) (h : Cur w b s k) (h0 : k < s.size) :
    Calls Tryz.prog 331 #[.pointer (some ⟨b, 0, none⟩)] w fun e w' =>
      e = .returned (.tuple #[.int .u8 (s[k].toNat : Int), .bool true]) ∧ Cur w' b s (k + 1) ∧ w.grownBy w' (some b) := by
  have H := Lib.hid h
  clear h
  go_enter Tryz.func331, Tryz.ntmps331
  go_wp2_with (go_at_call 214; refine (cur_take_yes b s k 1 _ H.out (by omega) (by omega)).mono ?_; rintro e w1 ⟨rfl, hc1, hg1⟩)
  go_ret2
  refine ⟨?_, hc1, hg1⟩
  have e : (s.extract k (k + 1))[0]'(by simp; omega) = s[k] := by simp [ByteArray.getElem_extract]
  rw [← e]
  rfl
theorem cur_sub_no (b : Nat) (s : ByteArray) (k : Nat) (n : Int) (w : World) (h : Cur w b s k) (h0 : (s.size : Int) - k < n) (h1 : n < 18446744073709551616) :
    Calls Tryz.prog 215 #[.pointer (some ⟨b, 0, none⟩), .int .u64 n] w fun e w' => e = .returned (.tuple #[.pointer none, .bool false]) ∧ Below w.heap.size w w' := by
  have H := Lib.hid h
  clear h
  go_enter Tryz.func215, Tryz.ntmps215
  go_wp2_with (go_at_call 214; refine (cur_take_no b s k n _ H.out h0 h1).mono ?_; rintro e w1 ⟨rfl, hb1⟩)
  go_ret2
  exact ⟨rfl, hb1⟩
theorem cur_sub_yes (b : Nat) (s : ByteArray) (k : Nat) (n : Int) (w : World) (h : Cur w b s k) (h0 : 0 ≤ n) (h1 : n ≤ (s.size : Int) - k) :
    Calls Tryz.prog 215 #[.pointer (some ⟨b, 0, none⟩), .int .u64 n] w fun e w' =>
      ∃ g, e = .returned (.tuple #[.pointer (some ⟨g, 0, none⟩), .bool true]) ∧ w.heap.size ≤ g ∧ Cur w' g (s.extract k (k + n.toNat)) 0 ∧ Cur w' b s (k + n.toNat) ∧ w.grownBy w' (some b) := by
  have H := Lib.hid h
  have hs := h.2.2
  clear h
  go_enter Tryz.func215, Tryz.ntmps215
  go_wp2_with (first
    | (go_at_call 214; refine (cur_take_yes b s k n _ H.out h0 h1).mono ?_; rintro e w1 ⟨rfl, hc1, hg1⟩)
    | (go_at_call 80; refine (cur_over _ _).mono ?_; rintro e w2 ⟨rfl, rfl⟩))
  go_ret2
  refine ⟨_, rfl, hg1.size, ⟨BlkAt.made _ _ _, Nat.zero_le _, ?_⟩, ⟨hc1.1.more _, hc1.2⟩, grown_more hg1 _⟩
  simp; omega
/-! ### A nil cursor -/
end Go.Proofs.YtgidfnhfgiehjaaGreatDoor
end

section
namespace Go.Proofs.YtgidfnhfgiehjaaGreatDoor
open Go.RowKit Go.PM
set_option maxRecDepth 100000
theorem next_any (b : Nat) (s : ByteArray) (k : Nat) (w : World) (h : Cur w b s k) :
    Calls Tryz.prog 174 #[.pointer (some ⟨b, 0, none⟩)] w fun e w' =>
      e = .returned (.tuple #[.int .u64 ((vget (s.data.toList.drop k)).1 : Int), .int .i64 ((vget (s.data.toList.drop k)).2.2 : Int)]) ∧ Cur w' b s (k + (vget (s.data.toList.drop k)).2.1) ∧ w.grownBy w' (some b) := by
  have H := Lib.hid h
  have hk := h.2.1
  have hs := h.2.2
  generalize hV : vget (s.data.toList.drop k) = V
  obtain ⟨n, m, g⟩ := V
  simp only
  have HV := Lib.hid hV
  clear h hV
  go_enter Tryz.func174, Tryz.ntmps174
  go_wp2_with (go_at_call 213; refine (cur_rest b s k _ H.out).mono ?_; rintro e w1 ⟨rfl, hb1⟩)
  refine (get_any _ _ (by simp; omega)).mono ?_
  rintro e w2 ⟨rfl, hb2⟩
  rw [ext_rest, HV.out]
  have hc : Cur w2 b s k := ⟨(H.out.1.below hb1 H.out.1.lt).below hb2 (by have := hb1.size; have := H.out.1.lt; omega), hk, hs⟩
  have HC := Lib.hid hc
  clear hc
  by_cases hv : g = 0
  · subst hv
    have hk2 := vget_ok (s := s.data.toList.drop k) (by rw [HV.out])
    rw [HV.out] at hk2
    obtain ⟨k1, k2, k3, k4, k5⟩ := hk2
    simp only at k1 k2 k3
    rw [List.length_drop, len_list] at k2
    clear k4 k5
    go_wp2_with (go_at_call 214; refine (cur_take_yes b s k (m : Int) _ HC.out (by omega) (by omega)).mono ?_; rintro e w3 ⟨rfl, hc3, hg3⟩)
    go_ret2
    exact ⟨rfl, by simpa using hc3, grown_trans (grown_of_below (bb hb1 hb2) _) hg3 (fun x e _ => e)⟩
  · have hve := vget_err (s := s.data.toList.drop k) (by rw [HV.out]; exact hv)
    rw [HV.out] at hve
    obtain ⟨rfl, rfl⟩ : n = 0 ∧ m = 0 := by simpa using hve
    have hv2 : ((g : Int) == 0) = false := by rw [beq_eq_false_iff_ne]; omega
    have hv3 : ((g : Int) != 0) = true := by rw [bne_iff_ne]; omega
    clear hve hv
    go_wp2_with fail
    go_ret2
    exact ⟨rfl, HC.out, grown_of_below (bb hb1 hb2) _⟩
def AllOf (S done : List Nat) (c : Nat) (R : List UInt8) : Prop := (if (vall R).2 = 0 then (done ++ (vall R).1, 0) else ([], (vall R).2)) = (S, c)
theorem AllOf.start (l : List UInt8) : AllOf (vall l).1 [] (vall l).2 l := by
  unfold AllOf
  split
  · rename_i h; rw [h]; rfl
  · rename_i h
    have : (vall l).1 = [] := by
      rw [vall] at h ⊢
      split
      · rfl
      · rename_i h1; rw [if_neg h1] at h
        split
        · rename_i h2; rw [dif_pos h2] at h
          simp only at h ⊢
          split
          · rename_i h3; rw [if_pos h3] at h; simp at h
          · rfl
        · rfl
    rw [this]
theorem AllOf.stop {S done : List Nat} {c : Nat} (h : AllOf S done c []) : S = done ∧ c = 0 := by
  unfold AllOf at h
  rw [vall] at h
  simp at h
  exact ⟨h.1.symm, h.2.symm⟩
theorem AllOf.err {S done : List Nat} {c : Nat} {R : List UInt8} (h : AllOf S done c R) (hR : R.length ≠ 0) (hv : (vget R).2.2 ≠ 0) : S = [] ∧ c = (vget R).2.2 := by
  unfold AllOf at h
  rw [vall, if_neg hR, dif_neg hv] at h
  simp [hv] at h
  exact ⟨h.1, h.2.symm⟩
theorem AllOf.next {S done : List Nat} {c : Nat} {R : List UInt8} (h : AllOf S done c R) (hR : R.length ≠ 0) (hv : (vget R).2.2 = 0) : AllOf S (done ++ [(vget R).1]) c (R.drop (vget R).2.1) := by
  unfold AllOf at h ⊢
  rw [vall, if_neg hR, dif_pos hv] at h
  simp only at h
  rw [← h]
  split <;> simp
end Go.Proofs.YtgidfnhfgiehjaaGreatDoor
end

section
namespace Go.Proofs.YtgidfnhfgiehjaaGreatDoor
open Go.RowKit Go.PM
set_option maxRecDepth 100000
set_option maxHeartbeats 4000000
def Sz (s : ByteArray) (i z : Nat) : Prop := (z = 0 ∧ rsz s.data.toList = rszL i (s.data.toList.drop i)) ∨ (0 < z ∧ rsz s.data.toList = z)
theorem Sz.more {s : ByteArray} {i : Nat} (h : Sz s i 0) (hi : i < s.size) (h10 : i < 10) (hc : 128 ≤ s[i].toNat) : Sz s (i + 1) 0 := by
  rcases h with ⟨_, h⟩ | ⟨h, _⟩
  · rw [drop_at s i hi, rszL, if_neg (by omega), if_neg (by omega)] at h
    exact .inl ⟨rfl, h⟩
  · omega
theorem Sz.last {s : ByteArray} {i : Nat} (h : Sz s i 0) (hi : i < s.size) (h10 : i < 10) (hc : s[i].toNat < 128) : Sz s (i + 1) (i + 1) := by
  rcases h with ⟨_, h⟩ | ⟨h, _⟩
  · rw [drop_at s i hi, rszL, if_neg (by omega), if_pos hc] at h
    exact .inr ⟨by omega, h⟩
  · omega
theorem Sz.end_ {s : ByteArray} {i z : Nat} (h : Sz s i z) (he : s.size ≤ i ∨ 10 ≤ i ∨ z ≠ 0) : rsz s.data.toList = z := by
  rcases h with ⟨rfl, h⟩ | ⟨_, h⟩
  · rw [h]
    rcases he with he | he | he
    · rw [drop_end s i he]; rfl
    · cases s.data.toList.drop i <;> simp [rszL, he]
    · omega
  · exact h
theorem getD_at (s : ByteArray) (i : Nat) (hi : i < s.size) : s.data.toList.getD i 0 = s[i] := by
  simp [List.getD, hi]
  rfl
theorem vacc_lt (l : List UInt8) : ∀ i, vacc l i < 128 ^ i
  | 0 => by simp [vacc]
  | i + 1 => by
    have := vacc_lt l i
    have h : (l.getD i 0).toNat % 128 * 128 ^ i ≤ 127 * 128 ^ i := Nat.mul_le_mul_right _ (by omega)
    rw [vacc, Nat.pow_succ]; omega
def Vc (l : List UInt8) (j acc u : Nat) : Prop := acc = vacc l j ∧ (j < 10 → u = 128 ^ j) ∧ In64 acc
theorem wrap_nat (x : Nat) : IntKind.u64.wrap (x : Int) = ((x % 18446744073709551616 : Nat) : Int) := by rw [IntKind.wrap_u64]; omega
theorem Vc.step {l : List UInt8} {j acc u c : Nat} (h : Vc l j acc u) (hj : j < 10) (hc : (l.getD j 0).toNat = c) (h9 : j = 9 → c ≤ 1) :
    ∃ P X U : Nat, IntKind.u64.wrap ((c : Int) % 128 * (u : Int)) = (P : Int) ∧ IntKind.u64.wrap ((acc : Int) + (P : Int)) = (X : Int) ∧ IntKind.u64.wrap ((u : Int) * 128) = (U : Int) ∧ Vc l (j + 1) X U := by
  obtain ⟨rfl, hu, h64⟩ := h
  have hu := hu hj
  subst hu
  have hlt := vacc_lt l j
  have e1 : ((c : Int) % 128 * ((128 ^ j : Nat) : Int)) = ((c % 128 * 128 ^ j : Nat) : Int) := by push_cast; rfl
  have hb : vacc l j + c % 128 * 128 ^ j < 18446744073709551616 := by
    by_cases e : j = 9
    · subst e
      have := h9 rfl
      have : c % 128 * 128 ^ 9 ≤ 1 * 128 ^ 9 := Nat.mul_le_mul_right _ (by omega)
      have h2 : 128 ^ 9 + 1 * 128 ^ 9 ≤ 18446744073709551616 := by decide
      omega
    · have h3 : 128 ^ (j + 1) ≤ 128 ^ 9 := pow_lt (by omega)
      have : c % 128 * 128 ^ j ≤ 127 * 128 ^ j := Nat.mul_le_mul_right _ (by omega)
      rw [Nat.pow_succ] at h3
      have h2 : 128 ^ 9 < 18446744073709551616 := by decide
      omega
  refine ⟨c % 128 * 128 ^ j, vacc l j + c % 128 * 128 ^ j, 128 ^ j * 128 % 18446744073709551616, ?_, ?_, ?_, ?_, ?_, ?_⟩
  · rw [e1, wrap_nat, Nat.mod_eq_of_lt (by omega)]
  · rw [← Int.natCast_add, wrap_nat, Nat.mod_eq_of_lt hb]
  · have : (((128 ^ j : Nat) : Int) * 128) = ((128 ^ j * 128 : Nat) : Int) := by push_cast; rfl
    rw [this, wrap_nat]
  · rw [vacc, hc]
  · intro h
    have h3 : 128 ^ (j + 1) ≤ 128 ^ 9 := pow_lt (by omega)
    have h2 : 128 ^ 9 < 18446744073709551616 := by decide
    rw [Nat.pow_succ] at h3 ⊢
    exact Nat.mod_eq_of_lt (by omega)
  · exact hb
end Go.Proofs.YtgidfnhfgiehjaaGreatDoor
end

section
namespace Go.Proofs.YtgidfnhfgiehjaaGreatDoor
open Go.RowKit Go.PM
set_option maxRecDepth 100000
theorem equ64 (A1 A2 : Option Addr) (c1 c2 : Nat) (xs : List Nat) (w : World) (h1 : Rd w A1 (u64s xs)) (h2 : Rd w A2 (u64s xs)) (hl : xs.length ≤ 1000000) :
    Calls Tryz.prog 239 #[.slice A1 xs.length c1, .slice A2 xs.length c2] w fun e w' => e = .returned (.bool true) ∧ Below w.heap.size w w' := by
  go_enter Tryz.func239, Tryz.ntmps239
  go_wp2
  go_loopw [13] (fun k wr => ∃ i : Nat, i ≤ xs.length ∧ k = .int .i64 (i : Int) ∧ Below w.heap.size w wr) (fun k _ => xs.length - (intOf k).toNat)
  case atStart => exact ⟨0, by omega, rfl, b0⟩
  case round =>
    obtain ⟨i, hi, rfl, hbel⟩ := hrel
    by_cases hlt : i < xs.length
    · obtain ⟨d1, o1, rfl, _, e1⟩ := (h1.below hbel).at_ (k := i) (by rw [u64s_length]; exact hlt)
      obtain ⟨d2, o2, rfl, _, e2⟩ := (h2.below hbel).at_ (k := i) (by rw [u64s_length]; exact hlt)
      rw [u64s_at xs i hlt] at e1 e2
      have HB := Lib.hid hbel
      have H1 := Lib.hid h1
      have H2 := Lib.hid h2
      clear hbel h1 h2
      go_wp2
      go_quiet (fail)
      go_wp2
      go_roundw
      case rel => exact ⟨i + 1, by omega, by go_num, bn HB.out _⟩
      case measure => simp [intOf]; omega
    · have HB := Lib.hid hbel
      clear hbel h1 h2
      go_wp2
      go_ret
      exact ⟨rfl, HB.out⟩
end Go.Proofs.YtgidfnhfgiehjaaGreatDoor
end

section
namespace Go.Proofs.YtgidfnhfgiehjaaGreatDoor
open Go.RowKit Go.PM
set_option maxRecDepth 100000
def Rg (l : List UInt8) (i r : Nat) : Prop := r = Go.PM.cover 4294967295 (l.take i) ∧ r < 4294967296
theorem Rg.step {s : ByteArray} {i r : Nat} (h : Rg s.data.toList i r) (hi : i < s.size) : Rg s.data.toList (i + 1) (csteps 8 (r ^^^ s[i].toNat)) := by
  obtain ⟨e, hlt⟩ := h
  refine ⟨?_, cbyte_lt hlt s[i]⟩
  have hl : i < s.data.toList.length := by simpa using hi
  have hg : s.data.toList[i] = s[i] := by simp; rfl
  rw [← List.take_append_getElem hl, cover_append, ← e, hg]
  rfl
def Rb (x k r : Nat) : Prop := csteps (8 - k) r = x ∧ r < 4294967296
theorem Rb.step {x k r : Nat} (h : Rb x k r) (hk : k < 8) : Rb x (k + 1) (cstep r) := by
  refine ⟨?_, cstep_lt h.2⟩
  have e := h.1
  rw [show 8 - k = (8 - (k + 1)) + 1 by omega] at e
  exact e
theorem cput_bvals (n : Nat) (hn : n < 4294967296) : (#[.int .u8 ((n : Int) % 256), .int .u8 ((n : Int) / 256 % 256), .int .u8 ((n : Int) / 65536 % 256), .int .u8 ((n : Int) / 16777216)] : Array Value).toList.take 4 = bvals (cput n) := by
  have e : ∀ k, k < 256 → (UInt8.ofNat k).toNat = k := fun k hk => by simp; omega
  simp only [cput, bvals, List.map]
  rw [e _ (by omega), e _ (by omega), e _ (by omega), e _ (by omega)]
  have h1 : (((n % 256 : Nat)) : Int) = (n : Int) % 256 := by omega
  have h2 : (((n / 256 % 256 : Nat)) : Int) = (n : Int) / 256 % 256 := by omega
  have h3 : (((n / 65536 % 256 : Nat)) : Int) = (n : Int) / 65536 % 256 := by omega
  have h4 : (((n / 16777216 % 256 : Nat)) : Int) = (n : Int) / 16777216 := by omega
  rw [h1, h2, h3, h4]
  rfl
theorem cput_any (n : Nat) (w : World) (hn : n < 4294967296) :
    Calls Tryz.prog 50 #[.int .u32 (n : Int)] w fun e w' => e = .returned (.string (txt (cput n))) ∧ Below w.heap.size w w' := by
  have hcv := run_row_string (P := Tryz.prog) (w.alloc (.cells #[.int .u8 ((n : Int) % 256), .int .u8 ((n : Int) / 256 % 256), .int .u8 ((n : Int) / 65536 % 256), .int .u8 ((n : Int) / 16777216)] 5)) 42 9 5 w.heap.size 4 4 _ (cput n) Tryz.underlying42 Tryz.underlying5 Tryz.underlying9 (BlkAt.made _ _ _) rfl (cput_bvals n hn)
  rw [show ByteArray.mk (cput n).toArray = txt (cput n) from rfl] at hcv
  go_enter Tryz.func50, Tryz.ntmps50
  go_wp2
  go_ret
  exact ⟨rfl, ba b0 _⟩
theorem join4 (a b c d : Nat) (ha : a < 256) (hb : b < 256) (hc : c < 256) (hd : d < 256) :
    bits .or .u32 (bits .or .u32 (bits .or .u32 ((a : Int) % 4294967296) ((b : Int) % 4294967296 * 256 % 4294967296)) ((c : Int) % 4294967296 * 65536 % 4294967296)) ((d : Int) % 4294967296 * 16777216 % 4294967296) = ((a + b * 256 + c * 65536 + d * 16777216 : Nat) : Int) := by
  have j1 : a ||| b * 256 = a + b * 256 := by rw [Nat.or_comm, nat_join 8 _ _ (by omega) (by omega)]; omega
  have j2 : (a + b * 256) ||| c * 65536 = a + b * 256 + c * 65536 := by rw [Nat.or_comm, nat_join 16 _ _ (by omega) (by omega)]; omega
  have j3 : (a + b * 256 + c * 65536) ||| d * 16777216 = a + b * 256 + c * 65536 + d * 16777216 := by rw [Nat.or_comm, nat_join 24 _ _ (by omega) (by omega)]; omega
  rw [show (a : Int) % 4294967296 = (a : Int) by omega, show (b : Int) % 4294967296 * 256 % 4294967296 = ((b * 256 : Nat) : Int) by omega, show (c : Int) % 4294967296 * 65536 % 4294967296 = ((c * 65536 : Nat) : Int) by omega, show (d : Int) % 4294967296 * 16777216 % 4294967296 = ((d * 16777216 : Nat) : Int) by omega,
    u32_or_nat _ _ (by omega) (by omega), j1, u32_or_nat _ _ (by omega) (by omega), j2, u32_or_nat _ _ (by omega) (by omega), j3]
theorem cget_four (s : ByteArray) (h4 : s.size = 4) : cget s.data.toList = s[0].toNat + s[1].toNat * 256 + s[2].toNat * 65536 + s[3].toNat * 16777216 := by
  have hl : s.data.toList = [s[0], s[1], s[2], s[3]] := by
    have e := drop_at s 0 (by omega)
    rw [drop_at s 1 (by omega), drop_at s 2 (by omega), drop_at s 3 (by omega)] at e
    rw [List.drop_zero] at e
    rw [e, List.drop_eq_nil_of_le (by simp; omega)]
  rw [hl]
  rfl
theorem cget_any (s : ByteArray) (w : World) (h4 : s.size = 4) :
    Calls Tryz.prog 121 #[.string s] w fun e w' => e = .returned (.tuple #[.int .u32 (cget s.data.toList : Int), .bool true]) ∧ Below w.heap.size w w' := by
  have hj := join4 s[0].toNat s[1].toNat s[2].toNat s[3].toNat (by have := s[0].toNat_lt; omega) (by have := s[1].toNat_lt; omega) (by have := s[2].toNat_lt; omega) (by have := s[3].toNat_lt; omega)
  rw [← cget_four s h4] at hj
  generalize cget s.data.toList = V at hj
  have HJ := Lib.hid hj
  clear hj
  go_enter Tryz.func121, Tryz.ntmps121
  go_wp2
  go_quiet (fail)
  go_wp2
  rw [HJ.out]
  go_ret2
  exact ⟨rfl, bn b0 _⟩
end Go.Proofs.YtgidfnhfgiehjaaGreatDoor
end

section
namespace Go.Proofs.YtgidfnhfgiehjaaGreatDoor
open Go.RowKit Go.PM
set_option maxRecDepth 100000
def tabl (k : Nat) : List Value := (List.range 16).map fun i => .int .u32 (if i < k then (csteps 4 i : Int) else 0)
def tab (k : Nat) : Array Value := (tabl k).toArray
theorem tab_size (k : Nat) : (tab k).size = 16 := by simp [tab, tabl]
theorem tab_at (k i : Nat) (hi : i < 16) : (tab k)[i]? = some (.int .u32 (if i < k then (csteps 4 i : Int) else 0)) := by
  simp [tab, tabl, hi]
theorem tab_put (k : Nat) (hk : k < 16) : (tab k).setIfInBounds k (.int .u32 (csteps 4 k : Int)) = tab (k + 1) := by
  apply Array.ext_getElem?
  intro i
  rw [Array.getElem?_setIfInBounds]
  by_cases hi : i < 16
  · rw [tab_at _ _ hi, tab_at _ _ hi, tab_size]
    by_cases e : k = i
    · subst e; simp [hk]
    · rw [if_neg e]
      by_cases hik : i < k
      · rw [if_pos hik, if_pos (by omega)]
      · rw [if_neg hik, if_neg (by omega)]
  · rw [Array.getElem?_eq_none (by rw [tab_size]; omega), Array.getElem?_eq_none (by rw [tab_size]; omega)]
    simp
    omega
theorem tab_zero : tab 0 = #[.int .u32 0, .int .u32 0, .int .u32 0, .int .u32 0, .int .u32 0, .int .u32 0, .int .u32 0, .int .u32 0, .int .u32 0, .int .u32 0, .int .u32 0, .int .u32 0, .int .u32 0, .int .u32 0, .int .u32 0, .int .u32 0] := rfl
theorem tab_full : ∃ v0 v1 v2 v3 v4 v5 v6 v7 v8 v9 v10 v11 v12 v13 v14 v15 : Int, tab 16 = #[.int .u32 v0, .int .u32 v1, .int .u32 v2, .int .u32 v3, .int .u32 v4, .int .u32 v5, .int .u32 v6, .int .u32 v7, .int .u32 v8, .int .u32 v9, .int .u32 v10, .int .u32 v11, .int .u32 v12, .int .u32 v13, .int .u32 v14, .int .u32 v15] := ⟨_, _, _, _, _, _, _, _, _, _, _, _, _, _, _, _, rfl⟩
theorem reckon_any (g i : Nat) (w : World) (hg : BlkAt w g 246 (tab i)) (hi : i < 16) :
    Calls Tryz.prog 196 #[.int .i64 (i : Int), .pointer (some ⟨g, 0, none⟩)] w fun e w' => e = .returned (.tuple #[]) ∧ BlkAt w' g 246 (tab (i + 1)) ∧ w.grownBy w' (some g) := by
  have HG := Lib.hid hg
  have c0 : w.cell? ⟨g, i, none⟩ = some (.int .u32 0) := by rw [hg.cell i, tab_at _ _ hi]; simp
  have f0 := hg.free i
  clear hg
  have HR : Hid (Rb (csteps 4 i) 4 i) := ⟨rfl, by omega⟩
  generalize hY : csteps 4 i = Y at HR
  have HY := Lib.hid hY
  clear hY
  go_enter Tryz.func196, Tryz.ntmps196
  go_wp2
  go_loop [3, 6] (fun rr kk => ∃ k r : Nat, k ≤ 4 ∧ kk = .int .i64 (k : Int) ∧ rr = .int .u32 (r : Int) ∧ Rb Y (4 + k) r) (fun _ k => 4 - (intOf k).toNat)
  case atStart => exact ⟨0, i, by omega, rfl, rfl, HR.out⟩
  case round =>
    obtain ⟨k, q, hk, rfl, rfl, hrb⟩ := hrel
    by_cases hk4 : k < 4
    · have hst := hrb.step (by omega)
      have hq := hrb.2
      have hand : bits .and .u32 (q : Int) 1 = ((q % 2 : Nat) : Int) := by rw [← nat_mask1]; exact u32_and_nat q 1 hq (by omega)
      clear hrb
      by_cases hodd : q % 2 = 1
      · have ho : (((q % 2 : Nat) : Int) == 1) = true := by rw [beq_iff_eq]; omega
        have hbx : bits .xor .u32 ((q : Int) / 2) 3988292384 = ((cstep q : Nat) : Int) := by
          unfold cstep
          rw [if_pos hodd, ← u32_xor_nat _ _ (by omega) (by omega)]
          rfl
        generalize cstep q = Q at hst hbx
        have HST := Lib.hid hst
        clear hst hodd
        go_wp2
        go_round
        case rel => exact ⟨k + 1, Q, by omega, by go_num, rfl, HST.out⟩
        case measure => simp [intOf]; omega
      · have ho : (((q % 2 : Nat) : Int) == 1) = false := by rw [beq_eq_false_iff_ne]; omega
        have hbx : ((q : Int) / 2) = ((cstep q : Nat) : Int) := by
          unfold cstep
          rw [if_neg hodd]
          omega
        have HBX := Lib.hid hbx
        generalize cstep q = Q at hst HBX
        have HST := Lib.hid hst
        clear hst hodd hbx
        go_wp2
        go_round
        case rel => exact ⟨k + 1, Q, by omega, by go_num, by rw [HBX.out], HST.out⟩
        case measure => simp [intOf]; omega
    · obtain rfl : k = 4 := by omega
      have hqy : q = Y := hrb.1
      subst hqy
      clear hrb
      go_wp2
      go_end0
      refine ⟨rfl, ?_, grown_put (grown_refl _ _) _ _⟩
      have := HG.out.put i (.int .u32 (q : Int))
      rw [← HY.out, tab_put i hi] at this
      rw [← HY.out]
      exact this
theorem sums_any (w : World) :
    Calls Tryz.prog 152 #[] w fun e w' => e = .returned (.agg (tab 16)) ∧ Below w.heap.size w w' := by
  go_enter Tryz.func152, Tryz.ntmps152
  go_wp2
  go_loopw [5] (fun k wr => ∃ i : Nat, i ≤ 16 ∧ k = .int .i64 (i : Int) ∧ BlkAt wr (w.heap.size + 1) 246 (tab i) ∧ BlkAt wr w.heap.size 246 (tab 0) ∧ Below w.heap.size w wr) (fun k _ => 16 - (intOf k).toNat)
  case atStart =>
    refine ⟨0, by omega, rfl, ?_, ?_, ba (ba b0 _) _⟩
    · rw [tab_zero]
      have := BlkAt.made (w.alloc (.cells #[.int .u32 0, .int .u32 0, .int .u32 0, .int .u32 0, .int .u32 0, .int .u32 0, .int .u32 0, .int .u32 0, .int .u32 0, .int .u32 0, .int .u32 0, .int .u32 0, .int .u32 0, .int .u32 0, .int .u32 0, .int .u32 0] 246)) 246 #[.int .u32 0, .int .u32 0, .int .u32 0, .int .u32 0, .int .u32 0, .int .u32 0, .int .u32 0, .int .u32 0, .int .u32 0, .int .u32 0, .int .u32 0, .int .u32 0, .int .u32 0, .int .u32 0, .int .u32 0, .int .u32 0]
      simpa using this
    · rw [tab_zero]
      exact (BlkAt.made w _ _).more _
  case round =>
    obtain ⟨i, hi, rfl, hb, hz, hw⟩ := hrel
    have HZ := Lib.hid hz
    have hgt := hz.lt
    clear hz
    have HB := Lib.hid hb
    have HW := Lib.hid hw
    clear hb hw
    by_cases h16 : i < 16
    · go_wp2_with fail
      refine (reckon_any _ i _ HB.out h16).mono ?_
      rintro e w1 ⟨rfl, hb1, hg1⟩
      have hw1 := bg HW.out hg1 (by omega)
      have HZ1 := Lib.hid (HZ.out.step hg1 (by intro e; injection e with e; omega))
      have HB1 := Lib.hid hb1
      have HW1 := Lib.hid hw1
      clear hb1 hw1 hg1
      go_wp2
      go_round
      case rel => exact ⟨i + 1, by omega, by go_num, HB1.out, HZ1.out, HW1.out⟩
      case measure => simp [intOf]; omega
    · obtain rfl : i = 16 := by omega
      obtain ⟨v0, v1, v2, v3, v4, v5, v6, v7, v8, v9, v10, v11, v12, v13, v14, v15, hv⟩ := tab_full
      have hb := HB.out
      rw [hv] at hb
      have c0 : wr.cell? ⟨w.heap.size + 1, 0, none⟩ = some (.int .u32 v0) := hb.cell 0
      have c1 : wr.cell? ⟨w.heap.size + 1, 1, none⟩ = some (.int .u32 v1) := hb.cell 1
      have c2 : wr.cell? ⟨w.heap.size + 1, 2, none⟩ = some (.int .u32 v2) := hb.cell 2
      have c3 : wr.cell? ⟨w.heap.size + 1, 3, none⟩ = some (.int .u32 v3) := hb.cell 3
      have c4 : wr.cell? ⟨w.heap.size + 1, 4, none⟩ = some (.int .u32 v4) := hb.cell 4
      have c5 : wr.cell? ⟨w.heap.size + 1, 5, none⟩ = some (.int .u32 v5) := hb.cell 5
      have c6 : wr.cell? ⟨w.heap.size + 1, 6, none⟩ = some (.int .u32 v6) := hb.cell 6
      have c7 : wr.cell? ⟨w.heap.size + 1, 7, none⟩ = some (.int .u32 v7) := hb.cell 7
      have c8 : wr.cell? ⟨w.heap.size + 1, 8, none⟩ = some (.int .u32 v8) := hb.cell 8
      have c9 : wr.cell? ⟨w.heap.size + 1, 9, none⟩ = some (.int .u32 v9) := hb.cell 9
      have c10 : wr.cell? ⟨w.heap.size + 1, 10, none⟩ = some (.int .u32 v10) := hb.cell 10
      have c11 : wr.cell? ⟨w.heap.size + 1, 11, none⟩ = some (.int .u32 v11) := hb.cell 11
      have c12 : wr.cell? ⟨w.heap.size + 1, 12, none⟩ = some (.int .u32 v12) := hb.cell 12
      have c13 : wr.cell? ⟨w.heap.size + 1, 13, none⟩ = some (.int .u32 v13) := hb.cell 13
      have c14 : wr.cell? ⟨w.heap.size + 1, 14, none⟩ = some (.int .u32 v14) := hb.cell 14
      have c15 : wr.cell? ⟨w.heap.size + 1, 15, none⟩ = some (.int .u32 v15) := hb.cell 15
      have hz := HZ.out
      rw [tab_zero] at hz
      have z0 : wr.cell? ⟨w.heap.size, 0, none⟩ = some (.int .u32 0) := hz.cell 0
      have f0 := hz.free 0
      have z1 : wr.cell? ⟨w.heap.size, 1, none⟩ = some (.int .u32 0) := hz.cell 1
      have f1 := hz.free 1
      have z2 : wr.cell? ⟨w.heap.size, 2, none⟩ = some (.int .u32 0) := hz.cell 2
      have f2 := hz.free 2
      have z3 : wr.cell? ⟨w.heap.size, 3, none⟩ = some (.int .u32 0) := hz.cell 3
      have f3 := hz.free 3
      have z4 : wr.cell? ⟨w.heap.size, 4, none⟩ = some (.int .u32 0) := hz.cell 4
      have f4 := hz.free 4
      have z5 : wr.cell? ⟨w.heap.size, 5, none⟩ = some (.int .u32 0) := hz.cell 5
      have f5 := hz.free 5
      have z6 : wr.cell? ⟨w.heap.size, 6, none⟩ = some (.int .u32 0) := hz.cell 6
      have f6 := hz.free 6
      have z7 : wr.cell? ⟨w.heap.size, 7, none⟩ = some (.int .u32 0) := hz.cell 7
      have f7 := hz.free 7
      have z8 : wr.cell? ⟨w.heap.size, 8, none⟩ = some (.int .u32 0) := hz.cell 8
      have f8 := hz.free 8
      have z9 : wr.cell? ⟨w.heap.size, 9, none⟩ = some (.int .u32 0) := hz.cell 9
      have f9 := hz.free 9
      have z10 : wr.cell? ⟨w.heap.size, 10, none⟩ = some (.int .u32 0) := hz.cell 10
      have f10 := hz.free 10
      have z11 : wr.cell? ⟨w.heap.size, 11, none⟩ = some (.int .u32 0) := hz.cell 11
      have f11 := hz.free 11
      have z12 : wr.cell? ⟨w.heap.size, 12, none⟩ = some (.int .u32 0) := hz.cell 12
      have f12 := hz.free 12
      have z13 : wr.cell? ⟨w.heap.size, 13, none⟩ = some (.int .u32 0) := hz.cell 13
      have f13 := hz.free 13
      have z14 : wr.cell? ⟨w.heap.size, 14, none⟩ = some (.int .u32 0) := hz.cell 14
      have f14 := hz.free 14
      have z15 : wr.cell? ⟨w.heap.size, 15, none⟩ = some (.int .u32 0) := hz.cell 15
      have f15 := hz.free 15
      clear hb hz
      have hend := (((((((((((((((HZ.out.put 0 (.int .u32 v0)).put 1 (.int .u32 v1)).put 2 (.int .u32 v2)).put 3 (.int .u32 v3)).put 4 (.int .u32 v4)).put 5 (.int .u32 v5)).put 6 (.int .u32 v6)).put 7 (.int .u32 v7)).put 8 (.int .u32 v8)).put 9 (.int .u32 v9)).put 10 (.int .u32 v10)).put 11 (.int .u32 v11)).put 12 (.int .u32 v12)).put 13 (.int .u32 v13)).put 14 (.int .u32 v14)).put 15 (.int .u32 v15)
      rw [tab_zero] at hend
      simp only [List.setIfInBounds_toArray, List.set] at hend
      rw [← hv] at hend
      have HE := Lib.hid hend
      clear hend
      go_wp2
      exact bodyPost_ret_by (results_cell_row Tryz.results152 _ _ w.heap.size 246 (tab 16) (0, 0) _ rfl HE.out Tryz.underlying246 rfl (by kernel_rfl)) rfl ⟨rfl, (bs (bs (bs (bs (bs (bs (bs (bs (bs (bs (bs (bs (bs (bs (bs (bs HW.out (by simp) _) (by simp) _) (by simp) _) (by simp) _) (by simp) _) (by simp) _) (by simp) _) (by simp) _) (by simp) _) (by simp) _) (by simp) _) (by simp) _) (by simp) _) (by simp) _) (by simp) _) (by simp) _)⟩
end Go.Proofs.YtgidfnhfgiehjaaGreatDoor
end

section
namespace Go.Proofs.YtgidfnhfgiehjaaGreatDoor
open Go.RowKit Go.PM
set_option maxRecDepth 100000
def Rf (R : Nat) (l : List UInt8) (i r : Nat) : Prop := r = Go.PM.cover R (l.take i) ∧ r < 4294967296
theorem Rf.step {R : Nat} {s : ByteArray} {i r : Nat} (h : Rf R s.data.toList i r) (hi : i < s.size) : Rf R s.data.toList (i + 1) (csteps 4 (csteps 4 (r ^^^ s[i].toNat))) := by
  obtain ⟨e, hlt⟩ := h
  refine ⟨?_, ?_⟩
  · have hl : i < s.data.toList.length := by simpa using hi
    have hg : s.data.toList[i] = s[i] := by simp; rfl
    rw [← List.take_append_getElem hl, cover_append, ← e, hg]
    rfl
  · exact csteps_lt 4 (csteps_lt 4 (Nat.xor_lt_two_pow (n := 32) hlt (by have := s[i].toNat_lt; omega)))
def Rp (R : Nat) (l : List ByteArray) (k r : Nat) : Prop := r = Go.PM.cover R ((l.take k).flatMap fun x => x.data.toList) ∧ r < 4294967296
theorem Rp.step {R : Nat} {l : List ByteArray} {k r q : Nat} (h : Rp R l k r) (hk : k < l.length) (hq : Rf r l[k].data.toList l[k].size q) : Rp R l (k + 1) q := by
  refine ⟨?_, hq.2⟩
  rw [← List.take_append_getElem hk, List.flatMap_append, cover_append, ← h.1]
  have e := hq.1
  rw [List.take_of_length_le (by simp)] at e
  simpa using e
theorem over_any (n : Nat) (A : Option Addr) (cap : Nat) (l : List ByteArray) (w : World) (hn : n < 4294967296) (hr : Rd w A (strs l)) (hl : l.length ≤ 9223372036854775807) (hs : ∀ x ∈ l, x.size ≤ 9223372036854775807) :
    Calls Tryz.prog 96 #[.int .u32 (n : Int), .slice A l.length cap] w fun e w' =>
      e = .returned (.int .u32 ((4294967295 ^^^ Go.PM.cover (4294967295 ^^^ n) (l.flatMap fun x => x.data.toList) : Nat) : Int)) ∧ Below w.heap.size w w' := by
  have hN : bits .xor .u32 IntKind.u32.max (n : Int) = ((4294967295 ^^^ n : Nat) : Int) := u32_xor_nat 4294967295 n (by omega) hn
  have hNl : 4294967295 ^^^ n < 4294967296 := Nat.xor_lt_two_pow (n := 32) (by omega) hn
  generalize 4294967295 ^^^ n = R at hN hNl ⊢
  have HNL := Lib.hid hNl
  clear hNl
  go_enter Tryz.func96, Tryz.ntmps96
  go_wp2_with fail
  refine (sums_any _).mono ?_
  rintro e w1 ⟨rfl, hb1⟩
  have hst := run_storeCells_new (P := Tryz.prog) w1 246 #[.int .u32 0, .int .u32 0, .int .u32 0, .int .u32 0, .int .u32 0, .int .u32 0, .int .u32 0, .int .u32 0, .int .u32 0, .int .u32 0, .int .u32 0, .int .u32 0, .int .u32 0, .int .u32 0, .int .u32 0, .int .u32 0] (tab 16) (by kernel_rfl) rfl (by simp [tab, tabl, List.range, List.range.loop, Value.oneCell'])
  have hT := BlkAt.made w1 246 (tab 16)
  have hB := ba hb1 (.cells (tab 16) 246)
  have HR := Lib.hid (hr.below hB)
  have HT := Lib.hid hT
  have HB := Lib.hid hB
  clear hT hB hr hb1
  go_wp2
  refine wp_world fun W hW => ?_
  rw [← hW] at HR HT HB
  clear hW hst
  go_loop [6, 15] (fun rr kk => ∃ k r : Nat, k ≤ l.length ∧ kk = .int .i64 (k : Int) ∧ rr = .int .u32 (r : Int) ∧ Rp R l k r) (fun _ k => l.length - (intOf k).toNat)
  case atStart => exact ⟨0, R, by omega, rfl, rfl, rfl, HNL.out⟩
  case round =>
    obtain ⟨k, r, hk, rfl, rfl, hrp⟩ := hrel
    by_cases hkl : k < l.length
    · obtain ⟨b, off, rfl, hb, hc⟩ := HR.out.at_ (k := k) (by rw [strs_length]; exact hkl)
      rw [strs_at l k hkl] at hc
      have hxs := hs l[k] (List.getElem_mem hkl)
      have HST : Hid (∀ q, Rf r l[k].data.toList l[k].size q → Rp R l (k + 1) q) := fun q hq => hrp.step hkl hq
      have HR0 : Hid (Rf r l[k].data.toList 0 r) := ⟨rfl, hrp.2⟩
      generalize l[k] = x at hc hxs HST HR0
      clear hrp
      go_wp2
      go_loop [6, 21] (fun rr kk => ∃ i q : Nat, i ≤ x.size ∧ kk = .int .i64 (i : Int) ∧ rr = .int .u32 (q : Int) ∧ Rf r x.data.toList i q) (fun _ k => x.size - (intOf k).toNat)
      case atStart => exact ⟨0, r, by omega, rfl, rfl, HR0.out⟩
      case round =>
        obtain ⟨i, q, hi, rfl, rfl, hrf⟩ := hrel
        by_cases hil : i < x.size
        · have hst := hrf.step hil
          have hq := hrf.2
          have hxl : q ^^^ x[i].toNat < 4294967296 := Nat.xor_lt_two_pow (n := 32) hq (by have := x[i].toNat_lt; omega)
          have hx1 : bits .xor .u32 (q : Int) ((x[i].toNat : Int) % 4294967296) = ((q ^^^ x[i].toNat : Nat) : Int) := by
            rw [show (x[i].toNat : Int) % 4294967296 = (x[i].toNat : Int) by have := x[i].toNat_lt; omega]
            exact u32_xor_nat _ _ hq (by have := x[i].toNat_lt; omega)
          clear hrf
          generalize q ^^^ x[i].toNat = X at hst hxl hx1
          have ha1 : bits .and .u32 (X : Int) 15 = ((X % 16 : Nat) : Int) := by rw [← nat_mask4]; exact u32_and_nat X 15 hxl (by omega)
          have hyl := csteps_lt 4 hxl
          have hy1 : bits .xor .u32 ((X : Int) / 16) (csteps 4 (X % 16) : Int) = (csteps 4 X : Int) := by
            rw [show (X : Int) / 16 = ((X / 16 : Nat) : Int) by omega, u32_xor_nat _ _ (by omega) (csteps_lt 4 (by omega)), csteps_table 4 X]
          have hd1 : W.cell? ⟨w1.heap.size, X % 16, none⟩ = some (.int .u32 (csteps 4 (X % 16) : Int)) := by
            rw [HT.out.cell, tab_at _ _ (by omega), if_pos (by omega)]
          have hm1 : X % 16 < 16 := by omega
          generalize csteps 4 X = Y at hst hyl hy1
          generalize csteps 4 (X % 16) = t1 at hy1 hd1
          generalize X % 16 = m1 at ha1 hd1 hm1
          have ha2 : bits .and .u32 (Y : Int) 15 = ((Y % 16 : Nat) : Int) := by rw [← nat_mask4]; exact u32_and_nat Y 15 hyl (by omega)
          have hy2 : bits .xor .u32 ((Y : Int) / 16) (csteps 4 (Y % 16) : Int) = (csteps 4 Y : Int) := by
            rw [show (Y : Int) / 16 = ((Y / 16 : Nat) : Int) by omega, u32_xor_nat _ _ (by omega) (csteps_lt 4 (by omega)), csteps_table 4 Y]
          have hd2 : W.cell? ⟨w1.heap.size, Y % 16, none⟩ = some (.int .u32 (csteps 4 (Y % 16) : Int)) := by
            rw [HT.out.cell, tab_at _ _ (by omega), if_pos (by omega)]
          have hm2 : Y % 16 < 16 := by omega
          generalize csteps 4 Y = Z at hst hy2
          generalize csteps 4 (Y % 16) = t2 at hy2 hd2
          generalize Y % 16 = m2 at ha2 hd2 hm2
          have HST2 := Lib.hid hst
          clear hst hq
          have hTl := HT.out.lt
          go_wp2
          go_round
          case rel => exact ⟨i + 1, Z, by omega, by go_num, rfl, HST2.out⟩
          case measure => simp [intOf]; omega
        · obtain rfl : i = x.size := by omega
          have hrn := HST.out q hrf
          have HRN := Lib.hid hrn
          clear hrn hrf
          go_wp2
          go_round
          case rel => exact ⟨k + 1, q, by omega, by go_num, rfl, HRN.out⟩
          case measure => simp [intOf]; omega
    · obtain rfl : k = l.length := by omega
      have hrl := hrp.2
      have hN2 : bits .xor .u32 IntKind.u32.max (r : Int) = ((4294967295 ^^^ r : Nat) : Int) := u32_xor_nat 4294967295 r (by omega) hrl
      have e := hrp.1
      rw [List.take_of_length_le (by simp)] at e
      have HE := Lib.hid e
      clear e hrp
      go_wp2
      go_ret
      rw [← HE.out]
      exact ⟨rfl, HB.out⟩
theorem csum_any (A : Option Addr) (cap : Nat) (l : List ByteArray) (w : World) (hr : Rd w A (strs l)) (hl : l.length ≤ 9223372036854775807) (hs : ∀ x ∈ l, x.size ≤ 9223372036854775807) :
    Calls Tryz.prog 51 #[.slice A l.length cap] w fun e w' => e = .returned (.int .u32 (csum (l.flatMap fun x => x.data.toList) : Int)) ∧ Below w.heap.size w w' := by
  have H := over_any 0 A cap l w (by omega) hr hl hs
  rw [Nat.xor_zero] at H
  have HH := Lib.hid H
  clear H
  go_enter Tryz.func51, Tryz.ntmps51
  go_wp2_with fail
  refine HH.out.mono ?_
  rintro e w1 ⟨rfl, hb1⟩
  go_wp2
  go_ret
  exact ⟨rfl, hb1⟩
theorem sum_one (s : ByteArray) (b : Nat) (w : World) (hk : BlkAt w b 9 #[.string s]) (hs : s.size ≤ 9223372036854775807) :
    Calls Tryz.prog 51 #[.slice (some ⟨b, 0, none⟩) 1 1] w fun e w' => e = .returned (.int .u32 (csum s.data.toList : Int)) ∧ Below w.heap.size w w' := by
  have := csum_any (some ⟨b, 0, none⟩) 1 [s] w (.inr ⟨_, _, rfl, hk.lt, fun j u hj => by
    rw [Nat.zero_add, hk.cell j]
    simpa [strs] using hj⟩) (by simp) (by simpa using hs)
  simpa using this
theorem check_any (s q : ByteArray) (w : World) (hs : s.size ≤ 9223372036854775807) (hq : q.size = 4) :
    Calls Tryz.prog 73 #[.string s, .string q] w fun e w' => e = .returned (.bool (decide (cget q.data.toList = csum s.data.toList))) ∧ Below w.heap.size w w' := by
  have hG : ∀ x : World, Calls Tryz.prog 121 #[.string q] x fun e w' => e = .returned (.tuple #[.int .u32 (cget q.data.toList : Int), .bool true]) ∧ Below x.heap.size x w' := fun x => cget_any q x hq
  have hS : ∀ x : World, Calls Tryz.prog 51 #[.slice (some ⟨x.heap.size, 0, none⟩) 1 1] (x.alloc (.cells #[.string s] 9)) fun e w' => e = .returned (.int .u32 (csum s.data.toList : Int)) ∧ Below (x.alloc (.cells #[.string s] 9)).heap.size (x.alloc (.cells #[.string s] 9)) w' := fun x => sum_one s _ _ (BlkAt.made _ _ _) hs
  generalize cget q.data.toList = G at hG ⊢
  generalize csum s.data.toList = C at hS ⊢
  have HG := Lib.hid hG
  have HS := Lib.hid hS
  have hgc : ((G : Int) == (C : Int)) = decide (G = C) := by rw [Bool.eq_iff_iff]; simp; omega
  clear hG hS
  go_enter Tryz.func73, Tryz.ntmps73
  go_wp2_with fail
  refine (HG.out _).mono ?_
  rintro e w1 ⟨rfl, hb1⟩
  go_wp2_with fail
  refine (HS.out _).mono ?_
  rintro e w2 ⟨rfl, hb2⟩
  go_wp2
  go_ret
  exact ⟨rfl, bb (ba hb1 _) hb2⟩
end Go.Proofs.YtgidfnhfgiehjaaGreatDoor
end
