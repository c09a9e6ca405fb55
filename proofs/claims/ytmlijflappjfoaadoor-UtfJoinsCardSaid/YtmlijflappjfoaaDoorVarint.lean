/-
  Contracts of layer 2 (varint) and of the document's answer: what each function answers. Conditions: numbers within uint64, texts within int.
-/
import Derived.Test.YtmlijflappjfoaaDoorProg
import Derived.Test.YtmlijflappjfoaaDoorMem
import Derived.Test.YtmlijflappjfoaaDoorPlainStream
import Derived.WalkSpells
import Derived.WalkLawsBesides
import Derived.Deep.QuietTactic
import Derived.BigQuiet
import Derived.Lib.Hide
import Derived.Deep.OwnRows
import Derived.KernelRfl
namespace Go.Proofs.YtmlijflappjfoaaDoor
open Go.RowKit Go.PM
set_option maxRecDepth 100000

theorem info_u8 : (Tryd.prog.info? 5).map (fun i => (i.zero, i.size, i.bytes)) = some (some (.int .u8 0), 1, 1) := by kernel_rfl

theorem size_any (n : Nat) (w : World) (hn : In64 n) :
    Calls Tryd.prog 70 #[.int .u64 (n : Int)] w fun e w' => e = .returned (.int .i64 (vsz n : Int)) ∧ w = w' := by
  go_enter Tryd.func70, Tryd.ntmps70
  have h10 := vsz_le10 hn.out
  have HN := Lib.hid hn
  clear hn
  go_wp2
  go_loop [0, 3] (fun v c => ∃ m k : Nat, v = .int .u64 (m : Int) ∧ c = .int .i64 (k : Int) ∧ k + vsz m = vsz n + 1 ∧ In64 m) (fun v _ => (intOf v).toNat)
  case atStart => exact ⟨n, 1, rfl, rfl, by omega, HN.out⟩
  case round =>
    obtain ⟨m, k, rfl, rfl, hk, hm⟩ := hrel
    have HK := Lib.hid hk
    have HM := Lib.hid hm
    clear hm
    have hp := vsz_pos m
    have hk11 : k ≤ 10 := by omega
    clear hk hp
    by_cases h : m < 128
    · go_wp2
      go_ret
      have e := vsz_small h
      have := HK.out
      exact ⟨congrArg (fun x : Int => Ending.returned (.int .i64 x)) (by omega), rfl⟩
    · go_wp2
      go_round
      case rel =>
        have hb := vsz_big (n := m) (by omega)
        have := HK.out
        exact ⟨m / 128, k + 1, by go_num, by go_num, by omega, Nat.lt_of_le_of_lt (Nat.div_le_self _ _) HM.out⟩
      case measure => simp [intOf]; omega

/-- What Put has laid down after i rounds. -/
def Lay (n L i m : Nat) (C : Array Value) : Prop := m = n / 128 ^ i ∧ C.toList = bvals (vraw i n) ++ List.replicate (L - i) (.int .u8 0)
theorem Lay.start (n L : Nat) : Lay n L 0 n (madeCells #[.int .u8 0] L) := ⟨by simp, by rw [toList_madeCells_one]; simp [vraw, bvals]⟩
theorem Lay.at_ {n L i m : Nat} {C : Array Value} (h : Lay n L i m C) (hi : i < L) : C[i]? = some (.int .u8 0) := by
  have : C[i]? = C.toList[i]? := by simp
  rw [this, h.2, List.getElem?_append_right (by rw [bvals_length, vraw_length]; omega), bvals_length, vraw_length, Nat.sub_self, List.getElem?_replicate]
  simp; omega
theorem Lay.step {n L i m : Nat} {C : Array Value} (h : Lay n L i m C) (hi : i < L) : Lay n L (i + 1) (m / 128) (C.setIfInBounds i (.int .u8 ((m : Int) % 128 + 128))) := by
  obtain ⟨rfl, hC⟩ := h
  refine ⟨by rw [Nat.div_div_eq_div_mul, Nat.pow_succ], ?_⟩
  rw [Array.toList_setIfInBounds, hC, vraw_snoc]
  have e : L - i = (L - (i + 1)) + 1 := by omega
  rw [e, List.replicate_succ, List.set_append_right _ _ (by rw [bvals_length, vraw_length]; omega), bvals_length, vraw_length, Nat.sub_self]
  simp only [List.set_cons_zero, bvals, List.map_append, List.map_cons, List.map_nil, List.append_assoc, List.cons_append, List.nil_append]
  congr 3
  rw [toNat_lo (by omega)]
  omega
theorem Lay.done {n i m : Nat} {C : Array Value} (h : Lay n (vsz n) i m C) (hi : i = vsz n) :
    C[vsz n - 1]? = some (.int .u8 ((n / 128 ^ (vsz n - 1) : Nat) + 128 : Int)) ∧ (C.setIfInBounds (vsz n - 1) (.int .u8 (n / 128 ^ (vsz n - 1) : Nat))).toList = bvals (vput n) := by
  subst hi
  obtain ⟨_, hC⟩ := h
  have hp := vsz_pos n
  have ht := vtop_lt n
  rw [Nat.sub_self, List.replicate_zero, List.append_nil] at hC
  have e : vsz n = (vsz n - 1) + 1 := by omega
  rw [e, vraw_snoc] at hC
  rw [Nat.mod_eq_of_lt ht] at hC
  constructor
  · have : C[vsz n - 1]? = C.toList[vsz n - 1]? := by simp
    rw [this, hC, bvals_at _ _ (by simp [vraw_length])]
    rw [List.getElem_append_right (by rw [vraw_length]; omega)]
    simp only [vraw_length, Nat.sub_self, List.getElem_cons_zero]
    rw [toNat_lo (by omega)]
    rfl
  · rw [Array.toList_setIfInBounds, hC, vput_raw]
    unfold bvals
    rw [List.map_append, List.map_append, List.set_append_right _ _ (by simp [vraw_length])]
    simp only [List.length_map, vraw_length, Nat.sub_self, List.map_cons, List.map_nil, List.set_cons_zero]
    rw [toNat_lo (by omega)]

theorem and127 (m : Nat) (h : In64 m) : bits .and .u64 (m : Int) 127 = (m : Int) % 128 := by
  have := bits_and_u64_nat m 127 h.out (by omega)
  rw [show (127 : Nat) = 2 ^ 7 - 1 from rfl, Nat.and_two_pow_sub_one_eq_mod] at this
  simpa using this
theorem or128 (m : Nat) : bits .or .u8 ((m : Int) % 128) 128 = (m : Int) % 128 + 128 := by
  have := u8_or_nat (m % 128) 128 (by omega) (by omega)
  have e : m % 128 ||| 128 = m % 128 + 128 := by
    have := Nat.two_pow_add_eq_or_of_lt (i := 7) (b := m % 128) (by omega) 1
    rw [Nat.or_comm]
    have e7 : (2 : Nat) ^ 7 * 1 = 128 := rfl
    rw [e7] at this
    omega
  rw [e] at this
  simpa using this
theorem and127b (m : Nat) (h : m < 128) : bits .and .u8 ((m : Int) + 128) 127 = (m : Int) := by
  have := u8_and_nat (m + 128) 127 (by omega) (by omega)
  rw [show (127 : Nat) = 2 ^ 7 - 1 from rfl, Nat.and_two_pow_sub_one_eq_mod, show (m + 128) % 2 ^ 7 = m by omega] at this
  simpa using this

theorem put_any (n : Nat) (w : World) (hn : In64 n) :
    Calls Tryd.prog 72 #[.int .u64 (n : Int)] w fun e w' => e = .returned (.string ⟨(vput n).toArray⟩) ∧ Below w.heap.size w w' := by
  have h10 := vsz_le10 hn
  have hp := vsz_pos n
  have hmk := run_make_row' (P := Tryd.prog) 79 5 (.int .u8 0) 1 Tryd.underlying79 info_u8 rfl .i64 .i64 (vsz n) (by omega) (by omega)
  go_enter Tryd.func72, Tryd.ntmps72
  go_wp2_with (go_at_call 70; refine (size_any n _ hn).mono ?_; rintro e w' ⟨rfl, rfl⟩)
  clear hmk
  have HN := Lib.hid hn
  clear hn
  go_loopw [0, 10] (fun nn k wr => ∃ (i m : Nat) (C : Array Value), i ≤ vsz n ∧ k = .int .i64 (i : Int) ∧ nn = .int .u64 (m : Int) ∧ wr = w.alloc (.cells C 5) ∧ Lay n (vsz n) i m C ∧ In64 m) (fun _ k _ => vsz n - (intOf k).toNat)
  case atStart => exact ⟨0, n, _, Nat.zero_le _, rfl, rfl, rfl, Lay.start _ _, HN.out⟩
  case round =>
    obtain ⟨i, m, C, hi, rfl, rfl, rfl, hl, hm⟩ := hrel
    have HL := Lib.hid hl
    have HM := Lib.hid hm
    have e1 := and127 m hm
    have e2 := or128 m
    clear hm hl
    by_cases hlt : i < vsz n
    · have hc := HL.out.at_ hlt
      go_wp2
      go_roundw
      case rel => exact ⟨i + 1, m / 128, _, by omega, by go_num, by go_num, rfl, HL.out.step hlt, Nat.lt_of_le_of_lt (Nat.div_le_self _ _) HM.out⟩
      case measure => simp [intOf]; omega
    · have hi' : i = vsz n := by omega
      obtain ⟨d1, d2⟩ := HL.out.done hi'
      have ht := vtop_lt n
      generalize hq : n / 128 ^ (vsz n - 1) = q at d1 d2 ht
      have e3 := and127b q ht
      have D2 := Lib.hid d2
      have hcv := run_row_string (P := Tryd.prog) (w.alloc (.cells (C.setIfInBounds (vsz n - 1) (.int .u8 (q : Int))) 5)) 79 9 5 w.heap.size (vsz n) (vsz n) _ (vput n) Tryd.underlying79 Tryd.underlying5 Tryd.underlying9 (BlkAt.made _ _ _) (vput_length n).symm (by rw [D2.out, ← bvals_length, List.take_length])
      clear hi' d2 hq
      go_wp2
      go_ret
      exact ⟨rfl, ba b0 _⟩

/-- What Get knows after i rounds. -/
def Gt (l : List UInt8) (i acc : Nat) : Prop := In64 acc ∧ (i < 10 → acc < 128 ^ i ∧ vget l = vgetL i acc (l.drop i)) ∧ (i = 10 → vget l = (0, 0, 3))
theorem mask127 (c : UInt8) : bits .and .u8 (c.toNat : Int) 127 = (c.toNat : Int) % 128 := by
  have := u8_and_nat c.toNat 127 c.toNat_lt (by omega)
  rw [show (127 : Nat) = 2 ^ 7 - 1 from rfl, Nat.and_two_pow_sub_one_eq_mod] at this
  simpa using this
theorem drop_at (s : ByteArray) (i : Nat) (hi : i < s.size) : s.data.toList.drop i = s[i] :: s.data.toList.drop (i + 1) := by
  rw [List.drop_eq_getElem_cons (by simpa using hi)]
  rfl
theorem drop_end (s : ByteArray) (i : Nat) (hi : s.size ≤ i) : s.data.toList.drop i = [] := by
  apply List.drop_eq_nil_of_le
  simpa using hi

theorem pow128 (i : Nat) : 128 ^ i = 2 ^ (7 * i) := by rw [Nat.pow_mul]
theorem or_any (acc c i : Nat) (ha : In64 acc) : ∃ X : Nat, bits .or .u64 (acc : Int) (IntKind.u64.wrap ((c : Int) % 128 * 2 ^ (7 * i))) = (X : Int) ∧ In64 X ∧ (acc < 128 ^ i → i < 10 → (i = 9 → c % 128 ≤ 1) → X = acc + c % 128 * 128 ^ i) := by
  have e1 : ((c : Int) % 128 * 2 ^ (7 * i)) = ((c % 128 * 128 ^ i : Nat) : Int) := by rw [pow128]; push_cast; rfl
  have e2 : ∀ y : Nat, IntKind.u64.wrap (y : Int) = ((y % 18446744073709551616 : Nat) : Int) := fun y => by rw [IntKind.wrap_u64]; omega
  have hlt : c % 128 * 128 ^ i % 18446744073709551616 < 18446744073709551616 := Nat.mod_lt _ (by omega)
  refine ⟨acc ||| (c % 128 * 128 ^ i % 18446744073709551616), ?_, ?_, ?_⟩
  · rw [e1, e2]; exact bits_or_u64_nat _ _ ha.out hlt
  · exact Nat.or_lt_two_pow (n := 64) ha.out hlt
  · intro h1 h2 h9
    have hb : c % 128 * 128 ^ i < 18446744073709551616 := by
      by_cases e : i = 9
      · subst e
        have := h9 rfl
        have : c % 128 * 128 ^ 9 ≤ 1 * 128 ^ 9 := Nat.mul_le_mul_right _ this
        exact Nat.lt_of_le_of_lt this (by decide)
      · have h3 : 128 ^ i ≤ 128 ^ 8 := pow_lt (by omega)
        have : c % 128 * 128 ^ i ≤ 127 * 128 ^ 8 := Nat.mul_le_mul (by omega) h3
        exact Nat.lt_of_le_of_lt this (by decide)
    rw [Nat.mod_eq_of_lt hb, Nat.or_comm]
    rw [pow128] at h1 ⊢
    have := Nat.two_pow_add_eq_or_of_lt h1 (c % 128)
    rw [Nat.mul_comm (c % 128), ← this]
    omega
theorem Gt.next {l r : List UInt8} {i acc X : Nat} {c : UInt8} (h : Gt l i acc) (hi : i < 10) (hd : l.drop i = c :: r) (hr : l.drop (i + 1) = r) (hc : 128 ≤ c.toNat) (hX : In64 X)
    (hv : acc < 128 ^ i → i < 10 → (i = 9 → c.toNat % 128 ≤ 1) → X = acc + c.toNat % 128 * 128 ^ i) : Gt l (i + 1) X := by
  obtain ⟨h1, h2⟩ := h.2.1 hi
  rw [hd, vgetL, if_neg (by omega), if_pos hc] at h2
  refine ⟨hX, fun h3 => ?_, fun h3 => ?_⟩
  · have e := hv h1 hi (fun h => by omega)
    rw [hr, e]
    refine ⟨?_, h2⟩
    have : c.toNat % 128 * 128 ^ i ≤ 127 * 128 ^ i := Nat.mul_le_mul_right _ (by omega)
    rw [Nat.pow_succ]; omega
  · rw [h2]
    have : 10 ≤ i + 1 := by omega
    cases r <;> simp [vgetL, this]
theorem Gt.stop {l r : List UInt8} {i acc : Nat} {c : UInt8} (h : Gt l i acc) (hi : i < 10) (hd : l.drop i = c :: r) (hc : ¬ 128 ≤ c.toNat) :
    vget l = if i = 9 ∧ 1 < c.toNat then (0, 0, 3) else if 0 < i ∧ c.toNat = 0 then (0, 0, 2) else (acc + c.toNat * 128 ^ i, i + 1, 0) := by
  obtain ⟨h1, h2⟩ := h.2.1 hi
  rw [hd, vgetL, if_neg (by omega), if_neg hc] at h2
  exact h2

theorem get_any (s : ByteArray) (w : World) (hs : s.size ≤ 9223372036854775807) :
    Calls Tryd.prog 84 #[.string s] w fun e w' => e = .returned (.tuple #[.int .u64 ((vget s.data.toList).1 : Int), .int .i64 ((vget s.data.toList).2.1 : Int), .int .i64 ((vget s.data.toList).2.2 : Int)]) ∧ Below w.heap.size w w' := by
  generalize hV : vget s.data.toList = V
  have HV := Lib.hid hV
  clear hV
  go_enter Tryd.func84, Tryd.ntmps84
  go_wp2
  all_goals
    go_loop [5, 10] (fun nn k => ∃ i acc : Nat, i ≤ 10 ∧ i ≤ s.size ∧ k = .int .i64 (i : Int) ∧ nn = .int .u64 (acc : Int) ∧ Gt s.data.toList i acc) (fun _ k => 10 - (intOf k).toNat)
    case atStart => exact ⟨0, 0, by omega, by omega, rfl, rfl, by unfold In64; omega, fun _ => ⟨by decide, rfl⟩, fun h => by omega⟩
    case round =>
      obtain ⟨i, acc, hi, his, rfl, rfl, hg⟩ := hrel
      have HG := Lib.hid hg
      clear hg
      by_cases hlt : i < s.size ∧ i < 10
      · obtain ⟨hl1, hl2⟩ := hlt
        have em := mask127 s[i]
        obtain ⟨X, hX, hX64, hXv⟩ := or_any acc s[i].toNat i HG.out.1
        have HX := Lib.hid (And.intro hX64 hXv)
        have hd := drop_at s i hl1
        have HD := Lib.hid hd
        clear hX64 hXv hd
        by_cases h1 : 128 ≤ s[i].toNat
        · have hn := HG.out.next hl2 HD.out rfl h1 HX.out.1 HX.out.2
          have HNx := Lib.hid hn
          clear hn
          go_wp2
          go_round
          case rel => exact ⟨i + 1, X, by omega, by omega, by go_num, rfl, HNx.out⟩
          case measure => simp [intOf]; omega
        · have hst := HG.out.stop hl2 HD.out h1
          rw [HV.out] at hst
          by_cases h2 : i = 9 ∧ 1 < s[i].toNat
          · rw [if_pos h2] at hst
            obtain ⟨h2a, h2b⟩ := h2
            have HS := Lib.hid hst
            clear hst
            have t9 : ((i : Int) == 9) = true := by rw [beq_iff_eq]; omega
            have h2c : (1 : Int) < (s[i].toNat : Int) := by omega
            clear h2a
            go_wp2
            go_ret3
            rw [HS.out]
            exact ⟨rfl, Below.refl _ _⟩
          · rw [if_neg h2] at hst
            by_cases h3 : 0 < i ∧ s[i].toNat = 0
            · rw [if_pos h3] at hst
              obtain ⟨h3a, h3b⟩ := h3
              have HS := Lib.hid hst
              have t0 : ((s[i].toNat : Int) == 0) = true := by rw [beq_iff_eq]; omega
              have t1 : ¬ (1 : Int) < (s[i].toNat : Int) := by omega
              have p0 : (0 : Int) < (i : Int) := by omega
              have H3 := Lib.hid h3b
              clear hst h3b h2
              by_cases h9 : i = 9
              · have t9 : ((i : Int) == 9) = true := by rw [beq_iff_eq]; omega
                clear h9
                go_wp2
                go_ret3
                rw [HS.out]
                exact ⟨rfl, Below.refl _ _⟩
              · have t9 : ((i : Int) == 9) = false := by rw [beq_eq_false_iff_ne]; omega
                go_wp2
                go_ret3
                rw [HS.out]
                exact ⟨rfl, Below.refl _ _⟩
            · rw [if_neg h3] at hst
              have hX2 : X = acc + s[i].toNat * 128 ^ i := by
                have := HX.out.2 (HG.out.2.1 hl2).1 hl2 (fun h => by omega)
                rw [this, Nat.mod_eq_of_lt (by omega)]
              rw [← hX2] at hst
              have HS := Lib.hid hst
              have H2 := Lib.hid h2
              have H3 := Lib.hid h3
              clear hst hX2 h2 h3
              by_cases h9 : i = 9
              · have t9 : ((i : Int) == 9) = true := by rw [beq_iff_eq]; omega
                have t1 : ¬ (1 : Int) < (s[i].toNat : Int) := by have := H2.out; omega
                have t0 : ((s[i].toNat : Int) == 0) = false := by rw [beq_eq_false_iff_ne]; have := H3.out; omega
                have p0 : (0 : Int) < (i : Int) := by omega
                clear h9
                go_wp2
                go_ret3
                rw [HS.out]
                exact ⟨rfl, Below.refl _ _⟩
              · have t9 : ((i : Int) == 9) = false := by rw [beq_eq_false_iff_ne]; omega
                by_cases p0 : 0 < i
                · have t0 : ((s[i].toNat : Int) == 0) = false := by rw [beq_eq_false_iff_ne]; have := H3.out; omega
                  go_wp2
                  go_ret3
                  rw [HS.out]
                  exact ⟨rfl, Below.refl _ _⟩
                · go_wp2
                  go_ret3
                  rw [HS.out]
                  exact ⟨rfl, Below.refl _ _⟩
      · by_cases h10 : i = 10
        · have hst := HG.out.2.2 h10
          rw [HV.out] at hst
          have HS := Lib.hid hst
          clear hst
          subst h10
          go_wp2
          go_ret3
          rw [HS.out]
          exact ⟨rfl, Below.refl _ _⟩
        · have hst := (HG.out.2.1 (by omega)).2
          rw [HV.out, drop_end s i (by omega), vgetL, if_neg (by omega)] at hst
          have HS := Lib.hid hst
          clear hst
          first
            | (exfalso; omega)
            | (go_wp2
               go_ret3
               rw [HS.out]
               exact ⟨rfl, Below.refl _ _⟩)
end Go.Proofs.YtmlijflappjfoaaDoor
