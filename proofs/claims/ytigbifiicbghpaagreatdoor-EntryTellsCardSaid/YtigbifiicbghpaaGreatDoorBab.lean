/-
  Texts of the proof, joined: Varint Cursor Sl Reg Varint2 Ref02 Ref02b Crc. Conditions: as each names.
-/
import Derived.Test.YtigbifiicbghpaaGreatDoorProg
import Derived.Test.YtigbifiicbghpaaGreatDoorBaa
import Derived.WalkSpells
import Derived.WalkLawsBesides
import Derived.Deep.QuietTactic
import Derived.BigQuiet
import Derived.Lib.Hide
import Derived.Deep.OwnRows
import Derived.KernelRfl
import Derived.Laws.AppendOwn
import Derived.OwnWalk
import Derived.Laws.BitsAllLaws

section
/-
  Contracts of layer 2 (varint) and of the document's answer: what each function answers. Conditions: numbers within uint64, texts within int.
-/
namespace Go.Proofs.YtigbifiicbghpaaGreatDoor
open Go.RowKit Go.PM
set_option maxRecDepth 100000

theorem info_u8 : (Tryz.prog.info? 5).map (fun i => (i.zero, i.size, i.bytes)) = some (some (.int .u8 0), 1, 1) := by kernel_rfl

theorem size_any (n : Nat) (w : World) (hn : In64 n) :
    Calls Tryz.prog 62 #[.int .u64 (n : Int)] w fun e w' => e = .returned (.int .i64 (vsz n : Int)) ∧ w = w' := by
  go_enter Tryz.func62, Tryz.ntmps62
  have h10 := vsz_le10 hn.out
  have HN := Lib.hid hn
  clear hn
  go_wp2
  go_loop [0, 3] (fun v c => ∃ m k : Nat, v = .int .u64 (m : Int) ∧ c = .int .i64 (k : Int) ∧ k + vsz m = vsz n + 1 ∧ In64 m) (fun v _ => (intOf v).toNat)
  case atStart => exact ⟨n, 1, rfl, rfl, by omega, HN.out⟩
  case round =>
    obtain ⟨m, k, rfl, rfl, hk, hm⟩ := hrel
    have HK := Lib.hid hk
    have HM := Lib.hid hm
    clear hm
    have hp := vsz_pos m
    have hk11 : k ≤ 10 := by omega
    clear hk hp
    by_cases h : m < 128
    · go_wp2
      go_ret
      have e := vsz_small h
      have := HK.out
      exact ⟨congrArg (fun x : Int => Ending.returned (.int .i64 x)) (by omega), rfl⟩
    · go_wp2
      go_round
      case rel =>
        have hb := vsz_big (n := m) (by omega)
        have := HK.out
        exact ⟨m / 128, k + 1, by go_num, by go_num, by omega, Nat.lt_of_le_of_lt (Nat.div_le_self _ _) HM.out⟩
      case measure => simp [intOf]; omega

/-- What Put has laid down after i rounds. -/
def Lay (n L i m : Nat) (C : Array Value) : Prop := m = n / 128 ^ i ∧ C.toList = bvals (vraw i n) ++ List.replicate (L - i) (.int .u8 0)
theorem Lay.start (n L : Nat) : Lay n L 0 n (madeCells #[.int .u8 0] L) := ⟨by simp, by rw [toList_madeCells_one]; simp [vraw, bvals]⟩
theorem Lay.at_ {n L i m : Nat} {C : Array Value} (h : Lay n L i m C) (hi : i < L) : C[i]? = some (.int .u8 0) := by
  have : C[i]? = C.toList[i]? := by simp
  rw [this, h.2, List.getElem?_append_right (by rw [bvals_length, vraw_length]; omega), bvals_length, vraw_length, Nat.sub_self, List.getElem?_replicate]
  simp; omega
theorem Lay.step {n L i m : Nat} {C : Array Value} (h : Lay n L i m C) (hi : i < L) : Lay n L (i + 1) (m / 128) (C.setIfInBounds i (.int .u8 ((m : Int) % 128 + 128))) := by
  obtain ⟨rfl, hC⟩ := h
  refine ⟨by rw [Nat.div_div_eq_div_mul, Nat.pow_succ], ?_⟩
  rw [Array.toList_setIfInBounds, hC, vraw_snoc]
  have e : L - i = (L - (i + 1)) + 1 := by omega
  rw [e, List.replicate_succ, List.set_append_right _ _ (by rw [bvals_length, vraw_length]; omega), bvals_length, vraw_length, Nat.sub_self]
  simp only [List.set_cons_zero, bvals, List.map_append, List.map_cons, List.map_nil, List.append_assoc, List.cons_append, List.nil_append]
  congr 3
  rw [toNat_lo (by omega)]
  omega
theorem Lay.done {n i m : Nat} {C : Array Value} (h : Lay n (vsz n) i m C) (hi : i = vsz n) :
    C[vsz n - 1]? = some (.int .u8 ((n / 128 ^ (vsz n - 1) : Nat) + 128 : Int)) ∧ (C.setIfInBounds (vsz n - 1) (.int .u8 (n / 128 ^ (vsz n - 1) : Nat))).toList = bvals (vput n) := by
  subst hi
  obtain ⟨_, hC⟩ := h
  have hp := vsz_pos n
  have ht := vtop_lt n
  rw [Nat.sub_self, List.replicate_zero, List.append_nil] at hC
  have e : vsz n = (vsz n - 1) + 1 := by omega
  rw [e, vraw_snoc] at hC
  rw [Nat.mod_eq_of_lt ht] at hC
  constructor
  · have : C[vsz n - 1]? = C.toList[vsz n - 1]? := by simp
    rw [this, hC, bvals_at _ _ (by simp [vraw_length])]
    rw [List.getElem_append_right (by rw [vraw_length]; omega)]
    simp only [vraw_length, Nat.sub_self, List.getElem_cons_zero]
    rw [toNat_lo (by omega)]
    rfl
  · rw [Array.toList_setIfInBounds, hC, vput_raw]
    unfold bvals
    rw [List.map_append, List.map_append, List.set_append_right _ _ (by simp [vraw_length])]
    simp only [List.length_map, vraw_length, Nat.sub_self, List.map_cons, List.map_nil, List.set_cons_zero]
    rw [toNat_lo (by omega)]

theorem and127 (m : Nat) (h : In64 m) : bits .and .u64 (m : Int) 127 = (m : Int) % 128 := by
  have := bits_and_u64_nat m 127 h.out (by omega)
  rw [show (127 : Nat) = 2 ^ 7 - 1 from rfl, Nat.and_two_pow_sub_one_eq_mod] at this
  simpa using this
theorem or128 (m : Nat) : bits .or .u8 ((m : Int) % 128) 128 = (m : Int) % 128 + 128 := by
  have := u8_or_nat (m % 128) 128 (by omega) (by omega)
  have e : m % 128 ||| 128 = m % 128 + 128 := by
    have := Nat.two_pow_add_eq_or_of_lt (i := 7) (b := m % 128) (by omega) 1
    rw [Nat.or_comm]
    have e7 : (2 : Nat) ^ 7 * 1 = 128 := rfl
    rw [e7] at this
    omega
  rw [e] at this
  simpa using this
theorem and127b (m : Nat) (h : m < 128) : bits .and .u8 ((m : Int) + 128) 127 = (m : Int) := by
  have := u8_and_nat (m + 128) 127 (by omega) (by omega)
  rw [show (127 : Nat) = 2 ^ 7 - 1 from rfl, Nat.and_two_pow_sub_one_eq_mod, show (m + 128) % 2 ^ 7 = m by omega] at this
  simpa using this

theorem put_any (n : Nat) (w : World) (hn : In64 n) :
    Calls Tryz.prog 43 #[.int .u64 (n : Int)] w fun e w' => e = .returned (.string ⟨(vput n).toArray⟩) ∧ Below w.heap.size w w' := by
  have h10 := vsz_le10 hn
  have hp := vsz_pos n
  have hmk := run_make_row' (P := Tryz.prog) 81 5 (.int .u8 0) 1 Tryz.underlying81 info_u8 rfl .i64 .i64 (vsz n) (by omega) (by omega)
  go_enter Tryz.func43, Tryz.ntmps43
  go_wp2_with (go_at_call 62; refine (size_any n _ hn).mono ?_; rintro e w' ⟨rfl, rfl⟩)
  clear hmk
  have HN := Lib.hid hn
  clear hn
  go_loopw [0, 10] (fun nn k wr => ∃ (i m : Nat) (C : Array Value), i ≤ vsz n ∧ k = .int .i64 (i : Int) ∧ nn = .int .u64 (m : Int) ∧ wr = w.alloc (.cells C 5) ∧ Lay n (vsz n) i m C ∧ In64 m) (fun _ k _ => vsz n - (intOf k).toNat)
  case atStart => exact ⟨0, n, _, Nat.zero_le _, rfl, rfl, rfl, Lay.start _ _, HN.out⟩
  case round =>
    obtain ⟨i, m, C, hi, rfl, rfl, rfl, hl, hm⟩ := hrel
    have HL := Lib.hid hl
    have HM := Lib.hid hm
    have e1 := and127 m hm
    have e2 := or128 m
    clear hm hl
    by_cases hlt : i < vsz n
    · have hc := HL.out.at_ hlt
      go_wp2
      go_roundw
      case rel => exact ⟨i + 1, m / 128, _, by omega, by go_num, by go_num, rfl, HL.out.step hlt, Nat.lt_of_le_of_lt (Nat.div_le_self _ _) HM.out⟩
      case measure => simp [intOf]; omega
    · have hi' : i = vsz n := by omega
      obtain ⟨d1, d2⟩ := HL.out.done hi'
      have ht := vtop_lt n
      generalize hq : n / 128 ^ (vsz n - 1) = q at d1 d2 ht
      have e3 := and127b q ht
      have D2 := Lib.hid d2
      have hcv := run_row_string (P := Tryz.prog) (w.alloc (.cells (C.setIfInBounds (vsz n - 1) (.int .u8 (q : Int))) 5)) 81 9 5 w.heap.size (vsz n) (vsz n) _ (vput n) Tryz.underlying81 Tryz.underlying5 Tryz.underlying9 (BlkAt.made _ _ _) (vput_length n).symm (by rw [D2.out, ← bvals_length, List.take_length])
      clear hi' d2 hq
      go_wp2
      go_ret
      exact ⟨rfl, ba b0 _⟩

/-- What Get knows after i rounds. -/
def Gt (l : List UInt8) (i acc : Nat) : Prop := In64 acc ∧ (i < 10 → acc < 128 ^ i ∧ vget l = vgetL i acc (l.drop i)) ∧ (i = 10 → vget l = (0, 0, 3))
theorem mask127 (c : UInt8) : bits .and .u8 (c.toNat : Int) 127 = (c.toNat : Int) % 128 := by
  have := u8_and_nat c.toNat 127 c.toNat_lt (by omega)
  rw [show (127 : Nat) = 2 ^ 7 - 1 from rfl, Nat.and_two_pow_sub_one_eq_mod] at this
  simpa using this
theorem drop_at (s : ByteArray) (i : Nat) (hi : i < s.size) : s.data.toList.drop i = s[i] :: s.data.toList.drop (i + 1) := by
  rw [List.drop_eq_getElem_cons (by simpa using hi)]
  rfl
theorem drop_end (s : ByteArray) (i : Nat) (hi : s.size ≤ i) : s.data.toList.drop i = [] := by
  apply List.drop_eq_nil_of_le
  simpa using hi

theorem pow128 (i : Nat) : 128 ^ i = 2 ^ (7 * i) := by rw [Nat.pow_mul]
theorem or_any (acc c i : Nat) (ha : In64 acc) : ∃ X : Nat, bits .or .u64 (acc : Int) (IntKind.u64.wrap ((c : Int) % 128 * 2 ^ (7 * i))) = (X : Int) ∧ In64 X ∧ (acc < 128 ^ i → i < 10 → (i = 9 → c % 128 ≤ 1) → X = acc + c % 128 * 128 ^ i) := by
  have e1 : ((c : Int) % 128 * 2 ^ (7 * i)) = ((c % 128 * 128 ^ i : Nat) : Int) := by rw [pow128]; push_cast; rfl
  have e2 : ∀ y : Nat, IntKind.u64.wrap (y : Int) = ((y % 18446744073709551616 : Nat) : Int) := fun y => by rw [IntKind.wrap_u64]; omega
  have hlt : c % 128 * 128 ^ i % 18446744073709551616 < 18446744073709551616 := Nat.mod_lt _ (by omega)
  refine ⟨acc ||| (c % 128 * 128 ^ i % 18446744073709551616), ?_, ?_, ?_⟩
  · rw [e1, e2]; exact bits_or_u64_nat _ _ ha.out hlt
  · exact Nat.or_lt_two_pow (n := 64) ha.out hlt
  · intro h1 h2 h9
    have hb : c % 128 * 128 ^ i < 18446744073709551616 := by
      by_cases e : i = 9
      · subst e
        have := h9 rfl
        have : c % 128 * 128 ^ 9 ≤ 1 * 128 ^ 9 := Nat.mul_le_mul_right _ this
        exact Nat.lt_of_le_of_lt this (by decide)
      · have h3 : 128 ^ i ≤ 128 ^ 8 := pow_lt (by omega)
        have : c % 128 * 128 ^ i ≤ 127 * 128 ^ 8 := Nat.mul_le_mul (by omega) h3
        exact Nat.lt_of_le_of_lt this (by decide)
    rw [Nat.mod_eq_of_lt hb, Nat.or_comm]
    rw [pow128] at h1 ⊢
    have := Nat.two_pow_add_eq_or_of_lt h1 (c % 128)
    rw [Nat.mul_comm (c % 128), ← this]
    omega
theorem Gt.next {l r : List UInt8} {i acc X : Nat} {c : UInt8} (h : Gt l i acc) (hi : i < 10) (hd : l.drop i = c :: r) (hr : l.drop (i + 1) = r) (hc : 128 ≤ c.toNat) (hX : In64 X)
    (hv : acc < 128 ^ i → i < 10 → (i = 9 → c.toNat % 128 ≤ 1) → X = acc + c.toNat % 128 * 128 ^ i) : Gt l (i + 1) X := by
  obtain ⟨h1, h2⟩ := h.2.1 hi
  rw [hd, vgetL, if_neg (by omega), if_pos hc] at h2
  refine ⟨hX, fun h3 => ?_, fun h3 => ?_⟩
  · have e := hv h1 hi (fun h => by omega)
    rw [hr, e]
    refine ⟨?_, h2⟩
    have : c.toNat % 128 * 128 ^ i ≤ 127 * 128 ^ i := Nat.mul_le_mul_right _ (by omega)
    rw [Nat.pow_succ]; omega
  · rw [h2]
    have : 10 ≤ i + 1 := by omega
    cases r <;> simp [vgetL, this]
theorem Gt.stop {l r : List UInt8} {i acc : Nat} {c : UInt8} (h : Gt l i acc) (hi : i < 10) (hd : l.drop i = c :: r) (hc : ¬ 128 ≤ c.toNat) :
    vget l = if i = 9 ∧ 1 < c.toNat then (0, 0, 3) else if 0 < i ∧ c.toNat = 0 then (0, 0, 2) else (acc + c.toNat * 128 ^ i, i + 1, 0) := by
  obtain ⟨h1, h2⟩ := h.2.1 hi
  rw [hd, vgetL, if_neg (by omega), if_neg hc] at h2
  exact h2

theorem get_any (s : ByteArray) (w : World) (hs : s.size ≤ 9223372036854775807) :
    Calls Tryz.prog 67 #[.string s] w fun e w' => e = .returned (.tuple #[.int .u64 ((vget s.data.toList).1 : Int), .int .i64 ((vget s.data.toList).2.1 : Int), .int .i64 ((vget s.data.toList).2.2 : Int)]) ∧ Below w.heap.size w w' := by
  generalize hV : vget s.data.toList = V
  have HV := Lib.hid hV
  clear hV
  go_enter Tryz.func67, Tryz.ntmps67
  go_wp2
  all_goals
    go_loop [5, 10] (fun nn k => ∃ i acc : Nat, i ≤ 10 ∧ i ≤ s.size ∧ k = .int .i64 (i : Int) ∧ nn = .int .u64 (acc : Int) ∧ Gt s.data.toList i acc) (fun _ k => 10 - (intOf k).toNat)
    case atStart => exact ⟨0, 0, by omega, by omega, rfl, rfl, by unfold In64; omega, fun _ => ⟨by decide, rfl⟩, fun h => by omega⟩
    case round =>
      obtain ⟨i, acc, hi, his, rfl, rfl, hg⟩ := hrel
      have HG := Lib.hid hg
      clear hg
      by_cases hlt : i < s.size ∧ i < 10
      · obtain ⟨hl1, hl2⟩ := hlt
        have em := mask127 s[i]
        obtain ⟨X, hX, hX64, hXv⟩ := or_any acc s[i].toNat i HG.out.1
        have HX := Lib.hid (And.intro hX64 hXv)
        have hd := drop_at s i hl1
        have HD := Lib.hid hd
        clear hX64 hXv hd
        by_cases h1 : 128 ≤ s[i].toNat
        · have hn := HG.out.next hl2 HD.out rfl h1 HX.out.1 HX.out.2
          have HNx := Lib.hid hn
          clear hn
          go_wp2
          go_round
          case rel => exact ⟨i + 1, X, by omega, by omega, by go_num, rfl, HNx.out⟩
          case measure => simp [intOf]; omega
        · have hst := HG.out.stop hl2 HD.out h1
          rw [HV.out] at hst
          by_cases h2 : i = 9 ∧ 1 < s[i].toNat
          · rw [if_pos h2] at hst
            obtain ⟨h2a, h2b⟩ := h2
            have HS := Lib.hid hst
            clear hst
            have t9 : ((i : Int) == 9) = true := by rw [beq_iff_eq]; omega
            have h2c : (1 : Int) < (s[i].toNat : Int) := by omega
            clear h2a
            go_wp2
            go_ret3
            rw [HS.out]
            exact ⟨rfl, Below.refl _ _⟩
          · rw [if_neg h2] at hst
            by_cases h3 : 0 < i ∧ s[i].toNat = 0
            · rw [if_pos h3] at hst
              obtain ⟨h3a, h3b⟩ := h3
              have HS := Lib.hid hst
              have t0 : ((s[i].toNat : Int) == 0) = true := by rw [beq_iff_eq]; omega
              have t1 : ¬ (1 : Int) < (s[i].toNat : Int) := by omega
              have p0 : (0 : Int) < (i : Int) := by omega
              have H3 := Lib.hid h3b
              clear hst h3b h2
              by_cases h9 : i = 9
              · have t9 : ((i : Int) == 9) = true := by rw [beq_iff_eq]; omega
                clear h9
                go_wp2
                go_ret3
                rw [HS.out]
                exact ⟨rfl, Below.refl _ _⟩
              · have t9 : ((i : Int) == 9) = false := by rw [beq_eq_false_iff_ne]; omega
                go_wp2
                go_ret3
                rw [HS.out]
                exact ⟨rfl, Below.refl _ _⟩
            · rw [if_neg h3] at hst
              have hX2 : X = acc + s[i].toNat * 128 ^ i := by
                have := HX.out.2 (HG.out.2.1 hl2).1 hl2 (fun h => by omega)
                rw [this, Nat.mod_eq_of_lt (by omega)]
              rw [← hX2] at hst
              have HS := Lib.hid hst
              have H2 := Lib.hid h2
              have H3 := Lib.hid h3
              clear hst hX2 h2 h3
              by_cases h9 : i = 9
              · have t9 : ((i : Int) == 9) = true := by rw [beq_iff_eq]; omega
                have t1 : ¬ (1 : Int) < (s[i].toNat : Int) := by have := H2.out; omega
                have t0 : ((s[i].toNat : Int) == 0) = false := by rw [beq_eq_false_iff_ne]; have := H3.out; omega
                have p0 : (0 : Int) < (i : Int) := by omega
                clear h9
                go_wp2
                go_ret3
                rw [HS.out]
                exact ⟨rfl, Below.refl _ _⟩
              · have t9 : ((i : Int) == 9) = false := by rw [beq_eq_false_iff_ne]; omega
                by_cases p0 : 0 < i
                · have t0 : ((s[i].toNat : Int) == 0) = false := by rw [beq_eq_false_iff_ne]; have := H3.out; omega
                  go_wp2
                  go_ret3
                  rw [HS.out]
                  exact ⟨rfl, Below.refl _ _⟩
                · go_wp2
                  go_ret3
                  rw [HS.out]
                  exact ⟨rfl, Below.refl _ _⟩
      · by_cases h10 : i = 10
        · have hst := HG.out.2.2 h10
          rw [HV.out] at hst
          have HS := Lib.hid hst
          clear hst
          subst h10
          go_wp2
          go_ret3
          rw [HS.out]
          exact ⟨rfl, Below.refl _ _⟩
        · have hst := (HG.out.2.1 (by omega)).2
          rw [HV.out, drop_end s i (by omega), vgetL, if_neg (by omega)] at hst
          have HS := Lib.hid hst
          clear hst
          first
            | (exfalso; omega)
            | (go_wp2
               go_ret3
               rw [HS.out]
               exact ⟨rfl, Below.refl _ _⟩)
end Go.Proofs.YtigbifiicbghpaaGreatDoor
end

section
/-
  Contracts of layer 1 (cursor): what each method answers, and what becomes of the cursor. Conditions: the cursor's block is known, its place lies within its text.
-/
namespace Go.Proofs.YtigbifiicbghpaaGreatDoor
open Go.RowKit Go.PM

/-- A cursor's block: its text, its place. -/
def Cur (w : World) (b : Nat) (s : ByteArray) (k : Nat) : Prop := BlkAt w b 68 #[.string s, .int .i64 (k : Int)] ∧ k ≤ s.size ∧ s.size ≤ 9223372036854775807

theorem cur_over (s : ByteArray) (w : World) :
    Calls Tryz.prog 9 #[.string s] w fun e w' => e = .returned (.pointer (some ⟨w.heap.size, 0, none⟩)) ∧ w' = w.alloc (.cells #[.string s, .int .i64 0] 68) := by
  go_enter Tryz.func9, Tryz.ntmps9
  go_wp2
  go_ret
  exact ⟨rfl, rfl⟩

theorem cur_left (b : Nat) (s : ByteArray) (k : Nat) (w : World) (h : Cur w b s k) :
    Calls Tryz.prog 55 #[.pointer (some ⟨b, 0, none⟩)] w fun e w' => e = .returned (.int .i64 ((s.size : Int) - (k : Int))) ∧ Below w.heap.size w w' := by
  obtain ⟨hb, hk, hs⟩ := h
  have c0 : w.cell? ⟨b, 0, none⟩ = some (.string s) := hb.cell 0
  have c1 : w.cell? ⟨b, 1, none⟩ = some (.int .i64 (k : Int)) := hb.cell 1
  clear hb
  go_enter Tryz.func55, Tryz.ntmps55
  go_wp2
  go_quiet (fail)
  go_wp2
  go_ret
  exact ⟨rfl, below_drewN (Below.refl _ _) _⟩


theorem cur_rest (b : Nat) (s : ByteArray) (k : Nat) (w : World) (h : Cur w b s k) :
    Calls Tryz.prog 18 #[.pointer (some ⟨b, 0, none⟩)] w fun e w' => e = .returned (.string (s.extract k s.size)) ∧ Below w.heap.size w w' := by
  obtain ⟨hb, hk, hs⟩ := h
  have c0 : w.cell? ⟨b, 0, none⟩ = some (.string s) := hb.cell 0
  have c1 : w.cell? ⟨b, 1, none⟩ = some (.int .i64 (k : Int)) := hb.cell 1
  clear hb
  go_enter Tryz.func18, Tryz.ntmps18
  go_wp2
  go_quiet (fail)
  go_wp2
  go_ret
  exact ⟨rfl, below_drewN (Below.refl _ _) _⟩

theorem cur_take_no (b : Nat) (s : ByteArray) (k : Nat) (n : Int) (w : World) (h : Cur w b s k) (h0 : (s.size : Int) - k < n) (h1 : n < 18446744073709551616) :
    Calls Tryz.prog 59 #[.pointer (some ⟨b, 0, none⟩), .int .u64 n] w fun e w' => e = .returned (.tuple #[.string ByteArray.empty, .bool false]) ∧ Below w.heap.size w w' := by
  have H := Lib.hid h
  obtain ⟨hb, hk, hs⟩ := h
  clear hb
  go_enter Tryz.func59, Tryz.ntmps59
  go_wp2_with (go_at_call 55; refine (cur_left b s k _ H.out).mono ?_; rintro e w1 ⟨rfl, hb1⟩)
  go_ret2
  exact ⟨rfl, hb1⟩

theorem cur_take_yes (b : Nat) (s : ByteArray) (k : Nat) (n : Int) (w : World) (h : Cur w b s k) (h0 : 0 ≤ n) (h1 : n ≤ (s.size : Int) - k) :
    Calls Tryz.prog 59 #[.pointer (some ⟨b, 0, none⟩), .int .u64 n] w fun e w' =>
      e = .returned (.tuple #[.string (s.extract k (k + n.toNat)), .bool true]) ∧ Cur w' b s (k + n.toNat) ∧ w.grownBy w' (some b) := by
  have H := Lib.hid h
  obtain ⟨hb, hk, hs⟩ := h
  have HB := Lib.hid hb
  obtain ⟨m, rfl⟩ := Int.eq_ofNat_of_zero_le h0
  rw [Int.toNat_natCast]
  clear hb
  go_enter Tryz.func59, Tryz.ntmps59
  go_wp2_with (go_at_call 55; refine (cur_left b s k _ H.out).mono ?_; rintro e w1 ⟨rfl, hb1⟩; have c0 : w1.cell? ⟨b, 0, none⟩ = some (.string s) := (HB.out.below hb1 HB.out.lt).cell 0; have c1 : w1.cell? ⟨b, 1, none⟩ = some (.int .i64 (k : Int)) := (HB.out.below hb1 HB.out.lt).cell 1; have f1 : w1.frozen? ⟨b, 1, none⟩ = false := (HB.out.below hb1 HB.out.lt).free 1)
  go_quiet (fail)
  go_wp2
  go_ret2
  refine ⟨rfl, ⟨?_, by omega, hs⟩, grown_put (grown_drn (grown_of_below hb1 _) _) _ _⟩
  have := ((HB.out.below hb1 HB.out.lt).drn nq).put 1 (.int .i64 ((k : Int) + (m : Int)))
  simpa using this

theorem cur_byte_no (b : Nat) (s : ByteArray) (k : Nat) (w : World) (h : Cur w b s k) (h0 : s.size = k) :
    Calls Tryz.prog 155 #[.pointer (some ⟨b, 0, none⟩)] w fun e w' => e = .returned (.tuple #[.int .u8 0, .bool false]) ∧ Below w.heap.size w w' := by
  have H := Lib.hid h
  have H0 := Lib.hid h0
  clear h h0
  go_enter Tryz.func155, Tryz.ntmps155
  go_wp2_with (go_at_call 59; refine (cur_take_no b s k 1 _ H.out (by have := H0.out; omega) (by omega)).mono ?_; rintro e w1 ⟨rfl, hb1⟩)
  go_ret2
  exact ⟨rfl, hb1⟩

theorem cur_byte_yes (b : Nat) (s : ByteArray) (k : Nat) (w : World) (h : Cur w b s k) (h0 : k < s.size) :
    Calls Tryz.prog 155 #[.pointer (some ⟨b, 0, none⟩)] w fun e w' =>
      e = .returned (.tuple #[.int .u8 (s[k].toNat : Int), .bool true]) ∧ Cur w' b s (k + 1) ∧ w.grownBy w' (some b) := by
  have H := Lib.hid h
  clear h
  go_enter Tryz.func155, Tryz.ntmps155
  go_wp2_with (go_at_call 59; refine (cur_take_yes b s k 1 _ H.out (by omega) (by omega)).mono ?_; rintro e w1 ⟨rfl, hc1, hg1⟩)
  go_ret2
  refine ⟨?_, hc1, hg1⟩
  have e : (s.extract k (k + 1))[0]'(by simp; omega) = s[k] := by simp [ByteArray.getElem_extract]
  rw [← e]
  rfl



/-! ### A nil cursor -/
theorem nil_left (w : World) : Calls Tryz.prog 55 #[.pointer none] w fun e w' => e = .returned (.int .i64 0) ∧ w = w' := by
  go_enter Tryz.func55, Tryz.ntmps55
  go_wp2
  go_ret
  exact ⟨rfl, rfl⟩
theorem nil_rest (w : World) : Calls Tryz.prog 18 #[.pointer none] w fun e w' => e = .returned (.string ByteArray.empty) ∧ w = w' := by
  go_enter Tryz.func18, Tryz.ntmps18
  go_wp2
  go_ret
  exact ⟨rfl, rfl⟩
theorem nil_take (n : Int) (w : World) : Calls Tryz.prog 59 #[.pointer none, .int .u64 n] w fun e w' => e = .returned (.tuple #[.string ByteArray.empty, .bool false]) ∧ Below w.heap.size w w' := by
  go_enter Tryz.func59, Tryz.ntmps59
  go_wp2_with fail
  go_ret2
  exact ⟨rfl, Below.refl _ _⟩
theorem nil_byte (w : World) : Calls Tryz.prog 155 #[.pointer none] w fun e w' => e = .returned (.tuple #[.int .u8 0, .bool false]) ∧ Below w.heap.size w w' := by
  go_enter Tryz.func155, Tryz.ntmps155
  go_wp2_with (go_at_call 59; refine (nil_take 1 _).mono ?_; rintro e w1 ⟨rfl, hb1⟩)
  go_ret2
  exact ⟨rfl, hb1⟩
end Go.Proofs.YtigbifiicbghpaaGreatDoor
end

section
/-
  Slices that read as lists, over any program. Plain theorems; no condition beside what each names.
-/
namespace Go.PM
open Go.RowKit

/-- A slice's address from which the cells xs are read. -/
def Rd (w : World) (A : Option Addr) (xs : List Value) : Prop :=
  xs = [] ∨ ∃ b off, A = some ⟨b, off, none⟩ ∧ b < w.heap.size ∧ ∀ j u, xs[j]? = some u → w.cell? ⟨b, off + j, none⟩ = some u
section
variable {w w' : World} {A : Option Addr} {xs : List Value}
theorem Rd.nil (w : World) (A : Option Addr) : Rd w A [] := .inl rfl
theorem Rd.at_ (h : Rd w A xs) {k : Nat} (hk : k < xs.length) : ∃ b off, A = some ⟨b, off, none⟩ ∧ b < w.heap.size ∧ w.cell? ⟨b, off + k, none⟩ = some xs[k] := by
  rcases h with rfl | ⟨b, off, e, hb, hc⟩
  · simp at hk
  · exact ⟨b, off, e, hb, hc k _ (List.getElem?_eq_getElem hk)⟩
theorem Rd.keep (h : Rd w A xs) (hs : w.heap.size ≤ w'.heap.size) (hk : ∀ b off, A = some ⟨b, off, none⟩ → b < w.heap.size → w'.heap[b]? = w.heap[b]?) : Rd w' A xs := by
  rcases h with rfl | ⟨b, off, e, hb, hc⟩
  · exact .inl rfl
  · refine .inr ⟨b, off, e, by omega, fun j u hj => ?_⟩
    rw [World.cell?_of_block (w := w) (hk b off e hb)]
    exact hc j u hj
theorem Rd.below (h : Rd w A xs) (hb : Below w.heap.size w w') : Rd w' A xs := h.keep hb.size fun b _ _ hl => hb.block b hl
theorem Rd.grown (h : Rd w A xs) {row : Option Nat} (hg : w.grownBy w' row) (hne : ∀ b off, A = some ⟨b, off, none⟩ → row ≠ some b) : Rd w' A xs :=
  h.keep hg.size fun b off e hl => hg.block b hl (fun e' => hne b off e e'.symm)
theorem Rd.own {base e n size : Nat} {v : Value} (h : w.ownsRow base e size v n xs) : ∃ A c, v = .slice A n c ∧ Rd w A xs ∧ n ≤ c ∧ (∀ b off, A = some ⟨b, off, none⟩ → v.ownBlock = some b ∧ base ≤ b) := by
  rcases h.2 with ⟨rfl, rfl⟩ | ⟨g, cap, cur, rfl, hb, hg, hn, _⟩
  · refine ⟨none, 0, rfl, ?_, Nat.le_refl _, fun _ _ e => by cases e⟩
    left
    have := h.1
    simpa using this
  · refine ⟨some ⟨g, 0, none⟩, cap, rfl, .inr ⟨g, 0, rfl, (Array.getElem?_eq_some_iff.1 hg).1, fun j u hj => ?_⟩, hn, fun b off e => ?_⟩
    · have := h.cells (g := g) rfl j u hj
      rwa [add_at, ← Nat.zero_add j] at this
    · injection e with e
      injection e with e1 e2
      subst e1
      exact ⟨rfl, hb⟩
end

theorem own_below {w w' : World} {base e size n : Nat} {v : Value} {xs : List Value} (h : w.ownsRow base e size v n xs) (hb : Below w.heap.size w w') : w'.ownsRow base e size v n xs :=
  h.kept (grown_of_below hb none) (by cases v.ownBlock <;> simp)
theorem own_far {w w' : World} {base e size n b : Nat} {v : Value} {xs : List Value} (h : w.ownsRow base e size v n xs) (hg : w.grownBy w' (some b)) (hb : b < base) : w'.ownsRow base e size v n xs :=
  h.kept hg (by
    cases hv : v.ownBlock with
    | none => exact .inl rfl
    | some k => right; intro e; have := (h.lt k hv).1; injection e with e; omega)
theorem below_append {a w w' : World} {e size n : Nat} {v : Value} {xs : List Value} (h : Below a.heap.size a w) (ho : w.ownsRow a.heap.size e size v n xs) (hg : w.grownBy w' v.ownBlock) : Below a.heap.size a w' :=
  h.grown hg h.size (fun k hk => (ho.lt k hk).1)
theorem one_new (w : World) (u : Value) (t : TypeId) : ∀ j x, ([u] : List Value)[j]? = some x → (w.alloc (.cells #[u] t)).cell? ((⟨w.heap.size, 0, none⟩ : Addr).add j) = some x := by
  intro j x hj
  match j, hj with
  | 0, hj =>
    rw [add_at, (BlkAt.made w t #[u]).cell]
    simpa using hj
theorem one_cell_int (k : IntKind) (n : Int) : ∀ u ∈ ([.int k n] : List Value), u.oneCell' = true := by
  intro u hu
  simp at hu
  subst hu
  rfl
theorem one_cell_str (s : ByteArray) : ∀ u ∈ ([.string s] : List Value), u.oneCell' = true := by
  intro u hu
  simp at hu
  subst hu
  rfl

/-- Numbers and texts as values. -/
def u64s (l : List Nat) : List Value := l.map fun n : Nat => .int .u64 (n : Int)
def strs (l : List ByteArray) : List Value := l.map .string
theorem u64s_length (l : List Nat) : (u64s l).length = l.length := by simp [u64s]
theorem strs_length (l : List ByteArray) : (strs l).length = l.length := by simp [strs]
theorem u64s_at (l : List Nat) (k : Nat) (hk : k < l.length) (h : k < (u64s l).length) : (u64s l)[k] = .int .u64 (l[k] : Int) := by simp [u64s]
theorem strs_at (l : List ByteArray) (k : Nat) (hk : k < l.length) (h : k < (strs l).length) : (strs l)[k] = .string l[k] := by simp [strs]

/-- How long a slot's text is. -/
def strLen : Value → Nat | .string s => s.size | _ => 0
/-- A text of bytes. -/
def txt (l : List UInt8) : ByteArray := ⟨l.toArray⟩
theorem txt_list (l : List UInt8) : (txt l).data.toList = l := rfl
theorem txt_size (l : List UInt8) : (txt l).size = l.length := rfl
theorem txt_of (s : ByteArray) : txt s.data.toList = s := rfl
theorem txt_eq {s : ByteArray} {l : List UInt8} (h : s.data.toList = l) : s = txt l := by rw [← h]; rfl
theorem len_list (s : ByteArray) : s.data.toList.length = s.size := by simp
theorem ext_rest (s : ByteArray) (k : Nat) : (s.extract k s.size).data.toList = s.data.toList.drop k := by
  rw [ext_list, List.take_of_length_le]
  rw [List.length_drop, len_list]
  omega
end Go.PM
end

section
/-
  A region that draws its order, of operations that compute and of calls that leave all that was there: one walk of it, in the order of the text. Plain theorems, over any program.
-/
namespace Go.PM
open Go.RowKit

/-! ### A region that draws its order, of operations that compute and of calls that leave all that was there -/
/-- A world in which all that was there in w is as it was. -/
def BelW (w : World) : Type := { x : World // Below w.heap.size w x }
def BelW.wld {w : World} (n : BelW w) : World := n.1
theorem BelW.bel {w : World} (n : BelW w) : Below w.heap.size w n.wld := n.2
instance (w : World) : Nonempty (BelW w) := ⟨⟨w, b0⟩⟩
theorem wp_region_below_lit {P : Program} {id : Nat} {Q : Exit → Act → World → Prop} {a : Act} {w : World} {l : List Oper} (hm : P.follows .mixedOrders = true) (hB : Region.lexB .any l.toArray = true)
    (h : wpQuiet P l.toArray (fun w' => ∃ n : BelW w, w' = n.wld) (fun a' => ∀ w', (∃ n : BelW w, w' = n.wld) → Q .normal a' w') l a) : (Code.region id l.toArray true).wp P Q a w :=
  wp_region_quiet (C := fun w' => ∃ n : BelW w, w' = n.wld) hm hB ⟨(⟨w.drew, bd b0⟩ : BelW w), rfl⟩ (by simpa using h)
theorem below_of {P : Program} {f : FuncId} {args : Array Value} {w : World} {n : BelW w} {v : Value} (h : Calls P f args n.wld fun e w' => e = .returned v ∧ Below n.wld.heap.size n.wld w') :
    Calls P f args n.wld fun e w' => e = .returned v ∧ ∃ m : BelW w, w' = m.wld := h.mono fun _ w' ⟨he, hb⟩ => ⟨he, ⟨w', bb n.bel hb⟩, rfl⟩
/-- The world under a name. -/
theorem wp_world {P : Program} {c : Code} {Q : Exit → Act → World → Prop} {a : Act} {w : World} (h : ∀ W, W = w → Code.wp P c Q a W) : Code.wp P c Q a w := h w rfl
end Go.PM
end

section
/-
  Contracts of layer 2, more: a cursor's next number, all numbers of a text, and the document's answers. Conditions: numbers within uint64, texts of at most a million bytes where lists are made.
-/
namespace Go.Proofs.YtigbifiicbghpaaGreatDoor
open Go.RowKit Go.PM
set_option maxRecDepth 100000

theorem next_nil (w : World) : Calls Tryz.prog 56 #[.pointer none] w fun e w' => e = .returned (.tuple #[.int .u64 0, .int .i64 25]) ∧ Below w.heap.size w w' := by
  go_enter Tryz.func56, Tryz.ntmps56
  go_wp2
  go_ret2
  exact ⟨rfl, b0⟩

theorem next_any (b : Nat) (s : ByteArray) (k : Nat) (w : World) (h : Cur w b s k) :
    Calls Tryz.prog 56 #[.pointer (some ⟨b, 0, none⟩)] w fun e w' =>
      e = .returned (.tuple #[.int .u64 ((vget (s.data.toList.drop k)).1 : Int), .int .i64 ((vget (s.data.toList.drop k)).2.2 : Int)]) ∧ Cur w' b s (k + (vget (s.data.toList.drop k)).2.1) ∧ w.grownBy w' (some b) := by
  have H := Lib.hid h
  have hk := h.2.1
  have hs := h.2.2
  generalize hV : vget (s.data.toList.drop k) = V
  obtain ⟨n, m, g⟩ := V
  simp only
  have HV := Lib.hid hV
  clear h hV
  go_enter Tryz.func56, Tryz.ntmps56
  go_wp2_with (go_at_call 18; refine (cur_rest b s k _ H.out).mono ?_; rintro e w1 ⟨rfl, hb1⟩)
  refine (get_any _ _ (by simp; omega)).mono ?_
  rintro e w2 ⟨rfl, hb2⟩
  rw [ext_rest, HV.out]
  have hc : Cur w2 b s k := ⟨(H.out.1.below hb1 H.out.1.lt).below hb2 (by have := hb1.size; have := H.out.1.lt; omega), hk, hs⟩
  have HC := Lib.hid hc
  clear hc
  by_cases hv : g = 0
  · subst hv
    have hk2 := vget_ok (s := s.data.toList.drop k) (by rw [HV.out])
    rw [HV.out] at hk2
    obtain ⟨k1, k2, k3, k4, k5⟩ := hk2
    simp only at k1 k2 k3
    rw [List.length_drop, len_list] at k2
    clear k4 k5
    go_wp2_with (go_at_call 59; refine (cur_take_yes b s k (m : Int) _ HC.out (by omega) (by omega)).mono ?_; rintro e w3 ⟨rfl, hc3, hg3⟩)
    go_ret2
    exact ⟨rfl, by simpa using hc3, grown_trans (grown_of_below (bb hb1 hb2) _) hg3 (fun x e _ => e)⟩
  · have hve := vget_err (s := s.data.toList.drop k) (by rw [HV.out]; exact hv)
    rw [HV.out] at hve
    obtain ⟨rfl, rfl⟩ : n = 0 ∧ m = 0 := by simpa using hve
    have hv2 : ((g : Int) == 0) = false := by rw [beq_eq_false_iff_ne]; omega
    have hv3 : ((g : Int) != 0) = true := by rw [bne_iff_ne]; omega
    clear hve hv
    go_wp2_with fail
    go_ret2
    exact ⟨rfl, HC.out, grown_of_below (bb hb1 hb2) _⟩

theorem info_u64 : (Tryz.prog.info? 76).map (fun i => (i.zero, i.size, i.bytes)) = some (some (.int .u64 0), 1, 8) := by kernel_rfl

/-- Of a text, what All has gathered, and what is left. -/
def AllOf (S done : List Nat) (c : Nat) (R : List UInt8) : Prop := (if (vall R).2 = 0 then (done ++ (vall R).1, 0) else ([], (vall R).2)) = (S, c)
theorem AllOf.start (l : List UInt8) : AllOf (vall l).1 [] (vall l).2 l := by
  unfold AllOf
  split
  · rename_i h; rw [h]; rfl
  · rename_i h
    have : (vall l).1 = [] := by
      rw [vall] at h ⊢
      split
      · rfl
      · rename_i h1; rw [if_neg h1] at h
        split
        · rename_i h2; rw [dif_pos h2] at h
          simp only at h ⊢
          split
          · rename_i h3; rw [if_pos h3] at h; simp at h
          · rfl
        · rfl
    rw [this]
theorem AllOf.stop {S done : List Nat} {c : Nat} (h : AllOf S done c []) : S = done ∧ c = 0 := by
  unfold AllOf at h
  rw [vall] at h
  simp at h
  exact ⟨h.1.symm, h.2.symm⟩
theorem AllOf.err {S done : List Nat} {c : Nat} {R : List UInt8} (h : AllOf S done c R) (hR : R.length ≠ 0) (hv : (vget R).2.2 ≠ 0) : S = [] ∧ c = (vget R).2.2 := by
  unfold AllOf at h
  rw [vall, if_neg hR, dif_neg hv] at h
  simp [hv] at h
  exact ⟨h.1, h.2.symm⟩
theorem AllOf.next {S done : List Nat} {c : Nat} {R : List UInt8} (h : AllOf S done c R) (hR : R.length ≠ 0) (hv : (vget R).2.2 = 0) : AllOf S (done ++ [(vget R).1]) c (R.drop (vget R).2.1) := by
  unfold AllOf at h ⊢
  rw [vall, if_neg hR, dif_pos hv] at h
  simp only at h
  rw [← h]
  split <;> simp

end Go.Proofs.YtigbifiicbghpaaGreatDoor
end

section
/-
  Contracts of the document's answer for layer 2. Conditions: numbers within uint64, texts of at most a million bytes where lists are made.
-/
namespace Go.Proofs.YtigbifiicbghpaaGreatDoor
open Go.RowKit Go.PM
set_option maxRecDepth 100000
set_option maxHeartbeats 4000000

theorem rput_any (n : Nat) (w : World) (hn : In64 n) :
    Calls Tryz.prog 44 #[.int .u64 (n : Int)] w fun e w' => e = .returned (.string (txt (vput n))) ∧ Below w.heap.size w w' := by
  have HN := Lib.hid hn
  have h10 := vsz_le10 hn
  clear hn
  go_enter Tryz.func44, Tryz.ntmps44
  go_wp2
  go_loopw [0, 3] (fun nn sl wr => ∃ (m : Nat) (t : ByteArray), nn = .int .u64 (m : Int) ∧ sl = .string t ∧ t.data.toList ++ vput m = vput n ∧ In64 m ∧ Below w.heap.size w wr) (fun nn _ _ => (intOf nn).toNat)
  case atStart => exact ⟨n, ⟨#[]⟩, rfl, rfl, by simp, HN.out, b0⟩
  case round =>
    obtain ⟨m, t, rfl, rfl, ht, hm, hbel⟩ := hrel
    have HT := Lib.hid ht
    have HM := Lib.hid hm
    have HB := Lib.hid hbel
    clear ht hm hbel
    by_cases h : m < 128
    · have hcv := run_row_string (P := Tryz.prog) (wr.alloc (.cells #[.int .u8 (m : Int)] 5)) 81 9 5 wr.heap.size 1 1 _ [UInt8.ofNat m] Tryz.underlying81 Tryz.underlying5 Tryz.underlying9 (BlkAt.made _ _ _) rfl (by simp [bvals]; omega)
      have hl : t.size ≤ 10 := by
        have := congrArg List.length HT.out
        rw [List.length_append, vput_length, vput_length, len_list] at this
        omega
      go_wp2
      go_ret
      refine ⟨?_, ba HB.out _⟩
      rw [← HT.out, vput_small h]
      rfl
    · have hcv := run_row_string (P := Tryz.prog) (wr.alloc (.cells #[.int .u8 ((m : Int) % 128 + 128)] 5)) 81 9 5 wr.heap.size 1 1 _ [UInt8.ofNat (m % 128 + 128)] Tryz.underlying81 Tryz.underlying5 Tryz.underlying9 (BlkAt.made _ _ _) rfl (by simp [bvals]; omega)
      have hl : t.size ≤ 10 := by
        have := congrArg List.length HT.out
        rw [List.length_append, vput_length, vput_length, len_list] at this
        omega
      have hwr : IntKind.u64.wrap ((m : Int) / 128) = (m : Int) / 128 := by
        rw [IntKind.wrap_u64]; have := HM.out.out; omega
      go_wp2
      go_roundw
      case rel =>
        refine ⟨m / 128, _, by go_num, rfl, ?_, Nat.lt_of_le_of_lt (Nat.div_le_self _ _) HM.out, ba HB.out _⟩
        rw [← HT.out, vput_big (n := m) (by omega), ByteArray.data_append, Array.toList_append]
        simp
      case measure => simp [intOf]; omega

/-- What the first loop knows. -/
def Sz (s : ByteArray) (i z : Nat) : Prop := (z = 0 ∧ rsz s.data.toList = rszL i (s.data.toList.drop i)) ∨ (0 < z ∧ rsz s.data.toList = z)
theorem Sz.more {s : ByteArray} {i : Nat} (h : Sz s i 0) (hi : i < s.size) (h10 : i < 10) (hc : 128 ≤ s[i].toNat) : Sz s (i + 1) 0 := by
  rcases h with ⟨_, h⟩ | ⟨h, _⟩
  · rw [drop_at s i hi, rszL, if_neg (by omega), if_neg (by omega)] at h
    exact .inl ⟨rfl, h⟩
  · omega
theorem Sz.last {s : ByteArray} {i : Nat} (h : Sz s i 0) (hi : i < s.size) (h10 : i < 10) (hc : s[i].toNat < 128) : Sz s (i + 1) (i + 1) := by
  rcases h with ⟨_, h⟩ | ⟨h, _⟩
  · rw [drop_at s i hi, rszL, if_neg (by omega), if_pos hc] at h
    exact .inr ⟨by omega, h⟩
  · omega
theorem Sz.end_ {s : ByteArray} {i z : Nat} (h : Sz s i z) (he : s.size ≤ i ∨ 10 ≤ i ∨ z ≠ 0) : rsz s.data.toList = z := by
  rcases h with ⟨rfl, h⟩ | ⟨_, h⟩
  · rw [h]
    rcases he with he | he | he
    · rw [drop_end s i he]; rfl
    · cases s.data.toList.drop i <;> simp [rszL, he]
    · omega
  · exact h

theorem getD_at (s : ByteArray) (i : Nat) (hi : i < s.size) : s.data.toList.getD i 0 = s[i] := by
  simp [List.getD, hi]
  rfl
/-- What the second loop knows. -/
theorem vacc_lt (l : List UInt8) : ∀ i, vacc l i < 128 ^ i
  | 0 => by simp [vacc]
  | i + 1 => by
    have := vacc_lt l i
    have h : (l.getD i 0).toNat % 128 * 128 ^ i ≤ 127 * 128 ^ i := Nat.mul_le_mul_right _ (by omega)
    rw [vacc, Nat.pow_succ]; omega

def Vc (l : List UInt8) (j acc u : Nat) : Prop := acc = vacc l j ∧ (j < 10 → u = 128 ^ j) ∧ In64 acc
theorem wrap_nat (x : Nat) : IntKind.u64.wrap (x : Int) = ((x % 18446744073709551616 : Nat) : Int) := by rw [IntKind.wrap_u64]; omega
theorem Vc.step {l : List UInt8} {j acc u c : Nat} (h : Vc l j acc u) (hj : j < 10) (hc : (l.getD j 0).toNat = c) (h9 : j = 9 → c ≤ 1) :
    ∃ P X U : Nat, IntKind.u64.wrap ((c : Int) % 128 * (u : Int)) = (P : Int) ∧ IntKind.u64.wrap ((acc : Int) + (P : Int)) = (X : Int) ∧ IntKind.u64.wrap ((u : Int) * 128) = (U : Int) ∧ Vc l (j + 1) X U := by
  obtain ⟨rfl, hu, h64⟩ := h
  have hu := hu hj
  subst hu
  have hlt := vacc_lt l j
  have e1 : ((c : Int) % 128 * ((128 ^ j : Nat) : Int)) = ((c % 128 * 128 ^ j : Nat) : Int) := by push_cast; rfl
  have hb : vacc l j + c % 128 * 128 ^ j < 18446744073709551616 := by
    by_cases e : j = 9
    · subst e
      have := h9 rfl
      have : c % 128 * 128 ^ 9 ≤ 1 * 128 ^ 9 := Nat.mul_le_mul_right _ (by omega)
      have h2 : 128 ^ 9 + 1 * 128 ^ 9 ≤ 18446744073709551616 := by decide
      omega
    · have h3 : 128 ^ (j + 1) ≤ 128 ^ 9 := pow_lt (by omega)
      have : c % 128 * 128 ^ j ≤ 127 * 128 ^ j := Nat.mul_le_mul_right _ (by omega)
      rw [Nat.pow_succ] at h3
      have h2 : 128 ^ 9 < 18446744073709551616 := by decide
      omega
  refine ⟨c % 128 * 128 ^ j, vacc l j + c % 128 * 128 ^ j, 128 ^ j * 128 % 18446744073709551616, ?_, ?_, ?_, ?_, ?_, ?_⟩
  · rw [e1, wrap_nat, Nat.mod_eq_of_lt (by omega)]
  · rw [← Int.natCast_add, wrap_nat, Nat.mod_eq_of_lt hb]
  · have : (((128 ^ j : Nat) : Int) * 128) = ((128 ^ j * 128 : Nat) : Int) := by push_cast; rfl
    rw [this, wrap_nat]
  · rw [vacc, hc]
  · intro h
    have h3 : 128 ^ (j + 1) ≤ 128 ^ 9 := pow_lt (by omega)
    have h2 : 128 ^ 9 < 18446744073709551616 := by decide
    rw [Nat.pow_succ] at h3 ⊢
    exact Nat.mod_eq_of_lt (by omega)
  · exact hb

theorem rget_any (s : ByteArray) (w : World) (hs : s.size ≤ 9223372036854775807) :
    Calls Tryz.prog 57 #[.string s] w fun e w' => e = .returned (.tuple #[.int .u64 ((vget s.data.toList).1 : Int), .int .i64 ((vget s.data.toList).2.1 : Int), .int .i64 ((vget s.data.toList).2.2 : Int)]) ∧ Below w.heap.size w w' := by
  rw [← vref_eq]
  generalize hV : vref s.data.toList = V
  have HV := Lib.hid hV
  clear hV
  go_enter Tryz.func57, Tryz.ntmps57
  go_wp2
  go_loop [5, 6] (fun zz k => ∃ i z : Nat, zz = .int .i64 (z : Int) ∧ k = .int .i64 (i : Int) ∧ i ≤ 10 ∧ z ≤ 10 ∧ i ≤ s.size ∧ z ≤ s.size ∧ Sz s i z) (fun _ k => 10 - (intOf k).toNat)
  case atStart => exact ⟨0, 0, rfl, rfl, by omega, by omega, by omega, by omega, .inl ⟨rfl, rfl⟩⟩
  case round =>
    obtain ⟨i, z, rfl, rfl, hi, hz, his, hzs, hsz⟩ := hrel
    have HSZ := Lib.hid hsz
    clear hsz
    by_cases hgo : i < s.size ∧ i < 10 ∧ z = 0
    · obtain ⟨g1, g2, rfl⟩ := hgo
      by_cases hc : s[i].toNat < 128
      · go_wp2
        go_round
        case rel => exact ⟨i + 1, i + 1, by go_num, by go_num, by omega, by omega, by omega, by omega, HSZ.out.last g1 g2 hc⟩
        case measure => simp [intOf]; omega
      · go_wp2
        go_round
        case rel => exact ⟨i + 1, 0, rfl, by go_num, by omega, by omega, by omega, by omega, HSZ.out.more g1 g2 (by omega)⟩
        case measure => simp [intOf]; omega
    · have hrz := HSZ.out.end_ (by omega)
      have hv := HV.out
      unfold vref at hv
      rw [hrz, len_list] at hv
      rcases (show (s.size ≤ i) ∨ (i < s.size ∧ 10 ≤ i) ∨ (i < s.size ∧ i < 10 ∧ z ≠ 0) by omega) with g1 | ⟨g1, g2⟩ | ⟨g1, g2, g3⟩
      all_goals
        clear hgo hrz
        by_cases z0 : z = 0
        · first
            | (exfalso; omega)
            | (subst z0
               rw [if_pos rfl] at hv
               by_cases h10 : 10 ≤ s.size
               · rw [if_pos h10] at hv
                 have HS := Lib.hid hv
                 clear hv
                 go_wp2
                 go_ret3
                 rw [← HS.out]
                 exact ⟨rfl, b0⟩
               · rw [if_neg h10] at hv
                 have HS := Lib.hid hv
                 clear hv
                 first
                   | (exfalso; omega)
                   | (go_wp2
                      go_ret3
                      rw [← HS.out]
                      exact ⟨rfl, b0⟩))
        · have tz : ((z : Int) == 0) = false := by rw [beq_eq_false_iff_ne]; omega
          rw [if_neg z0] at hv
          have zp : 0 < z := by omega
          clear z0
          have hzz : z - 1 < s.size := by omega
          have hgz := getD_at s (z - 1) hzz
          rw [hgz] at hv
          by_cases h9 : z = 10
          · have hs9 : 9 < s.size := by omega
            have hg9 := getD_at s 9 hs9
            rw [hg9] at hv
            have e9 : s[z - 1]'hzz = s[9]'hs9 := by subst h9; rfl
            rw [e9] at hv hgz
            by_cases h1 : 1 < (s[9]'hs9).toNat
            · rw [if_pos ⟨h9, h1⟩] at hv
              have HS := Lib.hid hv
              subst h9
              clear hv hgz hg9 e9
              go_wp2
              go_ret3
              rw [← HS.out]
              exact ⟨rfl, b0⟩
            · rw [if_neg (by omega)] at hv
              have t9 : ((z : Int) == 10) = true := by rw [beq_iff_eq]; omega
              have t1 : ¬ (1 : Int) < ((s[9]'hs9).toNat : Int) := by omega
              have h3 : 1 < z := by omega
              have H9 : Hid (∀ j (_ : j < s.size), j < z → j = 9 → s[j].toNat ≤ 1) := fun j _ _ e => by subst e; omega
              by_cases h0 : (s[9]'hs9).toNat = 0
              · rw [if_pos ⟨h3, h0⟩] at hv
                have HS := Lib.hid hv
                have t0 : (((s[z - 1]'hzz).toNat : Int) == 0) = true := by rw [e9, beq_iff_eq]; omega
                clear hv hgz hg9 e9 h0 h9
                go_wp2
                go_ret3
                rw [← HS.out]
                exact ⟨rfl, b0⟩
              · rw [if_neg (by omega)] at hv
                have HS := Lib.hid hv
                have t0 : (((s[z - 1]'hzz).toNat : Int) == 0) = false := by rw [e9, beq_eq_false_iff_ne]; omega
                clear hv hgz hg9 e9 h0 h1 h9
                go_wp2
                go_loop [7, 8, 9] (fun nn uu k => ∃ j acc u : Nat, j ≤ z ∧ k = .int .i64 (j : Int) ∧ nn = .int .u64 (acc : Int) ∧ uu = .int .u64 (u : Int) ∧ Vc s.data.toList j acc u) (fun _ _ k => z - (intOf k).toNat)
                case atStart => exact ⟨0, 0, 1, by omega, rfl, rfl, rfl, rfl, fun _ => rfl, by unfold In64; omega⟩
                case round =>
                  obtain ⟨j, acc, u, hj, rfl, rfl, rfl, hvc⟩ := hrel
                  by_cases hjz : j < z
                  · obtain ⟨P, X, U, hP, hX, hU, hvn⟩ := hvc.step (by omega) (c := s[j].toNat) (by rw [getD_at s j (by omega)]) (H9.out j (by omega) hjz)
                    have HVN := Lib.hid hvn
                    clear hvc hvn
                    go_wp2
                    go_round
                    case rel => exact ⟨j + 1, X, U, by omega, by go_num, rfl, rfl, HVN.out⟩
                    case measure => simp [intOf]; omega
                  · have hjz' : j = z := by omega
                    have hva := hvc.1
                    rw [hjz'] at hva
                    have HVA := Lib.hid hva
                    clear hvc hva hjz'
                    go_wp2
                    go_ret3
                    rw [← HS.out, ← HVA.out]
                    exact ⟨rfl, b0⟩
          · rw [if_neg (by omega)] at hv
            have t9 : ((z : Int) == 10) = false := by rw [beq_eq_false_iff_ne]; omega
            have H9 : Hid (∀ j (_ : j < s.size), j < z → j = 9 → s[j].toNat ≤ 1) := fun j _ _ e => by omega
            clear h9
            by_cases h2 : 1 < z ∧ (s[z - 1]'hzz).toNat = 0
            · rw [if_pos h2] at hv
              have HS := Lib.hid hv
              obtain ⟨h2a, h2b⟩ := h2
              have t0 : (((s[z - 1]'hzz).toNat : Int) == 0) = true := by rw [beq_iff_eq]; omega
              have H2 := Lib.hid h2b
              clear hv hgz h2b
              go_wp2
              go_ret3
              rw [← HS.out]
              exact ⟨rfl, b0⟩
            · rw [if_neg h2] at hv
              by_cases h3 : 1 < z
              · have t0 : (((s[z - 1]'hzz).toNat : Int) == 0) = false := by rw [beq_eq_false_iff_ne]; omega
                have HS := Lib.hid hv
                clear hv hgz h2
                go_wp2
                go_loop [7, 8, 9] (fun nn uu k => ∃ j acc u : Nat, j ≤ z ∧ k = .int .i64 (j : Int) ∧ nn = .int .u64 (acc : Int) ∧ uu = .int .u64 (u : Int) ∧ Vc s.data.toList j acc u) (fun _ _ k => z - (intOf k).toNat)
                case atStart => exact ⟨0, 0, 1, by omega, rfl, rfl, rfl, rfl, fun _ => rfl, by unfold In64; omega⟩
                case round =>
                  obtain ⟨j, acc, u, hj, rfl, rfl, rfl, hvc⟩ := hrel
                  by_cases hjz : j < z
                  · obtain ⟨P, X, U, hP, hX, hU, hvn⟩ := hvc.step (by omega) (c := s[j].toNat) (by rw [getD_at s j (by omega)]) (H9.out j (by omega) hjz)
                    have HVN := Lib.hid hvn
                    clear hvc hvn
                    go_wp2
                    go_round
                    case rel => exact ⟨j + 1, X, U, by omega, by go_num, rfl, rfl, HVN.out⟩
                    case measure => simp [intOf]; omega
                  · have hjz' : j = z := by omega
                    have hva := hvc.1
                    rw [hjz'] at hva
                    have HVA := Lib.hid hva
                    clear hvc hva hjz'
                    go_wp2
                    go_ret3
                    rw [← HS.out, ← HVA.out]
                    exact ⟨rfl, b0⟩
              · have HS := Lib.hid hv
                clear hv hgz h2
                go_wp2
                go_loop [7, 8, 9] (fun nn uu k => ∃ j acc u : Nat, j ≤ z ∧ k = .int .i64 (j : Int) ∧ nn = .int .u64 (acc : Int) ∧ uu = .int .u64 (u : Int) ∧ Vc s.data.toList j acc u) (fun _ _ k => z - (intOf k).toNat)
                case atStart => exact ⟨0, 0, 1, by omega, rfl, rfl, rfl, rfl, fun _ => rfl, by unfold In64; omega⟩
                case round =>
                  obtain ⟨j, acc, u, hj, rfl, rfl, rfl, hvc⟩ := hrel
                  by_cases hjz : j < z
                  · obtain ⟨P, X, U, hP, hX, hU, hvn⟩ := hvc.step (by omega) (c := s[j].toNat) (by rw [getD_at s j (by omega)]) (H9.out j (by omega) hjz)
                    have HVN := Lib.hid hvn
                    clear hvc hvn
                    go_wp2
                    go_round
                    case rel => exact ⟨j + 1, X, U, by omega, by go_num, rfl, rfl, HVN.out⟩
                    case measure => simp [intOf]; omega
                  · have hjz' : j = z := by omega
                    have hva := hvc.1
                    rw [hjz'] at hva
                    have HVA := Lib.hid hva
                    clear hvc hva hjz'
                    go_wp2
                    go_ret3
                    rw [← HS.out, ← HVA.out]
                    exact ⟨rfl, b0⟩
end Go.Proofs.YtigbifiicbghpaaGreatDoor
end

section
/-
  Contracts of the document's answer for layer 2, more: all numbers of a text; two lists of numbers held against each other. Conditions: texts of at most a million bytes.
-/
namespace Go.Proofs.YtigbifiicbghpaaGreatDoor
open Go.RowKit Go.PM
set_option maxRecDepth 100000


theorem equ64 (A1 A2 : Option Addr) (c1 c2 : Nat) (xs : List Nat) (w : World) (h1 : Rd w A1 (u64s xs)) (h2 : Rd w A2 (u64s xs)) (hl : xs.length ≤ 1000000) :
    Calls Tryz.prog 71 #[.slice A1 xs.length c1, .slice A2 xs.length c2] w fun e w' => e = .returned (.bool true) ∧ Below w.heap.size w w' := by
  go_enter Tryz.func71, Tryz.ntmps71
  go_wp2
  go_loopw [13] (fun k wr => ∃ i : Nat, i ≤ xs.length ∧ k = .int .i64 (i : Int) ∧ Below w.heap.size w wr) (fun k _ => xs.length - (intOf k).toNat)
  case atStart => exact ⟨0, by omega, rfl, b0⟩
  case round =>
    obtain ⟨i, hi, rfl, hbel⟩ := hrel
    by_cases hlt : i < xs.length
    · obtain ⟨d1, o1, rfl, _, e1⟩ := (h1.below hbel).at_ (k := i) (by rw [u64s_length]; exact hlt)
      obtain ⟨d2, o2, rfl, _, e2⟩ := (h2.below hbel).at_ (k := i) (by rw [u64s_length]; exact hlt)
      rw [u64s_at xs i hlt] at e1 e2
      have HB := Lib.hid hbel
      have H1 := Lib.hid h1
      have H2 := Lib.hid h2
      clear hbel h1 h2
      go_wp2
      go_quiet (fail)
      go_wp2
      go_roundw
      case rel => exact ⟨i + 1, by omega, by go_num, bn HB.out _⟩
      case measure => simp [intOf]; omega
    · have HB := Lib.hid hbel
      clear hbel h1 h2
      go_wp2
      go_ret
      exact ⟨rfl, HB.out⟩
end Go.Proofs.YtigbifiicbghpaaGreatDoor
end

section
/-
  Contracts of layer 4 (a sum of 32 bits) and of the document's answer. Conditions: texts within int.
-/
namespace Go.Proofs.YtigbifiicbghpaaGreatDoor
open Go.RowKit Go.PM
set_option maxRecDepth 100000

/-- The register behind i bytes. -/
def Rg (l : List UInt8) (i r : Nat) : Prop := r = Go.PM.cover 4294967295 (l.take i) ∧ r < 4294967296
theorem Rg.step {s : ByteArray} {i r : Nat} (h : Rg s.data.toList i r) (hi : i < s.size) : Rg s.data.toList (i + 1) (csteps 8 (r ^^^ s[i].toNat)) := by
  obtain ⟨e, hlt⟩ := h
  refine ⟨?_, cbyte_lt hlt s[i]⟩
  have hl : i < s.data.toList.length := by simpa using hi
  have hg : s.data.toList[i] = s[i] := by simp; rfl
  rw [← List.take_append_getElem hl, cover_append, ← e, hg]
  rfl
/-- The register k bits on. -/
def Rb (x k r : Nat) : Prop := csteps (8 - k) r = x ∧ r < 4294967296
theorem Rb.step {x k r : Nat} (h : Rb x k r) (hk : k < 8) : Rb x (k + 1) (cstep r) := by
  refine ⟨?_, cstep_lt h.2⟩
  have e := h.1
  rw [show 8 - k = (8 - (k + 1)) + 1 by omega] at e
  exact e
theorem not_sub (r : Nat) (h : r < 4294967296) : 4294967295 - r = 4294967295 ^^^ r := by
  apply Nat.eq_of_testBit_eq
  intro i
  rw [show 4294967295 - r = 2 ^ 32 - (r + 1) by omega, Nat.testBit_two_pow_sub_succ (by omega), Nat.testBit_xor, show (4294967295 : Nat) = 2 ^ 32 - 1 by rfl, Nat.testBit_two_pow_sub_one]
  by_cases hi : i < 32
  · simp [hi]
  · have : r.testBit i = false := Nat.testBit_lt_two_pow (Nat.lt_of_lt_of_le h (by rw [show (4294967296 : Nat) = 2 ^ 32 by rfl]; exact Nat.pow_le_pow_right (by omega) (by omega)))
    simp [hi, this]


theorem cput_bvals (n : Nat) (hn : n < 4294967296) : (#[.int .u8 ((n : Int) % 256), .int .u8 ((n : Int) / 256 % 256), .int .u8 ((n : Int) / 65536 % 256), .int .u8 ((n : Int) / 16777216)] : Array Value).toList.take 4 = bvals (cput n) := by
  have e : ∀ k, k < 256 → (UInt8.ofNat k).toNat = k := fun k hk => by simp; omega
  simp only [cput, bvals, List.map]
  rw [e _ (by omega), e _ (by omega), e _ (by omega), e _ (by omega)]
  have h1 : (((n % 256 : Nat)) : Int) = (n : Int) % 256 := by omega
  have h2 : (((n / 256 % 256 : Nat)) : Int) = (n : Int) / 256 % 256 := by omega
  have h3 : (((n / 65536 % 256 : Nat)) : Int) = (n : Int) / 65536 % 256 := by omega
  have h4 : (((n / 16777216 % 256 : Nat)) : Int) = (n : Int) / 16777216 := by omega
  rw [h1, h2, h3, h4]
  rfl
theorem cput_any (n : Nat) (w : World) (hn : n < 4294967296) :
    Calls Tryz.prog 140 #[.int .u32 (n : Int)] w fun e w' => e = .returned (.string (txt (cput n))) ∧ Below w.heap.size w w' := by
  have hcv := run_row_string (P := Tryz.prog) (w.alloc (.cells #[.int .u8 ((n : Int) % 256), .int .u8 ((n : Int) / 256 % 256), .int .u8 ((n : Int) / 65536 % 256), .int .u8 ((n : Int) / 16777216)] 5)) 81 9 5 w.heap.size 4 4 _ (cput n) Tryz.underlying81 Tryz.underlying5 Tryz.underlying9 (BlkAt.made _ _ _) rfl (cput_bvals n hn)
  rw [show ByteArray.mk (cput n).toArray = txt (cput n) from rfl] at hcv
  go_enter Tryz.func140, Tryz.ntmps140
  go_wp2
  go_ret
  exact ⟨rfl, ba b0 _⟩
/-- One byte and those behind it. -/
theorem join4 (a b c d : Nat) (ha : a < 256) (hb : b < 256) (hc : c < 256) (hd : d < 256) :
    bits .or .u32 (bits .or .u32 (bits .or .u32 ((a : Int) % 4294967296) ((b : Int) % 4294967296 * 256 % 4294967296)) ((c : Int) % 4294967296 * 65536 % 4294967296)) ((d : Int) % 4294967296 * 16777216 % 4294967296) = ((a + b * 256 + c * 65536 + d * 16777216 : Nat) : Int) := by
  have j1 : a ||| b * 256 = a + b * 256 := by rw [Nat.or_comm, nat_join 8 _ _ (by omega) (by omega)]; omega
  have j2 : (a + b * 256) ||| c * 65536 = a + b * 256 + c * 65536 := by rw [Nat.or_comm, nat_join 16 _ _ (by omega) (by omega)]; omega
  have j3 : (a + b * 256 + c * 65536) ||| d * 16777216 = a + b * 256 + c * 65536 + d * 16777216 := by rw [Nat.or_comm, nat_join 24 _ _ (by omega) (by omega)]; omega
  rw [show (a : Int) % 4294967296 = (a : Int) by omega, show (b : Int) % 4294967296 * 256 % 4294967296 = ((b * 256 : Nat) : Int) by omega, show (c : Int) % 4294967296 * 65536 % 4294967296 = ((c * 65536 : Nat) : Int) by omega, show (d : Int) % 4294967296 * 16777216 % 4294967296 = ((d * 16777216 : Nat) : Int) by omega,
    u32_or_nat _ _ (by omega) (by omega), j1, u32_or_nat _ _ (by omega) (by omega), j2, u32_or_nat _ _ (by omega) (by omega), j3]
theorem cget_four (s : ByteArray) (h4 : s.size = 4) : cget s.data.toList = s[0].toNat + s[1].toNat * 256 + s[2].toNat * 65536 + s[3].toNat * 16777216 := by
  have hl : s.data.toList = [s[0], s[1], s[2], s[3]] := by
    have e := drop_at s 0 (by omega)
    rw [drop_at s 1 (by omega), drop_at s 2 (by omega), drop_at s 3 (by omega)] at e
    rw [List.drop_zero] at e
    rw [e, List.drop_eq_nil_of_le (by simp; omega)]
  rw [hl]
  rfl
theorem cget_any (s : ByteArray) (w : World) (h4 : s.size = 4) :
    Calls Tryz.prog 143 #[.string s] w fun e w' => e = .returned (.tuple #[.int .u32 (cget s.data.toList : Int), .bool true]) ∧ Below w.heap.size w w' := by
  have hj := join4 s[0].toNat s[1].toNat s[2].toNat s[3].toNat (by have := s[0].toNat_lt; omega) (by have := s[1].toNat_lt; omega) (by have := s[2].toNat_lt; omega) (by have := s[3].toNat_lt; omega)
  rw [← cget_four s h4] at hj
  generalize cget s.data.toList = V at hj
  have HJ := Lib.hid hj
  clear hj
  go_enter Tryz.func143, Tryz.ntmps143
  go_wp2
  go_quiet (fail)
  go_wp2
  rw [HJ.out]
  go_ret2
  exact ⟨rfl, bn b0 _⟩
theorem cget_no (s : ByteArray) (w : World) (h4 : s.size ≠ 4) :
    Calls Tryz.prog 143 #[.string s] w fun e w' => e = .returned (.tuple #[.int .u32 0, .bool false]) ∧ Below w.heap.size w w' := by
  have hne : (((s.size : Nat) : Int) == 4) = false := by rw [beq_eq_false_iff_ne]; omega
  go_enter Tryz.func143, Tryz.ntmps143
  go_wp2
  go_ret2
  exact ⟨rfl, b0⟩
end Go.Proofs.YtigbifiicbghpaaGreatDoor
end
