/-
  Plain laws of layer 7: the library's words for UTF-8 (Lib.validD, Lib.runeCount) are the document's.
-/
import Derived.Test.YtmlijflappjfoaaDoorPlainUtf
namespace Go.PM

/-- The model's decoding, of a list. -/
def udec (l : List UInt8) : Nat × Nat :=
  let at' (k : Nat) : Nat := (l.getD k 0).toNat
  let cont (k : Nat) : Bool := decide (k < l.length) && at' k / 64 == 2
  let b0 := at' 0
  if b0 < 0x80 then (b0, 1)
  else if b0 / 32 == 6 && cont 1 then
    let c := (b0 % 32) * 64 + at' 1 % 64
    if c ≥ 0x80 then (c, 2) else (Utf8.runeError, 1)
  else if b0 / 16 == 14 && cont 1 && cont 2 then
    let c := (b0 % 16) * 4096 + (at' 1 % 64) * 64 + at' 2 % 64
    if c ≥ 0x800 && Utf8.valid c then (c, 3) else (Utf8.runeError, 1)
  else if b0 / 8 == 30 && cont 1 && cont 2 && cont 3 then
    let c := (b0 % 8) * 262144 + (at' 1 % 64) * 4096 + (at' 2 % 64) * 64 + at' 3 % 64
    if c ≥ 0x10000 && Utf8.valid c then (c, 4) else (Utf8.runeError, 1)
  else (Utf8.runeError, 1)
theorem get_list (s : ByteArray) (i k : Nat) : s.get! (i + k) = (s.data.toList.drop i).getD k 0 := by
  rw [List.getD_eq_getElem?_getD, List.getElem?_drop, Array.getElem?_toList]
  show s.data[i + k]! = _
  rw [getElem!_def]
  cases s.data[i + k]? <;> rfl
theorem decode_list (s : ByteArray) (i : Nat) : Utf8.decode s i = udec (s.data.toList.drop i) := by
  have hl : ∀ k, decide (i + k < s.size) = decide (k < (s.data.toList.drop i).length) := fun k => by
    rw [List.length_drop, Array.length_toList]
    show decide (i + k < s.size) = decide (k < s.size - i)
    rw [decide_eq_decide]; omega
  unfold Utf8.decode udec
  simp only [get_list, hl]
theorem ucont_iff (b : UInt8) : (b.toNat / 64 == 2) = ucont b := by
  unfold ucont
  rw [Bool.eq_iff_iff]
  simp only [beq_iff_eq, Bool.and_eq_true, decide_eq_true_eq]
  omega
theorem uvalid_iff (n : Nat) : Utf8.valid (n : Int) = !(decide (1114111 < n) || (decide (55296 ≤ n) && decide (n < 57344))) := by
  unfold Utf8.valid
  rw [Bool.eq_iff_iff]
  simp only [Bool.or_eq_true, Bool.and_eq_true, decide_eq_true_eq, Bool.not_eq_true', Bool.or_eq_false_iff, decide_eq_false_iff_not, Bool.and_eq_false_imp]
  omega
theorem ucond (n least : Nat) : (decide (n ≥ least) && Utf8.valid (n : Int)) = !ubad n least := by
  rw [uvalid_iff]
  unfold ubad
  rw [Bool.eq_iff_iff]
  simp only [Bool.and_eq_true, decide_eq_true_eq, Bool.not_eq_true', Bool.or_eq_false_iff, decide_eq_false_iff_not, Bool.and_eq_false_imp]
  omega
theorem udec3 (a b c : UInt8) (r : List UInt8) (h1 : ¬ a.toNat < 128) (h2 : ¬ a.toNat / 32 = 6) (h3 : a.toNat / 16 = 14) :
    udec (a :: b :: c :: r) = if (ucont b && ucont c) = true then (if (!ubad ((a.toNat % 16) * 4096 + (b.toNat % 64) * 64 + c.toNat % 64) 2048) = true then ((a.toNat % 16) * 4096 + (b.toNat % 64) * 64 + c.toNat % 64, 3) else (65533, 1)) else (65533, 1) := by
  have e : udec (a :: b :: c :: r) = (if a.toNat < 0x80 then (a.toNat, 1)
    else if (a.toNat / 32 == 6 && (decide (1 < (a :: b :: c :: r).length) && b.toNat / 64 == 2)) = true then
      (if (a.toNat % 32) * 64 + b.toNat % 64 ≥ 0x80 then ((a.toNat % 32) * 64 + b.toNat % 64, 2) else (Utf8.runeError, 1))
    else if (a.toNat / 16 == 14 && (decide (1 < (a :: b :: c :: r).length) && b.toNat / 64 == 2) && (decide (2 < (a :: b :: c :: r).length) && c.toNat / 64 == 2)) = true then
      (if (decide ((a.toNat % 16) * 4096 + (b.toNat % 64) * 64 + c.toNat % 64 ≥ 0x800) && Utf8.valid (((a.toNat % 16) * 4096 + (b.toNat % 64) * 64 + c.toNat % 64 : Nat) : Int)) = true then ((a.toNat % 16) * 4096 + (b.toNat % 64) * 64 + c.toNat % 64, 3) else (Utf8.runeError, 1))
    else if (a.toNat / 8 == 30 && (decide (1 < (a :: b :: c :: r).length) && b.toNat / 64 == 2) && (decide (2 < (a :: b :: c :: r).length) && c.toNat / 64 == 2) && (decide (3 < (a :: b :: c :: r).length) && ((a :: b :: c :: r).getD 3 0).toNat / 64 == 2)) = true then
      (if (decide ((a.toNat % 8) * 262144 + (b.toNat % 64) * 4096 + (c.toNat % 64) * 64 + ((a :: b :: c :: r).getD 3 0).toNat % 64 ≥ 0x10000) && Utf8.valid (((a.toNat % 8) * 262144 + (b.toNat % 64) * 4096 + (c.toNat % 64) * 64 + ((a :: b :: c :: r).getD 3 0).toNat % 64 : Nat) : Int)) = true then
        ((a.toNat % 8) * 262144 + (b.toNat % 64) * 4096 + (c.toNat % 64) * 64 + ((a :: b :: c :: r).getD 3 0).toNat % 64, 4) else (Utf8.runeError, 1))
    else (Utf8.runeError, 1)) := rfl
  have l1 : decide (1 < (a :: b :: c :: r).length) = true := by simp
  have l2 : decide (2 < (a :: b :: c :: r).length) = true := by simp
  rw [e, if_neg h1, if_neg (by simp [h2]), ucont_iff, ucont_iff, ucond, l1, l2]
  have h4 : (a.toNat / 8 == 30) = false := by rw [beq_eq_false_iff_ne]; omega
  rw [show (a.toNat / 16 == 14) = true by simp [h3], h4]
  simp only [Bool.true_and, Bool.false_and]
  rw [if_neg (c := false = true) (by simp)]
  rfl
theorem udec4 (a b c d : UInt8) (r : List UInt8) (h1 : ¬ a.toNat < 128) (h2 : ¬ a.toNat / 32 = 6) (h3 : ¬ a.toNat / 16 = 14) (h4 : a.toNat / 8 = 30) :
    udec (a :: b :: c :: d :: r) = if (ucont b && ucont c && ucont d) = true then (if (!ubad ((a.toNat % 8) * 262144 + (b.toNat % 64) * 4096 + (c.toNat % 64) * 64 + d.toNat % 64) 65536) = true then
      ((a.toNat % 8) * 262144 + (b.toNat % 64) * 4096 + (c.toNat % 64) * 64 + d.toNat % 64, 4) else (65533, 1)) else (65533, 1) := by
  have e : udec (a :: b :: c :: d :: r) = (if a.toNat < 0x80 then (a.toNat, 1)
    else if (a.toNat / 32 == 6 && (decide (1 < (a :: b :: c :: d :: r).length) && b.toNat / 64 == 2)) = true then
      (if (a.toNat % 32) * 64 + b.toNat % 64 ≥ 0x80 then ((a.toNat % 32) * 64 + b.toNat % 64, 2) else (Utf8.runeError, 1))
    else if (a.toNat / 16 == 14 && (decide (1 < (a :: b :: c :: d :: r).length) && b.toNat / 64 == 2) && (decide (2 < (a :: b :: c :: d :: r).length) && c.toNat / 64 == 2)) = true then
      (if (decide ((a.toNat % 16) * 4096 + (b.toNat % 64) * 64 + c.toNat % 64 ≥ 0x800) && Utf8.valid (((a.toNat % 16) * 4096 + (b.toNat % 64) * 64 + c.toNat % 64 : Nat) : Int)) = true then ((a.toNat % 16) * 4096 + (b.toNat % 64) * 64 + c.toNat % 64, 3) else (Utf8.runeError, 1))
    else if (a.toNat / 8 == 30 && (decide (1 < (a :: b :: c :: d :: r).length) && b.toNat / 64 == 2) && (decide (2 < (a :: b :: c :: d :: r).length) && c.toNat / 64 == 2) && (decide (3 < (a :: b :: c :: d :: r).length) && d.toNat / 64 == 2)) = true then
      (if (decide ((a.toNat % 8) * 262144 + (b.toNat % 64) * 4096 + (c.toNat % 64) * 64 + d.toNat % 64 ≥ 0x10000) && Utf8.valid (((a.toNat % 8) * 262144 + (b.toNat % 64) * 4096 + (c.toNat % 64) * 64 + d.toNat % 64 : Nat) : Int)) = true then
        ((a.toNat % 8) * 262144 + (b.toNat % 64) * 4096 + (c.toNat % 64) * 64 + d.toNat % 64, 4) else (Utf8.runeError, 1))
    else (Utf8.runeError, 1)) := rfl
  have l1 : decide (1 < (a :: b :: c :: d :: r).length) = true := by simp
  have l2 : decide (2 < (a :: b :: c :: d :: r).length) = true := by simp
  have l3 : decide (3 < (a :: b :: c :: d :: r).length) = true := by simp
  rw [e, if_neg h1, if_neg (by simp [h2]), if_neg (by simp [h3]), ucont_iff, ucont_iff, ucont_iff, ucond, l1, l2, l3]
  rw [show (a.toNat / 8 == 30) = true by simp [h4]]
  simp only [Bool.true_and]
  rfl
theorem udec_first (a : UInt8) (r : List UInt8) : (udec (a :: r)).2 = max 1 (ufirst (a :: r)) ∧ (((udec (a :: r)).1 = 65533 ∧ (udec (a :: r)).2 = 1) ↔ ufirst (a :: r) = 0) := by
  by_cases h1 : a.toNat < 128
  · rw [ufirst_lo h1]
    unfold udec
    simp [h1]
    omega
  · rw [ufirst_hi h1]
    by_cases h2 : a.toNat / 32 = 6
    · have hc : uclass a.toNat = some (2, a.toNat - 192, 128) := by unfold uclass; rw [if_pos (by omega)]
      rw [hc]
      unfold udec
      match r with
      | [] => simp [h1, h2, uacc, Utf8.runeError]
      | b :: r =>
        by_cases hb : ucont b = true
        · have hbi := hb
          unfold ucont at hbi
          simp only [Bool.and_eq_true, decide_eq_true_eq] at hbi
          by_cases hn : 128 ≤ (a.toNat % 32) * 64 + b.toNat % 64
          · have hu : ubad (64 * (a.toNat - 192) + (b.toNat - 128)) 128 = false := by unfold ubad; simp; omega
            simp [h1, h2, uacc, ucont_iff, hb, hn, hu]
          · have hu : ubad (64 * (a.toNat - 192) + (b.toNat - 128)) 128 = true := by unfold ubad; simp; omega
            simp [h1, h2, uacc, ucont_iff, hb, hn, hu, Utf8.runeError]
        · simp [h1, h2, uacc, ucont_iff, hb, Utf8.runeError]
    · by_cases h3 : a.toNat / 16 = 14
      · have hc : uclass a.toNat = some (3, a.toNat - 224, 2048) := by unfold uclass; rw [if_neg (by omega), if_pos (by omega)]
        rw [hc]
        match r with
        | [] => simp [udec, h1, uacc, Utf8.runeError]
        | [b] =>
          by_cases hb : ucont b = true
          · simp [udec, h1, h2, uacc, ucont_iff, hb, Utf8.runeError]
          · simp [udec, h1, uacc, ucont_iff, hb, Utf8.runeError]
        | b :: c :: r =>
          rw [udec3 a b c r h1 h2 h3]
          by_cases hb : ucont b = true
          · by_cases hd : ucont c = true
            · have hbi := hb
              have hdi := hd
              unfold ucont at hbi hdi
              simp only [Bool.and_eq_true, decide_eq_true_eq] at hbi hdi
              have e : 64 * (64 * (a.toNat - 224) + (b.toNat - 128)) + (c.toNat - 128) = (a.toNat % 16) * 4096 + (b.toNat % 64) * 64 + c.toNat % 64 := by omega
              simp only [uacc, hb, hd, e, if_true, Bool.and_self, Nat.add_one_sub_one]
              cases ubad ((a.toNat % 16) * 4096 + (b.toNat % 64) * 64 + c.toNat % 64) 2048 <;> simp
            · simp [uacc, hb, hd]
          · simp [uacc, hb]
      · by_cases h4 : a.toNat / 8 = 30
        · have hc : uclass a.toNat = some (4, a.toNat - 240, 65536) := by unfold uclass; rw [if_neg (by omega), if_neg (by omega), if_pos (by omega)]
          rw [hc]
          match r with
          | [] => simp [udec, h1, uacc, Utf8.runeError]
          | [b] =>
            by_cases hb : ucont b = true
            · simp [udec, h1, h2, uacc, ucont_iff, hb, Utf8.runeError]
            · simp [udec, h1, uacc, ucont_iff, hb, Utf8.runeError]
          | [b, c] => by_cases hb : ucont b = true <;> by_cases hd : ucont c = true <;> simp [udec, h1, h2, h3, uacc, ucont_iff, hb, hd, Utf8.runeError]
          | b :: c :: d :: r =>
            rw [udec4 a b c d r h1 h2 h3 h4]
            by_cases hb : ucont b = true
            · by_cases hd : ucont c = true
              · by_cases hf : ucont d = true
                · have hbi := hb
                  have hdi := hd
                  have hfi := hf
                  unfold ucont at hbi hdi hfi
                  simp only [Bool.and_eq_true, decide_eq_true_eq] at hbi hdi hfi
                  have e : 64 * (64 * (64 * (a.toNat - 240) + (b.toNat - 128)) + (c.toNat - 128)) + (d.toNat - 128) = (a.toNat % 8) * 262144 + (b.toNat % 64) * 4096 + (c.toNat % 64) * 64 + d.toNat % 64 := by omega
                  simp only [uacc, hb, hd, hf, e, if_true, Bool.and_self, Nat.add_one_sub_one]
                  cases ubad ((a.toNat % 8) * 262144 + (b.toNat % 64) * 4096 + (c.toNat % 64) * 64 + d.toNat % 64) 65536 <;> simp
                · simp [uacc, hb, hd, hf]
              · simp [uacc, hb, hd]
            · simp [uacc, hb]
        · have hc : uclass a.toNat = none := by unfold uclass; rw [if_neg (by omega), if_neg (by omega), if_neg (by omega)]
          rw [hc]
          simp [udec, h1, h2, h3, h4, Utf8.runeError]
theorem decode_first (s : ByteArray) (i : Nat) (h : i < s.size) : (Utf8.decode s i).2 = max 1 (ufirst (s.data.toList.drop i)) ∧ (((Utf8.decode s i).1 = 65533 ∧ (Utf8.decode s i).2 = 1) ↔ ufirst (s.data.toList.drop i) = 0) := by
  rw [decode_list]
  cases hl : s.data.toList.drop i with
  | nil =>
    have := congrArg List.length hl
    rw [List.length_drop, Array.length_toList] at this
    have e : s.data.size = s.size := rfl
    simp at this
    omega
  | cons a r => exact udec_first a r

theorem validGo_good : ∀ (n : Nat) (l : List UInt8), l.length ≤ n → Lib.validGoD n l = ugood l
  | 0, l, h => by
    have : l = [] := List.eq_nil_of_length_eq_zero (by omega)
    subst this
    rw [ugood_nil]; rfl
  | n + 1, l, h => by
    rw [Lib.validGoD]
    by_cases hl : l = []
    · rw [if_pos hl, hl, ugood_nil]
    · rw [if_neg hl]
      have hd : (Lib.decodeL l).2 = max 1 (ufirst l) ∧ (((Lib.decodeL l).1 = 65533 ∧ (Lib.decodeL l).2 = 1) ↔ ufirst l = 0) := by
        have := decode_first ⟨l.toArray⟩ 0 (by show 0 < l.toArray.size; rw [List.size_toArray]; exact Nat.pos_of_ne_zero fun e => hl (List.eq_nil_of_length_eq_zero e))
        exact this
      by_cases h0 : ufirst l = 0
      · rw [if_pos (hd.2.2 h0), ugood_zero h0 hl]
      · rw [if_neg (fun e => h0 (hd.2.1 e)), hd.1, ugood_step h0]
        have hk := ufirst_le h0
        rw [Nat.max_eq_right hk.1]
        exact validGo_good n _ (by rw [List.length_drop]; omega)
theorem valid_good (l : List UInt8) : Lib.validD l = ugood l := validGo_good _ l (Nat.le_refl _)
theorem runeFrom_count (s : ByteArray) : ∀ (n i : Nat), s.size ≤ i + n → Lib.runeCountFrom s n i = ucount (s.data.toList.drop i)
  | 0, i, h => by
    rw [List.drop_eq_nil_of_le (by rw [Array.length_toList]; exact h), ucount_nil]; rfl
  | n + 1, i, h => by
    rw [Lib.runeCountFrom]
    by_cases hi : i < s.size
    · have hd := decode_first s i hi
      rw [if_pos hi, hd.1, runeFrom_count s n _ (by omega)]
      have hne : s.data.toList.drop i ≠ [] := fun e => by
        have := congrArg List.length e
        rw [List.length_drop, Array.length_toList] at this
        have e : s.data.size = s.size := rfl
        simp at this
        omega
      rw [ucount_step hne, List.drop_drop]
    · rw [if_neg hi, List.drop_eq_nil_of_le (by rw [Array.length_toList]; exact Nat.le_of_not_lt hi), ucount_nil]
theorem rune_count (s : ByteArray) : Lib.runeCount s = ucount s.data.toList := by
  unfold Lib.runeCount
  rw [runeFrom_count s s.size 0 (by omega), List.drop_zero]
end Go.PM
