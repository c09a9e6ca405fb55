/-
  Texts of the proof, joined: PlainUtf2 Shelf Utf RefUtf RefUtf2. Conditions: as each names.
-/
import Derived.Test.YtmlijflappjfoaaDoorBah
import Derived.Shelf.Unicode.ValidAny
import Derived.Shelf.Small.Utf8
import Derived.Shelf.Utf8.RuneCount
import Derived.Shelf.Strings.Prefix
import Derived.Test.YtmlijflappjfoaaDoorProg

section
/-
  Plain laws of layer 7: the library's words for UTF-8 (Lib.validD, Lib.runeCount) are the document's.
-/
namespace Go.PM

/-- The model's decoding, of a list. -/
def udec (l : List UInt8) : Nat × Nat :=
  let at' (k : Nat) : Nat := (l.getD k 0).toNat
  let cont (k : Nat) : Bool := decide (k < l.length) && at' k / 64 == 2
  let b0 := at' 0
  if b0 < 0x80 then (b0, 1)
  else if b0 / 32 == 6 && cont 1 then
    let c := (b0 % 32) * 64 + at' 1 % 64
    if c ≥ 0x80 then (c, 2) else (Utf8.runeError, 1)
  else if b0 / 16 == 14 && cont 1 && cont 2 then
    let c := (b0 % 16) * 4096 + (at' 1 % 64) * 64 + at' 2 % 64
    if c ≥ 0x800 && Utf8.valid c then (c, 3) else (Utf8.runeError, 1)
  else if b0 / 8 == 30 && cont 1 && cont 2 && cont 3 then
    let c := (b0 % 8) * 262144 + (at' 1 % 64) * 4096 + (at' 2 % 64) * 64 + at' 3 % 64
    if c ≥ 0x10000 && Utf8.valid c then (c, 4) else (Utf8.runeError, 1)
  else (Utf8.runeError, 1)
theorem get_list (s : ByteArray) (i k : Nat) : s.get! (i + k) = (s.data.toList.drop i).getD k 0 := by
  rw [List.getD_eq_getElem?_getD, List.getElem?_drop, Array.getElem?_toList]
  show s.data[i + k]! = _
  rw [getElem!_def]
  cases s.data[i + k]? <;> rfl
theorem decode_list (s : ByteArray) (i : Nat) : Utf8.decode s i = udec (s.data.toList.drop i) := by
  have hl : ∀ k, decide (i + k < s.size) = decide (k < (s.data.toList.drop i).length) := fun k => by
    rw [List.length_drop, Array.length_toList]
    show decide (i + k < s.size) = decide (k < s.size - i)
    rw [decide_eq_decide]; omega
  unfold Utf8.decode udec
  simp only [get_list, hl]
theorem ucont_iff (b : UInt8) : (b.toNat / 64 == 2) = ucont b := by
  unfold ucont
  rw [Bool.eq_iff_iff]
  simp only [beq_iff_eq, Bool.and_eq_true, decide_eq_true_eq]
  omega
theorem uvalid_iff (n : Nat) : Utf8.valid (n : Int) = !(decide (1114111 < n) || (decide (55296 ≤ n) && decide (n < 57344))) := by
  unfold Utf8.valid
  rw [Bool.eq_iff_iff]
  simp only [Bool.or_eq_true, Bool.and_eq_true, decide_eq_true_eq, Bool.not_eq_true', Bool.or_eq_false_iff, decide_eq_false_iff_not, Bool.and_eq_false_imp]
  omega
theorem ucond (n least : Nat) : (decide (n ≥ least) && Utf8.valid (n : Int)) = !ubad n least := by
  rw [uvalid_iff]
  unfold ubad
  rw [Bool.eq_iff_iff]
  simp only [Bool.and_eq_true, decide_eq_true_eq, Bool.not_eq_true', Bool.or_eq_false_iff, decide_eq_false_iff_not, Bool.and_eq_false_imp]
  omega
theorem udec3 (a b c : UInt8) (r : List UInt8) (h1 : ¬ a.toNat < 128) (h2 : ¬ a.toNat / 32 = 6) (h3 : a.toNat / 16 = 14) :
    udec (a :: b :: c :: r) = if (ucont b && ucont c) = true then (if (!ubad ((a.toNat % 16) * 4096 + (b.toNat % 64) * 64 + c.toNat % 64) 2048) = true then ((a.toNat % 16) * 4096 + (b.toNat % 64) * 64 + c.toNat % 64, 3) else (65533, 1)) else (65533, 1) := by
  have e : udec (a :: b :: c :: r) = (if a.toNat < 0x80 then (a.toNat, 1)
    else if (a.toNat / 32 == 6 && (decide (1 < (a :: b :: c :: r).length) && b.toNat / 64 == 2)) = true then
      (if (a.toNat % 32) * 64 + b.toNat % 64 ≥ 0x80 then ((a.toNat % 32) * 64 + b.toNat % 64, 2) else (Utf8.runeError, 1))
    else if (a.toNat / 16 == 14 && (decide (1 < (a :: b :: c :: r).length) && b.toNat / 64 == 2) && (decide (2 < (a :: b :: c :: r).length) && c.toNat / 64 == 2)) = true then
      (if (decide ((a.toNat % 16) * 4096 + (b.toNat % 64) * 64 + c.toNat % 64 ≥ 0x800) && Utf8.valid (((a.toNat % 16) * 4096 + (b.toNat % 64) * 64 + c.toNat % 64 : Nat) : Int)) = true then ((a.toNat % 16) * 4096 + (b.toNat % 64) * 64 + c.toNat % 64, 3) else (Utf8.runeError, 1))
    else if (a.toNat / 8 == 30 && (decide (1 < (a :: b :: c :: r).length) && b.toNat / 64 == 2) && (decide (2 < (a :: b :: c :: r).length) && c.toNat / 64 == 2) && (decide (3 < (a :: b :: c :: r).length) && ((a :: b :: c :: r).getD 3 0).toNat / 64 == 2)) = true then
      (if (decide ((a.toNat % 8) * 262144 + (b.toNat % 64) * 4096 + (c.toNat % 64) * 64 + ((a :: b :: c :: r).getD 3 0).toNat % 64 ≥ 0x10000) && Utf8.valid (((a.toNat % 8) * 262144 + (b.toNat % 64) * 4096 + (c.toNat % 64) * 64 + ((a :: b :: c :: r).getD 3 0).toNat % 64 : Nat) : Int)) = true then
        ((a.toNat % 8) * 262144 + (b.toNat % 64) * 4096 + (c.toNat % 64) * 64 + ((a :: b :: c :: r).getD 3 0).toNat % 64, 4) else (Utf8.runeError, 1))
    else (Utf8.runeError, 1)) := rfl
  have l1 : decide (1 < (a :: b :: c :: r).length) = true := by simp
  have l2 : decide (2 < (a :: b :: c :: r).length) = true := by simp
  rw [e, if_neg h1, if_neg (by simp [h2]), ucont_iff, ucont_iff, ucond, l1, l2]
  have h4 : (a.toNat / 8 == 30) = false := by rw [beq_eq_false_iff_ne]; omega
  rw [show (a.toNat / 16 == 14) = true by simp [h3], h4]
  simp only [Bool.true_and, Bool.false_and]
  rw [if_neg (c := false = true) (by simp)]
  rfl
theorem udec4 (a b c d : UInt8) (r : List UInt8) (h1 : ¬ a.toNat < 128) (h2 : ¬ a.toNat / 32 = 6) (h3 : ¬ a.toNat / 16 = 14) (h4 : a.toNat / 8 = 30) :
    udec (a :: b :: c :: d :: r) = if (ucont b && ucont c && ucont d) = true then (if (!ubad ((a.toNat % 8) * 262144 + (b.toNat % 64) * 4096 + (c.toNat % 64) * 64 + d.toNat % 64) 65536) = true then
      ((a.toNat % 8) * 262144 + (b.toNat % 64) * 4096 + (c.toNat % 64) * 64 + d.toNat % 64, 4) else (65533, 1)) else (65533, 1) := by
  have e : udec (a :: b :: c :: d :: r) = (if a.toNat < 0x80 then (a.toNat, 1)
    else if (a.toNat / 32 == 6 && (decide (1 < (a :: b :: c :: d :: r).length) && b.toNat / 64 == 2)) = true then
      (if (a.toNat % 32) * 64 + b.toNat % 64 ≥ 0x80 then ((a.toNat % 32) * 64 + b.toNat % 64, 2) else (Utf8.runeError, 1))
    else if (a.toNat / 16 == 14 && (decide (1 < (a :: b :: c :: d :: r).length) && b.toNat / 64 == 2) && (decide (2 < (a :: b :: c :: d :: r).length) && c.toNat / 64 == 2)) = true then
      (if (decide ((a.toNat % 16) * 4096 + (b.toNat % 64) * 64 + c.toNat % 64 ≥ 0x800) && Utf8.valid (((a.toNat % 16) * 4096 + (b.toNat % 64) * 64 + c.toNat % 64 : Nat) : Int)) = true then ((a.toNat % 16) * 4096 + (b.toNat % 64) * 64 + c.toNat % 64, 3) else (Utf8.runeError, 1))
    else if (a.toNat / 8 == 30 && (decide (1 < (a :: b :: c :: d :: r).length) && b.toNat / 64 == 2) && (decide (2 < (a :: b :: c :: d :: r).length) && c.toNat / 64 == 2) && (decide (3 < (a :: b :: c :: d :: r).length) && d.toNat / 64 == 2)) = true then
      (if (decide ((a.toNat % 8) * 262144 + (b.toNat % 64) * 4096 + (c.toNat % 64) * 64 + d.toNat % 64 ≥ 0x10000) && Utf8.valid (((a.toNat % 8) * 262144 + (b.toNat % 64) * 4096 + (c.toNat % 64) * 64 + d.toNat % 64 : Nat) : Int)) = true then
        ((a.toNat % 8) * 262144 + (b.toNat % 64) * 4096 + (c.toNat % 64) * 64 + d.toNat % 64, 4) else (Utf8.runeError, 1))
    else (Utf8.runeError, 1)) := rfl
  have l1 : decide (1 < (a :: b :: c :: d :: r).length) = true := by simp
  have l2 : decide (2 < (a :: b :: c :: d :: r).length) = true := by simp
  have l3 : decide (3 < (a :: b :: c :: d :: r).length) = true := by simp
  rw [e, if_neg h1, if_neg (by simp [h2]), if_neg (by simp [h3]), ucont_iff, ucont_iff, ucont_iff, ucond, l1, l2, l3]
  rw [show (a.toNat / 8 == 30) = true by simp [h4]]
  simp only [Bool.true_and]
  rfl
theorem udec_first (a : UInt8) (r : List UInt8) : (udec (a :: r)).2 = max 1 (ufirst (a :: r)) ∧ (((udec (a :: r)).1 = 65533 ∧ (udec (a :: r)).2 = 1) ↔ ufirst (a :: r) = 0) := by
  by_cases h1 : a.toNat < 128
  · rw [ufirst_lo h1]
    unfold udec
    simp [h1]
    omega
  · rw [ufirst_hi h1]
    by_cases h2 : a.toNat / 32 = 6
    · have hc : uclass a.toNat = some (2, a.toNat - 192, 128) := by unfold uclass; rw [if_pos (by omega)]
      rw [hc]
      unfold udec
      match r with
      | [] => simp [h1, h2, uacc, Utf8.runeError]
      | b :: r =>
        by_cases hb : ucont b = true
        · have hbi := hb
          unfold ucont at hbi
          simp only [Bool.and_eq_true, decide_eq_true_eq] at hbi
          by_cases hn : 128 ≤ (a.toNat % 32) * 64 + b.toNat % 64
          · have hu : ubad (64 * (a.toNat - 192) + (b.toNat - 128)) 128 = false := by unfold ubad; simp; omega
            simp [h1, h2, uacc, ucont_iff, hb, hn, hu]
          · have hu : ubad (64 * (a.toNat - 192) + (b.toNat - 128)) 128 = true := by unfold ubad; simp; omega
            simp [h1, h2, uacc, ucont_iff, hb, hn, hu, Utf8.runeError]
        · simp [h1, h2, uacc, ucont_iff, hb, Utf8.runeError]
    · by_cases h3 : a.toNat / 16 = 14
      · have hc : uclass a.toNat = some (3, a.toNat - 224, 2048) := by unfold uclass; rw [if_neg (by omega), if_pos (by omega)]
        rw [hc]
        match r with
        | [] => simp [udec, h1, uacc, Utf8.runeError]
        | [b] =>
          by_cases hb : ucont b = true
          · simp [udec, h1, h2, uacc, ucont_iff, hb, Utf8.runeError]
          · simp [udec, h1, uacc, ucont_iff, hb, Utf8.runeError]
        | b :: c :: r =>
          rw [udec3 a b c r h1 h2 h3]
          by_cases hb : ucont b = true
          · by_cases hd : ucont c = true
            · have hbi := hb
              have hdi := hd
              unfold ucont at hbi hdi
              simp only [Bool.and_eq_true, decide_eq_true_eq] at hbi hdi
              have e : 64 * (64 * (a.toNat - 224) + (b.toNat - 128)) + (c.toNat - 128) = (a.toNat % 16) * 4096 + (b.toNat % 64) * 64 + c.toNat % 64 := by omega
              simp only [uacc, hb, hd, e, if_true, Bool.and_self, Nat.add_one_sub_one]
              cases ubad ((a.toNat % 16) * 4096 + (b.toNat % 64) * 64 + c.toNat % 64) 2048 <;> simp
            · simp [uacc, hb, hd]
          · simp [uacc, hb]
      · by_cases h4 : a.toNat / 8 = 30
        · have hc : uclass a.toNat = some (4, a.toNat - 240, 65536) := by unfold uclass; rw [if_neg (by omega), if_neg (by omega), if_pos (by omega)]
          rw [hc]
          match r with
          | [] => simp [udec, h1, uacc, Utf8.runeError]
          | [b] =>
            by_cases hb : ucont b = true
            · simp [udec, h1, h2, uacc, ucont_iff, hb, Utf8.runeError]
            · simp [udec, h1, uacc, ucont_iff, hb, Utf8.runeError]
          | [b, c] => by_cases hb : ucont b = true <;> by_cases hd : ucont c = true <;> simp [udec, h1, h2, h3, uacc, ucont_iff, hb, hd, Utf8.runeError]
          | b :: c :: d :: r =>
            rw [udec4 a b c d r h1 h2 h3 h4]
            by_cases hb : ucont b = true
            · by_cases hd : ucont c = true
              · by_cases hf : ucont d = true
                · have hbi := hb
                  have hdi := hd
                  have hfi := hf
                  unfold ucont at hbi hdi hfi
                  simp only [Bool.and_eq_true, decide_eq_true_eq] at hbi hdi hfi
                  have e : 64 * (64 * (64 * (a.toNat - 240) + (b.toNat - 128)) + (c.toNat - 128)) + (d.toNat - 128) = (a.toNat % 8) * 262144 + (b.toNat % 64) * 4096 + (c.toNat % 64) * 64 + d.toNat % 64 := by omega
                  simp only [uacc, hb, hd, hf, e, if_true, Bool.and_self, Nat.add_one_sub_one]
                  cases ubad ((a.toNat % 8) * 262144 + (b.toNat % 64) * 4096 + (c.toNat % 64) * 64 + d.toNat % 64) 65536 <;> simp
                · simp [uacc, hb, hd, hf]
              · simp [uacc, hb, hd]
            · simp [uacc, hb]
        · have hc : uclass a.toNat = none := by unfold uclass; rw [if_neg (by omega), if_neg (by omega), if_neg (by omega)]
          rw [hc]
          simp [udec, h1, h2, h3, h4, Utf8.runeError]
theorem decode_first (s : ByteArray) (i : Nat) (h : i < s.size) : (Utf8.decode s i).2 = max 1 (ufirst (s.data.toList.drop i)) ∧ (((Utf8.decode s i).1 = 65533 ∧ (Utf8.decode s i).2 = 1) ↔ ufirst (s.data.toList.drop i) = 0) := by
  rw [decode_list]
  cases hl : s.data.toList.drop i with
  | nil =>
    have := congrArg List.length hl
    rw [List.length_drop, Array.length_toList] at this
    have e : s.data.size = s.size := rfl
    simp at this
    omega
  | cons a r => exact udec_first a r

theorem validGo_good : ∀ (n : Nat) (l : List UInt8), l.length ≤ n → Lib.validGoD n l = ugood l
  | 0, l, h => by
    have : l = [] := List.eq_nil_of_length_eq_zero (by omega)
    subst this
    rw [ugood_nil]; rfl
  | n + 1, l, h => by
    rw [Lib.validGoD]
    by_cases hl : l = []
    · rw [if_pos hl, hl, ugood_nil]
    · rw [if_neg hl]
      have hd : (Lib.decodeL l).2 = max 1 (ufirst l) ∧ (((Lib.decodeL l).1 = 65533 ∧ (Lib.decodeL l).2 = 1) ↔ ufirst l = 0) := by
        have := decode_first ⟨l.toArray⟩ 0 (by show 0 < l.toArray.size; rw [List.size_toArray]; exact Nat.pos_of_ne_zero fun e => hl (List.eq_nil_of_length_eq_zero e))
        exact this
      by_cases h0 : ufirst l = 0
      · rw [if_pos (hd.2.2 h0), ugood_zero h0 hl]
      · rw [if_neg (fun e => h0 (hd.2.1 e)), hd.1, ugood_step h0]
        have hk := ufirst_le h0
        rw [Nat.max_eq_right hk.1]
        exact validGo_good n _ (by rw [List.length_drop]; omega)
theorem valid_good (l : List UInt8) : Lib.validD l = ugood l := validGo_good _ l (Nat.le_refl _)
theorem runeFrom_count (s : ByteArray) : ∀ (n i : Nat), s.size ≤ i + n → Lib.runeCountFrom s n i = ucount (s.data.toList.drop i)
  | 0, i, h => by
    rw [List.drop_eq_nil_of_le (by rw [Array.length_toList]; exact h), ucount_nil]; rfl
  | n + 1, i, h => by
    rw [Lib.runeCountFrom]
    by_cases hi : i < s.size
    · have hd := decode_first s i hi
      rw [if_pos hi, hd.1, runeFrom_count s n _ (by omega)]
      have hne : s.data.toList.drop i ≠ [] := fun e => by
        have := congrArg List.length e
        rw [List.length_drop, Array.length_toList] at this
        have e : s.data.size = s.size := rfl
        simp at this
        omega
      rw [ucount_step hne, List.drop_drop]
    · rw [if_neg hi, List.drop_eq_nil_of_le (by rw [Array.length_toList]; exact Nat.le_of_not_lt hi), ucount_nil]
theorem rune_count (s : ByteArray) : Lib.runeCount s = ucount s.data.toList := by
  unfold Lib.runeCount
  rw [runeFrom_count s s.size 0 (by omega), List.drop_zero]
end Go.PM
end

section
/-
  DERIVED: THE SHELF's CONTRACTS AT THIS DUMP, IN PLAIN WORDS (tools/lay-plain.mjs out of 'TrydShelf.lean', which tools/lay-shelf.mjs wrote): THE SAME DECLARATIONS UNDER THE SAME NAMES: 'import', 'namespace', 'open', 'def', 'theorem' AND NOTHING ELSE: no command of the shelf's: FOR A HAND-IN. Each laying: the table of numbers ('.._ren') and one theorem, a field a fact of the dump's own or the kernel's comparison; each contract: ONE APPLICATION.
-/
namespace Go.Proofs
open Go.Shelf
def Tryd.lays120_ren : Go.Shelf.Ren := ⟨fun | 120 => 48 | n => n, fun | 5 => 5 | 4 => 4 | n => n, fun | n => n⟩
theorem Tryd.lays120 : Go.Proofs.Lays.n120 Tryd.prog Tryd.lays120_ren := {
  mixed := by kernel_rfl
  f120 := Tryd.func48.trans (congrArg some (by kernel_rfl))
  t4 := Tryd.underlying4
  a4 := Tryd.isAgg4
  z4 := Tryd.sizeOf4
  v4 := Tryd.zeroValue4
  t5 := Tryd.underlying5
  a5 := Tryd.isAgg5
  z5 := Tryd.sizeOf5
  v5 := Tryd.zeroValue5 }
/-- utf8.RuneStart: "RuneStart reports whether the byte could be the first byte of an encoded, possibly invalid rune. Second and subsequent bytes always have the top two bits set to 10.": IT RETURNS 'Lib.runeStart b'; the world is as it was. ('h0', 'h1': b is a byte: a caller has it of every byte that it was handed.) (LAID: no walk: one application.) -/
theorem Tryd.utf8_RuneStart (b : Int) (w : World) (h0 : 0 ≤ b) (h1 : b < 256) :
    Calls Tryd.prog 48 #[.int .u8 b] w fun e w' => e = .returned (.bool (Lib.runeStart b)) ∧ w' = w := Any.utf8_RuneStart Tryd.lays120 b w h0 h1
def Tryd.lays195_ren : Go.Shelf.Ren := ⟨fun | 195 => 47 | n => n, fun | 9 => 9 | 3 => 3 | 0 => 0 | 4 => 4 | n => n, fun | n => n⟩
theorem Tryd.lays195 : Go.Proofs.Lays.n195 Tryd.prog Tryd.lays195_ren := {
  mixed := by kernel_rfl
  f195 := Tryd.func47.trans (congrArg some (by kernel_rfl))
  t0 := Tryd.underlying0
  a0 := Tryd.isAgg0
  z0 := Tryd.sizeOf0
  v0 := Tryd.zeroValue0
  t3 := Tryd.underlying3
  a3 := Tryd.isAgg3
  z3 := Tryd.sizeOf3
  v3 := Tryd.zeroValue3
  t4 := Tryd.underlying4
  a4 := Tryd.isAgg4
  z4 := Tryd.sizeOf4
  v4 := Tryd.zeroValue4
  t9 := Tryd.underlying9
  a9 := Tryd.isAgg9
  z9 := Tryd.sizeOf9
  v9 := Tryd.zeroValue9 }
open Go.RowKit in
/-- unicode/utf8.RuneCountInString: "RuneCountInString is like RuneCount but its input is a string." ("RuneCount returns the number of runes in p. Erroneous and short encodings are treated as single runes of width 1 byte."): EVERY STRING, valid UTF-8 or not: 'Lib.runeCount s' (plain Lean over the model's own 'Utf8.decode'; 'Lib.runeCount_le': at most len(s); 'Lib.runeCount_ascii': on ASCII: len(s)). THE ONE CONDITION: len(s) below 2^63 - 1 (the counter does not wrap): the form's reach pays it. THE WORLD BEHIND THE CALL: ONE BLOCK MORE: the model's iterator over s, at its end: all else as it was. (LAID: no walk: one application.) -/
theorem Tryd.utf8_RuneCountInString (s : ByteArray) (w : World) (hs : s.size < 9223372036854775807) :
    Calls Tryd.prog 47 #[.string s] w fun e w' => e = .returned (.int .i64 (Lib.runeCount s)) ∧ ∃ pos, w' = w.iter s pos := Any.utf8_RuneCountInString Tryd.lays195 s w hs
def Tryd.lays206_ren : Go.Shelf.Ren := ⟨fun | 206 => 50 | n => n, fun | 9 => 9 | 4 => 4 | 3 => 3 | n => n, fun | n => n⟩
theorem Tryd.lays206 : Go.Proofs.Lays.n206 Tryd.prog Tryd.lays206_ren := {
  mixed := by kernel_rfl
  f206 := Tryd.func50.trans (congrArg some (by kernel_rfl))
  t3 := Tryd.underlying3
  a3 := Tryd.isAgg3
  z3 := Tryd.sizeOf3
  v3 := Tryd.zeroValue3
  t4 := Tryd.underlying4
  a4 := Tryd.isAgg4
  z4 := Tryd.sizeOf4
  v4 := Tryd.zeroValue4
  t9 := Tryd.underlying9
  a9 := Tryd.isAgg9
  z9 := Tryd.sizeOf9
  v9 := Tryd.zeroValue9 }
open Go.RowKit Go.Lib in
/-- internal/stringslite.HasPrefix (what strings.HasPrefix calls). (LAID: no walk: one application.) -/
theorem Tryd.stringslite_HasPrefix (s p : ByteArray) (w : World) :
    Calls Tryd.prog 50 #[.string s, .string p] w fun e w' => e = .returned (.bool (Lib.hasPrefix s.data.toList p.data.toList)) ∧ w' = w := Any.stringslite_HasPrefix Tryd.lays206 s p w
def Tryd.lays99_ren : Go.Shelf.Ren := ⟨fun | 99 => 17 | 206 => 50 | n => n, fun | 9 => 9 | 4 => 4 | 3 => 3 | n => n, fun | n => n⟩
theorem Tryd.lays99 : Go.Proofs.Lays.n99 Tryd.prog Tryd.lays99_ren := {
  mixed := by kernel_rfl
  f99 := Tryd.func17.trans (congrArg some (by kernel_rfl))
  f206 := Tryd.func50.trans (congrArg some (by kernel_rfl))
  t3 := Tryd.underlying3
  a3 := Tryd.isAgg3
  z3 := Tryd.sizeOf3
  v3 := Tryd.zeroValue3
  t4 := Tryd.underlying4
  a4 := Tryd.isAgg4
  z4 := Tryd.sizeOf4
  v4 := Tryd.zeroValue4
  t9 := Tryd.underlying9
  a9 := Tryd.isAgg9
  z9 := Tryd.sizeOf9
  v9 := Tryd.zeroValue9 }
open Go.RowKit Go.Lib in
/-- strings.HasPrefix: "HasPrefix reports whether the string s begins with prefix.": IT RETURNS 'Lib.hasPrefix s prefix'; the world is as it was. (LAID: no walk: one application.) -/
theorem Tryd.strings_HasPrefix (s p : ByteArray) (w : World) :
    Calls Tryd.prog 17 #[.string s, .string p] w fun e w' => e = .returned (.bool (Lib.hasPrefix s.data.toList p.data.toList)) ∧ w' = w := Any.strings_HasPrefix Tryd.lays99 s p w
def Tryd.lays196_ren : Go.Shelf.Ren := ⟨fun | 196 => 46 | 259 => 68 | n => n, fun | 9 => 9 | 4 => 4 | 3 => 3 | 5 => 5 | 12 => 12 | 119 => 98 | 0 => 0 | 46 => 102 | 139 => 101 | 138 => 100 | 53 => 33 | n => n, fun | 3 => 0 | 4 => 1 | n => n⟩
theorem Tryd.lays196 : Go.Proofs.Lays.n196 Tryd.prog Tryd.lays196_ren := {
  mixed := by kernel_rfl
  f196 := Tryd.func46.trans (congrArg some (by kernel_rfl))
  f259 := Tryd.func68.trans (congrArg some (by kernel_rfl))
  t0 := Tryd.underlying0
  a0 := Tryd.isAgg0
  z0 := Tryd.sizeOf0
  v0 := Tryd.zeroValue0
  t3 := Tryd.underlying3
  a3 := Tryd.isAgg3
  z3 := Tryd.sizeOf3
  v3 := Tryd.zeroValue3
  t4 := Tryd.underlying4
  a4 := Tryd.isAgg4
  z4 := Tryd.sizeOf4
  v4 := Tryd.zeroValue4
  t5 := Tryd.underlying5
  a5 := Tryd.isAgg5
  z5 := Tryd.sizeOf5
  v5 := Tryd.zeroValue5
  t9 := Tryd.underlying9
  a9 := Tryd.isAgg9
  z9 := Tryd.sizeOf9
  v9 := Tryd.zeroValue9
  t12 := Tryd.underlying12
  a12 := Tryd.isAgg12
  z12 := Tryd.sizeOf12
  v12 := Tryd.zeroValue12
  t46 := Tryd.underlying102
  a46 := Tryd.isAgg102
  z46 := Tryd.sizeOf102
  v46 := Tryd.zeroValue102
  t53 := Tryd.underlying33
  a53 := Tryd.isAgg33
  z53 := Tryd.sizeOf33
  v53 := Tryd.zeroValue33
  t119 := Tryd.underlying98
  a119 := Tryd.isAgg98
  z119 := Tryd.sizeOf98
  t138 := Tryd.underlying100
  a138 := Tryd.isAgg100
  z138 := Tryd.sizeOf100
  v138 := Tryd.zeroValue100
  t139 := Tryd.underlying101
  a139 := Tryd.isAgg101
  z139 := Tryd.sizeOf101
  v139 := Tryd.zeroValue101
  g3 := by kernel_rfl
  g4 := by kernel_rfl }
end Go.Proofs
end

section
/-
  Contracts of layer 7 (utf). Conditions: texts within int; Go's two tables of UTF-8 lie in memory as its text lays them.
-/
namespace Go.Proofs.YtmlijflappjfoaaDoor
open Go.RowKit Go.PM
set_option maxRecDepth 100000
set_option maxHeartbeats 1000000

/-- Go's tables of UTF-8. -/
def Tabs (w : World) : Prop := Lib.Utf8Tabs (Tryd.lays196_ren.g 3) (Tryd.lays196_ren.g 4) w
theorem Tabs.below {w w' : World} (h : Tabs w) (hb : Below w.heap.size w w') : Tabs w' := by
  refine ⟨fun c hc => ?_, fun i hi => ?_⟩
  · have := h.1 c hc
    exact (hb.cell (p := ⟨_, c, none⟩) (World.block_lt_of_cell? w _ this)).trans this
  · have h1 := (h.2 i hi).1
    have h2 := (h.2 i hi).2
    exact ⟨(hb.cell (p := ⟨_, 2 * i, none⟩) (World.block_lt_of_cell? w _ h1)).trans h1, (hb.cell (p := ⟨_, 2 * i + 1, none⟩) (World.block_lt_of_cell? w _ h2)).trans h2⟩
theorem good_any (s : ByteArray) (w : World) (hs : s.size ≤ 9223372036854775807) (hT : Tabs w) :
    Calls Tryd.prog 13 #[.string s] w fun e w' => e = .returned (.bool (ugood s.data.toList)) ∧ Below w.heap.size w w' := by
  have HV : Hid (Calls Tryd.prog 46 #[.string s] w fun e w' => e = .returned (.bool (ugood s.data.toList)) ∧ Below w.heap.size w w') := by
    show Calls _ _ _ _ _
    have := Any.utf8_ValidString Tryd.lays196 s w hs hT
    rw [valid_good] at this
    exact this
  generalize ugood s.data.toList = g at HV ⊢
  clear hT
  go_enter Tryd.func13, Tryd.ntmps13
  go_wp2_with fail
  refine HV.out.mono ?_
  rintro e w1 ⟨rfl, hb⟩
  go_wp2
  go_ret
  exact ⟨rfl, hb⟩
theorem count_any7 (s : ByteArray) (w : World) (hs : s.size < 9223372036854775807) :
    Calls Tryd.prog 14 #[.string s] w fun e w' => e = .returned (.int .i64 (ucount s.data.toList : Int)) ∧ Below w.heap.size w w' := by
  have HV : Hid (Calls Tryd.prog 47 #[.string s] w fun e w' => e = .returned (.int .i64 (ucount s.data.toList : Int)) ∧ Below w.heap.size w w') := by
    show Calls _ _ _ _ _
    have := Tryd.utf8_RuneCountInString s w hs
    rw [rune_count] at this
    exact this.mono fun e w' ⟨he, pos, hw⟩ => ⟨he, hw ▸ ba b0 _⟩
  generalize ucount s.data.toList = g at HV ⊢
  go_enter Tryd.func14, Tryd.ntmps14
  go_wp2_with fail
  refine HV.out.mono ?_
  rintro e w1 ⟨rfl, hb⟩
  go_wp2
  go_ret
  exact ⟨rfl, hb⟩
/-- Where the program cuts. -/
def pcut (l : List UInt8) (most : Int) : Nat := if most < 0 then 0 else if (l.length : Int) ≤ most then l.length else ptrim l most.toNat
theorem rune_start (b : UInt8) : Lib.runeStart (b.toNat : Int) = !ucont b := by
  unfold Lib.runeStart ucont
  rw [Bool.eq_iff_iff]
  simp
  omega
theorem trim_any (s : ByteArray) (most : Int) (w : World) (hs : s.size ≤ 9223372036854775807) (hm : InI64 most) :
    Calls Tryd.prog 15 #[.string s, .int .i64 most] w fun e w' => e = .returned (.string (txt (s.data.toList.take (pcut s.data.toList most)))) ∧ Below w.heap.size w w' := by
  unfold pcut
  rw [len_list]
  by_cases h0 : most < 0
  · rw [if_pos h0]
    go_enter Tryd.func15, Tryd.ntmps15
    go_wp2
    go_ret
    exact ⟨rfl, b0⟩
  · rw [if_neg h0]
    by_cases h1 : (s.size : Int) ≤ most
    · rw [if_pos h1, List.take_of_length_le (by rw [len_list]; omega), txt_of]
      go_enter Tryd.func15, Tryd.ntmps15
      go_wp2
      go_ret
      exact ⟨rfl, b0⟩
    · rw [if_neg h1]
      obtain ⟨m0, rfl⟩ := Int.eq_ofNat_of_zero_le (show 0 ≤ most by omega)
      rw [Int.toNat_natCast]
      generalize hP : ptrim s.data.toList m0 = P
      have HP := Lib.hid hP
      clear hP hm
      go_enter Tryd.func15, Tryd.ntmps15
      go_wp2
      go_loop [1] (fun mm => ∃ m : Nat, m ≤ m0 ∧ mm = .int .i64 (m : Int) ∧ Hid (ptrim s.data.toList m = P)) (fun mm => (intOf mm).toNat)
      case atStart => exact ⟨m0, by omega, rfl, HP.out⟩
      case round =>
        obtain ⟨m, hm, rfl, hp⟩ := hrel
        by_cases hz : m = 0
        · subst hz
          have hP0 := hp.out
          rw [ptrim] at hP0
          subst hP0
          go_wp2
          go_ret
          exact ⟨rfl, b0⟩
        · obtain ⟨k, rfl⟩ : ∃ k, m = k + 1 := ⟨m - 1, by omega⟩
          have hlt : k + 1 < s.size := by omega
          have hp2 := hp.out
          have hg : s.data.toList.getD (k + 1) 0 = s[k + 1] := by
            rw [List.getD_eq_getElem?_getD, List.getElem?_eq_getElem (by rw [len_list]; exact hlt)]
            rfl
          rw [ptrim, hg] at hp2
          have hrs := rune_start s[k + 1]
          have hlo : (0 : Int) ≤ s[k + 1].toNat := by omega
          have hhi : (s[k + 1].toNat : Int) < 256 := by have := s[k + 1].toNat_lt; omega
          have HRS : Hid (∀ x : World, Calls Tryd.prog 48 #[.int .u8 (s[k + 1].toNat : Int)] x fun e w' => e = .returned (.bool (!ucont s[k + 1])) ∧ x = w') := fun x => by
            have := Tryd.utf8_RuneStart (s[k + 1].toNat : Int) x hlo hhi
            rw [hrs] at this
            exact this.mono fun e w' ⟨he, hw⟩ => ⟨he, hw.symm⟩
          clear hrs hlo hhi hg hp
          cases hc : ucont s[k + 1] with
          | true =>
            rw [hc] at hp2 HRS
            rw [if_pos rfl] at hp2
            have HP2 := Lib.hid hp2
            clear hc hp2
            go_wp2_with (go_at_call 48; refine (HRS.out _).mono ?_; rintro e w' ⟨rfl, rfl⟩)
            go_round
            case rel => exact ⟨k, by omega, rfl, HP2⟩
            case measure => simp [intOf]
          | false =>
            rw [hc] at hp2 HRS
            rw [if_neg (by simp)] at hp2
            subst hp2
            clear hc
            go_wp2_with (go_at_call 48; refine (HRS.out _).mono ?_; rintro e w' ⟨rfl, rfl⟩)
            go_ret
            refine ⟨?_, b0⟩
            have e : s.extract 0 (k + 1) = txt (s.data.toList.take (k + 1)) := txt_eq (by rw [ext_list, List.drop_zero, Nat.sub_zero])
            rw [← e]
            rfl

/-- What a text may be. -/
def uchk (l : List UInt8) (least most : Int) : Int := if (l.length : Int) < least ∨ most < l.length then 13 else if ugood l then 0 else 11
theorem ucheck_any (s : ByteArray) (least most : Int) (w : World) (hs : s.size ≤ 9223372036854775807) (hT : Tabs w) :
    Calls Tryd.prog 19 #[.string s, .int .i64 least, .int .i64 most] w fun e w' => e = .returned (.int .i64 (uchk s.data.toList least most)) ∧ Below w.heap.size w w' := by
  unfold uchk
  rw [len_list]
  have HG : Hid (Calls Tryd.prog 13 #[.string s] w fun e w' => e = .returned (.bool (ugood s.data.toList)) ∧ Below w.heap.size w w') := good_any s w hs hT
  clear hT
  by_cases h1 : (s.size : Int) < least
  · rw [if_pos (.inl h1)]
    go_enter Tryd.func19, Tryd.ntmps19
    go_wp2
    go_ret
    exact ⟨rfl, b0⟩
  · by_cases h2 : most < (s.size : Int)
    · rw [if_pos (.inr h2)]
      go_enter Tryd.func19, Tryd.ntmps19
      go_wp2
      go_ret
      exact ⟨rfl, b0⟩
    · rw [if_neg (by omega)]
      cases hg : ugood s.data.toList with
      | true =>
        rw [hg] at HG
        clear hg
        go_enter Tryd.func19, Tryd.ntmps19
        go_wp2_with fail
        refine HG.out.mono ?_
        rintro e w1 ⟨rfl, hb⟩
        go_wp2
        go_ret
        exact ⟨rfl, hb⟩
      | false =>
        rw [hg] at HG
        clear hg
        go_enter Tryd.func19, Tryd.ntmps19
        go_wp2_with fail
        refine HG.out.mono ?_
        rintro e w1 ⟨rfl, hb⟩
        go_wp2
        go_ret
        exact ⟨rfl, hb⟩

/-! ### The document's answer -/
/-- So great is the number behind k bytes, at most. -/
def ub : Nat → Nat
  | 1 => 31
  | 2 => 2047
  | 3 => 131071
  | _ => 8388607
theorem ub_step {k m d : Nat} (h1 : 1 ≤ k) (h2 : k < 4) (hm : m ≤ ub k) (hd : d < 64) : 64 * m + d ≤ ub (k + 1) := by
  match k, h1, h2, hm with
  | 1, _, _, hm => simp [ub] at hm ⊢; omega
  | 2, _, _, hm => simp [ub] at hm ⊢; omega
  | 3, _, _, hm => simp [ub] at hm ⊢; omega
theorem ub_le (k : Nat) : ub k ≤ 8388607 := by
  unfold ub
  split <;> omega
/-- On the way through a code point's bytes. -/
def Ua (l : List UInt8) (size n0 k m : Nat) : Prop := 1 ≤ k ∧ k ≤ size ∧ m ≤ ub k ∧ uacc m (size - k) (l.drop k) = uacc n0 (size - 1) (l.drop 1)
theorem Ua.no {l : List UInt8} {size n0 k m : Nat} (h : Ua l size n0 k m) (hk : k < size) (hl : k < l.length) (hc : ucont l[k] = false) : uacc n0 (size - 1) (l.drop 1) = none := by
  rw [← h.2.2.2, show size - k = (size - k - 1) + 1 by omega, List.drop_eq_getElem_cons hl, uacc, if_neg (by rw [hc]; simp)]
theorem Ua.next {l : List UInt8} {size n0 k m : Nat} (h : Ua l size n0 k m) (hs : size ≤ 4) (hk : k < size) (hl : k < l.length) (hc : ucont l[k] = true) : Ua l size n0 (k + 1) (64 * m + (l[k].toNat - 128)) := by
  refine ⟨by omega, by omega, ub_step h.1 (by omega) h.2.2.1 ?_, ?_⟩
  · unfold ucont at hc
    simp at hc
    omega
  · rw [← h.2.2.2, show size - k = (size - k - 1) + 1 by omega, List.drop_eq_getElem_cons hl, uacc, if_pos hc, show size - (k + 1) = size - k - 1 by omega]
theorem Ua.end_ {l : List UInt8} {size n0 m : Nat} (h : Ua l size n0 size m) : uacc n0 (size - 1) (l.drop 1) = some m := by
  rw [← h.2.2.2, Nat.sub_self]
  cases l.drop size <;> rfl
end Go.Proofs.YtmlijflappjfoaaDoor
end

section
/-
  The document's answers of layer 7, walked. Conditions: texts within int.
-/
namespace Go.Proofs.YtmlijflappjfoaaDoor
open Go.RowKit Go.PM
set_option maxRecDepth 100000
set_option maxHeartbeats 1000000

theorem list_cons (s : ByteArray) (h : 0 < s.size) : s.data.toList = s[0] :: s.data.toList.drop 1 := by
  have := List.drop_eq_getElem_cons (l := s.data.toList) (i := 0) (by rw [len_list]; exact h)
  rw [List.drop_zero] at this
  exact this
theorem get_at (s : ByteArray) (k : Nat) (_ : k < s.size) (h' : k < s.data.toList.length) : s.data.toList[k] = s[k] := by simp; rfl
theorem rfirst_any (s : ByteArray) (w : World) (hs : s.size ≤ 9223372036854775807) :
    Calls Tryd.prog 49 #[.string s] w fun e w' => e = .returned (.int .i64 (ufirst s.data.toList : Int)) ∧ Below w.heap.size w w' := by
  by_cases h0 : s.size = 0
  · have hl : s.data.toList = [] := List.eq_nil_of_length_eq_zero (by rw [len_list]; exact h0)
    rw [hl, ufirst_nil]
    clear hl
    go_enter Tryd.func49, Tryd.ntmps49
    go_wp2
    go_ret
    exact ⟨rfl, b0⟩
  · have hpos : 0 < s.size := by omega
    have hcons := list_cons s hpos
    have ha := s[0].toNat_lt
    clear h0
    by_cases h128 : s[0].toNat < 128
    · rw [hcons, ufirst_lo h128]
      clear hcons
      go_enter Tryd.func49, Tryd.ntmps49
      go_wp2
      go_ret
      exact ⟨rfl, b0⟩
    by_cases h192 : s[0].toNat < 192
    · have hcl : uclass s[0].toNat = none := by unfold uclass; rw [if_neg (by omega), if_neg (by omega), if_neg (by omega)]
      rw [hcons, ufirst_hi h128, hcl]
      clear hcons hcl
      go_enter Tryd.func49, Tryd.ntmps49
      go_wp2
      go_ret
      exact ⟨rfl, b0⟩
    by_cases h224 : s[0].toNat < 224
    · have hcl : uclass s[0].toNat = some (2, s[0].toNat - 192, 128) := by unfold uclass; rw [if_pos (by omega)]
      have hF : ufirst s.data.toList = match uacc (s[0].toNat - 192) (2 - 1) (s.data.toList.drop 1) with
          | none => 0
          | some n => if ubad n 128 then 0 else 2 := by
        rw [hcons, ufirst_hi h128, hcl, List.drop_succ_cons, List.drop_zero]
        rfl
      rw [hF]
      clear hF hcl hcons
      by_cases hlen : s.size < 2
      · have hn : uacc (s[0].toNat - 192) (2 - 1) (s.data.toList.drop 1) = none := by
          cases hu : uacc (s[0].toNat - 192) (2 - 1) (s.data.toList.drop 1) with
          | none => rfl
          | some m =>
            have := uacc_len _ _ _ _ hu
            rw [List.length_drop, len_list] at this
            omega
        rw [hn]
        clear hn
        go_enter Tryd.func49, Tryd.ntmps49
        go_wp2
        go_ret
        exact ⟨rfl, b0⟩
      · have H0 : Hid (Ua s.data.toList 2 (s[0].toNat - 192) 1 (s[0].toNat - 192)) := ⟨by omega, by omega, by simp [ub]; omega, rfl⟩
        have hsub : ((s[0].toNat - 192 : Nat) : Int) = (s[0].toNat : Int) - 192 := by omega
        generalize hN : s[0].toNat - 192 = n0 at H0 hsub ⊢
        have HN := Lib.hid hN
        clear hN
        have HSUB := Lib.hid hsub
        clear hsub
        generalize hR : (match uacc n0 (2 - 1) (s.data.toList.drop 1) with
          | none => 0
          | some n => if ubad n 128 then 0 else 2) = R
        have HR := Lib.hid hR
        clear hR
        have d1 : decide ((s[0].toNat : Int) < 128) = false := by simp; omega
        have d2 : decide ((s[0].toNat : Int) < 224) = true := by simp; omega
        have d3 : decide ((s[0].toNat : Int) < 240) = true := by simp; omega
        have d4 : decide ((s[0].toNat : Int) < 248) = true := by simp; omega
        have d5 : decide ((s.size : Int) < 2) = false := by simp; omega
        go_enter Tryd.func49, Tryd.ntmps49
        go_wp2
        go_loop [5, 7] (fun nn kk => ∃ k m : Nat, kk = .int .i64 (k : Int) ∧ nn = .int .i64 (m : Int) ∧ Ua s.data.toList 2 n0 k m) (fun _ kk => 2 - (intOf kk).toNat)
        case atStart => exact ⟨1, n0, rfl, by rw [HSUB.out], H0.out⟩
        case round =>
          obtain ⟨k, m, rfl, rfl, hua⟩ := hrel
          clear H0
          have h1 := hua.1
          have h2 := hua.2.1
          have h3 := Nat.le_trans hua.2.2.1 (ub_le k)
          have HU := Lib.hid hua
          clear hua
          by_cases hk : k < 2
          · have hkl : k < s.size := by omega
            have hb := s[k].toNat_lt
            cases hc : ucont s[k] with
            | false =>
              have hno := HU.out.no hk (by rw [len_list]; exact hkl) (by rw [get_at s k hkl]; exact hc)
              have hr := HR.out
              rw [hno] at hr
              simp only at hr
              subst hr
              clear hno
              unfold ucont at hc
              rw [Bool.and_eq_false_iff, decide_eq_false_iff_not, decide_eq_false_iff_not] at hc
              rcases hc with hc | hc
              · go_wp2
                go_ret
                exact ⟨rfl, b0⟩
              · go_wp2
                go_ret
                exact ⟨rfl, b0⟩
            | true =>
              have hnx := HU.out.next (by omega) hk (by rw [len_list]; exact hkl) (by rw [get_at s k hkl]; exact hc)
              rw [get_at s k hkl] at hnx
              unfold ucont at hc
              rw [Bool.and_eq_true, decide_eq_true_eq, decide_eq_true_eq] at hc
              obtain ⟨c1, c2⟩ := hc
              have HNX := Lib.hid hnx
              clear hnx
              go_wp2
              go_round
              case rel => exact ⟨k + 1, 64 * m + (s[k].toNat - 128), by go_num, by congr 1; omega, HNX.out⟩
              case measure => simp [intOf]; omega
          · obtain rfl : k = 2 := by omega
            have hr := HR.out
            rw [HU.out.end_] at hr
            simp only at hr
            cases hbad : ubad m 128 with
            | true =>
              rw [hbad, if_pos rfl] at hr
              subst hr
              unfold ubad at hbad
              simp only [Bool.or_eq_true, Bool.and_eq_true, decide_eq_true_eq] at hbad
              rcases hbad with (hbad | hbad) | ⟨hb1, hb2⟩
              · go_wp2
                go_ret
                exact ⟨rfl, b0⟩
              · go_wp2
                go_ret
                exact ⟨rfl, b0⟩
              · go_wp2
                go_ret
                exact ⟨rfl, b0⟩
            | false =>
              rw [hbad, if_neg (by simp)] at hr
              subst hr
              unfold ubad at hbad
              simp only [Bool.or_eq_false_iff, Bool.and_eq_false_imp, decide_eq_false_iff_not, decide_eq_true_eq] at hbad
              obtain ⟨⟨hb1, hb2⟩, hb3⟩ := hbad
              have hb4 : m < 55296 ∨ 57344 ≤ m := by omega
              clear hb3
              rcases hb4 with hb4 | hb4
              · go_wp2
                all_goals (go_ret; exact ⟨rfl, b0⟩)
              · go_wp2
                go_ret
                exact ⟨rfl, b0⟩
    by_cases h240 : s[0].toNat < 240
    · have hcl : uclass s[0].toNat = some (3, s[0].toNat - 224, 2048) := by unfold uclass; rw [if_neg (by omega), if_pos (by omega)]
      have hF : ufirst s.data.toList = match uacc (s[0].toNat - 224) (3 - 1) (s.data.toList.drop 1) with
          | none => 0
          | some n => if ubad n 2048 then 0 else 3 := by
        rw [hcons, ufirst_hi h128, hcl, List.drop_succ_cons, List.drop_zero]
        rfl
      rw [hF]
      clear hF hcl hcons
      by_cases hlen : s.size < 3
      · have hn : uacc (s[0].toNat - 224) (3 - 1) (s.data.toList.drop 1) = none := by
          cases hu : uacc (s[0].toNat - 224) (3 - 1) (s.data.toList.drop 1) with
          | none => rfl
          | some m =>
            have := uacc_len _ _ _ _ hu
            rw [List.length_drop, len_list] at this
            omega
        rw [hn]
        clear hn
        go_enter Tryd.func49, Tryd.ntmps49
        go_wp2
        go_ret
        exact ⟨rfl, b0⟩
      · have H0 : Hid (Ua s.data.toList 3 (s[0].toNat - 224) 1 (s[0].toNat - 224)) := ⟨by omega, by omega, by simp [ub]; omega, rfl⟩
        have hsub : ((s[0].toNat - 224 : Nat) : Int) = (s[0].toNat : Int) - 224 := by omega
        generalize hN : s[0].toNat - 224 = n0 at H0 hsub ⊢
        have HN := Lib.hid hN
        clear hN
        have HSUB := Lib.hid hsub
        clear hsub
        generalize hR : (match uacc n0 (3 - 1) (s.data.toList.drop 1) with
          | none => 0
          | some n => if ubad n 2048 then 0 else 3) = R
        have HR := Lib.hid hR
        clear hR
        have d1 : decide ((s[0].toNat : Int) < 128) = false := by simp; omega
        have d2 : decide ((s[0].toNat : Int) < 224) = false := by simp; omega
        have d3 : decide ((s[0].toNat : Int) < 240) = true := by simp; omega
        have d4 : decide ((s[0].toNat : Int) < 248) = true := by simp; omega
        have d5 : decide ((s.size : Int) < 3) = false := by simp; omega
        go_enter Tryd.func49, Tryd.ntmps49
        go_wp2
        go_loop [5, 7] (fun nn kk => ∃ k m : Nat, kk = .int .i64 (k : Int) ∧ nn = .int .i64 (m : Int) ∧ Ua s.data.toList 3 n0 k m) (fun _ kk => 3 - (intOf kk).toNat)
        case atStart => exact ⟨1, n0, rfl, by rw [HSUB.out], H0.out⟩
        case round =>
          obtain ⟨k, m, rfl, rfl, hua⟩ := hrel
          clear H0
          have h1 := hua.1
          have h2 := hua.2.1
          have h3 := Nat.le_trans hua.2.2.1 (ub_le k)
          have HU := Lib.hid hua
          clear hua
          by_cases hk : k < 3
          · have hkl : k < s.size := by omega
            have hb := s[k].toNat_lt
            cases hc : ucont s[k] with
            | false =>
              have hno := HU.out.no hk (by rw [len_list]; exact hkl) (by rw [get_at s k hkl]; exact hc)
              have hr := HR.out
              rw [hno] at hr
              simp only at hr
              subst hr
              clear hno
              unfold ucont at hc
              rw [Bool.and_eq_false_iff, decide_eq_false_iff_not, decide_eq_false_iff_not] at hc
              rcases hc with hc | hc
              · go_wp2
                go_ret
                exact ⟨rfl, b0⟩
              · go_wp2
                go_ret
                exact ⟨rfl, b0⟩
            | true =>
              have hnx := HU.out.next (by omega) hk (by rw [len_list]; exact hkl) (by rw [get_at s k hkl]; exact hc)
              rw [get_at s k hkl] at hnx
              unfold ucont at hc
              rw [Bool.and_eq_true, decide_eq_true_eq, decide_eq_true_eq] at hc
              obtain ⟨c1, c2⟩ := hc
              have HNX := Lib.hid hnx
              clear hnx
              go_wp2
              go_round
              case rel => exact ⟨k + 1, 64 * m + (s[k].toNat - 128), by go_num, by congr 1; omega, HNX.out⟩
              case measure => simp [intOf]; omega
          · obtain rfl : k = 3 := by omega
            have hr := HR.out
            rw [HU.out.end_] at hr
            simp only at hr
            cases hbad : ubad m 2048 with
            | true =>
              rw [hbad, if_pos rfl] at hr
              subst hr
              unfold ubad at hbad
              simp only [Bool.or_eq_true, Bool.and_eq_true, decide_eq_true_eq] at hbad
              rcases hbad with (hbad | hbad) | ⟨hb1, hb2⟩
              · go_wp2
                go_ret
                exact ⟨rfl, b0⟩
              · go_wp2
                go_ret
                exact ⟨rfl, b0⟩
              · go_wp2
                go_ret
                exact ⟨rfl, b0⟩
            | false =>
              rw [hbad, if_neg (by simp)] at hr
              subst hr
              unfold ubad at hbad
              simp only [Bool.or_eq_false_iff, Bool.and_eq_false_imp, decide_eq_false_iff_not, decide_eq_true_eq] at hbad
              obtain ⟨⟨hb1, hb2⟩, hb3⟩ := hbad
              have hb4 : m < 55296 ∨ 57344 ≤ m := by omega
              clear hb3
              rcases hb4 with hb4 | hb4
              · go_wp2
                all_goals (go_ret; exact ⟨rfl, b0⟩)
              · go_wp2
                go_ret
                exact ⟨rfl, b0⟩
    by_cases h248 : s[0].toNat < 248
    · have hcl : uclass s[0].toNat = some (4, s[0].toNat - 240, 65536) := by unfold uclass; rw [if_neg (by omega), if_neg (by omega), if_pos (by omega)]
      have hF : ufirst s.data.toList = match uacc (s[0].toNat - 240) (4 - 1) (s.data.toList.drop 1) with
          | none => 0
          | some n => if ubad n 65536 then 0 else 4 := by
        rw [hcons, ufirst_hi h128, hcl, List.drop_succ_cons, List.drop_zero]
        rfl
      rw [hF]
      clear hF hcl hcons
      by_cases hlen : s.size < 4
      · have hn : uacc (s[0].toNat - 240) (4 - 1) (s.data.toList.drop 1) = none := by
          cases hu : uacc (s[0].toNat - 240) (4 - 1) (s.data.toList.drop 1) with
          | none => rfl
          | some m =>
            have := uacc_len _ _ _ _ hu
            rw [List.length_drop, len_list] at this
            omega
        rw [hn]
        clear hn
        go_enter Tryd.func49, Tryd.ntmps49
        go_wp2
        go_ret
        exact ⟨rfl, b0⟩
      · have H0 : Hid (Ua s.data.toList 4 (s[0].toNat - 240) 1 (s[0].toNat - 240)) := ⟨by omega, by omega, by simp [ub]; omega, rfl⟩
        have hsub : ((s[0].toNat - 240 : Nat) : Int) = (s[0].toNat : Int) - 240 := by omega
        generalize hN : s[0].toNat - 240 = n0 at H0 hsub ⊢
        have HN := Lib.hid hN
        clear hN
        have HSUB := Lib.hid hsub
        clear hsub
        generalize hR : (match uacc n0 (4 - 1) (s.data.toList.drop 1) with
          | none => 0
          | some n => if ubad n 65536 then 0 else 4) = R
        have HR := Lib.hid hR
        clear hR
        have d1 : decide ((s[0].toNat : Int) < 128) = false := by simp; omega
        have d2 : decide ((s[0].toNat : Int) < 224) = false := by simp; omega
        have d3 : decide ((s[0].toNat : Int) < 240) = false := by simp; omega
        have d4 : decide ((s[0].toNat : Int) < 248) = true := by simp; omega
        have d5 : decide ((s.size : Int) < 4) = false := by simp; omega
        go_enter Tryd.func49, Tryd.ntmps49
        go_wp2
        go_loop [5, 7] (fun nn kk => ∃ k m : Nat, kk = .int .i64 (k : Int) ∧ nn = .int .i64 (m : Int) ∧ Ua s.data.toList 4 n0 k m) (fun _ kk => 4 - (intOf kk).toNat)
        case atStart => exact ⟨1, n0, rfl, by rw [HSUB.out], H0.out⟩
        case round =>
          obtain ⟨k, m, rfl, rfl, hua⟩ := hrel
          clear H0
          have h1 := hua.1
          have h2 := hua.2.1
          have h3 := Nat.le_trans hua.2.2.1 (ub_le k)
          have HU := Lib.hid hua
          clear hua
          by_cases hk : k < 4
          · have hkl : k < s.size := by omega
            have hb := s[k].toNat_lt
            cases hc : ucont s[k] with
            | false =>
              have hno := HU.out.no hk (by rw [len_list]; exact hkl) (by rw [get_at s k hkl]; exact hc)
              have hr := HR.out
              rw [hno] at hr
              simp only at hr
              subst hr
              clear hno
              unfold ucont at hc
              rw [Bool.and_eq_false_iff, decide_eq_false_iff_not, decide_eq_false_iff_not] at hc
              rcases hc with hc | hc
              · go_wp2
                go_ret
                exact ⟨rfl, b0⟩
              · go_wp2
                go_ret
                exact ⟨rfl, b0⟩
            | true =>
              have hnx := HU.out.next (by omega) hk (by rw [len_list]; exact hkl) (by rw [get_at s k hkl]; exact hc)
              rw [get_at s k hkl] at hnx
              unfold ucont at hc
              rw [Bool.and_eq_true, decide_eq_true_eq, decide_eq_true_eq] at hc
              obtain ⟨c1, c2⟩ := hc
              have HNX := Lib.hid hnx
              clear hnx
              go_wp2
              go_round
              case rel => exact ⟨k + 1, 64 * m + (s[k].toNat - 128), by go_num, by congr 1; omega, HNX.out⟩
              case measure => simp [intOf]; omega
          · obtain rfl : k = 4 := by omega
            have hr := HR.out
            rw [HU.out.end_] at hr
            simp only at hr
            cases hbad : ubad m 65536 with
            | true =>
              rw [hbad, if_pos rfl] at hr
              subst hr
              unfold ubad at hbad
              simp only [Bool.or_eq_true, Bool.and_eq_true, decide_eq_true_eq] at hbad
              rcases hbad with (hbad | hbad) | ⟨hb1, hb2⟩
              · go_wp2
                go_ret
                exact ⟨rfl, b0⟩
              · go_wp2
                go_ret
                exact ⟨rfl, b0⟩
              · go_wp2
                go_ret
                exact ⟨rfl, b0⟩
            | false =>
              rw [hbad, if_neg (by simp)] at hr
              subst hr
              unfold ubad at hbad
              simp only [Bool.or_eq_false_iff, Bool.and_eq_false_imp, decide_eq_false_iff_not, decide_eq_true_eq] at hbad
              obtain ⟨⟨hb1, hb2⟩, hb3⟩ := hbad
              have hb4 : m < 55296 ∨ 57344 ≤ m := by omega
              clear hb3
              rcases hb4 with hb4 | hb4
              · go_wp2
                all_goals (go_ret; exact ⟨rfl, b0⟩)
              · go_wp2
                go_ret
                exact ⟨rfl, b0⟩
    have hcl : uclass s[0].toNat = none := by unfold uclass; rw [if_neg (by omega), if_neg (by omega), if_neg (by omega)]
    rw [hcons, ufirst_hi h128, hcl]
    clear hcons hcl
    go_enter Tryd.func49, Tryd.ntmps49
    go_wp2
    go_ret
    exact ⟨rfl, b0⟩
end Go.Proofs.YtmlijflappjfoaaDoor
end

section
/-
  The document's answers of layer 7 over whole texts, walked. Conditions: texts within int.
-/
namespace Go.Proofs.YtmlijflappjfoaaDoor
open Go.RowKit Go.PM
set_option maxRecDepth 100000
set_option maxHeartbeats 1000000

theorem list_nil {t : ByteArray} (h : t.size = 0) : t.data.toList = [] := List.eq_nil_of_length_eq_zero (by rw [len_list]; exact h)
theorem list_ne {t : ByteArray} (h : ¬ t.size = 0) : t.data.toList ≠ [] := fun e => h (by rw [← len_list, e]; rfl)
theorem rgood_any (s : ByteArray) (w : World) (hs : s.size ≤ 9223372036854775807) :
    Calls Tryd.prog 16 #[.string s] w fun e w' => e = .returned (.bool (ugood s.data.toList)) ∧ Below w.heap.size w w' := by
  generalize hG : ugood s.data.toList = G
  have HG := Lib.hid hG
  clear hG
  go_enter Tryd.func16, Tryd.ntmps16
  go_wp2
  go_loopw [0] (fun sl wr => ∃ t : ByteArray, sl = .string t ∧ t.size ≤ s.size ∧ Hid (ugood t.data.toList = G) ∧ Below w.heap.size w wr) (fun sl _ => strLen sl)
  case atStart => exact ⟨s, rfl, Nat.le_refl _, HG, b0⟩
  case round =>
    obtain ⟨t, rfl, hle, hg, hbel⟩ := hrel
    have HB := Lib.hid hbel
    clear hbel
    by_cases ht : t.size = 0
    · have hg2 := hg.out
      rw [list_nil ht, ugood_nil] at hg2
      subst hg2
      go_wp2
      go_ret
      exact ⟨rfl, HB.out⟩
    · have hpos : 0 < t.size := by omega
      have hne := list_ne ht
      have hu := ufirst_le4 t.data.toList
      have HF : Hid (∀ x : World, Calls Tryd.prog 49 #[.string t] x fun e w' => e = .returned (.int .i64 (ufirst t.data.toList : Int)) ∧ Below x.heap.size x w') := fun x => rfirst_any t x (by omega)
      have hg2 := hg.out
      by_cases hz : ufirst t.data.toList = 0
      · rw [ugood_zero hz hne] at hg2
        subst hg2
        rw [hz] at HF
        clear hz hu ht hne
        go_wp2_with fail
        refine (HF.out _).mono ?_
        rintro e w1 ⟨rfl, hb1⟩
        go_wp2
        go_ret
        exact ⟨rfl, bb HB.out hb1⟩
      · rw [ugood_step hz] at hg2
        have hl := ufirst_le hz
        rw [len_list] at hl
        obtain ⟨l1, l2, _⟩ := hl
        have hn0 : ((ufirst t.data.toList : Int) == 0) = false := by rw [beq_eq_false_iff_ne]; omega
        generalize ufirst t.data.toList = k at *
        have HG2 := Lib.hid hg2
        clear hg2 hz hne ht
        go_wp2_with fail
        refine (HF.out _).mono ?_
        rintro e w1 ⟨rfl, hb1⟩
        go_wp2
        go_roundw
        case rel => exact ⟨_, rfl, by simp; omega, by show _ = _; rw [ext_rest]; exact HG2.out, bb HB.out hb1⟩
        case measure => simp [strLen]; omega
theorem rcount_any (s : ByteArray) (w : World) (hs : s.size ≤ 9223372036854775806) :
    Calls Tryd.prog 21 #[.string s] w fun e w' => e = .returned (.int .i64 (ucount s.data.toList : Int)) ∧ Below w.heap.size w w' := by
  generalize hG : ucount s.data.toList = G
  have HG := Lib.hid hG
  clear hG
  go_enter Tryd.func21, Tryd.ntmps21
  go_wp2
  go_loopw [0, 3] (fun sl nn wr => ∃ (t : ByteArray) (n : Nat), sl = .string t ∧ nn = .int .i64 (n : Int) ∧ n + t.size ≤ s.size ∧ Hid (n + ucount t.data.toList = G) ∧ Below w.heap.size w wr) (fun sl _ _ => strLen sl)
  case atStart => exact ⟨s, 0, rfl, rfl, by omega, by show _ = _; rw [Nat.zero_add]; exact HG.out, b0⟩
  case round =>
    obtain ⟨t, n, rfl, rfl, hle, hg, hbel⟩ := hrel
    have HB := Lib.hid hbel
    clear hbel
    by_cases ht : t.size = 0
    · have hg2 := hg.out
      rw [list_nil ht, ucount_nil, Nat.add_zero] at hg2
      subst hg2
      go_wp2
      go_ret
      exact ⟨rfl, HB.out⟩
    · have hpos : 0 < t.size := by omega
      have hne := list_ne ht
      have hu := ufirst_le4 t.data.toList
      have HF : Hid (∀ x : World, Calls Tryd.prog 49 #[.string t] x fun e w' => e = .returned (.int .i64 (ufirst t.data.toList : Int)) ∧ Below x.heap.size x w') := fun x => rfirst_any t x (by omega)
      have hg2 := hg.out
      rw [ucount_step hne] at hg2
      have hl2 : ufirst t.data.toList ≤ t.size := by
        by_cases hz : ufirst t.data.toList = 0
        · omega
        · have := ufirst_le hz
          rw [len_list] at this
          exact this.2.1
      have hk1 : 1 ≤ max 1 (ufirst t.data.toList) ∧ max 1 (ufirst t.data.toList) ≤ t.size := by omega
      have hmx : (max 1 (ufirst t.data.toList : Int)).toNat = max 1 (ufirst t.data.toList) := by omega
      generalize ufirst t.data.toList = k at *
      have HG2 := Lib.hid hg2
      have HMX := Lib.hid hmx
      clear hg2 hne ht hmx
      obtain ⟨k1, k2⟩ := hk1
      have k3 : max 1 (k : Int) ≤ (t.size : Int) := by omega
      have k4 : 0 ≤ max 1 (k : Int) := by omega
      go_wp2_with fail
      refine (HF.out _).mono ?_
      rintro e w1 ⟨rfl, hb1⟩
      go_wp2
      go_roundw
      case rel => exact ⟨_, n + 1, rfl, by go_num, by rw [HMX.out, ByteArray.size_extract]; omega, by show _ = _; rw [HMX.out, ext_rest]; have := HG2.out; omega, bb HB.out hb1⟩
      case measure =>
        show (t.extract _ _).size < t.size
        rw [HMX.out, ByteArray.size_extract]
        omega
theorem rcheck_any (s : ByteArray) (least most : Int) (w : World) (hs : s.size ≤ 9223372036854775807) (_hT : True) :
    Calls Tryd.prog 20 #[.string s, .int .i64 least, .int .i64 most] w fun e w' => e = .returned (.int .i64 (uchk s.data.toList least most)) ∧ Below w.heap.size w w' := by
  unfold uchk
  rw [len_list]
  have HG : Hid (Calls Tryd.prog 16 #[.string s] w fun e w' => e = .returned (.bool (ugood s.data.toList)) ∧ Below w.heap.size w w') := rgood_any s w hs
  try clear hT
  by_cases h1 : (s.size : Int) < least
  · rw [if_pos (.inl h1)]
    go_enter Tryd.func20, Tryd.ntmps20
    go_wp2
    go_ret
    exact ⟨rfl, b0⟩
  · by_cases h2 : most < (s.size : Int)
    · rw [if_pos (.inr h2)]
      go_enter Tryd.func20, Tryd.ntmps20
      go_wp2
      go_ret
      exact ⟨rfl, b0⟩
    · rw [if_neg (by omega)]
      cases hg : ugood s.data.toList with
      | true =>
        rw [hg] at HG
        clear hg
        go_enter Tryd.func20, Tryd.ntmps20
        go_wp2_with fail
        refine HG.out.mono ?_
        rintro e w1 ⟨rfl, hb⟩
        go_wp2
        go_ret
        exact ⟨rfl, hb⟩
      | false =>
        rw [hg] at HG
        clear hg
        go_enter Tryd.func20, Tryd.ntmps20
        go_wp2_with fail
        refine HG.out.mono ?_
        rintro e w1 ⟨rfl, hb⟩
        go_wp2
        go_ret
        exact ⟨rfl, hb⟩

/-- Where the document cuts a good text. -/
def rcut (l : List UInt8) (most : Int) : Nat := if most < 0 then 0 else utrim l most.toNat
theorem pcut_rcut (l : List UInt8) (most : Int) (h : ugood l = true) : pcut l most = rcut l most := by
  unfold pcut rcut
  by_cases h0 : most < 0
  · rw [if_pos h0, if_pos h0]
  · rw [if_neg h0, if_neg h0]
    by_cases h1 : (l.length : Int) ≤ most
    · rw [if_pos h1, utrim_all l h _ (by omega)]
    · rw [if_neg h1, ptrim_utrim l h _ (by omega)]
theorem pcut_good (l : List UInt8) (most : Int) (h : ugood l = true) : ugood (l.take (pcut l most)) = true := by
  rw [pcut_rcut l most h]
  unfold rcut
  split
  · simp [ugood_nil]
  · exact utrim_good l h _
theorem pcut_le (l : List UInt8) (most : Int) : pcut l most ≤ l.length ∧ (pcut l most : Int) ≤ max most 0 := by
  unfold pcut
  split
  · omega
  · split
    · omega
    · have := ptrim_le l most.toNat
      omega
theorem rtrim_any (s : ByteArray) (most : Int) (w : World) (hs : s.size ≤ 9223372036854775000) (hm : InI64 most) (hg : ugood s.data.toList = true) :
    Calls Tryd.prog 18 #[.string s, .int .i64 most] w fun e w' => e = .returned (.string (txt (s.data.toList.take (rcut s.data.toList most)))) ∧ Below w.heap.size w w' := by
  have H0 : Hid (ugood (s.data.toList.drop 0) = true ∧ rcut s.data.toList most = 0 + (if most < 0 then 0 else utrim (s.data.toList.drop 0) (most - (0 : Nat)).toNat)) := by
    refine ⟨by rw [List.drop_zero]; exact hg, ?_⟩
    unfold rcut
    rw [List.drop_zero, Nat.zero_add, Int.natCast_zero, Int.sub_zero]
  generalize rcut s.data.toList most = R at H0 ⊢
  have HM := Lib.hid hm
  clear hm hg
  go_enter Tryd.func18, Tryd.ntmps18
  go_wp2
  go_loopw [5] (fun aa wr => ∃ k : Nat, aa = .int .i64 (k : Int) ∧ k ≤ s.size ∧ ((k : Int) ≤ most ∨ k = 0) ∧ Hid (ugood (s.data.toList.drop k) = true ∧ R = k + (if most < 0 then 0 else utrim (s.data.toList.drop k) (most - k).toNat)) ∧ Below w.heap.size w wr) (fun aa _ => s.size - (intOf aa).toNat)
  case atStart => exact ⟨0, rfl, by omega, .inr rfl, H0, b0⟩
  case round =>
    obtain ⟨k, rfl, hk, hkm, hr, hbel⟩ := hrel
    have HB := Lib.hid hbel
    clear hbel H0
    by_cases hlt : k < s.size
    · have hlen : (s.extract k s.size).data.toList = s.data.toList.drop k := ext_rest s k
      have hne : s.data.toList.drop k ≠ [] := fun e => by
        have := congrArg List.length e
        rw [List.length_drop, len_list] at this
        simp at this
        omega
      have hf := ugood_first hr.out.1 hne
      have hl := ufirst_le hf
      rw [List.length_drop, len_list] at hl
      obtain ⟨l1, l2, l4⟩ := hl
      have HF : Hid (∀ x : World, Calls Tryd.prog 49 #[.string (s.extract k s.size)] x fun e w' => e = .returned (.int .i64 (ufirst (s.data.toList.drop k) : Int)) ∧ Below x.heap.size x w') := fun x => by
        have := rfirst_any (s.extract k s.size) x (by rw [ByteArray.size_extract]; omega)
        rw [hlen] at this
        exact this
      by_cases hgo : (k : Int) + ufirst (s.data.toList.drop k) ≤ most
      · have hnx : ugood (s.data.toList.drop (k + ufirst (s.data.toList.drop k))) = true ∧ R = (k + ufirst (s.data.toList.drop k) : Nat) + (if most < 0 then 0 else utrim (s.data.toList.drop (k + ufirst (s.data.toList.drop k))) (most - (k + ufirst (s.data.toList.drop k) : Nat)).toNat) := by
          refine ⟨?_, ?_⟩
          · rw [← List.drop_drop, ← ugood_step hf]
            exact hr.out.1
          · have h2 := hr.out.2
            rw [if_neg (by omega)] at h2 ⊢
            rw [utrim_go hf (by omega), List.drop_drop] at h2
            rw [h2, show (most - (k : Int)).toNat - ufirst (s.data.toList.drop k) = (most - ((k + ufirst (s.data.toList.drop k) : Nat) : Int)).toNat by omega]
            omega
        generalize ufirst (s.data.toList.drop k) = j at *
        have HNX := Lib.hid hnx
        clear hnx hr hf hne hlen
        go_wp2_with fail
        refine (HF.out _).mono ?_
        rintro e w1 ⟨rfl, hb1⟩
        go_wp2_with fail
        refine (HF.out _).mono ?_
        rintro e w2 ⟨rfl, hb2⟩
        go_wp2
        go_roundw
        case rel => exact ⟨k + j, by go_num, by omega, .inl (by omega), HNX, bb (bb HB.out hb1) hb2⟩
        case measure => simp [intOf]; omega
      · have hR : R = k := by
          have h2 := hr.out.2
          by_cases hm0 : most < 0
          · rw [if_pos hm0] at h2; omega
          · rw [if_neg hm0, utrim_stop (by omega)] at h2; omega
        subst hR
        generalize ufirst (s.data.toList.drop R) = j at *
        clear hr hf hne hlen
        have hgo2 : ¬ ((R : Int) + (j : Int) ≤ most) := hgo
        go_wp2_with fail
        refine (HF.out _).mono ?_
        rintro e w1 ⟨rfl, hb1⟩
        go_wp2
        go_ret
        refine ⟨?_, bb HB.out hb1⟩
        have e : s.extract 0 R = txt (s.data.toList.take R) := txt_eq (by rw [ext_list, List.drop_zero, Nat.sub_zero])
        rw [← e]
        rfl
    · have hR : R = k := by
        have h2 := hr.out.2
        have hd : s.data.toList.drop k = [] := List.drop_eq_nil_of_le (by rw [len_list]; omega)
        rw [hd, utrim_zero ufirst_nil] at h2
        split at h2 <;> omega
      subst hR
      clear hr
      go_wp2
      go_ret
      refine ⟨?_, HB.out⟩
      have e : s.extract 0 R = txt (s.data.toList.take R) := txt_eq (by rw [ext_list, List.drop_zero, Nat.sub_zero])
      rw [← e]
      rfl
end Go.Proofs.YtmlijflappjfoaaDoor
end
