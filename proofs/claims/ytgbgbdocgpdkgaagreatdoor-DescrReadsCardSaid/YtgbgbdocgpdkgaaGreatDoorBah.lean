/-
  Texts of the proof, joined: PlainUtf2 Shelf Utf Entry. Conditions: as each names.
-/
import Derived.Test.YtgbgbdocgpdkgaaGreatDoorBag
import Derived.Shelf.Unicode.ValidAny
import Derived.Shelf.Strings.Builder1
import Derived.Shelf.Small.Bits
import Derived.Shelf.Small.Strs
import Derived.Shelf.Strings.BuilderF
import Derived.Shelf.Strings.BuilderK
import Derived.Shelf.Strconv.Itoa0
import Derived.Shelf.Strings.BuilderCap
import Derived.Ground.SlgnProg
import Derived.Shelf.SlicesE.Equal
import Derived.Test.YtgbgbdocgpdkgaaGreatDoorProg
import Derived.Lib.Bits
import Derived.Test.YtgbgbdocgpdkgaaGreatDoorBae
import Derived.Test.YtgbgbdocgpdkgaaGreatDoorBaa

section
/-
  Plain laws of layer 7: the library's words for UTF-8 (Lib.validD, Lib.runeCount) are the document's.
-/
namespace Go.PM

/-- The model's decoding, of a list. -/
def udec (l : List UInt8) : Nat × Nat :=
  let at' (k : Nat) : Nat := (l.getD k 0).toNat
  let cont (k : Nat) : Bool := decide (k < l.length) && at' k / 64 == 2
  let b0 := at' 0
  if b0 < 0x80 then (b0, 1)
  else if b0 / 32 == 6 && cont 1 then
    let c := (b0 % 32) * 64 + at' 1 % 64
    if c ≥ 0x80 then (c, 2) else (Utf8.runeError, 1)
  else if b0 / 16 == 14 && cont 1 && cont 2 then
    let c := (b0 % 16) * 4096 + (at' 1 % 64) * 64 + at' 2 % 64
    if c ≥ 0x800 && Utf8.valid c then (c, 3) else (Utf8.runeError, 1)
  else if b0 / 8 == 30 && cont 1 && cont 2 && cont 3 then
    let c := (b0 % 8) * 262144 + (at' 1 % 64) * 4096 + (at' 2 % 64) * 64 + at' 3 % 64
    if c ≥ 0x10000 && Utf8.valid c then (c, 4) else (Utf8.runeError, 1)
  else (Utf8.runeError, 1)
theorem get_list (s : ByteArray) (i k : Nat) : s.get! (i + k) = (s.data.toList.drop i).getD k 0 := by
  rw [List.getD_eq_getElem?_getD, List.getElem?_drop, Array.getElem?_toList]
  show s.data[i + k]! = _
  rw [getElem!_def]
  cases s.data[i + k]? <;> rfl
theorem decode_list (s : ByteArray) (i : Nat) : Utf8.decode s i = udec (s.data.toList.drop i) := by
  have hl : ∀ k, decide (i + k < s.size) = decide (k < (s.data.toList.drop i).length) := fun k => by
    rw [List.length_drop, Array.length_toList]
    show decide (i + k < s.size) = decide (k < s.size - i)
    rw [decide_eq_decide]; omega
  unfold Utf8.decode udec
  simp only [get_list, hl]
theorem ucont_iff (b : UInt8) : (b.toNat / 64 == 2) = ucont b := by
  unfold ucont
  rw [Bool.eq_iff_iff]
  simp only [beq_iff_eq, Bool.and_eq_true, decide_eq_true_eq]
  omega
theorem uvalid_iff (n : Nat) : Utf8.valid (n : Int) = !(decide (1114111 < n) || (decide (55296 ≤ n) && decide (n < 57344))) := by
  unfold Utf8.valid
  rw [Bool.eq_iff_iff]
  simp only [Bool.or_eq_true, Bool.and_eq_true, decide_eq_true_eq, Bool.not_eq_true', Bool.or_eq_false_iff, decide_eq_false_iff_not, Bool.and_eq_false_imp]
  omega
theorem ucond (n least : Nat) : (decide (n ≥ least) && Utf8.valid (n : Int)) = !ubad n least := by
  rw [uvalid_iff]
  unfold ubad
  rw [Bool.eq_iff_iff]
  simp only [Bool.and_eq_true, decide_eq_true_eq, Bool.not_eq_true', Bool.or_eq_false_iff, decide_eq_false_iff_not, Bool.and_eq_false_imp]
  omega
theorem udec3 (a b c : UInt8) (r : List UInt8) (h1 : ¬ a.toNat < 128) (h2 : ¬ a.toNat / 32 = 6) (h3 : a.toNat / 16 = 14) :
    udec (a :: b :: c :: r) = if (ucont b && ucont c) = true then (if (!ubad ((a.toNat % 16) * 4096 + (b.toNat % 64) * 64 + c.toNat % 64) 2048) = true then ((a.toNat % 16) * 4096 + (b.toNat % 64) * 64 + c.toNat % 64, 3) else (65533, 1)) else (65533, 1) := by
  have e : udec (a :: b :: c :: r) = (if a.toNat < 0x80 then (a.toNat, 1)
    else if (a.toNat / 32 == 6 && (decide (1 < (a :: b :: c :: r).length) && b.toNat / 64 == 2)) = true then
      (if (a.toNat % 32) * 64 + b.toNat % 64 ≥ 0x80 then ((a.toNat % 32) * 64 + b.toNat % 64, 2) else (Utf8.runeError, 1))
    else if (a.toNat / 16 == 14 && (decide (1 < (a :: b :: c :: r).length) && b.toNat / 64 == 2) && (decide (2 < (a :: b :: c :: r).length) && c.toNat / 64 == 2)) = true then
      (if (decide ((a.toNat % 16) * 4096 + (b.toNat % 64) * 64 + c.toNat % 64 ≥ 0x800) && Utf8.valid (((a.toNat % 16) * 4096 + (b.toNat % 64) * 64 + c.toNat % 64 : Nat) : Int)) = true then ((a.toNat % 16) * 4096 + (b.toNat % 64) * 64 + c.toNat % 64, 3) else (Utf8.runeError, 1))
    else if (a.toNat / 8 == 30 && (decide (1 < (a :: b :: c :: r).length) && b.toNat / 64 == 2) && (decide (2 < (a :: b :: c :: r).length) && c.toNat / 64 == 2) && (decide (3 < (a :: b :: c :: r).length) && ((a :: b :: c :: r).getD 3 0).toNat / 64 == 2)) = true then
      (if (decide ((a.toNat % 8) * 262144 + (b.toNat % 64) * 4096 + (c.toNat % 64) * 64 + ((a :: b :: c :: r).getD 3 0).toNat % 64 ≥ 0x10000) && Utf8.valid (((a.toNat % 8) * 262144 + (b.toNat % 64) * 4096 + (c.toNat % 64) * 64 + ((a :: b :: c :: r).getD 3 0).toNat % 64 : Nat) : Int)) = true then
        ((a.toNat % 8) * 262144 + (b.toNat % 64) * 4096 + (c.toNat % 64) * 64 + ((a :: b :: c :: r).getD 3 0).toNat % 64, 4) else (Utf8.runeError, 1))
    else (Utf8.runeError, 1)) := rfl
  have l1 : decide (1 < (a :: b :: c :: r).length) = true := by simp
  have l2 : decide (2 < (a :: b :: c :: r).length) = true := by simp
  rw [e, if_neg h1, if_neg (by simp [h2]), ucont_iff, ucont_iff, ucond, l1, l2]
  have h4 : (a.toNat / 8 == 30) = false := by rw [beq_eq_false_iff_ne]; omega
  rw [show (a.toNat / 16 == 14) = true by simp [h3], h4]
  simp only [Bool.true_and, Bool.false_and]
  rw [if_neg (c := false = true) (by simp)]
  rfl
theorem udec4 (a b c d : UInt8) (r : List UInt8) (h1 : ¬ a.toNat < 128) (h2 : ¬ a.toNat / 32 = 6) (h3 : ¬ a.toNat / 16 = 14) (h4 : a.toNat / 8 = 30) :
    udec (a :: b :: c :: d :: r) = if (ucont b && ucont c && ucont d) = true then (if (!ubad ((a.toNat % 8) * 262144 + (b.toNat % 64) * 4096 + (c.toNat % 64) * 64 + d.toNat % 64) 65536) = true then
      ((a.toNat % 8) * 262144 + (b.toNat % 64) * 4096 + (c.toNat % 64) * 64 + d.toNat % 64, 4) else (65533, 1)) else (65533, 1) := by
  have e : udec (a :: b :: c :: d :: r) = (if a.toNat < 0x80 then (a.toNat, 1)
    else if (a.toNat / 32 == 6 && (decide (1 < (a :: b :: c :: d :: r).length) && b.toNat / 64 == 2)) = true then
      (if (a.toNat % 32) * 64 + b.toNat % 64 ≥ 0x80 then ((a.toNat % 32) * 64 + b.toNat % 64, 2) else (Utf8.runeError, 1))
    else if (a.toNat / 16 == 14 && (decide (1 < (a :: b :: c :: d :: r).length) && b.toNat / 64 == 2) && (decide (2 < (a :: b :: c :: d :: r).length) && c.toNat / 64 == 2)) = true then
      (if (decide ((a.toNat % 16) * 4096 + (b.toNat % 64) * 64 + c.toNat % 64 ≥ 0x800) && Utf8.valid (((a.toNat % 16) * 4096 + (b.toNat % 64) * 64 + c.toNat % 64 : Nat) : Int)) = true then ((a.toNat % 16) * 4096 + (b.toNat % 64) * 64 + c.toNat % 64, 3) else (Utf8.runeError, 1))
    else if (a.toNat / 8 == 30 && (decide (1 < (a :: b :: c :: d :: r).length) && b.toNat / 64 == 2) && (decide (2 < (a :: b :: c :: d :: r).length) && c.toNat / 64 == 2) && (decide (3 < (a :: b :: c :: d :: r).length) && d.toNat / 64 == 2)) = true then
      (if (decide ((a.toNat % 8) * 262144 + (b.toNat % 64) * 4096 + (c.toNat % 64) * 64 + d.toNat % 64 ≥ 0x10000) && Utf8.valid (((a.toNat % 8) * 262144 + (b.toNat % 64) * 4096 + (c.toNat % 64) * 64 + d.toNat % 64 : Nat) : Int)) = true then
        ((a.toNat % 8) * 262144 + (b.toNat % 64) * 4096 + (c.toNat % 64) * 64 + d.toNat % 64, 4) else (Utf8.runeError, 1))
    else (Utf8.runeError, 1)) := rfl
  have l1 : decide (1 < (a :: b :: c :: d :: r).length) = true := by simp
  have l2 : decide (2 < (a :: b :: c :: d :: r).length) = true := by simp
  have l3 : decide (3 < (a :: b :: c :: d :: r).length) = true := by simp
  rw [e, if_neg h1, if_neg (by simp [h2]), if_neg (by simp [h3]), ucont_iff, ucont_iff, ucont_iff, ucond, l1, l2, l3]
  rw [show (a.toNat / 8 == 30) = true by simp [h4]]
  simp only [Bool.true_and]
  rfl
theorem udec_first (a : UInt8) (r : List UInt8) : (udec (a :: r)).2 = max 1 (ufirst (a :: r)) ∧ (((udec (a :: r)).1 = 65533 ∧ (udec (a :: r)).2 = 1) ↔ ufirst (a :: r) = 0) := by
  by_cases h1 : a.toNat < 128
  · rw [ufirst_lo h1]
    unfold udec
    simp [h1]
    omega
  · rw [ufirst_hi h1]
    by_cases h2 : a.toNat / 32 = 6
    · have hc : uclass a.toNat = some (2, a.toNat - 192, 128) := by unfold uclass; rw [if_pos (by omega)]
      rw [hc]
      unfold udec
      match r with
      | [] => simp [h1, h2, uacc, Utf8.runeError]
      | b :: r =>
        by_cases hb : ucont b = true
        · have hbi := hb
          unfold ucont at hbi
          simp only [Bool.and_eq_true, decide_eq_true_eq] at hbi
          by_cases hn : 128 ≤ (a.toNat % 32) * 64 + b.toNat % 64
          · have hu : ubad (64 * (a.toNat - 192) + (b.toNat - 128)) 128 = false := by unfold ubad; simp; omega
            simp [h1, h2, uacc, ucont_iff, hb, hn, hu]
          · have hu : ubad (64 * (a.toNat - 192) + (b.toNat - 128)) 128 = true := by unfold ubad; simp; omega
            simp [h1, h2, uacc, ucont_iff, hb, hn, hu, Utf8.runeError]
        · simp [h1, h2, uacc, ucont_iff, hb, Utf8.runeError]
    · by_cases h3 : a.toNat / 16 = 14
      · have hc : uclass a.toNat = some (3, a.toNat - 224, 2048) := by unfold uclass; rw [if_neg (by omega), if_pos (by omega)]
        rw [hc]
        match r with
        | [] => simp [udec, h1, uacc, Utf8.runeError]
        | [b] =>
          by_cases hb : ucont b = true
          · simp [udec, h1, h2, uacc, ucont_iff, hb, Utf8.runeError]
          · simp [udec, h1, uacc, ucont_iff, hb, Utf8.runeError]
        | b :: c :: r =>
          rw [udec3 a b c r h1 h2 h3]
          by_cases hb : ucont b = true
          · by_cases hd : ucont c = true
            · have hbi := hb
              have hdi := hd
              unfold ucont at hbi hdi
              simp only [Bool.and_eq_true, decide_eq_true_eq] at hbi hdi
              have e : 64 * (64 * (a.toNat - 224) + (b.toNat - 128)) + (c.toNat - 128) = (a.toNat % 16) * 4096 + (b.toNat % 64) * 64 + c.toNat % 64 := by omega
              simp only [uacc, hb, hd, e, if_true, Bool.and_self, Nat.add_one_sub_one]
              cases ubad ((a.toNat % 16) * 4096 + (b.toNat % 64) * 64 + c.toNat % 64) 2048 <;> simp
            · simp [uacc, hb, hd]
          · simp [uacc, hb]
      · by_cases h4 : a.toNat / 8 = 30
        · have hc : uclass a.toNat = some (4, a.toNat - 240, 65536) := by unfold uclass; rw [if_neg (by omega), if_neg (by omega), if_pos (by omega)]
          rw [hc]
          match r with
          | [] => simp [udec, h1, uacc, Utf8.runeError]
          | [b] =>
            by_cases hb : ucont b = true
            · simp [udec, h1, h2, uacc, ucont_iff, hb, Utf8.runeError]
            · simp [udec, h1, uacc, ucont_iff, hb, Utf8.runeError]
          | [b, c] => by_cases hb : ucont b = true <;> by_cases hd : ucont c = true <;> simp [udec, h1, h2, h3, uacc, ucont_iff, hb, hd, Utf8.runeError]
          | b :: c :: d :: r =>
            rw [udec4 a b c d r h1 h2 h3 h4]
            by_cases hb : ucont b = true
            · by_cases hd : ucont c = true
              · by_cases hf : ucont d = true
                · have hbi := hb
                  have hdi := hd
                  have hfi := hf
                  unfold ucont at hbi hdi hfi
                  simp only [Bool.and_eq_true, decide_eq_true_eq] at hbi hdi hfi
                  have e : 64 * (64 * (64 * (a.toNat - 240) + (b.toNat - 128)) + (c.toNat - 128)) + (d.toNat - 128) = (a.toNat % 8) * 262144 + (b.toNat % 64) * 4096 + (c.toNat % 64) * 64 + d.toNat % 64 := by omega
                  simp only [uacc, hb, hd, hf, e, if_true, Bool.and_self, Nat.add_one_sub_one]
                  cases ubad ((a.toNat % 8) * 262144 + (b.toNat % 64) * 4096 + (c.toNat % 64) * 64 + d.toNat % 64) 65536 <;> simp
                · simp [uacc, hb, hd, hf]
              · simp [uacc, hb, hd]
            · simp [uacc, hb]
        · have hc : uclass a.toNat = none := by unfold uclass; rw [if_neg (by omega), if_neg (by omega), if_neg (by omega)]
          rw [hc]
          simp [udec, h1, h2, h3, h4, Utf8.runeError]
theorem decode_first (s : ByteArray) (i : Nat) (h : i < s.size) : (Utf8.decode s i).2 = max 1 (ufirst (s.data.toList.drop i)) ∧ (((Utf8.decode s i).1 = 65533 ∧ (Utf8.decode s i).2 = 1) ↔ ufirst (s.data.toList.drop i) = 0) := by
  rw [decode_list]
  cases hl : s.data.toList.drop i with
  | nil =>
    have := congrArg List.length hl
    rw [List.length_drop, Array.length_toList] at this
    have e : s.data.size = s.size := rfl
    simp at this
    omega
  | cons a r => exact udec_first a r

theorem validGo_good : ∀ (n : Nat) (l : List UInt8), l.length ≤ n → Lib.validGoD n l = ugood l
  | 0, l, h => by
    have : l = [] := List.eq_nil_of_length_eq_zero (by omega)
    subst this
    rw [ugood_nil]; rfl
  | n + 1, l, h => by
    rw [Lib.validGoD]
    by_cases hl : l = []
    · rw [if_pos hl, hl, ugood_nil]
    · rw [if_neg hl]
      have hd : (Lib.decodeL l).2 = max 1 (ufirst l) ∧ (((Lib.decodeL l).1 = 65533 ∧ (Lib.decodeL l).2 = 1) ↔ ufirst l = 0) := by
        have := decode_first ⟨l.toArray⟩ 0 (by show 0 < l.toArray.size; rw [List.size_toArray]; exact Nat.pos_of_ne_zero fun e => hl (List.eq_nil_of_length_eq_zero e))
        exact this
      by_cases h0 : ufirst l = 0
      · rw [if_pos (hd.2.2 h0), ugood_zero h0 hl]
      · rw [if_neg (fun e => h0 (hd.2.1 e)), hd.1, ugood_step h0]
        have hk := ufirst_le h0
        rw [Nat.max_eq_right hk.1]
        exact validGo_good n _ (by rw [List.length_drop]; omega)
theorem valid_good (l : List UInt8) : Lib.validD l = ugood l := validGo_good _ l (Nat.le_refl _)
theorem runeFrom_count (s : ByteArray) : ∀ (n i : Nat), s.size ≤ i + n → Lib.runeCountFrom s n i = ucount (s.data.toList.drop i)
  | 0, i, h => by
    rw [List.drop_eq_nil_of_le (by rw [Array.length_toList]; exact h), ucount_nil]; rfl
  | n + 1, i, h => by
    rw [Lib.runeCountFrom]
    by_cases hi : i < s.size
    · have hd := decode_first s i hi
      rw [if_pos hi, hd.1, runeFrom_count s n _ (by omega)]
      have hne : s.data.toList.drop i ≠ [] := fun e => by
        have := congrArg List.length e
        rw [List.length_drop, Array.length_toList] at this
        have e : s.data.size = s.size := rfl
        simp at this
        omega
      rw [ucount_step hne, List.drop_drop]
    · rw [if_neg hi, List.drop_eq_nil_of_le (by rw [Array.length_toList]; exact Nat.le_of_not_lt hi), ucount_nil]
theorem rune_count (s : ByteArray) : Lib.runeCount s = ucount s.data.toList := by
  unfold Lib.runeCount
  rw [runeFrom_count s s.size 0 (by omega), List.drop_zero]
end Go.PM
end

section
/-
  DERIVED: THE SHELF's CONTRACTS AT THIS DUMP, IN PLAIN WORDS (tools/lay-plain.mjs out of 'TryzShelf.lean', which tools/lay-shelf.mjs wrote): THE SAME DECLARATIONS UNDER THE SAME NAMES: 'import', 'namespace', 'open', 'def', 'theorem' AND NOTHING ELSE: no command of the shelf's: FOR A HAND-IN. Each laying: the table of numbers ('.._ren') and one theorem, a field a fact of the dump's own or the kernel's comparison; each contract: ONE APPLICATION.
-/
namespace Go.Proofs
open Go.Shelf
def Tryz.lays169_ren : Go.Shelf.Ren := ⟨fun | 169 => 36 | n => n, fun | 70 => 62 | 9 => 9 | 0 => 0 | 72 => 65 | 37 => 63 | 127 => 92 | 3 => 3 | 5 => 5 | n => n, fun | n => n⟩
theorem Tryz.lays169 : Go.Proofs.Lays.n169 Tryz.prog Tryz.lays169_ren := {
  mixed := by kernel_rfl
  f169 := Tryz.func36.trans (congrArg some (by kernel_rfl))
  t0 := Tryz.underlying0
  a0 := Tryz.isAgg0
  z0 := Tryz.sizeOf0
  v0 := Tryz.zeroValue0
  t3 := Tryz.underlying3
  a3 := Tryz.isAgg3
  z3 := Tryz.sizeOf3
  v3 := Tryz.zeroValue3
  t9 := Tryz.underlying9
  a9 := Tryz.isAgg9
  z9 := Tryz.sizeOf9
  v9 := Tryz.zeroValue9
  t37 := Tryz.underlying63
  a37 := Tryz.isAgg63
  z37 := Tryz.sizeOf63
  v37 := Tryz.zeroValue63
  t70 := Tryz.underlying62
  a70 := Tryz.isAgg62
  z70 := Tryz.sizeOf62
  v70 := Tryz.zeroValue62
  t72 := Tryz.underlying65
  a72 := Tryz.isAgg65
  z72 := Tryz.sizeOf65
  v72 := Tryz.zeroValue65
  t127 := Tryz.underlying92
  a127 := Tryz.isAgg92
  z127 := Tryz.sizeOf92
  v127 := Tryz.zeroValue92 }
theorem Tryz.Builder_Extra_169 : Builder.Extra Tryz.prog Tryz.lays169_ren := {
  sizeBuilder := by kernel_rfl
  liesBuilder := by kernel_rfl
  t5 := Tryz.underlying5
  a5 := Tryz.isAgg5
  z5 := Tryz.sizeOf5
  v5 := Tryz.zeroValue5
  infoByte := by kernel_rfl
  cellsByte := by kernel_rfl
  sizeByte := by kernel_rfl
  neB5 := by decide }
open Go.RowKit in
/-- (*strings.Builder).String: "String returns the accumulated string.": OF A BUILDER THAT HOLDS AT LEAST ONE BYTE. ✋ THE MODEL FREEZES THOSE BYTES IN THE BUFFER (unsafe.String): a later write INTO them ends the model's run without an answer; a later append BEHIND them goes on. The statement's order of evaluation is drawn: one draw. (LAID: no walk: one application.) -/
theorem Tryz.Builder_String (B b : Nat) (l : List UInt8) (w : World) (h : Lib.IsBuilder 65 5 B b (Lib.byteCells l) w) (h0 : l ≠ []) :
    Calls Tryz.prog 36 #[.pointer (some ⟨b, 0, none⟩)] w fun e w' => e = .returned (.string ⟨l.toArray⟩) ∧ Below B w w' := Any.Builder_String Tryz.lays169 Tryz.Builder_Extra_169 B b l w h h0
open Go.RowKit in
/-- (*strings.Builder).String OF A BUILDER THAT HOLDS NO BYTE: the empty string. (Its buffer is nil, or a row of which it has taken nothing yet; where that row has NO capacity the model lays one new block for unsafe.SliceData's 'some address'.) One draw. (LAID: no walk: one application.) -/
theorem Tryz.Builder_String_empty (B b : Nat) (w : World) (h : Lib.IsBuilder 65 5 B b [] w) (hBw : B ≤ w.heap.size) :
    Calls Tryz.prog 36 #[.pointer (some ⟨b, 0, none⟩)] w fun e w' => e = .returned (.string ⟨#[]⟩) ∧ Below B w w' := Any.Builder_String_empty Tryz.lays169 Tryz.Builder_Extra_169 B b w h hBw
open Go.RowKit in
/-- (*strings.Builder).String: "String returns the accumulated string.": WHATEVER THE BUILDER HOLDS. (LAID: no walk: one application.) -/
theorem Tryz.Builder_String_any (B b : Nat) (l : List UInt8) (w : World) (h : Lib.IsBuilder 65 5 B b (Lib.byteCells l) w) (hBw : B ≤ w.heap.size) :
    Calls Tryz.prog 36 #[.pointer (some ⟨b, 0, none⟩)] w fun e w' => e = .returned (.string ⟨l.toArray⟩) ∧ Below B w w' := Any.Builder_String_any Tryz.lays169 Tryz.Builder_Extra_169 B b l w h hBw
def Tryz.lays128_ren : Go.Shelf.Ren := ⟨fun | 128 => 73 | n => n, fun | 51 => 110 | 3 => 3 | 4 => 4 | 46 => 91 | 5 => 5 | 9 => 9 | n => n, fun | n => n⟩
theorem Tryz.lays128 : Go.Proofs.Lays.n128 Tryz.prog Tryz.lays128_ren := {
  mixed := by kernel_rfl
  f128 := Tryz.func73.trans (congrArg some (by kernel_rfl))
  t3 := Tryz.underlying3
  a3 := Tryz.isAgg3
  z3 := Tryz.sizeOf3
  v3 := Tryz.zeroValue3
  t4 := Tryz.underlying4
  a4 := Tryz.isAgg4
  z4 := Tryz.sizeOf4
  v4 := Tryz.zeroValue4
  t5 := Tryz.underlying5
  a5 := Tryz.isAgg5
  z5 := Tryz.sizeOf5
  v5 := Tryz.zeroValue5
  t9 := Tryz.underlying9
  a9 := Tryz.isAgg9
  z9 := Tryz.sizeOf9
  v9 := Tryz.zeroValue9
  t46 := Tryz.underlying91
  a46 := Tryz.isAgg91
  z46 := Tryz.sizeOf91
  v46 := Tryz.zeroValue91
  t51 := Tryz.underlying110
  a51 := Tryz.isAgg110
  z51 := Tryz.sizeOf110
  v51 := Tryz.zeroValue110 }
/-- bits.Len32: "Len32 returns the minimum number of bits required to represent x; the result is 0 for x == 0.": IT RETURNS 'Lib.bitLen x'; the world is as it was. ('h0', 'h1': x is a uint32.) (LAID: no walk: one application.) -/
theorem Tryz.bits_Len32 (x : Int) (w : World) (h0 : 0 ≤ x) (h1 : x ≤ 4294967295) :
    Calls Tryz.prog 73 #[.int .u32 x] w fun e w' => e = .returned (.int .i64 (Lib.bitLen x.toNat)) ∧ w' = w := Any.bits_Len32 Tryz.lays128 x w h0 h1
def Tryz.lays125_ren : Go.Shelf.Ren := ⟨fun | 125 => 53 | 128 => 73 | 129 => 74 | n => n, fun | 46 => 91 | 3 => 3 | 51 => 110 | 53 => 59 | 4 => 4 | 5 => 5 | 9 => 9 | n => n, fun | n => n⟩
theorem Tryz.lays125 : Go.Proofs.Lays.n125 Tryz.prog Tryz.lays125_ren := {
  mixed := by kernel_rfl
  f125 := Tryz.func53.trans (congrArg some (by kernel_rfl))
  f128 := Tryz.func73.trans (congrArg some (by kernel_rfl))
  f129 := Tryz.func74.trans (congrArg some (by kernel_rfl))
  t3 := Tryz.underlying3
  a3 := Tryz.isAgg3
  z3 := Tryz.sizeOf3
  v3 := Tryz.zeroValue3
  t4 := Tryz.underlying4
  a4 := Tryz.isAgg4
  z4 := Tryz.sizeOf4
  v4 := Tryz.zeroValue4
  t5 := Tryz.underlying5
  a5 := Tryz.isAgg5
  z5 := Tryz.sizeOf5
  v5 := Tryz.zeroValue5
  t9 := Tryz.underlying9
  a9 := Tryz.isAgg9
  z9 := Tryz.sizeOf9
  v9 := Tryz.zeroValue9
  t46 := Tryz.underlying91
  a46 := Tryz.isAgg91
  z46 := Tryz.sizeOf91
  v46 := Tryz.zeroValue91
  t51 := Tryz.underlying110
  a51 := Tryz.isAgg110
  z51 := Tryz.sizeOf110
  v51 := Tryz.zeroValue110
  t53 := Tryz.underlying59
  a53 := Tryz.isAgg59
  z53 := Tryz.sizeOf59
  v53 := Tryz.zeroValue59 }
/-- bits.Len: "Len returns the minimum number of bits required to represent x; the result is 0 for x == 0.": IT RETURNS 'Lib.bitLen x'; the world is as it was. (A uint has 64 bits in the model.) ITS CALLEE bits.Len64 IS MET BY ITS OWN CONTRACT OFF THE SHELF (lay that first). (LAID: no walk: one application.) -/
theorem Tryz.bits_Len (x : Int) (w : World) (h0 : 0 ≤ x) (h1 : x ≤ 18446744073709551615) :
    Calls Tryz.prog 53 #[.int .u64 x] w fun e w' => e = .returned (.int .i64 (Lib.bitLen x.toNat)) ∧ w' = w := Any.bits_Len Tryz.lays125 x w h0 h1
def Tryz.lays213_ren : Go.Shelf.Ren := ⟨fun | 213 => 56 | 265 => 76 | n => n, fun | 9 => 9 | 3 => 3 | n => n, fun | n => n⟩
theorem Tryz.lays213 : Go.Proofs.Lays.n213 Tryz.prog Tryz.lays213_ren := {
  mixed := by kernel_rfl
  f213 := Tryz.func56.trans (congrArg some (by kernel_rfl))
  f265 := Tryz.func76.trans (congrArg some (by kernel_rfl))
  t3 := Tryz.underlying3
  a3 := Tryz.isAgg3
  z3 := Tryz.sizeOf3
  v3 := Tryz.zeroValue3
  t9 := Tryz.underlying9
  a9 := Tryz.isAgg9
  z9 := Tryz.sizeOf9
  v9 := Tryz.zeroValue9 }
open Go.RowKit in
/-- internal/bytealg.CompareString (what strings.Compare calls): IT RETURNS 'Lib.compareBytes a b'; the world is as it was. (LAID: no walk: one application.) -/
theorem Tryz.bytealg_CompareString (a b : ByteArray) (w : World) :
    Calls Tryz.prog 56 #[.string a, .string b] w fun e w' => e = .returned (.int .i64 (Lib.compareBytes a.data.toList b.data.toList)) ∧ w' = w := Any.bytealg_CompareString Tryz.lays213 a b w
def Tryz.lays106_ren : Go.Shelf.Ren := ⟨fun | 106 => 37 | 213 => 56 | 265 => 76 | n => n, fun | 9 => 9 | 3 => 3 | n => n, fun | n => n⟩
theorem Tryz.lays106 : Go.Proofs.Lays.n106 Tryz.prog Tryz.lays106_ren := {
  mixed := by kernel_rfl
  f106 := Tryz.func37.trans (congrArg some (by kernel_rfl))
  f213 := Tryz.func56.trans (congrArg some (by kernel_rfl))
  f265 := Tryz.func76.trans (congrArg some (by kernel_rfl))
  t3 := Tryz.underlying3
  a3 := Tryz.isAgg3
  z3 := Tryz.sizeOf3
  v3 := Tryz.zeroValue3
  t9 := Tryz.underlying9
  a9 := Tryz.isAgg9
  z9 := Tryz.sizeOf9
  v9 := Tryz.zeroValue9 }
open Go.RowKit in
/-- strings.Compare: "Compare returns an integer comparing two strings lexicographically. The result will be 0 if a == b, -1 if a < b, and +1 if a > b.": IT RETURNS 'Lib.compareBytes a b'; the world is as it was. (LAID: no walk: one application.) -/
theorem Tryz.strings_Compare (a b : ByteArray) (w : World) :
    Calls Tryz.prog 37 #[.string a, .string b] w fun e w' => e = .returned (.int .i64 (Lib.compareBytes a.data.toList b.data.toList)) ∧ w' = w := Any.strings_Compare Tryz.lays106 a b w
open Go.RowKit in
/-- (*strings.Builder).String: "String returns the accumulated string.": OF A BUILDER THAT HOLDS AT LEAST ONE BYTE. ✋ THE MODEL FREEZES THOSE BYTES IN THE BUFFER (unsafe.String): a later write INTO them ends the model's run without an answer; a later append BEHIND them goes on. The statement's order of evaluation is drawn: one draw. THE FORM '_f': IT SAYS BESIDES THAT THE BUILDER IS A BUILDER STILL ('Lib.IsBuilderF', the same bytes): SO IT CAN BE WRITTEN ON: 'b.WriteString(b.String()[:k])'. (LAID: no walk: one application.) -/
theorem Tryz.Builder_String_f (B b : Nat) (l : List UInt8) (w : World) (h : Lib.IsBuilderF 65 5 B b (Lib.byteCells l) w) (h0 : l ≠ []) :
    Calls Tryz.prog 36 #[.pointer (some ⟨b, 0, none⟩)] w fun e w' => e = .returned (.string ⟨l.toArray⟩) ∧ (Lib.IsBuilderF 65 5 B b (Lib.byteCells l) w' ∧ Below B w w') := Any.Builder_String_f Tryz.lays169 Tryz.Builder_Extra_169 B b l w h h0
open Go.RowKit in
/-- (*strings.Builder).String OF A BUILDER THAT HOLDS NO BYTE: the empty string; THE FORM '_f': a builder still. (LAID: no walk: one application.) -/
theorem Tryz.Builder_String_empty_f (B b : Nat) (w : World) (h : Lib.IsBuilderF 65 5 B b [] w) (hBw : B ≤ w.heap.size) :
    Calls Tryz.prog 36 #[.pointer (some ⟨b, 0, none⟩)] w fun e w' => e = .returned (.string ⟨#[]⟩) ∧ (Lib.IsBuilderF 65 5 B b [] w' ∧ Below B w w') := Any.Builder_String_empty_f Tryz.lays169 Tryz.Builder_Extra_169 B b w h hBw
open Go.RowKit in
/-- (*strings.Builder).String: "String returns the accumulated string.": WHATEVER THE BUILDER HOLDS; THE FORM '_f': OF A BUILDER THAT MAY HAVE BEEN READ BEFORE; AND IT IS A BUILDER STILL, holding the same bytes: it can be written on. (LAID: no walk: one application.) -/
theorem Tryz.Builder_String_any_f (B b : Nat) (l : List UInt8) (w : World) (h : Lib.IsBuilderF 65 5 B b (Lib.byteCells l) w) (hBw : B ≤ w.heap.size) :
    Calls Tryz.prog 36 #[.pointer (some ⟨b, 0, none⟩)] w fun e w' => e = .returned (.string ⟨l.toArray⟩) ∧ (Lib.IsBuilderF 65 5 B b (Lib.byteCells l) w' ∧ Below B w w') := Any.Builder_String_any_f Tryz.lays169 Tryz.Builder_Extra_169 B b l w h hBw
open Go.RowKit in
/-- (*strings.Builder).String: "String returns the accumulated string.": OF A BUILDER THAT HOLDS AT LEAST ONE BYTE. ✋ THE MODEL FREEZES THOSE BYTES IN THE BUFFER (unsafe.String): a later write INTO them ends the model's run without an answer; a later append BEHIND them goes on. The statement's order of evaluation is drawn: one draw. THE FORM '_k': OVER 'Lib.IsBuilderF' (a builder that 'String()' may have read), AND WITH THE FRAME THAT REACHES ABOVE THE BUILDER: 'Lib.OthersKept': every block that is not b and is no row of uint8's stands as it stood: the iterator of a range among them. (LAID: no walk: one application.) -/
theorem Tryz.Builder_String_k (B b : Nat) (l : List UInt8) (w : World) (h : Lib.IsBuilderF 65 5 B b (Lib.byteCells l) w) (h0 : l ≠ []) :
    Calls Tryz.prog 36 #[.pointer (some ⟨b, 0, none⟩)] w fun e w' => e = .returned (.string ⟨l.toArray⟩) ∧ (Lib.IsBuilderF 65 5 B b (Lib.byteCells l) w' ∧ Below B w w' ∧ Lib.OthersKept 5 (some b) w w') := Any.Builder_String_k Tryz.lays169 Tryz.Builder_Extra_169 B b l w h h0
open Go.RowKit in
/-- (*strings.Builder).String OF A BUILDER THAT HOLDS NO BYTE: the empty string; THE FORM '_k': OVER 'Lib.IsBuilderF' (a builder that 'String()' may have read), AND WITH THE FRAME THAT REACHES ABOVE THE BUILDER: 'Lib.OthersKept': every block that is not b and is no row of uint8's stands as it stood: the iterator of a range among them. (LAID: no walk: one application.) -/
theorem Tryz.Builder_String_empty_k (B b : Nat) (w : World) (h : Lib.IsBuilderF 65 5 B b [] w) (hBw : B ≤ w.heap.size) :
    Calls Tryz.prog 36 #[.pointer (some ⟨b, 0, none⟩)] w fun e w' => e = .returned (.string ⟨#[]⟩) ∧ (Lib.IsBuilderF 65 5 B b [] w' ∧ Below B w w' ∧ Lib.OthersKept 5 (some b) w w') := Any.Builder_String_empty_k Tryz.lays169 Tryz.Builder_Extra_169 B b w h hBw
open Go.RowKit in
/-- (*strings.Builder).String: "String returns the accumulated string.": WHATEVER THE BUILDER HOLDS; THE FORM '_k': OVER 'Lib.IsBuilderF' (a builder that 'String()' may have read), AND WITH THE FRAME THAT REACHES ABOVE THE BUILDER: 'Lib.OthersKept': every block that is not b and is no row of uint8's stands as it stood: the iterator of a range among them. (LAID: no walk: one application.) -/
theorem Tryz.Builder_String_any_k (B b : Nat) (l : List UInt8) (w : World) (h : Lib.IsBuilderF 65 5 B b (Lib.byteCells l) w) (hBw : B ≤ w.heap.size) :
    Calls Tryz.prog 36 #[.pointer (some ⟨b, 0, none⟩)] w fun e w' => e = .returned (.string ⟨l.toArray⟩) ∧ (Lib.IsBuilderF 65 5 B b (Lib.byteCells l) w' ∧ Below B w w' ∧ Lib.OthersKept 5 (some b) w w') := Any.Builder_String_any_k Tryz.lays169 Tryz.Builder_Extra_169 B b l w h hBw
def Tryz.lays129_ren : Go.Shelf.Ren := ⟨fun | 129 => 74 | n => n, fun | 53 => 59 | 3 => 3 | 4 => 4 | 46 => 91 | 5 => 5 | 9 => 9 | n => n, fun | n => n⟩
theorem Tryz.lays129 : Go.Proofs.Lays.n129 Tryz.prog Tryz.lays129_ren := {
  mixed := by kernel_rfl
  f129 := Tryz.func74.trans (congrArg some (by kernel_rfl))
  t3 := Tryz.underlying3
  a3 := Tryz.isAgg3
  z3 := Tryz.sizeOf3
  v3 := Tryz.zeroValue3
  t4 := Tryz.underlying4
  a4 := Tryz.isAgg4
  z4 := Tryz.sizeOf4
  v4 := Tryz.zeroValue4
  t5 := Tryz.underlying5
  a5 := Tryz.isAgg5
  z5 := Tryz.sizeOf5
  v5 := Tryz.zeroValue5
  t9 := Tryz.underlying9
  a9 := Tryz.isAgg9
  z9 := Tryz.sizeOf9
  v9 := Tryz.zeroValue9
  t46 := Tryz.underlying91
  a46 := Tryz.isAgg91
  z46 := Tryz.sizeOf91
  v46 := Tryz.zeroValue91
  t53 := Tryz.underlying59
  a53 := Tryz.isAgg59
  z53 := Tryz.sizeOf59
  v53 := Tryz.zeroValue59 }
/-- bits.Len64: "Len64 returns the minimum number of bits required to represent x; the result is 0 for x == 0.": IT RETURNS 'Lib.bitLen x'; the world is as it was. ('h0', 'h1': x is a uint64.) (LAID: no walk: one application.) -/
theorem Tryz.bits_Len64 (x : Int) (w : World) (h0 : 0 ≤ x) (h1 : x ≤ 18446744073709551615) :
    Calls Tryz.prog 74 #[.int .u64 x] w fun e w' => e = .returned (.int .i64 (Lib.bitLen x.toNat)) ∧ w' = w := Any.bits_Len64 Tryz.lays129 x w h0 h1
def Tryz.laysSlE33_f89_ren : Go.Shelf.Ren := ⟨fun | 33 => 89 | n => n, fun | 22 => 127 | 23 => 59 | 4 => 4 | 3 => 3 | 0 => 0 | n => n, fun | n => n⟩
theorem Tryz.laysSlE33_f89 : Go.Proofs.SlLaysE.n33 Tryz.prog Tryz.laysSlE33_f89_ren := {
  mixed := by kernel_rfl
  f33 := ⟨Tryz.f89.name, by decide, Tryz.func89.trans (congrArg some (by kernel_rfl))⟩
  t0 := Tryz.underlying0
  a0 := Tryz.isAgg0
  z0 := Tryz.sizeOf0
  v0 := Tryz.zeroValue0
  t3 := Tryz.underlying3
  a3 := Tryz.isAgg3
  z3 := Tryz.sizeOf3
  v3 := Tryz.zeroValue3
  t4 := Tryz.underlying4
  a4 := Tryz.isAgg4
  z4 := Tryz.sizeOf4
  v4 := Tryz.zeroValue4
  t22 := Tryz.underlying127
  a22 := Tryz.isAgg127
  z22 := Tryz.sizeOf127
  v22 := Tryz.zeroValue127
  a23 := Tryz.isAgg59
  z23 := Tryz.sizeOf59 }
open Go.RowKit Go.Lib in
/-- slices.Equal: "Equal reports whether two slices are equal: the same length and all elements equal. .. Empty and nil slices are considered equal. Floating point NaNs are not considered equal.": IT RETURNS 'Lib.allEq eq (the one's elements) (the other's)'; the world is as it was but for the count of draws. (LAID AT THE INSTANCE 'slices.Equal[[]uint64,uint64]': no walk: one application.) -/
theorem Tryz.slices_Equal {α : Type} [Inhabited α] (enc : α → Value) (eq : α → α → Bool) (hne : NeqAt Tryz.prog 59 enc eq) (b1 o1 n c b2 o2 m d : Nat) (xs ys : List α) (w : World) (hx : n ≤ xs.length) (hy : m ≤ ys.length) (hbig : n ≤ 9223372036854775807) (hbig2 : m ≤ 9223372036854775807) (hc1 : ∀ j, j < xs.length → w.cell? ⟨b1, o1 + j, none⟩ = some (enc xs[j]!)) (hc2 : ∀ j, j < ys.length → w.cell? ⟨b2, o2 + j, none⟩ = some (enc ys[j]!)) :
    Calls Tryz.prog 89 #[.slice (some ⟨b1, o1, none⟩) n c, .slice (some ⟨b2, o2, none⟩) m d] w fun e w' => e = .returned (.bool (Lib.allEq eq (xs.take n) (ys.take m))) ∧ ∃ q, w' = w.drewN q := AnyE.slices_Equal Tryz.laysSlE33_f89 enc eq hne b1 o1 n c b2 o2 m d xs ys w hx hy hbig hbig2 hc1 hc2
def Tryz.lays196_ren : Go.Shelf.Ren := ⟨fun | 196 => 79 | 259 => 91 | n => n, fun | 9 => 9 | 4 => 4 | 3 => 3 | 5 => 5 | 12 => 12 | 119 => 130 | 0 => 0 | 46 => 91 | 139 => 133 | 138 => 132 | 53 => 59 | n => n, fun | 3 => 1 | 4 => 2 | n => n⟩
theorem Tryz.lays196 : Go.Proofs.Lays.n196 Tryz.prog Tryz.lays196_ren := {
  mixed := by kernel_rfl
  f196 := Tryz.func79.trans (congrArg some (by kernel_rfl))
  f259 := Tryz.func91.trans (congrArg some (by kernel_rfl))
  t0 := Tryz.underlying0
  a0 := Tryz.isAgg0
  z0 := Tryz.sizeOf0
  v0 := Tryz.zeroValue0
  t3 := Tryz.underlying3
  a3 := Tryz.isAgg3
  z3 := Tryz.sizeOf3
  v3 := Tryz.zeroValue3
  t4 := Tryz.underlying4
  a4 := Tryz.isAgg4
  z4 := Tryz.sizeOf4
  v4 := Tryz.zeroValue4
  t5 := Tryz.underlying5
  a5 := Tryz.isAgg5
  z5 := Tryz.sizeOf5
  v5 := Tryz.zeroValue5
  t9 := Tryz.underlying9
  a9 := Tryz.isAgg9
  z9 := Tryz.sizeOf9
  v9 := Tryz.zeroValue9
  t12 := Tryz.underlying12
  a12 := Tryz.isAgg12
  z12 := Tryz.sizeOf12
  v12 := Tryz.zeroValue12
  t46 := Tryz.underlying91
  a46 := Tryz.isAgg91
  z46 := Tryz.sizeOf91
  v46 := Tryz.zeroValue91
  t53 := Tryz.underlying59
  a53 := Tryz.isAgg59
  z53 := Tryz.sizeOf59
  v53 := Tryz.zeroValue59
  t119 := Tryz.underlying130
  a119 := Tryz.isAgg130
  z119 := Tryz.sizeOf130
  t138 := Tryz.underlying132
  a138 := Tryz.isAgg132
  z138 := Tryz.sizeOf132
  v138 := Tryz.zeroValue132
  t139 := Tryz.underlying133
  a139 := Tryz.isAgg133
  z139 := Tryz.sizeOf133
  v139 := Tryz.zeroValue133
  g3 := by kernel_rfl
  g4 := by kernel_rfl }
end Go.Proofs
end

section
/-
  Contracts of layer 7 (utf). Conditions: texts within int; Go's two tables of UTF-8 lie in memory as its text lays them.
-/
namespace Go.Proofs.YtgbgbdocgpdkgaaGreatDoor
open Go.RowKit Go.PM
set_option maxRecDepth 100000
set_option maxHeartbeats 1000000

/-- Go's tables of UTF-8. -/
def Tabs (w : World) : Prop := Lib.Utf8Tabs (Tryz.lays196_ren.g 3) (Tryz.lays196_ren.g 4) w
theorem Tabs.below {w w' : World} (h : Tabs w) (hb : Below w.heap.size w w') : Tabs w' := by
  refine ⟨fun c hc => ?_, fun i hi => ?_⟩
  · have := h.1 c hc
    exact (hb.cell (p := ⟨_, c, none⟩) (World.block_lt_of_cell? w _ this)).trans this
  · have h1 := (h.2 i hi).1
    have h2 := (h.2 i hi).2
    exact ⟨(hb.cell (p := ⟨_, 2 * i, none⟩) (World.block_lt_of_cell? w _ h1)).trans h1, (hb.cell (p := ⟨_, 2 * i + 1, none⟩) (World.block_lt_of_cell? w _ h2)).trans h2⟩
theorem good_any (s : ByteArray) (w : World) (hs : s.size ≤ 9223372036854775807) (hT : Tabs w) :
    Calls Tryz.prog 64 #[.string s] w fun e w' => e = .returned (.bool (ugood s.data.toList)) ∧ Below w.heap.size w w' := by
  have HV : Hid (Calls Tryz.prog 79 #[.string s] w fun e w' => e = .returned (.bool (ugood s.data.toList)) ∧ Below w.heap.size w w') := by
    show Calls _ _ _ _ _
    have := Any.utf8_ValidString Tryz.lays196 s w hs hT
    rw [valid_good] at this
    exact this
  generalize ugood s.data.toList = g at HV ⊢
  clear hT
  go_enter Tryz.func64, Tryz.ntmps64
  go_wp2_with fail
  refine HV.out.mono ?_
  rintro e w1 ⟨rfl, hb⟩
  go_wp2
  go_ret
  exact ⟨rfl, hb⟩
/-- Where the program cuts. -/
def pcut (l : List UInt8) (most : Int) : Nat := if most < 0 then 0 else if (l.length : Int) ≤ most then l.length else ptrim l most.toNat
theorem rune_start (b : UInt8) : Lib.runeStart (b.toNat : Int) = !ucont b := by
  unfold Lib.runeStart ucont
  rw [Bool.eq_iff_iff]
  simp
  omega

/-- What a text may be. -/
def uchk (l : List UInt8) (least most : Int) : Int := if (l.length : Int) < least ∨ most < l.length then 13 else if ugood l then 0 else 11
theorem ucheck_any (s : ByteArray) (least most : Int) (w : World) (hs : s.size ≤ 9223372036854775807) (hT : Tabs w) :
    Calls Tryz.prog 51 #[.string s, .int .i64 least, .int .i64 most] w fun e w' => e = .returned (.int .i64 (uchk s.data.toList least most)) ∧ Below w.heap.size w w' := by
  unfold uchk
  rw [len_list]
  have HG : Hid (Calls Tryz.prog 64 #[.string s] w fun e w' => e = .returned (.bool (ugood s.data.toList)) ∧ Below w.heap.size w w') := good_any s w hs hT
  clear hT
  by_cases h1 : (s.size : Int) < least
  · rw [if_pos (.inl h1)]
    go_enter Tryz.func51, Tryz.ntmps51
    go_wp2
    go_ret
    exact ⟨rfl, b0⟩
  · by_cases h2 : most < (s.size : Int)
    · rw [if_pos (.inr h2)]
      go_enter Tryz.func51, Tryz.ntmps51
      go_wp2
      go_ret
      exact ⟨rfl, b0⟩
    · rw [if_neg (by omega)]
      cases hg : ugood s.data.toList with
      | true =>
        rw [hg] at HG
        clear hg
        go_enter Tryz.func51, Tryz.ntmps51
        go_wp2_with fail
        refine HG.out.mono ?_
        rintro e w1 ⟨rfl, hb⟩
        go_wp2
        go_ret
        exact ⟨rfl, hb⟩
      | false =>
        rw [hg] at HG
        clear hg
        go_enter Tryz.func51, Tryz.ntmps51
        go_wp2_with fail
        refine HG.out.mono ?_
        rintro e w1 ⟨rfl, hb⟩
        go_wp2
        go_ret
        exact ⟨rfl, hb⟩

/-! ### The document's answer -/
/-- So great is the number behind k bytes, at most. -/
def ub : Nat → Nat
  | 1 => 31
  | 2 => 2047
  | 3 => 131071
  | _ => 8388607
theorem ub_step {k m d : Nat} (h1 : 1 ≤ k) (h2 : k < 4) (hm : m ≤ ub k) (hd : d < 64) : 64 * m + d ≤ ub (k + 1) := by
  match k, h1, h2, hm with
  | 1, _, _, hm => simp [ub] at hm ⊢; omega
  | 2, _, _, hm => simp [ub] at hm ⊢; omega
  | 3, _, _, hm => simp [ub] at hm ⊢; omega
theorem ub_le (k : Nat) : ub k ≤ 8388607 := by
  unfold ub
  split <;> omega
/-- On the way through a code point's bytes. -/
def Ua (l : List UInt8) (size n0 k m : Nat) : Prop := 1 ≤ k ∧ k ≤ size ∧ m ≤ ub k ∧ uacc m (size - k) (l.drop k) = uacc n0 (size - 1) (l.drop 1)
theorem Ua.no {l : List UInt8} {size n0 k m : Nat} (h : Ua l size n0 k m) (hk : k < size) (hl : k < l.length) (hc : ucont l[k] = false) : uacc n0 (size - 1) (l.drop 1) = none := by
  rw [← h.2.2.2, show size - k = (size - k - 1) + 1 by omega, List.drop_eq_getElem_cons hl, uacc, if_neg (by rw [hc]; simp)]
theorem Ua.next {l : List UInt8} {size n0 k m : Nat} (h : Ua l size n0 k m) (hs : size ≤ 4) (hk : k < size) (hl : k < l.length) (hc : ucont l[k] = true) : Ua l size n0 (k + 1) (64 * m + (l[k].toNat - 128)) := by
  refine ⟨by omega, by omega, ub_step h.1 (by omega) h.2.2.1 ?_, ?_⟩
  · unfold ucont at hc
    simp at hc
    omega
  · rw [← h.2.2.2, show size - k = (size - k - 1) + 1 by omega, List.drop_eq_getElem_cons hl, uacc, if_pos hc, show size - (k + 1) = size - k - 1 by omega]
theorem Ua.end_ {l : List UInt8} {size n0 m : Nat} (h : Ua l size n0 size m) : uacc n0 (size - 1) (l.drop 1) = some m := by
  rw [← h.2.2.2, Nat.sub_self]
  cases l.drop size <;> rfl
end Go.Proofs.YtgbgbdocgpdkgaaGreatDoor
end

section
/-
  Contracts of layer 11. Conditions: texts within int; Go's tables of UTF-8 lie in memory.
-/
namespace Go.Proofs.YtgbgbdocgpdkgaaGreatDoor
open Go.RowKit Go.PM
set_option maxRecDepth 100000
set_option maxHeartbeats 1000000

/-- Whether an entry may be: the code. -/
def echk (k v : List UInt8) : Int := if uchk k 1 64 ≠ 0 then uchk k 1 64 else uchk v 0 256
theorem echeck_any (k v : ByteArray) (w : World) (hk : k.size ≤ 9223372036854775807) (hv : v.size ≤ 9223372036854775807) (hT : Tabs w) :
    Calls Tryz.prog 30 #[.agg #[.string k, .string v]] w fun e w' => e = .returned (.int .i64 (echk k.data.toList v.data.toList)) ∧ Below w.heap.size w w' := by
  have hx := BlkAt.made w 32 #[.string k, .string v]
  have HX := Lib.hid hx
  have hb0 := ba (a := w) b0 (.cells #[.string k, .string v] 32)
  have HB := Lib.hid hb0
  have H1 := Lib.hid (ucheck_any k 1 64 (w.alloc (.cells #[.string k, .string v] 32)) hk (hT.below hb0))
  have H2 : Hid (∀ x : World, Below w.heap.size w x → Calls Tryz.prog 51 #[.string v, .int .i64 0, .int .i64 256] x fun e w' => e = .returned (.int .i64 (uchk v.data.toList 0 256)) ∧ Below x.heap.size x w') := fun x hx => ucheck_any v 0 256 x hv (hT.below hx)
  unfold echk
  clear hx hb0 hT
  generalize uchk k.data.toList 1 64 = a at *
  generalize uchk v.data.toList 0 256 = b at *
  by_cases ha : a = 0
  · subst ha
    rw [if_neg (by simp)]
    go_enter Tryz.func30, Tryz.ntmps30
    go_wp2_with fail
    refine H1.out.mono ?_
    rintro e w1 ⟨rfl, hb1⟩
    have hx1 := HX.out.below hb1 HX.out.lt
    have c1 := hx1.cell 1
    simp at c1
    have HB1 := Lib.hid (bb HB.out hb1)
    clear hb1 hx1
    go_wp2_with fail
    refine (H2.out _ HB1.out).mono ?_
    rintro e w2 ⟨rfl, hb2⟩
    have HB2 := Lib.hid (bb HB1.out hb2)
    clear hb2
    go_wp2
    go_ret
    exact ⟨rfl, HB2.out⟩
  · rw [if_pos ha]
    have hai : (a != 0) = true := by rw [bne_iff_ne]; exact ha
    clear ha
    go_enter Tryz.func30, Tryz.ntmps30
    go_wp2_with fail
    refine H1.out.mono ?_
    rintro e w1 ⟨rfl, hb1⟩
    have HB1 := Lib.hid (bb HB.out hb1)
    clear hb1
    go_wp2
    go_ret
    exact ⟨rfl, HB1.out⟩
theorem ecmp_any (ak av bk bv : ByteArray) (w : World) :
    Calls Tryz.prog 32 #[.agg #[.string ak, .string av], .agg #[.string bk, .string bv]] w fun e w' => e = .returned (.int .i64 (ecmp ak.data.toList av.data.toList bk.data.toList bv.data.toList)) ∧ w' = (w.alloc (.cells #[.string ak, .string av] 32)).alloc (.cells #[.string bk, .string bv] 32) := by
  have H1 : Hid (∀ x : World, Calls Tryz.prog 37 #[.string ak, .string bk] x fun e w' => e = .returned (.int .i64 (Lib.compareBytes ak.data.toList bk.data.toList)) ∧ w' = x) := fun x => Tryz.strings_Compare ak bk x
  have H2 : Hid (∀ x : World, Calls Tryz.prog 37 #[.string av, .string bv] x fun e w' => e = .returned (.int .i64 (Lib.compareBytes av.data.toList bv.data.toList)) ∧ w' = x) := fun x => Tryz.strings_Compare av bv x
  unfold ecmp
  generalize Lib.compareBytes ak.data.toList bk.data.toList = a at *
  generalize Lib.compareBytes av.data.toList bv.data.toList = b at *
  by_cases ha : a = 0
  · subst ha
    rw [if_neg (by simp)]
    go_enter Tryz.func32, Tryz.ntmps32
    go_wp2_with fail
    refine (H1.out _).mono ?_
    rintro e w1 ⟨rfl, rfl⟩
    go_wp2_with fail
    refine (H2.out _).mono ?_
    rintro e w2 ⟨rfl, rfl⟩
    go_wp2
    go_ret
    exact ⟨rfl, rfl⟩
  · rw [if_pos ha]
    have hai : (a != 0) = true := by rw [bne_iff_ne]; exact ha
    clear ha
    go_enter Tryz.func32, Tryz.ntmps32
    go_wp2_with fail
    refine (H1.out _).mono ?_
    rintro e w1 ⟨rfl, rfl⟩
    go_wp2
    go_ret
    exact ⟨rfl, rfl⟩
/-- The end of reading a text with its length ahead. -/
def ETextEnd (w : World) (b : Nat) (s : ByteArray) (k : Nat) (e : Ending) (w' : World) : Prop :=
  ∃ k' : Nat, e = .returned (.tuple #[.string (txt (etx (s.data.toList.drop k)).1), .int .i64 ((etx (s.data.toList.drop k)).2.2 : Int)]) ∧ Cur w' b s k' ∧ ((etx (s.data.toList.drop k)).2.2 = 0 → k' = k + (etx (s.data.toList.drop k)).2.1) ∧ w.grownBy w' (some b)
theorem etext_any (b : Nat) (s : ByteArray) (k : Nat) (w : World) (h : Cur w b s k) :
    Calls Tryz.prog 61 #[.pointer (some ⟨b, 0, none⟩)] w (ETextEnd w b s k) := by
  have HN := Lib.hid (next_any b s k w h)
  have hks := h.2.1
  have hss := h.2.2
  clear h
  have hl : (s.data.toList.drop k).length = s.size - k := by rw [List.length_drop, len_list]
  unfold ETextEnd etx
  rw [hl]
  by_cases hv : (vget (s.data.toList.drop k)).2.2 = 0
  · obtain ⟨v1, v2, v3, v4, v5⟩ := vget_ok hv
    rw [hl] at v2
    rw [if_neg (by rw [hv]; simp)]
    have HN2 : Hid (Calls Tryz.prog 46 #[.pointer (some ⟨b, 0, none⟩)] w fun e w' => e = .returned (.tuple #[.int .u64 ((vget (s.data.toList.drop k)).1 : Int), .int .i64 0]) ∧ Cur w' b s (k + (vget (s.data.toList.drop k)).2.1) ∧ w.grownBy w' (some b)) := by
      have := HN.out
      rw [hv] at this
      exact this
    clear HN hv v5
    have hdd : ∀ m : Nat, ((s.data.toList.drop k).drop m) = s.data.toList.drop (k + m) := fun m => by rw [List.drop_drop]
    rw [hdd]
    generalize (vget (s.data.toList.drop k)).1 = n at *
    generalize (vget (s.data.toList.drop k)).2.1 = m at *
    clear hl hdd
    have hkm : k + m ≤ s.size := by omega
    by_cases hn : s.size - k - m < n
    · rw [if_pos hn]
      go_enter Tryz.func61, Tryz.ntmps61
      go_wp2_with fail
      refine HN2.out.mono ?_
      rintro e w1 ⟨rfl, hc1, hg1⟩
      have HC1 := Lib.hid hc1
      have HG1 := Lib.hid hg1
      clear hc1 hg1
      go_wp2_with fail
      refine (cur_take_no b s (k + m) (n : Int) w1 HC1.out (by omega) (by omega)).mono ?_
      rintro e w2 ⟨rfl, hb2⟩
      have HC2 : Hid (Cur w2 b s (k + m)) := ⟨HC1.out.1.below hb2 HC1.out.1.lt, HC1.out.2⟩
      have HG2 := Lib.hid (grown_trans HG1.out (grown_of_below hb2 (some b)) fun x e _ => e)
      clear hb2
      go_wp2_with fail
      go_ret2
      exact ⟨k + m, rfl, HC2.out, fun h => by simp at h, HG2.out⟩
    · rw [if_neg hn]
      have hex : s.extract (k + m) (k + m + (n : Int).toNat) = txt ((s.data.toList.drop (k + m)).take n) := by
        refine txt_eq ?_
        rw [ext_list]
        congr 1
        omega
      have HEX := Lib.hid hex
      clear hex
      go_enter Tryz.func61, Tryz.ntmps61
      go_wp2_with fail
      refine HN2.out.mono ?_
      rintro e w1 ⟨rfl, hc1, hg1⟩
      have HC1 := Lib.hid hc1
      have HG1 := Lib.hid hg1
      clear hc1 hg1
      go_wp2_with fail
      refine (cur_take_yes b s (k + m) (n : Int) w1 HC1.out (by omega) (by omega)).mono ?_
      rintro e w2 ⟨rfl, hc2, hg2⟩
      rw [HEX.out, Int.toNat_natCast] at *
      have HC2 := Lib.hid hc2
      have HG2 := Lib.hid (grown_trans HG1.out hg2 fun x e _ => e)
      clear hc2 hg2 HEX
      go_wp2_with fail
      go_ret2
      exact ⟨k + m + n, rfl, HC2.out, fun _ => by omega, HG2.out⟩
  · have hve := vget_err hv
    rw [if_pos hv]
    have hvi : (((vget (s.data.toList.drop k)).2.2 : Int) != 0) = true := by rw [bne_iff_ne]; omega
    generalize (vget (s.data.toList.drop k)).2.2 = g at *
    clear hl hve
    go_enter Tryz.func61, Tryz.ntmps61
    go_wp2_with fail
    refine HN.out.mono ?_
    rintro e w1 ⟨rfl, hc1, hg1⟩
    have HC1 := Lib.hid hc1
    have HG1 := Lib.hid hg1
    clear hc1 hg1
    go_wp2_with fail
    go_ret2
    exact ⟨_, rfl, HC1.out, fun h => absurd h hv, HG1.out⟩
theorem etext_nil (w : World) : Calls Tryz.prog 61 #[.pointer none] w fun e w' => e = .returned (.tuple #[.string ByteArray.empty, .int .i64 25]) ∧ Below w.heap.size w w' := by
  go_enter Tryz.func61, Tryz.ntmps61
  go_wp2_with fail
  refine (next_nil _).mono ?_
  rintro e w1 ⟨rfl, hb1⟩
  go_wp2_with fail
  go_ret2
  exact ⟨rfl, hb1⟩
theorem etx_size (s : ByteArray) (k : Nat) : (etx (s.data.toList.drop k)).1.length ≤ s.size := by
  unfold etx
  split
  · simp
  · split
    · simp
    · rw [List.length_take, List.length_drop, List.length_drop, len_list]; omega
/-- The end of reading an entry. -/
def ENextEnd (w : World) (b : Nat) (s : ByteArray) (k : Nat) (e : Ending) (w' : World) : Prop :=
  ∃ k' : Nat, e = .returned (.tuple #[.agg #[.string (txt (enx echk (s.data.toList.drop k)).1.1), .string (txt (enx echk (s.data.toList.drop k)).1.2)], .int .i64 (enx echk (s.data.toList.drop k)).2.2]) ∧ Cur w' b s k' ∧ ((enx echk (s.data.toList.drop k)).2.2 = 0 → k' = k + (enx echk (s.data.toList.drop k)).2.1) ∧ w.grownBy w' (some b)
theorem res_two (w : World) (r : Nat) (v0 v1 : Value) : Tch (fun j => j = r) w ((w.setCell ⟨r, 0, none⟩ v0).setCell ⟨r, 1, none⟩ v1) :=
  ((Tch.refl (fun j => j = r) w).put (p := ⟨r, 0, none⟩) (fun _ => rfl) v0).put (p := ⟨r, 1, none⟩) (fun _ => rfl) v1
theorem tch_grown {w w1 w2 : World} {b r : Nat} (hg : w.grownBy w1 (some b)) (hr : w.heap.size ≤ r) (ht : Tch (fun j => j = r) w1 w2) : w.grownBy w2 (some b) :=
  ⟨ht.os.trans hg.os, ht.tape.trans hg.tape, ht.output.trans hg.output, Nat.le_trans hg.size ht.size, fun k hk hne => (ht.block k (Nat.lt_of_lt_of_le hk hg.size) (by omega)).trans (hg.block k hk hne)⟩
theorem enext_any (W0 : World) (hT : Tabs W0) (b : Nat) (s : ByteArray) (k : Nat) (w : World) (h0 : Below W0.heap.size W0 w) (hWb : W0.heap.size ≤ b) (h : Cur w b s k) :
    Calls Tryz.prog 47 #[.pointer (some ⟨b, 0, none⟩)] w (ENextEnd w b s k) := by
  have hbl := h.1.lt
  have hss := h.2.2
  have hx := BlkAt.made w 32 #[.string ⟨#[]⟩, .string ⟨#[]⟩]
  have HX := Lib.hid hx
  have hg0 := grown_of_below (ba (a := w) b0 (.cells #[.string ⟨#[]⟩, .string ⟨#[]⟩] 32)) (some b)
  have HG0 := Lib.hid hg0
  have HT1 := Lib.hid (etext_any b s k (w.alloc (.cells #[.string ⟨#[]⟩, .string ⟨#[]⟩] 32)) ⟨h.1.more _, h.2⟩)
  have H0 := Lib.hid h0
  have HT := Lib.hid hT
  have hsz1 := etx_size s k
  clear hx hg0 h h0 hT
  generalize hX : enx echk (s.data.toList.drop k) = X
  have HXX := Lib.hid hX
  have HEND : Hid (∀ (e : Ending) (k' : Nat) (w1 w' : World), e = .returned (.tuple #[.agg #[.string (txt X.1.1), .string (txt X.1.2)], .int .i64 X.2.2]) → Cur w1 b s k' → (X.2.2 = 0 → k' = k + X.2.1) → w.grownBy w1 (some b) → Tch (fun j => j = w.heap.size) w1 w' → ENextEnd w b s k e w') := fun e k' w1 w' he hc hk hg ht => by
    unfold ENextEnd
    rw [hX]
    exact ⟨k', he, ⟨hc.1.tch ht (by omega), hc.2⟩, hk, tch_grown hg (Nat.le_refl _) ht⟩
  unfold enx at hX
  clear hX
  have hX := HXX.out
  unfold enx at hX
  clear HXX
  go_enter Tryz.func47, Tryz.ntmps47
  go_wp2_with fail
  refine HT1.out.mono ?_
  rintro e w1 ⟨k1, rfl, hc1, hk1, hg1⟩
  have HC1 := Lib.hid hc1
  have hgw1 := grown_trans HG0.out hg1 fun x e _ => e
  have HG1 := Lib.hid hgw1
  have hx1 := HX.out.step hg1 (by intro e; injection e with e; omega)
  have HX1 := Lib.hid hx1
  have c0 := hx1.cell 0
  have c1 := hx1.cell 1
  have f0 := hx1.free 0
  have f1 := hx1.free 1
  simp at c0 c1
  have hlw := hx1.lt
  clear hc1 hg1 hgw1 hx1 HT1
  by_cases he1 : (etx (s.data.toList.drop k)).2.2 = 0
  · rw [if_neg (by rw [he1]; simp)] at hX
    obtain rfl := hk1 he1
    have hdd : (s.data.toList.drop k).drop (etx (s.data.toList.drop k)).2.1 = s.data.toList.drop (k + (etx (s.data.toList.drop k)).2.1) := by rw [List.drop_drop]
    rw [hdd] at hX
    have HT2 := Lib.hid (etext_any b s (k + (etx (s.data.toList.drop k)).2.1) w1 HC1.out)
    have hsz2 := etx_size s (k + (etx (s.data.toList.drop k)).2.1)
    rw [he1]
    clear hk1 hdd he1
    unfold ETextEnd at HT2
    generalize (etx (s.data.toList.drop k)).1 = K at *
    generalize hk1e : k + (etx (s.data.toList.drop k)).2.1 = k1 at *
    have HK1E := Lib.hid hk1e
    clear hk1e
    generalize etx (s.data.toList.drop k1) = Y at *
    clear c0 c1 f0 f1 hlw
    go_wp2_with fail
    refine HT2.out.mono ?_
    rintro e w2 ⟨k2, rfl, hc2, hk2, hg2⟩
    have HC2 := Lib.hid hc2
    have HG2 := Lib.hid (grown_trans HG1.out hg2 fun x e _ => e)
    have hx2 := HX1.out.step hg2 (by intro e; injection e with e; omega)
    have HX2 := Lib.hid hx2
    have c0 := hx2.cell 0
    have c1 := hx2.cell 1
    have f0 := hx2.free 0
    have f1 := hx2.free 1
    simp at c0 c1
    have hlw := hx2.lt
    clear hc2 hg2 hx2 HT2 HX1
    by_cases he2 : Y.2.2 = 0
    · rw [if_neg (by rw [he2]; simp)] at hX
      obtain rfl := hk2 he2
      rw [he2]
      have hbe := BlkAt.made w2 32 #[.string (txt K), .string (txt Y.1)]
      have HBE := Lib.hid hbe
      have HCK := Lib.hid (echeck_any (txt K) (txt Y.1) (w2.alloc (.cells #[.string (txt K), .string (txt Y.1)] 32)) (by rw [txt_size]; omega) (by rw [txt_size]; omega) (HT.out.below (ba (bg H0.out HG2.out hWb) _)))
      rw [txt_list, txt_list] at HCK
      have HXB := Lib.hid (HX2.out.more (.cells #[.string (txt K), .string (txt Y.1)] 32))
      clear c0 c1 f0 f1 hlw hbe HX2 hk2 he2
      by_cases hce : echk K Y.1 = 0
      · rw [if_neg (by simpa using hce)] at hX
        subst hX
        have HE : Hid (∀ (w3 w' : World), Below (w2.alloc (.cells #[.string (txt K), .string (txt Y.1)] 32)).heap.size (w2.alloc (.cells #[.string (txt K), .string (txt Y.1)] 32)) w3 → Tch (fun j => j = w.heap.size) w3 w' → ENextEnd w b s k (.returned (.tuple #[.agg #[.string (txt K), .string (txt Y.1)], .int .i64 0])) w') := fun w3 w' hb3 ht => by
          have hb := bb (ba (a := w2) b0 (.cells #[.string (txt K), .string (txt Y.1)] 32)) hb3
          exact HEND.out _ (k1 + Y.2.1) w3 w' rfl ⟨HC2.out.1.below hb HC2.out.1.lt, HC2.out.2⟩ (fun _ => by have := HK1E.out; simp only; omega) (grown_trans HG2.out (grown_of_below hb (some b)) fun x e _ => e) ht
        rw [hce] at HCK
        clear hce HEND
        go_wp2_with fail
        refine HCK.out.mono ?_
        rintro e w3 ⟨rfl, hb3⟩
        have HE3 : Hid (∀ w', Tch (fun j => j = w.heap.size) w3 w' → ENextEnd w b s k (.returned (.tuple #[.agg #[.string (txt K), .string (txt Y.1)], .int .i64 0])) w') := fun w' ht => HE.out w3 w' hb3 ht
        have hx3 := HXB.out.below hb3 HXB.out.lt
        have hy3 := HBE.out.below hb3 HBE.out.lt
        have e0 := hy3.cell 0
        have e1 := hy3.cell 1
        simp at e0 e1
        have c0 := hx3.cell 0
        have c1 := hx3.cell 1
        have f0 := hx3.free 0
        have f1 := hx3.free 1
        simp at c0 c1
        have hlw := hx3.lt
        clear hx3 hy3 hb3 HE
        go_wp2_with fail
        refine bodyPost_ret (v := .tuple #[.agg #[.string (txt K), .string (txt Y.1)], .int .i64 0]) (by simp [results, Tryz.results47, go_sem, c0, c1]; try rfl) rfl (HE3.out _ (res_two _ _ _ _))
      · rw [if_pos (by simpa using hce)] at hX
        subst hX
        have HE : Hid (∀ (w3 w' : World), Below (w2.alloc (.cells #[.string (txt K), .string (txt Y.1)] 32)).heap.size (w2.alloc (.cells #[.string (txt K), .string (txt Y.1)] 32)) w3 → Tch (fun j => j = w.heap.size) w3 w' → ENextEnd w b s k (.returned (.tuple #[.agg #[.string ByteArray.empty, .string ByteArray.empty], .int .i64 (echk K Y.1)])) w') := fun w3 w' hb3 ht => by
          have hb := bb (ba (a := w2) b0 (.cells #[.string (txt K), .string (txt Y.1)] 32)) hb3
          exact HEND.out _ (k1 + Y.2.1) w3 w' rfl ⟨HC2.out.1.below hb HC2.out.1.lt, HC2.out.2⟩ (fun h => absurd h hce) (grown_trans HG2.out (grown_of_below hb (some b)) fun x e _ => e) ht
        have hcei : (echk K Y.1 != 0) = true := by rw [bne_iff_ne]; exact hce
        generalize echk K Y.1 = C at *
        clear hce HEND
        go_wp2_with fail
        refine HCK.out.mono ?_
        rintro e w3 ⟨rfl, hb3⟩
        have HE3 : Hid (∀ w', Tch (fun j => j = w.heap.size) w3 w' → ENextEnd w b s k (.returned (.tuple #[.agg #[.string ByteArray.empty, .string ByteArray.empty], .int .i64 C])) w') := fun w' ht => HE.out w3 w' hb3 ht
        have hx3 := HXB.out.below hb3 HXB.out.lt
        have c0 := hx3.cell 0
        have c1 := hx3.cell 1
        have f0 := hx3.free 0
        have f1 := hx3.free 1
        simp at c0 c1
        have hlw := hx3.lt
        clear hx3 hb3 HE
        go_wp2_with fail
        refine bodyPost_ret (v := .tuple #[.agg #[.string ByteArray.empty, .string ByteArray.empty], .int .i64 C]) (by simp [results, Tryz.results47, go_sem, c0, c1]; try rfl) rfl (HE3.out _ (res_two _ _ _ _))
    · rw [if_pos he2] at hX
      subst hX
      have HE : Hid (∀ w', Tch (fun j => j = w.heap.size) w2 w' → ENextEnd w b s k (.returned (.tuple #[.agg #[.string ByteArray.empty, .string ByteArray.empty], .int .i64 (Y.2.2 : Int)])) w') := fun w' ht => HEND.out _ k2 w2 w' rfl HC2.out (fun h => by simp at h; exact absurd h he2) HG2.out ht
      have hte : ((Y.2.2 : Int) != 0) = true := by rw [bne_iff_ne]; omega
      generalize Y.2.2 = G at *
      clear he2 hk2 HEND
      go_wp2_with fail
      refine bodyPost_ret (v := .tuple #[.agg #[.string ByteArray.empty, .string ByteArray.empty], .int .i64 (G : Int)]) (by simp [results, Tryz.results47, go_sem, c0, c1]; try rfl) rfl (HE.out _ (res_two _ _ _ _))
  · rw [if_pos he1] at hX
    subst hX
    have HE : Hid (∀ w', Tch (fun j => j = w.heap.size) w1 w' → ENextEnd w b s k (.returned (.tuple #[.agg #[.string ByteArray.empty, .string ByteArray.empty], .int .i64 ((etx (s.data.toList.drop k)).2.2 : Int)])) w') := fun w' ht => HEND.out _ k1 w1 w' rfl HC1.out (fun h => by simp at h; exact absurd h he1) HG1.out ht
    have hte : ((((etx (s.data.toList.drop k)).2.2 : Nat) : Int) != 0) = true := by rw [bne_iff_ne]; omega
    generalize (etx (s.data.toList.drop k)).2.2 = G at *
    clear he1 hk1 HEND
    go_wp2_with fail
    refine bodyPost_ret (v := .tuple #[.agg #[.string ByteArray.empty, .string ByteArray.empty], .int .i64 (G : Int)]) (by simp [results, Tryz.results47, go_sem, c0, c1]; try rfl) rfl (HE.out _ (res_two _ _ _ _))
end Go.Proofs.YtgbgbdocgpdkgaaGreatDoor
end
