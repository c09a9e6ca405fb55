/-
  Texts of the proof, joined: PlainVarint PlainCrc PlainFrame PlainStream PlainEntry. Conditions: as each names.
-/
import Derived.Lib.Bytealg

section
namespace Go.PM
/-- Induction by sevens of bits. -/
theorem div_ind {P : Nat → Prop} (h0 : ∀ n, n < 128 → P n) (h1 : ∀ n, 128 ≤ n → P (n / 128) → P n) : ∀ n, P n := by
  intro n
  induction n using Nat.strongRecOn with
  | _ n ih =>
    by_cases h : n < 128
    · exact h0 n h
    · exact h1 n (by omega) (ih (n / 128) (by omega))
/-- A number as it is written. -/
def vput (n : Nat) : List UInt8 := if n < 128 then [UInt8.ofNat n] else UInt8.ofNat (n % 128 + 128) :: vput (n / 128)
termination_by n
decreasing_by omega
theorem vput_small {n : Nat} (h : n < 128) : vput n = [UInt8.ofNat n] := by rw [vput, if_pos h]
theorem vput_big {n : Nat} (h : 128 ≤ n) : vput n = UInt8.ofNat (n % 128 + 128) :: vput (n / 128) := by rw [vput, if_neg (by omega)]
/-- In how many bytes. -/
def vsz (n : Nat) : Nat := if n < 128 then 1 else 1 + vsz (n / 128)
termination_by n
decreasing_by omega
theorem vsz_small {n : Nat} (h : n < 128) : vsz n = 1 := by rw [vsz, if_pos h]
theorem vsz_big {n : Nat} (h : 128 ≤ n) : vsz n = 1 + vsz (n / 128) := by rw [vsz, if_neg (by omega)]
theorem vsz_pos (n : Nat) : 1 ≤ vsz n := by
  by_cases h : n < 128
  · rw [vsz_small h]; omega
  · rw [vsz_big (by omega)]; omega
theorem vput_length : ∀ (n : Nat), (vput n).length = vsz n := by
  apply div_ind
  · intro n h; rw [vput_small h, vsz_small h]; rfl
  · intro n h ih; rw [vput_big h, vsz_big h, List.length_cons, ih]; omega
theorem vsz_le : ∀ (k n : Nat), n < 128 ^ (k + 1) → vsz n ≤ k + 1
  | 0, n, h => by
    have : n < 128 := by simpa using h
    rw [vsz_small this]; omega
  | k + 1, n, h => by
    by_cases h1 : n < 128
    · rw [vsz_small h1]; omega
    · rw [vsz_big (by omega)]
      have h2 : n / 128 < 128 ^ (k + 1) := by
        rw [Nat.div_lt_iff_lt_mul (by omega)]
        rw [Nat.pow_succ] at h
        exact h
      have := vsz_le k (n / 128) h2
      omega
theorem vsz_le10 {n : Nat} (h : n < 18446744073709551616) : vsz n ≤ 10 :=
  vsz_le 9 n (Nat.lt_of_lt_of_le h (by decide))
/-- The bytes that the loop lays down, each with its bit. -/
def vraw : Nat → Nat → List UInt8
  | 0, _ => []
  | k + 1, n => UInt8.ofNat (n % 128 + 128) :: vraw k (n / 128)
theorem vraw_length : ∀ (k n : Nat), (vraw k n).length = k
  | 0, _ => rfl
  | k + 1, n => by simp [vraw, vraw_length k]
theorem vraw_snoc : ∀ (k n : Nat), vraw (k + 1) n = vraw k n ++ [UInt8.ofNat (n / 128 ^ k % 128 + 128)]
  | 0, n => by simp [vraw]
  | k + 1, n => by
    rw [vraw, vraw_snoc k (n / 128), vraw, List.cons_append]
    rw [Nat.div_div_eq_div_mul, Nat.pow_succ, Nat.mul_comm]
theorem vput_raw : ∀ (n : Nat), vput n = vraw (vsz n - 1) n ++ [UInt8.ofNat (n / 128 ^ (vsz n - 1))] := by
  apply div_ind
  · intro n h; rw [vput_small h, vsz_small h]; simp [vraw]
  · intro n h ih
    have hp := vsz_pos (n / 128)
    have e : vsz n - 1 = (vsz (n / 128) - 1) + 1 := by rw [vsz_big h]; omega
    rw [vput_big h, e, vraw, ih, List.cons_append]
    rw [Nat.div_div_eq_div_mul, Nat.pow_succ, Nat.mul_comm]
theorem vtop_lt : ∀ (n : Nat), n / 128 ^ (vsz n - 1) < 128 := by
  apply div_ind
  · intro n h; rw [vsz_small h]; simpa using h
  · intro n h ih
    have hp := vsz_pos (n / 128)
    have e : vsz n - 1 = (vsz (n / 128) - 1) + 1 := by rw [vsz_big h]; omega
    rw [e, Nat.pow_succ, Nat.mul_comm, ← Nat.div_div_eq_div_mul]
    exact ih
/-- The number that a text begins with: the number, in how many bytes, the code. i bytes, of the value acc, have gone by. -/
def vgetL : Nat → Nat → List UInt8 → Nat × Nat × Nat
  | i, _, [] => if 10 ≤ i then (0, 0, 3) else (0, 0, 1)
  | i, acc, c :: r =>
    if 10 ≤ i then (0, 0, 3)
    else if 128 ≤ c.toNat then vgetL (i + 1) (acc + (c.toNat % 128) * 128 ^ i) r
    else if i = 9 ∧ 1 < c.toNat then (0, 0, 3)
    else if 0 < i ∧ c.toNat = 0 then (0, 0, 2)
    else (acc + c.toNat * 128 ^ i, i + 1, 0)
def vget (s : List UInt8) : Nat × Nat × Nat := vgetL 0 0 s
theorem toNat_lo {n : Nat} (h : n < 256) : (UInt8.ofNat n).toNat = n := by
  simp; omega
/-- What is written is read, whatever stands behind it. -/
theorem vgetL_put (r : List UInt8) : ∀ (n i acc : Nat), i + vsz n ≤ 10 → (i + vsz n = 10 → n / 128 ^ (vsz n - 1) ≤ 1) → (0 < i → 0 < n) →
    vgetL i acc (vput n ++ r) = (acc + n * 128 ^ i, i + vsz n, 0) := by
  refine div_ind ?_ ?_
  · intro n h i acc h1 h2 h3
    rw [vsz_small h] at h1 h2 ⊢
    rw [vput_small h, List.cons_append, vgetL, toNat_lo (by omega), if_neg (by omega), if_neg (by omega), if_neg, if_neg]
    · omega
    · rintro ⟨hi, hn⟩
      have : n ≤ 1 := by simpa using h2 (by omega)
      omega
  · intro n h ih i acc h1 h2 h3
    have hp := vsz_pos (n / 128)
    rw [vsz_big h] at h1 h2 ⊢
    rw [vput_big h, List.cons_append, vgetL, toNat_lo (by omega), if_neg (by omega), if_pos (by omega), ih (i + 1) _ (by omega) ?_ (by omega)]
    · have e : (n % 128 + 128) % 128 = n % 128 := by omega
      rw [e, Nat.pow_succ]
      have hd : n = n % 128 + 128 * (n / 128) := by omega
      refine Prod.ext ?_ (Prod.ext ?_ rfl)
      · show acc + n % 128 * 128 ^ i + n / 128 * (128 ^ i * 128) = acc + n * 128 ^ i
        have : n * 128 ^ i = n % 128 * 128 ^ i + n / 128 * (128 ^ i * 128) := by
          conv => lhs; rw [hd]
          rw [Nat.add_mul, Nat.mul_comm (128 ^ i) 128, ← Nat.mul_assoc, Nat.mul_comm 128 (n / 128)]
        omega
      · show i + 1 + vsz (n / 128) = i + (1 + vsz (n / 128)); omega
    · intro h4
      have := h2 (by omega)
      have e : 1 + vsz (n / 128) - 1 = (vsz (n / 128) - 1) + 1 := by omega
      rw [e, Nat.pow_succ, Nat.mul_comm, ← Nat.div_div_eq_div_mul] at this
      exact this
theorem vtop10 {n : Nat} (h : n < 18446744073709551616) (e : vsz n = 10) : n / 128 ^ (vsz n - 1) ≤ 1 := by
  rw [e]
  have : n / 128 ^ 9 < 2 := by
    rw [Nat.div_lt_iff_lt_mul (by decide)]
    exact Nat.lt_of_lt_of_le h (by decide)
  show n / 128 ^ 9 ≤ 1
  omega
theorem vget_put (n : Nat) (h : n < 18446744073709551616) (r : List UInt8) : vget (vput n ++ r) = (n, vsz n, 0) := by
  unfold vget
  have h10 := vsz_le10 h
  rw [vgetL_put r n 0 0 (by omega) (fun e => vtop10 h (by omega)) (by omega)]
  simp
theorem pow_lt {i j : Nat} (h : i ≤ j) : 128 ^ i ≤ 128 ^ j := Nat.pow_le_pow_right (by omega) h
/-- What a reading is. -/
theorem vgetL_cases : ∀ (s : List UInt8) (i acc : Nat), acc < 128 ^ i → i ≤ 10 →
    (∃ e, vgetL i acc s = (0, 0, e) ∧ (e = 1 ∨ e = 2 ∨ e = 3)) ∨
    ∃ n k, vgetL i acc s = (acc + n * 128 ^ i, i + k, 0) ∧ 1 ≤ k ∧ i + k ≤ 10 ∧ k ≤ s.length ∧ vput n = s.take k ∧ vsz n = k ∧ (i + k = 10 → n / 128 ^ (k - 1) ≤ 1) ∧ (0 < i → 0 < n)
  | [], i, acc, _, _ => .inl (by simp only [vgetL]; split <;> simp)
  | c :: r, i, acc, ha, hi => by
    rw [vgetL]
    by_cases h0 : 10 ≤ i
    · rw [if_pos h0]; exact .inl ⟨3, rfl, by omega⟩
    rw [if_neg h0]
    by_cases h1 : 128 ≤ c.toNat
    · rw [if_pos h1]
      have hc : c.toNat < 256 := c.toNat_lt
      have hlt : acc + c.toNat % 128 * 128 ^ i < 128 ^ (i + 1) := by
        have : c.toNat % 128 * 128 ^ i ≤ 127 * 128 ^ i := Nat.mul_le_mul_right _ (by omega)
        rw [Nat.pow_succ]; omega
      rcases vgetL_cases r (i + 1) _ hlt (by omega) with h | ⟨n, k, h, k1, k2, k3, k4, k5, k6, k7⟩
      · exact .inl h
      · have hn : 0 < n := k7 (by omega)
        have d1 : (c.toNat % 128 + 128 * n) / 128 = n := by omega
        have d2 : (c.toNat % 128 + 128 * n) % 128 = c.toNat % 128 := by omega
        refine .inr ⟨c.toNat % 128 + 128 * n, k + 1, ?_, by omega, by omega, by simp; omega, ?_, ?_, ?_, by omega⟩
        · rw [h, Nat.pow_succ, Nat.add_mul]
          refine Prod.ext ?_ (Prod.ext ?_ rfl)
          · show acc + c.toNat % 128 * 128 ^ i + n * (128 ^ i * 128) = acc + (c.toNat % 128 * 128 ^ i + 128 * n * 128 ^ i)
            have : n * (128 ^ i * 128) = 128 * n * 128 ^ i := by rw [Nat.mul_comm (128 ^ i) 128, ← Nat.mul_assoc, Nat.mul_comm n 128]
            omega
          · show i + 1 + k = i + (k + 1); omega
        · rw [vput_big (by omega), d1, d2, List.take_succ_cons, k4]
          congr 1
          have : c.toNat % 128 + 128 = c.toNat := by omega
          rw [this]; simp
        · rw [vsz_big (by omega), d1, k5]; omega
        · intro he
          have e : k + 1 - 1 = (k - 1) + 1 := by omega
          rw [e, Nat.pow_succ, Nat.mul_comm (128 ^ (k - 1)) 128, ← Nat.div_div_eq_div_mul, d1]
          exact k6 (by omega)
    rw [if_neg h1]
    by_cases h2 : i = 9 ∧ 1 < c.toNat
    · rw [if_pos h2]; exact .inl ⟨3, rfl, by omega⟩
    rw [if_neg h2]
    by_cases h3 : 0 < i ∧ c.toNat = 0
    · rw [if_pos h3]; exact .inl ⟨2, rfl, by omega⟩
    rw [if_neg h3]
    refine .inr ⟨c.toNat, 1, rfl, by omega, by omega, by simp, ?_, vsz_small (by omega), ?_, by omega⟩
    · rw [vput_small (by omega)]; simp
    · intro he
      simp only [Nat.sub_self, Nat.pow_zero, Nat.div_one]
      omega
theorem vget_cases (s : List UInt8) :
    (∃ e, vget s = (0, 0, e) ∧ (e = 1 ∨ e = 2 ∨ e = 3)) ∨
    ∃ n k, vget s = (n, k, 0) ∧ n < 18446744073709551616 ∧ 1 ≤ k ∧ k ≤ 10 ∧ k ≤ s.length ∧ vput n = s.take k ∧ vsz n = k := by
  rcases vgetL_cases s 0 0 (by simp) (by omega) with h | ⟨n, k, h, k1, k2, k3, k4, k5, k6, _⟩
  · exact .inl h
  · refine .inr ⟨n, k, by unfold vget; rw [h]; simp, ?_, k1, by omega, k3, k4, k5⟩
    have ht := vtop_lt n
    rw [k5] at ht
    by_cases h10 : k = 10
    · subst h10
      have : n / 128 ^ 9 < 2 := by have := k6 (by omega); simp only [Nat.add_one_sub_one] at this; omega
      rw [Nat.div_lt_iff_lt_mul (by decide)] at this
      exact Nat.lt_of_lt_of_le this (by decide)
    · rw [Nat.div_lt_iff_lt_mul (Nat.pow_pos (by omega))] at ht
      have h2 : 128 * 128 ^ (k - 1) ≤ 128 ^ 9 := by
        rw [Nat.mul_comm, ← Nat.pow_succ]; exact pow_lt (by omega)
      have h3 : 128 ^ 9 < 18446744073709551616 := by decide
      omega
end Go.PM
end

section
namespace Go.PM
/-- One bit. -/
def cstep (r : Nat) : Nat := if r % 2 = 1 then r / 2 ^^^ 3988292384 else r / 2
/-- So many bits. -/
def csteps : Nat → Nat → Nat
  | 0, r => r
  | k + 1, r => csteps k (cstep r)
theorem xor_div2 (a b : Nat) : (a ^^^ b) / 2 = a / 2 ^^^ b / 2 := by
  have := Nat.shiftRight_xor_distrib (a := a) (b := b) (i := 1)
  simpa [Nat.shiftRight_succ] using this
theorem xor_mod2 (a b : Nat) : (a ^^^ b) % 2 = (a % 2 + b % 2) % 2 := by
  have h : ∀ x : Nat, x % 2 = (x.testBit 0).toNat := fun x => by
    rw [Nat.testBit_zero]
    rcases Nat.mod_two_eq_zero_or_one x with e | e <;> simp [e]
  rw [h (a ^^^ b), h a, h b, Nat.testBit_xor]
  cases a.testBit 0 <;> cases b.testBit 0 <;> rfl
theorem cstep_xor (a b : Nat) : cstep (a ^^^ b) = cstep a ^^^ cstep b := by
  unfold cstep
  rw [xor_div2, xor_mod2]
  have ha : a % 2 = 0 ∨ a % 2 = 1 := by omega
  have hb : b % 2 = 0 ∨ b % 2 = 1 := by omega
  rcases ha with ha | ha <;> rcases hb with hb | hb <;> simp [ha, hb]
  · rw [Nat.xor_assoc]
  · rw [Nat.xor_assoc, Nat.xor_assoc, Nat.xor_comm 3988292384]
  · rw [Nat.xor_assoc, Nat.xor_comm 3988292384, Nat.xor_assoc, Nat.xor_self, Nat.xor_zero]
theorem cstep_zero : cstep 0 = 0 := by decide
theorem csteps_xor : ∀ (k a b : Nat), csteps k (a ^^^ b) = csteps k a ^^^ csteps k b
  | 0, _, _ => rfl
  | k + 1, a, b => by rw [csteps, cstep_xor, csteps_xor k]; rfl
theorem csteps_zero : ∀ k, csteps k 0 = 0
  | 0 => rfl
  | k + 1 => by rw [csteps, cstep_zero, csteps_zero k]
theorem csteps_add : ∀ (j k r : Nat), csteps (j + k) r = csteps k (csteps j r)
  | 0, k, r => by simp [csteps]
  | j + 1, k, r => by rw [show j + 1 + k = (j + k) + 1 by omega, csteps, csteps_add j k]; rfl
theorem cstep_lt {r : Nat} (h : r < 4294967296) : cstep r < 4294967296 := by
  unfold cstep
  split
  · exact Nat.xor_lt_two_pow (n := 32) (by omega) (by omega)
  · omega
theorem csteps_lt : ∀ (k : Nat) {r : Nat}, r < 4294967296 → csteps k r < 4294967296
  | 0, _, h => h
  | k + 1, _, h => csteps_lt k (cstep_lt h)
theorem xor_eq_zero {a b : Nat} (h : a ^^^ b = 0) : a = b := by
  have : a ^^^ b ^^^ b = b := by rw [h, Nat.zero_xor]
  rwa [Nat.xor_assoc, Nat.xor_self, Nat.xor_zero] at this
theorem cstep_ne {r : Nat} (h : r < 4294967296) (hr : cstep r = 0) : r = 0 := by
  unfold cstep at hr
  split at hr
  · have := xor_eq_zero hr; omega
  · omega
theorem csteps_ne : ∀ (k : Nat) {r : Nat}, r < 4294967296 → csteps k r = 0 → r = 0
  | 0, _, _, hr => hr
  | k + 1, _, h, hr => cstep_ne h (csteps_ne k (cstep_lt h) hr)
theorem csteps_inj (k : Nat) {a b : Nat} (ha : a < 4294967296) (hb : b < 4294967296) (h : csteps k a = csteps k b) : a = b := by
  have h1 : csteps k (a ^^^ b) = 0 := by rw [csteps_xor, h, Nat.xor_self]
  exact xor_eq_zero (csteps_ne k (Nat.xor_lt_two_pow (n := 32) (by omega) (by omega)) h1)
/-- Low bits that are 0 are shifted out. -/
theorem csteps_shift : ∀ (k r : Nat), csteps k (r * 2 ^ k) = r
  | 0, r => by simp [csteps]
  | k + 1, r => by
    have e : r * 2 ^ (k + 1) = 2 * (r * 2 ^ k) := by rw [Nat.pow_succ, Nat.mul_comm (2 ^ k) 2, ← Nat.mul_assoc, Nat.mul_comm r 2, Nat.mul_assoc]
    rw [csteps, e]
    have : cstep (2 * (r * 2 ^ k)) = r * 2 ^ k := by
      unfold cstep
      rw [if_neg (by omega)]; omega
    rw [this, csteps_shift k]
theorem split_xor (r k : Nat) : r = (r % 2 ^ k) ^^^ (r / 2 ^ k * 2 ^ k) := by
  have h : r % 2 ^ k < 2 ^ k := Nat.mod_lt _ (Nat.pow_pos (by omega))
  apply Nat.eq_of_testBit_eq
  intro i
  rw [Nat.testBit_xor, Nat.testBit_mod_two_pow, Nat.mul_comm, Nat.testBit_two_pow_mul]
  by_cases hi : i < k
  · have : ¬ k ≤ i := by omega
    simp [hi, this]
  · have : k ≤ i := by omega
    simp [hi, this, Nat.testBit_div_two_pow]
/-- So many bits at once, by a table. -/
theorem csteps_table (k r : Nat) : csteps k r = r / 2 ^ k ^^^ csteps k (r % 2 ^ k) := by
  conv => lhs; rw [split_xor r k]
  rw [csteps_xor, csteps_shift, Nat.xor_comm]
/-- A byte. -/
def cbyte (r : Nat) (b : UInt8) : Nat := csteps 8 (r ^^^ b.toNat)
/-- A text. -/
def cover (r : Nat) (l : List UInt8) : Nat := l.foldl cbyte r
def csum (l : List UInt8) : Nat := 4294967295 ^^^ cover 4294967295 l
/-- Four bytes, the lowest first. -/
def cput (n : Nat) : List UInt8 := [UInt8.ofNat (n % 256), UInt8.ofNat (n / 256 % 256), UInt8.ofNat (n / 65536 % 256), UInt8.ofNat (n / 16777216 % 256)]
def cget : List UInt8 → Nat
  | [a, b, c, d] => a.toNat + b.toNat * 256 + c.toNat * 65536 + d.toNat * 16777216
  | _ => 0
theorem cbyte_lt {r : Nat} (h : r < 4294967296) (b : UInt8) : cbyte r b < 4294967296 :=
  csteps_lt 8 (Nat.xor_lt_two_pow (n := 32) (by omega) (by have := b.toNat_lt; omega))
theorem cover_lt : ∀ (l : List UInt8) {r : Nat}, r < 4294967296 → cover r l < 4294967296
  | [], _, h => h
  | b :: l, _, h => cover_lt l (cbyte_lt h b)
theorem cover_append (r : Nat) (a b : List UInt8) : cover r (a ++ b) = cover (cover r a) b := by simp [cover]
theorem csum_lt (l : List UInt8) : csum l < 4294967296 := Nat.xor_lt_two_pow (n := 32) (by omega) (by have := cover_lt l (r := 4294967295) (by omega); omega)
theorem not_not (r : Nat) : 4294967295 ^^^ (4294967295 ^^^ r) = r := by rw [← Nat.xor_assoc, Nat.xor_self, Nat.zero_xor]
theorem cput_get (n : Nat) (h : n < 4294967296) : cget (cput n) = n := by
  simp only [cput, cget]
  have e : ∀ k, k < 256 → (UInt8.ofNat k).toNat = k := fun k hk => by simp; omega
  rw [e _ (by omega), e _ (by omega), e _ (by omega), e _ (by omega)]
  omega
theorem cget_put (l : List UInt8) (h : l.length = 4) : cput (cget l) = l := by
  match l, h with
  | [a, b, c, d], _ =>
    simp only [cput, cget]
    have := a.toNat_lt; have := b.toNat_lt; have := c.toNat_lt; have := d.toNat_lt
    rw [show (a.toNat + b.toNat * 256 + c.toNat * 65536 + d.toNat * 16777216) % 256 = a.toNat by omega,
      show (a.toNat + b.toNat * 256 + c.toNat * 65536 + d.toNat * 16777216) / 256 % 256 = b.toNat by omega,
      show (a.toNat + b.toNat * 256 + c.toNat * 65536 + d.toNat * 16777216) / 65536 % 256 = c.toNat by omega,
      show (a.toNat + b.toNat * 256 + c.toNat * 65536 + d.toNat * 16777216) / 16777216 % 256 = d.toNat by omega]
    simp
/-- Two texts of one length part at a byte: what becomes of the register. -/
theorem cover_xor_reg : ∀ (l : List UInt8) (r d : Nat), cover (r ^^^ d) l = cover r l ^^^ csteps (8 * l.length) d
  | [], r, d => rfl
  | b :: l, r, d => by
    have e : cbyte (r ^^^ d) b = cbyte r b ^^^ csteps 8 d := by
      unfold cbyte
      rw [Nat.xor_assoc, Nat.xor_comm d, ← Nat.xor_assoc, csteps_xor]
    show cover (cbyte (r ^^^ d) b) l = cover (cbyte r b) l ^^^ _
    rw [e, cover_xor_reg l, List.length_cons, show 8 * (l.length + 1) = 8 + 8 * l.length by omega, csteps_add]
/-- A bit turned. -/
def cflip (l : List UInt8) (k : Nat) : List UInt8 := l.set (k / 8) (l.getD (k / 8) 0 ^^^ UInt8.ofNat (2 ^ (k % 8)))
theorem cflip_length (l : List UInt8) (k : Nat) : (cflip l k).length = l.length := by simp [cflip]
theorem cbyte_flip (r : Nat) (b : UInt8) (m : Nat) (hm : m < 8) : cbyte r (b ^^^ UInt8.ofNat (2 ^ m)) = cbyte r b ^^^ csteps (8 - m) 1 := by
  unfold cbyte
  have h2 : (2 : Nat) ^ m < 256 := Nat.lt_of_lt_of_le (Nat.pow_lt_pow_right (by omega) hm) (by decide)
  have e : (b ^^^ UInt8.ofNat (2 ^ m)).toNat = b.toNat ^^^ 2 ^ m := by
    rw [UInt8.toNat_xor]
    congr 1
    simp; omega
  rw [e, ← Nat.xor_assoc, csteps_xor]
  congr 1
  have := csteps_shift m 1
  rw [Nat.one_mul] at this
  rw [show (8 : Nat) = m + (8 - m) by omega, csteps_add, this]
  congr 1; omega
theorem cover_flip : ∀ (l : List UInt8) (r k : Nat), k < 8 * l.length → cover r (cflip l k) = cover r l ^^^ csteps (8 * l.length - k) 1
  | [], _, k, h => by simp at h
  | b :: l, r, k, h => by
    by_cases hk : k < 8
    · have e : cflip (b :: l) k = (b ^^^ UInt8.ofNat (2 ^ k)) :: l := by
        unfold cflip
        rw [show k / 8 = 0 by omega, show k % 8 = k by omega]; rfl
      rw [e]
      show cover (cbyte r _) l = cover (cbyte r b) l ^^^ _
      rw [cbyte_flip r b k hk, cover_xor_reg, ← csteps_add, List.length_cons]
      congr 2; omega
    · have e : cflip (b :: l) k = b :: cflip l (k - 8) := by
        unfold cflip
        rw [show k / 8 = (k - 8) / 8 + 1 by omega, show k % 8 = (k - 8) % 8 by omega]; rfl
      rw [e]
      show cover (cbyte r b) _ = cover (cbyte r b) l ^^^ _
      rw [cover_flip l _ (k - 8) (by simp at h; omega), List.length_cons]
      congr 2; omega
/-- Bytes as one number, the lowest first. -/
def lget : List UInt8 → Nat
  | [] => 0
  | b :: l => b.toNat + 256 * lget l
theorem cover_lget : ∀ (l : List UInt8) (r : Nat), cover r l = csteps (8 * l.length) (r ^^^ lget l)
  | [], r => by show r = r ^^^ 0; rw [Nat.xor_zero]
  | b :: l, r => by
    have hb := b.toNat_lt
    have x := split_xor (b.toNat + 256 * lget l) 8
    rw [show (b.toNat + 256 * lget l) % 2 ^ 8 = b.toNat by omega, show (b.toNat + 256 * lget l) / 2 ^ 8 = lget l by omega] at x
    show cover (cbyte r b) l = csteps _ (r ^^^ (b.toNat + 256 * lget l))
    rw [cover_lget l, List.length_cons, show 8 * (l.length + 1) = 8 + 8 * l.length by omega, csteps_add, x, ← Nat.xor_assoc, csteps_xor 8, csteps_shift]
    rfl
theorem cget_lget (q : List UInt8) (h : q.length = 4) : cget q = lget q := by
  match q, h with
  | [a, b, c, d], _ => simp only [cget, lget]; omega
theorem cover_four (r : Nat) (q : List UInt8) (h : q.length = 4) : cover r q = csteps 32 (r ^^^ cget q) := by
  rw [cover_lget, h, cget_lget q h]
theorem cget_lt (q : List UInt8) : cget q < 4294967296 := by
  unfold cget
  split
  · rename_i a b c d
    have := a.toNat_lt; have := b.toNat_lt; have := c.toNat_lt; have := d.toNat_lt
    omega
  · omega
/-- A text with its sum behind it leaves a register that hangs on nothing. -/
theorem check_iff (s q : List UInt8) (h : q.length = 4) : cget q = csum s ↔ cover 4294967295 (s ++ q) = csteps 32 4294967295 := by
  have hl := cover_lt s (r := 4294967295) (by omega)
  have hq := cget_lt q
  rw [cover_append, cover_four _ _ h]
  unfold csum
  constructor
  · intro e
    rw [e, Nat.xor_comm 4294967295, ← Nat.xor_assoc, Nat.xor_self, Nat.zero_xor]
  · intro e
    have := csteps_inj 32 (Nat.xor_lt_two_pow (n := 32) (by omega) (by omega)) (by omega) e
    have h2 : cover 4294967295 s ^^^ (cover 4294967295 s ^^^ cget q) = cover 4294967295 s ^^^ 4294967295 := by rw [this]
    rw [← Nat.xor_assoc, Nat.xor_self, Nat.zero_xor] at h2
    rw [h2, Nat.xor_comm]
/-- Bits turned in a row of at most 32: of the pattern's first i bits those that are there. -/
def cturn (l : List UInt8) (first pattern : Nat) : Nat → List UInt8
  | 0 => l
  | i + 1 => if pattern / 2 ^ i % 2 = 1 ∧ first + i < 8 * l.length then cflip (cturn l first pattern i) (first + i) else cturn l first pattern i
theorem cturn_length (l : List UInt8) (first pattern : Nat) : ∀ i, (cturn l first pattern i).length = l.length
  | 0 => rfl
  | i + 1 => by
    rw [cturn]
    split
    · rw [cflip_length, cturn_length l first pattern i]
    · exact cturn_length l first pattern i
theorem mod_pow_succ (p i : Nat) : p % 2 ^ (i + 1) = p % 2 ^ i ^^^ (p / 2 ^ i % 2) * 2 ^ i := by
  have x := split_xor (p % 2 ^ (i + 1)) i
  rw [Nat.mod_mod_of_dvd _ (Nat.pow_dvd_pow 2 (by omega : i ≤ i + 1))] at x
  rw [x]
  congr 2
  rw [Nat.pow_succ, Nat.mod_mul_right_div_self]
/-- How many bits are there, of the first i. -/
def cend (N first i : Nat) : Nat := min i (N - first)
theorem cturn_cover (l : List UInt8) (r first pattern : Nat) (hf : first ≤ 8 * l.length) : ∀ i, i ≤ 32 →
    cover r (cturn l first pattern i) = cover r l ^^^ csteps (8 * l.length - first) (pattern % 2 ^ cend (8 * l.length) first i)
  | 0, _ => by simp [cturn, cend, Nat.mod_one, csteps_zero]
  | i + 1, hi => by
    rw [cturn]
    by_cases hk : first + i < 8 * l.length
    · have e1 : cend (8 * l.length) first (i + 1) = i + 1 := by unfold cend; omega
      have e0 : cend (8 * l.length) first i = i := by unfold cend; omega
      have ih := cturn_cover l r first pattern hf i (by omega)
      rw [e0] at ih
      rw [e1, mod_pow_succ, csteps_xor]
      by_cases hb : pattern / 2 ^ i % 2 = 1
      · rw [if_pos ⟨hb, hk⟩, cover_flip _ _ _ (by rw [cturn_length]; exact hk), ih, cturn_length, hb, Nat.xor_assoc]
        congr 2
        rw [show 8 * l.length - first = i + (8 * l.length - (first + i)) by omega, csteps_add, csteps_shift]
      · rw [if_neg (by rintro ⟨h, _⟩; exact hb h), ih]
        have : pattern / 2 ^ i % 2 = 0 := by omega
        rw [this, Nat.zero_mul, csteps_zero, Nat.xor_zero]
    · rw [if_neg (by rintro ⟨_, h⟩; exact hk h), cturn_cover l r first pattern hf i (by omega)]
      congr 4
      unfold cend; omega
/-- Whether any was turned. -/
def cturned (N first pattern : Nat) : Nat → Bool
  | 0 => false
  | i + 1 => if pattern / 2 ^ i % 2 = 1 ∧ first + i < N then true else cturned N first pattern i
theorem cturned_iff (N first pattern : Nat) : ∀ i, cturned N first pattern i = false ↔ pattern % 2 ^ cend N first i = 0
  | 0 => by simp [cturned, cend, Nat.mod_one]
  | i + 1 => by
    rw [cturned]
    by_cases hk : first + i < N
    · have e1 : cend N first (i + 1) = i + 1 := by unfold cend; omega
      have e0 : cend N first i = i := by unfold cend; omega
      have ih := cturned_iff N first pattern i
      rw [e0] at ih
      rw [e1]
      by_cases hb : pattern / 2 ^ i % 2 = 1
      · rw [if_pos ⟨hb, hk⟩]
        have hlt : pattern % 2 ^ i < 2 ^ i := Nat.mod_lt _ (Nat.pow_pos (by omega))
        have hm : pattern % 2 ^ (i + 1) = pattern % 2 ^ i + 2 ^ i * (pattern / 2 ^ i % 2) := Nat.mod_pow_succ
        rw [hb] at hm
        have : 0 < 2 ^ i := Nat.pow_pos (by omega)
        simp; omega
      · rw [if_neg (by rintro ⟨h, _⟩; exact hb h), ih]
        have hm : pattern % 2 ^ (i + 1) = pattern % 2 ^ i + 2 ^ i * (pattern / 2 ^ i % 2) := Nat.mod_pow_succ
        rw [show pattern / 2 ^ i % 2 = 0 by omega] at hm
        rw [hm]; simp
    · rw [if_neg (by rintro ⟨_, h⟩; exact hk h), cturned_iff N first pattern i]
      have : cend N first (i + 1) = cend N first i := by unfold cend; omega
      rw [this]
/-- A BURST IS SEEN. -/
theorem burst (s : List UInt8) (first pattern i : Nat) (hi : i ≤ 32) (hf : first ≤ 8 * (s.length + 4)) (hp : pattern < 4294967296) (b : List UInt8)
    (hb : b = cturn (s ++ cput (csum s)) first pattern i) :
    (cget (b.drop s.length) = csum (b.take s.length)) ↔ cturned (8 * (s.length + 4)) first pattern i = false := by
  have hl : (s ++ cput (csum s)).length = s.length + 4 := by simp [cput]
  have hbl : b.length = s.length + 4 := by rw [hb, cturn_length, hl]
  have h0 : cover 4294967295 (s ++ cput (csum s)) = csteps 32 4294967295 := (check_iff s _ (by simp [cput])).1 (cput_get _ (csum_lt s))
  rw [check_iff _ _ (by simp [hbl]), List.take_append_drop, hb, cturn_cover _ _ _ _ (by rw [hl]; exact hf) i hi, h0, hl, cturned_iff]
  have hm : pattern % 2 ^ cend (8 * (s.length + 4)) first i < 4294967296 := Nat.lt_of_le_of_lt (Nat.mod_le _ _) hp
  constructor
  · intro e
    have : csteps 32 4294967295 ^^^ (csteps 32 4294967295 ^^^ csteps (8 * (s.length + 4) - first) (pattern % 2 ^ cend (8 * (s.length + 4)) first i)) = csteps 32 4294967295 ^^^ csteps 32 4294967295 := by rw [e]
    rw [← Nat.xor_assoc, Nat.xor_self, Nat.zero_xor] at this
    exact csteps_ne _ hm this
  · intro e
    rw [e, csteps_zero, Nat.xor_zero]
end Go.PM
end

section
namespace Go.PM
/-- The frame of a payload. -/
def ftext (p : List UInt8) : List UInt8 := [81, 70] ++ vput p.length ++ p ++ cput (csum p)
/-- How many bytes a frame of n has. -/
def fsize (n : Nat) : Nat := 2 + vsz n + n + 4
theorem ftext_length (p : List UInt8) : (ftext p).length = fsize p.length := by
  simp [ftext, fsize, vput_length, cput]; omega
/-- The mark: the code. -/
def fmark (s : List UInt8) : Nat :=
  if s.length = 0 then 1 else if s.getD 0 0 ≠ 81 then 5 else if s.length = 1 then 1 else if s.getD 1 0 ≠ 70 then 5 else 0
/-- What follows the mark. -/
def fbody (s : List UInt8) : List UInt8 × Nat × Nat :=
  let g := vget (s.drop 2)
  if g.2.2 ≠ 0 then ([], 0, g.2.2)
  else if 65536 < g.1 then ([], 0, 4)
  else if (s.drop (2 + g.2.1)).length < g.1 + 4 then ([], 0, 1)
  else if cget (((s.drop (2 + g.2.1)).drop g.1).take 4) ≠ csum ((s.drop (2 + g.2.1)).take g.1) then ([], 0, 6)
  else ((s.drop (2 + g.2.1)).take g.1, fsize g.1, 0)
/-- The frame that a text begins with. -/
def fparse (s : List UInt8) : List UInt8 × Nat × Nat := if fmark s ≠ 0 then ([], 0, fmark s) else fbody s
theorem fmark_cases (s : List UInt8) : fmark s = 0 ∧ (∃ r, s = 81 :: 70 :: r) ∨ fmark s = 1 ∧ s.length ≤ 1 ∨ fmark s = 5 := by
  unfold fmark
  match s with
  | [] => simp
  | [a] => by_cases h : a = 81 <;> simp [h]
  | a :: b :: r => by_cases h : a = 81 <;> by_cases h2 : b = 70 <;> simp [h, h2]
/-- What a reading is. -/
theorem fparse_cases (s : List UInt8) : (∃ e, fparse s = ([], 0, e) ∧ e ≠ 0) ∨
    ∃ p r, s = ftext p ++ r ∧ p.length ≤ 65536 ∧ fparse s = (p, fsize p.length, 0) := by
  unfold fparse
  rcases fmark_cases s with ⟨h, r, rfl⟩ | ⟨h, _⟩ | h
  · rw [if_neg (by simp [h])]
    unfold fbody
    simp only [List.drop_succ_cons, List.drop_zero]
    rcases vget_cases r with ⟨e, he, h3⟩ | ⟨n, k, hg, hn, hk, _, hkl, hput, hsz⟩
    · left; refine ⟨e, ?_, by omega⟩
      rw [he]; simp; omega
    · rw [hg]
      simp only [ne_eq, not_true_eq_false, if_false]
      have hd : (81 :: 70 :: r).drop (2 + k) = r.drop k := by rw [Nat.add_comm]; rfl
      rw [hd]
      split
      · exact .inl ⟨4, rfl, by omega⟩
      split
      · exact .inl ⟨1, rfl, by omega⟩
      split
      · exact .inl ⟨6, rfl, by omega⟩
      · rename_i h1 h2 h3
        right
        have hlen : ((r.drop k).take n).length = n := by rw [List.length_take]; omega
        refine ⟨(r.drop k).take n, (r.drop k).drop (n + 4), ?_, by omega, by rw [hlen]⟩
        have h4 : (((r.drop k).drop n).take 4).length = 4 := by simp at h2 ⊢; omega
        have h3 : cget (((r.drop k).drop n).take 4) = csum ((r.drop k).take n) := Classical.not_not.1 h3
        unfold ftext
        rw [hlen, hput, ← h3, cget_put _ h4]
        simp only [List.append_assoc, List.cons_append, List.nil_append]
        congr 2
        have e1 : (r.drop k).drop (n + 4) = ((r.drop k).drop n).drop 4 := by rw [List.drop_drop, List.drop_drop, List.drop_drop]
        rw [e1, List.take_append_drop, List.take_append_drop, List.take_append_drop]
  · rw [if_pos (by omega), h]; exact .inl ⟨1, rfl, by omega⟩
  · rw [if_pos (by omega), h]; exact .inl ⟨5, rfl, by omega⟩
theorem fparse_text (p r : List UInt8) (h : p.length ≤ 65536) : fparse (ftext p ++ r) = (p, fsize p.length, 0) := by
  have e : ftext p ++ r = 81 :: 70 :: (vput p.length ++ (p ++ (cput (csum p) ++ r))) := by simp [ftext]
  unfold fparse
  have hm : fmark (ftext p ++ r) = 0 := by rw [e]; simp [fmark]
  rw [if_neg (by simp [hm])]
  unfold fbody
  have hg : vget ((ftext p ++ r).drop 2) = (p.length, vsz p.length, 0) := by
    rw [e]; exact vget_put _ (by omega) _
  rw [hg]
  simp only [ne_eq, not_true_eq_false, if_false]
  have hd : (ftext p ++ r).drop (2 + vsz p.length) = p ++ (cput (csum p) ++ r) := by
    rw [e, Nat.add_comm]
    show (vput p.length ++ (p ++ (cput (csum p) ++ r))).drop (vsz p.length) = _
    rw [← vput_length, List.drop_left]
  rw [hd, if_neg (by omega), if_neg (by simp [cput]), List.drop_left, List.take_left]
  have : (cput (csum p) ++ r).take 4 = cput (csum p) := by
    have : (cput (csum p)).length = 4 := rfl
    rw [← this, List.take_left]
  rw [this, cput_get _ (csum_lt p), if_neg (by simp)]
theorem vgetL_more (t : List UInt8) : ∀ (s : List UInt8) (i acc : Nat), (vgetL i acc s).2.2 ≠ 1 → vgetL i acc (s ++ t) = vgetL i acc s
  | [], i, acc, h => by
    by_cases h0 : 10 ≤ i
    · cases t with
      | nil => rfl
      | cons c t => simp [vgetL, h0]
    · simp [vgetL, h0] at h
  | c :: r, i, acc, h => by
    rw [List.cons_append]
    simp only [vgetL] at h ⊢
    by_cases h0 : 10 ≤ i
    · simp [h0]
    · simp only [h0, if_false] at h ⊢
      by_cases h1 : 128 ≤ c.toNat
      · simp only [h1, if_true] at h ⊢
        exact vgetL_more t r _ _ h
      · simp only [h1, if_false]
theorem vget_more (s t : List UInt8) (h : (vget s).2.2 ≠ 1) : vget (s ++ t) = vget s := vgetL_more t s 0 0 h
theorem fbody_more (a b : UInt8) (r t : List UInt8) (h : (fbody (a :: b :: r)).2.2 ≠ 1) : fbody (a :: b :: (r ++ t)) = fbody (a :: b :: r) := by
  have e2 : ∀ (k : Nat) (x : List UInt8), (a :: b :: x).drop (2 + k) = x.drop k := fun k x => by rw [Nat.add_comm]; rfl
  unfold fbody at h ⊢
  simp only [List.drop_succ_cons, List.drop_zero, e2] at h ⊢
  have hv : (vget r).2.2 ≠ 1 := by
    intro hv
    rw [hv] at h
    simp at h
  rw [vget_more r t hv]
  rcases vget_cases r with ⟨e', he', h3⟩ | ⟨n, k, hg, hn, hk, _, hkl, hput, hsz⟩
  · rw [he']
    have : e' ≠ 0 := by omega
    simp only [this, ne_eq, not_false_eq_true, if_true]
  · rw [hg] at h ⊢
    simp only [ne_eq, not_true_eq_false, if_false] at h ⊢
    by_cases h4 : 65536 < n
    · rw [if_pos h4, if_pos h4]
    · rw [if_neg h4] at h ⊢
      rw [if_neg h4]
      by_cases h5 : (r.drop k).length < n + 4
      · rw [if_pos h5] at h; simp at h
      · rw [if_neg h5, List.drop_append_of_le_length hkl, if_neg (by rw [List.length_append]; omega)]
        rw [List.take_append_of_le_length (by omega), List.drop_append_of_le_length (by omega), List.take_append_of_le_length (by simp at h5 ⊢; omega)]
/-- Neither a frame nor an error other than 'too short' is turned by what comes behind. -/
theorem fparse_more (s t : List UInt8) (h : (fparse s).2.2 ≠ 1) : fparse (s ++ t) = fparse s := by
  unfold fparse at h ⊢
  match s with
  | [] => simp [fmark] at h
  | [a] =>
    by_cases ha : a = 81
    · simp [fmark, ha] at h
    · simp [fmark, ha]
  | a :: b :: r =>
    have hm : fmark (a :: b :: r ++ t) = fmark (a :: b :: r) := by simp [fmark]
    rw [hm]
    by_cases h1 : fmark (a :: b :: r) ≠ 0
    · rw [if_pos h1, if_pos h1]
    · rw [if_neg h1] at h ⊢
      rw [if_neg h1]
      exact fbody_more a b r t h
/-- Turned within payload and sum, at bits within 32 in a row, it has another sum. -/
theorem fparse_turn (p r : List UInt8) (hp : p.length ≤ 65536) (first pattern i : Nat) (hi : i ≤ 32) (hf : first ≤ 8 * (p.length + 4)) (hpat : pattern < 4294967296) :
    fparse ([81, 70] ++ vput p.length ++ cturn (p ++ cput (csum p)) first pattern i ++ r) =
      if cturned (8 * (p.length + 4)) first pattern i then ([], 0, 6) else (p, fsize p.length, 0) := by
  have hl : (cturn (p ++ cput (csum p)) first pattern i).length = p.length + 4 := by rw [cturn_length]; simp [cput]
  generalize hq : cturn (p ++ cput (csum p)) first pattern i = q at hl
  have hb := burst p first pattern i hi hf hpat q hq.symm
  have e : [81, 70] ++ vput p.length ++ q ++ r = 81 :: 70 :: (vput p.length ++ (q ++ r)) := by simp
  rw [e]
  unfold fparse
  rw [if_neg (by simp [fmark])]
  have e2 : ∀ (k : Nat) (x : List UInt8), (81 :: 70 :: x).drop (2 + k) = x.drop k := fun k x => by rw [Nat.add_comm]; rfl
  unfold fbody
  simp only [List.drop_succ_cons, List.drop_zero, e2]
  rw [vget_put _ (by omega)]
  simp only [ne_eq, not_true_eq_false, if_false]
  have hd : (vput p.length ++ (q ++ r)).drop (vsz p.length) = q ++ r := by rw [← vput_length, List.drop_left]
  rw [hd, if_neg (by omega), if_neg (by rw [List.length_append]; omega)]
  rw [List.take_append_of_le_length (by omega), List.drop_append_of_le_length (by omega), List.take_append_of_le_length (by rw [List.length_drop]; omega), List.take_of_length_le (l := q.drop p.length) (by rw [List.length_drop]; omega)]
  cases hc : cturned (8 * (p.length + 4)) first pattern i
  · rw [hc] at hb
    have hz : q = p ++ cput (csum p) := by
      rw [← hq]
      clear hb hq hl hd e
      have : ∀ j, j ≤ i → cturned (8 * (p.length + 4)) first pattern j = false := by
        intro j hj
        have := (cturned_iff (8 * (p.length + 4)) first pattern i).1 hc
        rw [cturned_iff]
        have hd : 2 ^ cend (8 * (p.length + 4)) first j ∣ 2 ^ cend (8 * (p.length + 4)) first i := Nat.pow_dvd_pow 2 (by unfold cend; omega)
        rw [← Nat.mod_mod_of_dvd _ hd, this, Nat.zero_mod]
      clear hc hi
      induction i with
      | zero => rfl
      | succ i ih =>
        have h1 := this (i + 1) (by omega)
        rw [cturned] at h1
        rw [cturn, if_neg, ih (fun j hj => this j (by omega))]
        intro h2
        have : (p ++ cput (csum p)).length = p.length + 4 := by simp [cput]
        rw [this] at h2
        rw [if_pos h2] at h1
        cases h1
    rw [if_neg (by rw [hb.2 rfl]; simp)]
    rw [hz, List.take_left]
    rfl
  · rw [if_pos (by intro h; have := hb.1 h; rw [hc] at this; cases this)]
    rfl
end Go.PM
end

section
namespace Go.PM
/-! ### The number as the document has it: first its size, then its value -/
def rszL : Nat → List UInt8 → Nat
  | _, [] => 0
  | i, c :: r => if 10 ≤ i then 0 else if c.toNat < 128 then i + 1 else rszL (i + 1) r
def rsz (s : List UInt8) : Nat := rszL 0 s
def vacc (s : List UInt8) : Nat → Nat
  | 0 => 0
  | i + 1 => vacc s i + (s.getD i 0).toNat % 128 * 128 ^ i
def vref (s : List UInt8) : Nat × Nat × Nat :=
  if rsz s = 0 then (0, 0, if 10 ≤ s.length then 3 else 1)
  else if rsz s = 10 ∧ 1 < (s.getD 9 0).toNat then (0, 0, 3)
  else if 1 < rsz s ∧ (s.getD (rsz s - 1) 0).toNat = 0 then (0, 0, 2)
  else (vacc s (rsz s), rsz s, 0)
/-! ### All numbers, all frames -/
theorem vget_ok {s : List UInt8} (h : (vget s).2.2 = 0) : 1 ≤ (vget s).2.1 ∧ (vget s).2.1 ≤ s.length ∧ (vget s).2.1 ≤ 10 ∧ (vget s).1 < 18446744073709551616 ∧ vput (vget s).1 = s.take (vget s).2.1 := by
  rcases vget_cases s with ⟨e, he, h3⟩ | ⟨n, k, hg, hn, hk, h10, hkl, hput, hsz⟩
  · rw [he] at h; simp at h; omega
  · rw [hg]; exact ⟨hk, hkl, h10, hn, hput⟩
theorem vget_err {s : List UInt8} (h : (vget s).2.2 ≠ 0) : vget s = (0, 0, (vget s).2.2) := by
  rcases vget_cases s with ⟨e, he, h3⟩ | ⟨n, k, hg, _⟩
  · rw [he]
  · rw [hg] at h; simp at h
def vall (s : List UInt8) : List Nat × Nat :=
  if s.length = 0 then ([], 0)
  else if _h : (vget s).2.2 = 0 then
    let x := vall (s.drop (vget s).2.1)
    if x.2 = 0 then ((vget s).1 :: x.1, 0) else ([], x.2)
  else ([], (vget s).2.2)
termination_by s.length
decreasing_by
  have := vget_ok _h
  simp; omega
theorem fparse_ok {s : List UInt8} (h : (fparse s).2.2 = 0) : 7 ≤ (fparse s).2.1 ∧ (fparse s).2.1 ≤ s.length ∧ (fparse s).1.length ≤ 65536 ∧ (fparse s).2.1 = fsize (fparse s).1.length ∧ s.take (fparse s).2.1 = ftext (fparse s).1 := by
  rcases fparse_cases s with ⟨e, he, h3⟩ | ⟨p, r, hs, hp, he⟩
  · rw [he] at h; simp at h; omega
  · rw [he]
    have := vsz_pos p.length
    refine ⟨by simp [fsize]; omega, ?_, hp, rfl, ?_⟩
    · rw [hs, List.length_append, ftext_length]; simp
    · rw [hs, ← ftext_length]; simp
def fall (s : List UInt8) : List (List UInt8) × Nat :=
  if s.length = 0 then ([], 0)
  else if _h : (fparse s).2.2 = 0 then
    let x := fall (s.drop (fparse s).2.1)
    if x.2 = 0 then ((fparse s).1 :: x.1, 0) else ([], x.2)
  else ([], (fparse s).2.2)
termination_by s.length
decreasing_by
  have := fparse_ok _h
  simp; omega
/-- Of all bytes of a stream: the payloads, the error, what waits. -/
def fof (s : List UInt8) : List (List UInt8) × Nat × List UInt8 :=
  if (fparse s).2.2 = 1 then ([], 0, s)
  else if _h : (fparse s).2.2 = 0 then
    let x := fof (s.drop (fparse s).2.1)
    ((fparse s).1 :: x.1, x.2)
  else ([], (fparse s).2.2, [])
termination_by s.length
decreasing_by
  have := fparse_ok _h
  simp; omega
theorem fof_short {s : List UInt8} (h : (fparse s).2.2 = 1) : fof s = ([], 0, s) := by rw [fof, if_pos h]
theorem fof_ok {s : List UInt8} (h : (fparse s).2.2 = 0) : fof s = ((fparse s).1 :: (fof (s.drop (fparse s).2.1)).1, (fof (s.drop (fparse s).2.1)).2) := by
  rw [fof, if_neg (by omega), dif_pos h]
theorem fof_bad {s : List UInt8} (h : (fparse s).2.2 ≠ 0) (h1 : (fparse s).2.2 ≠ 1) : fof s = ([], (fparse s).2.2, []) := by
  rw [fof, if_neg h1, dif_neg h]
theorem fof_ind {P : List UInt8 → Prop} (h1 : ∀ s, (fparse s).2.2 = 1 → P s) (h0 : ∀ s, (fparse s).2.2 = 0 → P (s.drop (fparse s).2.1) → P s)
    (hb : ∀ s, (fparse s).2.2 ≠ 0 → (fparse s).2.2 ≠ 1 → P s) : ∀ s, P s := by
  intro s
  induction hn : s.length using Nat.strongRecOn generalizing s with
  | _ n ih =>
    by_cases e1 : (fparse s).2.2 = 1
    · exact h1 s e1
    by_cases e0 : (fparse s).2.2 = 0
    · refine h0 s e0 (ih _ ?_ _ rfl)
      have := fparse_ok e0
      simp; omega
    · exact hb s e0 e1
/-- What waits is short, or nothing behind an error. -/
theorem fof_rest : ∀ s, (fof s).2.1 = 0 ∧ (fparse (fof s).2.2).2.2 = 1 ∨ (fof s).2.1 ≠ 0 ∧ (fof s).2.1 ≠ 1 ∧ (fof s).2.2 = [] := by
  refine fof_ind ?_ ?_ ?_
  · intro s h; rw [fof_short h]; exact .inl ⟨rfl, h⟩
  · intro s h ih; rw [fof_ok h]; exact ih
  · intro s h h1; rw [fof_bad h h1]; exact .inr ⟨h, h1, rfl⟩
/-- However a stream is cut. -/
theorem fof_append (t : List UInt8) : ∀ s, fof (s ++ t) =
    if (fof s).2.1 = 0 then ((fof s).1 ++ (fof ((fof s).2.2 ++ t)).1, (fof ((fof s).2.2 ++ t)).2) else fof s := by
  refine fof_ind ?_ ?_ ?_
  · intro s h; rw [fof_short h]; simp
  · intro s h ih
    have hm := fparse_more s t (by omega)
    have hk := fparse_ok h
    have e : fof (s ++ t) = ((fparse s).1 :: (fof (s.drop (fparse s).2.1 ++ t)).1, (fof (s.drop (fparse s).2.1 ++ t)).2) := by
      rw [fof_ok (by rw [hm]; exact h), hm, List.drop_append_of_le_length hk.2.1]
    rw [e, fof_ok h, ih]
    split <;> rfl
  · intro s h h1
    have hm := fparse_more s t h1
    rw [fof_bad (by rw [hm]; exact h) (by rw [hm]; exact h1), hm, fof_bad h h1]
    rw [if_neg h]
/-! ### How many bytes are wanted -/
def fneed (s : List UInt8) : Nat := if s.length < 2 then 0 else if (vget (s.drop 2)).2.2 = 0 then fsize (vget (s.drop 2)).1 else 0
theorem fneed_ok (s b : List UInt8) (h : (fparse s).2.2 = 1) (hl : (s ++ b).length < fneed s) : (fparse (s ++ b)).2.2 = 1 := by
  unfold fneed at hl
  split at hl
  · simp at hl
  split at hl
  · rename_i h2 h3
    match s, h2 with
    | x :: y :: r, _ =>
      have e2 : ∀ (k : Nat) (z : List UInt8), (x :: y :: z).drop (2 + k) = z.drop k := fun k z => by rw [Nat.add_comm]; rfl
      simp only [List.drop_succ_cons, List.drop_zero] at hl h3
      have hm : fmark (x :: y :: r ++ b) = fmark (x :: y :: r) := by simp [fmark]
      unfold fparse at h ⊢
      rw [hm]
      by_cases hmk : fmark (x :: y :: r) ≠ 0
      · rw [if_pos hmk] at h ⊢; exact h
      · rw [if_neg hmk] at h ⊢
        unfold fbody at h ⊢
        simp only [List.cons_append, List.drop_succ_cons, List.drop_zero, e2] at h ⊢
        have hv := vget_more r b (by omega)
        rw [hv]
        rw [if_neg (by omega)] at h ⊢
        by_cases h4 : 65536 < (vget r).1
        · rw [if_pos h4] at h; simp at h
        · rw [if_neg h4] at h ⊢
          rcases vget_cases r with ⟨e, he, h5⟩ | ⟨n, k, hg, hn, hk, h10, hkl, hput, hsz⟩
          · rw [he] at h3; simp at h3; omega
          · rw [hg] at h hl ⊢
            rw [if_pos]
            unfold fsize at hl
            simp only [List.length_drop, List.length_append, List.length_cons] at hl ⊢
            omega
  · simp at hl
end Go.PM
end

section
namespace Go.PM
open Go.Lib (compareBytes)
theorem u8_tri (a b : UInt8) : a < b ∨ b < a ∨ a = b := by
  rw [UInt8.lt_iff_toNat_lt, UInt8.lt_iff_toNat_lt, ← UInt8.toNat_inj]; omega
theorem u8_asym {a b : UInt8} (h : a < b) : ¬ b < a := by
  rw [UInt8.lt_iff_toNat_lt] at *; omega
theorem u8_irr (a : UInt8) : ¬ a < a := by rw [UInt8.lt_iff_toNat_lt]; omega
theorem u8_trans {a b c : UInt8} (h : a < b) (k : b < c) : a < c := by
  rw [UInt8.lt_iff_toNat_lt] at *; omega
theorem cmpB_self : ∀ a : List UInt8, compareBytes a a = 0
  | [] => rfl
  | x :: r => by rw [compareBytes, if_neg (u8_irr x), if_neg (u8_irr x), cmpB_self r]
theorem cmpB_eq : ∀ a b : List UInt8, compareBytes a b = 0 → a = b
  | [], [], _ => rfl
  | [], _ :: _, h => by simp [compareBytes] at h
  | _ :: _, [], h => by simp [compareBytes] at h
  | x :: r, y :: s, h => by
    rw [compareBytes] at h
    rcases u8_tri x y with k | k | k
    · rw [if_pos k] at h; omega
    · rw [if_neg (u8_asym k), if_pos k] at h; omega
    · subst k
      rw [if_neg (u8_irr x), if_neg (u8_irr x)] at h
      rw [cmpB_eq r s h]
theorem cmpB_iff (a b : List UInt8) : compareBytes a b = 0 ↔ a = b := ⟨cmpB_eq a b, fun h => by rw [h, cmpB_self]⟩
theorem cmpB_neg : ∀ a b : List UInt8, compareBytes b a = - compareBytes a b
  | [], [] => rfl
  | [], _ :: _ => rfl
  | _ :: _, [] => rfl
  | x :: r, y :: s => by
    rw [compareBytes, compareBytes]
    rcases u8_tri x y with k | k | k
    · rw [if_pos k, if_neg (u8_asym k), if_pos k]; rfl
    · rw [if_pos k, if_neg (u8_asym k), if_pos k]
    · subst k
      rw [if_neg (u8_irr x), if_neg (u8_irr x), if_neg (u8_irr x), if_neg (u8_irr x), cmpB_neg r s]
theorem cmpB_range : ∀ a b : List UInt8, compareBytes a b = -1 ∨ compareBytes a b = 0 ∨ compareBytes a b = 1
  | [], [] => by simp [compareBytes]
  | [], _ :: _ => by simp [compareBytes]
  | _ :: _, [] => by simp [compareBytes]
  | x :: r, y :: s => by
    rw [compareBytes]
    have := cmpB_range r s
    split
    · simp
    · split
      · simp
      · exact this
theorem cmpB_trans : ∀ a b c : List UInt8, compareBytes a b < 0 → compareBytes b c < 0 → compareBytes a c < 0
  | [], [], _, h, _ => by simp [compareBytes] at h
  | [], _ :: _, [], _, k => by simp [compareBytes] at k
  | [], _ :: _, _ :: _, _, _ => by simp [compareBytes]
  | _ :: _, [], _, h, _ => by simp [compareBytes] at h
  | _ :: _, _ :: _, [], _, k => by simp [compareBytes] at k
  | x :: r, y :: s, z :: t, h, k => by
    rw [compareBytes] at h k ⊢
    rcases u8_tri x y with xy | xy | xy
    · rcases u8_tri y z with yz | yz | yz
      · rw [if_pos (u8_trans xy yz)]; omega
      · rw [if_neg (u8_asym yz), if_pos yz] at k; omega
      · subst yz; rw [if_pos xy]; omega
    · rw [if_neg (u8_asym xy), if_pos xy] at h; omega
    · subst xy
      rw [if_neg (u8_irr x), if_neg (u8_irr x)] at h
      rcases u8_tri x z with yz | yz | yz
      · rw [if_pos yz]; omega
      · rw [if_neg (u8_asym yz), if_pos yz] at k; omega
      · subst yz
        rw [if_neg (u8_irr x), if_neg (u8_irr x)] at k
        rw [if_neg (u8_irr x), if_neg (u8_irr x)]
        exact cmpB_trans r s t h k
theorem less_cmp : ∀ a b : List UInt8, Op.bytesLess a b = decide (compareBytes a b < 0)
  | [], [] => by simp [Op.bytesLess, compareBytes]
  | _ :: _, [] => by simp [Op.bytesLess, compareBytes]
  | [], _ :: _ => by simp [Op.bytesLess, compareBytes]
  | x :: r, y :: s => by
    rw [Op.bytesLess, compareBytes, less_cmp r s]
    rcases u8_tri x y with k | k | k
    · simp [k]
    · have h1 := u8_asym k
      have h2 : x ≠ y := fun e => by subst e; exact u8_irr x k
      simp [h1, h2, k]
    · subst k
      simp
/-- The order of entries: by keys, then by values. -/
def ecmp (ak av bk bv : List UInt8) : Int := if compareBytes ak bk ≠ 0 then compareBytes ak bk else compareBytes av bv
theorem ecmp_neg (ak av bk bv : List UInt8) : ecmp bk bv ak av = - ecmp ak av bk bv := by
  unfold ecmp
  rw [cmpB_neg ak bk, cmpB_neg av bv]
  by_cases h : compareBytes ak bk = 0
  · simp [h]
  · rw [if_pos (by omega), if_pos h]
theorem ecmp_iff (ak av bk bv : List UInt8) : ecmp ak av bk bv = 0 ↔ ak = bk ∧ av = bv := by
  unfold ecmp
  by_cases h : compareBytes ak bk = 0
  · rw [if_neg (by omega), cmpB_iff]
    have := (cmpB_iff ak bk).1 h
    simp [this]
  · rw [if_pos h]
    have : ak ≠ bk := fun e => h ((cmpB_iff ak bk).2 e)
    simp [h, this]
theorem ecmp_trans (ak av bk bv ck cv : List UInt8) (h : ecmp ak av bk bv < 0) (k : ecmp bk bv ck cv < 0) : ecmp ak av ck cv < 0 := by
  unfold ecmp at *
  by_cases h1 : compareBytes ak bk = 0
  · have e1 := (cmpB_iff ak bk).1 h1
    subst e1
    rw [if_neg (by omega)] at h
    by_cases h2 : compareBytes ak ck = 0
    · rw [if_neg (by omega)] at k ⊢
      exact cmpB_trans _ _ _ h k
    · rw [if_pos h2] at k ⊢; exact k
  · rw [if_pos h1] at h
    by_cases h2 : compareBytes bk ck = 0
    · have e2 := (cmpB_iff bk ck).1 h2
      subst e2
      rw [if_pos h1]; exact h
    · rw [if_pos h2] at k
      have := cmpB_trans _ _ _ h k
      rw [if_pos (by omega)]; exact this
/-- The document's: a text that is less. -/
def bless : List UInt8 → List UInt8 → Bool
  | [], [] => false
  | [], _ :: _ => true
  | _ :: _, [] => false
  | a :: x, b :: y => if a ≠ b then decide (a.toNat < b.toNat) else bless x y
/-- An entry as it is written. -/
def eput (k v : List UInt8) : List UInt8 := vput k.length ++ (k ++ (vput v.length ++ v))
/-- A text with its length ahead: the text, how many bytes it takes, the code. -/
def etx (s : List UInt8) : List UInt8 × Nat × Nat :=
  if (vget s).2.2 ≠ 0 then ([], 0, (vget s).2.2) else if s.length - (vget s).2.1 < (vget s).1 then ([], 0, 1) else ((s.drop (vget s).2.1).take (vget s).1, (vget s).2.1 + (vget s).1, 0)
theorem etx_ok {s : List UInt8} (h : (etx s).2.2 = 0) : (etx s).2.1 ≤ s.length ∧ 1 ≤ (etx s).2.1 ∧ s.take (etx s).2.1 = vput (etx s).1.length ++ (etx s).1 ∧ (etx s).1.length < 18446744073709551616 := by
  unfold etx at *
  split at h
  · rename_i k; exact absurd h k
  · rename_i k
    split at h
    · exact absurd h (by simp)
    · rename_i k2
      obtain ⟨h1, h2, h3, h4, h5⟩ := vget_ok (s := s) (by omega)
      rw [if_neg k, if_neg k2]
      simp only
      have hl : ((s.drop (vget s).2.1).take (vget s).1).length = (vget s).1 := by rw [List.length_take, List.length_drop]; omega
      refine ⟨by omega, by omega, ?_, by omega⟩
      rw [hl, h5, List.take_add]
theorem etx_put (k r : List UInt8) (hk : k.length < 18446744073709551616) : etx (vput k.length ++ (k ++ r)) = (k, (vput k.length).length + k.length, 0) := by
  have e := vget_put k.length hk (k ++ r)
  unfold etx
  rw [e]
  simp only
  rw [if_neg (by simp), ← vput_length, if_neg (by simp only [List.length_append]; omega), List.drop_left, List.take_left' rfl]
/-- The entry that a text begins with, if chk lets it be: it, how many bytes it takes, the code. -/
def enx (chk : List UInt8 → List UInt8 → Int) (s : List UInt8) : (List UInt8 × List UInt8) × Nat × Int :=
  if (etx s).2.2 ≠ 0 then (([], []), 0, ((etx s).2.2 : Int))
  else if (etx (s.drop (etx s).2.1)).2.2 ≠ 0 then (([], []), 0, ((etx (s.drop (etx s).2.1)).2.2 : Int))
  else if chk (etx s).1 (etx (s.drop (etx s).2.1)).1 ≠ 0 then (([], []), 0, chk (etx s).1 (etx (s.drop (etx s).2.1)).1)
  else (((etx s).1, (etx (s.drop (etx s).2.1)).1), (etx s).2.1 + (etx (s.drop (etx s).2.1)).2.1, 0)
theorem enx_ok {chk : List UInt8 → List UInt8 → Int} {s : List UInt8} (h : (enx chk s).2.2 = 0) :
    (enx chk s).2.1 ≤ s.length ∧ 1 ≤ (enx chk s).2.1 ∧ s.take (enx chk s).2.1 = eput (enx chk s).1.1 (enx chk s).1.2 ∧ chk (enx chk s).1.1 (enx chk s).1.2 = 0 := by
  unfold enx at *
  split at h
  · rename_i k; simp at h; exact absurd h k
  · rename_i k1
    rw [if_neg k1]
    split at h
    · rename_i k; simp at h; exact absurd h k
    · rename_i k2
      rw [if_neg k2]
      split at h
      · rename_i k; exact absurd h k
      · rename_i k3
        rw [if_neg k3]
        obtain ⟨a1, a2, a3, a4⟩ := etx_ok (s := s) (by omega)
        obtain ⟨b1, b2, b3, b4⟩ := etx_ok (s := s.drop (etx s).2.1) (by omega)
        rw [List.length_drop] at b1
        simp only
        refine ⟨by omega, by omega, ?_, by omega⟩
        rw [List.take_add, a3, b3]
        simp [eput]
theorem eput_length (k v : List UInt8) : (eput k v).length = (vput k.length).length + k.length + ((vput v.length).length + v.length) := by
  simp [eput]; omega
theorem enx_put (chk : List UInt8 → List UInt8 → Int) (k v r : List UInt8) (hk : k.length < 18446744073709551616) (hv : v.length < 18446744073709551616) :
    enx chk (eput k v ++ r) = if chk k v ≠ 0 then (([], []), 0, chk k v) else ((k, v), (eput k v).length, 0) := by
  have e1 : etx (eput k v ++ r) = (k, (vput k.length).length + k.length, 0) := by
    have := etx_put k (vput v.length ++ v ++ r) hk
    simpa [eput] using this
  have e2 : (eput k v ++ r).drop ((vput k.length).length + k.length) = vput v.length ++ (v ++ r) := by
    have : eput k v ++ r = (vput k.length ++ k) ++ (vput v.length ++ (v ++ r)) := by simp [eput]
    rw [this]
    exact List.drop_left' (by simp)
  have e3 := etx_put v r hv
  unfold enx
  rw [e1]
  simp only
  rw [if_neg (by simp), e2, e3]
  simp only
  rw [if_neg (by simp), eput_length]
end Go.PM
end
