/-
  Plain laws of layer 2 (numbers by seven bits), on lists of bytes and natural numbers; no program in sight.
-/
namespace Go.PM

/-- Induction by sevens of bits. -/
theorem div_ind {P : Nat → Prop} (h0 : ∀ n, n < 128 → P n) (h1 : ∀ n, 128 ≤ n → P (n / 128) → P n) : ∀ n, P n := by
  intro n
  induction n using Nat.strongRecOn with
  | _ n ih =>
    by_cases h : n < 128
    · exact h0 n h
    · exact h1 n (by omega) (ih (n / 128) (by omega))

/-- A number as it is written. -/
def vput (n : Nat) : List UInt8 := if n < 128 then [UInt8.ofNat n] else UInt8.ofNat (n % 128 + 128) :: vput (n / 128)
termination_by n
decreasing_by omega

theorem vput_small {n : Nat} (h : n < 128) : vput n = [UInt8.ofNat n] := by rw [vput, if_pos h]
theorem vput_big {n : Nat} (h : 128 ≤ n) : vput n = UInt8.ofNat (n % 128 + 128) :: vput (n / 128) := by rw [vput, if_neg (by omega)]

/-- In how many bytes. -/
def vsz (n : Nat) : Nat := if n < 128 then 1 else 1 + vsz (n / 128)
termination_by n
decreasing_by omega
theorem vsz_small {n : Nat} (h : n < 128) : vsz n = 1 := by rw [vsz, if_pos h]
theorem vsz_big {n : Nat} (h : 128 ≤ n) : vsz n = 1 + vsz (n / 128) := by rw [vsz, if_neg (by omega)]

theorem vsz_pos (n : Nat) : 1 ≤ vsz n := by
  by_cases h : n < 128
  · rw [vsz_small h]; omega
  · rw [vsz_big (by omega)]; omega

theorem vput_length : ∀ (n : Nat), (vput n).length = vsz n := by
  apply div_ind
  · intro n h; rw [vput_small h, vsz_small h]; rfl
  · intro n h ih; rw [vput_big h, vsz_big h, List.length_cons, ih]; omega

theorem vsz_le : ∀ (k n : Nat), n < 128 ^ (k + 1) → vsz n ≤ k + 1
  | 0, n, h => by
    have : n < 128 := by simpa using h
    rw [vsz_small this]; omega
  | k + 1, n, h => by
    by_cases h1 : n < 128
    · rw [vsz_small h1]; omega
    · rw [vsz_big (by omega)]
      have h2 : n / 128 < 128 ^ (k + 1) := by
        rw [Nat.div_lt_iff_lt_mul (by omega)]
        rw [Nat.pow_succ] at h
        exact h
      have := vsz_le k (n / 128) h2
      omega
theorem vsz_le10 {n : Nat} (h : n < 18446744073709551616) : vsz n ≤ 10 :=
  vsz_le 9 n (Nat.lt_of_lt_of_le h (by decide))

/-- The bytes that the loop lays down, each with its bit. -/
def vraw : Nat → Nat → List UInt8
  | 0, _ => []
  | k + 1, n => UInt8.ofNat (n % 128 + 128) :: vraw k (n / 128)
theorem vraw_length : ∀ (k n : Nat), (vraw k n).length = k
  | 0, _ => rfl
  | k + 1, n => by simp [vraw, vraw_length k]
theorem vraw_snoc : ∀ (k n : Nat), vraw (k + 1) n = vraw k n ++ [UInt8.ofNat (n / 128 ^ k % 128 + 128)]
  | 0, n => by simp [vraw]
  | k + 1, n => by
    rw [vraw, vraw_snoc k (n / 128), vraw, List.cons_append]
    rw [Nat.div_div_eq_div_mul, Nat.pow_succ, Nat.mul_comm]
theorem vput_raw : ∀ (n : Nat), vput n = vraw (vsz n - 1) n ++ [UInt8.ofNat (n / 128 ^ (vsz n - 1))] := by
  apply div_ind
  · intro n h; rw [vput_small h, vsz_small h]; simp [vraw]
  · intro n h ih
    have hp := vsz_pos (n / 128)
    have e : vsz n - 1 = (vsz (n / 128) - 1) + 1 := by rw [vsz_big h]; omega
    rw [vput_big h, e, vraw, ih, List.cons_append]
    rw [Nat.div_div_eq_div_mul, Nat.pow_succ, Nat.mul_comm]
theorem vtop_lt : ∀ (n : Nat), n / 128 ^ (vsz n - 1) < 128 := by
  apply div_ind
  · intro n h; rw [vsz_small h]; simpa using h
  · intro n h ih
    have hp := vsz_pos (n / 128)
    have e : vsz n - 1 = (vsz (n / 128) - 1) + 1 := by rw [vsz_big h]; omega
    rw [e, Nat.pow_succ, Nat.mul_comm, ← Nat.div_div_eq_div_mul]
    exact ih

/-- The number that a text begins with: the number, in how many bytes, the code. i bytes, of the value acc, have gone by. -/
def vgetL : Nat → Nat → List UInt8 → Nat × Nat × Nat
  | i, _, [] => if 10 ≤ i then (0, 0, 3) else (0, 0, 1)
  | i, acc, c :: r =>
    if 10 ≤ i then (0, 0, 3)
    else if 128 ≤ c.toNat then vgetL (i + 1) (acc + (c.toNat % 128) * 128 ^ i) r
    else if i = 9 ∧ 1 < c.toNat then (0, 0, 3)
    else if 0 < i ∧ c.toNat = 0 then (0, 0, 2)
    else (acc + c.toNat * 128 ^ i, i + 1, 0)
def vget (s : List UInt8) : Nat × Nat × Nat := vgetL 0 0 s

theorem toNat_lo {n : Nat} (h : n < 256) : (UInt8.ofNat n).toNat = n := by
  simp; omega

/-- What is written is read, whatever stands behind it. -/
theorem vgetL_put (r : List UInt8) : ∀ (n i acc : Nat), i + vsz n ≤ 10 → (i + vsz n = 10 → n / 128 ^ (vsz n - 1) ≤ 1) → (0 < i → 0 < n) →
    vgetL i acc (vput n ++ r) = (acc + n * 128 ^ i, i + vsz n, 0) := by
  refine div_ind ?_ ?_
  · intro n h i acc h1 h2 h3
    rw [vsz_small h] at h1 h2 ⊢
    rw [vput_small h, List.cons_append, vgetL, toNat_lo (by omega), if_neg (by omega), if_neg (by omega), if_neg, if_neg]
    · omega
    · rintro ⟨hi, hn⟩
      have : n ≤ 1 := by simpa using h2 (by omega)
      omega
  · intro n h ih i acc h1 h2 h3
    have hp := vsz_pos (n / 128)
    rw [vsz_big h] at h1 h2 ⊢
    rw [vput_big h, List.cons_append, vgetL, toNat_lo (by omega), if_neg (by omega), if_pos (by omega), ih (i + 1) _ (by omega) ?_ (by omega)]
    · have e : (n % 128 + 128) % 128 = n % 128 := by omega
      rw [e, Nat.pow_succ]
      have hd : n = n % 128 + 128 * (n / 128) := by omega
      refine Prod.ext ?_ (Prod.ext ?_ rfl)
      · show acc + n % 128 * 128 ^ i + n / 128 * (128 ^ i * 128) = acc + n * 128 ^ i
        have : n * 128 ^ i = n % 128 * 128 ^ i + n / 128 * (128 ^ i * 128) := by
          conv => lhs; rw [hd]
          rw [Nat.add_mul, Nat.mul_comm (128 ^ i) 128, ← Nat.mul_assoc, Nat.mul_comm 128 (n / 128)]
        omega
      · show i + 1 + vsz (n / 128) = i + (1 + vsz (n / 128)); omega
    · intro h4
      have := h2 (by omega)
      have e : 1 + vsz (n / 128) - 1 = (vsz (n / 128) - 1) + 1 := by omega
      rw [e, Nat.pow_succ, Nat.mul_comm, ← Nat.div_div_eq_div_mul] at this
      exact this

theorem vtop10 {n : Nat} (h : n < 18446744073709551616) (e : vsz n = 10) : n / 128 ^ (vsz n - 1) ≤ 1 := by
  rw [e]
  have : n / 128 ^ 9 < 2 := by
    rw [Nat.div_lt_iff_lt_mul (by decide)]
    exact Nat.lt_of_lt_of_le h (by decide)
  show n / 128 ^ 9 ≤ 1
  omega

theorem vget_put (n : Nat) (h : n < 18446744073709551616) (r : List UInt8) : vget (vput n ++ r) = (n, vsz n, 0) := by
  unfold vget
  have h10 := vsz_le10 h
  rw [vgetL_put r n 0 0 (by omega) (fun e => vtop10 h (by omega)) (by omega)]
  simp

theorem vget_put' (n : Nat) (h : n < 18446744073709551616) : vget (vput n) = (n, vsz n, 0) := by
  have := vget_put n h []
  rwa [List.append_nil] at this

/-- Cut it is too short. -/
theorem vgetL_cut : ∀ (n i acc j : Nat), i + vsz n ≤ 10 → j < vsz n → vgetL i acc ((vput n).take j) = (0, 0, 1) := by
  refine div_ind ?_ ?_
  · intro n h i acc j h1 h2
    rw [vsz_small h] at h1 h2
    obtain rfl : j = 0 := by omega
    simp only [List.take_zero, vgetL]
    rw [if_neg (by omega)]
  · intro n h ih i acc j h1 h2
    rw [vsz_big h] at h1 h2
    cases j with
    | zero =>
      simp only [List.take_zero, vgetL]
      rw [if_neg (by omega)]
    | succ j =>
      rw [vput_big h, List.take_succ_cons, vgetL, toNat_lo (by omega), if_neg (by omega), if_pos (by omega)]
      exact ih _ _ _ (by omega) (by omega)
theorem vget_cut (n : Nat) (h : n < 18446744073709551616) (j : Nat) (hj : j < vsz n) : vget ((vput n).take j) = (0, 0, 1) :=
  vgetL_cut n 0 0 j (by have := vsz_le10 h; omega) hj

theorem pow_lt {i j : Nat} (h : i ≤ j) : 128 ^ i ≤ 128 ^ j := Nat.pow_le_pow_right (by omega) h

/-- What a reading is. -/
theorem vgetL_cases : ∀ (s : List UInt8) (i acc : Nat), acc < 128 ^ i → i ≤ 10 →
    (∃ e, vgetL i acc s = (0, 0, e) ∧ (e = 1 ∨ e = 2 ∨ e = 3)) ∨
    ∃ n k, vgetL i acc s = (acc + n * 128 ^ i, i + k, 0) ∧ 1 ≤ k ∧ i + k ≤ 10 ∧ k ≤ s.length ∧ vput n = s.take k ∧ vsz n = k ∧ (i + k = 10 → n / 128 ^ (k - 1) ≤ 1) ∧ (0 < i → 0 < n)
  | [], i, acc, _, _ => .inl (by simp only [vgetL]; split <;> simp)
  | c :: r, i, acc, ha, hi => by
    rw [vgetL]
    by_cases h0 : 10 ≤ i
    · rw [if_pos h0]; exact .inl ⟨3, rfl, by omega⟩
    rw [if_neg h0]
    by_cases h1 : 128 ≤ c.toNat
    · rw [if_pos h1]
      have hc : c.toNat < 256 := c.toNat_lt
      have hlt : acc + c.toNat % 128 * 128 ^ i < 128 ^ (i + 1) := by
        have : c.toNat % 128 * 128 ^ i ≤ 127 * 128 ^ i := Nat.mul_le_mul_right _ (by omega)
        rw [Nat.pow_succ]; omega
      rcases vgetL_cases r (i + 1) _ hlt (by omega) with h | ⟨n, k, h, k1, k2, k3, k4, k5, k6, k7⟩
      · exact .inl h
      · have hn : 0 < n := k7 (by omega)
        have d1 : (c.toNat % 128 + 128 * n) / 128 = n := by omega
        have d2 : (c.toNat % 128 + 128 * n) % 128 = c.toNat % 128 := by omega
        refine .inr ⟨c.toNat % 128 + 128 * n, k + 1, ?_, by omega, by omega, by simp; omega, ?_, ?_, ?_, by omega⟩
        · rw [h, Nat.pow_succ, Nat.add_mul]
          refine Prod.ext ?_ (Prod.ext ?_ rfl)
          · show acc + c.toNat % 128 * 128 ^ i + n * (128 ^ i * 128) = acc + (c.toNat % 128 * 128 ^ i + 128 * n * 128 ^ i)
            have : n * (128 ^ i * 128) = 128 * n * 128 ^ i := by rw [Nat.mul_comm (128 ^ i) 128, ← Nat.mul_assoc, Nat.mul_comm n 128]
            omega
          · show i + 1 + k = i + (k + 1); omega
        · rw [vput_big (by omega), d1, d2, List.take_succ_cons, k4]
          congr 1
          have : c.toNat % 128 + 128 = c.toNat := by omega
          rw [this]; simp
        · rw [vsz_big (by omega), d1, k5]; omega
        · intro he
          have e : k + 1 - 1 = (k - 1) + 1 := by omega
          rw [e, Nat.pow_succ, Nat.mul_comm (128 ^ (k - 1)) 128, ← Nat.div_div_eq_div_mul, d1]
          exact k6 (by omega)
    rw [if_neg h1]
    by_cases h2 : i = 9 ∧ 1 < c.toNat
    · rw [if_pos h2]; exact .inl ⟨3, rfl, by omega⟩
    rw [if_neg h2]
    by_cases h3 : 0 < i ∧ c.toNat = 0
    · rw [if_pos h3]; exact .inl ⟨2, rfl, by omega⟩
    rw [if_neg h3]
    refine .inr ⟨c.toNat, 1, rfl, by omega, by omega, by simp, ?_, vsz_small (by omega), ?_, by omega⟩
    · rw [vput_small (by omega)]; simp
    · intro he
      simp only [Nat.sub_self, Nat.pow_zero, Nat.div_one]
      omega

theorem vget_cases (s : List UInt8) :
    (∃ e, vget s = (0, 0, e) ∧ (e = 1 ∨ e = 2 ∨ e = 3)) ∨
    ∃ n k, vget s = (n, k, 0) ∧ n < 18446744073709551616 ∧ 1 ≤ k ∧ k ≤ 10 ∧ k ≤ s.length ∧ vput n = s.take k ∧ vsz n = k := by
  rcases vgetL_cases s 0 0 (by simp) (by omega) with h | ⟨n, k, h, k1, k2, k3, k4, k5, k6, _⟩
  · exact .inl h
  · refine .inr ⟨n, k, by unfold vget; rw [h]; simp, ?_, k1, by omega, k3, k4, k5⟩
    have ht := vtop_lt n
    rw [k5] at ht
    by_cases h10 : k = 10
    · subst h10
      have : n / 128 ^ 9 < 2 := by have := k6 (by omega); simp only [Nat.add_one_sub_one] at this; omega
      rw [Nat.div_lt_iff_lt_mul (by decide)] at this
      exact Nat.lt_of_lt_of_le this (by decide)
    · rw [Nat.div_lt_iff_lt_mul (Nat.pow_pos (by omega))] at ht
      have h2 : 128 * 128 ^ (k - 1) ≤ 128 ^ 9 := by
        rw [Nat.mul_comm, ← Nat.pow_succ]; exact pow_lt (by omega)
      have h3 : 128 ^ 9 < 18446744073709551616 := by decide
      omega
end Go.PM
