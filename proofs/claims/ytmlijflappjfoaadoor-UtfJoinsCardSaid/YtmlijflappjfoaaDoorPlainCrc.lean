/-
  Plain laws of layer 4 (a sum of 32 bits), on natural numbers and lists of bytes; no program in sight.
-/
namespace Go.PM

/-- One bit. -/
def cstep (r : Nat) : Nat := if r % 2 = 1 then r / 2 ^^^ 3988292384 else r / 2
/-- So many bits. -/
def csteps : Nat → Nat → Nat
  | 0, r => r
  | k + 1, r => csteps k (cstep r)

theorem xor_div2 (a b : Nat) : (a ^^^ b) / 2 = a / 2 ^^^ b / 2 := by
  have := Nat.shiftRight_xor_distrib (a := a) (b := b) (i := 1)
  simpa [Nat.shiftRight_succ] using this
theorem xor_mod2 (a b : Nat) : (a ^^^ b) % 2 = (a % 2 + b % 2) % 2 := by
  have h : ∀ x : Nat, x % 2 = (x.testBit 0).toNat := fun x => by
    rw [Nat.testBit_zero]
    rcases Nat.mod_two_eq_zero_or_one x with e | e <;> simp [e]
  rw [h (a ^^^ b), h a, h b, Nat.testBit_xor]
  cases a.testBit 0 <;> cases b.testBit 0 <;> rfl

theorem cstep_xor (a b : Nat) : cstep (a ^^^ b) = cstep a ^^^ cstep b := by
  unfold cstep
  rw [xor_div2, xor_mod2]
  have ha : a % 2 = 0 ∨ a % 2 = 1 := by omega
  have hb : b % 2 = 0 ∨ b % 2 = 1 := by omega
  rcases ha with ha | ha <;> rcases hb with hb | hb <;> simp [ha, hb]
  · rw [Nat.xor_assoc]
  · rw [Nat.xor_assoc, Nat.xor_assoc, Nat.xor_comm 3988292384]
  · rw [Nat.xor_assoc, Nat.xor_comm 3988292384, Nat.xor_assoc, Nat.xor_self, Nat.xor_zero]
theorem cstep_zero : cstep 0 = 0 := by decide
theorem csteps_xor : ∀ (k a b : Nat), csteps k (a ^^^ b) = csteps k a ^^^ csteps k b
  | 0, _, _ => rfl
  | k + 1, a, b => by rw [csteps, cstep_xor, csteps_xor k]; rfl
theorem csteps_zero : ∀ k, csteps k 0 = 0
  | 0 => rfl
  | k + 1 => by rw [csteps, cstep_zero, csteps_zero k]
theorem csteps_add : ∀ (j k r : Nat), csteps (j + k) r = csteps k (csteps j r)
  | 0, k, r => by simp [csteps]
  | j + 1, k, r => by rw [show j + 1 + k = (j + k) + 1 by omega, csteps, csteps_add j k]; rfl
theorem cstep_lt {r : Nat} (h : r < 4294967296) : cstep r < 4294967296 := by
  unfold cstep
  split
  · exact Nat.xor_lt_two_pow (n := 32) (by omega) (by omega)
  · omega
theorem csteps_lt : ∀ (k : Nat) {r : Nat}, r < 4294967296 → csteps k r < 4294967296
  | 0, _, h => h
  | k + 1, _, h => csteps_lt k (cstep_lt h)
theorem xor_eq_zero {a b : Nat} (h : a ^^^ b = 0) : a = b := by
  have : a ^^^ b ^^^ b = b := by rw [h, Nat.zero_xor]
  rwa [Nat.xor_assoc, Nat.xor_self, Nat.xor_zero] at this
theorem cstep_ne {r : Nat} (h : r < 4294967296) (hr : cstep r = 0) : r = 0 := by
  unfold cstep at hr
  split at hr
  · have := xor_eq_zero hr; omega
  · omega
theorem csteps_ne : ∀ (k : Nat) {r : Nat}, r < 4294967296 → csteps k r = 0 → r = 0
  | 0, _, _, hr => hr
  | k + 1, _, h, hr => cstep_ne h (csteps_ne k (cstep_lt h) hr)
theorem csteps_inj (k : Nat) {a b : Nat} (ha : a < 4294967296) (hb : b < 4294967296) (h : csteps k a = csteps k b) : a = b := by
  have h1 : csteps k (a ^^^ b) = 0 := by rw [csteps_xor, h, Nat.xor_self]
  exact xor_eq_zero (csteps_ne k (Nat.xor_lt_two_pow (n := 32) (by omega) (by omega)) h1)
/-- Low bits that are 0 are shifted out. -/
theorem csteps_shift : ∀ (k r : Nat), csteps k (r * 2 ^ k) = r
  | 0, r => by simp [csteps]
  | k + 1, r => by
    have e : r * 2 ^ (k + 1) = 2 * (r * 2 ^ k) := by rw [Nat.pow_succ, Nat.mul_comm (2 ^ k) 2, ← Nat.mul_assoc, Nat.mul_comm r 2, Nat.mul_assoc]
    rw [csteps, e]
    have : cstep (2 * (r * 2 ^ k)) = r * 2 ^ k := by
      unfold cstep
      rw [if_neg (by omega)]; omega
    rw [this, csteps_shift k]
theorem split_xor (r k : Nat) : r = (r % 2 ^ k) ^^^ (r / 2 ^ k * 2 ^ k) := by
  have h : r % 2 ^ k < 2 ^ k := Nat.mod_lt _ (Nat.pow_pos (by omega))
  apply Nat.eq_of_testBit_eq
  intro i
  rw [Nat.testBit_xor, Nat.testBit_mod_two_pow, Nat.mul_comm, Nat.testBit_two_pow_mul]
  by_cases hi : i < k
  · have : ¬ k ≤ i := by omega
    simp [hi, this]
  · have : k ≤ i := by omega
    simp [hi, this, Nat.testBit_div_two_pow]
/-- So many bits at once, by a table. -/
theorem csteps_table (k r : Nat) : csteps k r = r / 2 ^ k ^^^ csteps k (r % 2 ^ k) := by
  conv => lhs; rw [split_xor r k]
  rw [csteps_xor, csteps_shift, Nat.xor_comm]

/-- A byte. -/
def cbyte (r : Nat) (b : UInt8) : Nat := csteps 8 (r ^^^ b.toNat)
/-- A text. -/
def cover (r : Nat) (l : List UInt8) : Nat := l.foldl cbyte r
def csum (l : List UInt8) : Nat := 4294967295 ^^^ cover 4294967295 l
/-- Four bytes, the lowest first. -/
def cput (n : Nat) : List UInt8 := [UInt8.ofNat (n % 256), UInt8.ofNat (n / 256 % 256), UInt8.ofNat (n / 65536 % 256), UInt8.ofNat (n / 16777216 % 256)]
def cget : List UInt8 → Nat
  | [a, b, c, d] => a.toNat + b.toNat * 256 + c.toNat * 65536 + d.toNat * 16777216
  | _ => 0

theorem cbyte_lt {r : Nat} (h : r < 4294967296) (b : UInt8) : cbyte r b < 4294967296 :=
  csteps_lt 8 (Nat.xor_lt_two_pow (n := 32) (by omega) (by have := b.toNat_lt; omega))
theorem cover_lt : ∀ (l : List UInt8) {r : Nat}, r < 4294967296 → cover r l < 4294967296
  | [], _, h => h
  | b :: l, _, h => cover_lt l (cbyte_lt h b)
theorem cover_append (r : Nat) (a b : List UInt8) : cover r (a ++ b) = cover (cover r a) b := by simp [cover]
theorem csum_lt (l : List UInt8) : csum l < 4294967296 := Nat.xor_lt_two_pow (n := 32) (by omega) (by have := cover_lt l (r := 4294967295) (by omega); omega)
theorem not_not (r : Nat) : 4294967295 ^^^ (4294967295 ^^^ r) = r := by rw [← Nat.xor_assoc, Nat.xor_self, Nat.zero_xor]
theorem cput_get (n : Nat) (h : n < 4294967296) : cget (cput n) = n := by
  simp only [cput, cget]
  have e : ∀ k, k < 256 → (UInt8.ofNat k).toNat = k := fun k hk => by simp; omega
  rw [e _ (by omega), e _ (by omega), e _ (by omega), e _ (by omega)]
  omega
theorem cget_put (l : List UInt8) (h : l.length = 4) : cput (cget l) = l := by
  match l, h with
  | [a, b, c, d], _ =>
    simp only [cput, cget]
    have := a.toNat_lt; have := b.toNat_lt; have := c.toNat_lt; have := d.toNat_lt
    rw [show (a.toNat + b.toNat * 256 + c.toNat * 65536 + d.toNat * 16777216) % 256 = a.toNat by omega,
      show (a.toNat + b.toNat * 256 + c.toNat * 65536 + d.toNat * 16777216) / 256 % 256 = b.toNat by omega,
      show (a.toNat + b.toNat * 256 + c.toNat * 65536 + d.toNat * 16777216) / 65536 % 256 = c.toNat by omega,
      show (a.toNat + b.toNat * 256 + c.toNat * 65536 + d.toNat * 16777216) / 16777216 % 256 = d.toNat by omega]
    simp

/-- Two texts of one length part at a byte: what becomes of the register. -/
theorem cover_xor_reg : ∀ (l : List UInt8) (r d : Nat), cover (r ^^^ d) l = cover r l ^^^ csteps (8 * l.length) d
  | [], r, d => rfl
  | b :: l, r, d => by
    have e : cbyte (r ^^^ d) b = cbyte r b ^^^ csteps 8 d := by
      unfold cbyte
      rw [Nat.xor_assoc, Nat.xor_comm d, ← Nat.xor_assoc, csteps_xor]
    show cover (cbyte (r ^^^ d) b) l = cover (cbyte r b) l ^^^ _
    rw [e, cover_xor_reg l, List.length_cons, show 8 * (l.length + 1) = 8 + 8 * l.length by omega, csteps_add]

/-- A bit turned. -/
def cflip (l : List UInt8) (k : Nat) : List UInt8 := l.set (k / 8) (l.getD (k / 8) 0 ^^^ UInt8.ofNat (2 ^ (k % 8)))
theorem cflip_length (l : List UInt8) (k : Nat) : (cflip l k).length = l.length := by simp [cflip]
theorem cbyte_flip (r : Nat) (b : UInt8) (m : Nat) (hm : m < 8) : cbyte r (b ^^^ UInt8.ofNat (2 ^ m)) = cbyte r b ^^^ csteps (8 - m) 1 := by
  unfold cbyte
  have h2 : (2 : Nat) ^ m < 256 := Nat.lt_of_lt_of_le (Nat.pow_lt_pow_right (by omega) hm) (by decide)
  have e : (b ^^^ UInt8.ofNat (2 ^ m)).toNat = b.toNat ^^^ 2 ^ m := by
    rw [UInt8.toNat_xor]
    congr 1
    simp; omega
  rw [e, ← Nat.xor_assoc, csteps_xor]
  congr 1
  have := csteps_shift m 1
  rw [Nat.one_mul] at this
  rw [show (8 : Nat) = m + (8 - m) by omega, csteps_add, this]
  congr 1; omega
theorem cover_flip : ∀ (l : List UInt8) (r k : Nat), k < 8 * l.length → cover r (cflip l k) = cover r l ^^^ csteps (8 * l.length - k) 1
  | [], _, k, h => by simp at h
  | b :: l, r, k, h => by
    by_cases hk : k < 8
    · have e : cflip (b :: l) k = (b ^^^ UInt8.ofNat (2 ^ k)) :: l := by
        unfold cflip
        rw [show k / 8 = 0 by omega, show k % 8 = k by omega]; rfl
      rw [e]
      show cover (cbyte r _) l = cover (cbyte r b) l ^^^ _
      rw [cbyte_flip r b k hk, cover_xor_reg, ← csteps_add, List.length_cons]
      congr 2; omega
    · have e : cflip (b :: l) k = b :: cflip l (k - 8) := by
        unfold cflip
        rw [show k / 8 = (k - 8) / 8 + 1 by omega, show k % 8 = (k - 8) % 8 by omega]; rfl
      rw [e]
      show cover (cbyte r b) _ = cover (cbyte r b) l ^^^ _
      rw [cover_flip l _ (k - 8) (by simp at h; omega), List.length_cons]
      congr 2; omega

/-- Bytes as one number, the lowest first. -/
def lget : List UInt8 → Nat
  | [] => 0
  | b :: l => b.toNat + 256 * lget l
theorem cover_lget : ∀ (l : List UInt8) (r : Nat), cover r l = csteps (8 * l.length) (r ^^^ lget l)
  | [], r => by show r = r ^^^ 0; rw [Nat.xor_zero]
  | b :: l, r => by
    have hb := b.toNat_lt
    have x := split_xor (b.toNat + 256 * lget l) 8
    rw [show (b.toNat + 256 * lget l) % 2 ^ 8 = b.toNat by omega, show (b.toNat + 256 * lget l) / 2 ^ 8 = lget l by omega] at x
    show cover (cbyte r b) l = csteps _ (r ^^^ (b.toNat + 256 * lget l))
    rw [cover_lget l, List.length_cons, show 8 * (l.length + 1) = 8 + 8 * l.length by omega, csteps_add, x, ← Nat.xor_assoc, csteps_xor 8, csteps_shift]
    rfl
theorem cget_lget (q : List UInt8) (h : q.length = 4) : cget q = lget q := by
  match q, h with
  | [a, b, c, d], _ => simp only [cget, lget]; omega
theorem cover_four (r : Nat) (q : List UInt8) (h : q.length = 4) : cover r q = csteps 32 (r ^^^ cget q) := by
  rw [cover_lget, h, cget_lget q h]
theorem cget_lt (q : List UInt8) : cget q < 4294967296 := by
  unfold cget
  split
  · rename_i a b c d
    have := a.toNat_lt; have := b.toNat_lt; have := c.toNat_lt; have := d.toNat_lt
    omega
  · omega

/-- A text with its sum behind it leaves a register that hangs on nothing. -/
theorem check_iff (s q : List UInt8) (h : q.length = 4) : cget q = csum s ↔ cover 4294967295 (s ++ q) = csteps 32 4294967295 := by
  have hl := cover_lt s (r := 4294967295) (by omega)
  have hq := cget_lt q
  rw [cover_append, cover_four _ _ h]
  unfold csum
  constructor
  · intro e
    rw [e, Nat.xor_comm 4294967295, ← Nat.xor_assoc, Nat.xor_self, Nat.zero_xor]
  · intro e
    have := csteps_inj 32 (Nat.xor_lt_two_pow (n := 32) (by omega) (by omega)) (by omega) e
    have h2 : cover 4294967295 s ^^^ (cover 4294967295 s ^^^ cget q) = cover 4294967295 s ^^^ 4294967295 := by rw [this]
    rw [← Nat.xor_assoc, Nat.xor_self, Nat.zero_xor] at h2
    rw [h2, Nat.xor_comm]

/-- Bits turned in a row of at most 32: of the pattern's first i bits those that are there. -/
def cturn (l : List UInt8) (first pattern : Nat) : Nat → List UInt8
  | 0 => l
  | i + 1 => if pattern / 2 ^ i % 2 = 1 ∧ first + i < 8 * l.length then cflip (cturn l first pattern i) (first + i) else cturn l first pattern i
theorem cturn_length (l : List UInt8) (first pattern : Nat) : ∀ i, (cturn l first pattern i).length = l.length
  | 0 => rfl
  | i + 1 => by
    rw [cturn]
    split
    · rw [cflip_length, cturn_length l first pattern i]
    · exact cturn_length l first pattern i
theorem mod_pow_succ (p i : Nat) : p % 2 ^ (i + 1) = p % 2 ^ i ^^^ (p / 2 ^ i % 2) * 2 ^ i := by
  have x := split_xor (p % 2 ^ (i + 1)) i
  rw [Nat.mod_mod_of_dvd _ (Nat.pow_dvd_pow 2 (by omega : i ≤ i + 1))] at x
  rw [x]
  congr 2
  rw [Nat.pow_succ, Nat.mod_mul_right_div_self]
/-- How many bits are there, of the first i. -/
def cend (N first i : Nat) : Nat := min i (N - first)
theorem cturn_cover (l : List UInt8) (r first pattern : Nat) (hf : first ≤ 8 * l.length) : ∀ i, i ≤ 32 →
    cover r (cturn l first pattern i) = cover r l ^^^ csteps (8 * l.length - first) (pattern % 2 ^ cend (8 * l.length) first i)
  | 0, _ => by simp [cturn, cend, Nat.mod_one, csteps_zero]
  | i + 1, hi => by
    rw [cturn]
    by_cases hk : first + i < 8 * l.length
    · have e1 : cend (8 * l.length) first (i + 1) = i + 1 := by unfold cend; omega
      have e0 : cend (8 * l.length) first i = i := by unfold cend; omega
      have ih := cturn_cover l r first pattern hf i (by omega)
      rw [e0] at ih
      rw [e1, mod_pow_succ, csteps_xor]
      by_cases hb : pattern / 2 ^ i % 2 = 1
      · rw [if_pos ⟨hb, hk⟩, cover_flip _ _ _ (by rw [cturn_length]; exact hk), ih, cturn_length, hb, Nat.xor_assoc]
        congr 2
        rw [show 8 * l.length - first = i + (8 * l.length - (first + i)) by omega, csteps_add, csteps_shift]
      · rw [if_neg (by rintro ⟨h, _⟩; exact hb h), ih]
        have : pattern / 2 ^ i % 2 = 0 := by omega
        rw [this, Nat.zero_mul, csteps_zero, Nat.xor_zero]
    · rw [if_neg (by rintro ⟨_, h⟩; exact hk h), cturn_cover l r first pattern hf i (by omega)]
      congr 4
      unfold cend; omega
/-- Whether any was turned. -/
def cturned (N first pattern : Nat) : Nat → Bool
  | 0 => false
  | i + 1 => if pattern / 2 ^ i % 2 = 1 ∧ first + i < N then true else cturned N first pattern i
theorem cturned_iff (N first pattern : Nat) : ∀ i, cturned N first pattern i = false ↔ pattern % 2 ^ cend N first i = 0
  | 0 => by simp [cturned, cend, Nat.mod_one]
  | i + 1 => by
    rw [cturned]
    by_cases hk : first + i < N
    · have e1 : cend N first (i + 1) = i + 1 := by unfold cend; omega
      have e0 : cend N first i = i := by unfold cend; omega
      have ih := cturned_iff N first pattern i
      rw [e0] at ih
      rw [e1]
      by_cases hb : pattern / 2 ^ i % 2 = 1
      · rw [if_pos ⟨hb, hk⟩]
        have hlt : pattern % 2 ^ i < 2 ^ i := Nat.mod_lt _ (Nat.pow_pos (by omega))
        have hm : pattern % 2 ^ (i + 1) = pattern % 2 ^ i + 2 ^ i * (pattern / 2 ^ i % 2) := Nat.mod_pow_succ
        rw [hb] at hm
        have : 0 < 2 ^ i := Nat.pow_pos (by omega)
        simp; omega
      · rw [if_neg (by rintro ⟨h, _⟩; exact hb h), ih]
        have hm : pattern % 2 ^ (i + 1) = pattern % 2 ^ i + 2 ^ i * (pattern / 2 ^ i % 2) := Nat.mod_pow_succ
        rw [show pattern / 2 ^ i % 2 = 0 by omega] at hm
        rw [hm]; simp
    · rw [if_neg (by rintro ⟨_, h⟩; exact hk h), cturned_iff N first pattern i]
      have : cend N first (i + 1) = cend N first i := by unfold cend; omega
      rw [this]

/-- A BURST IS SEEN. -/
theorem burst (s : List UInt8) (first pattern i : Nat) (hi : i ≤ 32) (hf : first ≤ 8 * (s.length + 4)) (hp : pattern < 4294967296) (b : List UInt8)
    (hb : b = cturn (s ++ cput (csum s)) first pattern i) :
    (cget (b.drop s.length) = csum (b.take s.length)) ↔ cturned (8 * (s.length + 4)) first pattern i = false := by
  have hl : (s ++ cput (csum s)).length = s.length + 4 := by simp [cput]
  have hbl : b.length = s.length + 4 := by rw [hb, cturn_length, hl]
  have h0 : cover 4294967295 (s ++ cput (csum s)) = csteps 32 4294967295 := (check_iff s _ (by simp [cput])).1 (cput_get _ (csum_lt s))
  rw [check_iff _ _ (by simp [hbl]), List.take_append_drop, hb, cturn_cover _ _ _ _ (by rw [hl]; exact hf) i hi, h0, hl, cturned_iff]
  have hm : pattern % 2 ^ cend (8 * (s.length + 4)) first i < 4294967296 := Nat.lt_of_le_of_lt (Nat.mod_le _ _) hp
  constructor
  · intro e
    have : csteps 32 4294967295 ^^^ (csteps 32 4294967295 ^^^ csteps (8 * (s.length + 4) - first) (pattern % 2 ^ cend (8 * (s.length + 4)) first i)) = csteps 32 4294967295 ^^^ csteps 32 4294967295 := by rw [e]
    rw [← Nat.xor_assoc, Nat.xor_self, Nat.zero_xor] at this
    exact csteps_ne _ hm this
  · intro e
    rw [e, csteps_zero, Nat.xor_zero]
end Go.PM
