/-
  Plain laws of layer 7: texts of code points; no program in sight. Against the model's own decoding of UTF-8, too.
-/
import Derived.Lib.ValidU
import Derived.Lib.RuneCount
namespace Go.PM

/-- A byte that goes on. -/
def ucont (b : UInt8) : Bool := 128 ≤ b.toNat && b.toNat < 192
/-- The first byte: how many bytes, what it brings, the least number. -/
def uclass (a : Nat) : Option (Nat × Nat × Nat) :=
  if 192 ≤ a ∧ a < 224 then some (2, a - 192, 128) else if 224 ≤ a ∧ a < 240 then some (3, a - 224, 2048) else if 240 ≤ a ∧ a < 248 then some (4, a - 240, 65536) else none
/-- The next k bytes go on. -/
def uacc (n : Nat) : Nat → List UInt8 → Option Nat
  | 0, _ => some n
  | _ + 1, [] => none
  | k + 1, d :: r => if ucont d then uacc (64 * n + (d.toNat - 128)) k r else none
def ubad (n least : Nat) : Bool := decide (n < least) || decide (1114111 < n) || (decide (55296 ≤ n) && decide (n < 57344))
/-- How many bytes the code point has that a text begins with. -/
def ufirst : List UInt8 → Nat
  | [] => 0
  | a :: r =>
    if a.toNat < 128 then 1
    else match uclass a.toNat with
      | none => 0
      | some (size, n0, least) =>
        match uacc n0 (size - 1) r with
        | none => 0
        | some n => if ubad n least then 0 else size

theorem ufirst_lo {a : UInt8} {r : List UInt8} (h : a.toNat < 128) : ufirst (a :: r) = 1 := by simp [ufirst, h]
theorem ufirst_hi {a : UInt8} {r : List UInt8} (h : ¬ a.toNat < 128) : ufirst (a :: r) = match uclass a.toNat with
    | none => 0
    | some (size, n0, least) =>
      match uacc n0 (size - 1) r with
      | none => 0
      | some n => if ubad n least then 0 else size := by
  rw [ufirst, if_neg h]
theorem uclass_size {a size n0 least : Nat} (h : uclass a = some (size, n0, least)) : 2 ≤ size ∧ size ≤ 4 := by
  unfold uclass at h
  split at h
  · injection h with h; injection h with h _; omega
  · split at h
    · injection h with h; injection h with h _; omega
    · split at h
      · injection h with h; injection h with h _; omega
      · cases h
theorem uacc_len : ∀ (k n m : Nat) (r : List UInt8), uacc n k r = some m → k ≤ r.length
  | 0, _, _, _, _ => Nat.zero_le _
  | _ + 1, _, _, [], h => by simp [uacc] at h
  | k + 1, n, m, d :: r, h => by
    rw [uacc] at h
    split at h
    · have := uacc_len k _ _ r h
      simp only [List.length_cons]
      omega
    · cases h
theorem uacc_take : ∀ (k n : Nat) (r t : List UInt8), r.take k = t.take k → uacc n k r = uacc n k t
  | 0, _, _, _, _ => rfl
  | _ + 1, _, [], [], _ => rfl
  | _ + 1, _, [], _ :: _, h => by simp at h
  | _ + 1, _, _ :: _, [], h => by simp at h
  | k + 1, n, d :: r, e :: t, h => by
    simp only [List.take_succ_cons, List.cons.injEq] at h
    rw [uacc, uacc, h.1, uacc_take k _ r t h.2]
theorem uacc_cont : ∀ (k n m : Nat) (r : List UInt8), uacc n k r = some m → ∀ j (_ : j < k) (h' : j < r.length), ucont r[j] = true
  | 0, _, _, _, _, j, h, _ => by omega
  | _ + 1, _, _, [], h, _, _, _ => by simp [uacc] at h
  | k + 1, n, m, d :: r, h, j, hj, hl => by
    rw [uacc] at h
    by_cases hc : ucont d = true
    · rw [if_pos hc] at h
      cases j with
      | zero => exact hc
      | succ j =>
        simp only [List.getElem_cons_succ]
        exact uacc_cont k _ _ r h j (by omega) _
    · rw [if_neg hc] at h; cases h

/-- A code point is there. -/
theorem ufirst_some {s : List UInt8} (h : ufirst s ≠ 0) : ∃ a r, s = a :: r ∧ ((a.toNat < 128 ∧ ufirst s = 1) ∨
    (¬ a.toNat < 128 ∧ ∃ size n0 least n, uclass a.toNat = some (size, n0, least) ∧ uacc n0 (size - 1) r = some n ∧ ubad n least = false ∧ ufirst s = size)) := by
  match s, h with
  | a :: r, h =>
    refine ⟨a, r, rfl, ?_⟩
    by_cases h1 : a.toNat < 128
    · exact .inl ⟨h1, ufirst_lo h1⟩
    · rw [ufirst_hi h1] at h ⊢
      refine .inr ⟨h1, ?_⟩
      cases hc : uclass a.toNat with
      | none => rw [hc] at h; simp at h
      | some x =>
        obtain ⟨size, n0, least⟩ := x
        rw [hc] at h
        simp only at h ⊢
        cases hu : uacc n0 (size - 1) r with
        | none => rw [hu] at h; simp at h
        | some n =>
          rw [hu] at h
          simp only at h
          by_cases hb : ubad n least = true
          · rw [if_pos hb] at h; simp at h
          · exact ⟨size, n0, least, n, rfl, hu, by simpa using hb, by simp [hb]⟩
theorem ufirst_le {s : List UInt8} (h : ufirst s ≠ 0) : 1 ≤ ufirst s ∧ ufirst s ≤ s.length ∧ ufirst s ≤ 4 := by
  obtain ⟨a, r, rfl, h1 | ⟨_, size, n0, least, n, hc, hu, _, he⟩⟩ := ufirst_some h
  · rw [h1.2]; simp
  · have := uclass_size hc
    have := uacc_len _ _ _ _ hu
    rw [he]
    simp only [List.length_cons]
    omega
theorem ufirst_le4 (s : List UInt8) : ufirst s ≤ 4 := by
  by_cases h : ufirst s = 0
  · omega
  · exact (ufirst_le h).2.2
theorem ufirst_nil : ufirst [] = 0 := rfl
/-- Only its own bytes tell. -/
theorem ufirst_take {s t : List UInt8} (h : ufirst s ≠ 0) (e : s.take (ufirst s) = t.take (ufirst s)) : ufirst t = ufirst s := by
  obtain ⟨a, r, rfl, h1 | ⟨h0, size, n0, least, n, hc, hu, hb, he⟩⟩ := ufirst_some h
  · rw [h1.2] at e ⊢
    match t, e with
    | b :: t, e =>
      simp at e
      subst e
      exact ufirst_lo h1.1
  · rw [he] at e ⊢
    have hs := uclass_size hc
    match t, e with
    | [], e =>
      obtain ⟨k, rfl⟩ : ∃ k, size = k + 1 := ⟨size - 1, by omega⟩
      simp at e
    | b :: t, e =>
      obtain ⟨k, rfl⟩ : ∃ k, size = k + 1 := ⟨size - 1, by omega⟩
      simp only [List.take_succ_cons, List.cons.injEq] at e
      obtain ⟨rfl, e⟩ := e
      rw [Nat.add_sub_cancel] at hu
      rw [ufirst_hi h0, hc]
      simp only [Nat.add_sub_cancel]
      rw [← uacc_take k n0 r t e, hu]
      simp [hb]
theorem ufirst_append {s : List UInt8} (t : List UInt8) (h : ufirst s ≠ 0) : ufirst (s ++ t) = ufirst s :=
  ufirst_take h (by rw [List.take_append_of_le_length (ufirst_le h).2.1])
theorem ufirst_cut {s : List UInt8} {n : Nat} (h : ufirst s ≠ 0) (hn : ufirst s ≤ n) : ufirst (s.take n) = ufirst s :=
  ufirst_take h (by rw [List.take_take, Nat.min_eq_left hn])
/-- The first byte doesn't go on; the others do. -/
theorem ufirst_head {s : List UInt8} (h : ufirst s ≠ 0) (h0 : 0 < s.length) : ucont s[0] = false := by
  obtain ⟨a, r, rfl, h1 | ⟨h1, size, n0, least, n, hc, hu, hb, he⟩⟩ := ufirst_some h
  · simp [ucont]; omega
  · have : 192 ≤ a.toNat := by
      unfold uclass at hc
      repeat (split at hc; omega)
      cases hc
    simp [ucont]; omega
theorem ufirst_tail {s : List UInt8} (h : ufirst s ≠ 0) : ∀ j (hj : j < s.length), 0 < j → j < ufirst s → ucont s[j] = true := by
  intro j hj h0 hk
  obtain ⟨a, r, rfl, h1 | ⟨h1, size, n0, least, n, hc, hu, hb, he⟩⟩ := ufirst_some h
  · omega
  · rw [he] at hk
    cases j with
    | zero => omega
    | succ j =>
      simp only [List.getElem_cons_succ]
      exact uacc_cont _ _ _ _ hu j (by omega) _

/-! ### Good texts -/
def ugood (s : List UInt8) : Bool := if _h : ufirst s = 0 then decide (s = []) else ugood (s.drop (ufirst s))
termination_by s.length
decreasing_by
  have := ufirst_le _h
  simp; omega
def ucount (s : List UInt8) : Nat := if _h : s = [] then 0 else 1 + ucount (s.drop (max 1 (ufirst s)))
termination_by s.length
decreasing_by
  have : s.length ≠ 0 := fun e => _h (List.eq_nil_of_length_eq_zero e)
  simp; omega
theorem ugood_nil : ugood [] = true := by rw [ugood, dif_pos ufirst_nil]; rfl
theorem ugood_step {s : List UInt8} (h : ufirst s ≠ 0) : ugood s = ugood (s.drop (ufirst s)) := by rw [ugood, dif_neg h]
theorem ugood_zero {s : List UInt8} (h : ufirst s = 0) (hs : s ≠ []) : ugood s = false := by rw [ugood, dif_pos h]; simpa using hs
theorem ucount_nil : ucount [] = 0 := by rw [ucount, dif_pos rfl]
theorem ucount_step {s : List UInt8} (h : s ≠ []) : ucount s = 1 + ucount (s.drop (max 1 (ufirst s))) := by rw [ucount, dif_neg h]
theorem ugood_first {s : List UInt8} (h : ugood s = true) (hs : s ≠ []) : ufirst s ≠ 0 := fun e => by rw [ugood_zero e hs] at h; cases h
theorem ugood_ind {P : List UInt8 → Prop} (h0 : P []) (h1 : ∀ s, ugood s = true → ufirst s ≠ 0 → ugood (s.drop (ufirst s)) = true → P (s.drop (ufirst s)) → P s) : ∀ s, ugood s = true → P s := by
  intro s
  induction hn : s.length using Nat.strongRecOn generalizing s with
  | _ n ih =>
    intro hg
    by_cases hs : s = []
    · exact hs ▸ h0
    · have hf := ugood_first hg hs
      have hl := ufirst_le hf
      have hg' := (ugood_step hf) ▸ hg
      exact h1 s hg hf hg' (ih _ (by rw [← hn, List.length_drop]; omega) _ rfl hg')
theorem ugood_append (t : List UInt8) : ∀ s, ugood s = true → ugood (s ++ t) = ugood t ∧ ucount (s ++ t) = ucount s + ucount t := by
  refine ugood_ind ?_ ?_
  · simp [ucount_nil]
  · intro s hg hf hg' ih
    have hl := ufirst_le hf
    have ha := ufirst_append t hf
    have hne : s ≠ [] := fun e => by subst e; exact hf rfl
    refine ⟨?_, ?_⟩
    · rw [ugood_step (by rw [ha]; exact hf), ha, List.drop_append_of_le_length hl.2.1]
      exact ih.1
    · rw [ucount_step (by simp [hne]), ha, ucount_step hne, Nat.max_eq_right hl.1, List.drop_append_of_le_length hl.2.1, ih.2]
      omega
/-- Where the whole and its end are good its beginning is. -/
theorem ugood_left (t : List UInt8) (ht : ugood t = true) : ∀ s, ugood (s ++ t) = true → ugood s = true := by
  intro s
  induction hn : s.length using Nat.strongRecOn generalizing s with
  | _ n ih =>
    intro hg
    by_cases hs : s = []
    · rw [hs]; exact ugood_nil
    · have hf := ugood_first hg (by simp [hs])
      by_cases hk : ufirst (s ++ t) ≤ s.length
      · have e := ufirst_take (s := s ++ t) (t := s) hf (by rw [List.take_append_of_le_length hk])
        have hf' : ufirst s ≠ 0 := by rw [e]; exact hf
        rw [ugood_step hf'] 
        rw [ugood_step hf, ← e, List.drop_append_of_le_length (by rw [e]; exact hk)] at hg
        have := ufirst_le hf'
        exact ih _ (by rw [← hn, List.length_drop]; omega) _ rfl hg
      · exfalso
        have hl := ufirst_le hf
        rw [List.length_append] at hl
        have ht0 : 0 < t.length := by omega
        have hpos : 0 < s.length := Nat.pos_of_ne_zero fun e => hs (List.eq_nil_of_length_eq_zero e)
        have h1 := ufirst_tail hf s.length (by rw [List.length_append]; omega) hpos (by omega)
        have h2 := ufirst_head (ugood_first ht (fun e => by subst e; simp at ht0)) ht0
        rw [List.getElem_append_right (Nat.le_refl _)] at h1
        simp only [Nat.sub_self] at h1
        rw [h1] at h2
        cases h2

/-! ### Cut -/
/-- As the program cuts: from m down to a byte that doesn't go on. -/
def ptrim (s : List UInt8) : Nat → Nat
  | 0 => 0
  | m + 1 => if ucont (s.getD (m + 1) 0) then ptrim s m else m + 1
theorem ptrim_le (s : List UInt8) : ∀ m, ptrim s m ≤ m
  | 0 => Nat.le_refl _
  | m + 1 => by
    have := ptrim_le s m
    unfold ptrim
    split <;> omega
/-- As the document has it: the code points that end within m bytes. -/
def utrim (s : List UInt8) (m : Nat) : Nat := if _h : ufirst s = 0 then 0 else if ufirst s ≤ m then ufirst s + utrim (s.drop (ufirst s)) (m - ufirst s) else 0
termination_by s.length
decreasing_by
  have := ufirst_le _h
  simp; omega
theorem utrim_zero {s : List UInt8} {m : Nat} (h : ufirst s = 0) : utrim s m = 0 := by rw [utrim, dif_pos h]
theorem utrim_stop {s : List UInt8} {m : Nat} (h : m < ufirst s) : utrim s m = 0 := by
  rw [utrim, dif_neg (by omega), if_neg (by omega)]
theorem utrim_go {s : List UInt8} {m : Nat} (h : ufirst s ≠ 0) (hm : ufirst s ≤ m) : utrim s m = ufirst s + utrim (s.drop (ufirst s)) (m - ufirst s) := by rw [utrim, dif_neg h, if_pos hm]
theorem ptrim_shift (s : List UInt8) (k : Nat) (hk : 0 < k) (hc : ucont (s.getD k 0) = false) : ∀ j, ptrim s (k + j) = k + ptrim (s.drop k) j
  | 0 => by
    obtain ⟨k, rfl⟩ : ∃ i, k = i + 1 := ⟨k - 1, by omega⟩
    have e : ptrim s (k + 1) = k + 1 := by rw [ptrim, hc]; rfl
    exact e
  | j + 1 => by
    have ih := ptrim_shift s k hk hc j
    rw [show k + (j + 1) = (k + j) + 1 by omega, ptrim, ptrim, show (s.drop k).getD (j + 1) 0 = s.getD (k + j + 1) 0 by simp [List.getD_eq_getElem?_getD, List.getElem?_drop, Nat.add_assoc]]
    split
    · exact ih
    · omega
theorem ptrim_down (s : List UInt8) : ∀ m, (∀ j, 0 < j → j ≤ m → ucont (s.getD j 0) = true) → ptrim s m = 0
  | 0, _ => rfl
  | m + 1, h => by
    rw [ptrim, if_pos (h _ (by omega) (Nat.le_refl _))]
    exact ptrim_down s m fun j h0 hj => h j h0 (by omega)
theorem ptrim_utrim : ∀ s, ugood s = true → ∀ m, m < s.length → ptrim s m = utrim s m := by
  refine ugood_ind (fun m h => by simp at h) ?_
  intro s hg hf hg' ih m hm
  have hl := ufirst_le hf
  by_cases hk : ufirst s ≤ m
  · rw [utrim_go hf hk]
    have hlt : ufirst s < s.length := by omega
    have hd : s.drop (ufirst s) ≠ [] := fun e => by have := congrArg List.length e; simp at this; omega
    have hd0 : 0 < (s.drop (ufirst s)).length := by rw [List.length_drop]; omega
    have hc := ufirst_head (ugood_first hg' hd) hd0
    have hc' : ucont (s.getD (ufirst s) 0) = false := by
      rw [List.getD_eq_getElem?_getD, List.getElem?_eq_getElem hlt]
      simpa using hc
    have := ptrim_shift s (ufirst s) (by omega) hc' (m - ufirst s)
    rw [show ufirst s + (m - ufirst s) = m by omega] at this
    rw [this, ih (m - ufirst s) (by rw [List.length_drop]; omega)]
  · rw [utrim_stop (by omega)]
    refine ptrim_down s m fun j h0 hj => ?_
    rw [List.getD_eq_getElem?_getD, List.getElem?_eq_getElem (by omega)]
    exact ufirst_tail hf j (by omega) h0 (by omega)
theorem utrim_le (m : Nat) : ∀ s, ugood s = true → utrim s m ≤ s.length := by
  intro s hg
  revert m
  refine ugood_ind (P := fun s => ∀ m, utrim s m ≤ s.length) (fun m => ?_) ?_ s hg
  · rw [utrim_zero rfl]; simp
  · intro s hg hf hg' ih m
    have hl := ufirst_le hf
    by_cases hk : ufirst s ≤ m
    · rw [utrim_go hf hk]
      have := ih (m - ufirst s)
      rw [List.length_drop] at this
      omega
    · rw [utrim_stop (by omega)]; omega
theorem utrim_all : ∀ s, ugood s = true → ∀ m, s.length ≤ m → utrim s m = s.length := by
  refine ugood_ind (fun m _ => ?_) ?_
  · rw [utrim_zero rfl]; rfl
  · intro s hg hf hg' ih m hm
    have hl := ufirst_le hf
    rw [utrim_go hf (by omega), ih _ (by rw [List.length_drop]; omega), List.length_drop]
    omega
/-- What is cut of a good one is good. -/
theorem utrim_good : ∀ s, ugood s = true → ∀ m, ugood (s.take (utrim s m)) = true := by
  refine ugood_ind (fun m => by simp [ugood_nil]) ?_
  intro s hg hf hg' ih m
  have hl := ufirst_le hf
  by_cases hk : ufirst s ≤ m
  · rw [utrim_go hf hk, List.take_add]
    have h1 : ufirst (s.take (ufirst s)) = ufirst s := ufirst_cut hf (Nat.le_refl _)
    have h2 : ugood (s.take (ufirst s)) = true := by
      rw [ugood_step (by rw [h1]; exact hf), h1, List.drop_eq_nil_of_le (by simp; omega)]
      exact ugood_nil
    rw [(ugood_append _ _ h2).1]
    exact ih _
  · rw [utrim_stop (by omega)]
    simp [ugood_nil]
end Go.PM
