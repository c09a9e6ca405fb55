/-
  Texts of the proof, joined: PlainUtf PlainUtf2 Utf RefUtf RefUtf2 UtfLaw FldLaw. Conditions: as each names.
-/
import Derived.Lib.ValidU
import Derived.Lib.RuneCount
import Derived.Test.YtigbifiicbghpaaDoorBai
import Derived.Test.YtigbifiicbghpaaDoorBae
import Derived.Lib.Bits
import Derived.Test.YtigbifiicbghpaaDoorBag

section
/-
  Plain laws of layer 7: texts of code points; no program in sight. Against the model's own decoding of UTF-8, too.
-/
namespace Go.PM

/-- A byte that goes on. -/
def ucont (b : UInt8) : Bool := 128 ≤ b.toNat && b.toNat < 192
/-- The first byte: how many bytes, what it brings, the least number. -/
def uclass (a : Nat) : Option (Nat × Nat × Nat) :=
  if 192 ≤ a ∧ a < 224 then some (2, a - 192, 128) else if 224 ≤ a ∧ a < 240 then some (3, a - 224, 2048) else if 240 ≤ a ∧ a < 248 then some (4, a - 240, 65536) else none
/-- The next k bytes go on. -/
def uacc (n : Nat) : Nat → List UInt8 → Option Nat
  | 0, _ => some n
  | _ + 1, [] => none
  | k + 1, d :: r => if ucont d then uacc (64 * n + (d.toNat - 128)) k r else none
def ubad (n least : Nat) : Bool := decide (n < least) || decide (1114111 < n) || (decide (55296 ≤ n) && decide (n < 57344))
/-- How many bytes the code point has that a text begins with. -/
def ufirst : List UInt8 → Nat
  | [] => 0
  | a :: r =>
    if a.toNat < 128 then 1
    else match uclass a.toNat with
      | none => 0
      | some (size, n0, least) =>
        match uacc n0 (size - 1) r with
        | none => 0
        | some n => if ubad n least then 0 else size

theorem ufirst_lo {a : UInt8} {r : List UInt8} (h : a.toNat < 128) : ufirst (a :: r) = 1 := by simp [ufirst, h]
theorem ufirst_hi {a : UInt8} {r : List UInt8} (h : ¬ a.toNat < 128) : ufirst (a :: r) = match uclass a.toNat with
    | none => 0
    | some (size, n0, least) =>
      match uacc n0 (size - 1) r with
      | none => 0
      | some n => if ubad n least then 0 else size := by
  rw [ufirst, if_neg h]
theorem uclass_size {a size n0 least : Nat} (h : uclass a = some (size, n0, least)) : 2 ≤ size ∧ size ≤ 4 := by
  unfold uclass at h
  split at h
  · injection h with h; injection h with h _; omega
  · split at h
    · injection h with h; injection h with h _; omega
    · split at h
      · injection h with h; injection h with h _; omega
      · cases h
theorem uacc_len : ∀ (k n m : Nat) (r : List UInt8), uacc n k r = some m → k ≤ r.length
  | 0, _, _, _, _ => Nat.zero_le _
  | _ + 1, _, _, [], h => by simp [uacc] at h
  | k + 1, n, m, d :: r, h => by
    rw [uacc] at h
    split at h
    · have := uacc_len k _ _ r h
      simp only [List.length_cons]
      omega
    · cases h
theorem uacc_take : ∀ (k n : Nat) (r t : List UInt8), r.take k = t.take k → uacc n k r = uacc n k t
  | 0, _, _, _, _ => rfl
  | _ + 1, _, [], [], _ => rfl
  | _ + 1, _, [], _ :: _, h => by simp at h
  | _ + 1, _, _ :: _, [], h => by simp at h
  | k + 1, n, d :: r, e :: t, h => by
    simp only [List.take_succ_cons, List.cons.injEq] at h
    rw [uacc, uacc, h.1, uacc_take k _ r t h.2]
theorem uacc_cont : ∀ (k n m : Nat) (r : List UInt8), uacc n k r = some m → ∀ j (_ : j < k) (h' : j < r.length), ucont r[j] = true
  | 0, _, _, _, _, j, h, _ => by omega
  | _ + 1, _, _, [], h, _, _, _ => by simp [uacc] at h
  | k + 1, n, m, d :: r, h, j, hj, hl => by
    rw [uacc] at h
    by_cases hc : ucont d = true
    · rw [if_pos hc] at h
      cases j with
      | zero => exact hc
      | succ j =>
        simp only [List.getElem_cons_succ]
        exact uacc_cont k _ _ r h j (by omega) _
    · rw [if_neg hc] at h; cases h

/-- A code point is there. -/
theorem ufirst_some {s : List UInt8} (h : ufirst s ≠ 0) : ∃ a r, s = a :: r ∧ ((a.toNat < 128 ∧ ufirst s = 1) ∨
    (¬ a.toNat < 128 ∧ ∃ size n0 least n, uclass a.toNat = some (size, n0, least) ∧ uacc n0 (size - 1) r = some n ∧ ubad n least = false ∧ ufirst s = size)) := by
  match s, h with
  | a :: r, h =>
    refine ⟨a, r, rfl, ?_⟩
    by_cases h1 : a.toNat < 128
    · exact .inl ⟨h1, ufirst_lo h1⟩
    · rw [ufirst_hi h1] at h ⊢
      refine .inr ⟨h1, ?_⟩
      cases hc : uclass a.toNat with
      | none => rw [hc] at h; simp at h
      | some x =>
        obtain ⟨size, n0, least⟩ := x
        rw [hc] at h
        simp only at h ⊢
        cases hu : uacc n0 (size - 1) r with
        | none => rw [hu] at h; simp at h
        | some n =>
          rw [hu] at h
          simp only at h
          by_cases hb : ubad n least = true
          · rw [if_pos hb] at h; simp at h
          · exact ⟨size, n0, least, n, rfl, hu, by simpa using hb, by simp [hb]⟩
theorem ufirst_le {s : List UInt8} (h : ufirst s ≠ 0) : 1 ≤ ufirst s ∧ ufirst s ≤ s.length ∧ ufirst s ≤ 4 := by
  obtain ⟨a, r, rfl, h1 | ⟨_, size, n0, least, n, hc, hu, _, he⟩⟩ := ufirst_some h
  · rw [h1.2]; simp
  · have := uclass_size hc
    have := uacc_len _ _ _ _ hu
    rw [he]
    simp only [List.length_cons]
    omega
theorem ufirst_le4 (s : List UInt8) : ufirst s ≤ 4 := by
  by_cases h : ufirst s = 0
  · omega
  · exact (ufirst_le h).2.2
theorem ufirst_nil : ufirst [] = 0 := rfl
/-- Only its own bytes tell. -/
theorem ufirst_take {s t : List UInt8} (h : ufirst s ≠ 0) (e : s.take (ufirst s) = t.take (ufirst s)) : ufirst t = ufirst s := by
  obtain ⟨a, r, rfl, h1 | ⟨h0, size, n0, least, n, hc, hu, hb, he⟩⟩ := ufirst_some h
  · rw [h1.2] at e ⊢
    match t, e with
    | b :: t, e =>
      simp at e
      subst e
      exact ufirst_lo h1.1
  · rw [he] at e ⊢
    have hs := uclass_size hc
    match t, e with
    | [], e =>
      obtain ⟨k, rfl⟩ : ∃ k, size = k + 1 := ⟨size - 1, by omega⟩
      simp at e
    | b :: t, e =>
      obtain ⟨k, rfl⟩ : ∃ k, size = k + 1 := ⟨size - 1, by omega⟩
      simp only [List.take_succ_cons, List.cons.injEq] at e
      obtain ⟨rfl, e⟩ := e
      rw [Nat.add_sub_cancel] at hu
      rw [ufirst_hi h0, hc]
      simp only [Nat.add_sub_cancel]
      rw [← uacc_take k n0 r t e, hu]
      simp [hb]
theorem ufirst_append {s : List UInt8} (t : List UInt8) (h : ufirst s ≠ 0) : ufirst (s ++ t) = ufirst s :=
  ufirst_take h (by rw [List.take_append_of_le_length (ufirst_le h).2.1])
theorem ufirst_cut {s : List UInt8} {n : Nat} (h : ufirst s ≠ 0) (hn : ufirst s ≤ n) : ufirst (s.take n) = ufirst s :=
  ufirst_take h (by rw [List.take_take, Nat.min_eq_left hn])
/-- The first byte doesn't go on; the others do. -/
theorem ufirst_head {s : List UInt8} (h : ufirst s ≠ 0) (h0 : 0 < s.length) : ucont s[0] = false := by
  obtain ⟨a, r, rfl, h1 | ⟨h1, size, n0, least, n, hc, hu, hb, he⟩⟩ := ufirst_some h
  · simp [ucont]; omega
  · have : 192 ≤ a.toNat := by
      unfold uclass at hc
      repeat (split at hc; omega)
      cases hc
    simp [ucont]; omega
theorem ufirst_tail {s : List UInt8} (h : ufirst s ≠ 0) : ∀ j (hj : j < s.length), 0 < j → j < ufirst s → ucont s[j] = true := by
  intro j hj h0 hk
  obtain ⟨a, r, rfl, h1 | ⟨h1, size, n0, least, n, hc, hu, hb, he⟩⟩ := ufirst_some h
  · omega
  · rw [he] at hk
    cases j with
    | zero => omega
    | succ j =>
      simp only [List.getElem_cons_succ]
      exact uacc_cont _ _ _ _ hu j (by omega) _

/-! ### Good texts -/
def ugood (s : List UInt8) : Bool := if _h : ufirst s = 0 then decide (s = []) else ugood (s.drop (ufirst s))
termination_by s.length
decreasing_by
  have := ufirst_le _h
  simp; omega
def ucount (s : List UInt8) : Nat := if _h : s = [] then 0 else 1 + ucount (s.drop (max 1 (ufirst s)))
termination_by s.length
decreasing_by
  have : s.length ≠ 0 := fun e => _h (List.eq_nil_of_length_eq_zero e)
  simp; omega
theorem ugood_nil : ugood [] = true := by rw [ugood, dif_pos ufirst_nil]; rfl
theorem ugood_step {s : List UInt8} (h : ufirst s ≠ 0) : ugood s = ugood (s.drop (ufirst s)) := by rw [ugood, dif_neg h]
theorem ugood_zero {s : List UInt8} (h : ufirst s = 0) (hs : s ≠ []) : ugood s = false := by rw [ugood, dif_pos h]; simpa using hs
theorem ucount_nil : ucount [] = 0 := by rw [ucount, dif_pos rfl]
theorem ucount_step {s : List UInt8} (h : s ≠ []) : ucount s = 1 + ucount (s.drop (max 1 (ufirst s))) := by rw [ucount, dif_neg h]
theorem ugood_first {s : List UInt8} (h : ugood s = true) (hs : s ≠ []) : ufirst s ≠ 0 := fun e => by rw [ugood_zero e hs] at h; cases h
theorem ugood_ind {P : List UInt8 → Prop} (h0 : P []) (h1 : ∀ s, ugood s = true → ufirst s ≠ 0 → ugood (s.drop (ufirst s)) = true → P (s.drop (ufirst s)) → P s) : ∀ s, ugood s = true → P s := by
  intro s
  induction hn : s.length using Nat.strongRecOn generalizing s with
  | _ n ih =>
    intro hg
    by_cases hs : s = []
    · exact hs ▸ h0
    · have hf := ugood_first hg hs
      have hl := ufirst_le hf
      have hg' := (ugood_step hf) ▸ hg
      exact h1 s hg hf hg' (ih _ (by rw [← hn, List.length_drop]; omega) _ rfl hg')
theorem ugood_append (t : List UInt8) : ∀ s, ugood s = true → ugood (s ++ t) = ugood t ∧ ucount (s ++ t) = ucount s + ucount t := by
  refine ugood_ind ?_ ?_
  · simp [ucount_nil]
  · intro s hg hf hg' ih
    have hl := ufirst_le hf
    have ha := ufirst_append t hf
    have hne : s ≠ [] := fun e => by subst e; exact hf rfl
    refine ⟨?_, ?_⟩
    · rw [ugood_step (by rw [ha]; exact hf), ha, List.drop_append_of_le_length hl.2.1]
      exact ih.1
    · rw [ucount_step (by simp [hne]), ha, ucount_step hne, Nat.max_eq_right hl.1, List.drop_append_of_le_length hl.2.1, ih.2]
      omega
/-- Where the whole and its end are good its beginning is. -/
theorem ugood_left (t : List UInt8) (ht : ugood t = true) : ∀ s, ugood (s ++ t) = true → ugood s = true := by
  intro s
  induction hn : s.length using Nat.strongRecOn generalizing s with
  | _ n ih =>
    intro hg
    by_cases hs : s = []
    · rw [hs]; exact ugood_nil
    · have hf := ugood_first hg (by simp [hs])
      by_cases hk : ufirst (s ++ t) ≤ s.length
      · have e := ufirst_take (s := s ++ t) (t := s) hf (by rw [List.take_append_of_le_length hk])
        have hf' : ufirst s ≠ 0 := by rw [e]; exact hf
        rw [ugood_step hf'] 
        rw [ugood_step hf, ← e, List.drop_append_of_le_length (by rw [e]; exact hk)] at hg
        have := ufirst_le hf'
        exact ih _ (by rw [← hn, List.length_drop]; omega) _ rfl hg
      · exfalso
        have hl := ufirst_le hf
        rw [List.length_append] at hl
        have ht0 : 0 < t.length := by omega
        have hpos : 0 < s.length := Nat.pos_of_ne_zero fun e => hs (List.eq_nil_of_length_eq_zero e)
        have h1 := ufirst_tail hf s.length (by rw [List.length_append]; omega) hpos (by omega)
        have h2 := ufirst_head (ugood_first ht (fun e => by subst e; simp at ht0)) ht0
        rw [List.getElem_append_right (Nat.le_refl _)] at h1
        simp only [Nat.sub_self] at h1
        rw [h1] at h2
        cases h2

/-! ### Cut -/
/-- As the program cuts: from m down to a byte that doesn't go on. -/
def ptrim (s : List UInt8) : Nat → Nat
  | 0 => 0
  | m + 1 => if ucont (s.getD (m + 1) 0) then ptrim s m else m + 1
theorem ptrim_le (s : List UInt8) : ∀ m, ptrim s m ≤ m
  | 0 => Nat.le_refl _
  | m + 1 => by
    have := ptrim_le s m
    unfold ptrim
    split <;> omega
/-- As the document has it: the code points that end within m bytes. -/
def utrim (s : List UInt8) (m : Nat) : Nat := if _h : ufirst s = 0 then 0 else if ufirst s ≤ m then ufirst s + utrim (s.drop (ufirst s)) (m - ufirst s) else 0
termination_by s.length
decreasing_by
  have := ufirst_le _h
  simp; omega
theorem utrim_zero {s : List UInt8} {m : Nat} (h : ufirst s = 0) : utrim s m = 0 := by rw [utrim, dif_pos h]
theorem utrim_stop {s : List UInt8} {m : Nat} (h : m < ufirst s) : utrim s m = 0 := by
  rw [utrim, dif_neg (by omega), if_neg (by omega)]
theorem utrim_go {s : List UInt8} {m : Nat} (h : ufirst s ≠ 0) (hm : ufirst s ≤ m) : utrim s m = ufirst s + utrim (s.drop (ufirst s)) (m - ufirst s) := by rw [utrim, dif_neg h, if_pos hm]
theorem ptrim_shift (s : List UInt8) (k : Nat) (hk : 0 < k) (hc : ucont (s.getD k 0) = false) : ∀ j, ptrim s (k + j) = k + ptrim (s.drop k) j
  | 0 => by
    obtain ⟨k, rfl⟩ : ∃ i, k = i + 1 := ⟨k - 1, by omega⟩
    have e : ptrim s (k + 1) = k + 1 := by rw [ptrim, hc]; rfl
    exact e
  | j + 1 => by
    have ih := ptrim_shift s k hk hc j
    rw [show k + (j + 1) = (k + j) + 1 by omega, ptrim, ptrim, show (s.drop k).getD (j + 1) 0 = s.getD (k + j + 1) 0 by simp [List.getD_eq_getElem?_getD, List.getElem?_drop, Nat.add_assoc]]
    split
    · exact ih
    · omega
theorem ptrim_down (s : List UInt8) : ∀ m, (∀ j, 0 < j → j ≤ m → ucont (s.getD j 0) = true) → ptrim s m = 0
  | 0, _ => rfl
  | m + 1, h => by
    rw [ptrim, if_pos (h _ (by omega) (Nat.le_refl _))]
    exact ptrim_down s m fun j h0 hj => h j h0 (by omega)
theorem ptrim_utrim : ∀ s, ugood s = true → ∀ m, m < s.length → ptrim s m = utrim s m := by
  refine ugood_ind (fun m h => by simp at h) ?_
  intro s hg hf hg' ih m hm
  have hl := ufirst_le hf
  by_cases hk : ufirst s ≤ m
  · rw [utrim_go hf hk]
    have hlt : ufirst s < s.length := by omega
    have hd : s.drop (ufirst s) ≠ [] := fun e => by have := congrArg List.length e; simp at this; omega
    have hd0 : 0 < (s.drop (ufirst s)).length := by rw [List.length_drop]; omega
    have hc := ufirst_head (ugood_first hg' hd) hd0
    have hc' : ucont (s.getD (ufirst s) 0) = false := by
      rw [List.getD_eq_getElem?_getD, List.getElem?_eq_getElem hlt]
      simpa using hc
    have := ptrim_shift s (ufirst s) (by omega) hc' (m - ufirst s)
    rw [show ufirst s + (m - ufirst s) = m by omega] at this
    rw [this, ih (m - ufirst s) (by rw [List.length_drop]; omega)]
  · rw [utrim_stop (by omega)]
    refine ptrim_down s m fun j h0 hj => ?_
    rw [List.getD_eq_getElem?_getD, List.getElem?_eq_getElem (by omega)]
    exact ufirst_tail hf j (by omega) h0 (by omega)
theorem utrim_le (m : Nat) : ∀ s, ugood s = true → utrim s m ≤ s.length := by
  intro s hg
  revert m
  refine ugood_ind (P := fun s => ∀ m, utrim s m ≤ s.length) (fun m => ?_) ?_ s hg
  · rw [utrim_zero rfl]; simp
  · intro s hg hf hg' ih m
    have hl := ufirst_le hf
    by_cases hk : ufirst s ≤ m
    · rw [utrim_go hf hk]
      have := ih (m - ufirst s)
      rw [List.length_drop] at this
      omega
    · rw [utrim_stop (by omega)]; omega
theorem utrim_all : ∀ s, ugood s = true → ∀ m, s.length ≤ m → utrim s m = s.length := by
  refine ugood_ind (fun m _ => ?_) ?_
  · rw [utrim_zero rfl]; rfl
  · intro s hg hf hg' ih m hm
    have hl := ufirst_le hf
    rw [utrim_go hf (by omega), ih _ (by rw [List.length_drop]; omega), List.length_drop]
    omega
/-- What is cut of a good one is good. -/
theorem utrim_good : ∀ s, ugood s = true → ∀ m, ugood (s.take (utrim s m)) = true := by
  refine ugood_ind (fun m => by simp [ugood_nil]) ?_
  intro s hg hf hg' ih m
  have hl := ufirst_le hf
  by_cases hk : ufirst s ≤ m
  · rw [utrim_go hf hk, List.take_add]
    have h1 : ufirst (s.take (ufirst s)) = ufirst s := ufirst_cut hf (Nat.le_refl _)
    have h2 : ugood (s.take (ufirst s)) = true := by
      rw [ugood_step (by rw [h1]; exact hf), h1, List.drop_eq_nil_of_le (by simp; omega)]
      exact ugood_nil
    rw [(ugood_append _ _ h2).1]
    exact ih _
  · rw [utrim_stop (by omega)]
    simp [ugood_nil]
end Go.PM
end

section
/-
  Plain laws of layer 7: the library's words for UTF-8 (Lib.validD, Lib.runeCount) are the document's.
-/
namespace Go.PM

/-- The model's decoding, of a list. -/
def udec (l : List UInt8) : Nat × Nat :=
  let at' (k : Nat) : Nat := (l.getD k 0).toNat
  let cont (k : Nat) : Bool := decide (k < l.length) && at' k / 64 == 2
  let b0 := at' 0
  if b0 < 0x80 then (b0, 1)
  else if b0 / 32 == 6 && cont 1 then
    let c := (b0 % 32) * 64 + at' 1 % 64
    if c ≥ 0x80 then (c, 2) else (Utf8.runeError, 1)
  else if b0 / 16 == 14 && cont 1 && cont 2 then
    let c := (b0 % 16) * 4096 + (at' 1 % 64) * 64 + at' 2 % 64
    if c ≥ 0x800 && Utf8.valid c then (c, 3) else (Utf8.runeError, 1)
  else if b0 / 8 == 30 && cont 1 && cont 2 && cont 3 then
    let c := (b0 % 8) * 262144 + (at' 1 % 64) * 4096 + (at' 2 % 64) * 64 + at' 3 % 64
    if c ≥ 0x10000 && Utf8.valid c then (c, 4) else (Utf8.runeError, 1)
  else (Utf8.runeError, 1)
theorem get_list (s : ByteArray) (i k : Nat) : s.get! (i + k) = (s.data.toList.drop i).getD k 0 := by
  rw [List.getD_eq_getElem?_getD, List.getElem?_drop, Array.getElem?_toList]
  show s.data[i + k]! = _
  rw [getElem!_def]
  cases s.data[i + k]? <;> rfl
theorem decode_list (s : ByteArray) (i : Nat) : Utf8.decode s i = udec (s.data.toList.drop i) := by
  have hl : ∀ k, decide (i + k < s.size) = decide (k < (s.data.toList.drop i).length) := fun k => by
    rw [List.length_drop, Array.length_toList]
    show decide (i + k < s.size) = decide (k < s.size - i)
    rw [decide_eq_decide]; omega
  unfold Utf8.decode udec
  simp only [get_list, hl]
theorem ucont_iff (b : UInt8) : (b.toNat / 64 == 2) = ucont b := by
  unfold ucont
  rw [Bool.eq_iff_iff]
  simp only [beq_iff_eq, Bool.and_eq_true, decide_eq_true_eq]
  omega
theorem uvalid_iff (n : Nat) : Utf8.valid (n : Int) = !(decide (1114111 < n) || (decide (55296 ≤ n) && decide (n < 57344))) := by
  unfold Utf8.valid
  rw [Bool.eq_iff_iff]
  simp only [Bool.or_eq_true, Bool.and_eq_true, decide_eq_true_eq, Bool.not_eq_true', Bool.or_eq_false_iff, decide_eq_false_iff_not, Bool.and_eq_false_imp]
  omega
theorem ucond (n least : Nat) : (decide (n ≥ least) && Utf8.valid (n : Int)) = !ubad n least := by
  rw [uvalid_iff]
  unfold ubad
  rw [Bool.eq_iff_iff]
  simp only [Bool.and_eq_true, decide_eq_true_eq, Bool.not_eq_true', Bool.or_eq_false_iff, decide_eq_false_iff_not, Bool.and_eq_false_imp]
  omega
theorem udec3 (a b c : UInt8) (r : List UInt8) (h1 : ¬ a.toNat < 128) (h2 : ¬ a.toNat / 32 = 6) (h3 : a.toNat / 16 = 14) :
    udec (a :: b :: c :: r) = if (ucont b && ucont c) = true then (if (!ubad ((a.toNat % 16) * 4096 + (b.toNat % 64) * 64 + c.toNat % 64) 2048) = true then ((a.toNat % 16) * 4096 + (b.toNat % 64) * 64 + c.toNat % 64, 3) else (65533, 1)) else (65533, 1) := by
  have e : udec (a :: b :: c :: r) = (if a.toNat < 0x80 then (a.toNat, 1)
    else if (a.toNat / 32 == 6 && (decide (1 < (a :: b :: c :: r).length) && b.toNat / 64 == 2)) = true then
      (if (a.toNat % 32) * 64 + b.toNat % 64 ≥ 0x80 then ((a.toNat % 32) * 64 + b.toNat % 64, 2) else (Utf8.runeError, 1))
    else if (a.toNat / 16 == 14 && (decide (1 < (a :: b :: c :: r).length) && b.toNat / 64 == 2) && (decide (2 < (a :: b :: c :: r).length) && c.toNat / 64 == 2)) = true then
      (if (decide ((a.toNat % 16) * 4096 + (b.toNat % 64) * 64 + c.toNat % 64 ≥ 0x800) && Utf8.valid (((a.toNat % 16) * 4096 + (b.toNat % 64) * 64 + c.toNat % 64 : Nat) : Int)) = true then ((a.toNat % 16) * 4096 + (b.toNat % 64) * 64 + c.toNat % 64, 3) else (Utf8.runeError, 1))
    else if (a.toNat / 8 == 30 && (decide (1 < (a :: b :: c :: r).length) && b.toNat / 64 == 2) && (decide (2 < (a :: b :: c :: r).length) && c.toNat / 64 == 2) && (decide (3 < (a :: b :: c :: r).length) && ((a :: b :: c :: r).getD 3 0).toNat / 64 == 2)) = true then
      (if (decide ((a.toNat % 8) * 262144 + (b.toNat % 64) * 4096 + (c.toNat % 64) * 64 + ((a :: b :: c :: r).getD 3 0).toNat % 64 ≥ 0x10000) && Utf8.valid (((a.toNat % 8) * 262144 + (b.toNat % 64) * 4096 + (c.toNat % 64) * 64 + ((a :: b :: c :: r).getD 3 0).toNat % 64 : Nat) : Int)) = true then
        ((a.toNat % 8) * 262144 + (b.toNat % 64) * 4096 + (c.toNat % 64) * 64 + ((a :: b :: c :: r).getD 3 0).toNat % 64, 4) else (Utf8.runeError, 1))
    else (Utf8.runeError, 1)) := rfl
  have l1 : decide (1 < (a :: b :: c :: r).length) = true := by simp
  have l2 : decide (2 < (a :: b :: c :: r).length) = true := by simp
  rw [e, if_neg h1, if_neg (by simp [h2]), ucont_iff, ucont_iff, ucond, l1, l2]
  have h4 : (a.toNat / 8 == 30) = false := by rw [beq_eq_false_iff_ne]; omega
  rw [show (a.toNat / 16 == 14) = true by simp [h3], h4]
  simp only [Bool.true_and, Bool.false_and]
  rw [if_neg (c := false = true) (by simp)]
  rfl
theorem udec4 (a b c d : UInt8) (r : List UInt8) (h1 : ¬ a.toNat < 128) (h2 : ¬ a.toNat / 32 = 6) (h3 : ¬ a.toNat / 16 = 14) (h4 : a.toNat / 8 = 30) :
    udec (a :: b :: c :: d :: r) = if (ucont b && ucont c && ucont d) = true then (if (!ubad ((a.toNat % 8) * 262144 + (b.toNat % 64) * 4096 + (c.toNat % 64) * 64 + d.toNat % 64) 65536) = true then
      ((a.toNat % 8) * 262144 + (b.toNat % 64) * 4096 + (c.toNat % 64) * 64 + d.toNat % 64, 4) else (65533, 1)) else (65533, 1) := by
  have e : udec (a :: b :: c :: d :: r) = (if a.toNat < 0x80 then (a.toNat, 1)
    else if (a.toNat / 32 == 6 && (decide (1 < (a :: b :: c :: d :: r).length) && b.toNat / 64 == 2)) = true then
      (if (a.toNat % 32) * 64 + b.toNat % 64 ≥ 0x80 then ((a.toNat % 32) * 64 + b.toNat % 64, 2) else (Utf8.runeError, 1))
    else if (a.toNat / 16 == 14 && (decide (1 < (a :: b :: c :: d :: r).length) && b.toNat / 64 == 2) && (decide (2 < (a :: b :: c :: d :: r).length) && c.toNat / 64 == 2)) = true then
      (if (decide ((a.toNat % 16) * 4096 + (b.toNat % 64) * 64 + c.toNat % 64 ≥ 0x800) && Utf8.valid (((a.toNat % 16) * 4096 + (b.toNat % 64) * 64 + c.toNat % 64 : Nat) : Int)) = true then ((a.toNat % 16) * 4096 + (b.toNat % 64) * 64 + c.toNat % 64, 3) else (Utf8.runeError, 1))
    else if (a.toNat / 8 == 30 && (decide (1 < (a :: b :: c :: d :: r).length) && b.toNat / 64 == 2) && (decide (2 < (a :: b :: c :: d :: r).length) && c.toNat / 64 == 2) && (decide (3 < (a :: b :: c :: d :: r).length) && d.toNat / 64 == 2)) = true then
      (if (decide ((a.toNat % 8) * 262144 + (b.toNat % 64) * 4096 + (c.toNat % 64) * 64 + d.toNat % 64 ≥ 0x10000) && Utf8.valid (((a.toNat % 8) * 262144 + (b.toNat % 64) * 4096 + (c.toNat % 64) * 64 + d.toNat % 64 : Nat) : Int)) = true then
        ((a.toNat % 8) * 262144 + (b.toNat % 64) * 4096 + (c.toNat % 64) * 64 + d.toNat % 64, 4) else (Utf8.runeError, 1))
    else (Utf8.runeError, 1)) := rfl
  have l1 : decide (1 < (a :: b :: c :: d :: r).length) = true := by simp
  have l2 : decide (2 < (a :: b :: c :: d :: r).length) = true := by simp
  have l3 : decide (3 < (a :: b :: c :: d :: r).length) = true := by simp
  rw [e, if_neg h1, if_neg (by simp [h2]), if_neg (by simp [h3]), ucont_iff, ucont_iff, ucont_iff, ucond, l1, l2, l3]
  rw [show (a.toNat / 8 == 30) = true by simp [h4]]
  simp only [Bool.true_and]
  rfl
theorem udec_first (a : UInt8) (r : List UInt8) : (udec (a :: r)).2 = max 1 (ufirst (a :: r)) ∧ (((udec (a :: r)).1 = 65533 ∧ (udec (a :: r)).2 = 1) ↔ ufirst (a :: r) = 0) := by
  by_cases h1 : a.toNat < 128
  · rw [ufirst_lo h1]
    unfold udec
    simp [h1]
    omega
  · rw [ufirst_hi h1]
    by_cases h2 : a.toNat / 32 = 6
    · have hc : uclass a.toNat = some (2, a.toNat - 192, 128) := by unfold uclass; rw [if_pos (by omega)]
      rw [hc]
      unfold udec
      match r with
      | [] => simp [h1, h2, uacc, Utf8.runeError]
      | b :: r =>
        by_cases hb : ucont b = true
        · have hbi := hb
          unfold ucont at hbi
          simp only [Bool.and_eq_true, decide_eq_true_eq] at hbi
          by_cases hn : 128 ≤ (a.toNat % 32) * 64 + b.toNat % 64
          · have hu : ubad (64 * (a.toNat - 192) + (b.toNat - 128)) 128 = false := by unfold ubad; simp; omega
            simp [h1, h2, uacc, ucont_iff, hb, hn, hu]
          · have hu : ubad (64 * (a.toNat - 192) + (b.toNat - 128)) 128 = true := by unfold ubad; simp; omega
            simp [h1, h2, uacc, ucont_iff, hb, hn, hu, Utf8.runeError]
        · simp [h1, h2, uacc, ucont_iff, hb, Utf8.runeError]
    · by_cases h3 : a.toNat / 16 = 14
      · have hc : uclass a.toNat = some (3, a.toNat - 224, 2048) := by unfold uclass; rw [if_neg (by omega), if_pos (by omega)]
        rw [hc]
        match r with
        | [] => simp [udec, h1, uacc, Utf8.runeError]
        | [b] =>
          by_cases hb : ucont b = true
          · simp [udec, h1, h2, uacc, ucont_iff, hb, Utf8.runeError]
          · simp [udec, h1, uacc, ucont_iff, hb, Utf8.runeError]
        | b :: c :: r =>
          rw [udec3 a b c r h1 h2 h3]
          by_cases hb : ucont b = true
          · by_cases hd : ucont c = true
            · have hbi := hb
              have hdi := hd
              unfold ucont at hbi hdi
              simp only [Bool.and_eq_true, decide_eq_true_eq] at hbi hdi
              have e : 64 * (64 * (a.toNat - 224) + (b.toNat - 128)) + (c.toNat - 128) = (a.toNat % 16) * 4096 + (b.toNat % 64) * 64 + c.toNat % 64 := by omega
              simp only [uacc, hb, hd, e, if_true, Bool.and_self, Nat.add_one_sub_one]
              cases ubad ((a.toNat % 16) * 4096 + (b.toNat % 64) * 64 + c.toNat % 64) 2048 <;> simp
            · simp [uacc, hb, hd]
          · simp [uacc, hb]
      · by_cases h4 : a.toNat / 8 = 30
        · have hc : uclass a.toNat = some (4, a.toNat - 240, 65536) := by unfold uclass; rw [if_neg (by omega), if_neg (by omega), if_pos (by omega)]
          rw [hc]
          match r with
          | [] => simp [udec, h1, uacc, Utf8.runeError]
          | [b] =>
            by_cases hb : ucont b = true
            · simp [udec, h1, h2, uacc, ucont_iff, hb, Utf8.runeError]
            · simp [udec, h1, uacc, ucont_iff, hb, Utf8.runeError]
          | [b, c] => by_cases hb : ucont b = true <;> by_cases hd : ucont c = true <;> simp [udec, h1, h2, h3, uacc, ucont_iff, hb, hd, Utf8.runeError]
          | b :: c :: d :: r =>
            rw [udec4 a b c d r h1 h2 h3 h4]
            by_cases hb : ucont b = true
            · by_cases hd : ucont c = true
              · by_cases hf : ucont d = true
                · have hbi := hb
                  have hdi := hd
                  have hfi := hf
                  unfold ucont at hbi hdi hfi
                  simp only [Bool.and_eq_true, decide_eq_true_eq] at hbi hdi hfi
                  have e : 64 * (64 * (64 * (a.toNat - 240) + (b.toNat - 128)) + (c.toNat - 128)) + (d.toNat - 128) = (a.toNat % 8) * 262144 + (b.toNat % 64) * 4096 + (c.toNat % 64) * 64 + d.toNat % 64 := by omega
                  simp only [uacc, hb, hd, hf, e, if_true, Bool.and_self, Nat.add_one_sub_one]
                  cases ubad ((a.toNat % 8) * 262144 + (b.toNat % 64) * 4096 + (c.toNat % 64) * 64 + d.toNat % 64) 65536 <;> simp
                · simp [uacc, hb, hd, hf]
              · simp [uacc, hb, hd]
            · simp [uacc, hb]
        · have hc : uclass a.toNat = none := by unfold uclass; rw [if_neg (by omega), if_neg (by omega), if_neg (by omega)]
          rw [hc]
          simp [udec, h1, h2, h3, h4, Utf8.runeError]
theorem decode_first (s : ByteArray) (i : Nat) (h : i < s.size) : (Utf8.decode s i).2 = max 1 (ufirst (s.data.toList.drop i)) ∧ (((Utf8.decode s i).1 = 65533 ∧ (Utf8.decode s i).2 = 1) ↔ ufirst (s.data.toList.drop i) = 0) := by
  rw [decode_list]
  cases hl : s.data.toList.drop i with
  | nil =>
    have := congrArg List.length hl
    rw [List.length_drop, Array.length_toList] at this
    have e : s.data.size = s.size := rfl
    simp at this
    omega
  | cons a r => exact udec_first a r

theorem validGo_good : ∀ (n : Nat) (l : List UInt8), l.length ≤ n → Lib.validGoD n l = ugood l
  | 0, l, h => by
    have : l = [] := List.eq_nil_of_length_eq_zero (by omega)
    subst this
    rw [ugood_nil]; rfl
  | n + 1, l, h => by
    rw [Lib.validGoD]
    by_cases hl : l = []
    · rw [if_pos hl, hl, ugood_nil]
    · rw [if_neg hl]
      have hd : (Lib.decodeL l).2 = max 1 (ufirst l) ∧ (((Lib.decodeL l).1 = 65533 ∧ (Lib.decodeL l).2 = 1) ↔ ufirst l = 0) := by
        have := decode_first ⟨l.toArray⟩ 0 (by show 0 < l.toArray.size; rw [List.size_toArray]; exact Nat.pos_of_ne_zero fun e => hl (List.eq_nil_of_length_eq_zero e))
        exact this
      by_cases h0 : ufirst l = 0
      · rw [if_pos (hd.2.2 h0), ugood_zero h0 hl]
      · rw [if_neg (fun e => h0 (hd.2.1 e)), hd.1, ugood_step h0]
        have hk := ufirst_le h0
        rw [Nat.max_eq_right hk.1]
        exact validGo_good n _ (by rw [List.length_drop]; omega)
theorem valid_good (l : List UInt8) : Lib.validD l = ugood l := validGo_good _ l (Nat.le_refl _)
theorem runeFrom_count (s : ByteArray) : ∀ (n i : Nat), s.size ≤ i + n → Lib.runeCountFrom s n i = ucount (s.data.toList.drop i)
  | 0, i, h => by
    rw [List.drop_eq_nil_of_le (by rw [Array.length_toList]; exact h), ucount_nil]; rfl
  | n + 1, i, h => by
    rw [Lib.runeCountFrom]
    by_cases hi : i < s.size
    · have hd := decode_first s i hi
      rw [if_pos hi, hd.1, runeFrom_count s n _ (by omega)]
      have hne : s.data.toList.drop i ≠ [] := fun e => by
        have := congrArg List.length e
        rw [List.length_drop, Array.length_toList] at this
        have e : s.data.size = s.size := rfl
        simp at this
        omega
      rw [ucount_step hne, List.drop_drop]
    · rw [if_neg hi, List.drop_eq_nil_of_le (by rw [Array.length_toList]; exact Nat.le_of_not_lt hi), ucount_nil]
theorem rune_count (s : ByteArray) : Lib.runeCount s = ucount s.data.toList := by
  unfold Lib.runeCount
  rw [runeFrom_count s s.size 0 (by omega), List.drop_zero]
end Go.PM
end

section
/-
  Contracts of layer 7 (utf). Conditions: texts within int; Go's two tables of UTF-8 lie in memory as its text lays them.
-/
namespace Go.Proofs.YtigbifiicbghpaaDoor
open Go.RowKit Go.PM
set_option maxRecDepth 100000
set_option maxHeartbeats 1000000

/-- Go's tables of UTF-8. -/
def Tabs (w : World) : Prop := Lib.Utf8Tabs (Tryd.lays196_ren.g 3) (Tryd.lays196_ren.g 4) w
theorem Tabs.below {w w' : World} (h : Tabs w) (hb : Below w.heap.size w w') : Tabs w' := by
  refine ⟨fun c hc => ?_, fun i hi => ?_⟩
  · have := h.1 c hc
    exact (hb.cell (p := ⟨_, c, none⟩) (World.block_lt_of_cell? w _ this)).trans this
  · have h1 := (h.2 i hi).1
    have h2 := (h.2 i hi).2
    exact ⟨(hb.cell (p := ⟨_, 2 * i, none⟩) (World.block_lt_of_cell? w _ h1)).trans h1, (hb.cell (p := ⟨_, 2 * i + 1, none⟩) (World.block_lt_of_cell? w _ h2)).trans h2⟩
theorem good_any (s : ByteArray) (w : World) (hs : s.size ≤ 9223372036854775807) (hT : Tabs w) :
    Calls Tryd.prog 53 #[.string s] w fun e w' => e = .returned (.bool (ugood s.data.toList)) ∧ Below w.heap.size w w' := by
  have HV : Hid (Calls Tryd.prog 70 #[.string s] w fun e w' => e = .returned (.bool (ugood s.data.toList)) ∧ Below w.heap.size w w') := by
    show Calls _ _ _ _ _
    have := Any.utf8_ValidString Tryd.lays196 s w hs hT
    rw [valid_good] at this
    exact this
  generalize ugood s.data.toList = g at HV ⊢
  clear hT
  go_enter Tryd.func53, Tryd.ntmps53
  go_wp2_with fail
  refine HV.out.mono ?_
  rintro e w1 ⟨rfl, hb⟩
  go_wp2
  go_ret
  exact ⟨rfl, hb⟩
/-- Where the program cuts. -/
def pcut (l : List UInt8) (most : Int) : Nat := if most < 0 then 0 else if (l.length : Int) ≤ most then l.length else ptrim l most.toNat
theorem rune_start (b : UInt8) : Lib.runeStart (b.toNat : Int) = !ucont b := by
  unfold Lib.runeStart ucont
  rw [Bool.eq_iff_iff]
  simp
  omega

/-- What a text may be. -/
def uchk (l : List UInt8) (least most : Int) : Int := if (l.length : Int) < least ∨ most < l.length then 13 else if ugood l then 0 else 11
theorem ucheck_any (s : ByteArray) (least most : Int) (w : World) (hs : s.size ≤ 9223372036854775807) (hT : Tabs w) :
    Calls Tryd.prog 43 #[.string s, .int .i64 least, .int .i64 most] w fun e w' => e = .returned (.int .i64 (uchk s.data.toList least most)) ∧ Below w.heap.size w w' := by
  unfold uchk
  rw [len_list]
  have HG : Hid (Calls Tryd.prog 53 #[.string s] w fun e w' => e = .returned (.bool (ugood s.data.toList)) ∧ Below w.heap.size w w') := good_any s w hs hT
  clear hT
  by_cases h1 : (s.size : Int) < least
  · rw [if_pos (.inl h1)]
    go_enter Tryd.func43, Tryd.ntmps43
    go_wp2
    go_ret
    exact ⟨rfl, b0⟩
  · by_cases h2 : most < (s.size : Int)
    · rw [if_pos (.inr h2)]
      go_enter Tryd.func43, Tryd.ntmps43
      go_wp2
      go_ret
      exact ⟨rfl, b0⟩
    · rw [if_neg (by omega)]
      cases hg : ugood s.data.toList with
      | true =>
        rw [hg] at HG
        clear hg
        go_enter Tryd.func43, Tryd.ntmps43
        go_wp2_with fail
        refine HG.out.mono ?_
        rintro e w1 ⟨rfl, hb⟩
        go_wp2
        go_ret
        exact ⟨rfl, hb⟩
      | false =>
        rw [hg] at HG
        clear hg
        go_enter Tryd.func43, Tryd.ntmps43
        go_wp2_with fail
        refine HG.out.mono ?_
        rintro e w1 ⟨rfl, hb⟩
        go_wp2
        go_ret
        exact ⟨rfl, hb⟩

/-! ### The document's answer -/
/-- So great is the number behind k bytes, at most. -/
def ub : Nat → Nat
  | 1 => 31
  | 2 => 2047
  | 3 => 131071
  | _ => 8388607
theorem ub_step {k m d : Nat} (h1 : 1 ≤ k) (h2 : k < 4) (hm : m ≤ ub k) (hd : d < 64) : 64 * m + d ≤ ub (k + 1) := by
  match k, h1, h2, hm with
  | 1, _, _, hm => simp [ub] at hm ⊢; omega
  | 2, _, _, hm => simp [ub] at hm ⊢; omega
  | 3, _, _, hm => simp [ub] at hm ⊢; omega
theorem ub_le (k : Nat) : ub k ≤ 8388607 := by
  unfold ub
  split <;> omega
/-- On the way through a code point's bytes. -/
def Ua (l : List UInt8) (size n0 k m : Nat) : Prop := 1 ≤ k ∧ k ≤ size ∧ m ≤ ub k ∧ uacc m (size - k) (l.drop k) = uacc n0 (size - 1) (l.drop 1)
theorem Ua.no {l : List UInt8} {size n0 k m : Nat} (h : Ua l size n0 k m) (hk : k < size) (hl : k < l.length) (hc : ucont l[k] = false) : uacc n0 (size - 1) (l.drop 1) = none := by
  rw [← h.2.2.2, show size - k = (size - k - 1) + 1 by omega, List.drop_eq_getElem_cons hl, uacc, if_neg (by rw [hc]; simp)]
theorem Ua.next {l : List UInt8} {size n0 k m : Nat} (h : Ua l size n0 k m) (hs : size ≤ 4) (hk : k < size) (hl : k < l.length) (hc : ucont l[k] = true) : Ua l size n0 (k + 1) (64 * m + (l[k].toNat - 128)) := by
  refine ⟨by omega, by omega, ub_step h.1 (by omega) h.2.2.1 ?_, ?_⟩
  · unfold ucont at hc
    simp at hc
    omega
  · rw [← h.2.2.2, show size - k = (size - k - 1) + 1 by omega, List.drop_eq_getElem_cons hl, uacc, if_pos hc, show size - (k + 1) = size - k - 1 by omega]
theorem Ua.end_ {l : List UInt8} {size n0 m : Nat} (h : Ua l size n0 size m) : uacc n0 (size - 1) (l.drop 1) = some m := by
  rw [← h.2.2.2, Nat.sub_self]
  cases l.drop size <;> rfl
end Go.Proofs.YtigbifiicbghpaaDoor
end

section
/-
  The document's answers of layer 7, walked. Conditions: texts within int.
-/
namespace Go.Proofs.YtigbifiicbghpaaDoor
open Go.RowKit Go.PM
set_option maxRecDepth 100000
set_option maxHeartbeats 1000000

theorem list_cons (s : ByteArray) (h : 0 < s.size) : s.data.toList = s[0] :: s.data.toList.drop 1 := by
  have := List.drop_eq_getElem_cons (l := s.data.toList) (i := 0) (by rw [len_list]; exact h)
  rw [List.drop_zero] at this
  exact this
theorem get_at (s : ByteArray) (k : Nat) (_ : k < s.size) (h' : k < s.data.toList.length) : s.data.toList[k] = s[k] := by simp; rfl
end Go.Proofs.YtigbifiicbghpaaDoor
end

section
/-
  The document's answers of layer 7 over whole texts, walked. Conditions: texts within int.
-/
namespace Go.Proofs.YtigbifiicbghpaaDoor
open Go.RowKit Go.PM
set_option maxRecDepth 100000
set_option maxHeartbeats 1000000

theorem list_nil {t : ByteArray} (h : t.size = 0) : t.data.toList = [] := List.eq_nil_of_length_eq_zero (by rw [len_list]; exact h)
theorem list_ne {t : ByteArray} (h : ¬ t.size = 0) : t.data.toList ≠ [] := fun e => h (by rw [← len_list, e]; rfl)

/-- Where the document cuts a good text. -/
def rcut (l : List UInt8) (most : Int) : Nat := if most < 0 then 0 else utrim l most.toNat
theorem pcut_rcut (l : List UInt8) (most : Int) (h : ugood l = true) : pcut l most = rcut l most := by
  unfold pcut rcut
  by_cases h0 : most < 0
  · rw [if_pos h0, if_pos h0]
  · rw [if_neg h0, if_neg h0]
    by_cases h1 : (l.length : Int) ≤ most
    · rw [if_pos h1, utrim_all l h _ (by omega)]
    · rw [if_neg h1, ptrim_utrim l h _ (by omega)]
theorem pcut_good (l : List UInt8) (most : Int) (h : ugood l = true) : ugood (l.take (pcut l most)) = true := by
  rw [pcut_rcut l most h]
  unfold rcut
  split
  · simp [ugood_nil]
  · exact utrim_good l h _
theorem pcut_le (l : List UInt8) (most : Int) : pcut l most ≤ l.length ∧ (pcut l most : Int) ≤ max most 0 := by
  unfold pcut
  split
  · omega
  · split
    · omega
    · have := ptrim_le l most.toNat
      omega
end Go.Proofs.YtigbifiicbghpaaDoor
end

section
/-
  The walks of the statements of layer 7. Conditions: texts as they come in; Go's tables of UTF-8 lie in memory.
-/
namespace Go.Proofs.YtigbifiicbghpaaDoor
open Go.RowKit Go.PM
set_option maxRecDepth 100000
set_option maxHeartbeats 1000000

theorem good_no : ugood [192, 128] = false := ugood_zero (by decide) (by decide)
theorem good_yes : ugood [97, 0, 195, 169] = true := by
  rw [ugood_step (by decide)]
  show ugood [0, 195, 169] = true
  rw [ugood_step (by decide)]
  show ugood [195, 169] = true
  rw [ugood_step (by decide)]
  exact ugood_nil
theorem awake07 (w : World) (hT : Tabs w) :
    Calls Tryd.prog 84 #[] w fun e w' => e = .returned (.bool true) ∧ Below w.heap.size w w' := by
  have HT := Lib.hid hT
  clear hT
  go_enter Tryd.func84, Tryd.ntmps84
  go_wp2_with fail
  refine (awakeE06 _).mono ?_
  rintro e w1 ⟨rfl, hb1⟩
  have h1 := good_any ⟨#[192, 128]⟩ w1 (by decide) (HT.out.below hb1)
  rw [show (ByteArray.mk #[192, 128]).data.toList = [192, 128] from rfl, good_no] at h1
  have H1 := Lib.hid h1
  clear h1
  go_wp2_with fail
  refine H1.out.mono ?_
  rintro e w2 ⟨rfl, hb2⟩
  replace hb2 := bb hb1 hb2
  have h2 := good_any ⟨#[97, 0, 195, 169]⟩ w2 (by decide) (HT.out.below hb2)
  rw [show (ByteArray.mk #[97, 0, 195, 169]).data.toList = [97, 0, 195, 169] from rfl, good_yes] at h2
  have H2 := Lib.hid h2
  clear h2 H1
  go_wp2_with fail
  refine H2.out.mono ?_
  rintro e w3 ⟨rfl, hb3⟩
  replace hb3 := bb hb2 hb3
  go_wp2
  go_ret
  exact ⟨rfl, hb3⟩
theorem awakeE07 (w : World) (hT : Tabs w) : Calls Tryd.prog 82 #[] w fun e w' => e = .returned (.bool true) ∧ Below w.heap.size w w' := by
  have H := Lib.hid (awake07 w hT)
  clear hT
  go_enter Tryd.func82, Tryd.ntmps82
  go_wp2_with fail
  refine H.out.mono ?_
  rintro e w' ⟨rfl, hb⟩
  go_wp2
  go_ret
  exact ⟨rfl, hb⟩
theorem prefix_take (l : List UInt8) (n : Nat) : Lib.hasPrefix l (l.take n) = true := by
  unfold Lib.hasPrefix
  rw [List.isPrefixOf_iff_prefix]
  exact List.take_prefix n l
end Go.Proofs.YtigbifiicbghpaaDoor
end

section
/-
  The walks of the statements of layer 8: the chapter's example; whether fields may be, how deep they stand, how many they are, whether they are the same. Conditions: numbers within their kinds; Go's tables of UTF-8 lie in memory.
-/
namespace Go.PM
open Go.RowKit
theorem slv_blk {w : World} {I : Nat → Prop} {g : Nat} {t : TypeId} {cs : Array Value} {f : Fs} {c : Nat} (hb : BlkAt w g t cs) (hc : Cls w I cs.toList f) (hI : I g) (hl : f.len ≤ c) : SlV w I (.slice (some ⟨g, 0, none⟩) f.len c) f :=
  ⟨_, c, rfl, hl, .inr ⟨g, 0, rfl, hI, hb.lt, hc.at_ (by intro j u hj; rw [Nat.zero_add, hb.cell j, ← Array.getElem?_toList]; exact hj)⟩⟩
theorem few_ok {l : List One} (h : few l = true) : (∀ x ∈ l, x.text.size ≤ 300) ∧ l.length ≤ 60 := by
  unfold few at h
  rw [Bool.and_eq_true, List.all_eq_true] at h
  exact ⟨fun x hx => by simpa using h.1 x hx, by simpa using h.2⟩
def fnum (t n : Nat) (r : Fs) : Fs := .cons t 0 n ByteArray.empty .nil r
end Go.PM
namespace Go.Proofs.YtigbifiicbghpaaDoor
open Go.RowKit Go.PM
set_option maxRecDepth 100000
set_option maxHeartbeats 4000000

theorem ofnum_any (t n : Nat) (w : World) :
    Calls Tryd.prog 29 #[.int .u64 (t : Int), .int .u64 (n : Int)] w fun e w' => e = .returned (.agg #[.int .u64 (t : Int), .int .i64 0, .int .u64 (n : Int), .string ByteArray.empty, .slice none 0 0]) ∧ Below w.heap.size w w' := by
  go_enter Tryd.func29, Tryd.ntmps29
  go_wp2
  exact bodyPost_ret (v := .agg #[.int .u64 (t : Int), .int .i64 0, .int .u64 (n : Int), .string ByteArray.empty, .slice none 0 0]) (by simp [results, Tryd.results29, go_sem]; try rfl) rfl ⟨rfl, ba b0 _⟩
theorem two_nums (a b : Nat) (w : World) : SlV (w.alloc (.cells #[.int .u64 (a : Int), .int .i64 0, .int .u64 0, .string ByteArray.empty, .slice none 0 0, .int .u64 (b : Int), .int .i64 0, .int .u64 0, .string ByteArray.empty, .slice none 0 0] 47)) (fun _ => True) (.slice (some ⟨w.heap.size, 0, none⟩) 2 2) (fnum a 0 (fnum b 0 .nil)) := by
  have hb := BlkAt.made w 47 #[.int .u64 (a : Int), .int .i64 0, .int .u64 0, .string ByteArray.empty, .slice none 0 0, .int .u64 (b : Int), .int .i64 0, .int .u64 0, .string ByteArray.empty, .slice none 0 0]
  exact slv_blk (f := fnum a 0 (fnum b 0 .nil)) hb ⟨rfl, rfl, rfl, rfl, SlV.nil _ _ _ _, rfl, rfl, rfl, rfl, SlV.nil _ _ _ _, trivial⟩ trivial (Nat.le_refl 2)
theorem awake08 (w : World) (hT : Tabs w) :
    Calls Tryd.prog 74 #[] w fun e w' => e = .returned (.bool true) ∧ Below w.heap.size w w' := by
  have HT := Lib.hid (awakeE07 w hT)
  have H1 : Hid (∀ W : World, Calls Tryd.prog 14 #[.slice (some ⟨W.heap.size, 0, none⟩) 2 2] (W.alloc (.cells #[.int .u64 2, .int .i64 0, .int .u64 0, .string ByteArray.empty, .slice none 0 0, .int .u64 1, .int .i64 0, .int .u64 0, .string ByteArray.empty, .slice none 0 0] 47)) fun e w' => e = .returned (.int .i64 7) ∧ Below (W.heap.size + 1) (W.alloc (.cells #[.int .u64 2, .int .i64 0, .int .u64 0, .string ByteArray.empty, .slice none 0 0, .int .u64 1, .int .i64 0, .int .u64 0, .string ByteArray.empty, .slice none 0 0] 47)) w') := fun W => by
    have := check_of _ _ _ _ (two_nums 2 1 W) ⟨⟨by unfold In64; omega, by unfold InI64; omega, by unfold In64; omega, by decide⟩, trivial, ⟨by unfold In64; omega, by unfold InI64; omega, by unfold In64; omega, by decide⟩, trivial, trivial⟩ (by decide)
    rw [show fcheck (fnum 2 0 (fnum 1 0 .nil)) 0 0 = 7 by decide] at this
    refine this.mono fun e w' h => ?_
    rw [World.size_alloc] at h
    exact h
  have H2 : Hid (∀ W : World, Calls Tryd.prog 14 #[.slice (some ⟨W.heap.size, 0, none⟩) 2 2] (W.alloc (.cells #[.int .u64 1, .int .i64 0, .int .u64 0, .string ByteArray.empty, .slice none 0 0, .int .u64 2, .int .i64 0, .int .u64 0, .string ByteArray.empty, .slice none 0 0] 47)) fun e w' => e = .returned (.int .i64 0) ∧ Below (W.heap.size + 1) (W.alloc (.cells #[.int .u64 1, .int .i64 0, .int .u64 0, .string ByteArray.empty, .slice none 0 0, .int .u64 2, .int .i64 0, .int .u64 0, .string ByteArray.empty, .slice none 0 0] 47)) w') := fun W => by
    have := check_of _ _ _ _ (two_nums 1 2 W) ⟨⟨by unfold In64; omega, by unfold InI64; omega, by unfold In64; omega, by decide⟩, trivial, ⟨by unfold In64; omega, by unfold InI64; omega, by unfold In64; omega, by decide⟩, trivial, trivial⟩ (by decide)
    rw [show fcheck (fnum 1 0 (fnum 2 0 .nil)) 0 0 = 0 by decide] at this
    refine this.mono fun e w' h => ?_
    rw [World.size_alloc] at h
    exact h
  have hb1 : Below w.heap.size w w := b0
  clear hT
  go_enter Tryd.func74, Tryd.ntmps74
  go_wp2_with fail
  refine (HT.out).mono ?_
  rintro e w1 ⟨rfl, hb2⟩
  replace hb1 := bb hb1 hb2
  clear hb2
  go_wp2_with fail
  refine (ofnum_any 2 0 _).mono ?_
  rintro e w2 ⟨rfl, hb2⟩
  replace hb1 := bb hb1 hb2
  clear hb2
  go_wp2_with fail
  refine (ofnum_any 1 0 _).mono ?_
  rintro e w3 ⟨rfl, hb2⟩
  replace hb1 := bb hb1 hb2
  clear hb2
  go_wp2_with fail
  refine (H1.out _).mono ?_
  rintro e w4 ⟨rfl, hb2⟩
  replace hb1 := bb hb1 (bb (ba b0 _) (by rw [World.size_alloc]; exact hb2))
  clear hb2
  go_wp2_with fail
  refine (ofnum_any 1 0 _).mono ?_
  rintro e w5 ⟨rfl, hb2⟩
  replace hb1 := bb hb1 hb2
  clear hb2
  go_wp2_with fail
  refine (ofnum_any 2 0 _).mono ?_
  rintro e w6 ⟨rfl, hb2⟩
  replace hb1 := bb hb1 hb2
  clear hb2
  go_wp2_with fail
  refine (H2.out _).mono ?_
  rintro e w7 ⟨rfl, hb2⟩
  replace hb1 := bb hb1 (bb (ba b0 _) (by rw [World.size_alloc]; exact hb2))
  clear hb2
  go_wp2
  go_ret
  exact ⟨rfl, hb1⟩
theorem awakeE08 (w : World) (hT : Tabs w) : Calls Tryd.prog 57 #[] w fun e w' => e = .returned (.bool true) ∧ Below w.heap.size w w' := by
  have H := Lib.hid (awake08 w hT)
  clear hT
  go_enter Tryd.func57, Tryd.ntmps57
  go_wp2_with fail
  refine H.out.mono ?_
  rintro e w' ⟨rfl, hb⟩
  go_wp2
  go_ret
  exact ⟨rfl, hb⟩
end Go.Proofs.YtigbifiicbghpaaDoor
end
