/-
  Texts of the proof, joined: PlainWire FCheckP CloneF CloneG FApp. Conditions: as each names.
-/
import Derived.Test.YtmlijflappjfoaaDoorBac
import Derived.Test.YtmlijflappjfoaaDoorBab
import Derived.Test.YtmlijflappjfoaaDoorBad
import Derived.Deep.DeepAppendWide
import Derived.Deep.AppendSrc

section
/-
  Plain laws of fields as bytes: their writing, what a text reads as, there and back. No program in sight.
-/
namespace Go.PM
/-- Fields that may be, as they are written. -/
def ftx : Fs → List UInt8
  | .nil => []
  | .cons t y n s i r => vput (4 * t + y.toNat) ++ ((if y = 0 then vput n else if y = 1 then vput s.size ++ s.data.toList else vput (ftx i).length ++ ftx i) ++ ftx r)
theorem ftx_app : ∀ f g : Fs, ftx (f.app g) = ftx f ++ ftx g
  | .nil, g => rfl
  | .cons t y n s i r, g => by simp only [Fs.app, ftx, ftx_app r g, List.append_assoc]
/-- A head's tag; the last one's tag. -/
def Fs.tag : Fs → Nat
  | .nil => 0
  | .cons t _ _ _ _ _ => t
def Fs.last : Fs → Nat → Nat
  | .nil, l => l
  | .cons t _ _ _ _ r, _ => r.last t
/-- Fields that may be, above a tag, within so many lists: as a fact. -/
def fcheckP : Fs → Nat → Nat → Prop
  | .nil, _, _ => True
  | .cons t y n s i r, ahead, within => (ahead < t ∧ 0 < t ∧ t ≤ 4294967296 ∧ In64 n ∧ (y = 0 ∧ s = ByteArray.empty ∧ i = .nil ∨ y = 1 ∧ n = 0 ∧ i = .nil ∧ s.size ≤ 9223372036854775807 ∨ y = 2 ∧ n = 0 ∧ s = ByteArray.empty ∧ within < 8 ∧ fcheckP i 0 (within + 1))) ∧ fcheckP r t within
/-- The field that a text begins with, where the text of a list reads so: the field, how many bytes, the code. -/
def fone (rec : List UInt8 → Fs × Nat) (s : List UInt8) (deep last : Nat) : Fs × Nat × Nat :=
  if (vget s).2.2 ≠ 0 then (.nil, 0, (vget s).2.2)
  else if (vget s).1 / 4 = 0 ∨ 4294967296 < (vget s).1 / 4 then (.nil, 0, 18)
  else if (vget s).1 % 4 = 3 then (.nil, 0, 8)
  else if (vget s).1 / 4 ≤ last then (.nil, 0, 7)
  else if (vget (s.drop (vget s).2.1)).2.2 ≠ 0 then (.nil, 0, (vget (s.drop (vget s).2.1)).2.2)
  else if (vget s).1 % 4 = 0 then (.cons ((vget s).1 / 4) 0 (vget (s.drop (vget s).2.1)).1 ByteArray.empty .nil .nil, (vget s).2.1 + (vget (s.drop (vget s).2.1)).2.1, 0)
  else if s.length - ((vget s).2.1 + (vget (s.drop (vget s).2.1)).2.1) < (vget (s.drop (vget s).2.1)).1 then (.nil, 0, 1)
  else if (vget s).1 % 4 = 1 then (.cons ((vget s).1 / 4) 1 0 (txt ((s.drop ((vget s).2.1 + (vget (s.drop (vget s).2.1)).2.1)).take (vget (s.drop (vget s).2.1)).1)) .nil .nil, (vget s).2.1 + (vget (s.drop (vget s).2.1)).2.1 + (vget (s.drop (vget s).2.1)).1, 0)
  else if deep = 8 then (.nil, 0, 9)
  else if (rec ((s.drop ((vget s).2.1 + (vget (s.drop (vget s).2.1)).2.1)).take (vget (s.drop (vget s).2.1)).1)).2 ≠ 0 then (.nil, 0, (rec ((s.drop ((vget s).2.1 + (vget (s.drop (vget s).2.1)).2.1)).take (vget (s.drop (vget s).2.1)).1)).2)
  else (.cons ((vget s).1 / 4) 2 0 ByteArray.empty (rec ((s.drop ((vget s).2.1 + (vget (s.drop (vget s).2.1)).2.1)).take (vget (s.drop (vget s).2.1)).1)).1 .nil, (vget s).2.1 + (vget (s.drop (vget s).2.1)).2.1 + (vget (s.drop (vget s).2.1)).1, 0)
/-- One, and the others behind it. -/
def fthen (f : Fs) (q : Fs × Nat) : Fs × Nat := if q.2 ≠ 0 then (.nil, q.2) else (f.app q.1, 0)
theorem fthen_ok {f : Fs} {q : Fs × Nat} (h : (fthen f q).2 = 0) : q.2 = 0 ∧ fthen f q = (f.app q.1, 0) := by
  unfold fthen at h ⊢
  by_cases e : q.2 ≠ 0
  · rw [if_pos e] at h; exact absurd h e
  · rw [if_neg e]; exact ⟨Classical.not_not.1 e, rfl⟩
theorem fthen_err {f : Fs} {q : Fs × Nat} (h : q.2 ≠ 0) : fthen f q = (.nil, q.2) := by unfold fthen; rw [if_pos h]
theorem fthen_yes {f : Fs} {q : Fs × Nat} (h : q.2 = 0) : fthen f q = (f.app q.1, 0) := by unfold fthen; rw [if_neg (by rw [h]; simp)]
def fgetN : Nat → List UInt8 → Nat → Nat → Fs × Nat
  | 0, _, _, _ => (.nil, 0)
  | N + 1, s, deep, last =>
    if s.length = 0 then (.nil, 0)
    else if (fone (fun t => fgetN N t (deep + 1) 0) s deep last).2.2 ≠ 0 then (.nil, (fone (fun t => fgetN N t (deep + 1) 0) s deep last).2.2)
    else fthen (fone (fun t => fgetN N t (deep + 1) 0) s deep last).1 (fgetN N (s.drop (fone (fun t => fgetN N t (deep + 1) 0) s deep last).2.1) deep (fone (fun t => fgetN N t (deep + 1) 0) s deep last).1.tag)
/-- The fields that a text is. -/
def fget (s : List UInt8) (deep last : Nat) : Fs × Nat := fgetN s.length s deep last
/-- The field that a text begins with. -/
def ffirst (s : List UInt8) (deep last : Nat) : Fs × Nat × Nat := fone (fun t => fget t (deep + 1) 0) s deep last

theorem fone_congr {rec rec' : List UInt8 → Fs × Nat} {s : List UInt8} (deep last : Nat) (h : ∀ t : List UInt8, t.length + 2 ≤ s.length → rec t = rec' t) : fone rec s deep last = fone rec' s deep last := by
  unfold fone
  by_cases h1 : (vget s).2.2 ≠ 0
  · rw [if_pos h1, if_pos h1]
  rw [if_neg h1, if_neg h1]
  have o1 := vget_ok (Classical.not_not.1 h1)
  by_cases h2 : (vget s).1 / 4 = 0 ∨ 4294967296 < (vget s).1 / 4
  · rw [if_pos h2, if_pos h2]
  rw [if_neg h2, if_neg h2]
  by_cases h3 : (vget s).1 % 4 = 3
  · rw [if_pos h3, if_pos h3]
  rw [if_neg h3, if_neg h3]
  by_cases h4 : (vget s).1 / 4 ≤ last
  · rw [if_pos h4, if_pos h4]
  rw [if_neg h4, if_neg h4]
  by_cases h5 : (vget (s.drop (vget s).2.1)).2.2 ≠ 0
  · rw [if_pos h5, if_pos h5]
  rw [if_neg h5, if_neg h5]
  have o2 := vget_ok (Classical.not_not.1 h5)
  rw [List.length_drop] at o2
  rw [h ((s.drop ((vget s).2.1 + (vget (s.drop (vget s).2.1)).2.1)).take (vget (s.drop (vget s).2.1)).1) (by rw [List.length_take, List.length_drop]; omega)]
/-- What a field that was read is. -/
theorem fone_ok {rec : List UInt8 → Fs × Nat} {s : List UInt8} {deep last : Nat} (h : (fone rec s deep last).2.2 = 0) :
    ∃ (t : Nat) (y : Int) (n : Nat) (x : ByteArray) (i : Fs) (k : Nat), fone rec s deep last = (.cons t y n x i .nil, k, 0) ∧ 2 ≤ k ∧ k ≤ s.length ∧ last < t ∧ 0 < t ∧ t ≤ 4294967296 ∧ In64 n ∧
      (y = 0 ∧ x = ByteArray.empty ∧ i = .nil ∧ s.take k = vput (4 * t) ++ vput n ∨
       y = 1 ∧ n = 0 ∧ i = .nil ∧ x.size ≤ s.length ∧ s.take k = vput (4 * t + 1) ++ (vput x.size ++ x.data.toList) ∨
       y = 2 ∧ n = 0 ∧ x = ByteArray.empty ∧ deep ≠ 8 ∧ ∃ u : List UInt8, u.length + 2 ≤ s.length ∧ rec u = (i, 0) ∧ s.take k = vput (4 * t + 2) ++ (vput u.length ++ u)) := by
  unfold fone at h ⊢
  by_cases h1 : (vget s).2.2 ≠ 0
  · rw [if_pos h1] at h; exact absurd h h1
  rw [if_neg h1] at h ⊢
  obtain ⟨a1, a2, _, a3, a4⟩ := vget_ok (Classical.not_not.1 h1)
  by_cases h2 : (vget s).1 / 4 = 0 ∨ 4294967296 < (vget s).1 / 4
  · rw [if_pos h2] at h; exact absurd h (by simp)
  rw [if_neg h2] at h ⊢
  by_cases h3 : (vget s).1 % 4 = 3
  · rw [if_pos h3] at h; exact absurd h (by simp)
  rw [if_neg h3] at h ⊢
  by_cases h4 : (vget s).1 / 4 ≤ last
  · rw [if_pos h4] at h; exact absurd h (by simp)
  rw [if_neg h4] at h ⊢
  by_cases h5 : (vget (s.drop (vget s).2.1)).2.2 ≠ 0
  · rw [if_pos h5] at h; exact absurd h h5
  rw [if_neg h5] at h ⊢
  obtain ⟨b1, b2, _, b3, b4⟩ := vget_ok (Classical.not_not.1 h5)
  generalize hn : (vget s).1 = n at *
  generalize hk : (vget s).2.1 = k at *
  generalize hm : (vget (s.drop k)).1 = m at *
  generalize hj : (vget (s.drop k)).2.1 = j at *
  rw [List.length_drop] at b2
  have htk : ∀ e, s.take (k + j + e) = vput n ++ (vput m ++ (s.drop (k + j)).take e) := fun e => by
    rw [List.take_add, List.take_add, ← a4, ← b4, List.append_assoc]
  by_cases h6 : n % 4 = 0
  · rw [if_pos h6] at h ⊢
    refine ⟨_, _, _, _, _, _, rfl, by omega, by omega, by omega, by omega, by omega, b3, .inl ⟨rfl, rfl, rfl, ?_⟩⟩
    have := htk 0
    simp only [Nat.add_zero, List.take_zero, List.append_nil] at this
    rw [this, show 4 * (n / 4) = n by omega]
  rw [if_neg h6] at h ⊢
  by_cases h7 : s.length - (k + j) < m
  · rw [if_pos h7] at h; exact absurd h (by simp)
  rw [if_neg h7] at h ⊢
  have htl : ((s.drop (k + j)).take m).length = m := by rw [List.length_take, List.length_drop]; omega
  by_cases h8 : n % 4 = 1
  · rw [if_pos h8] at h ⊢
    refine ⟨_, _, _, _, _, _, rfl, by omega, by omega, by omega, by omega, by omega, by unfold In64; omega, .inr (.inl ⟨rfl, rfl, rfl, by rw [txt_size, htl]; omega, ?_⟩)⟩
    rw [htk m, txt_size, txt_list, htl, show 4 * (n / 4) + 1 = n by omega]
  rw [if_neg h8] at h ⊢
  by_cases h9 : deep = 8
  · rw [if_pos h9] at h; exact absurd h (by simp)
  rw [if_neg h9] at h ⊢
  by_cases h10 : (rec ((s.drop (k + j)).take m)).2 ≠ 0
  · rw [if_pos h10] at h; exact absurd h h10
  rw [if_neg h10] at h ⊢
  refine ⟨_, _, _, _, _, _, rfl, by omega, by omega, by omega, by omega, by omega, by unfold In64; omega, .inr (.inr ⟨rfl, rfl, rfl, h9, (s.drop (k + j)).take m, by rw [htl]; omega, ?_, ?_⟩)⟩
  · exact Prod.ext rfl (Classical.not_not.1 h10)
  · rw [htk m, htl, show 4 * (n / 4) + 2 = n by omega]
theorem fone_err {rec : List UInt8 → Fs × Nat} {s : List UInt8} {deep last : Nat} (h : (fone rec s deep last).2.2 ≠ 0) : fone rec s deep last = (.nil, 0, (fone rec s deep last).2.2) := by
  unfold fone at h ⊢
  by_cases h1 : (vget s).2.2 ≠ 0
  · rw [if_pos h1]
  rw [if_neg h1] at h ⊢
  by_cases h2 : (vget s).1 / 4 = 0 ∨ 4294967296 < (vget s).1 / 4
  · rw [if_pos h2]
  rw [if_neg h2] at h ⊢
  by_cases h3 : (vget s).1 % 4 = 3
  · rw [if_pos h3]
  rw [if_neg h3] at h ⊢
  by_cases h4 : (vget s).1 / 4 ≤ last
  · rw [if_pos h4]
  rw [if_neg h4] at h ⊢
  by_cases h5 : (vget (s.drop (vget s).2.1)).2.2 ≠ 0
  · rw [if_pos h5]
  rw [if_neg h5] at h ⊢
  by_cases h6 : (vget s).1 % 4 = 0
  · rw [if_pos h6] at h; exact absurd rfl h
  rw [if_neg h6] at h ⊢
  by_cases h7 : s.length - ((vget s).2.1 + (vget (s.drop (vget s).2.1)).2.1) < (vget (s.drop (vget s).2.1)).1
  · rw [if_pos h7]
  rw [if_neg h7] at h ⊢
  by_cases h8 : (vget s).1 % 4 = 1
  · rw [if_pos h8] at h; exact absurd rfl h
  rw [if_neg h8] at h ⊢
  by_cases h9 : deep = 8
  · rw [if_pos h9]
  rw [if_neg h9] at h ⊢
  by_cases h10 : (rec ((s.drop ((vget s).2.1 + (vget (s.drop (vget s).2.1)).2.1)).take (vget (s.drop (vget s).2.1)).1)).2 ≠ 0
  · rw [if_pos h10]
  rw [if_neg h10] at h
  exact absurd rfl h
theorem fgetN_more : ∀ (N : Nat) (s : List UInt8) (deep last : Nat), s.length ≤ N → fgetN (N + 1) s deep last = fgetN N s deep last
  | 0, s, deep, last, h => by
    have : s.length = 0 := by omega
    simp [fgetN, this]
  | N + 1, s, deep, last, h => by
    rw [fgetN.eq_def (N + 1 + 1), fgetN.eq_def (N + 1)]
    simp only []
    by_cases h0 : s.length = 0
    · rw [if_pos h0, if_pos h0]
    rw [if_neg h0, if_neg h0]
    have e : fone (fun t => fgetN (N + 1) t (deep + 1) 0) s deep last = fone (fun t => fgetN N t (deep + 1) 0) s deep last := fone_congr deep last fun t ht => fgetN_more N t _ _ (by omega)
    rw [e]
    by_cases h1 : (fone (fun t => fgetN N t (deep + 1) 0) s deep last).2.2 ≠ 0
    · rw [if_pos h1, if_pos h1]
    rw [if_neg h1, if_neg h1]
    obtain ⟨t, y, n, x, i, k, hf, hk, hks, _⟩ := fone_ok (Classical.not_not.1 h1)
    rw [hf]
    show fthen _ (fgetN (N + 1) (s.drop k) deep t) = fthen _ (fgetN N (s.drop k) deep t)
    rw [fgetN_more N (s.drop k) deep t (by rw [List.length_drop]; omega)]
theorem fgetN_big {N : Nat} {s : List UInt8} (deep last : Nat) (h : s.length ≤ N) : fgetN N s deep last = fget s deep last := by
  unfold fget
  obtain ⟨d, rfl⟩ := Nat.le.dest h
  clear h
  induction d with
  | zero => rfl
  | succ d ih => rw [← Nat.add_assoc, fgetN_more _ _ _ _ (by omega), ih]
theorem fget_nil (deep last : Nat) : fget [] deep last = (.nil, 0) := rfl
/-- One field, and the others. -/
theorem fget_err {s : List UInt8} {deep last : Nat} (h : s.length ≠ 0) (h1 : (ffirst s deep last).2.2 ≠ 0) : fget s deep last = (.nil, (ffirst s deep last).2.2) := by
  obtain ⟨N, hN⟩ : ∃ N, s.length = N + 1 := ⟨s.length - 1, by omega⟩
  have e : fone (fun t => fgetN N t (deep + 1) 0) s deep last = ffirst s deep last := fone_congr deep last fun t ht => fgetN_big _ _ (by omega)
  unfold fget
  rw [hN, fgetN, if_neg h, e, if_pos h1]
theorem fget_step {s : List UInt8} {deep last : Nat} (h : s.length ≠ 0) (h1 : (ffirst s deep last).2.2 = 0) :
    fget s deep last = fthen (ffirst s deep last).1 (fget (s.drop (ffirst s deep last).2.1) deep (ffirst s deep last).1.tag) := by
  obtain ⟨N, hN⟩ : ∃ N, s.length = N + 1 := ⟨s.length - 1, by omega⟩
  have e : fone (fun t => fgetN N t (deep + 1) 0) s deep last = ffirst s deep last := fone_congr deep last fun t ht => fgetN_big _ _ (by omega)
  obtain ⟨t, y, n, x, i, k, hf, hk, hks, _⟩ := fone_ok (show (fone (fun t => fget t (deep + 1) 0) s deep last).2.2 = 0 from h1)
  have hf' : ffirst s deep last = (.cons t y n x i .nil, k, 0) := hf
  have hu : fget s deep last = fgetN (N + 1) s deep last := by rw [← hN]; rfl
  rw [hu, fgetN, if_neg h, e, if_neg (by rw [h1]; simp), hf']
  show fthen _ (fgetN N (s.drop k) deep t) = fthen _ (fget (s.drop k) deep t)
  rw [fgetN_big _ _ (by rw [List.length_drop]; omega)]
/-- What is read may be, and is written so. -/
theorem fget_ok : ∀ (N : Nat) (s : List UInt8) (deep last : Nat), s.length ≤ N → deep ≤ 8 → s.length ≤ 1000000 → (fget s deep last).2 = 0 → ftx (fget s deep last).1 = s ∧ fcheckP (fget s deep last).1 last deep ∧ (fget s deep last).1.count ≤ s.length
  | N, s, deep, last, hN, hd, hs, h => by
    by_cases h0 : s.length = 0
    · obtain rfl : s = [] := List.eq_nil_of_length_eq_zero h0
      rw [fget_nil]
      exact ⟨rfl, trivial, Nat.le_refl _⟩
    by_cases h1 : (ffirst s deep last).2.2 ≠ 0
    · rw [fget_err h0 h1] at h; exact absurd h h1
    have h1' := Classical.not_not.1 h1
    rw [fget_step h0 h1'] at h ⊢
    obtain ⟨t, y, n, x, i, k, hf, hk, hks, ht, ht0, ht1, hn, hor⟩ := fone_ok (show (fone (fun t => fget t (deep + 1) 0) s deep last).2.2 = 0 from h1')
    have hf' : ffirst s deep last = (.cons t y n x i .nil, k, 0) := hf
    rw [hf'] at h ⊢
    have h3 : (fthen (.cons t y n x i .nil) (fget (s.drop k) deep t)).2 = 0 := h
    show ftx (fthen (.cons t y n x i .nil) (fget (s.drop k) deep t)).1 = s ∧ fcheckP (fthen (.cons t y n x i .nil) (fget (s.drop k) deep t)).1 last deep ∧ (fthen (.cons t y n x i .nil) (fget (s.drop k) deep t)).1.count ≤ s.length
    obtain ⟨h2, h4⟩ := fthen_ok h3
    rw [h4]
    clear h h3 h4
    match N, hN with
    | 0, hN => omega
    | N + 1, hN =>
      obtain ⟨g1, g2, g3⟩ := fget_ok N (s.drop k) deep t (by rw [List.length_drop]; omega) hd (by rw [List.length_drop]; omega) h2
      generalize (fget (s.drop k) deep t).1 = r at *
      rw [List.length_drop] at g3
      have hse : s = s.take k ++ s.drop k := (List.take_append_drop k s).symm
      rcases hor with ⟨rfl, rfl, rfl, htk⟩ | ⟨rfl, rfl, rfl, hx, htk⟩ | ⟨rfl, rfl, rfl, hd8, u, hu, hru, htk⟩
      · refine ⟨?_, ⟨⟨ht, ht0, ht1, hn, .inl ⟨rfl, rfl, rfl⟩⟩, g2⟩, ?_⟩
        · rw [hse, htk, ← g1]
          simp [Fs.app, ftx]
        · simp only [Fs.app, Fs.count]; omega
      · refine ⟨?_, ⟨⟨ht, ht0, ht1, hn, .inr (.inl ⟨rfl, rfl, rfl, by omega⟩)⟩, g2⟩, ?_⟩
        · rw [hse, htk, ← g1]
          simp [Fs.app, ftx]
        · simp only [Fs.app, Fs.count]; omega
      · have hu2 : (fget u (deep + 1) 0).2 = 0 := by rw [hru]
        obtain ⟨e1, e2, e3⟩ := fget_ok N u (deep + 1) 0 (by omega) (by omega) (by omega) hu2
        rw [hru] at e1 e2 e3
        simp only [] at e1 e2 e3
        have hul : u.length + 2 ≤ k := by
          have := congrArg List.length htk
          simp only [List.length_take, List.length_append, vput_length] at this
          have := vsz_pos (4 * t + 2)
          have := vsz_pos u.length
          omega
        refine ⟨?_, ⟨⟨ht, ht0, ht1, hn, .inr (.inr ⟨rfl, rfl, rfl, by omega, e2⟩)⟩, g2⟩, ?_⟩
        · rw [hse, htk, ← g1, ← e1]
          simp [Fs.app, ftx]
        · simp only [Fs.app, Fs.count]; omega
/-- What was written is read. -/
theorem fget_text (z : List UInt8) : ∀ (f : Fs) (deep last : Nat), deep ≤ 8 → fcheckP f last deep → (ftx f).length ≤ 1000000 →
    fget (ftx f ++ z) deep last = fthen f (fget z deep (f.last last))
  | .nil, deep, last, hd, _, _ => by
    show fget z deep last = fthen .nil (fget z deep last)
    by_cases h : (fget z deep last).2 ≠ 0
    · rw [fthen_err h]
      by_cases h0 : z.length = 0
      · obtain rfl : z = [] := List.eq_nil_of_length_eq_zero h0
        exact absurd rfl h
      by_cases h1 : (ffirst z deep last).2.2 ≠ 0
      · rw [fget_err h0 h1]
      · rw [fget_step h0 (Classical.not_not.1 h1)] at h ⊢
        generalize fget (z.drop (ffirst z deep last).2.1) deep (ffirst z deep last).1.tag = q at *
        by_cases hq : q.2 = 0
        · rw [fthen_yes hq] at h; exact absurd rfl h
        · rw [fthen_err hq]
    · rw [fthen_yes (Classical.not_not.1 h)]
      exact Prod.ext rfl (Classical.not_not.1 h)
  | .cons t y n x i r, deep, last, hd, hc, hl => by
    obtain ⟨⟨ht, ht0, ht1, hn, hor⟩, hcr⟩ := hc
    have hr := fget_text z r deep t hd hcr (by rw [ftx] at hl; simp only [List.length_append] at hl; omega)
    have h4 : 4 * t + y.toNat < 18446744073709551616 := by rcases hor with ⟨rfl, _⟩ | ⟨rfl, _⟩ | ⟨rfl, _⟩ <;> simp <;> omega
    have hsz := vsz_pos (4 * t + y.toNat)
    generalize hb : (if y = 0 then vput n else if y = 1 then vput x.size ++ x.data.toList else vput (ftx i).length ++ ftx i) = B at *
    have hft : ftx (.cons t y n x i r) ++ z = vput (4 * t + y.toNat) ++ (B ++ (ftx r ++ z)) := by rw [ftx, hb]; simp only [List.append_assoc]
    have hv1 := vget_put (4 * t + y.toNat) h4 (B ++ (ftx r ++ z))
    have hlb : (ftx (.cons t y n x i r)).length = vsz (4 * t + y.toNat) + (B.length + (ftx r).length) := by rw [ftx, hb]; simp only [List.length_append, vput_length]
    rw [hlb] at hl
    rw [hft]
    have hne : (vput (4 * t + y.toNat) ++ (B ++ (ftx r ++ z))).length ≠ 0 := by simp only [List.length_append, vput_length]; omega
    have hdr : (vput (4 * t + y.toNat) ++ (B ++ (ftx r ++ z))).drop (vsz (4 * t + y.toNat)) = B ++ (ftx r ++ z) := by
      rw [← vput_length, List.drop_left]
    have hdiv : (4 * t + y.toNat) / 4 = t ∧ (4 * t + y.toNat) % 4 = y.toNat := by rcases hor with ⟨rfl, _⟩ | ⟨rfl, _⟩ | ⟨rfl, _⟩ <;> simp <;> omega
    have hone : ffirst (vput (4 * t + y.toNat) ++ (B ++ (ftx r ++ z))) deep last = (.cons t y n x i .nil, vsz (4 * t + y.toNat) + B.length, 0) := by
      unfold ffirst fone
      rw [hv1]
      simp only [ne_eq, not_true_eq_false, if_false, hdiv.1, hdiv.2, hdr]
      rw [if_neg (by omega), if_neg (by rcases hor with ⟨rfl, _⟩ | ⟨rfl, _⟩ | ⟨rfl, _⟩ <;> simp), if_neg (by omega)]
      rcases hor with ⟨rfl, rfl, rfl⟩ | ⟨rfl, rfl, rfl, hx⟩ | ⟨rfl, rfl, rfl, hd8, hci⟩
      · have hB : B = vput n := by rw [← hb]; rfl
        have hv2 := vget_put n hn (ftx r ++ z)
        rw [hB, hv2, if_neg (by simp), vput_length]
        rfl
      · have hB : B = vput x.size ++ x.data.toList := by rw [← hb]; rfl
        have hx64 : x.size < 18446744073709551616 := by omega
        have hv2 := vget_put x.size hx64 (x.data.toList ++ (ftx r ++ z))
        rw [hB, List.append_assoc, hv2, if_neg (by simp)]
        have hxl : x.data.toList.length = x.size := len_list x
        rw [if_neg (by decide), if_neg (by simp only [List.length_append, vput_length, hxl]; omega), if_pos (by decide)]
        have e1 : (vput (4 * t + Int.toNat 1) ++ (vput x.size ++ (x.data.toList ++ (ftx r ++ z)))).drop (vsz (4 * t + Int.toNat 1) + vsz x.size) = x.data.toList ++ (ftx r ++ z) := by
          rw [← List.append_assoc, ← vput_length, ← vput_length, ← List.length_append, List.drop_left]
        rw [e1]
        have e2 : (x.data.toList ++ (ftx r ++ z)).take x.size = x.data.toList := by rw [← hxl, List.take_left]
        rw [e2, txt_of, List.length_append, vput_length, hxl, Nat.add_assoc]
      · have hB : B = vput (ftx i).length ++ ftx i := by rw [← hb]; rfl
        rw [hB, List.length_append] at hl
        have hx64 : (ftx i).length < 18446744073709551616 := by omega
        have hv2 := vget_put (ftx i).length hx64 (ftx i ++ (ftx r ++ z))
        rw [hB, List.append_assoc, hv2, if_neg (by simp)]
        rw [if_neg (by decide), if_neg (by simp only [List.length_append, vput_length]; omega), if_neg (by decide), if_neg (by omega)]
        have e1 : (vput (4 * t + Int.toNat 2) ++ (vput (ftx i).length ++ (ftx i ++ (ftx r ++ z)))).drop (vsz (4 * t + Int.toNat 2) + vsz (ftx i).length) = ftx i ++ (ftx r ++ z) := by
          rw [← List.append_assoc, ← vput_length, ← vput_length, ← List.length_append, List.drop_left]
        rw [e1]
        have e2 : (ftx i ++ (ftx r ++ z)).take (ftx i).length = ftx i := by rw [List.take_left]
        have hin := fget_text [] i (deep + 1) 0 (by omega) hci (by omega)
        rw [List.append_nil, fget_nil, fthen_yes rfl, Fs.app_nil] at hin
        rw [e2, hin]
        simp only [not_true_eq_false, if_false]
        rw [List.length_append, vput_length, Nat.add_assoc]
    have hdr2 : (vput (4 * t + y.toNat) ++ (B ++ (ftx r ++ z))).drop (vsz (4 * t + y.toNat) + B.length) = ftx r ++ z := by
      rw [← List.append_assoc, ← vput_length, ← List.length_append, List.drop_left]
    rw [fget_step hne (by rw [hone]), hone]
    show fthen (.cons t y n x i .nil) (fget ((vput (4 * t + y.toNat) ++ (B ++ (ftx r ++ z))).drop (vsz (4 * t + y.toNat) + B.length)) deep t) = _
    rw [hdr2, hr]
    show fthen (.cons t y n x i .nil) (fthen r (fget z deep (r.last t))) = fthen (.cons t y n x i r) (fget z deep (r.last t))
    generalize fget z deep (r.last t) = q
    by_cases hz : q.2 = 0
    · rw [fthen_yes hz, fthen_yes hz, fthen_yes rfl]; rfl
    · rw [fthen_err hz, fthen_err hz]; exact fthen_err hz
end Go.PM
end

section
/-
  Plain laws of fields that may be: without one of them, alone, their lists, how deep. No program in sight.
-/
namespace Go.Proofs.YtmlijflappjfoaaDoor
open Go.RowKit Go.PM
theorem ftyped_iff {y : Int} {n : Nat} {s : ByteArray} {i : Fs} : ftyped y n s i.len = true ↔ y = 0 ∧ s = ByteArray.empty ∧ i = .nil ∨ y = 1 ∧ n = 0 ∧ i = .nil ∨ y = 2 ∧ n = 0 ∧ s = ByteArray.empty := by
  have hs : s.size = 0 ↔ s = ByteArray.empty := ⟨fun h => size_zero h, fun h => by rw [h]; rfl⟩
  have hi : i.len = 0 ↔ i = .nil := ⟨fun h => Fs.len_zero h, fun h => by rw [h]; rfl⟩
  unfold ftyped
  by_cases y0 : y = 0
  · subst y0; simp [hs, hi]
  by_cases y1 : y = 1
  · subst y1; simp [hi]
  by_cases y2 : y = 2
  · subst y2; simp [hs]
  · simp [y0, y1, y2]
theorem fcheck_iff : ∀ (f : Fs) (a w : Nat), f.All FKd → w ≤ 8 → (fcheck f a w = 0 ↔ fcheckP f a w)
  | .nil, a, w, _, _ => by simp [fcheck, fcheckP]
  | .cons t y n s i r, a, w, hk, hw => by
    have hr := fcheck_iff r t w hk.2.2 hw
    rw [fcheck, fcheckP]
    by_cases h1 : t = 0 ∨ 4294967296 < t
    · rw [if_pos h1]; constructor
      · intro h; cases h
      · rintro ⟨⟨_, _, _, _⟩, _⟩; omega
    rw [if_neg h1]
    by_cases h2 : t ≤ a
    · rw [if_pos h2]; constructor
      · intro h; cases h
      · rintro ⟨⟨_, _, _, _⟩, _⟩; omega
    rw [if_neg h2]
    by_cases h3 : ftyped y n s i.len = false
    · rw [if_pos h3]; constructor
      · intro h; cases h
      · rintro ⟨⟨_, _, _, _, h⟩, _⟩
        have : ftyped y n s i.len = true := ftyped_iff.2 (by
          rcases h with ⟨h1, h2, h3⟩ | ⟨h1, h2, h3, _⟩ | ⟨h1, h2, h3, _⟩
          · exact .inl ⟨h1, h2, h3⟩
          · exact .inr (.inl ⟨h1, h2, h3⟩)
          · exact .inr (.inr ⟨h1, h2, h3⟩))
        rw [this] at h3; cases h3
    rw [if_neg h3]
    have h3' := ftyped_iff.1 (by simpa using h3)
    have hbase : a < t ∧ 0 < t ∧ t ≤ 4294967296 ∧ In64 n := ⟨by omega, by omega, by omega, hk.1.2.2.1⟩
    by_cases h4 : y ≠ 2
    · rw [if_pos h4, hr]
      constructor
      · intro h
        refine ⟨⟨hbase.1, hbase.2.1, hbase.2.2.1, hbase.2.2.2, ?_⟩, h⟩
        rcases h3' with h | ⟨h1, h2, h3⟩ | h
        · exact .inl h
        · exact .inr (.inl ⟨h1, h2, h3, hk.1.2.2.2⟩)
        · exact absurd h.1 h4
      · exact fun h => h.2
    rw [if_neg h4]
    have hy : y = 2 := Classical.not_not.1 h4
    subst hy
    have h5 : n = 0 ∧ s = ByteArray.empty := by rcases h3' with ⟨h, _⟩ | ⟨h, _⟩ | ⟨_, h⟩; cases h; cases h; exact h
    by_cases h6 : 8 ≤ w
    · rw [if_pos h6]; constructor
      · intro h; cases h
      · rintro ⟨⟨_, _, _, _, h⟩, _⟩
        rcases h with ⟨h, _⟩ | ⟨h, _⟩ | ⟨_, _, _, h, _⟩
        · cases h
        · cases h
        · omega
    rw [if_neg h6]
    have hi := fcheck_iff i 0 (w + 1) hk.2.1 (by omega)
    by_cases h7 : fcheck i 0 (w + 1) ≠ 0
    · rw [if_pos h7]; constructor
      · intro h; exact absurd h h7
      · rintro ⟨⟨_, _, _, _, h⟩, _⟩
        rcases h with ⟨h, _⟩ | ⟨h, _⟩ | ⟨_, _, _, _, h⟩
        · cases h
        · cases h
        · exact absurd (hi.2 h) h7
    · rw [if_neg h7, hr]
      have h7' := hi.1 (Classical.not_not.1 h7)
      exact ⟨fun h => ⟨⟨hbase.1, hbase.2.1, hbase.2.2.1, hbase.2.2.2, .inr (.inr ⟨rfl, h5.1, h5.2, by omega, h7'⟩)⟩, h⟩, fun h => h.2⟩
end Go.Proofs.YtmlijflappjfoaaDoor
namespace Go.PM
theorem fcheckP_mono : ∀ {f : Fs} {a a' w : Nat}, a' ≤ a → fcheckP f a w → fcheckP f a' w
  | .nil, _, _, _, _, _ => trivial
  | .cons .., _, _, _, h, hf => ⟨⟨by have := hf.1.1; omega, hf.1.2⟩, hf.2⟩
theorem fcheckP_up : ∀ {f : Fs} {a w w' : Nat}, w' ≤ w → fcheckP f a w → fcheckP f a w'
  | .nil, _, _, _, _, _ => trivial
  | .cons .., _, _, _, h, hf => by
    obtain ⟨⟨h1, h2, h3, h4, h5⟩, h6⟩ := hf
    refine ⟨⟨h1, h2, h3, h4, ?_⟩, fcheckP_up h h6⟩
    rcases h5 with h5 | h5 | ⟨e1, e2, e3, e4, e5⟩
    · exact .inl h5
    · exact .inr (.inl h5)
    · exact .inr (.inr ⟨e1, e2, e3, by omega, fcheckP_up (by omega) e5⟩)
theorem fcheckP_app : ∀ {f g : Fs} {a w : Nat}, fcheckP (f.app g) a w ↔ fcheckP f a w ∧ fcheckP g (f.last a) w
  | .nil, g, a, w => by simp [Fs.app, fcheckP, Fs.last]
  | .cons t y n s i r, g, a, w => by simp only [Fs.app, fcheckP, Fs.last, fcheckP_app (f := r), and_assoc]
theorem fcheckP_inner : ∀ {t n : Nat} {y : Int} {s : ByteArray} {i r : Fs} {a w : Nat}, fcheckP (.cons t y n s i r) a w → fcheckP i 0 w := fun {t n y s i r a w} h => by
  obtain ⟨⟨_, _, _, _, h5⟩, _⟩ := h
  rcases h5 with ⟨_, _, rfl⟩ | ⟨_, _, rfl, _⟩ | ⟨_, _, _, _, h⟩
  · trivial
  · trivial
  · exact fcheckP_up (by omega) h
theorem fcheckP_depth : ∀ {f : Fs} {a w : Nat}, w ≤ 8 → fcheckP f a w → f.depth + w ≤ 8
  | .nil, _, _, hw, _ => by simp [Fs.depth]; omega
  | .cons t y n s i r, a, w, hw, h => by
    obtain ⟨⟨_, _, _, _, h5⟩, h6⟩ := h
    have hr := fcheckP_depth hw h6
    rw [Fs.depth]
    rcases h5 with ⟨rfl, _, rfl⟩ | ⟨rfl, _, rfl, _⟩ | ⟨rfl, _, _, h7, h8⟩
    · rw [if_neg (by simp [Fs.len])]; exact hr
    · rw [if_neg (by simp [Fs.len])]; exact hr
    · have hi := fcheckP_depth (by omega) h8
      rw [if_pos (.inl rfl)]
      omega
theorem Fs.last_le : ∀ {f : Fs} {a w : Nat}, fcheckP f a w → a ≤ f.last a
  | .nil, _, _, _ => Nat.le_refl _
  | .cons t y n s i r, a, w, h => by have := Fs.last_le h.2; have := h.1.1; rw [Fs.last]; omega
theorem Fs.take_drop : ∀ (f : Fs) (k : Nat), (f.take k).app (f.drop k) = f
  | f, 0 => by cases f <;> rfl
  | .nil, _ + 1 => rfl
  | .cons t y n s i r, k + 1 => by rw [Fs.take, Fs.drop, Fs.app, Fs.take_drop r k]
/-- Without one of them. -/
theorem fcheckP_out {f : Fs} {k : Nat} {w : Nat} (h : fcheckP f 0 w) (hk : k < f.len) : fcheckP ((f.take k).app (f.drop (k + 1))) 0 w := by
  obtain ⟨t, y, n, s, i, hdc, _⟩ := f.drop_cons k hk
  have h1 := Fs.take_drop f k
  rw [← h1, fcheckP_app, hdc] at h
  rw [fcheckP_app]
  exact ⟨h.1, fcheckP_mono (by have := h.2.1.1; omega) h.2.2⟩
theorem fcheckP_at {f : Fs} {k : Nat} {w : Nat} (h : fcheckP f 0 w) {t n : Nat} {y : Int} {s : ByteArray} {i : Fs} (hdc : f.drop k = .cons t y n s i (f.drop (k + 1))) : fcheckP i 0 w ∧ fcheckP (.cons t y n s i .nil) 0 w := by
  have h1 := Fs.take_drop f k
  rw [← h1, fcheckP_app, hdc] at h
  exact ⟨fcheckP_inner h.2, ⟨⟨h.2.1.2.1, h.2.1.2⟩, trivial⟩⟩
theorem Fs.All.take {P : Nat → Int → Nat → ByteArray → Prop} : ∀ {f : Fs} (k : Nat), f.All P → (f.take k).All P
  | f, 0, _ => by cases f <;> trivial
  | .nil, _ + 1, _ => trivial
  | .cons .., k + 1, h => ⟨h.1, h.2.1, Fs.All.take k h.2.2⟩
end Go.PM
end

section
/-
  Words for the walk over 'Clone': lists of fields in the call's own memory, one place of which is written anew. Plain theorems, over any program.
-/
namespace Go.PM
open Go.RowKit
section
variable {w w' : World} {I J : Nat → Prop}
/-- What is read is one. -/
theorem FsAt.uniq : ∀ {f g : Fs} {b o : Nat}, FsAt w I f b o → FsAt w J g b o → f.len = g.len → f = g
  | .nil, .nil, _, _, _, _, _ => rfl
  | .nil, .cons .., _, _, _, _, h => by simp [Fs.len] at h
  | .cons .., .nil, _, _, _, _, h => by simp [Fs.len] at h
  | .cons t y n s i r, .cons t' y' n' s' i' r', b, o, h, k, hl => by
    obtain ⟨h1, h2, h3, h4, ⟨A, c, h5, _, h6⟩, h7⟩ := h
    obtain ⟨k1, k2, k3, k4, ⟨A', c', k5, _, k6⟩, k7⟩ := k
    have e1 := h1.symm.trans k1
    have e2 := h2.symm.trans k2
    have e3 := h3.symm.trans k3
    have e4 := h4.symm.trans k4
    have e5 := h5.symm.trans k5
    simp only [Option.some.injEq, Value.int.injEq, Value.string.injEq, Value.slice.injEq, true_and, Int.natCast_inj] at e1 e2 e3 e4 e5
    obtain ⟨rfl, e5, rfl⟩ := e5
    have hr := FsAt.uniq h7 k7 (by simp only [Fs.len] at hl; omega)
    have hi : i = i' := by
      rcases h6 with h0 | ⟨b', o', hA, _, _, h8⟩
      · have a1 : i = .nil := Fs.len_zero h0
        have a2 : i' = .nil := Fs.len_zero (by omega)
        rw [a1, a2]
      · rcases k6 with h0 | ⟨b2, o2, hA2, _, _, k8⟩
        · have a1 : i = .nil := Fs.len_zero (by omega)
          have a2 : i' = .nil := Fs.len_zero h0
          rw [a1, a2]
        · rw [hA] at hA2
          injection hA2 with hA2
          injection hA2 with e6 e7
          subst e6 e7
          exact FsAt.uniq h8 k8 e5
    rw [e1, e2, e3, e4, hi, hr]
/-- One place is written anew by a slice that reads as the one that stood there: all reads as it did. -/
theorem FsAt.anew {p : Addr} {A A' : Option Addr} {c c' : Nat} {j : Fs} (hp : w.cell? p = some (.slice A j.len c)) (hj : j.len = 0 ∨ ∃ b o, A = some ⟨b, o, none⟩ ∧ FsAt w I j b o)
    (hj' : j.len ≤ c' ∧ (j.len = 0 ∨ ∃ b o, A' = some ⟨b, o, none⟩ ∧ I b ∧ b < w.heap.size ∧ FsAt w I j b o)) : ∀ {f : Fs} {b o : Nat}, FsAt w I f b o → FsAt (w.setCell p (.slice A' j.len c')) I f b o
  | .nil, _, _, _ => trivial
  | .cons t y n s i r, b, o, h => by
    obtain ⟨h1, h2, h3, h4, ⟨B, d, h5, hd, h6⟩, h7⟩ := h
    have hs : (w.setCell p (.slice A' j.len c')).heap.size = w.heap.size := by simp [World.setCell]
    have oth : ∀ {q : Addr} {v : Value}, w.cell? q = some v → (∀ A n c, v ≠ .slice A n c) → (w.setCell p (.slice A' j.len c')).cell? q = some v := fun {q v} hq hv => by
      rw [World.cell?_setCell_other _ _ _ _ (by rintro rfl; rw [hp] at hq; injection hq with hq; exact hv _ _ _ hq.symm)]
      exact hq
    refine ⟨oth h1 (by simp), oth h2 (by simp), oth h3 (by simp), oth h4 (by simp), ?_, FsAt.anew hp hj hj' h7⟩
    by_cases e : p = ⟨b, o + 4, none⟩
    · have h5' := h5
      rw [← e, hp] at h5'
      simp only [Option.some.injEq, Value.slice.injEq] at h5'
      obtain ⟨e1, e2, e3⟩ := h5'
      have hij : i = j := by
        rcases h6 with h0 | ⟨b', o', hA, _, _, h8⟩
        · rw [Fs.len_zero h0, Fs.len_zero (show j.len = 0 by omega)]
        · rcases hj with h0 | ⟨b2, o2, hA2, k8⟩
          · rw [Fs.len_zero h0, Fs.len_zero (show i.len = 0 by omega)]
          · rw [← e1, hA2] at hA
            injection hA with hA
            injection hA with e6 e7
            subst e6 e7
            exact FsAt.uniq h8 k8 e2.symm
      subst hij
      refine ⟨A', c', ?_, hj'.1, ?_⟩
      · rw [← e]
        exact World.cell?_setCell_same _ _ _ hp
      · rcases hj'.2 with h0 | ⟨b', o', hA, hI, hb, h8⟩
        · exact .inl h0
        · exact .inr ⟨b', o', hA, hI, by rw [hs]; exact hb, FsAt.anew hp hj hj' h8⟩
    · refine ⟨B, d, ?_, hd, ?_⟩
      · rw [World.cell?_setCell_other _ _ _ _ e]
        exact h5
      · rcases h6 with h0 | ⟨b', o', hA, hI, hb, h8⟩
        · exact .inl h0
        · exact .inr ⟨b', o', hA, hI, by rw [hs]; exact hb, FsAt.anew hp hj hj' h8⟩
/-- A block of fields, of the call's own. -/
def FB (w : World) (T : TypeId) (k : Nat) : Prop := ∃ cs, BlkAt w k T cs
theorem FB.lt {T : TypeId} {k : Nat} (h : FB w T k) : k < w.heap.size := by obtain ⟨cs, h⟩ := h; exact h.lt
theorem FB.below {T : TypeId} {k : Nat} (h : FB w T k) (hb : Below w.heap.size w w') : FB w' T k := by obtain ⟨cs, h⟩ := h; exact ⟨cs, h.below hb h.lt⟩
theorem FB.tch {S : Nat → Prop} {T : TypeId} {k : Nat} (h : FB w T k) (hb : Tch S w w') (hk : ¬ S k) : FB w' T k := by obtain ⟨cs, h⟩ := h; exact ⟨cs, h.tch hb hk⟩
theorem FB.put {T : TypeId} {k b i : Nat} (h : FB w T k) (u : Value) : FB (w.setCell ⟨b, i, none⟩ u) T k := by
  obtain ⟨cs, h⟩ := h
  by_cases e : k = b
  · subst e; exact ⟨_, h.put i u⟩
  · exact ⟨cs, h.far e u⟩
/-- So, and of how many cells. -/
def FZ (w : World) (T : TypeId) (k n : Nat) : Prop := ∃ cs, BlkAt w k T cs ∧ cs.size = n
theorem FZ.fb {T : TypeId} {k n : Nat} (h : FZ w T k n) : FB w T k := by obtain ⟨cs, h, _⟩ := h; exact ⟨cs, h⟩
theorem FZ.below {T : TypeId} {k n : Nat} (h : FZ w T k n) (hb : Below w.heap.size w w') : FZ w' T k n := by obtain ⟨cs, h, hn⟩ := h; exact ⟨cs, h.below hb h.lt, hn⟩
theorem FZ.tch {S : Nat → Prop} {T : TypeId} {k n : Nat} (h : FZ w T k n) (hb : Tch S w w') (hk : ¬ S k) : FZ w' T k n := by obtain ⟨cs, h, hn⟩ := h; exact ⟨cs, h.tch hb hk, hn⟩
theorem FZ.put {T : TypeId} {k b i n : Nat} (h : FZ w T k n) (u : Value) : FZ (w.setCell ⟨b, i, none⟩ u) T k n := by
  obtain ⟨cs, h, hn⟩ := h
  by_cases e : k = b
  · subst e; exact ⟨_, h.put i u, by simpa using hn⟩
  · exact ⟨cs, h.far e u, hn⟩
/-- Old, or a block of fields of the call's own. -/
def IC (H : Nat) (T : TypeId) (w : World) (k : Nat) : Prop := k < H ∨ FB w T k
/-- A slice of fields in the call's own memory. -/
def CE (H : Nat) (T : TypeId) (w : World) (x : Value) (f : Fs) : Prop :=
  ∃ A c, x = .slice A f.len c ∧ f.len ≤ c ∧ (f.len = 0 ∧ A = none ∧ c = 0 ∨ ∃ b, A = some ⟨b, 0, none⟩ ∧ H ≤ b ∧ c ≤ maxLen ∧ FZ w T b (c * 5) ∧ FsAt w (IC H T w) f b 0)
/-- What a turn of the world keeps. -/
def Rp (H : Nat) (T : TypeId) (w w' : World) : Prop := (∀ f b o, IC H T w b → FsAt w (IC H T w) f b o → FsAt w' (IC H T w') f b o) ∧ (∀ k, FB w T k → FB w' T k) ∧ (∀ k n, FZ w T k n → FZ w' T k n)
theorem Rp.trans {H : Nat} {T : TypeId} {a : World} (h : Rp H T a w) (k : Rp H T w w') : Rp H T a w' :=
  ⟨fun f b o hb hf => k.1 f b o (hb.imp id (h.2.1 b)) (h.1 f b o hb hf), fun j hj => k.2.1 j (h.2.1 j hj), fun j n hj => k.2.2 j n (h.2.2 j n hj)⟩
theorem Rp.below {H : Nat} {T : TypeId} (hH : H ≤ w.heap.size) (hb : Below w.heap.size w w') : Rp H T w w' := by
  have hI : ∀ k, IC H T w k → k < w.heap.size := fun k hk => by rcases hk with h | h; omega; exact h.lt
  refine ⟨fun f b o hb' hf => (hf.keep hb.size (fun k _ hk => hb.block k hk) (hb.block b (hI b hb'))).imp fun k hk => hk.imp id fun h => h.below hb, fun k hk => hk.below hb, fun k n hk => hk.below hb⟩
theorem Rp.tch {H g : Nat} {T : TypeId} (hH : H ≤ w.heap.size) (hb : Tch (fun k => some g = some k) w w') (hg : H ≤ g) (hT : ¬ FB w T g) : Rp H T w w' := by
  have hI : ∀ k, IC H T w k → k < w.heap.size := fun k hk => by rcases hk with h | h; omega; exact h.lt
  have hn : ∀ k, IC H T w k → ¬ (some g = some k) := fun k hk e => by
    injection e with e
    subst e
    rcases hk with h | h
    · omega
    · exact hT h
  refine ⟨fun f b o hb' hf => (hf.keep hb.size (fun k hk hl => hb.block k hl (hn k hk)) (hb.block b (hI b hb') (hn b hb'))).imp fun k hk => hk.imp id fun h => h.tch hb (hn k (.inr h)), fun k hk => hk.tch hb (hn k (.inr hk)), fun k n hk => hk.tch hb (hn k (.inr hk.fb))⟩
theorem Rp.anew {H : Nat} {T : TypeId} {b q : Nat} {A A' : Option Addr} {c c' : Nat} {j : Fs} (hp : w.cell? ⟨b, q, none⟩ = some (.slice A j.len c)) (hj : j.len = 0 ∨ ∃ b o, A = some ⟨b, o, none⟩ ∧ FsAt w (IC H T w) j b o)
    (hj' : j.len ≤ c' ∧ (j.len = 0 ∨ ∃ b o, A' = some ⟨b, o, none⟩ ∧ IC H T w b ∧ b < w.heap.size ∧ FsAt w (IC H T w) j b o)) : Rp H T w (w.setCell ⟨b, q, none⟩ (.slice A' j.len c')) :=
  ⟨fun _ _ _ _ hf => (hf.anew hp hj hj').imp fun _ hk => hk.imp id fun h => h.put _, fun _ hk => hk.put _, fun _ _ hk => hk.put _⟩
theorem CE.rp {H : Nat} {T : TypeId} {x : Value} {f : Fs} (h : CE H T w x f) (hr : Rp H T w w') : CE H T w' x f := by
  obtain ⟨A, c, hx, hc, h⟩ := h
  exact ⟨A, c, hx, hc, h.imp id fun ⟨b, hA, hH, hm, hb, hf⟩ => ⟨b, hA, hH, hm, hr.2.2 b _ hb, hr.1 f b 0 (.inr hb.fb) hf⟩⟩
/-- The call's own lists. -/
def CL (H : Nat) (T : TypeId) (w : World) (xs : List Value) (L : List Fs) : Prop := xs.length = L.length ∧ ∀ (j : Nat) (x : Value) (f : Fs), xs[j]? = some x → L[j]? = some f → CE H T w x f
theorem CL.rp {H : Nat} {T : TypeId} {xs : List Value} {L : List Fs} (h : CL H T w xs L) (hr : Rp H T w w') : CL H T w' xs L := ⟨h.1, fun j x f hx hf => (h.2 j x f hx hf).rp hr⟩
theorem CL.nil {H : Nat} {T : TypeId} : CL H T w [] [] := ⟨rfl, fun j x f h => by simp at h⟩
theorem CL.push {H : Nat} {T : TypeId} {xs : List Value} {L : List Fs} {x : Value} {f : Fs} (h : CL H T w xs L) (hx : CE H T w x f) : CL H T w (xs ++ [x]) (L ++ [f]) := by
  refine ⟨by simp [h.1], fun j y g hy hg => ?_⟩
  by_cases hj : j < xs.length
  · rw [List.getElem?_append_left hj] at hy
    rw [List.getElem?_append_left (by rw [← h.1]; exact hj)] at hg
    exact h.2 j y g hy hg
  · rw [List.getElem?_append_right (by omega)] at hy
    rw [List.getElem?_append_right (by rw [← h.1]; omega), ← h.1] at hg
    generalize j - xs.length = m at hy hg
    cases m with
    | zero => simp at hy hg; subst hy hg; exact hx
    | succ m => simp at hy
theorem CL.pop {H : Nat} {T : TypeId} {xs : List Value} {L : List Fs} {n : Nat} (h : CL H T w xs L) (hn : L.length = n + 1) :
    ∃ L' f x, L = L' ++ [f] ∧ L'.length = n ∧ xs[n]? = some x ∧ CE H T w x f ∧ CL H T w (xs.take n) L' := by
  have hx : n < xs.length := by rw [h.1]; omega
  have hL : n < L.length := by omega
  refine ⟨L.take n, L[n], xs[n], ?_, by rw [List.length_take]; omega, List.getElem?_eq_getElem hx, h.2 n _ _ (List.getElem?_eq_getElem hx) (List.getElem?_eq_getElem hL), ?_⟩
  · have h1 := List.take_append_getElem hL
    rw [h1, List.take_of_length_le (by omega)]
  · refine ⟨by rw [List.length_take, List.length_take, h.1], fun j y g hy hg => ?_⟩
    rw [List.getElem?_take] at hy hg
    by_cases hj : j < n
    · rw [if_pos hj] at hy hg
      exact h.2 j y g hy hg
    · rw [if_neg hj] at hy
      cases hy
/-- Each slice in the call's own blocks of fields goes on behind a block, but for those that are still to be copied. -/
def GP (H g0 : Nat) (T : TypeId) (w : World) (xs : List Value) (cur k n : Nat) : Prop :=
  ∀ b cs, H ≤ b → BlkAt w b T cs → ∀ (o : Nat) (A : Addr) (m c : Nat), cs[o]? = some (.slice (some A) m c) → m ≠ 0 → g0 < A.block ∨ (∃ off m' c', Value.slice (some ⟨b, off, none⟩) m' c' ∈ xs ∧ o < 5 * m') ∨ (b = cur ∧ 5 * k ≤ o ∧ o < 5 * n)
/-- A block's cells, as fields. -/
theorem cls_of_blk {T : TypeId} {f : Fs} {g : Nat} {cs : Array Value} (h : FsAt w I f g 0) (hb : BlkAt w g T cs) : Cls w I (cs.toList.take (f.len * 5)) f := by
  obtain ⟨xs, hx, hc⟩ := h.cls
  have hl := hx.length
  have e : xs = cs.toList.take (f.len * 5) := by
    apply List.ext_getElem?
    intro j
    by_cases hj : j < xs.length
    · have h1 := hc j xs[j] (List.getElem?_eq_getElem hj)
      rw [Nat.zero_add, hb.cell] at h1
      rw [List.getElem?_eq_getElem hj, List.getElem?_take, if_pos (by omega), Array.getElem?_toList, h1]
    · rw [List.getElem?_eq_none (by omega), List.getElem?_take, if_neg (by omega)]
  rw [← e]
  exact hx
/-- At the end all goes on behind it. -/
theorem GP.out {H g0 : Nat} {T : TypeId} (h : GP H g0 T w [] 0 0 0) (hH : H ≤ g0) : ∀ {f : Fs} {b o : Nat}, H ≤ b → FB w T b → FsAt w (IC H T w) f b o → FsAt w (fun k => g0 < k ∧ FB w T k) f b o
  | .nil, _, _, _, _, _ => trivial
  | .cons t y n s i r, b, o, hb, hF, hf => by
    obtain ⟨h1, h2, h3, h4, ⟨A, c, h5, hc, h6⟩, h7⟩ := hf
    refine ⟨h1, h2, h3, h4, ⟨A, c, h5, hc, ?_⟩, GP.out h hH hb hF h7⟩
    rcases h6 with h0 | ⟨b', o', hA, hI, hlt, h8⟩
    · exact .inl h0
    · by_cases h0 : i.len = 0
      · exact .inl h0
      right
      obtain ⟨cs, hcs⟩ := hF
      subst hA
      have hg : g0 < b' := by
        rw [hcs.cell] at h5
        rcases h b cs hb hcs (o + 4) ⟨b', o', none⟩ i.len c h5 h0 with h | ⟨_, _, _, h, _⟩ | ⟨_, _, h⟩
        · exact h
        · simp at h
        · omega
      have hF' : FB w T b' := by
        rcases hI with h | h
        · omega
        · exact h
      exact ⟨b', o', rfl, ⟨hg, hF'⟩, hlt, GP.out h hH (by omega) hF' h8⟩
end
end Go.PM
end

section
/-
  Appends whose world is known: onto nil (a copy of fields), of one slice onto a row of the call's own. Plain theorems, over any program.
-/
namespace Go.PM
open Go.RowKit
def zfield : Value := .agg #[.int .u64 0, .int .i64 0, .int .u64 0, .string ByteArray.empty, .slice none 0 0]
theorem copy_none {P : Program} (w : World) (t ty e : TypeId) (i : TypeInfo) (ht : P.underlying t = some (.slice e)) (hi : P.info? e = some i) (A : Option Addr) (c : Nat) :
    (Builtin.append_ #[t, t] ty #[.slice none 0 0, .slice A 0 c]).run P w = .ok (.slice none 0 0) w := by
  have h : (Builtin.firstCells i.size 0 (.slice A 0 c)).run P w = .ok #[] w := by
    cases A with
    | none => exact run_firstCells_none w i.size 0 0 c
    | some a => exact run_firstCells_some w i.size 0 a 0 c [] (by simp) (fun j u h => by simp at h)
  simp [Builtin.append_, run_underlying ht, sizeOf, typeInfo, hi, Builtin.lenOf, h]
theorem cls_one {w : World} {I : Nat → Prop} : ∀ {xs : List Value} {f : Fs}, Cls w I xs f → ∀ u ∈ xs, u.oneCell' = true
  | [], .nil, _ => by simp
  | a :: b :: c :: d :: v :: xs, .cons t y n s i r, h => by
    obtain ⟨rfl, rfl, rfl, rfl, ⟨A, c, rfl, _⟩, h7⟩ := h
    intro u hu
    simp only [List.mem_cons] at hu
    rcases hu with rfl | rfl | rfl | rfl | rfl | hu
    · rfl
    · rfl
    · rfl
    · rfl
    · rfl
    · exact cls_one h7 u hu
  | [], .cons .., h => h.elim
  | _ :: _, .nil, h => by simp [Cls] at h
  | [_], .cons .., h => by simp [Cls] at h
  | [_, _], .cons .., h => by simp [Cls] at h
  | [_, _, _], .cons .., h => by simp [Cls] at h
  | [_, _, _, _], .cons .., h => by simp [Cls] at h
/-- A copy of some fields. -/
theorem copy_some {P : Program} (w : World) (t ty e : TypeId) (i : TypeInfo) (ht : P.underlying t = some (.slice e)) (hi : P.info? e = some i) (hz : i.zero = some zfield) (hsz : i.size = 5) (hby : i.bytes = 64)
    {I : Nat → Prop} {A : Option Addr} {c : Nat} {f : Fs} (hs : SlV w I (.slice A f.len c) f) (h0 : 0 < f.len) (h60 : f.len ≤ 1000000) :
    ∃ xs G, Cls w I xs f ∧ (f.len ≤ G ∧ G ≤ maxLen) ∧ (Builtin.append_ #[t, t] ty #[.slice none 0 0, .slice A f.len c]).run P w = .ok (.slice (some ⟨w.heap.size, 0, none⟩) f.len G) (w.drew.alloc (.cells (xs.toArray ++ Builtin.zeroCells zfield.cells (G - f.len)) e)) := by
  obtain ⟨A', c', hv, hc, hor⟩ := hs
  injection hv with e1 e2 e3
  subst e1 e3
  rcases hor with hh | ⟨b, o, rfl, hI, hb, hf⟩
  · omega
  obtain ⟨xs, hx, hx2⟩ := hf.cls
  have hlen := hx.length
  have hsrc : Src P i.size t (.slice (some ⟨b, o, none⟩) f.len c) f.len xs w := by
    refine Src.ofSlice w ht ⟨b, o, none⟩ f.len c xs (by rw [hsz]; omega) (fun j u hj => ?_) (cls_one hx)
    have ha : (⟨b, o, none⟩ : Addr).add j = ⟨b, o + j, none⟩ := by unfold Addr.add; split <;> simp_all
    rw [ha]
    exact hx2 j u hj
  have hr := run_append_grow_src (P := P) w t t ty e i zfield ht hi hz none 0 0 [] (run_firstCells_none w.drew i.size 0 0 0) (.slice (some ⟨b, o, none⟩) f.len c) f.len xs hsrc (by omega) (by omega) (by rw [hby]; exact growslice_fits (by omega) (by omega))
  simp only [Nat.zero_add, List.nil_append] at hr
  exact ⟨xs, _, hx, ⟨grownCap_ge w f.len 0 e, grownCap_le_maxLen w f.len 0 e (by unfold maxLen; omega)⟩, hr⟩
theorem zcell_at (n o : Nat) (u : Value) (h : (Builtin.zeroCells zfield.cells n)[o]? = some u) : ∀ A m c, u ≠ .slice (some A) m c := by
  have hz : zfield.cells = #[.int .u64 0, .int .i64 0, .int .u64 0, .string ByteArray.empty, .slice none 0 0] := rfl
  have ho : o < n * zfield.cells.size := by
    have := (Array.getElem?_eq_some_iff.1 h).1
    rwa [size_zeroCells] at this
  unfold Builtin.zeroCells at h
  rw [Array.getElem?_map, Array.getElem?_range] at h
  rw [if_pos ho] at h
  simp only [Option.map_some, Option.some.injEq] at h
  have hm : o % zfield.cells.size < 5 := Nat.mod_lt _ (by rw [hz]; decide)
  generalize o % zfield.cells.size = q at h hm
  rw [hz] at h
  intro A m c e
  subst e
  match q, hm with
  | 0, _ => simp at h
  | 1, _ => simp at h
  | 2, _ => simp at h
  | 3, _ => simp at h
  | 4, _ => simp at h
/-- No block of another type is new, or turned. -/
def NT (e : TypeId) (w w' : World) : Prop := ∀ b T cs, T ≠ e → BlkAt w' b T cs → BlkAt w b T cs
theorem NT.alloc (e : TypeId) (w : World) (cs : Array Value) : NT e w (w.alloc (.cells cs e)) := fun b T cs' hT h => by
  by_cases hb : b < w.heap.size
  · unfold BlkAt at h ⊢
    rw [← h]
    exact (Below.heap_alloc w (.cells cs e) b hb).symm
  · have hlt := h.lt
    simp at hlt
    obtain rfl : b = w.heap.size := by omega
    exact absurd rfl (BlkAt.apart h (BlkAt.made w e cs) hT)
theorem NT.trans {e : TypeId} {a b c : World} (h : NT e a b) (k : NT e b c) : NT e a c := fun x T cs hT hc => h x T cs hT (k x T cs hT hc)
theorem NT.dr {e : TypeId} {a b : World} (h : NT e a b) : NT e a b.drew := fun x T cs hT hc => h x T cs hT hc
theorem NT.puts {e : TypeId} {w : World} {g : Nat} (hg : HasT w g e) (o : Nat) (vs : List Value) : NT e w (w.setCells g o vs) := fun b T cs hT h => by
  have hne : b ≠ g := by
    rintro rfl
    exact hT (HasT.one h.hasT (hg.puts vs o w))
  have := tch_setCells (a := w) (S := fun k => k = g) (b := g) rfl vs o w (Tch.refl _ _)
  have hlt : b < w.heap.size := by
    have h1 := h.lt
    have h2 : ∀ (vs : List Value) (o : Nat) (w : World), (w.setCells g o vs).heap.size = w.heap.size := by
      intro vs
      induction vs with
      | nil => intro o w; rfl
      | cons v vs ih => intro o w; rw [World.setCells, ih]; simp [World.setCell]
    rwa [h2] at h1
  unfold BlkAt at h ⊢
  rw [← h]
  exact (this.block b hlt hne).symm
theorem push_nt {P : Program} (w : World) (t ty : TypeId) (base : Nat) (e : TypeId) (i : TypeInfo) (z : Value) (ht : P.underlying t = some (.slice e)) (hi : P.info? e = some i) (hz : i.zero = some z)
    (hsize : i.size = 1) {v v' : Value} {n : Nat} {xs : List Value} {w' : World} (hown : w.ownsRow base e 1 v n xs) (ad : Addr) (u : Value) (hu : w.cell? ad = some u) (h1 : u.oneCell' = true) (h63 : n + 1 ≤ 4000001) (hb : i.bytes ≤ 100)
    (hr : (Builtin.append_ #[t, t] ty #[v, .slice (some ad) 1 1]).run P w = .ok v' w') : NT e w w' := by
  have hsrc : Src P i.size t (.slice (some ad) 1 1) 1 [u] w := by
    refine Src.ofSlice w ht ad 1 1 [u] (by rw [hsize]; rfl) (fun j x hj => ?_) (by simp [h1])
    match j, hj with
    | 0, hj =>
      simp at hj
      subst hj
      have : ad.add 0 = ad := by unfold Addr.add; split <;> simp_all
      rw [this]; exact hu
  have grow : ∀ (A : Option Addr) (c : Nat) (olds : List Value), v = .slice A n c → (Builtin.firstCells i.size n (.slice A n c)).run P w.drew = .ok olds.toArray w.drew → c < n + 1 → NT e w w' := fun A c olds hv hold hg => by
    subst hv
    have hmul : (n + 1) * i.bytes ≤ 140737488355328 := Nat.le_trans (Nat.mul_le_mul h63 hb) (by decide)
    have := run_append_grow_src (P := P) w t t ty e i z ht hi hz A n c olds hold (.slice (some ad) 1 1) 1 [u] hsrc hg (by omega) (growslice_fits (by omega) hmul)
    rw [hr] at this
    injection this with _ hw
    subst hw
    exact NT.trans (b := w.drew) (fun b T cs _ h => h) (NT.alloc e w.drew _)
  rcases hown.2 with ⟨rfl, rfl⟩ | ⟨g, cap, cur, rfl, hbg, hg, hnc, hcm, hcs, htk⟩
  · exact grow none 0 [] rfl (run_firstCells_none w.drew i.size 0 0 0) (by omega)
  · by_cases hroom : n + 1 ≤ cap
    · have := run_append_room_src (P := P) w t t ty e i ht hi g 0 n cap (.slice (some ad) 1 1) 1 [u] hsrc hroom
        (fun j hj => by rw [cell_of_row _ _ _ _ _ _ hg]; simp at hj; subst hj; simp [hsize]; omega) (fun j hj => by unfold World.frozen?; rw [hg]; simp)
      rw [hr] at this
      injection this with _ hw
      subst hw
      exact NT.puts ⟨_, _, hg⟩ _ _
    · refine grow (some ⟨g, 0, none⟩) cap xs rfl ?_ (by omega)
      refine run_firstCells_some w.drew i.size n ⟨g, 0, none⟩ n cap xs (by rw [hsize]; have := hown.1; omega) fun j x hx => ?_
      have := hown.cells (g := g) rfl j x hx
      exact this
/-- An append of one slice, and what it leaves. -/
theorem wpList_append_push {P : Program} {w : World} {ops : Array Oper} {rest : List Oper} {o : Oper} {a : Act} {Q : Exit → Act → World → Prop} (hgd : o.guard = none) (s x : Operand) (t : TypeId)
    (ho : o.op = .call { callee := .builtin .append, args := #[s, x], argTypes := #[t, t] })
    (base : Nat) (e : TypeId) (i : TypeInfo) (z : Value) (bytes : Nat) (ht : P.underlying t = some (.slice e)) (hi : P.info? e = some i) (hz : i.zero = some z)
    (hsize : i.size = 1) (hby : i.bytes = bytes) (hbb : bytes ≤ 100) (hzs : z.cells.size = 1) (v : Value) (n : Nat) (xs : List Value) (hs : a.eval s = v) (hown : w.ownsRow base e 1 v n xs)
    (B : Nat) (u : Value) (hx : a.eval x = .slice (some ⟨B, 0, none⟩) 1 1) (hB : BlkAt w B e #[u]) (h1 : u.oneCell' = true) (h63 : n + 1 ≤ 4000001) (hbase : base ≤ w.heap.size)
    (h : ∀ g cap w', w'.ownsRow base e 1 (.slice (some ⟨g, 0, none⟩) (n + 1) cap) (n + 1) (xs ++ [u]) → w.grownBy w' v.ownBlock → (v.ownBlock = some g ∨ g = w.heap.size) → g < w'.heap.size → NT e w w' → wpList P ops Q rest (a.put o.dst (.slice (some ⟨g, 0, none⟩) (n + 1) cap)) w') : wpList P ops Q (o :: rest) a w := by
  have hu : w.cell? ⟨B, 0, none⟩ = some u := by rw [hB.cell]; rfl
  have hmul : (n + 1) * bytes ≤ 140737488355328 := Nat.le_trans (Nat.mul_le_mul h63 hbb) (by decide)
  obtain ⟨g, cap, w', hr, h2, h3, h4, h5⟩ := run_append_lies (P := P) w t o.type base e i z 1 bytes ht hi hz hsize hby hzs (by decide) v n xs hown ⟨B, 0, none⟩ 1 1 [u] rfl hB.news (by simp [h1]) (by decide) (by unfold maxLen; omega) hmul hbase w.heap.size rfl
  exact wpList_append_run hgd s x t t ho v _ _ hs hx hr (h g cap w' h2 h3 h4 h5 (push_nt w t o.type base e i z ht hi hz hsize hown ⟨B, 0, none⟩ u hu h1 h63 (by rw [hby]; exact hbb) hr))
end Go.PM
end

section
/-
  Fields appended to fields; parts of a list of fields. Plain theorems, over any program.
-/
namespace Go.PM
open Go.RowKit
section
variable {P : Program} {w : World}
theorem append_empty (t ty e : TypeId) (i : TypeInfo) (ht : P.underlying t = some (.slice e)) (hi : P.info? e = some i) (A A' : Option Addr) (n c c' : Nat) (h : n ≤ c) :
    (Builtin.append_ #[t, t] ty #[.slice A n c, .slice A' 0 c']).run P w = .ok (.slice A n c) w := by
  have h0 : (Builtin.firstCells i.size 0 (.slice A' 0 c')).run P w = .ok #[] w := by
    cases A' with
    | none => exact run_firstCells_none w i.size 0 0 c'
    | some a => exact run_firstCells_some w i.size 0 a 0 c' [] (by simp) (fun j u h => by simp at h)
  cases A with
  | none => simp [Builtin.append_, run_underlying ht, sizeOf, typeInfo, hi, Builtin.lenOf, h0, h]
  | some a => simp [Builtin.append_, run_underlying ht, sizeOf, typeInfo, hi, Builtin.lenOf, h0, h, storeCells]
theorem step_append_run {w' : World} {ops : Array Oper} {o : Oper} {a : Act} {K : Act → World → Prop} {Q : Exit → Act → World → Prop} {E : Prop} (hgd : o.guard = none) (s x : Operand) (t u : TypeId)
    (ho : o.op = .call { callee := .builtin .append, args := #[s, x], argTypes := #[t, u] }) (v y v' : Value) (hs : a.eval s = v) (hx : a.eval x = y)
    (hrun : (Builtin.append_ #[t, u] o.type #[v, y]).run P w = .ok v' w') (h : K (a.put o.dst v') w') : if Region.wanted o (yielded ops a.tmps) = true then Oper.wp P o a w K Q else E := by
  have hw : Region.wanted o (yielded ops a.tmps) = true := by simp [Region.wanted, hgd]
  rw [if_pos hw]
  unfold Oper.wp execOp
  simp only [ho, resolve, invoke, builtin, Sem.run_bind, Sem.run_pure, Result.andThen_ok, List.map_toArray, List.map_cons, List.map_nil, hs, hx, hrun]
  exact h
/-- Fields appended to a row of the call's own. -/
theorem fapp_run (t ty e : TypeId) (i : TypeInfo) (ht : P.underlying t = some (.slice e)) (hi : P.info? e = some i) (hz : i.zero = some zfield) (hsz : i.size = 5) (hby : i.bytes = 64)
    {base : Nat} {A B : Option Addr} {c d : Nat} {f g : Fs} {xs : List Value} (hown : w.ownsRow base e 5 (.slice A f.len c) f.len xs) {J I : Nat → Prop} (hc : Cls w J xs f) (hJ : ∀ k, J k → (Value.slice A f.len c).ownBlock ≠ some k)
    (hs : SlV w I (.slice B g.len d) g) (hI : ∀ k, I k → (Value.slice A f.len c).ownBlock ≠ some k) (h60 : f.len + g.len ≤ 2000000) (hb : base ≤ w.heap.size) :
    ∃ (A' : Option Addr) (c' : Nat) (w' : World) (xs' : List Value), (Builtin.append_ #[t, t] ty #[.slice A f.len c, .slice B g.len d]).run P w = .ok (.slice A' (f.app g).len c') w' ∧ w'.ownsRow base e 5 (.slice A' (f.app g).len c') (f.app g).len xs' ∧
      Cls w' (fun k => (J k ∨ I k) ∧ k < w.heap.size) xs' (f.app g) ∧ w.grownBy w' (Value.slice A f.len c).ownBlock ∧ ((Value.slice A' (f.app g).len c').ownBlock = (Value.slice A f.len c).ownBlock ∨ (Value.slice A' (f.app g).len c').ownBlock = some w.heap.size) := by
  by_cases h0 : g.len = 0
  · have : g = .nil := Fs.len_zero h0
    subst this
    rw [Fs.app_nil]
    have hnc : f.len ≤ c := by
      rcases hown.2 with ⟨h1, h2⟩ | ⟨g', cap, cur, h1, _, _, h2, _⟩
      · omega
      · simp only [Value.slice.injEq] at h1; omega
    exact ⟨A, c, w, xs, append_empty t ty e i ht hi A B f.len c d hnc, hown, (hc.lt).imp fun k hk => ⟨.inl hk.1, hk.2⟩, grown_refl _ _, .inl rfl⟩
  · obtain ⟨B', d', hv, hd, hor⟩ := hs
    injection hv with e1 e2 e3
    subst e1 e3
    rcases hor with h | ⟨b, o, rfl, hIb, hbl, hf⟩
    · exact absurd h h0
    obtain ⟨ys, hy, hy2⟩ := hf.cls
    have hyl := hy.length
    have hnews : ∀ j u, ys[j]? = some u → w.cell? ((⟨b, o, none⟩ : Addr).add j) = some u := fun j u hj => by
      have ha : (⟨b, o, none⟩ : Addr).add j = ⟨b, o + j, none⟩ := by unfold Addr.add; split <;> simp_all
      rw [ha]; exact hy2 j u hj
    obtain ⟨g', cap, w', hr, h2, h3, h4, h5⟩ := run_append_lies (P := P) w t ty base e i zfield 5 64 ht hi hz hsz hby rfl (by decide) _ f.len xs hown ⟨b, o, none⟩ g.len d ys (by omega) hnews (cls_one hy) (by omega) (by unfold maxLen; omega) (by omega) hb w.heap.size rfl
    have hS : ∀ k, (J k ∨ I k) ∧ k < w.heap.size → ¬ ((Value.slice A f.len c).ownBlock = some k) := fun k hk => by
      rcases hk.1 with h | h
      · exact hJ k h
      · exact hI k h
    have hcl := ((hc.lt.imp (J := fun k => (J k ∨ I k) ∧ k < w.heap.size) fun k hk => ⟨.inl hk.1, hk.2⟩).app (hy.lt.imp (J := fun k => (J k ∨ I k) ∧ k < w.heap.size) fun k hk => ⟨.inr hk.1, hk.2⟩)).tch (S := fun k => (Value.slice A f.len c).ownBlock = some k) (Tch.grown h3 fun k hk _ => hk) hS
    rw [Fs.app_len]
    refine ⟨some ⟨g', 0, none⟩, cap, w', _, hr, h2, hcl, h3, ?_⟩
    rcases h4 with h4 | h4
    · exact .inl h4.symm
    · right; rw [h4]; rfl
end
section
variable {w : World} {I : Nat → Prop}
theorem FsAt.take : ∀ {f : Fs} {b o : Nat} (k : Nat), FsAt w I f b o → FsAt w I (f.take k) b o
  | f, _, _, 0, _ => by cases f <;> trivial
  | .nil, _, _, _ + 1, _ => trivial
  | .cons .., _, _, k + 1, h => ⟨h.1, h.2.1, h.2.2.1, h.2.2.2.1, h.2.2.2.2.1, FsAt.take k h.2.2.2.2.2⟩
theorem SlV.take {A : Option Addr} {c : Nat} {f : Fs} (h : SlV w I (.slice A f.len c) f) (k : Nat) (hk : k ≤ f.len) : SlV w I (.slice A (f.take k).len c) (f.take k) := by
  obtain ⟨A', c', hv, hc, hor⟩ := h
  injection hv with e1 e2 e3
  subst e1 e3
  refine ⟨A, c, rfl, by rw [Fs.take_len f k hk]; omega, ?_⟩
  rcases hor with h | ⟨b, o, h1, h2, h3, h4⟩
  · left; rw [Fs.take_len f k hk]; omega
  · exact .inr ⟨b, o, h1, h2, h3, h4.take k⟩
theorem SlV.drop {b o c : Nat} {f : Fs} (h : SlV w I (.slice (some ⟨b, o, none⟩) f.len c) f) (k : Nat) (hk : k ≤ f.len) (c' : Nat) (hc : f.len - k ≤ c') : SlV w I (.slice (some ⟨b, o + k * 5, none⟩) (f.drop k).len c') (f.drop k) := by
  obtain ⟨A', c2, hv, hc2, hor⟩ := h
  injection hv with e1 e2 e3
  refine ⟨_, c', rfl, by rw [Fs.drop_len]; exact hc, ?_⟩
  rcases hor with h | ⟨b', o', h1, h2, h3, h4⟩
  · left; rw [Fs.drop_len]; omega
  · rw [← e1] at h1
    injection h1 with h1
    injection h1 with h5 h6
    subst h5 h6
    exact .inr ⟨b, o + k * 5, rfl, h2, h3, h4.drop k⟩
end
end Go.PM
end
