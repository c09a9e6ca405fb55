/-
  Texts of the proof, joined: PlainWire FCheckP RefFld RefFld2 RefFld3 FSame FSame2 RefFld4 RefUtf RefUtf2 UtfLaw. Conditions: as each names.
-/
import Derived.Test.YtgbgbdocgpdkgaaGreatDoorBac
import Derived.Test.YtgbgbdocgpdkgaaGreatDoorBaa
import Derived.Test.YtgbgbdocgpdkgaaGreatDoorBah

section
/-
  Plain laws of fields as bytes: their writing, what a text reads as, there and back. No program in sight.
-/
namespace Go.PM
/-- Fields that may be, as they are written. -/
def ftx : Fs → List UInt8
  | .nil => []
  | .cons t y n s i r => vput (4 * t + y.toNat) ++ ((if y = 0 then vput n else if y = 1 then vput s.size ++ s.data.toList else vput (ftx i).length ++ ftx i) ++ ftx r)
theorem ftx_app : ∀ f g : Fs, ftx (f.app g) = ftx f ++ ftx g
  | .nil, g => rfl
  | .cons t y n s i r, g => by simp only [Fs.app, ftx, ftx_app r g, List.append_assoc]
/-- A head's tag; the last one's tag. -/
def Fs.tag : Fs → Nat
  | .nil => 0
  | .cons t _ _ _ _ _ => t
def Fs.last : Fs → Nat → Nat
  | .nil, l => l
  | .cons t _ _ _ _ r, _ => r.last t
/-- Fields that may be, above a tag, within so many lists: as a fact. -/
def fcheckP : Fs → Nat → Nat → Prop
  | .nil, _, _ => True
  | .cons t y n s i r, ahead, within => (ahead < t ∧ 0 < t ∧ t ≤ 4294967296 ∧ In64 n ∧ (y = 0 ∧ s = ByteArray.empty ∧ i = .nil ∨ y = 1 ∧ n = 0 ∧ i = .nil ∧ s.size ≤ 9223372036854775807 ∨ y = 2 ∧ n = 0 ∧ s = ByteArray.empty ∧ within < 8 ∧ fcheckP i 0 (within + 1))) ∧ fcheckP r t within
/-- The field that a text begins with, where the text of a list reads so: the field, how many bytes, the code. -/
def fone (rec : List UInt8 → Fs × Nat) (s : List UInt8) (deep last : Nat) : Fs × Nat × Nat :=
  if (vget s).2.2 ≠ 0 then (.nil, 0, (vget s).2.2)
  else if (vget s).1 / 4 = 0 ∨ 4294967296 < (vget s).1 / 4 then (.nil, 0, 18)
  else if (vget s).1 % 4 = 3 then (.nil, 0, 8)
  else if (vget s).1 / 4 ≤ last then (.nil, 0, 7)
  else if (vget (s.drop (vget s).2.1)).2.2 ≠ 0 then (.nil, 0, (vget (s.drop (vget s).2.1)).2.2)
  else if (vget s).1 % 4 = 0 then (.cons ((vget s).1 / 4) 0 (vget (s.drop (vget s).2.1)).1 ByteArray.empty .nil .nil, (vget s).2.1 + (vget (s.drop (vget s).2.1)).2.1, 0)
  else if s.length - ((vget s).2.1 + (vget (s.drop (vget s).2.1)).2.1) < (vget (s.drop (vget s).2.1)).1 then (.nil, 0, 1)
  else if (vget s).1 % 4 = 1 then (.cons ((vget s).1 / 4) 1 0 (txt ((s.drop ((vget s).2.1 + (vget (s.drop (vget s).2.1)).2.1)).take (vget (s.drop (vget s).2.1)).1)) .nil .nil, (vget s).2.1 + (vget (s.drop (vget s).2.1)).2.1 + (vget (s.drop (vget s).2.1)).1, 0)
  else if deep = 8 then (.nil, 0, 9)
  else if (rec ((s.drop ((vget s).2.1 + (vget (s.drop (vget s).2.1)).2.1)).take (vget (s.drop (vget s).2.1)).1)).2 ≠ 0 then (.nil, 0, (rec ((s.drop ((vget s).2.1 + (vget (s.drop (vget s).2.1)).2.1)).take (vget (s.drop (vget s).2.1)).1)).2)
  else (.cons ((vget s).1 / 4) 2 0 ByteArray.empty (rec ((s.drop ((vget s).2.1 + (vget (s.drop (vget s).2.1)).2.1)).take (vget (s.drop (vget s).2.1)).1)).1 .nil, (vget s).2.1 + (vget (s.drop (vget s).2.1)).2.1 + (vget (s.drop (vget s).2.1)).1, 0)
/-- One, and the others behind it. -/
def fthen (f : Fs) (q : Fs × Nat) : Fs × Nat := if q.2 ≠ 0 then (.nil, q.2) else (f.app q.1, 0)
theorem fthen_ok {f : Fs} {q : Fs × Nat} (h : (fthen f q).2 = 0) : q.2 = 0 ∧ fthen f q = (f.app q.1, 0) := by
  unfold fthen at h ⊢
  by_cases e : q.2 ≠ 0
  · rw [if_pos e] at h; exact absurd h e
  · rw [if_neg e]; exact ⟨Classical.not_not.1 e, rfl⟩
theorem fthen_err {f : Fs} {q : Fs × Nat} (h : q.2 ≠ 0) : fthen f q = (.nil, q.2) := by unfold fthen; rw [if_pos h]
theorem fthen_yes {f : Fs} {q : Fs × Nat} (h : q.2 = 0) : fthen f q = (f.app q.1, 0) := by unfold fthen; rw [if_neg (by rw [h]; simp)]
def fgetN : Nat → List UInt8 → Nat → Nat → Fs × Nat
  | 0, _, _, _ => (.nil, 0)
  | N + 1, s, deep, last =>
    if s.length = 0 then (.nil, 0)
    else if (fone (fun t => fgetN N t (deep + 1) 0) s deep last).2.2 ≠ 0 then (.nil, (fone (fun t => fgetN N t (deep + 1) 0) s deep last).2.2)
    else fthen (fone (fun t => fgetN N t (deep + 1) 0) s deep last).1 (fgetN N (s.drop (fone (fun t => fgetN N t (deep + 1) 0) s deep last).2.1) deep (fone (fun t => fgetN N t (deep + 1) 0) s deep last).1.tag)
/-- The fields that a text is. -/
def fget (s : List UInt8) (deep last : Nat) : Fs × Nat := fgetN s.length s deep last
/-- The field that a text begins with. -/
def ffirst (s : List UInt8) (deep last : Nat) : Fs × Nat × Nat := fone (fun t => fget t (deep + 1) 0) s deep last

theorem fone_congr {rec rec' : List UInt8 → Fs × Nat} {s : List UInt8} (deep last : Nat) (h : ∀ t : List UInt8, t.length + 2 ≤ s.length → rec t = rec' t) : fone rec s deep last = fone rec' s deep last := by
  unfold fone
  by_cases h1 : (vget s).2.2 ≠ 0
  · rw [if_pos h1, if_pos h1]
  rw [if_neg h1, if_neg h1]
  have o1 := vget_ok (Classical.not_not.1 h1)
  by_cases h2 : (vget s).1 / 4 = 0 ∨ 4294967296 < (vget s).1 / 4
  · rw [if_pos h2, if_pos h2]
  rw [if_neg h2, if_neg h2]
  by_cases h3 : (vget s).1 % 4 = 3
  · rw [if_pos h3, if_pos h3]
  rw [if_neg h3, if_neg h3]
  by_cases h4 : (vget s).1 / 4 ≤ last
  · rw [if_pos h4, if_pos h4]
  rw [if_neg h4, if_neg h4]
  by_cases h5 : (vget (s.drop (vget s).2.1)).2.2 ≠ 0
  · rw [if_pos h5, if_pos h5]
  rw [if_neg h5, if_neg h5]
  have o2 := vget_ok (Classical.not_not.1 h5)
  rw [List.length_drop] at o2
  rw [h ((s.drop ((vget s).2.1 + (vget (s.drop (vget s).2.1)).2.1)).take (vget (s.drop (vget s).2.1)).1) (by rw [List.length_take, List.length_drop]; omega)]
/-- What a field that was read is. -/
theorem fone_ok {rec : List UInt8 → Fs × Nat} {s : List UInt8} {deep last : Nat} (h : (fone rec s deep last).2.2 = 0) :
    ∃ (t : Nat) (y : Int) (n : Nat) (x : ByteArray) (i : Fs) (k : Nat), fone rec s deep last = (.cons t y n x i .nil, k, 0) ∧ 2 ≤ k ∧ k ≤ s.length ∧ last < t ∧ 0 < t ∧ t ≤ 4294967296 ∧ In64 n ∧
      (y = 0 ∧ x = ByteArray.empty ∧ i = .nil ∧ s.take k = vput (4 * t) ++ vput n ∨
       y = 1 ∧ n = 0 ∧ i = .nil ∧ x.size ≤ s.length ∧ s.take k = vput (4 * t + 1) ++ (vput x.size ++ x.data.toList) ∨
       y = 2 ∧ n = 0 ∧ x = ByteArray.empty ∧ deep ≠ 8 ∧ ∃ u : List UInt8, u.length + 2 ≤ s.length ∧ rec u = (i, 0) ∧ s.take k = vput (4 * t + 2) ++ (vput u.length ++ u)) := by
  unfold fone at h ⊢
  by_cases h1 : (vget s).2.2 ≠ 0
  · rw [if_pos h1] at h; exact absurd h h1
  rw [if_neg h1] at h ⊢
  obtain ⟨a1, a2, _, a3, a4⟩ := vget_ok (Classical.not_not.1 h1)
  by_cases h2 : (vget s).1 / 4 = 0 ∨ 4294967296 < (vget s).1 / 4
  · rw [if_pos h2] at h; exact absurd h (by simp)
  rw [if_neg h2] at h ⊢
  by_cases h3 : (vget s).1 % 4 = 3
  · rw [if_pos h3] at h; exact absurd h (by simp)
  rw [if_neg h3] at h ⊢
  by_cases h4 : (vget s).1 / 4 ≤ last
  · rw [if_pos h4] at h; exact absurd h (by simp)
  rw [if_neg h4] at h ⊢
  by_cases h5 : (vget (s.drop (vget s).2.1)).2.2 ≠ 0
  · rw [if_pos h5] at h; exact absurd h h5
  rw [if_neg h5] at h ⊢
  obtain ⟨b1, b2, _, b3, b4⟩ := vget_ok (Classical.not_not.1 h5)
  generalize hn : (vget s).1 = n at *
  generalize hk : (vget s).2.1 = k at *
  generalize hm : (vget (s.drop k)).1 = m at *
  generalize hj : (vget (s.drop k)).2.1 = j at *
  rw [List.length_drop] at b2
  have htk : ∀ e, s.take (k + j + e) = vput n ++ (vput m ++ (s.drop (k + j)).take e) := fun e => by
    rw [List.take_add, List.take_add, ← a4, ← b4, List.append_assoc]
  by_cases h6 : n % 4 = 0
  · rw [if_pos h6] at h ⊢
    refine ⟨_, _, _, _, _, _, rfl, by omega, by omega, by omega, by omega, by omega, b3, .inl ⟨rfl, rfl, rfl, ?_⟩⟩
    have := htk 0
    simp only [Nat.add_zero, List.take_zero, List.append_nil] at this
    rw [this, show 4 * (n / 4) = n by omega]
  rw [if_neg h6] at h ⊢
  by_cases h7 : s.length - (k + j) < m
  · rw [if_pos h7] at h; exact absurd h (by simp)
  rw [if_neg h7] at h ⊢
  have htl : ((s.drop (k + j)).take m).length = m := by rw [List.length_take, List.length_drop]; omega
  by_cases h8 : n % 4 = 1
  · rw [if_pos h8] at h ⊢
    refine ⟨_, _, _, _, _, _, rfl, by omega, by omega, by omega, by omega, by omega, by unfold In64; omega, .inr (.inl ⟨rfl, rfl, rfl, by rw [txt_size, htl]; omega, ?_⟩)⟩
    rw [htk m, txt_size, txt_list, htl, show 4 * (n / 4) + 1 = n by omega]
  rw [if_neg h8] at h ⊢
  by_cases h9 : deep = 8
  · rw [if_pos h9] at h; exact absurd h (by simp)
  rw [if_neg h9] at h ⊢
  by_cases h10 : (rec ((s.drop (k + j)).take m)).2 ≠ 0
  · rw [if_pos h10] at h; exact absurd h h10
  rw [if_neg h10] at h ⊢
  refine ⟨_, _, _, _, _, _, rfl, by omega, by omega, by omega, by omega, by omega, by unfold In64; omega, .inr (.inr ⟨rfl, rfl, rfl, h9, (s.drop (k + j)).take m, by rw [htl]; omega, ?_, ?_⟩)⟩
  · exact Prod.ext rfl (Classical.not_not.1 h10)
  · rw [htk m, htl, show 4 * (n / 4) + 2 = n by omega]
theorem fone_err {rec : List UInt8 → Fs × Nat} {s : List UInt8} {deep last : Nat} (h : (fone rec s deep last).2.2 ≠ 0) : fone rec s deep last = (.nil, 0, (fone rec s deep last).2.2) := by
  unfold fone at h ⊢
  by_cases h1 : (vget s).2.2 ≠ 0
  · rw [if_pos h1]
  rw [if_neg h1] at h ⊢
  by_cases h2 : (vget s).1 / 4 = 0 ∨ 4294967296 < (vget s).1 / 4
  · rw [if_pos h2]
  rw [if_neg h2] at h ⊢
  by_cases h3 : (vget s).1 % 4 = 3
  · rw [if_pos h3]
  rw [if_neg h3] at h ⊢
  by_cases h4 : (vget s).1 / 4 ≤ last
  · rw [if_pos h4]
  rw [if_neg h4] at h ⊢
  by_cases h5 : (vget (s.drop (vget s).2.1)).2.2 ≠ 0
  · rw [if_pos h5]
  rw [if_neg h5] at h ⊢
  by_cases h6 : (vget s).1 % 4 = 0
  · rw [if_pos h6] at h; exact absurd rfl h
  rw [if_neg h6] at h ⊢
  by_cases h7 : s.length - ((vget s).2.1 + (vget (s.drop (vget s).2.1)).2.1) < (vget (s.drop (vget s).2.1)).1
  · rw [if_pos h7]
  rw [if_neg h7] at h ⊢
  by_cases h8 : (vget s).1 % 4 = 1
  · rw [if_pos h8] at h; exact absurd rfl h
  rw [if_neg h8] at h ⊢
  by_cases h9 : deep = 8
  · rw [if_pos h9]
  rw [if_neg h9] at h ⊢
  by_cases h10 : (rec ((s.drop ((vget s).2.1 + (vget (s.drop (vget s).2.1)).2.1)).take (vget (s.drop (vget s).2.1)).1)).2 ≠ 0
  · rw [if_pos h10]
  rw [if_neg h10] at h
  exact absurd rfl h
theorem fgetN_more : ∀ (N : Nat) (s : List UInt8) (deep last : Nat), s.length ≤ N → fgetN (N + 1) s deep last = fgetN N s deep last
  | 0, s, deep, last, h => by
    have : s.length = 0 := by omega
    simp [fgetN, this]
  | N + 1, s, deep, last, h => by
    rw [fgetN.eq_def (N + 1 + 1), fgetN.eq_def (N + 1)]
    simp only []
    by_cases h0 : s.length = 0
    · rw [if_pos h0, if_pos h0]
    rw [if_neg h0, if_neg h0]
    have e : fone (fun t => fgetN (N + 1) t (deep + 1) 0) s deep last = fone (fun t => fgetN N t (deep + 1) 0) s deep last := fone_congr deep last fun t ht => fgetN_more N t _ _ (by omega)
    rw [e]
    by_cases h1 : (fone (fun t => fgetN N t (deep + 1) 0) s deep last).2.2 ≠ 0
    · rw [if_pos h1, if_pos h1]
    rw [if_neg h1, if_neg h1]
    obtain ⟨t, y, n, x, i, k, hf, hk, hks, _⟩ := fone_ok (Classical.not_not.1 h1)
    rw [hf]
    show fthen _ (fgetN (N + 1) (s.drop k) deep t) = fthen _ (fgetN N (s.drop k) deep t)
    rw [fgetN_more N (s.drop k) deep t (by rw [List.length_drop]; omega)]
theorem fgetN_big {N : Nat} {s : List UInt8} (deep last : Nat) (h : s.length ≤ N) : fgetN N s deep last = fget s deep last := by
  unfold fget
  obtain ⟨d, rfl⟩ := Nat.le.dest h
  clear h
  induction d with
  | zero => rfl
  | succ d ih => rw [← Nat.add_assoc, fgetN_more _ _ _ _ (by omega), ih]
theorem fget_nil (deep last : Nat) : fget [] deep last = (.nil, 0) := rfl
/-- One field, and the others. -/
theorem fget_err {s : List UInt8} {deep last : Nat} (h : s.length ≠ 0) (h1 : (ffirst s deep last).2.2 ≠ 0) : fget s deep last = (.nil, (ffirst s deep last).2.2) := by
  obtain ⟨N, hN⟩ : ∃ N, s.length = N + 1 := ⟨s.length - 1, by omega⟩
  have e : fone (fun t => fgetN N t (deep + 1) 0) s deep last = ffirst s deep last := fone_congr deep last fun t ht => fgetN_big _ _ (by omega)
  unfold fget
  rw [hN, fgetN, if_neg h, e, if_pos h1]
theorem fget_step {s : List UInt8} {deep last : Nat} (h : s.length ≠ 0) (h1 : (ffirst s deep last).2.2 = 0) :
    fget s deep last = fthen (ffirst s deep last).1 (fget (s.drop (ffirst s deep last).2.1) deep (ffirst s deep last).1.tag) := by
  obtain ⟨N, hN⟩ : ∃ N, s.length = N + 1 := ⟨s.length - 1, by omega⟩
  have e : fone (fun t => fgetN N t (deep + 1) 0) s deep last = ffirst s deep last := fone_congr deep last fun t ht => fgetN_big _ _ (by omega)
  obtain ⟨t, y, n, x, i, k, hf, hk, hks, _⟩ := fone_ok (show (fone (fun t => fget t (deep + 1) 0) s deep last).2.2 = 0 from h1)
  have hf' : ffirst s deep last = (.cons t y n x i .nil, k, 0) := hf
  have hu : fget s deep last = fgetN (N + 1) s deep last := by rw [← hN]; rfl
  rw [hu, fgetN, if_neg h, e, if_neg (by rw [h1]; simp), hf']
  show fthen _ (fgetN N (s.drop k) deep t) = fthen _ (fget (s.drop k) deep t)
  rw [fgetN_big _ _ (by rw [List.length_drop]; omega)]
/-- What is read may be, and is written so. -/
theorem fget_ok : ∀ (N : Nat) (s : List UInt8) (deep last : Nat), s.length ≤ N → deep ≤ 8 → s.length ≤ 1000000 → (fget s deep last).2 = 0 → ftx (fget s deep last).1 = s ∧ fcheckP (fget s deep last).1 last deep ∧ (fget s deep last).1.count ≤ s.length
  | N, s, deep, last, hN, hd, hs, h => by
    by_cases h0 : s.length = 0
    · obtain rfl : s = [] := List.eq_nil_of_length_eq_zero h0
      rw [fget_nil]
      exact ⟨rfl, trivial, Nat.le_refl _⟩
    by_cases h1 : (ffirst s deep last).2.2 ≠ 0
    · rw [fget_err h0 h1] at h; exact absurd h h1
    have h1' := Classical.not_not.1 h1
    rw [fget_step h0 h1'] at h ⊢
    obtain ⟨t, y, n, x, i, k, hf, hk, hks, ht, ht0, ht1, hn, hor⟩ := fone_ok (show (fone (fun t => fget t (deep + 1) 0) s deep last).2.2 = 0 from h1')
    have hf' : ffirst s deep last = (.cons t y n x i .nil, k, 0) := hf
    rw [hf'] at h ⊢
    have h3 : (fthen (.cons t y n x i .nil) (fget (s.drop k) deep t)).2 = 0 := h
    show ftx (fthen (.cons t y n x i .nil) (fget (s.drop k) deep t)).1 = s ∧ fcheckP (fthen (.cons t y n x i .nil) (fget (s.drop k) deep t)).1 last deep ∧ (fthen (.cons t y n x i .nil) (fget (s.drop k) deep t)).1.count ≤ s.length
    obtain ⟨h2, h4⟩ := fthen_ok h3
    rw [h4]
    clear h h3 h4
    match N, hN with
    | 0, hN => omega
    | N + 1, hN =>
      obtain ⟨g1, g2, g3⟩ := fget_ok N (s.drop k) deep t (by rw [List.length_drop]; omega) hd (by rw [List.length_drop]; omega) h2
      generalize (fget (s.drop k) deep t).1 = r at *
      rw [List.length_drop] at g3
      have hse : s = s.take k ++ s.drop k := (List.take_append_drop k s).symm
      rcases hor with ⟨rfl, rfl, rfl, htk⟩ | ⟨rfl, rfl, rfl, hx, htk⟩ | ⟨rfl, rfl, rfl, hd8, u, hu, hru, htk⟩
      · refine ⟨?_, ⟨⟨ht, ht0, ht1, hn, .inl ⟨rfl, rfl, rfl⟩⟩, g2⟩, ?_⟩
        · rw [hse, htk, ← g1]
          simp [Fs.app, ftx]
        · simp only [Fs.app, Fs.count]; omega
      · refine ⟨?_, ⟨⟨ht, ht0, ht1, hn, .inr (.inl ⟨rfl, rfl, rfl, by omega⟩)⟩, g2⟩, ?_⟩
        · rw [hse, htk, ← g1]
          simp [Fs.app, ftx]
        · simp only [Fs.app, Fs.count]; omega
      · have hu2 : (fget u (deep + 1) 0).2 = 0 := by rw [hru]
        obtain ⟨e1, e2, e3⟩ := fget_ok N u (deep + 1) 0 (by omega) (by omega) (by omega) hu2
        rw [hru] at e1 e2 e3
        simp only [] at e1 e2 e3
        have hul : u.length + 2 ≤ k := by
          have := congrArg List.length htk
          simp only [List.length_take, List.length_append, vput_length] at this
          have := vsz_pos (4 * t + 2)
          have := vsz_pos u.length
          omega
        refine ⟨?_, ⟨⟨ht, ht0, ht1, hn, .inr (.inr ⟨rfl, rfl, rfl, by omega, e2⟩)⟩, g2⟩, ?_⟩
        · rw [hse, htk, ← g1, ← e1]
          simp [Fs.app, ftx]
        · simp only [Fs.app, Fs.count]; omega
/-- What was written is read. -/
theorem fget_text (z : List UInt8) : ∀ (f : Fs) (deep last : Nat), deep ≤ 8 → fcheckP f last deep → (ftx f).length ≤ 1000000 →
    fget (ftx f ++ z) deep last = fthen f (fget z deep (f.last last))
  | .nil, deep, last, hd, _, _ => by
    show fget z deep last = fthen .nil (fget z deep last)
    by_cases h : (fget z deep last).2 ≠ 0
    · rw [fthen_err h]
      by_cases h0 : z.length = 0
      · obtain rfl : z = [] := List.eq_nil_of_length_eq_zero h0
        exact absurd rfl h
      by_cases h1 : (ffirst z deep last).2.2 ≠ 0
      · rw [fget_err h0 h1]
      · rw [fget_step h0 (Classical.not_not.1 h1)] at h ⊢
        generalize fget (z.drop (ffirst z deep last).2.1) deep (ffirst z deep last).1.tag = q at *
        by_cases hq : q.2 = 0
        · rw [fthen_yes hq] at h; exact absurd rfl h
        · rw [fthen_err hq]
    · rw [fthen_yes (Classical.not_not.1 h)]
      exact Prod.ext rfl (Classical.not_not.1 h)
  | .cons t y n x i r, deep, last, hd, hc, hl => by
    obtain ⟨⟨ht, ht0, ht1, hn, hor⟩, hcr⟩ := hc
    have hr := fget_text z r deep t hd hcr (by rw [ftx] at hl; simp only [List.length_append] at hl; omega)
    have h4 : 4 * t + y.toNat < 18446744073709551616 := by rcases hor with ⟨rfl, _⟩ | ⟨rfl, _⟩ | ⟨rfl, _⟩ <;> simp <;> omega
    have hsz := vsz_pos (4 * t + y.toNat)
    generalize hb : (if y = 0 then vput n else if y = 1 then vput x.size ++ x.data.toList else vput (ftx i).length ++ ftx i) = B at *
    have hft : ftx (.cons t y n x i r) ++ z = vput (4 * t + y.toNat) ++ (B ++ (ftx r ++ z)) := by rw [ftx, hb]; simp only [List.append_assoc]
    have hv1 := vget_put (4 * t + y.toNat) h4 (B ++ (ftx r ++ z))
    have hlb : (ftx (.cons t y n x i r)).length = vsz (4 * t + y.toNat) + (B.length + (ftx r).length) := by rw [ftx, hb]; simp only [List.length_append, vput_length]
    rw [hlb] at hl
    rw [hft]
    have hne : (vput (4 * t + y.toNat) ++ (B ++ (ftx r ++ z))).length ≠ 0 := by simp only [List.length_append, vput_length]; omega
    have hdr : (vput (4 * t + y.toNat) ++ (B ++ (ftx r ++ z))).drop (vsz (4 * t + y.toNat)) = B ++ (ftx r ++ z) := by
      rw [← vput_length, List.drop_left]
    have hdiv : (4 * t + y.toNat) / 4 = t ∧ (4 * t + y.toNat) % 4 = y.toNat := by rcases hor with ⟨rfl, _⟩ | ⟨rfl, _⟩ | ⟨rfl, _⟩ <;> simp <;> omega
    have hone : ffirst (vput (4 * t + y.toNat) ++ (B ++ (ftx r ++ z))) deep last = (.cons t y n x i .nil, vsz (4 * t + y.toNat) + B.length, 0) := by
      unfold ffirst fone
      rw [hv1]
      simp only [ne_eq, not_true_eq_false, if_false, hdiv.1, hdiv.2, hdr]
      rw [if_neg (by omega), if_neg (by rcases hor with ⟨rfl, _⟩ | ⟨rfl, _⟩ | ⟨rfl, _⟩ <;> simp), if_neg (by omega)]
      rcases hor with ⟨rfl, rfl, rfl⟩ | ⟨rfl, rfl, rfl, hx⟩ | ⟨rfl, rfl, rfl, hd8, hci⟩
      · have hB : B = vput n := by rw [← hb]; rfl
        have hv2 := vget_put n hn (ftx r ++ z)
        rw [hB, hv2, if_neg (by simp), vput_length]
        rfl
      · have hB : B = vput x.size ++ x.data.toList := by rw [← hb]; rfl
        have hx64 : x.size < 18446744073709551616 := by omega
        have hv2 := vget_put x.size hx64 (x.data.toList ++ (ftx r ++ z))
        rw [hB, List.append_assoc, hv2, if_neg (by simp)]
        have hxl : x.data.toList.length = x.size := len_list x
        rw [if_neg (by decide), if_neg (by simp only [List.length_append, vput_length, hxl]; omega), if_pos (by decide)]
        have e1 : (vput (4 * t + Int.toNat 1) ++ (vput x.size ++ (x.data.toList ++ (ftx r ++ z)))).drop (vsz (4 * t + Int.toNat 1) + vsz x.size) = x.data.toList ++ (ftx r ++ z) := by
          rw [← List.append_assoc, ← vput_length, ← vput_length, ← List.length_append, List.drop_left]
        rw [e1]
        have e2 : (x.data.toList ++ (ftx r ++ z)).take x.size = x.data.toList := by rw [← hxl, List.take_left]
        rw [e2, txt_of, List.length_append, vput_length, hxl, Nat.add_assoc]
      · have hB : B = vput (ftx i).length ++ ftx i := by rw [← hb]; rfl
        rw [hB, List.length_append] at hl
        have hx64 : (ftx i).length < 18446744073709551616 := by omega
        have hv2 := vget_put (ftx i).length hx64 (ftx i ++ (ftx r ++ z))
        rw [hB, List.append_assoc, hv2, if_neg (by simp)]
        rw [if_neg (by decide), if_neg (by simp only [List.length_append, vput_length]; omega), if_neg (by decide), if_neg (by omega)]
        have e1 : (vput (4 * t + Int.toNat 2) ++ (vput (ftx i).length ++ (ftx i ++ (ftx r ++ z)))).drop (vsz (4 * t + Int.toNat 2) + vsz (ftx i).length) = ftx i ++ (ftx r ++ z) := by
          rw [← List.append_assoc, ← vput_length, ← vput_length, ← List.length_append, List.drop_left]
        rw [e1]
        have e2 : (ftx i ++ (ftx r ++ z)).take (ftx i).length = ftx i := by rw [List.take_left]
        have hin := fget_text [] i (deep + 1) 0 (by omega) hci (by omega)
        rw [List.append_nil, fget_nil, fthen_yes rfl, Fs.app_nil] at hin
        rw [e2, hin]
        simp only [not_true_eq_false, if_false]
        rw [List.length_append, vput_length, Nat.add_assoc]
    have hdr2 : (vput (4 * t + y.toNat) ++ (B ++ (ftx r ++ z))).drop (vsz (4 * t + y.toNat) + B.length) = ftx r ++ z := by
      rw [← List.append_assoc, ← vput_length, ← List.length_append, List.drop_left]
    rw [fget_step hne (by rw [hone]), hone]
    show fthen (.cons t y n x i .nil) (fget ((vput (4 * t + y.toNat) ++ (B ++ (ftx r ++ z))).drop (vsz (4 * t + y.toNat) + B.length)) deep t) = _
    rw [hdr2, hr]
    show fthen (.cons t y n x i .nil) (fthen r (fget z deep (r.last t))) = fthen (.cons t y n x i r) (fget z deep (r.last t))
    generalize fget z deep (r.last t) = q
    by_cases hz : q.2 = 0
    · rw [fthen_yes hz, fthen_yes hz, fthen_yes rfl]; rfl
    · rw [fthen_err hz, fthen_err hz]; exact fthen_err hz
end Go.PM
end

section
/-
  Plain laws of fields that may be: without one of them, alone, their lists, how deep. No program in sight.
-/
namespace Go.Proofs.YtgbgbdocgpdkgaaGreatDoor
open Go.RowKit Go.PM
theorem ftyped_iff {y : Int} {n : Nat} {s : ByteArray} {i : Fs} : ftyped y n s i.len = true ↔ y = 0 ∧ s = ByteArray.empty ∧ i = .nil ∨ y = 1 ∧ n = 0 ∧ i = .nil ∨ y = 2 ∧ n = 0 ∧ s = ByteArray.empty := by
  have hs : s.size = 0 ↔ s = ByteArray.empty := ⟨fun h => size_zero h, fun h => by rw [h]; rfl⟩
  have hi : i.len = 0 ↔ i = .nil := ⟨fun h => Fs.len_zero h, fun h => by rw [h]; rfl⟩
  unfold ftyped
  by_cases y0 : y = 0
  · subst y0; simp [hs, hi]
  by_cases y1 : y = 1
  · subst y1; simp [hi]
  by_cases y2 : y = 2
  · subst y2; simp [hs]
  · simp [y0, y1, y2]
theorem fcheck_iff : ∀ (f : Fs) (a w : Nat), f.All FKd → w ≤ 8 → (fcheck f a w = 0 ↔ fcheckP f a w)
  | .nil, a, w, _, _ => by simp [fcheck, fcheckP]
  | .cons t y n s i r, a, w, hk, hw => by
    have hr := fcheck_iff r t w hk.2.2 hw
    rw [fcheck, fcheckP]
    by_cases h1 : t = 0 ∨ 4294967296 < t
    · rw [if_pos h1]; constructor
      · intro h; cases h
      · rintro ⟨⟨_, _, _, _⟩, _⟩; omega
    rw [if_neg h1]
    by_cases h2 : t ≤ a
    · rw [if_pos h2]; constructor
      · intro h; cases h
      · rintro ⟨⟨_, _, _, _⟩, _⟩; omega
    rw [if_neg h2]
    by_cases h3 : ftyped y n s i.len = false
    · rw [if_pos h3]; constructor
      · intro h; cases h
      · rintro ⟨⟨_, _, _, _, h⟩, _⟩
        have : ftyped y n s i.len = true := ftyped_iff.2 (by
          rcases h with ⟨h1, h2, h3⟩ | ⟨h1, h2, h3, _⟩ | ⟨h1, h2, h3, _⟩
          · exact .inl ⟨h1, h2, h3⟩
          · exact .inr (.inl ⟨h1, h2, h3⟩)
          · exact .inr (.inr ⟨h1, h2, h3⟩))
        rw [this] at h3; cases h3
    rw [if_neg h3]
    have h3' := ftyped_iff.1 (by simpa using h3)
    have hbase : a < t ∧ 0 < t ∧ t ≤ 4294967296 ∧ In64 n := ⟨by omega, by omega, by omega, hk.1.2.2.1⟩
    by_cases h4 : y ≠ 2
    · rw [if_pos h4, hr]
      constructor
      · intro h
        refine ⟨⟨hbase.1, hbase.2.1, hbase.2.2.1, hbase.2.2.2, ?_⟩, h⟩
        rcases h3' with h | ⟨h1, h2, h3⟩ | h
        · exact .inl h
        · exact .inr (.inl ⟨h1, h2, h3, hk.1.2.2.2⟩)
        · exact absurd h.1 h4
      · exact fun h => h.2
    rw [if_neg h4]
    have hy : y = 2 := Classical.not_not.1 h4
    subst hy
    have h5 : n = 0 ∧ s = ByteArray.empty := by rcases h3' with ⟨h, _⟩ | ⟨h, _⟩ | ⟨_, h⟩; cases h; cases h; exact h
    by_cases h6 : 8 ≤ w
    · rw [if_pos h6]; constructor
      · intro h; cases h
      · rintro ⟨⟨_, _, _, _, h⟩, _⟩
        rcases h with ⟨h, _⟩ | ⟨h, _⟩ | ⟨_, _, _, h, _⟩
        · cases h
        · cases h
        · omega
    rw [if_neg h6]
    have hi := fcheck_iff i 0 (w + 1) hk.2.1 (by omega)
    by_cases h7 : fcheck i 0 (w + 1) ≠ 0
    · rw [if_pos h7]; constructor
      · intro h; exact absurd h h7
      · rintro ⟨⟨_, _, _, _, h⟩, _⟩
        rcases h with ⟨h, _⟩ | ⟨h, _⟩ | ⟨_, _, _, _, h⟩
        · cases h
        · cases h
        · exact absurd (hi.2 h) h7
    · rw [if_neg h7, hr]
      have h7' := hi.1 (Classical.not_not.1 h7)
      exact ⟨fun h => ⟨⟨hbase.1, hbase.2.1, hbase.2.2.1, hbase.2.2.2, .inr (.inr ⟨rfl, h5.1, h5.2, by omega, h7'⟩)⟩, h⟩, fun h => h.2⟩
end Go.Proofs.YtgbgbdocgpdkgaaGreatDoor
namespace Go.PM
theorem fcheckP_mono : ∀ {f : Fs} {a a' w : Nat}, a' ≤ a → fcheckP f a w → fcheckP f a' w
  | .nil, _, _, _, _, _ => trivial
  | .cons .., _, _, _, h, hf => ⟨⟨by have := hf.1.1; omega, hf.1.2⟩, hf.2⟩
theorem fcheckP_up : ∀ {f : Fs} {a w w' : Nat}, w' ≤ w → fcheckP f a w → fcheckP f a w'
  | .nil, _, _, _, _, _ => trivial
  | .cons .., _, _, _, h, hf => by
    obtain ⟨⟨h1, h2, h3, h4, h5⟩, h6⟩ := hf
    refine ⟨⟨h1, h2, h3, h4, ?_⟩, fcheckP_up h h6⟩
    rcases h5 with h5 | h5 | ⟨e1, e2, e3, e4, e5⟩
    · exact .inl h5
    · exact .inr (.inl h5)
    · exact .inr (.inr ⟨e1, e2, e3, by omega, fcheckP_up (by omega) e5⟩)
theorem fcheckP_app : ∀ {f g : Fs} {a w : Nat}, fcheckP (f.app g) a w ↔ fcheckP f a w ∧ fcheckP g (f.last a) w
  | .nil, g, a, w => by simp [Fs.app, fcheckP, Fs.last]
  | .cons t y n s i r, g, a, w => by simp only [Fs.app, fcheckP, Fs.last, fcheckP_app (f := r), and_assoc]
theorem fcheckP_inner : ∀ {t n : Nat} {y : Int} {s : ByteArray} {i r : Fs} {a w : Nat}, fcheckP (.cons t y n s i r) a w → fcheckP i 0 w := fun {t n y s i r a w} h => by
  obtain ⟨⟨_, _, _, _, h5⟩, _⟩ := h
  rcases h5 with ⟨_, _, rfl⟩ | ⟨_, _, rfl, _⟩ | ⟨_, _, _, _, h⟩
  · trivial
  · trivial
  · exact fcheckP_up (by omega) h
theorem fcheckP_depth : ∀ {f : Fs} {a w : Nat}, w ≤ 8 → fcheckP f a w → f.depth + w ≤ 8
  | .nil, _, _, hw, _ => by simp [Fs.depth]; omega
  | .cons t y n s i r, a, w, hw, h => by
    obtain ⟨⟨_, _, _, _, h5⟩, h6⟩ := h
    have hr := fcheckP_depth hw h6
    rw [Fs.depth]
    rcases h5 with ⟨rfl, _, rfl⟩ | ⟨rfl, _, rfl, _⟩ | ⟨rfl, _, _, h7, h8⟩
    · rw [if_neg (by simp [Fs.len])]; exact hr
    · rw [if_neg (by simp [Fs.len])]; exact hr
    · have hi := fcheckP_depth (by omega) h8
      rw [if_pos (.inl rfl)]
      omega
theorem Fs.last_le : ∀ {f : Fs} {a w : Nat}, fcheckP f a w → a ≤ f.last a
  | .nil, _, _, _ => Nat.le_refl _
  | .cons t y n s i r, a, w, h => by have := Fs.last_le h.2; have := h.1.1; rw [Fs.last]; omega
theorem Fs.take_drop : ∀ (f : Fs) (k : Nat), (f.take k).app (f.drop k) = f
  | f, 0 => by cases f <;> rfl
  | .nil, _ + 1 => rfl
  | .cons t y n s i r, k + 1 => by rw [Fs.take, Fs.drop, Fs.app, Fs.take_drop r k]
/-- Without one of them. -/
theorem fcheckP_out {f : Fs} {k : Nat} {w : Nat} (h : fcheckP f 0 w) (hk : k < f.len) : fcheckP ((f.take k).app (f.drop (k + 1))) 0 w := by
  obtain ⟨t, y, n, s, i, hdc, _⟩ := f.drop_cons k hk
  have h1 := Fs.take_drop f k
  rw [← h1, fcheckP_app, hdc] at h
  rw [fcheckP_app]
  exact ⟨h.1, fcheckP_mono (by have := h.2.1.1; omega) h.2.2⟩
theorem fcheckP_at {f : Fs} {k : Nat} {w : Nat} (h : fcheckP f 0 w) {t n : Nat} {y : Int} {s : ByteArray} {i : Fs} (hdc : f.drop k = .cons t y n s i (f.drop (k + 1))) : fcheckP i 0 w ∧ fcheckP (.cons t y n s i .nil) 0 w := by
  have h1 := Fs.take_drop f k
  rw [← h1, fcheckP_app, hdc] at h
  exact ⟨fcheckP_inner h.2, ⟨⟨h.2.1.2.1, h.2.1.2⟩, trivial⟩⟩
theorem Fs.All.take {P : Nat → Int → Nat → ByteArray → Prop} : ∀ {f : Fs} (k : Nat), f.All P → (f.take k).All P
  | f, 0, _ => by cases f <;> trivial
  | .nil, _ + 1, _ => trivial
  | .cons .., k + 1, h => ⟨h.1, h.2.1, Fs.All.take k h.2.2⟩
end Go.PM
end

section
/-
  Contracts of the document's answers for layer 8: how many fields; whether they may be.
-/
namespace Go.Proofs.YtgbgbdocgpdkgaaGreatDoor
open Go.RowKit Go.PM
set_option maxRecDepth 100000
set_option maxHeartbeats 1000000
attribute [local go_sem ↓] Go.wp_at_zero Go.wp_at_succ

end Go.Proofs.YtgbgbdocgpdkgaaGreatDoor
end

section
/-
  Contracts of the document's answers for layer 8: whether fields may be.
-/
namespace Go.Proofs.YtgbgbdocgpdkgaaGreatDoor
open Go.RowKit Go.PM
set_option maxRecDepth 100000
set_option maxHeartbeats 8000000
attribute [local go_sem ↓] Go.wp_at_zero Go.wp_at_succ

end Go.Proofs.YtgbgbdocgpdkgaaGreatDoor
end

section
/-
  Contracts of the document's answers for layer 8: how deep fields stand; whether two lists are the same.
-/
namespace Go.PM
theorem depth_app : ∀ f g : Fs, (f.app g).depth = max f.depth g.depth
  | .nil, g => by simp [Fs.app, Fs.depth]
  | .cons t y n s i r, g => by
    simp only [Fs.app, Fs.depth, depth_app r g]
    split <;> omega
end Go.PM
namespace Go.Proofs.YtgbgbdocgpdkgaaGreatDoor
open Go.RowKit Go.PM
set_option maxRecDepth 100000
set_option maxHeartbeats 2000000
attribute [local go_sem ↓] Go.wp_at_zero Go.wp_at_succ

end Go.Proofs.YtgbgbdocgpdkgaaGreatDoor
end

section
/-
  Contracts of layer 8: whether two lists of fields are the same.
-/
namespace Go.PM
/-- Values that read, two by two, as pairs of lists of fields. -/
def W2 (w : World) (I : Nat → Prop) (xs : List Value) (L : List (Fs × Fs)) : Prop :=
  xs.length = 2 * L.length ∧ ∀ (j : Nat) (p : Fs × Fs), L[j]? = some p → ∃ x y, xs[2 * j]? = some x ∧ xs[2 * j + 1]? = some y ∧ SlV w I x p.1 ∧ SlV w I y p.2
theorem W2.nil {w : World} {I : Nat → Prop} : W2 w I [] [] := ⟨rfl, fun j p h => by simp at h⟩
theorem W2.push {w : World} {I : Nat → Prop} {xs : List Value} {L : List (Fs × Fs)} {x y : Value} {p : Fs × Fs} (h : W2 w I xs L) (hx : SlV w I x p.1) (hy : SlV w I y p.2) : W2 w I (xs ++ [x, y]) (L ++ [p]) := by
  refine ⟨by simp [h.1]; omega, fun j q hq => ?_⟩
  by_cases hj : j < L.length
  · rw [List.getElem?_append_left hj] at hq
    obtain ⟨a, b, h1, h2, h3⟩ := h.2 j q hq
    exact ⟨a, b, by rw [List.getElem?_append_left (by rw [h.1]; omega)]; exact h1, by rw [List.getElem?_append_left (by rw [h.1]; omega)]; exact h2, h3⟩
  · have hj2 : j = L.length := by
      have := (List.getElem?_eq_some_iff.1 hq).1
      simp at this; omega
    subst hj2
    rw [List.getElem?_append_right (Nat.le_refl _), Nat.sub_self] at hq
    injection hq with hq
    subst hq
    refine ⟨x, y, ?_, ?_, hx, hy⟩
    · rw [List.getElem?_append_right (by rw [h.1]; omega), h.1, Nat.sub_self]; rfl
    · rw [List.getElem?_append_right (by rw [h.1]; omega), h.1, show 2 * L.length + 1 - 2 * L.length = 1 by omega]; rfl
theorem W2.pop {w : World} {I : Nat → Prop} {xs : List Value} {L : List (Fs × Fs)} {n : Nat} (h : W2 w I xs L) (hn : L.length = n + 1) :
    ∃ L' p x y, L = L' ++ [p] ∧ L'.length = n ∧ xs[2 * n]? = some x ∧ xs[2 * n + 1]? = some y ∧ SlV w I x p.1 ∧ SlV w I y p.2 ∧ W2 w I (xs.take (n * 2)) L' := by
  have hL : n < L.length := by omega
  obtain ⟨x, y, h1, h2, h3, h4⟩ := h.2 n _ (List.getElem?_eq_getElem hL)
  refine ⟨L.take n, L[n], x, y, ?_, by rw [List.length_take]; omega, h1, h2, h3, h4, by rw [List.length_take, List.length_take, h.1]; omega, fun j q hq => ?_⟩
  · have h1 := List.take_append_getElem hL
    rw [h1, List.take_of_length_le (by omega)]
  · rw [List.getElem?_take] at hq
    by_cases hj : j < n
    · rw [if_pos hj] at hq
      obtain ⟨a, b, h1, h2, h3⟩ := h.2 j q hq
      exact ⟨a, b, by rw [List.getElem?_take, if_pos (by omega)]; exact h1, by rw [List.getElem?_take, if_pos (by omega)]; exact h2, h3⟩
    · rw [if_neg hj] at hq
      cases hq
def psum : List (Fs × Fs) → Nat
  | [] => 0
  | p :: L => p.1.count + p.2.count + psum L
theorem psum_app : ∀ (L M : List (Fs × Fs)), psum (L ++ M) = psum L + psum M
  | [], M => by simp [psum]
  | f :: L, M => by simp only [List.cons_append, psum, psum_app L M]; omega
theorem lsame_app (L M : List (Fs × Fs)) : lsame (L ++ M) = (lsame L && lsame M) := by simp [lsame]
theorem lsame_one (p : Fs × Fs) : lsame [p] = p.1.same p.2 := by simp [lsame]
theorem str_ne {a b : ByteArray} (h : a ≠ b) : (a.toList == b.toList) = false := by
  rw [beq_eq_false_iff_ne, ByteArray.toList_eq, ByteArray.toList_eq]
  intro e
  exact h (ByteArray.ext (Array.toList_inj.1 e))
def likeB (t t' : Nat) (y y' : Int) (n n' : Nat) (s s' : ByteArray) : Bool := decide (t = t' ∧ y = y' ∧ n = n' ∧ s = s')
end Go.PM
namespace Go.Proofs.YtgbgbdocgpdkgaaGreatDoor
open Go.RowKit Go.PM
set_option maxRecDepth 100000
set_option maxHeartbeats 4000000

end Go.Proofs.YtgbgbdocgpdkgaaGreatDoor
end

section
/-
  Contracts of layer 8: whether two lists of fields are the same: the walk over the work list.
-/
namespace Go.Proofs.YtgbgbdocgpdkgaaGreatDoor
open Go.RowKit Go.PM
set_option maxRecDepth 100000
set_option maxHeartbeats 4000000
attribute [local go_sem ↓] Go.wp_at_zero Go.wp_at_succ

end Go.Proofs.YtgbgbdocgpdkgaaGreatDoor
end

section
/-
  Contracts of the document's answers for layer 8: whether two lists are the same.
-/
namespace Go.Proofs.YtgbgbdocgpdkgaaGreatDoor
open Go.RowKit Go.PM
set_option maxRecDepth 100000
set_option maxHeartbeats 4000000
attribute [local go_sem ↓] Go.wp_at_zero Go.wp_at_succ

end Go.Proofs.YtgbgbdocgpdkgaaGreatDoor
end

section
/-
  The document's answers of layer 7, walked. Conditions: texts within int.
-/
namespace Go.Proofs.YtgbgbdocgpdkgaaGreatDoor
open Go.RowKit Go.PM
set_option maxRecDepth 100000
set_option maxHeartbeats 1000000

theorem list_cons (s : ByteArray) (h : 0 < s.size) : s.data.toList = s[0] :: s.data.toList.drop 1 := by
  have := List.drop_eq_getElem_cons (l := s.data.toList) (i := 0) (by rw [len_list]; exact h)
  rw [List.drop_zero] at this
  exact this
theorem get_at (s : ByteArray) (k : Nat) (_ : k < s.size) (h' : k < s.data.toList.length) : s.data.toList[k] = s[k] := by simp; rfl
theorem rfirst_any (s : ByteArray) (w : World) (hs : s.size ≤ 9223372036854775807) :
    Calls Tryz.prog 85 #[.string s] w fun e w' => e = .returned (.int .i64 (ufirst s.data.toList : Int)) ∧ Below w.heap.size w w' := by
  by_cases h0 : s.size = 0
  · have hl : s.data.toList = [] := List.eq_nil_of_length_eq_zero (by rw [len_list]; exact h0)
    rw [hl, ufirst_nil]
    clear hl
    go_enter Tryz.func85, Tryz.ntmps85
    go_wp2
    go_ret
    exact ⟨rfl, b0⟩
  · have hpos : 0 < s.size := by omega
    have hcons := list_cons s hpos
    have ha := s[0].toNat_lt
    clear h0
    by_cases h128 : s[0].toNat < 128
    · rw [hcons, ufirst_lo h128]
      clear hcons
      go_enter Tryz.func85, Tryz.ntmps85
      go_wp2
      go_ret
      exact ⟨rfl, b0⟩
    by_cases h192 : s[0].toNat < 192
    · have hcl : uclass s[0].toNat = none := by unfold uclass; rw [if_neg (by omega), if_neg (by omega), if_neg (by omega)]
      rw [hcons, ufirst_hi h128, hcl]
      clear hcons hcl
      go_enter Tryz.func85, Tryz.ntmps85
      go_wp2
      go_ret
      exact ⟨rfl, b0⟩
    by_cases h224 : s[0].toNat < 224
    · have hcl : uclass s[0].toNat = some (2, s[0].toNat - 192, 128) := by unfold uclass; rw [if_pos (by omega)]
      have hF : ufirst s.data.toList = match uacc (s[0].toNat - 192) (2 - 1) (s.data.toList.drop 1) with
          | none => 0
          | some n => if ubad n 128 then 0 else 2 := by
        rw [hcons, ufirst_hi h128, hcl, List.drop_succ_cons, List.drop_zero]
        rfl
      rw [hF]
      clear hF hcl hcons
      by_cases hlen : s.size < 2
      · have hn : uacc (s[0].toNat - 192) (2 - 1) (s.data.toList.drop 1) = none := by
          cases hu : uacc (s[0].toNat - 192) (2 - 1) (s.data.toList.drop 1) with
          | none => rfl
          | some m =>
            have := uacc_len _ _ _ _ hu
            rw [List.length_drop, len_list] at this
            omega
        rw [hn]
        clear hn
        go_enter Tryz.func85, Tryz.ntmps85
        go_wp2
        go_ret
        exact ⟨rfl, b0⟩
      · have H0 : Hid (Ua s.data.toList 2 (s[0].toNat - 192) 1 (s[0].toNat - 192)) := ⟨by omega, by omega, by simp [ub]; omega, rfl⟩
        have hsub : ((s[0].toNat - 192 : Nat) : Int) = (s[0].toNat : Int) - 192 := by omega
        generalize hN : s[0].toNat - 192 = n0 at H0 hsub ⊢
        have HN := Lib.hid hN
        clear hN
        have HSUB := Lib.hid hsub
        clear hsub
        generalize hR : (match uacc n0 (2 - 1) (s.data.toList.drop 1) with
          | none => 0
          | some n => if ubad n 128 then 0 else 2) = R
        have HR := Lib.hid hR
        clear hR
        have d1 : decide ((s[0].toNat : Int) < 128) = false := by simp; omega
        have d2 : decide ((s[0].toNat : Int) < 224) = true := by simp; omega
        have d3 : decide ((s[0].toNat : Int) < 240) = true := by simp; omega
        have d4 : decide ((s[0].toNat : Int) < 248) = true := by simp; omega
        have d5 : decide ((s.size : Int) < 2) = false := by simp; omega
        go_enter Tryz.func85, Tryz.ntmps85
        go_wp2
        go_loop [5, 7] (fun nn kk => ∃ k m : Nat, kk = .int .i64 (k : Int) ∧ nn = .int .i64 (m : Int) ∧ Ua s.data.toList 2 n0 k m) (fun _ kk => 2 - (intOf kk).toNat)
        case atStart => exact ⟨1, n0, rfl, by rw [HSUB.out], H0.out⟩
        case round =>
          obtain ⟨k, m, rfl, rfl, hua⟩ := hrel
          clear H0
          have h1 := hua.1
          have h2 := hua.2.1
          have h3 := Nat.le_trans hua.2.2.1 (ub_le k)
          have HU := Lib.hid hua
          clear hua
          by_cases hk : k < 2
          · have hkl : k < s.size := by omega
            have hb := s[k].toNat_lt
            cases hc : ucont s[k] with
            | false =>
              have hno := HU.out.no hk (by rw [len_list]; exact hkl) (by rw [get_at s k hkl]; exact hc)
              have hr := HR.out
              rw [hno] at hr
              simp only at hr
              subst hr
              clear hno
              unfold ucont at hc
              rw [Bool.and_eq_false_iff, decide_eq_false_iff_not, decide_eq_false_iff_not] at hc
              rcases hc with hc | hc
              · go_wp2
                go_ret
                exact ⟨rfl, b0⟩
              · go_wp2
                go_ret
                exact ⟨rfl, b0⟩
            | true =>
              have hnx := HU.out.next (by omega) hk (by rw [len_list]; exact hkl) (by rw [get_at s k hkl]; exact hc)
              rw [get_at s k hkl] at hnx
              unfold ucont at hc
              rw [Bool.and_eq_true, decide_eq_true_eq, decide_eq_true_eq] at hc
              obtain ⟨c1, c2⟩ := hc
              have HNX := Lib.hid hnx
              clear hnx
              go_wp2
              go_round
              case rel => exact ⟨k + 1, 64 * m + (s[k].toNat - 128), by go_num, by congr 1; omega, HNX.out⟩
              case measure => simp [intOf]; omega
          · obtain rfl : k = 2 := by omega
            have hr := HR.out
            rw [HU.out.end_] at hr
            simp only at hr
            cases hbad : ubad m 128 with
            | true =>
              rw [hbad, if_pos rfl] at hr
              subst hr
              unfold ubad at hbad
              simp only [Bool.or_eq_true, Bool.and_eq_true, decide_eq_true_eq] at hbad
              rcases hbad with (hbad | hbad) | ⟨hb1, hb2⟩
              · go_wp2
                go_ret
                exact ⟨rfl, b0⟩
              · go_wp2
                go_ret
                exact ⟨rfl, b0⟩
              · go_wp2
                go_ret
                exact ⟨rfl, b0⟩
            | false =>
              rw [hbad, if_neg (by simp)] at hr
              subst hr
              unfold ubad at hbad
              simp only [Bool.or_eq_false_iff, Bool.and_eq_false_imp, decide_eq_false_iff_not, decide_eq_true_eq] at hbad
              obtain ⟨⟨hb1, hb2⟩, hb3⟩ := hbad
              have hb4 : m < 55296 ∨ 57344 ≤ m := by omega
              clear hb3
              rcases hb4 with hb4 | hb4
              · go_wp2
                all_goals (go_ret; exact ⟨rfl, b0⟩)
              · go_wp2
                go_ret
                exact ⟨rfl, b0⟩
    by_cases h240 : s[0].toNat < 240
    · have hcl : uclass s[0].toNat = some (3, s[0].toNat - 224, 2048) := by unfold uclass; rw [if_neg (by omega), if_pos (by omega)]
      have hF : ufirst s.data.toList = match uacc (s[0].toNat - 224) (3 - 1) (s.data.toList.drop 1) with
          | none => 0
          | some n => if ubad n 2048 then 0 else 3 := by
        rw [hcons, ufirst_hi h128, hcl, List.drop_succ_cons, List.drop_zero]
        rfl
      rw [hF]
      clear hF hcl hcons
      by_cases hlen : s.size < 3
      · have hn : uacc (s[0].toNat - 224) (3 - 1) (s.data.toList.drop 1) = none := by
          cases hu : uacc (s[0].toNat - 224) (3 - 1) (s.data.toList.drop 1) with
          | none => rfl
          | some m =>
            have := uacc_len _ _ _ _ hu
            rw [List.length_drop, len_list] at this
            omega
        rw [hn]
        clear hn
        go_enter Tryz.func85, Tryz.ntmps85
        go_wp2
        go_ret
        exact ⟨rfl, b0⟩
      · have H0 : Hid (Ua s.data.toList 3 (s[0].toNat - 224) 1 (s[0].toNat - 224)) := ⟨by omega, by omega, by simp [ub]; omega, rfl⟩
        have hsub : ((s[0].toNat - 224 : Nat) : Int) = (s[0].toNat : Int) - 224 := by omega
        generalize hN : s[0].toNat - 224 = n0 at H0 hsub ⊢
        have HN := Lib.hid hN
        clear hN
        have HSUB := Lib.hid hsub
        clear hsub
        generalize hR : (match uacc n0 (3 - 1) (s.data.toList.drop 1) with
          | none => 0
          | some n => if ubad n 2048 then 0 else 3) = R
        have HR := Lib.hid hR
        clear hR
        have d1 : decide ((s[0].toNat : Int) < 128) = false := by simp; omega
        have d2 : decide ((s[0].toNat : Int) < 224) = false := by simp; omega
        have d3 : decide ((s[0].toNat : Int) < 240) = true := by simp; omega
        have d4 : decide ((s[0].toNat : Int) < 248) = true := by simp; omega
        have d5 : decide ((s.size : Int) < 3) = false := by simp; omega
        go_enter Tryz.func85, Tryz.ntmps85
        go_wp2
        go_loop [5, 7] (fun nn kk => ∃ k m : Nat, kk = .int .i64 (k : Int) ∧ nn = .int .i64 (m : Int) ∧ Ua s.data.toList 3 n0 k m) (fun _ kk => 3 - (intOf kk).toNat)
        case atStart => exact ⟨1, n0, rfl, by rw [HSUB.out], H0.out⟩
        case round =>
          obtain ⟨k, m, rfl, rfl, hua⟩ := hrel
          clear H0
          have h1 := hua.1
          have h2 := hua.2.1
          have h3 := Nat.le_trans hua.2.2.1 (ub_le k)
          have HU := Lib.hid hua
          clear hua
          by_cases hk : k < 3
          · have hkl : k < s.size := by omega
            have hb := s[k].toNat_lt
            cases hc : ucont s[k] with
            | false =>
              have hno := HU.out.no hk (by rw [len_list]; exact hkl) (by rw [get_at s k hkl]; exact hc)
              have hr := HR.out
              rw [hno] at hr
              simp only at hr
              subst hr
              clear hno
              unfold ucont at hc
              rw [Bool.and_eq_false_iff, decide_eq_false_iff_not, decide_eq_false_iff_not] at hc
              rcases hc with hc | hc
              · go_wp2
                go_ret
                exact ⟨rfl, b0⟩
              · go_wp2
                go_ret
                exact ⟨rfl, b0⟩
            | true =>
              have hnx := HU.out.next (by omega) hk (by rw [len_list]; exact hkl) (by rw [get_at s k hkl]; exact hc)
              rw [get_at s k hkl] at hnx
              unfold ucont at hc
              rw [Bool.and_eq_true, decide_eq_true_eq, decide_eq_true_eq] at hc
              obtain ⟨c1, c2⟩ := hc
              have HNX := Lib.hid hnx
              clear hnx
              go_wp2
              go_round
              case rel => exact ⟨k + 1, 64 * m + (s[k].toNat - 128), by go_num, by congr 1; omega, HNX.out⟩
              case measure => simp [intOf]; omega
          · obtain rfl : k = 3 := by omega
            have hr := HR.out
            rw [HU.out.end_] at hr
            simp only at hr
            cases hbad : ubad m 2048 with
            | true =>
              rw [hbad, if_pos rfl] at hr
              subst hr
              unfold ubad at hbad
              simp only [Bool.or_eq_true, Bool.and_eq_true, decide_eq_true_eq] at hbad
              rcases hbad with (hbad | hbad) | ⟨hb1, hb2⟩
              · go_wp2
                go_ret
                exact ⟨rfl, b0⟩
              · go_wp2
                go_ret
                exact ⟨rfl, b0⟩
              · go_wp2
                go_ret
                exact ⟨rfl, b0⟩
            | false =>
              rw [hbad, if_neg (by simp)] at hr
              subst hr
              unfold ubad at hbad
              simp only [Bool.or_eq_false_iff, Bool.and_eq_false_imp, decide_eq_false_iff_not, decide_eq_true_eq] at hbad
              obtain ⟨⟨hb1, hb2⟩, hb3⟩ := hbad
              have hb4 : m < 55296 ∨ 57344 ≤ m := by omega
              clear hb3
              rcases hb4 with hb4 | hb4
              · go_wp2
                all_goals (go_ret; exact ⟨rfl, b0⟩)
              · go_wp2
                go_ret
                exact ⟨rfl, b0⟩
    by_cases h248 : s[0].toNat < 248
    · have hcl : uclass s[0].toNat = some (4, s[0].toNat - 240, 65536) := by unfold uclass; rw [if_neg (by omega), if_neg (by omega), if_pos (by omega)]
      have hF : ufirst s.data.toList = match uacc (s[0].toNat - 240) (4 - 1) (s.data.toList.drop 1) with
          | none => 0
          | some n => if ubad n 65536 then 0 else 4 := by
        rw [hcons, ufirst_hi h128, hcl, List.drop_succ_cons, List.drop_zero]
        rfl
      rw [hF]
      clear hF hcl hcons
      by_cases hlen : s.size < 4
      · have hn : uacc (s[0].toNat - 240) (4 - 1) (s.data.toList.drop 1) = none := by
          cases hu : uacc (s[0].toNat - 240) (4 - 1) (s.data.toList.drop 1) with
          | none => rfl
          | some m =>
            have := uacc_len _ _ _ _ hu
            rw [List.length_drop, len_list] at this
            omega
        rw [hn]
        clear hn
        go_enter Tryz.func85, Tryz.ntmps85
        go_wp2
        go_ret
        exact ⟨rfl, b0⟩
      · have H0 : Hid (Ua s.data.toList 4 (s[0].toNat - 240) 1 (s[0].toNat - 240)) := ⟨by omega, by omega, by simp [ub]; omega, rfl⟩
        have hsub : ((s[0].toNat - 240 : Nat) : Int) = (s[0].toNat : Int) - 240 := by omega
        generalize hN : s[0].toNat - 240 = n0 at H0 hsub ⊢
        have HN := Lib.hid hN
        clear hN
        have HSUB := Lib.hid hsub
        clear hsub
        generalize hR : (match uacc n0 (4 - 1) (s.data.toList.drop 1) with
          | none => 0
          | some n => if ubad n 65536 then 0 else 4) = R
        have HR := Lib.hid hR
        clear hR
        have d1 : decide ((s[0].toNat : Int) < 128) = false := by simp; omega
        have d2 : decide ((s[0].toNat : Int) < 224) = false := by simp; omega
        have d3 : decide ((s[0].toNat : Int) < 240) = false := by simp; omega
        have d4 : decide ((s[0].toNat : Int) < 248) = true := by simp; omega
        have d5 : decide ((s.size : Int) < 4) = false := by simp; omega
        go_enter Tryz.func85, Tryz.ntmps85
        go_wp2
        go_loop [5, 7] (fun nn kk => ∃ k m : Nat, kk = .int .i64 (k : Int) ∧ nn = .int .i64 (m : Int) ∧ Ua s.data.toList 4 n0 k m) (fun _ kk => 4 - (intOf kk).toNat)
        case atStart => exact ⟨1, n0, rfl, by rw [HSUB.out], H0.out⟩
        case round =>
          obtain ⟨k, m, rfl, rfl, hua⟩ := hrel
          clear H0
          have h1 := hua.1
          have h2 := hua.2.1
          have h3 := Nat.le_trans hua.2.2.1 (ub_le k)
          have HU := Lib.hid hua
          clear hua
          by_cases hk : k < 4
          · have hkl : k < s.size := by omega
            have hb := s[k].toNat_lt
            cases hc : ucont s[k] with
            | false =>
              have hno := HU.out.no hk (by rw [len_list]; exact hkl) (by rw [get_at s k hkl]; exact hc)
              have hr := HR.out
              rw [hno] at hr
              simp only at hr
              subst hr
              clear hno
              unfold ucont at hc
              rw [Bool.and_eq_false_iff, decide_eq_false_iff_not, decide_eq_false_iff_not] at hc
              rcases hc with hc | hc
              · go_wp2
                go_ret
                exact ⟨rfl, b0⟩
              · go_wp2
                go_ret
                exact ⟨rfl, b0⟩
            | true =>
              have hnx := HU.out.next (by omega) hk (by rw [len_list]; exact hkl) (by rw [get_at s k hkl]; exact hc)
              rw [get_at s k hkl] at hnx
              unfold ucont at hc
              rw [Bool.and_eq_true, decide_eq_true_eq, decide_eq_true_eq] at hc
              obtain ⟨c1, c2⟩ := hc
              have HNX := Lib.hid hnx
              clear hnx
              go_wp2
              go_round
              case rel => exact ⟨k + 1, 64 * m + (s[k].toNat - 128), by go_num, by congr 1; omega, HNX.out⟩
              case measure => simp [intOf]; omega
          · obtain rfl : k = 4 := by omega
            have hr := HR.out
            rw [HU.out.end_] at hr
            simp only at hr
            cases hbad : ubad m 65536 with
            | true =>
              rw [hbad, if_pos rfl] at hr
              subst hr
              unfold ubad at hbad
              simp only [Bool.or_eq_true, Bool.and_eq_true, decide_eq_true_eq] at hbad
              rcases hbad with (hbad | hbad) | ⟨hb1, hb2⟩
              · go_wp2
                go_ret
                exact ⟨rfl, b0⟩
              · go_wp2
                go_ret
                exact ⟨rfl, b0⟩
              · go_wp2
                go_ret
                exact ⟨rfl, b0⟩
            | false =>
              rw [hbad, if_neg (by simp)] at hr
              subst hr
              unfold ubad at hbad
              simp only [Bool.or_eq_false_iff, Bool.and_eq_false_imp, decide_eq_false_iff_not, decide_eq_true_eq] at hbad
              obtain ⟨⟨hb1, hb2⟩, hb3⟩ := hbad
              have hb4 : m < 55296 ∨ 57344 ≤ m := by omega
              clear hb3
              rcases hb4 with hb4 | hb4
              · go_wp2
                all_goals (go_ret; exact ⟨rfl, b0⟩)
              · go_wp2
                go_ret
                exact ⟨rfl, b0⟩
    have hcl : uclass s[0].toNat = none := by unfold uclass; rw [if_neg (by omega), if_neg (by omega), if_neg (by omega)]
    rw [hcons, ufirst_hi h128, hcl]
    clear hcons hcl
    go_enter Tryz.func85, Tryz.ntmps85
    go_wp2
    go_ret
    exact ⟨rfl, b0⟩
end Go.Proofs.YtgbgbdocgpdkgaaGreatDoor
end

section
/-
  The document's answers of layer 7 over whole texts, walked. Conditions: texts within int.
-/
namespace Go.Proofs.YtgbgbdocgpdkgaaGreatDoor
open Go.RowKit Go.PM
set_option maxRecDepth 100000
set_option maxHeartbeats 1000000

theorem list_nil {t : ByteArray} (h : t.size = 0) : t.data.toList = [] := List.eq_nil_of_length_eq_zero (by rw [len_list]; exact h)
theorem list_ne {t : ByteArray} (h : ¬ t.size = 0) : t.data.toList ≠ [] := fun e => h (by rw [← len_list, e]; rfl)
theorem rgood_any (s : ByteArray) (w : World) (hs : s.size ≤ 9223372036854775807) :
    Calls Tryz.prog 77 #[.string s] w fun e w' => e = .returned (.bool (ugood s.data.toList)) ∧ Below w.heap.size w w' := by
  generalize hG : ugood s.data.toList = G
  have HG := Lib.hid hG
  clear hG
  go_enter Tryz.func77, Tryz.ntmps77
  go_wp2
  go_loopw [0] (fun sl wr => ∃ t : ByteArray, sl = .string t ∧ t.size ≤ s.size ∧ Hid (ugood t.data.toList = G) ∧ Below w.heap.size w wr) (fun sl _ => strLen sl)
  case atStart => exact ⟨s, rfl, Nat.le_refl _, HG, b0⟩
  case round =>
    obtain ⟨t, rfl, hle, hg, hbel⟩ := hrel
    have HB := Lib.hid hbel
    clear hbel
    by_cases ht : t.size = 0
    · have hg2 := hg.out
      rw [list_nil ht, ugood_nil] at hg2
      subst hg2
      go_wp2
      go_ret
      exact ⟨rfl, HB.out⟩
    · have hpos : 0 < t.size := by omega
      have hne := list_ne ht
      have hu := ufirst_le4 t.data.toList
      have HF : Hid (∀ x : World, Calls Tryz.prog 85 #[.string t] x fun e w' => e = .returned (.int .i64 (ufirst t.data.toList : Int)) ∧ Below x.heap.size x w') := fun x => rfirst_any t x (by omega)
      have hg2 := hg.out
      by_cases hz : ufirst t.data.toList = 0
      · rw [ugood_zero hz hne] at hg2
        subst hg2
        rw [hz] at HF
        clear hz hu ht hne
        go_wp2_with fail
        refine (HF.out _).mono ?_
        rintro e w1 ⟨rfl, hb1⟩
        go_wp2
        go_ret
        exact ⟨rfl, bb HB.out hb1⟩
      · rw [ugood_step hz] at hg2
        have hl := ufirst_le hz
        rw [len_list] at hl
        obtain ⟨l1, l2, _⟩ := hl
        have hn0 : ((ufirst t.data.toList : Int) == 0) = false := by rw [beq_eq_false_iff_ne]; omega
        generalize ufirst t.data.toList = k at *
        have HG2 := Lib.hid hg2
        clear hg2 hz hne ht
        go_wp2_with fail
        refine (HF.out _).mono ?_
        rintro e w1 ⟨rfl, hb1⟩
        go_wp2
        go_roundw
        case rel => exact ⟨_, rfl, by simp; omega, by show _ = _; rw [ext_rest]; exact HG2.out, bb HB.out hb1⟩
        case measure => simp [strLen]; omega
theorem rcheck_any (s : ByteArray) (least most : Int) (w : World) (hs : s.size ≤ 9223372036854775807) (_hT : True) :
    Calls Tryz.prog 57 #[.string s, .int .i64 least, .int .i64 most] w fun e w' => e = .returned (.int .i64 (uchk s.data.toList least most)) ∧ Below w.heap.size w w' := by
  unfold uchk
  rw [len_list]
  have HG : Hid (Calls Tryz.prog 77 #[.string s] w fun e w' => e = .returned (.bool (ugood s.data.toList)) ∧ Below w.heap.size w w') := rgood_any s w hs
  try clear hT
  by_cases h1 : (s.size : Int) < least
  · rw [if_pos (.inl h1)]
    go_enter Tryz.func57, Tryz.ntmps57
    go_wp2
    go_ret
    exact ⟨rfl, b0⟩
  · by_cases h2 : most < (s.size : Int)
    · rw [if_pos (.inr h2)]
      go_enter Tryz.func57, Tryz.ntmps57
      go_wp2
      go_ret
      exact ⟨rfl, b0⟩
    · rw [if_neg (by omega)]
      cases hg : ugood s.data.toList with
      | true =>
        rw [hg] at HG
        clear hg
        go_enter Tryz.func57, Tryz.ntmps57
        go_wp2_with fail
        refine HG.out.mono ?_
        rintro e w1 ⟨rfl, hb⟩
        go_wp2
        go_ret
        exact ⟨rfl, hb⟩
      | false =>
        rw [hg] at HG
        clear hg
        go_enter Tryz.func57, Tryz.ntmps57
        go_wp2_with fail
        refine HG.out.mono ?_
        rintro e w1 ⟨rfl, hb⟩
        go_wp2
        go_ret
        exact ⟨rfl, hb⟩

/-- Where the document cuts a good text. -/
def rcut (l : List UInt8) (most : Int) : Nat := if most < 0 then 0 else utrim l most.toNat
theorem pcut_rcut (l : List UInt8) (most : Int) (h : ugood l = true) : pcut l most = rcut l most := by
  unfold pcut rcut
  by_cases h0 : most < 0
  · rw [if_pos h0, if_pos h0]
  · rw [if_neg h0, if_neg h0]
    by_cases h1 : (l.length : Int) ≤ most
    · rw [if_pos h1, utrim_all l h _ (by omega)]
    · rw [if_neg h1, ptrim_utrim l h _ (by omega)]
theorem pcut_good (l : List UInt8) (most : Int) (h : ugood l = true) : ugood (l.take (pcut l most)) = true := by
  rw [pcut_rcut l most h]
  unfold rcut
  split
  · simp [ugood_nil]
  · exact utrim_good l h _
theorem pcut_le (l : List UInt8) (most : Int) : pcut l most ≤ l.length ∧ (pcut l most : Int) ≤ max most 0 := by
  unfold pcut
  split
  · omega
  · split
    · omega
    · have := ptrim_le l most.toNat
      omega
end Go.Proofs.YtgbgbdocgpdkgaaGreatDoor
end

section
/-
  The walks of the statements of layer 7. Conditions: texts as they come in; Go's tables of UTF-8 lie in memory.
-/
namespace Go.Proofs.YtgbgbdocgpdkgaaGreatDoor
open Go.RowKit Go.PM
set_option maxRecDepth 100000
set_option maxHeartbeats 1000000

theorem good_no : ugood [192, 128] = false := ugood_zero (by decide) (by decide)
theorem good_yes : ugood [97, 0, 195, 169] = true := by
  rw [ugood_step (by decide)]
  show ugood [0, 195, 169] = true
  rw [ugood_step (by decide)]
  show ugood [195, 169] = true
  rw [ugood_step (by decide)]
  exact ugood_nil
theorem awake07 (w : World) (hT : Tabs w) :
    Calls Tryz.prog 123 #[] w fun e w' => e = .returned (.bool true) ∧ Below w.heap.size w w' := by
  have HT := Lib.hid hT
  clear hT
  go_enter Tryz.func123, Tryz.ntmps123
  go_wp2_with fail
  refine (awakeE06 _).mono ?_
  rintro e w1 ⟨rfl, hb1⟩
  have h1 := good_any ⟨#[192, 128]⟩ w1 (by decide) (HT.out.below hb1)
  rw [show (ByteArray.mk #[192, 128]).data.toList = [192, 128] from rfl, good_no] at h1
  have H1 := Lib.hid h1
  clear h1
  go_wp2_with fail
  refine H1.out.mono ?_
  rintro e w2 ⟨rfl, hb2⟩
  replace hb2 := bb hb1 hb2
  have h2 := good_any ⟨#[97, 0, 195, 169]⟩ w2 (by decide) (HT.out.below hb2)
  rw [show (ByteArray.mk #[97, 0, 195, 169]).data.toList = [97, 0, 195, 169] from rfl, good_yes] at h2
  have H2 := Lib.hid h2
  clear h2 H1
  go_wp2_with fail
  refine H2.out.mono ?_
  rintro e w3 ⟨rfl, hb3⟩
  replace hb3 := bb hb2 hb3
  go_wp2
  go_ret
  exact ⟨rfl, hb3⟩
theorem awakeE07 (w : World) (hT : Tabs w) : Calls Tryz.prog 121 #[] w fun e w' => e = .returned (.bool true) ∧ Below w.heap.size w w' := by
  have H := Lib.hid (awake07 w hT)
  clear hT
  go_enter Tryz.func121, Tryz.ntmps121
  go_wp2_with fail
  refine H.out.mono ?_
  rintro e w' ⟨rfl, hb⟩
  go_wp2
  go_ret
  exact ⟨rfl, hb⟩
theorem prefix_take (l : List UInt8) (n : Nat) : Lib.hasPrefix l (l.take n) = true := by
  unfold Lib.hasPrefix
  rw [List.isPrefixOf_iff_prefix]
  exact List.take_prefix n l
end Go.Proofs.YtgbgbdocgpdkgaaGreatDoor
end
