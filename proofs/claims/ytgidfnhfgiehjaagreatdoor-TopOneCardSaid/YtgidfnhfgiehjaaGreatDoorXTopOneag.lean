/-
  Texts of the proof, joined: PlainWire FCheckP RefFld RefFld2 RefFld3 FSame FSame2 RefFld4. Conditions: as each names.
-/
import Derived.Test.YtgidfnhfgiehjaaGreatDoorXTopOneac
import Derived.Test.YtgidfnhfgiehjaaGreatDoorXTopOneaa

section
namespace Go.PM
def ftx : Fs → List UInt8
  | .nil => []
  | .cons t y n s i r => vput (4 * t + y.toNat) ++ ((if y = 0 then vput n else if y = 1 then vput s.size ++ s.data.toList else vput (ftx i).length ++ ftx i) ++ ftx r)
theorem ftx_app : ∀ f g : Fs, ftx (f.app g) = ftx f ++ ftx g
  | .nil, g => rfl
  | .cons t y n s i r, g => by simp only [Fs.app, ftx, ftx_app r g, List.append_assoc]
def Fs.tag : Fs → Nat
  | .nil => 0
  | .cons t _ _ _ _ _ => t
def Fs.last : Fs → Nat → Nat
  | .nil, l => l
  | .cons t _ _ _ _ r, _ => r.last t
def fcheckP : Fs → Nat → Nat → Prop
  | .nil, _, _ => True
  | .cons t y n s i r, ahead, within => (ahead < t ∧ 0 < t ∧ t ≤ 4294967296 ∧ In64 n ∧ (y = 0 ∧ s = ByteArray.empty ∧ i = .nil ∨ y = 1 ∧ n = 0 ∧ i = .nil ∧ s.size ≤ 9223372036854775807 ∨ y = 2 ∧ n = 0 ∧ s = ByteArray.empty ∧ within < 8 ∧ fcheckP i 0 (within + 1))) ∧ fcheckP r t within
def fone (rec : List UInt8 → Fs × Nat) (s : List UInt8) (deep last : Nat) : Fs × Nat × Nat :=
  if (vget s).2.2 ≠ 0 then (.nil, 0, (vget s).2.2)
  else if (vget s).1 / 4 = 0 ∨ 4294967296 < (vget s).1 / 4 then (.nil, 0, 18)
  else if (vget s).1 % 4 = 3 then (.nil, 0, 8)
  else if (vget s).1 / 4 ≤ last then (.nil, 0, 7)
  else if (vget (s.drop (vget s).2.1)).2.2 ≠ 0 then (.nil, 0, (vget (s.drop (vget s).2.1)).2.2)
  else if (vget s).1 % 4 = 0 then (.cons ((vget s).1 / 4) 0 (vget (s.drop (vget s).2.1)).1 ByteArray.empty .nil .nil, (vget s).2.1 + (vget (s.drop (vget s).2.1)).2.1, 0)
  else if s.length - ((vget s).2.1 + (vget (s.drop (vget s).2.1)).2.1) < (vget (s.drop (vget s).2.1)).1 then (.nil, 0, 1)
  else if (vget s).1 % 4 = 1 then (.cons ((vget s).1 / 4) 1 0 (txt ((s.drop ((vget s).2.1 + (vget (s.drop (vget s).2.1)).2.1)).take (vget (s.drop (vget s).2.1)).1)) .nil .nil, (vget s).2.1 + (vget (s.drop (vget s).2.1)).2.1 + (vget (s.drop (vget s).2.1)).1, 0)
  else if deep = 8 then (.nil, 0, 9)
  else if (rec ((s.drop ((vget s).2.1 + (vget (s.drop (vget s).2.1)).2.1)).take (vget (s.drop (vget s).2.1)).1)).2 ≠ 0 then (.nil, 0, (rec ((s.drop ((vget s).2.1 + (vget (s.drop (vget s).2.1)).2.1)).take (vget (s.drop (vget s).2.1)).1)).2)
  else (.cons ((vget s).1 / 4) 2 0 ByteArray.empty (rec ((s.drop ((vget s).2.1 + (vget (s.drop (vget s).2.1)).2.1)).take (vget (s.drop (vget s).2.1)).1)).1 .nil, (vget s).2.1 + (vget (s.drop (vget s).2.1)).2.1 + (vget (s.drop (vget s).2.1)).1, 0)
def fthen (f : Fs) (q : Fs × Nat) : Fs × Nat := if q.2 ≠ 0 then (.nil, q.2) else (f.app q.1, 0)
theorem fthen_ok {f : Fs} {q : Fs × Nat} (h : (fthen f q).2 = 0) : q.2 = 0 ∧ fthen f q = (f.app q.1, 0) := by
  unfold fthen at h ⊢
  by_cases e : q.2 ≠ 0
  · rw [if_pos e] at h; exact absurd h e
  · rw [if_neg e]; exact ⟨Classical.not_not.1 e, rfl⟩
theorem fthen_err {f : Fs} {q : Fs × Nat} (h : q.2 ≠ 0) : fthen f q = (.nil, q.2) := by unfold fthen; rw [if_pos h]
theorem fthen_yes {f : Fs} {q : Fs × Nat} (h : q.2 = 0) : fthen f q = (f.app q.1, 0) := by unfold fthen; rw [if_neg (by rw [h]; simp)]
def fgetN : Nat → List UInt8 → Nat → Nat → Fs × Nat
  | 0, _, _, _ => (.nil, 0)
  | N + 1, s, deep, last =>
    if s.length = 0 then (.nil, 0)
    else if (fone (fun t => fgetN N t (deep + 1) 0) s deep last).2.2 ≠ 0 then (.nil, (fone (fun t => fgetN N t (deep + 1) 0) s deep last).2.2)
    else fthen (fone (fun t => fgetN N t (deep + 1) 0) s deep last).1 (fgetN N (s.drop (fone (fun t => fgetN N t (deep + 1) 0) s deep last).2.1) deep (fone (fun t => fgetN N t (deep + 1) 0) s deep last).1.tag)
def fget (s : List UInt8) (deep last : Nat) : Fs × Nat := fgetN s.length s deep last
def ffirst (s : List UInt8) (deep last : Nat) : Fs × Nat × Nat := fone (fun t => fget t (deep + 1) 0) s deep last
theorem fone_congr {rec rec' : List UInt8 → Fs × Nat} {s : List UInt8} (deep last : Nat) (h : ∀ t : List UInt8, t.length + 2 ≤ s.length → rec t = rec' t) : fone rec s deep last = fone rec' s deep last := by
  unfold fone
  by_cases h1 : (vget s).2.2 ≠ 0
  · rw [if_pos h1, if_pos h1]
  rw [if_neg h1, if_neg h1]
  have o1 := vget_ok (Classical.not_not.1 h1)
  by_cases h2 : (vget s).1 / 4 = 0 ∨ 4294967296 < (vget s).1 / 4
  · rw [if_pos h2, if_pos h2]
  rw [if_neg h2, if_neg h2]
  by_cases h3 : (vget s).1 % 4 = 3
  · rw [if_pos h3, if_pos h3]
  rw [if_neg h3, if_neg h3]
  by_cases h4 : (vget s).1 / 4 ≤ last
  · rw [if_pos h4, if_pos h4]
  rw [if_neg h4, if_neg h4]
  by_cases h5 : (vget (s.drop (vget s).2.1)).2.2 ≠ 0
  · rw [if_pos h5, if_pos h5]
  rw [if_neg h5, if_neg h5]
  have o2 := vget_ok (Classical.not_not.1 h5)
  rw [List.length_drop] at o2
  rw [h ((s.drop ((vget s).2.1 + (vget (s.drop (vget s).2.1)).2.1)).take (vget (s.drop (vget s).2.1)).1) (by rw [List.length_take, List.length_drop]; omega)]
theorem fone_ok {rec : List UInt8 → Fs × Nat} {s : List UInt8} {deep last : Nat} (h : (fone rec s deep last).2.2 = 0) :
    ∃ (t : Nat) (y : Int) (n : Nat) (x : ByteArray) (i : Fs) (k : Nat), fone rec s deep last = (.cons t y n x i .nil, k, 0) ∧ 2 ≤ k ∧ k ≤ s.length ∧ last < t ∧ 0 < t ∧ t ≤ 4294967296 ∧ In64 n ∧
      (y = 0 ∧ x = ByteArray.empty ∧ i = .nil ∧ s.take k = vput (4 * t) ++ vput n ∨
       y = 1 ∧ n = 0 ∧ i = .nil ∧ x.size ≤ s.length ∧ s.take k = vput (4 * t + 1) ++ (vput x.size ++ x.data.toList) ∨
       y = 2 ∧ n = 0 ∧ x = ByteArray.empty ∧ deep ≠ 8 ∧ ∃ u : List UInt8, u.length + 2 ≤ s.length ∧ rec u = (i, 0) ∧ s.take k = vput (4 * t + 2) ++ (vput u.length ++ u)) := by
  unfold fone at h ⊢
  by_cases h1 : (vget s).2.2 ≠ 0
  · rw [if_pos h1] at h; exact absurd h h1
  rw [if_neg h1] at h ⊢
  obtain ⟨a1, a2, _, a3, a4⟩ := vget_ok (Classical.not_not.1 h1)
  by_cases h2 : (vget s).1 / 4 = 0 ∨ 4294967296 < (vget s).1 / 4
  · rw [if_pos h2] at h; exact absurd h (by simp)
  rw [if_neg h2] at h ⊢
  by_cases h3 : (vget s).1 % 4 = 3
  · rw [if_pos h3] at h; exact absurd h (by simp)
  rw [if_neg h3] at h ⊢
  by_cases h4 : (vget s).1 / 4 ≤ last
  · rw [if_pos h4] at h; exact absurd h (by simp)
  rw [if_neg h4] at h ⊢
  by_cases h5 : (vget (s.drop (vget s).2.1)).2.2 ≠ 0
  · rw [if_pos h5] at h; exact absurd h h5
  rw [if_neg h5] at h ⊢
  obtain ⟨b1, b2, _, b3, b4⟩ := vget_ok (Classical.not_not.1 h5)
  generalize hn : (vget s).1 = n at *
  generalize hk : (vget s).2.1 = k at *
  generalize hm : (vget (s.drop k)).1 = m at *
  generalize hj : (vget (s.drop k)).2.1 = j at *
  rw [List.length_drop] at b2
  have htk : ∀ e, s.take (k + j + e) = vput n ++ (vput m ++ (s.drop (k + j)).take e) := fun e => by
    rw [List.take_add, List.take_add, ← a4, ← b4, List.append_assoc]
  by_cases h6 : n % 4 = 0
  · rw [if_pos h6] at h ⊢
    refine ⟨_, _, _, _, _, _, rfl, by omega, by omega, by omega, by omega, by omega, b3, .inl ⟨rfl, rfl, rfl, ?_⟩⟩
    have := htk 0
    simp only [Nat.add_zero, List.take_zero, List.append_nil] at this
    rw [this, show 4 * (n / 4) = n by omega]
  rw [if_neg h6] at h ⊢
  by_cases h7 : s.length - (k + j) < m
  · rw [if_pos h7] at h; exact absurd h (by simp)
  rw [if_neg h7] at h ⊢
  have htl : ((s.drop (k + j)).take m).length = m := by rw [List.length_take, List.length_drop]; omega
  by_cases h8 : n % 4 = 1
  · rw [if_pos h8] at h ⊢
    refine ⟨_, _, _, _, _, _, rfl, by omega, by omega, by omega, by omega, by omega, by unfold In64; omega, .inr (.inl ⟨rfl, rfl, rfl, by rw [txt_size, htl]; omega, ?_⟩)⟩
    rw [htk m, txt_size, txt_list, htl, show 4 * (n / 4) + 1 = n by omega]
  rw [if_neg h8] at h ⊢
  by_cases h9 : deep = 8
  · rw [if_pos h9] at h; exact absurd h (by simp)
  rw [if_neg h9] at h ⊢
  by_cases h10 : (rec ((s.drop (k + j)).take m)).2 ≠ 0
  · rw [if_pos h10] at h; exact absurd h h10
  rw [if_neg h10] at h ⊢
  refine ⟨_, _, _, _, _, _, rfl, by omega, by omega, by omega, by omega, by omega, by unfold In64; omega, .inr (.inr ⟨rfl, rfl, rfl, h9, (s.drop (k + j)).take m, by rw [htl]; omega, ?_, ?_⟩)⟩
  · exact Prod.ext rfl (Classical.not_not.1 h10)
  · rw [htk m, htl, show 4 * (n / 4) + 2 = n by omega]
theorem fgetN_more : ∀ (N : Nat) (s : List UInt8) (deep last : Nat), s.length ≤ N → fgetN (N + 1) s deep last = fgetN N s deep last
  | 0, s, deep, last, h => by
    have : s.length = 0 := by omega
    simp [fgetN, this]
  | N + 1, s, deep, last, h => by
    rw [fgetN.eq_def (N + 1 + 1), fgetN.eq_def (N + 1)]
    simp only []
    by_cases h0 : s.length = 0
    · rw [if_pos h0, if_pos h0]
    rw [if_neg h0, if_neg h0]
    have e : fone (fun t => fgetN (N + 1) t (deep + 1) 0) s deep last = fone (fun t => fgetN N t (deep + 1) 0) s deep last := fone_congr deep last fun t ht => fgetN_more N t _ _ (by omega)
    rw [e]
    by_cases h1 : (fone (fun t => fgetN N t (deep + 1) 0) s deep last).2.2 ≠ 0
    · rw [if_pos h1, if_pos h1]
    rw [if_neg h1, if_neg h1]
    obtain ⟨t, y, n, x, i, k, hf, hk, hks, _⟩ := fone_ok (Classical.not_not.1 h1)
    rw [hf]
    show fthen _ (fgetN (N + 1) (s.drop k) deep t) = fthen _ (fgetN N (s.drop k) deep t)
    rw [fgetN_more N (s.drop k) deep t (by rw [List.length_drop]; omega)]
theorem fgetN_big {N : Nat} {s : List UInt8} (deep last : Nat) (h : s.length ≤ N) : fgetN N s deep last = fget s deep last := by
  unfold fget
  obtain ⟨d, rfl⟩ := Nat.le.dest h
  clear h
  induction d with
  | zero => rfl
  | succ d ih => rw [← Nat.add_assoc, fgetN_more _ _ _ _ (by omega), ih]
theorem fget_nil (deep last : Nat) : fget [] deep last = (.nil, 0) := rfl
theorem fget_err {s : List UInt8} {deep last : Nat} (h : s.length ≠ 0) (h1 : (ffirst s deep last).2.2 ≠ 0) : fget s deep last = (.nil, (ffirst s deep last).2.2) := by
  obtain ⟨N, hN⟩ : ∃ N, s.length = N + 1 := ⟨s.length - 1, by omega⟩
  have e : fone (fun t => fgetN N t (deep + 1) 0) s deep last = ffirst s deep last := fone_congr deep last fun t ht => fgetN_big _ _ (by omega)
  unfold fget
  rw [hN, fgetN, if_neg h, e, if_pos h1]
theorem fget_step {s : List UInt8} {deep last : Nat} (h : s.length ≠ 0) (h1 : (ffirst s deep last).2.2 = 0) :
    fget s deep last = fthen (ffirst s deep last).1 (fget (s.drop (ffirst s deep last).2.1) deep (ffirst s deep last).1.tag) := by
  obtain ⟨N, hN⟩ : ∃ N, s.length = N + 1 := ⟨s.length - 1, by omega⟩
  have e : fone (fun t => fgetN N t (deep + 1) 0) s deep last = ffirst s deep last := fone_congr deep last fun t ht => fgetN_big _ _ (by omega)
  obtain ⟨t, y, n, x, i, k, hf, hk, hks, _⟩ := fone_ok (show (fone (fun t => fget t (deep + 1) 0) s deep last).2.2 = 0 from h1)
  have hf' : ffirst s deep last = (.cons t y n x i .nil, k, 0) := hf
  have hu : fget s deep last = fgetN (N + 1) s deep last := by rw [← hN]; rfl
  rw [hu, fgetN, if_neg h, e, if_neg (by rw [h1]; simp), hf']
  show fthen _ (fgetN N (s.drop k) deep t) = fthen _ (fget (s.drop k) deep t)
  rw [fgetN_big _ _ (by rw [List.length_drop]; omega)]
theorem fget_ok : ∀ (N : Nat) (s : List UInt8) (deep last : Nat), s.length ≤ N → deep ≤ 8 → s.length ≤ 1000000 → (fget s deep last).2 = 0 → ftx (fget s deep last).1 = s ∧ fcheckP (fget s deep last).1 last deep ∧ (fget s deep last).1.count ≤ s.length
  | N, s, deep, last, hN, hd, hs, h => by
    by_cases h0 : s.length = 0
    · obtain rfl : s = [] := List.eq_nil_of_length_eq_zero h0
      rw [fget_nil]
      exact ⟨rfl, trivial, Nat.le_refl _⟩
    by_cases h1 : (ffirst s deep last).2.2 ≠ 0
    · rw [fget_err h0 h1] at h; exact absurd h h1
    have h1' := Classical.not_not.1 h1
    rw [fget_step h0 h1'] at h ⊢
    obtain ⟨t, y, n, x, i, k, hf, hk, hks, ht, ht0, ht1, hn, hor⟩ := fone_ok (show (fone (fun t => fget t (deep + 1) 0) s deep last).2.2 = 0 from h1')
    have hf' : ffirst s deep last = (.cons t y n x i .nil, k, 0) := hf
    rw [hf'] at h ⊢
    have h3 : (fthen (.cons t y n x i .nil) (fget (s.drop k) deep t)).2 = 0 := h
    show ftx (fthen (.cons t y n x i .nil) (fget (s.drop k) deep t)).1 = s ∧ fcheckP (fthen (.cons t y n x i .nil) (fget (s.drop k) deep t)).1 last deep ∧ (fthen (.cons t y n x i .nil) (fget (s.drop k) deep t)).1.count ≤ s.length
    obtain ⟨h2, h4⟩ := fthen_ok h3
    rw [h4]
    clear h h3 h4
    match N, hN with
    | 0, hN => omega
    | N + 1, hN =>
      obtain ⟨g1, g2, g3⟩ := fget_ok N (s.drop k) deep t (by rw [List.length_drop]; omega) hd (by rw [List.length_drop]; omega) h2
      generalize (fget (s.drop k) deep t).1 = r at *
      rw [List.length_drop] at g3
      have hse : s = s.take k ++ s.drop k := (List.take_append_drop k s).symm
      rcases hor with ⟨rfl, rfl, rfl, htk⟩ | ⟨rfl, rfl, rfl, hx, htk⟩ | ⟨rfl, rfl, rfl, hd8, u, hu, hru, htk⟩
      · refine ⟨?_, ⟨⟨ht, ht0, ht1, hn, .inl ⟨rfl, rfl, rfl⟩⟩, g2⟩, ?_⟩
        · rw [hse, htk, ← g1]
          simp [Fs.app, ftx]
        · simp only [Fs.app, Fs.count]; omega
      · refine ⟨?_, ⟨⟨ht, ht0, ht1, hn, .inr (.inl ⟨rfl, rfl, rfl, by omega⟩)⟩, g2⟩, ?_⟩
        · rw [hse, htk, ← g1]
          simp [Fs.app, ftx]
        · simp only [Fs.app, Fs.count]; omega
      · have hu2 : (fget u (deep + 1) 0).2 = 0 := by rw [hru]
        obtain ⟨e1, e2, e3⟩ := fget_ok N u (deep + 1) 0 (by omega) (by omega) (by omega) hu2
        rw [hru] at e1 e2 e3
        simp only [] at e1 e2 e3
        have hul : u.length + 2 ≤ k := by
          have := congrArg List.length htk
          simp only [List.length_take, List.length_append, vput_length] at this
          have := vsz_pos (4 * t + 2)
          have := vsz_pos u.length
          omega
        refine ⟨?_, ⟨⟨ht, ht0, ht1, hn, .inr (.inr ⟨rfl, rfl, rfl, by omega, e2⟩)⟩, g2⟩, ?_⟩
        · rw [hse, htk, ← g1, ← e1]
          simp [Fs.app, ftx]
        · simp only [Fs.app, Fs.count]; omega
theorem fget_text (z : List UInt8) : ∀ (f : Fs) (deep last : Nat), deep ≤ 8 → fcheckP f last deep → (ftx f).length ≤ 1000000 →
    fget (ftx f ++ z) deep last = fthen f (fget z deep (f.last last))
  | .nil, deep, last, hd, _, _ => by
    show fget z deep last = fthen .nil (fget z deep last)
    by_cases h : (fget z deep last).2 ≠ 0
    · rw [fthen_err h]
      by_cases h0 : z.length = 0
      · obtain rfl : z = [] := List.eq_nil_of_length_eq_zero h0
        exact absurd rfl h
      by_cases h1 : (ffirst z deep last).2.2 ≠ 0
      · rw [fget_err h0 h1]
      · rw [fget_step h0 (Classical.not_not.1 h1)] at h ⊢
        generalize fget (z.drop (ffirst z deep last).2.1) deep (ffirst z deep last).1.tag = q at *
        by_cases hq : q.2 = 0
        · rw [fthen_yes hq] at h; exact absurd rfl h
        · rw [fthen_err hq]
    · rw [fthen_yes (Classical.not_not.1 h)]
      exact Prod.ext rfl (Classical.not_not.1 h)
  | .cons t y n x i r, deep, last, hd, hc, hl => by
    obtain ⟨⟨ht, ht0, ht1, hn, hor⟩, hcr⟩ := hc
    have hr := fget_text z r deep t hd hcr (by rw [ftx] at hl; simp only [List.length_append] at hl; omega)
    have h4 : 4 * t + y.toNat < 18446744073709551616 := by rcases hor with ⟨rfl, _⟩ | ⟨rfl, _⟩ | ⟨rfl, _⟩ <;> simp <;> omega
    have hsz := vsz_pos (4 * t + y.toNat)
    generalize hb : (if y = 0 then vput n else if y = 1 then vput x.size ++ x.data.toList else vput (ftx i).length ++ ftx i) = B at *
    have hft : ftx (.cons t y n x i r) ++ z = vput (4 * t + y.toNat) ++ (B ++ (ftx r ++ z)) := by rw [ftx, hb]; simp only [List.append_assoc]
    have hv1 := vget_put (4 * t + y.toNat) h4 (B ++ (ftx r ++ z))
    have hlb : (ftx (.cons t y n x i r)).length = vsz (4 * t + y.toNat) + (B.length + (ftx r).length) := by rw [ftx, hb]; simp only [List.length_append, vput_length]
    rw [hlb] at hl
    rw [hft]
    have hne : (vput (4 * t + y.toNat) ++ (B ++ (ftx r ++ z))).length ≠ 0 := by simp only [List.length_append, vput_length]; omega
    have hdr : (vput (4 * t + y.toNat) ++ (B ++ (ftx r ++ z))).drop (vsz (4 * t + y.toNat)) = B ++ (ftx r ++ z) := by
      rw [← vput_length, List.drop_left]
    have hdiv : (4 * t + y.toNat) / 4 = t ∧ (4 * t + y.toNat) % 4 = y.toNat := by rcases hor with ⟨rfl, _⟩ | ⟨rfl, _⟩ | ⟨rfl, _⟩ <;> simp <;> omega
    have hone : ffirst (vput (4 * t + y.toNat) ++ (B ++ (ftx r ++ z))) deep last = (.cons t y n x i .nil, vsz (4 * t + y.toNat) + B.length, 0) := by
      unfold ffirst fone
      rw [hv1]
      simp only [ne_eq, not_true_eq_false, if_false, hdiv.1, hdiv.2, hdr]
      rw [if_neg (by omega), if_neg (by rcases hor with ⟨rfl, _⟩ | ⟨rfl, _⟩ | ⟨rfl, _⟩ <;> simp), if_neg (by omega)]
      rcases hor with ⟨rfl, rfl, rfl⟩ | ⟨rfl, rfl, rfl, hx⟩ | ⟨rfl, rfl, rfl, hd8, hci⟩
      · have hB : B = vput n := by rw [← hb]; rfl
        have hv2 := vget_put n hn (ftx r ++ z)
        rw [hB, hv2, if_neg (by simp), vput_length]
        rfl
      · have hB : B = vput x.size ++ x.data.toList := by rw [← hb]; rfl
        have hx64 : x.size < 18446744073709551616 := by omega
        have hv2 := vget_put x.size hx64 (x.data.toList ++ (ftx r ++ z))
        rw [hB, List.append_assoc, hv2, if_neg (by simp)]
        have hxl : x.data.toList.length = x.size := len_list x
        rw [if_neg (by decide), if_neg (by simp only [List.length_append, vput_length, hxl]; omega), if_pos (by decide)]
        have e1 : (vput (4 * t + Int.toNat 1) ++ (vput x.size ++ (x.data.toList ++ (ftx r ++ z)))).drop (vsz (4 * t + Int.toNat 1) + vsz x.size) = x.data.toList ++ (ftx r ++ z) := by
          rw [← List.append_assoc, ← vput_length, ← vput_length, ← List.length_append, List.drop_left]
        rw [e1]
        have e2 : (x.data.toList ++ (ftx r ++ z)).take x.size = x.data.toList := by rw [← hxl, List.take_left]
        rw [e2, txt_of, List.length_append, vput_length, hxl, Nat.add_assoc]
      · have hB : B = vput (ftx i).length ++ ftx i := by rw [← hb]; rfl
        rw [hB, List.length_append] at hl
        have hx64 : (ftx i).length < 18446744073709551616 := by omega
        have hv2 := vget_put (ftx i).length hx64 (ftx i ++ (ftx r ++ z))
        rw [hB, List.append_assoc, hv2, if_neg (by simp)]
        rw [if_neg (by decide), if_neg (by simp only [List.length_append, vput_length]; omega), if_neg (by decide), if_neg (by omega)]
        have e1 : (vput (4 * t + Int.toNat 2) ++ (vput (ftx i).length ++ (ftx i ++ (ftx r ++ z)))).drop (vsz (4 * t + Int.toNat 2) + vsz (ftx i).length) = ftx i ++ (ftx r ++ z) := by
          rw [← List.append_assoc, ← vput_length, ← vput_length, ← List.length_append, List.drop_left]
        rw [e1]
        have e2 : (ftx i ++ (ftx r ++ z)).take (ftx i).length = ftx i := by rw [List.take_left]
        have hin := fget_text [] i (deep + 1) 0 (by omega) hci (by omega)
        rw [List.append_nil, fget_nil, fthen_yes rfl, Fs.app_nil] at hin
        rw [e2, hin]
        simp only [not_true_eq_false, if_false]
        rw [List.length_append, vput_length, Nat.add_assoc]
    have hdr2 : (vput (4 * t + y.toNat) ++ (B ++ (ftx r ++ z))).drop (vsz (4 * t + y.toNat) + B.length) = ftx r ++ z := by
      rw [← List.append_assoc, ← vput_length, ← List.length_append, List.drop_left]
    rw [fget_step hne (by rw [hone]), hone]
    show fthen (.cons t y n x i .nil) (fget ((vput (4 * t + y.toNat) ++ (B ++ (ftx r ++ z))).drop (vsz (4 * t + y.toNat) + B.length)) deep t) = _
    rw [hdr2, hr]
    show fthen (.cons t y n x i .nil) (fthen r (fget z deep (r.last t))) = fthen (.cons t y n x i r) (fget z deep (r.last t))
    generalize fget z deep (r.last t) = q
    by_cases hz : q.2 = 0
    · rw [fthen_yes hz, fthen_yes hz, fthen_yes rfl]; rfl
    · rw [fthen_err hz, fthen_err hz]; exact fthen_err hz
end Go.PM
end

section
namespace Go.Proofs.YtgidfnhfgiehjaaGreatDoor
open Go.RowKit Go.PM
theorem ftyped_iff {y : Int} {n : Nat} {s : ByteArray} {i : Fs} : ftyped y n s i.len = true ↔ y = 0 ∧ s = ByteArray.empty ∧ i = .nil ∨ y = 1 ∧ n = 0 ∧ i = .nil ∨ y = 2 ∧ n = 0 ∧ s = ByteArray.empty := by
  have hs : s.size = 0 ↔ s = ByteArray.empty := ⟨fun h => size_zero h, fun h => by rw [h]; rfl⟩
  have hi : i.len = 0 ↔ i = .nil := ⟨fun h => Fs.len_zero h, fun h => by rw [h]; rfl⟩
  unfold ftyped
  by_cases y0 : y = 0
  · subst y0; simp [hs, hi]
  by_cases y1 : y = 1
  · subst y1; simp [hi]
  by_cases y2 : y = 2
  · subst y2; simp [hs]
  · simp [y0, y1, y2]
theorem fcheck_iff : ∀ (f : Fs) (a w : Nat), f.All FKd → w ≤ 8 → (fcheck f a w = 0 ↔ fcheckP f a w)
  | .nil, a, w, _, _ => by simp [fcheck, fcheckP]
  | .cons t y n s i r, a, w, hk, hw => by
    have hr := fcheck_iff r t w hk.2.2 hw
    rw [fcheck, fcheckP]
    by_cases h1 : t = 0 ∨ 4294967296 < t
    · rw [if_pos h1]; constructor
      · intro h; cases h
      · rintro ⟨⟨_, _, _, _⟩, _⟩; omega
    rw [if_neg h1]
    by_cases h2 : t ≤ a
    · rw [if_pos h2]; constructor
      · intro h; cases h
      · rintro ⟨⟨_, _, _, _⟩, _⟩; omega
    rw [if_neg h2]
    by_cases h3 : ftyped y n s i.len = false
    · rw [if_pos h3]; constructor
      · intro h; cases h
      · rintro ⟨⟨_, _, _, _, h⟩, _⟩
        have : ftyped y n s i.len = true := ftyped_iff.2 (by
          rcases h with ⟨h1, h2, h3⟩ | ⟨h1, h2, h3, _⟩ | ⟨h1, h2, h3, _⟩
          · exact .inl ⟨h1, h2, h3⟩
          · exact .inr (.inl ⟨h1, h2, h3⟩)
          · exact .inr (.inr ⟨h1, h2, h3⟩))
        rw [this] at h3; cases h3
    rw [if_neg h3]
    have h3' := ftyped_iff.1 (by simpa using h3)
    have hbase : a < t ∧ 0 < t ∧ t ≤ 4294967296 ∧ In64 n := ⟨by omega, by omega, by omega, hk.1.2.2.1⟩
    by_cases h4 : y ≠ 2
    · rw [if_pos h4, hr]
      constructor
      · intro h
        refine ⟨⟨hbase.1, hbase.2.1, hbase.2.2.1, hbase.2.2.2, ?_⟩, h⟩
        rcases h3' with h | ⟨h1, h2, h3⟩ | h
        · exact .inl h
        · exact .inr (.inl ⟨h1, h2, h3, hk.1.2.2.2⟩)
        · exact absurd h.1 h4
      · exact fun h => h.2
    rw [if_neg h4]
    have hy : y = 2 := Classical.not_not.1 h4
    subst hy
    have h5 : n = 0 ∧ s = ByteArray.empty := by rcases h3' with ⟨h, _⟩ | ⟨h, _⟩ | ⟨_, h⟩; cases h; cases h; exact h
    by_cases h6 : 8 ≤ w
    · rw [if_pos h6]; constructor
      · intro h; cases h
      · rintro ⟨⟨_, _, _, _, h⟩, _⟩
        rcases h with ⟨h, _⟩ | ⟨h, _⟩ | ⟨_, _, _, h, _⟩
        · cases h
        · cases h
        · omega
    rw [if_neg h6]
    have hi := fcheck_iff i 0 (w + 1) hk.2.1 (by omega)
    by_cases h7 : fcheck i 0 (w + 1) ≠ 0
    · rw [if_pos h7]; constructor
      · intro h; exact absurd h h7
      · rintro ⟨⟨_, _, _, _, h⟩, _⟩
        rcases h with ⟨h, _⟩ | ⟨h, _⟩ | ⟨_, _, _, _, h⟩
        · cases h
        · cases h
        · exact absurd (hi.2 h) h7
    · rw [if_neg h7, hr]
      have h7' := hi.1 (Classical.not_not.1 h7)
      exact ⟨fun h => ⟨⟨hbase.1, hbase.2.1, hbase.2.2.1, hbase.2.2.2, .inr (.inr ⟨rfl, h5.1, h5.2, by omega, h7'⟩)⟩, h⟩, fun h => h.2⟩
end Go.Proofs.YtgidfnhfgiehjaaGreatDoor
namespace Go.PM
theorem fcheckP_mono : ∀ {f : Fs} {a a' w : Nat}, a' ≤ a → fcheckP f a w → fcheckP f a' w
  | .nil, _, _, _, _, _ => trivial
  | .cons .., _, _, _, h, hf => ⟨⟨by have := hf.1.1; omega, hf.1.2⟩, hf.2⟩
theorem fcheckP_app : ∀ {f g : Fs} {a w : Nat}, fcheckP (f.app g) a w ↔ fcheckP f a w ∧ fcheckP g (f.last a) w
  | .nil, g, a, w => by simp [Fs.app, fcheckP, Fs.last]
  | .cons t y n s i r, g, a, w => by simp only [Fs.app, fcheckP, Fs.last, fcheckP_app (f := r), and_assoc]
theorem Fs.take_drop : ∀ (f : Fs) (k : Nat), (f.take k).app (f.drop k) = f
  | f, 0 => by cases f <;> rfl
  | .nil, _ + 1 => rfl
  | .cons t y n s i r, k + 1 => by rw [Fs.take, Fs.drop, Fs.app, Fs.take_drop r k]
theorem Fs.All.take {P : Nat → Int → Nat → ByteArray → Prop} : ∀ {f : Fs} (k : Nat), f.All P → (f.take k).All P
  | f, 0, _ => by cases f <;> trivial
  | .nil, _ + 1, _ => trivial
  | .cons .., k + 1, h => ⟨h.1, h.2.1, Fs.All.take k h.2.2⟩
end Go.PM
end

section
namespace Go.Proofs.YtgidfnhfgiehjaaGreatDoor
open Go.RowKit Go.PM
set_option maxRecDepth 100000
set_option maxHeartbeats 1000000
attribute [local go_sem ↓] Go.wp_at_zero Go.wp_at_succ
end Go.Proofs.YtgidfnhfgiehjaaGreatDoor
end

section
namespace Go.Proofs.YtgidfnhfgiehjaaGreatDoor
open Go.RowKit Go.PM
set_option maxRecDepth 100000
set_option maxHeartbeats 8000000
attribute [local go_sem ↓] Go.wp_at_zero Go.wp_at_succ
end Go.Proofs.YtgidfnhfgiehjaaGreatDoor
end

section
namespace Go.PM
end Go.PM
namespace Go.Proofs.YtgidfnhfgiehjaaGreatDoor
open Go.RowKit Go.PM
set_option maxRecDepth 100000
set_option maxHeartbeats 2000000
attribute [local go_sem ↓] Go.wp_at_zero Go.wp_at_succ
end Go.Proofs.YtgidfnhfgiehjaaGreatDoor
end

section
namespace Go.PM
def W2 (w : World) (I : Nat → Prop) (xs : List Value) (L : List (Fs × Fs)) : Prop :=
  xs.length = 2 * L.length ∧ ∀ (j : Nat) (p : Fs × Fs), L[j]? = some p → ∃ x y, xs[2 * j]? = some x ∧ xs[2 * j + 1]? = some y ∧ SlV w I x p.1 ∧ SlV w I y p.2
theorem W2.nil {w : World} {I : Nat → Prop} : W2 w I [] [] := ⟨rfl, fun j p h => by simp at h⟩
theorem W2.push {w : World} {I : Nat → Prop} {xs : List Value} {L : List (Fs × Fs)} {x y : Value} {p : Fs × Fs} (h : W2 w I xs L) (hx : SlV w I x p.1) (hy : SlV w I y p.2) : W2 w I (xs ++ [x, y]) (L ++ [p]) := by
  refine ⟨by simp [h.1]; omega, fun j q hq => ?_⟩
  by_cases hj : j < L.length
  · rw [List.getElem?_append_left hj] at hq
    obtain ⟨a, b, h1, h2, h3⟩ := h.2 j q hq
    exact ⟨a, b, by rw [List.getElem?_append_left (by rw [h.1]; omega)]; exact h1, by rw [List.getElem?_append_left (by rw [h.1]; omega)]; exact h2, h3⟩
  · have hj2 : j = L.length := by
      have := (List.getElem?_eq_some_iff.1 hq).1
      simp at this; omega
    subst hj2
    rw [List.getElem?_append_right (Nat.le_refl _), Nat.sub_self] at hq
    injection hq with hq
    subst hq
    refine ⟨x, y, ?_, ?_, hx, hy⟩
    · rw [List.getElem?_append_right (by rw [h.1]; omega), h.1, Nat.sub_self]; rfl
    · rw [List.getElem?_append_right (by rw [h.1]; omega), h.1, show 2 * L.length + 1 - 2 * L.length = 1 by omega]; rfl
theorem W2.pop {w : World} {I : Nat → Prop} {xs : List Value} {L : List (Fs × Fs)} {n : Nat} (h : W2 w I xs L) (hn : L.length = n + 1) :
    ∃ L' p x y, L = L' ++ [p] ∧ L'.length = n ∧ xs[2 * n]? = some x ∧ xs[2 * n + 1]? = some y ∧ SlV w I x p.1 ∧ SlV w I y p.2 ∧ W2 w I (xs.take (n * 2)) L' := by
  have hL : n < L.length := by omega
  obtain ⟨x, y, h1, h2, h3, h4⟩ := h.2 n _ (List.getElem?_eq_getElem hL)
  refine ⟨L.take n, L[n], x, y, ?_, by rw [List.length_take]; omega, h1, h2, h3, h4, by rw [List.length_take, List.length_take, h.1]; omega, fun j q hq => ?_⟩
  · have h1 := List.take_append_getElem hL
    rw [h1, List.take_of_length_le (by omega)]
  · rw [List.getElem?_take] at hq
    by_cases hj : j < n
    · rw [if_pos hj] at hq
      obtain ⟨a, b, h1, h2, h3⟩ := h.2 j q hq
      exact ⟨a, b, by rw [List.getElem?_take, if_pos (by omega)]; exact h1, by rw [List.getElem?_take, if_pos (by omega)]; exact h2, h3⟩
    · rw [if_neg hj] at hq
      cases hq
def psum : List (Fs × Fs) → Nat
  | [] => 0
  | p :: L => p.1.count + p.2.count + psum L
theorem psum_app : ∀ (L M : List (Fs × Fs)), psum (L ++ M) = psum L + psum M
  | [], M => by simp [psum]
  | f :: L, M => by simp only [List.cons_append, psum, psum_app L M]; omega
theorem lsame_app (L M : List (Fs × Fs)) : lsame (L ++ M) = (lsame L && lsame M) := by simp [lsame]
theorem lsame_one (p : Fs × Fs) : lsame [p] = p.1.same p.2 := by simp [lsame]
theorem str_ne {a b : ByteArray} (h : a ≠ b) : (a.toList == b.toList) = false := by
  rw [beq_eq_false_iff_ne, ByteArray.toList_eq, ByteArray.toList_eq]
  intro e
  exact h (ByteArray.ext (Array.toList_inj.1 e))
def likeB (t t' : Nat) (y y' : Int) (n n' : Nat) (s s' : ByteArray) : Bool := decide (t = t' ∧ y = y' ∧ n = n' ∧ s = s')
end Go.PM
namespace Go.Proofs.YtgidfnhfgiehjaaGreatDoor
open Go.RowKit Go.PM
set_option maxRecDepth 100000
set_option maxHeartbeats 4000000
theorem alike_any (b o b' o' : Nat) (t t' : Nat) (y y' : Int) (n n' : Nat) (s s' : ByteArray) (w : World)
    (h0 : w.cell? ⟨b, o, none⟩ = some (.int .u64 (t : Int))) (h1 : w.cell? ⟨b, o + 1, none⟩ = some (.int .i64 y)) (h2 : w.cell? ⟨b, o + 2, none⟩ = some (.int .u64 (n : Int))) (h3 : w.cell? ⟨b, o + 3, none⟩ = some (.string s))
    (k0 : w.cell? ⟨b', o', none⟩ = some (.int .u64 (t' : Int))) (k1 : w.cell? ⟨b', o' + 1, none⟩ = some (.int .i64 y')) (k2 : w.cell? ⟨b', o' + 2, none⟩ = some (.int .u64 (n' : Int))) (k3 : w.cell? ⟨b', o' + 3, none⟩ = some (.string s')) :
    Calls Tryz.prog 104 #[.pointer (some ⟨b, o, none⟩), .pointer (some ⟨b', o', none⟩)] w fun e w' => e = .returned (.bool (likeB t t' y y' n n' s s')) ∧ Below w.heap.size w w' := by
  generalize hB : likeB t t' y y' n n' s s' = B
  unfold likeB at hB
  by_cases e0 : t = t'
  · subst e0
    by_cases e1 : y = y'
    · subst e1
      by_cases e2 : n = n'
      · subst e2
        by_cases e3 : s = s'
        · subst e3
          obtain rfl : true = B := by rw [← hB]; simp
          clear hB
          go_enter Tryz.func104, Tryz.ntmps104
          go_wp2_with fail
          go_quiet (fail)
          go_wp2_with fail
          go_ret
          exact ⟨rfl, bn b0 _⟩
        · obtain rfl : false = B := by rw [← hB]; simp [e3]
          have e4 := str_ne e3
          clear hB e3
          go_enter Tryz.func104, Tryz.ntmps104
          go_wp2_with fail
          go_quiet (fail)
          go_wp2_with fail
          go_ret
          exact ⟨rfl, bn b0 _⟩
      · obtain rfl : false = B := by rw [← hB]; simp [e2]
        have e4 : ((n : Int) == (n' : Int)) = false := by rw [beq_eq_false_iff_ne]; omega
        clear hB e2
        go_enter Tryz.func104, Tryz.ntmps104
        go_wp2_with fail
        go_quiet (fail)
        go_wp2_with fail
        go_ret
        exact ⟨rfl, bn b0 _⟩
    · obtain rfl : false = B := by rw [← hB]; simp [e1]
      have e4 : (y == y') = false := by rw [beq_eq_false_iff_ne]; exact e1
      clear hB e1
      go_enter Tryz.func104, Tryz.ntmps104
      go_wp2_with fail
      go_quiet (fail)
      go_wp2_with fail
      go_ret
      exact ⟨rfl, bn b0 _⟩
  · obtain rfl : false = B := by rw [← hB]; simp [e0]
    have e4 : ((t : Int) == (t' : Int)) = false := by rw [beq_eq_false_iff_ne]; omega
    clear hB e0
    go_enter Tryz.func104, Tryz.ntmps104
    go_wp2_with fail
    go_quiet (fail)
    go_wp2_with fail
    go_ret
    exact ⟨rfl, bn b0 _⟩
end Go.Proofs.YtgidfnhfgiehjaaGreatDoor
end

section
namespace Go.Proofs.YtgidfnhfgiehjaaGreatDoor
open Go.RowKit Go.PM
set_option maxRecDepth 100000
set_option maxHeartbeats 4000000
attribute [local go_sem ↓] Go.wp_at_zero Go.wp_at_succ
theorem info_both : (Tryz.prog.info? 193).map (fun i => (i.zero, i.size, i.bytes)) = some (some (.agg #[.slice none 0 0, .slice none 0 0]), 2, 48) := by kernel_rfl
def PkAt (w : World) (I : Nat → Prop) (v : Value) (L : List (Fs × Fs)) (wr : World) : Prop :=
  ∃ (g cap : Nat) (xs : List Value), v = .slice (some ⟨g, 0, none⟩) L.length cap ∧ wr.ownsRow w.heap.size 193 2 v L.length xs ∧ W2 w I xs L ∧ Below w.heap.size w wr
def PxAt (w : World) (I : Nat → Prop) (gb : Nat) (va vb v : Value) (L : List (Fs × Fs)) (wr : World) : Prop :=
  ∃ (g cap : Nat) (xs : List Value), v = .slice (some ⟨g, 0, none⟩) L.length cap ∧ wr.ownsRow w.heap.size 193 2 v L.length xs ∧ W2 w I xs L ∧ Below w.heap.size w wr ∧ g ≠ gb ∧ w.heap.size ≤ gb ∧ BlkAt wr gb 193 #[va, vb]
theorem PkAt.step {w wr w3 : World} {I : Nat → Prop} {gb g2 g3 cap3 cap2 M2 : Nat} {va vb x y : Value} {L2 : List (Fs × Fs)} {p : Fs × Fs} {xs2 : List Value} (hM : L2.length = M2) (hB2 : Below w.heap.size w wr) (hgb : w.heap.size ≤ gb) (hblk : BlkAt wr gb 193 #[va, vb]) (hne : g2 ≠ gb)
    (hW2 : W2 w I xs2 L2) (hx : SlV w I x p.1) (hy : SlV w I y p.2) (hg2 : w.heap.size ≤ g2)
    (hown3 : w3.ownsRow w.heap.size 193 2 (.slice (some ⟨g3, 0, none⟩) (M2 + 1) cap3) (M2 + 1) (xs2 ++ [x, y])) (hg3 : wr.grownBy w3 (Value.slice (some ⟨g2, 0, none⟩) M2 cap2).ownBlock) (hat : (Value.slice (some ⟨g2, 0, none⟩) M2 cap2).ownBlock = some g3 ∨ wr.heap.size ≤ g3) :
    PxAt w I gb va vb (.slice (some ⟨g3, 0, none⟩) (M2 + 1) cap3) (L2 ++ [p]) w3 := by
  refine ⟨g3, cap3, _, by simp [hM], by simp only [List.length_append, List.length_cons, List.length_nil, hM]; exact hown3, hW2.push hx hy, ?_, ?_, hgb, ?_⟩
  · exact hB2.trans (Tch.grown (S := fun k => some g2 = some k) hg3 (fun k hk _ => hk) |>.toBelowB hB2.size fun k hk e => by injection e with e; omega)
  · rcases hat with h | h
    · simp only [Value.ownBlock, Option.some.injEq] at h; omega
    · have := hblk.lt; omega
  · exact hblk.step hg3 (by intro e; simp only [Value.ownBlock, Option.some.injEq] at e; exact hne e.symm)
theorem same_of (va vb : Value) (f g : Fs) (I : Nat → Prop) (w : World) (ha : SlV w I va f) (hb : SlV w I vb g) (h60 : f.count ≤ 1000000) (h61 : g.count ≤ 1000000) :
    Calls Tryz.prog 60 #[va, vb] w fun e w' => e = .returned (.bool (f.same g)) ∧ Below w.heap.size w w' := by
  have HA := Lib.hid ha
  have HB := Lib.hid hb
  obtain ⟨A, c, rfl, ha'⟩ := ha
  obtain ⟨A', c', rfl, hb'⟩ := hb
  clear ha' hb'
  generalize hT : f.same g = T
  have HT := Lib.hid hT
  have H6 : Hid (f.count ≤ 1000000 ∧ g.count ≤ 1000000) := ⟨h60, h61⟩
  obtain ⟨i0, hi0, hz0, hz1, hz2⟩ := info_parts info_both
  clear hT h60 h61
  go_enter Tryz.func60, Tryz.ntmps60
  go_wp2_with fail
  go_loopg [5] 4000001 (fun gk vv wr => ∃ (L : List (Fs × Fs)), Hid (lsame L = T ∧ 2 * psum L + L.length ≤ gk ∧ gk ≤ 4000001) ∧ PkAt w I vv L wr)
  case atStart =>
    refine ⟨[(f, g)], ⟨by rw [lsame_one]; exact HT.out, by have := H6.out; simp [psum]; omega, Nat.le_refl _⟩, w.heap.size, 1, [.slice A f.len c, .slice A' g.len c'], rfl, World.ownsRow_lit w #[.slice A f.len c, .slice A' g.len c'] 1 (Nat.le_refl _) (by decide) rfl, ?_, ba b0 _⟩
    exact W2.push (p := (f, g)) W2.nil HA.out HB.out
  case round =>
    obtain ⟨L, hn, g0, cap, xs, rfl, hown, hwl, hbel⟩ := hrel
    cases hL : L.length with
    | zero =>
      obtain rfl : L = [] := List.eq_nil_of_length_eq_zero hL
      obtain rfl : true = T := hn.out.1
      have HBE := Lib.hid hbel
      clear hown hwl hbel hL hn
      go_wp2_with fail
      go_ret
      exact ⟨rfl, HBE.out⟩
    | succ m =>
      obtain ⟨L', ⟨f1, g1⟩, x, y, rfl, hL', hx, hy, hsx, hsy, hwl'⟩ := hwl.pop hL
      simp only at hsx hsy
      have HSX := Lib.hid hsx
      have HSY := Lib.hid hsy
      obtain ⟨A1, c1, rfl, hc1, hor1⟩ := hsx
      obtain ⟨A2, c2, rfl, hc2, hor2⟩ := hsy
      have hcell0 := hown.cellAt (m * 2) (by rw [hL]; omega)
      have hcell1 := hown.cellAt (m * 2 + 1) (by rw [hL]; omega)
      rw [Nat.mul_comm m 2, hx, Nat.mul_comm 2 m] at hcell0
      rw [Nat.mul_comm m 2, hy, Nat.mul_comm 2 m] at hcell1
      rw [hL] at hown
      have hg0 := hown.lt g0 rfl
      have HO := Lib.hid (own_pop hown)
      obtain ⟨hmc, hcap⟩ := own_cap hown
      have hmi : (m : Int) ≤ (cap : Int) := by omega
      have HWL := Lib.hid hwl'
      have HBEL := Lib.hid hbel
      obtain ⟨hn0, hn2, hgT⟩ := hn.out
      rw [lsame_app, lsame_one] at hn0
      rw [psum_app] at hn2
      simp only [psum, List.length_append, List.length_cons, List.length_nil] at hn2 hn0
      have hfc := f1.count_in
      have hgc := g1.count_in
      have hm4 : m ≤ 4000001 := by omega
      have hfl4 : f1.len ≤ 4000001 ∧ g1.len ≤ 4000001 := by omega
      obtain ⟨hf4, hg4⟩ := hfl4
      have hblk := BlkAt.made wr 193 #[.slice A1 f1.len c1, .slice A2 g1.len c2]
      have hbo := ba (a := wr) b0 (.cells #[.slice A1 f1.len c1, .slice A2 g1.len c2] 193)
      have H0 : Hid ((lsame L' && f1.same g1) = T ∧ (f1.len = g1.len → 2 * psum L' + L'.length + 2 * (f1.icount + g1.icount) + f1.len + 1 ≤ gk) ∧ gk ≤ 4000001) := ⟨hn0, fun _ => by omega, hgT⟩
      have HM := Lib.hid hL'
      have HBLK := Lib.hid hblk
      have HBO := Lib.hid hbo
      obtain ⟨G, hG⟩ : ∃ G, G = gk := ⟨gk, rfl⟩
      rw [← hG] at H0
      have HG := Lib.hid hG
      clear hG
      clear hn hn0 hn2 hgT hfc hgc hown hwl' hbel hor1 hor2 hL hL' hx hy hblk hbo hwl
      by_cases hlen : f1.len = g1.len
      · have HLEN := Lib.hid hlen
        have hli : ((f1.len : Int) != (g1.len : Int)) = false := by simp; omega
        clear hlen
        go_wp2_with fail
        generalize hgbe : wr.heap.size = gb
        rw [hgbe] at HBLK
        have HGBE := Lib.hid hgbe
        clear hgbe
        go_loopg [5, 38] f1.len (fun gj vv kk w2 => ∃ (k : Nat) (L2 : List (Fs × Fs)), k + gj = f1.len ∧ kk = .int .i64 (k : Int) ∧ Hid ((lsame L2 && (f1.drop k).same (g1.drop k)) = T ∧ 2 * psum L2 + L2.length + 2 * ((f1.drop k).icount + (g1.drop k).icount) + (f1.drop k).len + 1 ≤ G) ∧ PxAt w I gb (.slice A1 f1.len c1) (.slice A2 g1.len c2) vv L2 w2)
        case atStart =>
          have hd0 : ∀ h : Fs, h.drop 0 = h := fun h => by cases h <;> rfl
          refine ⟨0, L', by omega, rfl, ?_, g0, cap, _, by rw [HM.out], by rw [HM.out]; exact own_below HO.out HBO.out, HWL.out, HBEL.out.trans (HBO.out.mono HBEL.out.size), by have := HGBE.out; omega, by have := HGBE.out; have := HBEL.out.size; omega, HBLK.out⟩
          rw [hd0, hd0]
          exact ⟨H0.out.1, H0.out.2.1 HLEN.out⟩
        case round =>
          obtain ⟨k, L2, hkj, rfl, hn3, g2, cap2, xs2, rfl, hown2, hwl2, hbel2, hne2, hgb2, hblk2⟩ := hrel
          by_cases hlt : k < f1.len
          · have hle : f1.len = g1.len := HLEN.out
            obtain ⟨t, y, n, s, i, hdc, _⟩ := f1.drop_cons k hlt
            obtain ⟨t', y', n', s', i', hdc', _⟩ := g1.drop_cons k (by omega)
            have hsx := HSX.out
            have hsy := HSY.out
            obtain ⟨A0, c0, hv, hc0, hor⟩ := hsx
            injection hv with hv1 hv2 hv3
            subst hv1 hv3
            obtain ⟨A0, c0, hv', hc0', hor'⟩ := hsy
            injection hv' with hv1 hv2' hv3
            subst hv1 hv3
            rcases hor with h0 | ⟨b, o, rfl, hIb, hbl, hat⟩
            · omega
            rcases hor' with h0 | ⟨b', o', rfl, hIb', hbl', hat'⟩
            · omega
            have hak := hat.drop k
            have hak' := hat'.drop k
            rw [hdc] at hak
            rw [hdc'] at hak'
            obtain ⟨a0, a1, a2, a3, ⟨Ai, ci, a4, hci, hin⟩, _⟩ := hak
            obtain ⟨a0', a1', a2', a3', ⟨Ai', ci', a4', hci', hin'⟩, _⟩ := hak'
            have hbk := hbel2.block b hbl
            have hbk' := hbel2.block b' hbl'
            have HALC : Hid (∀ x : World, Below wr.heap.size wr x → Calls Tryz.prog 104 #[.pointer (some ⟨b, o + k * 5, none⟩), .pointer (some ⟨b', o' + k * 5, none⟩)] x fun e w' => e = .returned (.bool (likeB t t' y y' n n' s s')) ∧ Below x.heap.size x w') := fun x hx => by
              have hz := hbel2.size
              have e := fun j => World.cell?_of_block (a := ⟨b, j, none⟩) ((hx.block b (by omega)).trans hbk)
              have e' := fun j => World.cell?_of_block (a := ⟨b', j, none⟩) ((hx.block b' (by omega)).trans hbk')
              exact alike_any b (o + k * 5) b' (o' + k * 5) t t' y y' n n' s s' x ((e _).trans a0) ((e _).trans a1) ((e _).trans a2) ((e _).trans a3) ((e' _).trans a0') ((e' _).trans a1') ((e' _).trans a2') ((e' _).trans a3')
            have c4 := (World.cell?_of_block (a := ⟨b, o + k * 5 + 4, none⟩) hbk).trans a4
            have c4' := (World.cell?_of_block (a := ⟨b', o' + k * 5 + 4, none⟩) hbk').trans a4'
            have HLT : Hid (b < wr.heap.size ∧ b' < wr.heap.size ∧ b < w.heap.size ∧ b' < w.heap.size) := ⟨Nat.lt_of_lt_of_le hbl hbel2.size, Nat.lt_of_lt_of_le hbl' hbel2.size, hbl, hbl'⟩
            have HSI : Hid (SlV w I (.slice Ai i.len ci) i ∧ SlV w I (.slice Ai' i'.len ci') i') := ⟨⟨Ai, ci, rfl, hci, hin⟩, ⟨Ai', ci', rfl, hci', hin'⟩⟩
            have bx0 := hblk2.cell 0
            have bx1 := hblk2.cell 1
            simp at bx0 bx1
            have hkf : (k : Int) < (f1.len : Int) := by omega
            have hkg : (k : Int) < (g1.len : Int) := by omega
            clear hle
            have hn3' := hn3.out
            rw [hdc, hdc'] at hn3'
            simp only [Fs.icount, Fs.len, Fs.same] at hn3'
            have hif := f1.drop_count k
            have hig := g1.drop_count k
            rw [hdc] at hif
            rw [hdc'] at hig
            simp only [Fs.count] at hif hig
            have hil := i.len_count
            have hil' := i'.len_count
            have HB2 := Lib.hid hbel2
            clear hdc hdc' hat hat' hv2 hv2' a0 a1 a2 a3 a4 a0' a1' a2' a3' a4' hin hin' hbk hbk' hn3
            cases hlk : likeB t t' y y' n n' s s' with
            | false =>
              rw [hlk] at HALC
              have HAL := HALC
              have HF : Hid (false = T) := by
                have h1 := hn3'.1
                unfold likeB at hlk
                rw [hlk] at h1
                simp at h1
                exact h1.symm
              clear hlk hn3' hown2 hwl2 hblk2 hbel2 HALC
              obtain rfl : false = T := HF.out
              clear HF
              go_wp2_with fail
              go_quiet (fail)
              go_wp2_with (go_at_call 104; refine (HAL.out _ (bn b0 _)).mono ?_; rintro e' W1 ⟨rfl, hb1⟩; have hbW1 : Below wr.heap.size wr W1 := bb (bn b0 _) hb1; have e4 := (World.cell?_of_block (hbW1.block b HLT.out.1)).trans c4; have e4' := (World.cell?_of_block (hbW1.block b' HLT.out.2.1)).trans c4')
              go_ret
              exact ⟨rfl, HB2.out.trans (hbW1.mono HB2.out.size)⟩
            | true =>
              rw [hlk] at HALC
              have HAL := HALC
              have hsame : (lsame L2 && (i.same i' && (f1.drop (k + 1)).same (g1.drop (k + 1)))) = T := by
                have h1 := hn3'.1
                unfold likeB at hlk
                rw [hlk, Bool.true_and] at h1
                exact h1
              have HSAME := Lib.hid hsame
              have hci2 := i.count_in
              have hci2' := i'.count_in
              have hn3 := Lib.hid (And.intro hsame hn3'.2)
              have HW2 := Lib.hid hwl2
              have HO2 := Lib.hid hown2
              have HGB : Hid (g2 ≠ gb ∧ w.heap.size ≤ gb ∧ BlkAt wr gb 193 #[.slice (some ⟨_, _, none⟩) f1.len _, .slice (some ⟨_, _, none⟩) g1.len _]) := ⟨hne2, hgb2, hblk2⟩
              have hiL : i.len ≤ 4000001 ∧ i'.len ≤ 4000001 := by have := hn3.out.2; have := H0.out.2.2; omega
              obtain ⟨hiL1, hiL2⟩ := hiL
              clear hlk hn3' hsame hown2 hwl2 hblk2 hbel2 HALC hif hig hil hil' hci2 hci2'
              by_cases hi1 : 0 < i.len
              · have hip : (0 : Int) < (i.len : Int) := by omega
                have HNN : Hid ((lsame (L2 ++ [(i, i')]) && (f1.drop (k + 1)).same (g1.drop (k + 1))) = T ∧ 2 * psum (L2 ++ [(i, i')]) + (L2 ++ [(i, i')]).length + 2 * ((f1.drop (k + 1)).icount + (g1.drop (k + 1)).icount) + (f1.drop (k + 1)).len + 1 ≤ G) := by
                  rw [lsame_app, lsame_one, Bool.and_assoc, psum_app]
                  simp only [psum, List.length_append, List.length_cons, List.length_nil]
                  exact ⟨HSAME.out, by have := hn3.out.2; omega⟩
                have HL4 : Hid (L2.length ≤ 4000001) := by have := hn3.out.2; have := H0.out.2.2; show _ ≤ _; omega
                have hL4 := HL4.out
                generalize hM2 : L2.length = M2 at *
                have HM2 := Lib.hid hM2
                clear hM2 hn3 HSAME
                go_wp2_with fail
                go_quiet (fail)
                go_wp2_with (go_at_call 104; refine (HAL.out _ (bn b0 _)).mono ?_; rintro e' W1 ⟨rfl, hb1⟩; have hbW1 : Below wr.heap.size wr W1 := bb (bn b0 _) hb1; have e4 := (World.cell?_of_block (hbW1.block b HLT.out.1)).trans c4; have e4' := (World.cell?_of_block (hbW1.block b' HLT.out.2.1)).trans c4')
                have hown1 := own_below HO2.out hbW1
                have HOW := Lib.hid hown1
                have hwz := hbW1.size
                have hg2z := HO2.out.lt g2 rfl
                have HBW1 := Lib.hid hbW1
                clear hown1
                go_region_held3 (fun w' => w'.cell? ⟨b, o + k * 5 + 4, none⟩ = some (.slice Ai i.len ci) ∧ w'.cell? ⟨b', o' + k * 5 + 4, none⟩ = some (.slice Ai' i'.len ci')) (go_keep)
                  ((refine step_append_lies _ (by rfl) _ _ _ (by rfl) w.heap.size 193 i0 _ 2 48 Tryz.underlying194 hi0 hz0 hz1 hz2 rfl (by omega) (.slice (some ⟨g2, 0, none⟩) M2 cap2) M2 xs2 (by rfl) ((HOW.out.drew).alloc _) ⟨W1.heap.size, 0, none⟩ 1 1 [.slice Ai i.len ci, .slice Ai' i'.len ci'] (by rfl) (by rfl) (World.news_of_block (cs := #[.slice Ai i.len ci, .slice Ai' i'.len ci']) (t := 193) (fr := (0, 0)) (heap_alloc_new W1.drew _)) (by simp [Value.oneCell']) (by omega) (by unfold maxLen; omega) (by omega) (by simp; omega) (W1.heap.size + 1) (by simp) ?_; intro g3 cap3 w3 hown3 hg3 hat3 hlt3; have HO3 := Lib.hid hown3; have HG3 := Lib.hid hg3; have HAT3 := Lib.hid hat3; have e5 := (World.cell?_of_block (a := ⟨b, o + k * 5 + 4, none⟩) ((HG3.out.block b (by simp; omega) (by simp [Value.ownBlock]; omega)).trans ((ba (a := W1) b0 (.cells #[.slice Ai i.len ci, .slice Ai' i'.len ci'] 193)).block b (by omega)))).trans e4; have e5' := (World.cell?_of_block (a := ⟨b', o' + k * 5 + 4, none⟩) ((HG3.out.block b' (by simp; omega) (by simp [Value.ownBlock]; omega)).trans ((ba (a := W1) b0 (.cells #[.slice Ai i.len ci, .slice Ai' i'.len ci'] 193)).block b' (by omega)))).trans e4'; clear hown3 hg3 hat3 hlt3))
                go_wp2_with fail
                go_roundg (f1.len - (k + 1))
                case measure => omega
                case rel =>
                  have hbq : Below wr.heap.size wr (W1.drew.alloc (.cells #[.slice Ai i.len ci, .slice Ai' i'.len ci'] 193)) := ba (bd HBW1.out) _
                  refine ⟨k + 1, L2 ++ [(i, i')], by omega, by go_num, HNN.out, ?_⟩
                  exact PkAt.step HM2.out (HB2.out.trans (hbq.mono HB2.out.size)) HGB.out.2.1 (HGB.out.2.2.below hbq HGB.out.2.2.lt) HGB.out.1 HW2.out HSI.out.1 HSI.out.2 hg2z.1 HO3.out HG3.out (HAT3.out.imp id fun h => by rw [h]; simp)
              · have hip : decide ((0 : Int) < (i.len : Int)) = false := by simp; omega
                by_cases hi2 : 0 < i'.len
                · have hip2 : (0 : Int) < (i'.len : Int) := by omega
                  have HNN : Hid ((lsame (L2 ++ [(i, i')]) && (f1.drop (k + 1)).same (g1.drop (k + 1))) = T ∧ 2 * psum (L2 ++ [(i, i')]) + (L2 ++ [(i, i')]).length + 2 * ((f1.drop (k + 1)).icount + (g1.drop (k + 1)).icount) + (f1.drop (k + 1)).len + 1 ≤ G) := by
                    rw [lsame_app, lsame_one, Bool.and_assoc, psum_app]
                    simp only [psum, List.length_append, List.length_cons, List.length_nil]
                    exact ⟨HSAME.out, by have := hn3.out.2; omega⟩
                  have HL4 : Hid (L2.length ≤ 4000001) := by have := hn3.out.2; have := H0.out.2.2; show _ ≤ _; omega
                  have hL4 := HL4.out
                  generalize hM2 : L2.length = M2 at *
                  have HM2 := Lib.hid hM2
                  clear hM2 hn3 HSAME
                  go_wp2_with fail
                  go_quiet (fail)
                  go_wp2_with (go_at_call 104; refine (HAL.out _ (bn b0 _)).mono ?_; rintro e' W1 ⟨rfl, hb1⟩; have hbW1 : Below wr.heap.size wr W1 := bb (bn b0 _) hb1; have e4 := (World.cell?_of_block (hbW1.block b HLT.out.1)).trans c4; have e4' := (World.cell?_of_block (hbW1.block b' HLT.out.2.1)).trans c4')
                  have hown1 := own_below HO2.out hbW1
                  have HOW := Lib.hid hown1
                  have hwz := hbW1.size
                  have hg2z := HO2.out.lt g2 rfl
                  have HBW1 := Lib.hid hbW1
                  clear hown1
                  go_region_held3 (fun w' => w'.cell? ⟨b, o + k * 5 + 4, none⟩ = some (.slice Ai i.len ci) ∧ w'.cell? ⟨b', o' + k * 5 + 4, none⟩ = some (.slice Ai' i'.len ci')) (go_keep)
                    ((refine step_append_lies _ (by rfl) _ _ _ (by rfl) w.heap.size 193 i0 _ 2 48 Tryz.underlying194 hi0 hz0 hz1 hz2 rfl (by omega) (.slice (some ⟨g2, 0, none⟩) M2 cap2) M2 xs2 (by rfl) ((HOW.out.drew).alloc _) ⟨W1.heap.size, 0, none⟩ 1 1 [.slice Ai i.len ci, .slice Ai' i'.len ci'] (by rfl) (by rfl) (World.news_of_block (cs := #[.slice Ai i.len ci, .slice Ai' i'.len ci']) (t := 193) (fr := (0, 0)) (heap_alloc_new W1.drew _)) (by simp [Value.oneCell']) (by omega) (by unfold maxLen; omega) (by omega) (by simp; omega) (W1.heap.size + 1) (by simp) ?_; intro g3 cap3 w3 hown3 hg3 hat3 hlt3; have HO3 := Lib.hid hown3; have HG3 := Lib.hid hg3; have HAT3 := Lib.hid hat3; have e5 := (World.cell?_of_block (a := ⟨b, o + k * 5 + 4, none⟩) ((HG3.out.block b (by simp; omega) (by simp [Value.ownBlock]; omega)).trans ((ba (a := W1) b0 (.cells #[.slice Ai i.len ci, .slice Ai' i'.len ci'] 193)).block b (by omega)))).trans e4; have e5' := (World.cell?_of_block (a := ⟨b', o' + k * 5 + 4, none⟩) ((HG3.out.block b' (by simp; omega) (by simp [Value.ownBlock]; omega)).trans ((ba (a := W1) b0 (.cells #[.slice Ai i.len ci, .slice Ai' i'.len ci'] 193)).block b' (by omega)))).trans e4'; clear hown3 hg3 hat3 hlt3))
                  go_wp2_with fail
                  go_roundg (f1.len - (k + 1))
                  case measure => omega
                  case rel =>
                    have hbq : Below wr.heap.size wr (W1.drew.alloc (.cells #[.slice Ai i.len ci, .slice Ai' i'.len ci'] 193)) := ba (bd HBW1.out) _
                    refine ⟨k + 1, L2 ++ [(i, i')], by omega, by go_num, HNN.out, ?_⟩
                    exact PkAt.step HM2.out (HB2.out.trans (hbq.mono HB2.out.size)) HGB.out.2.1 (HGB.out.2.2.below hbq HGB.out.2.2.lt) HGB.out.1 HW2.out HSI.out.1 HSI.out.2 hg2z.1 HO3.out HG3.out (HAT3.out.imp id fun h => by rw [h]; simp)
                · have hip2 : decide ((0 : Int) < (i'.len : Int)) = false := by simp; omega
                  have hni : i = .nil := Fs.len_zero (by omega)
                  have hni' : i' = .nil := Fs.len_zero (by omega)
                  have HNN : Hid ((lsame L2 && (f1.drop (k + 1)).same (g1.drop (k + 1))) = T ∧ 2 * psum L2 + L2.length + 2 * ((f1.drop (k + 1)).icount + (g1.drop (k + 1)).icount) + (f1.drop (k + 1)).len + 1 ≤ G) := by
                    refine ⟨?_, by have := hn3.out.2; omega⟩
                    have h1 := HSAME.out
                    rw [hni, hni'] at h1
                    exact h1
                  have HL4 : Hid (L2.length ≤ 4000001) := by have := hn3.out.2; have := H0.out.2.2; show _ ≤ _; omega
                  clear hn3 HSAME hni hni'
                  go_wp2_with fail
                  go_quiet (fail)
                  go_wp2_with (go_at_call 104; refine (HAL.out _ (bn b0 _)).mono ?_; rintro e' W1 ⟨rfl, hb1⟩; have hbW1 : Below wr.heap.size wr W1 := bb (bn b0 _) hb1; have e4 := (World.cell?_of_block (hbW1.block b HLT.out.1)).trans c4; have e4' := (World.cell?_of_block (hbW1.block b' HLT.out.2.1)).trans c4')
                  have HBW1 := Lib.hid hbW1
                  go_wp2_with fail
                  go_roundg (f1.len - (k + 1))
                  case measure => omega
                  case rel => exact ⟨k + 1, L2, by omega, by go_num, HNN.out, g2, cap2, xs2, rfl, own_below HO2.out HBW1.out, HW2.out, HB2.out.trans (HBW1.out.mono HB2.out.size), HGB.out.1, HGB.out.2.1, HGB.out.2.2.below HBW1.out HGB.out.2.2.lt⟩
          · obtain rfl : k = f1.len := by omega
            have h1 : f1.drop f1.len = .nil := Fs.len_zero (by rw [Fs.drop_len]; omega)
            have h2 : g1.drop f1.len = .nil := Fs.len_zero (by rw [Fs.drop_len]; have := HLEN.out; omega)
            rw [h1, h2] at hn3
            have HE : Hid (lsame L2 = T ∧ 2 * psum L2 + L2.length < G) := by
              have := hn3.out
              simp only [Fs.icount, Fs.len, Fs.same, Bool.and_true] at this
              exact ⟨this.1, by omega⟩
            have HP : Hid (PkAt w I (.slice (some ⟨g2, 0, none⟩) L2.length cap2) L2 wr) := ⟨g2, cap2, xs2, rfl, hown2, hwl2, hbel2⟩
            clear hn3 hown2 hwl2 hbel2 h1 h2 hblk2
            go_wp2_with fail
            go_roundg (2 * psum L2 + L2.length)
            case measure => rw [← HG.out]; exact HE.out.2
            case rel => exact ⟨L2, ⟨HE.out.1, Nat.le_refl _, by have := HE.out.2; have := H0.out.2.2; omega⟩, HP.out⟩
      · obtain rfl : false = T := by rw [← H0.out.1, same_len hlen, Bool.and_false]
        have hli : ((f1.len : Int) != (g1.len : Int)) = true := by simp; omega
        clear hlen
        go_wp2_with fail
        go_ret
        exact ⟨rfl, HBEL.out.trans (HBO.out.mono HBEL.out.size)⟩
end Go.Proofs.YtgidfnhfgiehjaaGreatDoor
end

section
namespace Go.Proofs.YtgidfnhfgiehjaaGreatDoor
open Go.RowKit Go.PM
set_option maxRecDepth 100000
set_option maxHeartbeats 4000000
attribute [local go_sem ↓] Go.wp_at_zero Go.wp_at_succ
end Go.Proofs.YtgidfnhfgiehjaaGreatDoor
end
