/-
  Plain laws of layers 5 and 6 (frames; frames out of a stream), on lists of bytes; no program in sight.
-/
import Derived.Test.YtmlijflappjfoaaDoorPlainVarint
import Derived.Test.YtmlijflappjfoaaDoorPlainCrc
namespace Go.PM

/-- The frame of a payload. -/
def ftext (p : List UInt8) : List UInt8 := [81, 70] ++ vput p.length ++ p ++ cput (csum p)
/-- How many bytes a frame of n has. -/
def fsize (n : Nat) : Nat := 2 + vsz n + n + 4
theorem ftext_length (p : List UInt8) : (ftext p).length = fsize p.length := by
  simp [ftext, fsize, vput_length, cput]; omega

/-- The mark: the code. -/
def fmark (s : List UInt8) : Nat :=
  if s.length = 0 then 1 else if s.getD 0 0 ≠ 81 then 5 else if s.length = 1 then 1 else if s.getD 1 0 ≠ 70 then 5 else 0
/-- What follows the mark. -/
def fbody (s : List UInt8) : List UInt8 × Nat × Nat :=
  let g := vget (s.drop 2)
  if g.2.2 ≠ 0 then ([], 0, g.2.2)
  else if 65536 < g.1 then ([], 0, 4)
  else if (s.drop (2 + g.2.1)).length < g.1 + 4 then ([], 0, 1)
  else if cget (((s.drop (2 + g.2.1)).drop g.1).take 4) ≠ csum ((s.drop (2 + g.2.1)).take g.1) then ([], 0, 6)
  else ((s.drop (2 + g.2.1)).take g.1, fsize g.1, 0)
/-- The frame that a text begins with. -/
def fparse (s : List UInt8) : List UInt8 × Nat × Nat := if fmark s ≠ 0 then ([], 0, fmark s) else fbody s

theorem fmark_cases (s : List UInt8) : fmark s = 0 ∧ (∃ r, s = 81 :: 70 :: r) ∨ fmark s = 1 ∧ s.length ≤ 1 ∨ fmark s = 5 := by
  unfold fmark
  match s with
  | [] => simp
  | [a] => by_cases h : a = 81 <;> simp [h]
  | a :: b :: r => by_cases h : a = 81 <;> by_cases h2 : b = 70 <;> simp [h, h2]

/-- What a reading is. -/
theorem fparse_cases (s : List UInt8) : (∃ e, fparse s = ([], 0, e) ∧ e ≠ 0) ∨
    ∃ p r, s = ftext p ++ r ∧ p.length ≤ 65536 ∧ fparse s = (p, fsize p.length, 0) := by
  unfold fparse
  rcases fmark_cases s with ⟨h, r, rfl⟩ | ⟨h, _⟩ | h
  · rw [if_neg (by simp [h])]
    unfold fbody
    simp only [List.drop_succ_cons, List.drop_zero]
    rcases vget_cases r with ⟨e, he, h3⟩ | ⟨n, k, hg, hn, hk, _, hkl, hput, hsz⟩
    · left; refine ⟨e, ?_, by omega⟩
      rw [he]; simp; omega
    · rw [hg]
      simp only [ne_eq, not_true_eq_false, if_false]
      have hd : (81 :: 70 :: r).drop (2 + k) = r.drop k := by rw [Nat.add_comm]; rfl
      rw [hd]
      split
      · exact .inl ⟨4, rfl, by omega⟩
      split
      · exact .inl ⟨1, rfl, by omega⟩
      split
      · exact .inl ⟨6, rfl, by omega⟩
      · rename_i h1 h2 h3
        right
        have hlen : ((r.drop k).take n).length = n := by rw [List.length_take]; omega
        refine ⟨(r.drop k).take n, (r.drop k).drop (n + 4), ?_, by omega, by rw [hlen]⟩
        have h4 : (((r.drop k).drop n).take 4).length = 4 := by simp at h2 ⊢; omega
        have h3 : cget (((r.drop k).drop n).take 4) = csum ((r.drop k).take n) := Classical.not_not.1 h3
        unfold ftext
        rw [hlen, hput, ← h3, cget_put _ h4]
        simp only [List.append_assoc, List.cons_append, List.nil_append]
        congr 2
        have e1 : (r.drop k).drop (n + 4) = ((r.drop k).drop n).drop 4 := by rw [List.drop_drop, List.drop_drop, List.drop_drop]
        rw [e1, List.take_append_drop, List.take_append_drop, List.take_append_drop]
  · rw [if_pos (by omega), h]; exact .inl ⟨1, rfl, by omega⟩
  · rw [if_pos (by omega), h]; exact .inl ⟨5, rfl, by omega⟩

theorem fparse_text (p r : List UInt8) (h : p.length ≤ 65536) : fparse (ftext p ++ r) = (p, fsize p.length, 0) := by
  have e : ftext p ++ r = 81 :: 70 :: (vput p.length ++ (p ++ (cput (csum p) ++ r))) := by simp [ftext]
  unfold fparse
  have hm : fmark (ftext p ++ r) = 0 := by rw [e]; simp [fmark]
  rw [if_neg (by simp [hm])]
  unfold fbody
  have hg : vget ((ftext p ++ r).drop 2) = (p.length, vsz p.length, 0) := by
    rw [e]; exact vget_put _ (by omega) _
  rw [hg]
  simp only [ne_eq, not_true_eq_false, if_false]
  have hd : (ftext p ++ r).drop (2 + vsz p.length) = p ++ (cput (csum p) ++ r) := by
    rw [e, Nat.add_comm]
    show (vput p.length ++ (p ++ (cput (csum p) ++ r))).drop (vsz p.length) = _
    rw [← vput_length, List.drop_left]
  rw [hd, if_neg (by omega), if_neg (by simp [cput]), List.drop_left, List.take_left]
  have : (cput (csum p) ++ r).take 4 = cput (csum p) := by
    have : (cput (csum p)).length = 4 := rfl
    rw [← this, List.take_left]
  rw [this, cput_get _ (csum_lt p), if_neg (by simp)]

/-- Cut anywhere it is too short. -/
theorem fparse_cut (p : List UInt8) (h : p.length ≤ 65536) (j : Nat) (hj : j < fsize p.length) : fparse ((ftext p).take j) = ([], 0, 1) := by
  have e : ftext p = 81 :: 70 :: (vput p.length ++ (p ++ cput (csum p))) := by simp [ftext]
  unfold fparse
  match j with
  | 0 => simp [fmark]
  | 1 => rw [e]; simp [fmark]
  | j + 2 =>
    have e2 : (ftext p).take (j + 2) = 81 :: 70 :: (vput p.length ++ (p ++ cput (csum p))).take j := by rw [e]; rfl
    rw [e2, if_neg (by simp [fmark])]
    unfold fbody
    simp only [List.drop_succ_cons, List.drop_zero]
    unfold fsize at hj
    by_cases hv : j < vsz p.length
    · rw [List.take_append_of_le_length (by rw [vput_length]; omega), vget_cut _ (by omega) _ hv]
      simp
    · have : (vput p.length ++ (p ++ cput (csum p))).take j = vput p.length ++ (p ++ cput (csum p)).take (j - vsz p.length) := by
        rw [List.take_append, vput_length, List.take_of_length_le (by rw [vput_length]; omega)]
      rw [this, vget_put _ (by omega)]
      simp only [ne_eq, not_true_eq_false, if_false]
      rw [if_neg (by omega), if_pos]
      rw [Nat.add_comm 2]
      show ((vput p.length ++ _).drop (vsz p.length)).length < _
      rw [← vput_length, List.drop_left, List.length_take]
      simp [cput]; rw [vput_length]; omega

theorem vgetL_more (t : List UInt8) : ∀ (s : List UInt8) (i acc : Nat), (vgetL i acc s).2.2 ≠ 1 → vgetL i acc (s ++ t) = vgetL i acc s
  | [], i, acc, h => by
    by_cases h0 : 10 ≤ i
    · cases t with
      | nil => rfl
      | cons c t => simp [vgetL, h0]
    · simp [vgetL, h0] at h
  | c :: r, i, acc, h => by
    rw [List.cons_append]
    simp only [vgetL] at h ⊢
    by_cases h0 : 10 ≤ i
    · simp [h0]
    · simp only [h0, if_false] at h ⊢
      by_cases h1 : 128 ≤ c.toNat
      · simp only [h1, if_true] at h ⊢
        exact vgetL_more t r _ _ h
      · simp only [h1, if_false]
theorem vget_more (s t : List UInt8) (h : (vget s).2.2 ≠ 1) : vget (s ++ t) = vget s := vgetL_more t s 0 0 h

theorem fbody_more (a b : UInt8) (r t : List UInt8) (h : (fbody (a :: b :: r)).2.2 ≠ 1) : fbody (a :: b :: (r ++ t)) = fbody (a :: b :: r) := by
  have e2 : ∀ (k : Nat) (x : List UInt8), (a :: b :: x).drop (2 + k) = x.drop k := fun k x => by rw [Nat.add_comm]; rfl
  unfold fbody at h ⊢
  simp only [List.drop_succ_cons, List.drop_zero, e2] at h ⊢
  have hv : (vget r).2.2 ≠ 1 := by
    intro hv
    rw [hv] at h
    simp at h
  rw [vget_more r t hv]
  rcases vget_cases r with ⟨e', he', h3⟩ | ⟨n, k, hg, hn, hk, _, hkl, hput, hsz⟩
  · rw [he']
    have : e' ≠ 0 := by omega
    simp only [this, ne_eq, not_false_eq_true, if_true]
  · rw [hg] at h ⊢
    simp only [ne_eq, not_true_eq_false, if_false] at h ⊢
    by_cases h4 : 65536 < n
    · rw [if_pos h4, if_pos h4]
    · rw [if_neg h4] at h ⊢
      rw [if_neg h4]
      by_cases h5 : (r.drop k).length < n + 4
      · rw [if_pos h5] at h; simp at h
      · rw [if_neg h5, List.drop_append_of_le_length hkl, if_neg (by rw [List.length_append]; omega)]
        rw [List.take_append_of_le_length (by omega), List.drop_append_of_le_length (by omega), List.take_append_of_le_length (by simp at h5 ⊢; omega)]

/-- Neither a frame nor an error other than 'too short' is turned by what comes behind. -/
theorem fparse_more (s t : List UInt8) (h : (fparse s).2.2 ≠ 1) : fparse (s ++ t) = fparse s := by
  unfold fparse at h ⊢
  match s with
  | [] => simp [fmark] at h
  | [a] =>
    by_cases ha : a = 81
    · simp [fmark, ha] at h
    · simp [fmark, ha]
  | a :: b :: r =>
    have hm : fmark (a :: b :: r ++ t) = fmark (a :: b :: r) := by simp [fmark]
    rw [hm]
    by_cases h1 : fmark (a :: b :: r) ≠ 0
    · rw [if_pos h1, if_pos h1]
    · rw [if_neg h1] at h ⊢
      rw [if_neg h1]
      exact fbody_more a b r t h

/-- Turned within payload and sum, at bits within 32 in a row, it has another sum. -/
theorem fparse_turn (p r : List UInt8) (hp : p.length ≤ 65536) (first pattern i : Nat) (hi : i ≤ 32) (hf : first ≤ 8 * (p.length + 4)) (hpat : pattern < 4294967296) :
    fparse ([81, 70] ++ vput p.length ++ cturn (p ++ cput (csum p)) first pattern i ++ r) =
      if cturned (8 * (p.length + 4)) first pattern i then ([], 0, 6) else (p, fsize p.length, 0) := by
  have hl : (cturn (p ++ cput (csum p)) first pattern i).length = p.length + 4 := by rw [cturn_length]; simp [cput]
  generalize hq : cturn (p ++ cput (csum p)) first pattern i = q at hl
  have hb := burst p first pattern i hi hf hpat q hq.symm
  have e : [81, 70] ++ vput p.length ++ q ++ r = 81 :: 70 :: (vput p.length ++ (q ++ r)) := by simp
  rw [e]
  unfold fparse
  rw [if_neg (by simp [fmark])]
  have e2 : ∀ (k : Nat) (x : List UInt8), (81 :: 70 :: x).drop (2 + k) = x.drop k := fun k x => by rw [Nat.add_comm]; rfl
  unfold fbody
  simp only [List.drop_succ_cons, List.drop_zero, e2]
  rw [vget_put _ (by omega)]
  simp only [ne_eq, not_true_eq_false, if_false]
  have hd : (vput p.length ++ (q ++ r)).drop (vsz p.length) = q ++ r := by rw [← vput_length, List.drop_left]
  rw [hd, if_neg (by omega), if_neg (by rw [List.length_append]; omega)]
  rw [List.take_append_of_le_length (by omega), List.drop_append_of_le_length (by omega), List.take_append_of_le_length (by rw [List.length_drop]; omega), List.take_of_length_le (l := q.drop p.length) (by rw [List.length_drop]; omega)]
  cases hc : cturned (8 * (p.length + 4)) first pattern i
  · rw [hc] at hb
    have hz : q = p ++ cput (csum p) := by
      rw [← hq]
      clear hb hq hl hd e
      have : ∀ j, j ≤ i → cturned (8 * (p.length + 4)) first pattern j = false := by
        intro j hj
        have := (cturned_iff (8 * (p.length + 4)) first pattern i).1 hc
        rw [cturned_iff]
        have hd : 2 ^ cend (8 * (p.length + 4)) first j ∣ 2 ^ cend (8 * (p.length + 4)) first i := Nat.pow_dvd_pow 2 (by unfold cend; omega)
        rw [← Nat.mod_mod_of_dvd _ hd, this, Nat.zero_mod]
      clear hc hi
      induction i with
      | zero => rfl
      | succ i ih =>
        have h1 := this (i + 1) (by omega)
        rw [cturned] at h1
        rw [cturn, if_neg, ih (fun j hj => this j (by omega))]
        intro h2
        have : (p ++ cput (csum p)).length = p.length + 4 := by simp [cput]
        rw [this] at h2
        rw [if_pos h2] at h1
        cases h1
    rw [if_neg (by rw [hb.2 rfl]; simp)]
    rw [hz, List.take_left]
    rfl
  · rw [if_pos (by intro h; have := hb.1 h; rw [hc] at this; cases this)]
    rfl
end Go.PM
