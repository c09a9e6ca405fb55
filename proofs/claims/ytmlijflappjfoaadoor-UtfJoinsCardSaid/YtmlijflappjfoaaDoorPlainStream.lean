/-
  Plain laws of layers 2, 5 and 6 against the document's answer, and of streams; no program in sight.
-/
import Derived.Test.YtmlijflappjfoaaDoorPlainFrame
namespace Go.PM

/-! ### The number as the document has it: first its size, then its value -/
def rszL : Nat → List UInt8 → Nat
  | _, [] => 0
  | i, c :: r => if 10 ≤ i then 0 else if c.toNat < 128 then i + 1 else rszL (i + 1) r
def rsz (s : List UInt8) : Nat := rszL 0 s
def vacc (s : List UInt8) : Nat → Nat
  | 0 => 0
  | i + 1 => vacc s i + (s.getD i 0).toNat % 128 * 128 ^ i
def vref (s : List UInt8) : Nat × Nat × Nat :=
  if rsz s = 0 then (0, 0, if 10 ≤ s.length then 3 else 1)
  else if rsz s = 10 ∧ 1 < (s.getD 9 0).toNat then (0, 0, 3)
  else if 1 < rsz s ∧ (s.getD (rsz s - 1) 0).toNat = 0 then (0, 0, 2)
  else (vacc s (rsz s), rsz s, 0)

theorem vref_aux (s : List UInt8) : ∀ (r : List UInt8) (i : Nat), s.drop i = r → i ≤ 10 → i ≤ s.length → rsz s = rszL i r → vgetL i (vacc s i) r = vref s
  | [], i, hd, hi, hl, hr => by
    have hlen : s.length = i := by
      have := congrArg List.length hd
      simp at this; omega
    unfold vref
    rw [hr, rszL, if_pos rfl, vgetL, hlen]
    split <;> rfl
  | c :: r, i, hd, hi, hl, hr => by
    have hlt : i < s.length := by
      have := congrArg List.length hd
      simp at this; omega
    have hg : s.getD i 0 = c := by
      have h1 : (s.drop i)[0]? = some c := by rw [hd]; rfl
      rw [List.getElem?_drop] at h1
      simp only [Nat.add_zero] at h1
      simp [h1]
    have hd' : s.drop (i + 1) = r := by rw [← List.drop_drop, hd]; rfl
    rw [vgetL]
    rw [rszL] at hr
    by_cases h10 : 10 ≤ i
    · rw [if_pos h10] at hr ⊢
      unfold vref
      rw [hr, if_pos rfl, if_pos (by omega)]
    rw [if_neg h10] at hr ⊢
    by_cases h1 : 128 ≤ c.toNat
    · rw [if_pos h1]
      rw [if_neg (by omega)] at hr
      have := vref_aux s r (i + 1) hd' (by omega) (by omega) hr
      rw [vacc, hg] at this
      exact this
    · rw [if_neg h1]
      rw [if_pos (by omega)] at hr
      unfold vref
      rw [hr, if_neg (show ¬ i + 1 = 0 by omega), Nat.add_sub_cancel, hg]
      have e9 : (i + 1 = 10 ∧ 1 < (s.getD 9 0).toNat) ↔ (i = 9 ∧ 1 < c.toNat) := by
        constructor
        · rintro ⟨h, h'⟩; obtain rfl : i = 9 := by omega
          rw [hg] at h'; exact ⟨rfl, h'⟩
        · rintro ⟨rfl, h'⟩; rw [hg]; exact ⟨rfl, h'⟩
      have e2 : (1 < i + 1 ∧ c.toNat = 0) ↔ (0 < i ∧ c.toNat = 0) := by constructor <;> (rintro ⟨h, h'⟩; exact ⟨by omega, h'⟩)
      simp only [e9, e2]
      rw [vacc, hg, Nat.mod_eq_of_lt (by omega : c.toNat < 128)]
theorem vref_eq (s : List UInt8) : vref s = vget s := (vref_aux s s 0 rfl (by omega) (by omega) rfl).symm

/-! ### All numbers, all frames -/
theorem vget_ok {s : List UInt8} (h : (vget s).2.2 = 0) : 1 ≤ (vget s).2.1 ∧ (vget s).2.1 ≤ s.length ∧ (vget s).2.1 ≤ 10 ∧ (vget s).1 < 18446744073709551616 ∧ vput (vget s).1 = s.take (vget s).2.1 := by
  rcases vget_cases s with ⟨e, he, h3⟩ | ⟨n, k, hg, hn, hk, h10, hkl, hput, hsz⟩
  · rw [he] at h; simp at h; omega
  · rw [hg]; exact ⟨hk, hkl, h10, hn, hput⟩
theorem vget_err {s : List UInt8} (h : (vget s).2.2 ≠ 0) : vget s = (0, 0, (vget s).2.2) := by
  rcases vget_cases s with ⟨e, he, h3⟩ | ⟨n, k, hg, _⟩
  · rw [he]
  · rw [hg] at h; simp at h
theorem vget_code (s : List UInt8) : (vget s).2.2 ≤ 3 := by
  rcases vget_cases s with ⟨e, he, h3⟩ | ⟨n, k, hg, _⟩
  · rw [he]; simp; omega
  · rw [hg]; simp

def vall (s : List UInt8) : List Nat × Nat :=
  if s.length = 0 then ([], 0)
  else if _h : (vget s).2.2 = 0 then
    let x := vall (s.drop (vget s).2.1)
    if x.2 = 0 then ((vget s).1 :: x.1, 0) else ([], x.2)
  else ([], (vget s).2.2)
termination_by s.length
decreasing_by
  have := vget_ok _h
  simp; omega

theorem fparse_ok {s : List UInt8} (h : (fparse s).2.2 = 0) : 7 ≤ (fparse s).2.1 ∧ (fparse s).2.1 ≤ s.length ∧ (fparse s).1.length ≤ 65536 ∧ (fparse s).2.1 = fsize (fparse s).1.length ∧ s.take (fparse s).2.1 = ftext (fparse s).1 := by
  rcases fparse_cases s with ⟨e, he, h3⟩ | ⟨p, r, hs, hp, he⟩
  · rw [he] at h; simp at h; omega
  · rw [he]
    have := vsz_pos p.length
    refine ⟨by simp [fsize]; omega, ?_, hp, rfl, ?_⟩
    · rw [hs, List.length_append, ftext_length]; simp
    · rw [hs, ← ftext_length]; simp
theorem fparse_err {s : List UInt8} (h : (fparse s).2.2 ≠ 0) : fparse s = ([], 0, (fparse s).2.2) := by
  rcases fparse_cases s with ⟨e, he, h3⟩ | ⟨p, r, hs, hp, he⟩
  · rw [he]
  · rw [he] at h; simp at h
theorem fparse_code (s : List UInt8) : (fparse s).2.2 ≤ 6 := by
  unfold fparse
  split
  · have := fmark_cases s; simp; rcases this with ⟨h, _⟩ | ⟨h, _⟩ | h <;> omega
  · unfold fbody
    have := vget_code (s.drop 2)
    simp only
    split
    · simp; omega
    split
    · simp
    split
    · simp
    split <;> simp

def fall (s : List UInt8) : List (List UInt8) × Nat :=
  if s.length = 0 then ([], 0)
  else if _h : (fparse s).2.2 = 0 then
    let x := fall (s.drop (fparse s).2.1)
    if x.2 = 0 then ((fparse s).1 :: x.1, 0) else ([], x.2)
  else ([], (fparse s).2.2)
termination_by s.length
decreasing_by
  have := fparse_ok _h
  simp; omega

/-- Of all bytes of a stream: the payloads, the error, what waits. -/
def fof (s : List UInt8) : List (List UInt8) × Nat × List UInt8 :=
  if (fparse s).2.2 = 1 then ([], 0, s)
  else if _h : (fparse s).2.2 = 0 then
    let x := fof (s.drop (fparse s).2.1)
    ((fparse s).1 :: x.1, x.2)
  else ([], (fparse s).2.2, [])
termination_by s.length
decreasing_by
  have := fparse_ok _h
  simp; omega

theorem fof_short {s : List UInt8} (h : (fparse s).2.2 = 1) : fof s = ([], 0, s) := by rw [fof, if_pos h]
theorem fof_ok {s : List UInt8} (h : (fparse s).2.2 = 0) : fof s = ((fparse s).1 :: (fof (s.drop (fparse s).2.1)).1, (fof (s.drop (fparse s).2.1)).2) := by
  rw [fof, if_neg (by omega), dif_pos h]
theorem fof_bad {s : List UInt8} (h : (fparse s).2.2 ≠ 0) (h1 : (fparse s).2.2 ≠ 1) : fof s = ([], (fparse s).2.2, []) := by
  rw [fof, if_neg h1, dif_neg h]

theorem fof_ind {P : List UInt8 → Prop} (h1 : ∀ s, (fparse s).2.2 = 1 → P s) (h0 : ∀ s, (fparse s).2.2 = 0 → P (s.drop (fparse s).2.1) → P s)
    (hb : ∀ s, (fparse s).2.2 ≠ 0 → (fparse s).2.2 ≠ 1 → P s) : ∀ s, P s := by
  intro s
  induction hn : s.length using Nat.strongRecOn generalizing s with
  | _ n ih =>
    by_cases e1 : (fparse s).2.2 = 1
    · exact h1 s e1
    by_cases e0 : (fparse s).2.2 = 0
    · refine h0 s e0 (ih _ ?_ _ rfl)
      have := fparse_ok e0
      simp; omega
    · exact hb s e0 e1

/-- What waits is short, or nothing behind an error. -/
theorem fof_rest : ∀ s, (fof s).2.1 = 0 ∧ (fparse (fof s).2.2).2.2 = 1 ∨ (fof s).2.1 ≠ 0 ∧ (fof s).2.1 ≠ 1 ∧ (fof s).2.2 = [] := by
  refine fof_ind ?_ ?_ ?_
  · intro s h; rw [fof_short h]; exact .inl ⟨rfl, h⟩
  · intro s h ih; rw [fof_ok h]; exact ih
  · intro s h h1; rw [fof_bad h h1]; exact .inr ⟨h, h1, rfl⟩
/-- However a stream is cut. -/
theorem fof_append (t : List UInt8) : ∀ s, fof (s ++ t) =
    if (fof s).2.1 = 0 then ((fof s).1 ++ (fof ((fof s).2.2 ++ t)).1, (fof ((fof s).2.2 ++ t)).2) else fof s := by
  refine fof_ind ?_ ?_ ?_
  · intro s h; rw [fof_short h]; simp
  · intro s h ih
    have hm := fparse_more s t (by omega)
    have hk := fparse_ok h
    have e : fof (s ++ t) = ((fparse s).1 :: (fof (s.drop (fparse s).2.1 ++ t)).1, (fof (s.drop (fparse s).2.1 ++ t)).2) := by
      rw [fof_ok (by rw [hm]; exact h), hm, List.drop_append_of_le_length hk.2.1]
    rw [e, fof_ok h, ih]
    split <;> rfl
  · intro s h h1
    have hm := fparse_more s t h1
    rw [fof_bad (by rw [hm]; exact h) (by rw [hm]; exact h1), hm, fof_bad h h1]
    rw [if_neg h]

/-! ### How many bytes are wanted -/
def fneed (s : List UInt8) : Nat := if s.length < 2 then 0 else if (vget (s.drop 2)).2.2 = 0 then fsize (vget (s.drop 2)).1 else 0
theorem fneed_ok (s b : List UInt8) (h : (fparse s).2.2 = 1) (hl : (s ++ b).length < fneed s) : (fparse (s ++ b)).2.2 = 1 := by
  unfold fneed at hl
  split at hl
  · simp at hl
  split at hl
  · rename_i h2 h3
    match s, h2 with
    | x :: y :: r, _ =>
      have e2 : ∀ (k : Nat) (z : List UInt8), (x :: y :: z).drop (2 + k) = z.drop k := fun k z => by rw [Nat.add_comm]; rfl
      simp only [List.drop_succ_cons, List.drop_zero] at hl h3
      have hm : fmark (x :: y :: r ++ b) = fmark (x :: y :: r) := by simp [fmark]
      unfold fparse at h ⊢
      rw [hm]
      by_cases hmk : fmark (x :: y :: r) ≠ 0
      · rw [if_pos hmk] at h ⊢; exact h
      · rw [if_neg hmk] at h ⊢
        unfold fbody at h ⊢
        simp only [List.cons_append, List.drop_succ_cons, List.drop_zero, e2] at h ⊢
        have hv := vget_more r b (by omega)
        rw [hv]
        rw [if_neg (by omega)] at h ⊢
        by_cases h4 : 65536 < (vget r).1
        · rw [if_pos h4] at h; simp at h
        · rw [if_neg h4] at h ⊢
          rcases vget_cases r with ⟨e, he, h5⟩ | ⟨n, k, hg, hn, hk, h10, hkl, hput, hsz⟩
          · rw [he] at h3; simp at h3; omega
          · rw [hg] at h hl ⊢
            rw [if_pos]
            unfold fsize at hl
            simp only [List.length_drop, List.length_append, List.length_cons] at hl ⊢
            omega
  · simp at hl
end Go.PM
