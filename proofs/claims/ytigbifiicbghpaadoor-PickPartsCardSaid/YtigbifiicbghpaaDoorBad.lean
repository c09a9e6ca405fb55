/-
  Texts of the proof, joined: PlainStream PlainFs FCount FDepth CloneF CloneG FApp. Conditions: as each names.
-/
import Derived.Test.YtigbifiicbghpaaDoorBac
import Derived.Test.YtigbifiicbghpaaDoorBaa
import Derived.Deep.LoopGhost
import Derived.Deep.DeepAppendWide
import Derived.Deep.AppendSrc

section
/-
  Plain laws of layers 2, 5 and 6 against the document's answer, and of streams; no program in sight.
-/
namespace Go.PM

/-! ### The number as the document has it: first its size, then its value -/
def rszL : Nat → List UInt8 → Nat
  | _, [] => 0
  | i, c :: r => if 10 ≤ i then 0 else if c.toNat < 128 then i + 1 else rszL (i + 1) r
def rsz (s : List UInt8) : Nat := rszL 0 s
def vacc (s : List UInt8) : Nat → Nat
  | 0 => 0
  | i + 1 => vacc s i + (s.getD i 0).toNat % 128 * 128 ^ i
def vref (s : List UInt8) : Nat × Nat × Nat :=
  if rsz s = 0 then (0, 0, if 10 ≤ s.length then 3 else 1)
  else if rsz s = 10 ∧ 1 < (s.getD 9 0).toNat then (0, 0, 3)
  else if 1 < rsz s ∧ (s.getD (rsz s - 1) 0).toNat = 0 then (0, 0, 2)
  else (vacc s (rsz s), rsz s, 0)

theorem vref_aux (s : List UInt8) : ∀ (r : List UInt8) (i : Nat), s.drop i = r → i ≤ 10 → i ≤ s.length → rsz s = rszL i r → vgetL i (vacc s i) r = vref s
  | [], i, hd, hi, hl, hr => by
    have hlen : s.length = i := by
      have := congrArg List.length hd
      simp at this; omega
    unfold vref
    rw [hr, rszL, if_pos rfl, vgetL, hlen]
    split <;> rfl
  | c :: r, i, hd, hi, hl, hr => by
    have hlt : i < s.length := by
      have := congrArg List.length hd
      simp at this; omega
    have hg : s.getD i 0 = c := by
      have h1 : (s.drop i)[0]? = some c := by rw [hd]; rfl
      rw [List.getElem?_drop] at h1
      simp only [Nat.add_zero] at h1
      simp [h1]
    have hd' : s.drop (i + 1) = r := by rw [← List.drop_drop, hd]; rfl
    rw [vgetL]
    rw [rszL] at hr
    by_cases h10 : 10 ≤ i
    · rw [if_pos h10] at hr ⊢
      unfold vref
      rw [hr, if_pos rfl, if_pos (by omega)]
    rw [if_neg h10] at hr ⊢
    by_cases h1 : 128 ≤ c.toNat
    · rw [if_pos h1]
      rw [if_neg (by omega)] at hr
      have := vref_aux s r (i + 1) hd' (by omega) (by omega) hr
      rw [vacc, hg] at this
      exact this
    · rw [if_neg h1]
      rw [if_pos (by omega)] at hr
      unfold vref
      rw [hr, if_neg (show ¬ i + 1 = 0 by omega), Nat.add_sub_cancel, hg]
      have e9 : (i + 1 = 10 ∧ 1 < (s.getD 9 0).toNat) ↔ (i = 9 ∧ 1 < c.toNat) := by
        constructor
        · rintro ⟨h, h'⟩; obtain rfl : i = 9 := by omega
          rw [hg] at h'; exact ⟨rfl, h'⟩
        · rintro ⟨rfl, h'⟩; rw [hg]; exact ⟨rfl, h'⟩
      have e2 : (1 < i + 1 ∧ c.toNat = 0) ↔ (0 < i ∧ c.toNat = 0) := by constructor <;> (rintro ⟨h, h'⟩; exact ⟨by omega, h'⟩)
      simp only [e9, e2]
      rw [vacc, hg, Nat.mod_eq_of_lt (by omega : c.toNat < 128)]
theorem vref_eq (s : List UInt8) : vref s = vget s := (vref_aux s s 0 rfl (by omega) (by omega) rfl).symm

/-! ### All numbers, all frames -/
theorem vget_ok {s : List UInt8} (h : (vget s).2.2 = 0) : 1 ≤ (vget s).2.1 ∧ (vget s).2.1 ≤ s.length ∧ (vget s).2.1 ≤ 10 ∧ (vget s).1 < 18446744073709551616 ∧ vput (vget s).1 = s.take (vget s).2.1 := by
  rcases vget_cases s with ⟨e, he, h3⟩ | ⟨n, k, hg, hn, hk, h10, hkl, hput, hsz⟩
  · rw [he] at h; simp at h; omega
  · rw [hg]; exact ⟨hk, hkl, h10, hn, hput⟩
theorem vget_err {s : List UInt8} (h : (vget s).2.2 ≠ 0) : vget s = (0, 0, (vget s).2.2) := by
  rcases vget_cases s with ⟨e, he, h3⟩ | ⟨n, k, hg, _⟩
  · rw [he]
  · rw [hg] at h; simp at h
theorem vget_code (s : List UInt8) : (vget s).2.2 ≤ 3 := by
  rcases vget_cases s with ⟨e, he, h3⟩ | ⟨n, k, hg, _⟩
  · rw [he]; simp; omega
  · rw [hg]; simp

def vall (s : List UInt8) : List Nat × Nat :=
  if s.length = 0 then ([], 0)
  else if _h : (vget s).2.2 = 0 then
    let x := vall (s.drop (vget s).2.1)
    if x.2 = 0 then ((vget s).1 :: x.1, 0) else ([], x.2)
  else ([], (vget s).2.2)
termination_by s.length
decreasing_by
  have := vget_ok _h
  simp; omega

theorem fparse_ok {s : List UInt8} (h : (fparse s).2.2 = 0) : 7 ≤ (fparse s).2.1 ∧ (fparse s).2.1 ≤ s.length ∧ (fparse s).1.length ≤ 65536 ∧ (fparse s).2.1 = fsize (fparse s).1.length ∧ s.take (fparse s).2.1 = ftext (fparse s).1 := by
  rcases fparse_cases s with ⟨e, he, h3⟩ | ⟨p, r, hs, hp, he⟩
  · rw [he] at h; simp at h; omega
  · rw [he]
    have := vsz_pos p.length
    refine ⟨by simp [fsize]; omega, ?_, hp, rfl, ?_⟩
    · rw [hs, List.length_append, ftext_length]; simp
    · rw [hs, ← ftext_length]; simp
theorem fparse_err {s : List UInt8} (h : (fparse s).2.2 ≠ 0) : fparse s = ([], 0, (fparse s).2.2) := by
  rcases fparse_cases s with ⟨e, he, h3⟩ | ⟨p, r, hs, hp, he⟩
  · rw [he]
  · rw [he] at h; simp at h
theorem fparse_code (s : List UInt8) : (fparse s).2.2 ≤ 6 := by
  unfold fparse
  split
  · have := fmark_cases s; simp; rcases this with ⟨h, _⟩ | ⟨h, _⟩ | h <;> omega
  · unfold fbody
    have := vget_code (s.drop 2)
    simp only
    split
    · simp; omega
    split
    · simp
    split
    · simp
    split <;> simp

def fall (s : List UInt8) : List (List UInt8) × Nat :=
  if s.length = 0 then ([], 0)
  else if _h : (fparse s).2.2 = 0 then
    let x := fall (s.drop (fparse s).2.1)
    if x.2 = 0 then ((fparse s).1 :: x.1, 0) else ([], x.2)
  else ([], (fparse s).2.2)
termination_by s.length
decreasing_by
  have := fparse_ok _h
  simp; omega

/-- Of all bytes of a stream: the payloads, the error, what waits. -/
def fof (s : List UInt8) : List (List UInt8) × Nat × List UInt8 :=
  if (fparse s).2.2 = 1 then ([], 0, s)
  else if _h : (fparse s).2.2 = 0 then
    let x := fof (s.drop (fparse s).2.1)
    ((fparse s).1 :: x.1, x.2)
  else ([], (fparse s).2.2, [])
termination_by s.length
decreasing_by
  have := fparse_ok _h
  simp; omega

theorem fof_short {s : List UInt8} (h : (fparse s).2.2 = 1) : fof s = ([], 0, s) := by rw [fof, if_pos h]
theorem fof_ok {s : List UInt8} (h : (fparse s).2.2 = 0) : fof s = ((fparse s).1 :: (fof (s.drop (fparse s).2.1)).1, (fof (s.drop (fparse s).2.1)).2) := by
  rw [fof, if_neg (by omega), dif_pos h]
theorem fof_bad {s : List UInt8} (h : (fparse s).2.2 ≠ 0) (h1 : (fparse s).2.2 ≠ 1) : fof s = ([], (fparse s).2.2, []) := by
  rw [fof, if_neg h1, dif_neg h]

theorem fof_ind {P : List UInt8 → Prop} (h1 : ∀ s, (fparse s).2.2 = 1 → P s) (h0 : ∀ s, (fparse s).2.2 = 0 → P (s.drop (fparse s).2.1) → P s)
    (hb : ∀ s, (fparse s).2.2 ≠ 0 → (fparse s).2.2 ≠ 1 → P s) : ∀ s, P s := by
  intro s
  induction hn : s.length using Nat.strongRecOn generalizing s with
  | _ n ih =>
    by_cases e1 : (fparse s).2.2 = 1
    · exact h1 s e1
    by_cases e0 : (fparse s).2.2 = 0
    · refine h0 s e0 (ih _ ?_ _ rfl)
      have := fparse_ok e0
      simp; omega
    · exact hb s e0 e1

/-- What waits is short, or nothing behind an error. -/
theorem fof_rest : ∀ s, (fof s).2.1 = 0 ∧ (fparse (fof s).2.2).2.2 = 1 ∨ (fof s).2.1 ≠ 0 ∧ (fof s).2.1 ≠ 1 ∧ (fof s).2.2 = [] := by
  refine fof_ind ?_ ?_ ?_
  · intro s h; rw [fof_short h]; exact .inl ⟨rfl, h⟩
  · intro s h ih; rw [fof_ok h]; exact ih
  · intro s h h1; rw [fof_bad h h1]; exact .inr ⟨h, h1, rfl⟩
/-- However a stream is cut. -/
theorem fof_append (t : List UInt8) : ∀ s, fof (s ++ t) =
    if (fof s).2.1 = 0 then ((fof s).1 ++ (fof ((fof s).2.2 ++ t)).1, (fof ((fof s).2.2 ++ t)).2) else fof s := by
  refine fof_ind ?_ ?_ ?_
  · intro s h; rw [fof_short h]; simp
  · intro s h ih
    have hm := fparse_more s t (by omega)
    have hk := fparse_ok h
    have e : fof (s ++ t) = ((fparse s).1 :: (fof (s.drop (fparse s).2.1 ++ t)).1, (fof (s.drop (fparse s).2.1 ++ t)).2) := by
      rw [fof_ok (by rw [hm]; exact h), hm, List.drop_append_of_le_length hk.2.1]
    rw [e, fof_ok h, ih]
    split <;> rfl
  · intro s h h1
    have hm := fparse_more s t h1
    rw [fof_bad (by rw [hm]; exact h) (by rw [hm]; exact h1), hm, fof_bad h h1]
    rw [if_neg h]

/-! ### How many bytes are wanted -/
def fneed (s : List UInt8) : Nat := if s.length < 2 then 0 else if (vget (s.drop 2)).2.2 = 0 then fsize (vget (s.drop 2)).1 else 0
theorem fneed_ok (s b : List UInt8) (h : (fparse s).2.2 = 1) (hl : (s ++ b).length < fneed s) : (fparse (s ++ b)).2.2 = 1 := by
  unfold fneed at hl
  split at hl
  · simp at hl
  split at hl
  · rename_i h2 h3
    match s, h2 with
    | x :: y :: r, _ =>
      have e2 : ∀ (k : Nat) (z : List UInt8), (x :: y :: z).drop (2 + k) = z.drop k := fun k z => by rw [Nat.add_comm]; rfl
      simp only [List.drop_succ_cons, List.drop_zero] at hl h3
      have hm : fmark (x :: y :: r ++ b) = fmark (x :: y :: r) := by simp [fmark]
      unfold fparse at h ⊢
      rw [hm]
      by_cases hmk : fmark (x :: y :: r) ≠ 0
      · rw [if_pos hmk] at h ⊢; exact h
      · rw [if_neg hmk] at h ⊢
        unfold fbody at h ⊢
        simp only [List.cons_append, List.drop_succ_cons, List.drop_zero, e2] at h ⊢
        have hv := vget_more r b (by omega)
        rw [hv]
        rw [if_neg (by omega)] at h ⊢
        by_cases h4 : 65536 < (vget r).1
        · rw [if_pos h4] at h; simp at h
        · rw [if_neg h4] at h ⊢
          rcases vget_cases r with ⟨e, he, h5⟩ | ⟨n, k, hg, hn, hk, h10, hkl, hput, hsz⟩
          · rw [he] at h3; simp at h3; omega
          · rw [hg] at h hl ⊢
            rw [if_pos]
            unfold fsize at hl
            simp only [List.length_drop, List.length_append, List.length_cons] at hl ⊢
            omega
  · simp at hl
end Go.PM
end

section
/-
  Plain laws of fields: how deep they stand, whether two lists are one, their writing, what a text reads as. No program in sight.
-/
namespace Go.PM
def lsum : List Fs → Nat
  | [] => 0
  | f :: L => f.count + lsum L
theorem lsum_app : ∀ (L M : List Fs), lsum (L ++ M) = lsum L + lsum M
  | [], M => by simp [lsum]
  | f :: L, M => by simp only [List.cons_append, lsum, lsum_app L M]; omega
/-- The fields that stand in these fields. -/
def Fs.icount : Fs → Nat
  | .nil => 0
  | .cons _ _ _ _ i r => i.count + r.icount
theorem Fs.count_in : ∀ f : Fs, f.count = f.len + f.icount
  | .nil => rfl
  | .cons _ _ _ _ i r => by simp only [Fs.count, Fs.len, Fs.icount, Fs.count_in r]; omega
/-! ### Depth -/
def Fs.depth : Fs → Nat
  | .nil => 0
  | .cons _ y _ _ i r => if y = 2 ∨ 0 < i.len then max (1 + i.depth) r.depth else r.depth
def ldepth : List Fs → Nat
  | [] => 0
  | f :: L => max f.depth (ldepth L)
/-- The lists that stand in fields, but for empty ones. -/
def Fs.ins : Fs → List Fs
  | .nil => []
  | .cons _ _ _ _ i r => if 0 < i.len then i :: r.ins else r.ins
/-- Does a list stand in these? -/
def Fs.more : Fs → Bool
  | .nil => false
  | .cons _ y _ _ i r => decide (y = 2 ∨ 0 < i.len) || r.more
def lins : List Fs → List Fs
  | [] => []
  | f :: L => f.ins ++ lins L
def lmore : List Fs → Bool
  | [] => false
  | f :: L => f.more || lmore L
theorem len_pos_or (i : Fs) : 0 < i.len ∨ i = .nil := by
  cases i with
  | nil => exact .inr rfl
  | cons => left; simp [Fs.len]
theorem ldepth_app : ∀ (L M : List Fs), ldepth (L ++ M) = max (ldepth L) (ldepth M)
  | [], M => by simp [ldepth]
  | f :: L, M => by simp only [List.cons_append, ldepth, ldepth_app L M]; omega
theorem ins_no : ∀ g : Fs, g.more = false → g.ins = [] := by
  intro g
  induction g with
  | nil => intro _; rfl
  | cons a b c d e f ih1 ih2 =>
    intro h
    simp only [Fs.more, Bool.or_eq_false_iff, decide_eq_false_iff_not, not_or] at h
    simp only [Fs.ins, if_neg h.1.2]
    exact ih2 h.2
theorem depth_more : ∀ f : Fs, f.depth = if f.more = true then 1 + ldepth f.ins else 0
  | .nil => by simp [Fs.depth, Fs.more]
  | .cons t y n s i r => by
    have hr := depth_more r
    simp only [Fs.depth, Fs.more, Fs.ins]
    have h0 : r.more = false → ldepth r.ins = 0 := fun h => by rw [ins_no r h]; rfl
    rcases len_pos_or i with hi | rfl
    · simp only [hi, or_true, if_true, decide_true, Bool.true_or]
      simp only [ldepth]
      cases hm : r.more with
      | true => rw [hm, if_pos rfl] at hr; omega
      | false => rw [hm, if_neg (by simp)] at hr; rw [h0 hm, hr]; omega
    · simp only [Fs.len, Nat.lt_irrefl, or_false, if_false]
      by_cases hy : y = 2
      · simp only [hy, if_true, decide_true, Bool.true_or]
        simp only [Fs.depth]
        cases hm : r.more with
        | true => rw [hm, if_pos rfl] at hr; omega
        | false => rw [hm, if_neg (by simp)] at hr; rw [h0 hm, hr]; omega
      · simp only [hy, if_false, decide_false, Bool.false_or]
        exact hr
theorem lins_no : ∀ M : List Fs, lmore M = false → lins M = []
  | [], _ => rfl
  | f :: M, h => by
    simp only [lmore, Bool.or_eq_false_iff] at h
    rw [lins, ins_no f h.1, lins_no M h.2]; rfl
theorem ldepth_step : ∀ L : List Fs, ldepth L = if lmore L = true then 1 + ldepth (lins L) else 0
  | [] => by simp [ldepth, lmore]
  | f :: L => by
    have h1 := depth_more f
    have h2 := ldepth_step L
    simp only [ldepth, lmore, lins, ldepth_app]
    cases ha : f.more with
    | false =>
      rw [ha, if_neg (by simp)] at h1
      rw [h1, ins_no f ha, Bool.false_or, ldepth]
      rw [h2]; split <;> omega
    | true =>
      rw [ha, if_pos rfl] at h1
      rw [Bool.true_or, if_pos rfl, h1, h2]
      cases hb : lmore L with
      | true => rw [if_pos rfl]; omega
      | false => rw [if_neg (by simp), lins_no L hb, ldepth]; omega
theorem ins_sum : ∀ f : Fs, lsum f.ins = f.icount
  | .nil => rfl
  | .cons t y n s i r => by
    simp only [Fs.ins, Fs.icount]
    rcases len_pos_or i with hi | rfl
    · rw [if_pos hi, lsum, ins_sum r]
    · simp [Fs.len, Fs.count, ins_sum r]
theorem lins_app : ∀ (L M : List Fs), lins (L ++ M) = lins L ++ lins M
  | [], M => rfl
  | f :: L, M => by simp only [List.cons_append, lins, lins_app L M, List.append_assoc]
theorem lmore_app : ∀ (L M : List Fs), lmore (L ++ M) = (lmore L || lmore M)
  | [], M => rfl
  | f :: L, M => by simp only [List.cons_append, lmore, lmore_app L M, Bool.or_assoc]
theorem lins_sum : ∀ L : List Fs, lsum (lins L) ≤ lsum L ∧ (lmore L = true → lsum (lins L) < lsum L)
  | [] => by simp [lins, lsum, lmore]
  | f :: L => by
    obtain ⟨h1, h2⟩ := lins_sum L
    have h3 := ins_sum f
    have h4 := f.count_in
    have h5 : f.more = true → 0 < f.len := fun h => by cases f with
      | nil => simp [Fs.more] at h
      | cons => simp [Fs.len]
    simp only [lins, lmore, lsum_app, lsum] at h1 h2 ⊢
    refine ⟨by omega, fun h => ?_⟩
    rw [Bool.or_eq_true] at h
    rcases h with h | h
    · have := h5 h; omega
    · have := h2 h; omega
theorem ins_len : ∀ f : Fs, f.ins.length ≤ f.len
  | .nil => Nat.le_refl _
  | .cons t y n s i r => by
    have := ins_len r
    simp only [Fs.ins, Fs.len]
    split <;> simp <;> omega
theorem lins_len : ∀ L : List Fs, (lins L).length ≤ lsum L
  | [] => Nat.le_refl _
  | f :: L => by
    have h1 := lins_len L
    have h2 := ins_len f
    have h3 := f.len_count
    simp only [lins, List.length_append, lsum] at h1 ⊢
    omega
theorem depth_le : ∀ f : Fs, f.depth ≤ f.count
  | .nil => Nat.le_refl _
  | .cons t y n s i r => by
    have h1 := depth_le i
    have h2 := depth_le r
    simp only [Fs.depth, Fs.count]
    split <;> omega
theorem more_app : ∀ f g : Fs, (f.app g).more = (f.more || g.more)
  | .nil, g => by simp [Fs.app, Fs.more]
  | .cons t y n s i r, g => by simp only [Fs.app, Fs.more, more_app r g, Bool.or_assoc]
theorem ins_app : ∀ f g : Fs, (f.app g).ins = f.ins ++ g.ins
  | .nil, g => rfl
  | .cons t y n s i r, g => by
    simp only [Fs.app, Fs.ins, ins_app r g]
    split <;> simp
theorem level_step {L : List Fs} {j : Nat} {f : Fs} (h : L[j]? = some f) : lmore (L.take (j + 1)) = (lmore (L.take j) || f.more) ∧ lins (L.take (j + 1)) = lins (L.take j) ++ f.ins ∧ lsum (L.take j) + f.count ≤ lsum L := by
  obtain ⟨hj, rfl⟩ := List.getElem?_eq_some_iff.1 h
  have e : L.take (j + 1) = L.take j ++ [L[j]] := (List.take_append_getElem hj).symm
  have e2 : lsum L = lsum (L.take (j + 1)) + lsum (L.drop (j + 1)) := by rw [← lsum_app, List.take_append_drop]
  rw [e, lmore_app, lins_app]
  rw [e, lsum_app] at e2
  simp only [lmore, lins, lsum, Bool.or_false, List.append_nil, Nat.add_zero] at e2 ⊢
  exact ⟨trivial, trivial, by omega⟩
theorem ldepth_le : ∀ L : List Fs, ldepth L ≤ lsum L
  | [] => Nat.le_refl _
  | f :: L => by
    have := depth_le f
    have := ldepth_le L
    simp only [ldepth, lsum]
    omega
/-! ### Whether two lists are one -/
def Fs.same : Fs → Fs → Bool
  | .nil, .nil => true
  | .cons t y n s i r, .cons t' y' n' s' i' r' => decide (t = t' ∧ y = y' ∧ n = n' ∧ s = s') && (i.same i' && r.same r')
  | _, _ => false
theorem same_iff : ∀ f g : Fs, f.same g = true ↔ f = g
  | .nil, .nil => by simp [Fs.same]
  | .nil, .cons .. => by simp [Fs.same]
  | .cons .., .nil => by simp [Fs.same]
  | .cons t y n s i r, .cons t' y' n' s' i' r' => by
    have h1 := same_iff i i'
    have h2 := same_iff r r'
    simp only [Fs.same, Bool.and_eq_true, decide_eq_true_eq, h1, h2, Fs.cons.injEq, and_assoc]
theorem same_self (f : Fs) : f.same f = true := (same_iff f f).2 rfl
theorem same_no {f g : Fs} (h : f ≠ g) : f.same g = false := by
  cases e : f.same g with
  | false => rfl
  | true => exact absurd ((same_iff f g).1 e) h
theorem same_len {f g : Fs} (h : f.len ≠ g.len) : f.same g = false := same_no fun e => h (by rw [e])
def lsame (L : List (Fs × Fs)) : Bool := L.all fun p => p.1.same p.2
end Go.PM
end

section
/-
  Contracts of layer 8: how many fields there are.
-/
namespace Go.Proofs.YtigbifiicbghpaaDoor
open Go.RowKit Go.PM
set_option maxRecDepth 100000
set_option maxHeartbeats 1000000

theorem info_fields : (Tryd.prog.info? 28).map (fun i => (i.zero, i.size, i.bytes)) = some (some (.slice none 0 0), 1, 24) := by kernel_rfl
/-- Where a walk over a work list stands. -/
def WkAt (w : World) (I : Nat → Prop) (v : Value) (L : List Fs) (wr : World) : Prop :=
  ∃ (g cap : Nat) (xs : List Value), v = .slice (some ⟨g, 0, none⟩) L.length cap ∧ wr.ownsRow w.heap.size 28 1 v L.length xs ∧ WL w I xs L ∧ Below w.heap.size w wr
end Go.Proofs.YtigbifiicbghpaaDoor
end

section
/-
  Contracts of layer 8: how many lists stand in one another.
-/
namespace Go.Proofs.YtigbifiicbghpaaDoor
open Go.RowKit Go.PM
set_option maxRecDepth 100000
set_option maxHeartbeats 4000000

/-- A row of lists of fields, of the call's own. -/
def LvAt (base : Nat) (w0 : World) (I : Nat → Prop) (v : Value) (L : List Fs) (wr : World) : Prop :=
  ∃ xs : List Value, wr.ownsRow base 28 1 v L.length xs ∧ WL w0 I xs L
theorem LvAt.form {base : Nat} {w0 wr : World} {I : Nat → Prop} {v : Value} {L : List Fs} (h : LvAt base w0 I v L wr) : ∃ A c, v = .slice A L.length c := by
  obtain ⟨xs, h1, _⟩ := h
  obtain ⟨A, c, rfl, _⟩ := Rd.own h1
  exact ⟨A, c, rfl⟩
theorem LvAt.at_ {base : Nat} {w0 wr : World} {I : Nat → Prop} {A : Option Addr} {n c : Nat} {L : List Fs} (h : LvAt base w0 I (.slice A n c) L wr) {j : Nat} (hj : j < L.length) :
    ∃ g f x, A = some ⟨g, 0, none⟩ ∧ base ≤ g ∧ g < wr.heap.size ∧ L[j]? = some f ∧ wr.cell? ⟨g, j, none⟩ = some x ∧ SlV w0 I x f := by
  obtain ⟨xs, h1, h2⟩ := h
  obtain ⟨g, cap, hv, hb, hlt⟩ := h1.form (by omega)
  injection hv with e1 e2 e3
  subst e1 e2 e3
  have hx : j < xs.length := by rw [h2.1]; exact hj
  refine ⟨g, L[j], xs[j], rfl, hb, hlt, List.getElem?_eq_getElem hj, ?_, h2.2 j _ _ (List.getElem?_eq_getElem hx) (List.getElem?_eq_getElem hj)⟩
  have hc := h1.cellAt j (by omega)
  rw [hc, List.getElem?_eq_getElem hx]
theorem LvAt.below {base : Nat} {w0 wr w' : World} {I : Nat → Prop} {v : Value} {L : List Fs} (h : LvAt base w0 I v L wr) (hb : Below wr.heap.size wr w') : LvAt base w0 I v L w' := by
  obtain ⟨xs, h1, h2⟩ := h
  exact ⟨xs, own_below h1 hb, h2⟩
theorem LvAt.mono {base base' : Nat} {w0 wr : World} {I : Nat → Prop} {v : Value} {L : List Fs} (h : LvAt base w0 I v L wr) (hb : base' ≤ base) : LvAt base' w0 I v L wr := by
  obtain ⟨xs, ⟨h0, h1⟩, h2⟩ := h
  refine ⟨xs, ⟨h0, h1.imp id ?_⟩, h2⟩
  rintro ⟨g, cap, cur, e1, e2, e3⟩
  exact ⟨g, cap, cur, e1, by omega, e3⟩
end Go.Proofs.YtigbifiicbghpaaDoor
end

section
/-
  Words for the walk over 'Clone': lists of fields in the call's own memory, one place of which is written anew. Plain theorems, over any program.
-/
namespace Go.PM
open Go.RowKit
section
variable {w w' : World} {I J : Nat → Prop}
/-- What is read is one. -/
theorem FsAt.uniq : ∀ {f g : Fs} {b o : Nat}, FsAt w I f b o → FsAt w J g b o → f.len = g.len → f = g
  | .nil, .nil, _, _, _, _, _ => rfl
  | .nil, .cons .., _, _, _, _, h => by simp [Fs.len] at h
  | .cons .., .nil, _, _, _, _, h => by simp [Fs.len] at h
  | .cons t y n s i r, .cons t' y' n' s' i' r', b, o, h, k, hl => by
    obtain ⟨h1, h2, h3, h4, ⟨A, c, h5, _, h6⟩, h7⟩ := h
    obtain ⟨k1, k2, k3, k4, ⟨A', c', k5, _, k6⟩, k7⟩ := k
    have e1 := h1.symm.trans k1
    have e2 := h2.symm.trans k2
    have e3 := h3.symm.trans k3
    have e4 := h4.symm.trans k4
    have e5 := h5.symm.trans k5
    simp only [Option.some.injEq, Value.int.injEq, Value.string.injEq, Value.slice.injEq, true_and, Int.natCast_inj] at e1 e2 e3 e4 e5
    obtain ⟨rfl, e5, rfl⟩ := e5
    have hr := FsAt.uniq h7 k7 (by simp only [Fs.len] at hl; omega)
    have hi : i = i' := by
      rcases h6 with h0 | ⟨b', o', hA, _, _, h8⟩
      · have a1 : i = .nil := Fs.len_zero h0
        have a2 : i' = .nil := Fs.len_zero (by omega)
        rw [a1, a2]
      · rcases k6 with h0 | ⟨b2, o2, hA2, _, _, k8⟩
        · have a1 : i = .nil := Fs.len_zero (by omega)
          have a2 : i' = .nil := Fs.len_zero h0
          rw [a1, a2]
        · rw [hA] at hA2
          injection hA2 with hA2
          injection hA2 with e6 e7
          subst e6 e7
          exact FsAt.uniq h8 k8 e5
    rw [e1, e2, e3, e4, hi, hr]
/-- One place is written anew by a slice that reads as the one that stood there: all reads as it did. -/
theorem FsAt.anew {p : Addr} {A A' : Option Addr} {c c' : Nat} {j : Fs} (hp : w.cell? p = some (.slice A j.len c)) (hj : j.len = 0 ∨ ∃ b o, A = some ⟨b, o, none⟩ ∧ FsAt w I j b o)
    (hj' : j.len ≤ c' ∧ (j.len = 0 ∨ ∃ b o, A' = some ⟨b, o, none⟩ ∧ I b ∧ b < w.heap.size ∧ FsAt w I j b o)) : ∀ {f : Fs} {b o : Nat}, FsAt w I f b o → FsAt (w.setCell p (.slice A' j.len c')) I f b o
  | .nil, _, _, _ => trivial
  | .cons t y n s i r, b, o, h => by
    obtain ⟨h1, h2, h3, h4, ⟨B, d, h5, hd, h6⟩, h7⟩ := h
    have hs : (w.setCell p (.slice A' j.len c')).heap.size = w.heap.size := by simp [World.setCell]
    have oth : ∀ {q : Addr} {v : Value}, w.cell? q = some v → (∀ A n c, v ≠ .slice A n c) → (w.setCell p (.slice A' j.len c')).cell? q = some v := fun {q v} hq hv => by
      rw [World.cell?_setCell_other _ _ _ _ (by rintro rfl; rw [hp] at hq; injection hq with hq; exact hv _ _ _ hq.symm)]
      exact hq
    refine ⟨oth h1 (by simp), oth h2 (by simp), oth h3 (by simp), oth h4 (by simp), ?_, FsAt.anew hp hj hj' h7⟩
    by_cases e : p = ⟨b, o + 4, none⟩
    · have h5' := h5
      rw [← e, hp] at h5'
      simp only [Option.some.injEq, Value.slice.injEq] at h5'
      obtain ⟨e1, e2, e3⟩ := h5'
      have hij : i = j := by
        rcases h6 with h0 | ⟨b', o', hA, _, _, h8⟩
        · rw [Fs.len_zero h0, Fs.len_zero (show j.len = 0 by omega)]
        · rcases hj with h0 | ⟨b2, o2, hA2, k8⟩
          · rw [Fs.len_zero h0, Fs.len_zero (show i.len = 0 by omega)]
          · rw [← e1, hA2] at hA
            injection hA with hA
            injection hA with e6 e7
            subst e6 e7
            exact FsAt.uniq h8 k8 e2.symm
      subst hij
      refine ⟨A', c', ?_, hj'.1, ?_⟩
      · rw [← e]
        exact World.cell?_setCell_same _ _ _ hp
      · rcases hj'.2 with h0 | ⟨b', o', hA, hI, hb, h8⟩
        · exact .inl h0
        · exact .inr ⟨b', o', hA, hI, by rw [hs]; exact hb, FsAt.anew hp hj hj' h8⟩
    · refine ⟨B, d, ?_, hd, ?_⟩
      · rw [World.cell?_setCell_other _ _ _ _ e]
        exact h5
      · rcases h6 with h0 | ⟨b', o', hA, hI, hb, h8⟩
        · exact .inl h0
        · exact .inr ⟨b', o', hA, hI, by rw [hs]; exact hb, FsAt.anew hp hj hj' h8⟩
/-- A block of fields, of the call's own. -/
def FB (w : World) (T : TypeId) (k : Nat) : Prop := ∃ cs, BlkAt w k T cs
theorem FB.lt {T : TypeId} {k : Nat} (h : FB w T k) : k < w.heap.size := by obtain ⟨cs, h⟩ := h; exact h.lt
theorem FB.below {T : TypeId} {k : Nat} (h : FB w T k) (hb : Below w.heap.size w w') : FB w' T k := by obtain ⟨cs, h⟩ := h; exact ⟨cs, h.below hb h.lt⟩
theorem FB.tch {S : Nat → Prop} {T : TypeId} {k : Nat} (h : FB w T k) (hb : Tch S w w') (hk : ¬ S k) : FB w' T k := by obtain ⟨cs, h⟩ := h; exact ⟨cs, h.tch hb hk⟩
theorem FB.put {T : TypeId} {k b i : Nat} (h : FB w T k) (u : Value) : FB (w.setCell ⟨b, i, none⟩ u) T k := by
  obtain ⟨cs, h⟩ := h
  by_cases e : k = b
  · subst e; exact ⟨_, h.put i u⟩
  · exact ⟨cs, h.far e u⟩
/-- So, and of how many cells. -/
def FZ (w : World) (T : TypeId) (k n : Nat) : Prop := ∃ cs, BlkAt w k T cs ∧ cs.size = n
theorem FZ.fb {T : TypeId} {k n : Nat} (h : FZ w T k n) : FB w T k := by obtain ⟨cs, h, _⟩ := h; exact ⟨cs, h⟩
theorem FZ.below {T : TypeId} {k n : Nat} (h : FZ w T k n) (hb : Below w.heap.size w w') : FZ w' T k n := by obtain ⟨cs, h, hn⟩ := h; exact ⟨cs, h.below hb h.lt, hn⟩
theorem FZ.tch {S : Nat → Prop} {T : TypeId} {k n : Nat} (h : FZ w T k n) (hb : Tch S w w') (hk : ¬ S k) : FZ w' T k n := by obtain ⟨cs, h, hn⟩ := h; exact ⟨cs, h.tch hb hk, hn⟩
theorem FZ.put {T : TypeId} {k b i n : Nat} (h : FZ w T k n) (u : Value) : FZ (w.setCell ⟨b, i, none⟩ u) T k n := by
  obtain ⟨cs, h, hn⟩ := h
  by_cases e : k = b
  · subst e; exact ⟨_, h.put i u, by simpa using hn⟩
  · exact ⟨cs, h.far e u, hn⟩
/-- Old, or a block of fields of the call's own. -/
def IC (H : Nat) (T : TypeId) (w : World) (k : Nat) : Prop := k < H ∨ FB w T k
/-- A slice of fields in the call's own memory. -/
def CE (H : Nat) (T : TypeId) (w : World) (x : Value) (f : Fs) : Prop :=
  ∃ A c, x = .slice A f.len c ∧ f.len ≤ c ∧ (f.len = 0 ∧ A = none ∧ c = 0 ∨ ∃ b, A = some ⟨b, 0, none⟩ ∧ H ≤ b ∧ c ≤ maxLen ∧ FZ w T b (c * 5) ∧ FsAt w (IC H T w) f b 0)
/-- What a turn of the world keeps. -/
def Rp (H : Nat) (T : TypeId) (w w' : World) : Prop := (∀ f b o, IC H T w b → FsAt w (IC H T w) f b o → FsAt w' (IC H T w') f b o) ∧ (∀ k, FB w T k → FB w' T k) ∧ (∀ k n, FZ w T k n → FZ w' T k n)
theorem Rp.trans {H : Nat} {T : TypeId} {a : World} (h : Rp H T a w) (k : Rp H T w w') : Rp H T a w' :=
  ⟨fun f b o hb hf => k.1 f b o (hb.imp id (h.2.1 b)) (h.1 f b o hb hf), fun j hj => k.2.1 j (h.2.1 j hj), fun j n hj => k.2.2 j n (h.2.2 j n hj)⟩
theorem Rp.below {H : Nat} {T : TypeId} (hH : H ≤ w.heap.size) (hb : Below w.heap.size w w') : Rp H T w w' := by
  have hI : ∀ k, IC H T w k → k < w.heap.size := fun k hk => by rcases hk with h | h; omega; exact h.lt
  refine ⟨fun f b o hb' hf => (hf.keep hb.size (fun k _ hk => hb.block k hk) (hb.block b (hI b hb'))).imp fun k hk => hk.imp id fun h => h.below hb, fun k hk => hk.below hb, fun k n hk => hk.below hb⟩
theorem Rp.tch {H g : Nat} {T : TypeId} (hH : H ≤ w.heap.size) (hb : Tch (fun k => some g = some k) w w') (hg : H ≤ g) (hT : ¬ FB w T g) : Rp H T w w' := by
  have hI : ∀ k, IC H T w k → k < w.heap.size := fun k hk => by rcases hk with h | h; omega; exact h.lt
  have hn : ∀ k, IC H T w k → ¬ (some g = some k) := fun k hk e => by
    injection e with e
    subst e
    rcases hk with h | h
    · omega
    · exact hT h
  refine ⟨fun f b o hb' hf => (hf.keep hb.size (fun k hk hl => hb.block k hl (hn k hk)) (hb.block b (hI b hb') (hn b hb'))).imp fun k hk => hk.imp id fun h => h.tch hb (hn k (.inr h)), fun k hk => hk.tch hb (hn k (.inr hk)), fun k n hk => hk.tch hb (hn k (.inr hk.fb))⟩
theorem Rp.anew {H : Nat} {T : TypeId} {b q : Nat} {A A' : Option Addr} {c c' : Nat} {j : Fs} (hp : w.cell? ⟨b, q, none⟩ = some (.slice A j.len c)) (hj : j.len = 0 ∨ ∃ b o, A = some ⟨b, o, none⟩ ∧ FsAt w (IC H T w) j b o)
    (hj' : j.len ≤ c' ∧ (j.len = 0 ∨ ∃ b o, A' = some ⟨b, o, none⟩ ∧ IC H T w b ∧ b < w.heap.size ∧ FsAt w (IC H T w) j b o)) : Rp H T w (w.setCell ⟨b, q, none⟩ (.slice A' j.len c')) :=
  ⟨fun _ _ _ _ hf => (hf.anew hp hj hj').imp fun _ hk => hk.imp id fun h => h.put _, fun _ hk => hk.put _, fun _ _ hk => hk.put _⟩
theorem CE.rp {H : Nat} {T : TypeId} {x : Value} {f : Fs} (h : CE H T w x f) (hr : Rp H T w w') : CE H T w' x f := by
  obtain ⟨A, c, hx, hc, h⟩ := h
  exact ⟨A, c, hx, hc, h.imp id fun ⟨b, hA, hH, hm, hb, hf⟩ => ⟨b, hA, hH, hm, hr.2.2 b _ hb, hr.1 f b 0 (.inr hb.fb) hf⟩⟩
/-- The call's own lists. -/
def CL (H : Nat) (T : TypeId) (w : World) (xs : List Value) (L : List Fs) : Prop := xs.length = L.length ∧ ∀ (j : Nat) (x : Value) (f : Fs), xs[j]? = some x → L[j]? = some f → CE H T w x f
theorem CL.rp {H : Nat} {T : TypeId} {xs : List Value} {L : List Fs} (h : CL H T w xs L) (hr : Rp H T w w') : CL H T w' xs L := ⟨h.1, fun j x f hx hf => (h.2 j x f hx hf).rp hr⟩
theorem CL.nil {H : Nat} {T : TypeId} : CL H T w [] [] := ⟨rfl, fun j x f h => by simp at h⟩
theorem CL.push {H : Nat} {T : TypeId} {xs : List Value} {L : List Fs} {x : Value} {f : Fs} (h : CL H T w xs L) (hx : CE H T w x f) : CL H T w (xs ++ [x]) (L ++ [f]) := by
  refine ⟨by simp [h.1], fun j y g hy hg => ?_⟩
  by_cases hj : j < xs.length
  · rw [List.getElem?_append_left hj] at hy
    rw [List.getElem?_append_left (by rw [← h.1]; exact hj)] at hg
    exact h.2 j y g hy hg
  · rw [List.getElem?_append_right (by omega)] at hy
    rw [List.getElem?_append_right (by rw [← h.1]; omega), ← h.1] at hg
    generalize j - xs.length = m at hy hg
    cases m with
    | zero => simp at hy hg; subst hy hg; exact hx
    | succ m => simp at hy
theorem CL.pop {H : Nat} {T : TypeId} {xs : List Value} {L : List Fs} {n : Nat} (h : CL H T w xs L) (hn : L.length = n + 1) :
    ∃ L' f x, L = L' ++ [f] ∧ L'.length = n ∧ xs[n]? = some x ∧ CE H T w x f ∧ CL H T w (xs.take n) L' := by
  have hx : n < xs.length := by rw [h.1]; omega
  have hL : n < L.length := by omega
  refine ⟨L.take n, L[n], xs[n], ?_, by rw [List.length_take]; omega, List.getElem?_eq_getElem hx, h.2 n _ _ (List.getElem?_eq_getElem hx) (List.getElem?_eq_getElem hL), ?_⟩
  · have h1 := List.take_append_getElem hL
    rw [h1, List.take_of_length_le (by omega)]
  · refine ⟨by rw [List.length_take, List.length_take, h.1], fun j y g hy hg => ?_⟩
    rw [List.getElem?_take] at hy hg
    by_cases hj : j < n
    · rw [if_pos hj] at hy hg
      exact h.2 j y g hy hg
    · rw [if_neg hj] at hy
      cases hy
/-- Each slice in the call's own blocks of fields goes on behind a block, but for those that are still to be copied. -/
def GP (H g0 : Nat) (T : TypeId) (w : World) (xs : List Value) (cur k n : Nat) : Prop :=
  ∀ b cs, H ≤ b → BlkAt w b T cs → ∀ (o : Nat) (A : Addr) (m c : Nat), cs[o]? = some (.slice (some A) m c) → m ≠ 0 → g0 < A.block ∨ (∃ off m' c', Value.slice (some ⟨b, off, none⟩) m' c' ∈ xs ∧ o < 5 * m') ∨ (b = cur ∧ 5 * k ≤ o ∧ o < 5 * n)
/-- A block's cells, as fields. -/
theorem cls_of_blk {T : TypeId} {f : Fs} {g : Nat} {cs : Array Value} (h : FsAt w I f g 0) (hb : BlkAt w g T cs) : Cls w I (cs.toList.take (f.len * 5)) f := by
  obtain ⟨xs, hx, hc⟩ := h.cls
  have hl := hx.length
  have e : xs = cs.toList.take (f.len * 5) := by
    apply List.ext_getElem?
    intro j
    by_cases hj : j < xs.length
    · have h1 := hc j xs[j] (List.getElem?_eq_getElem hj)
      rw [Nat.zero_add, hb.cell] at h1
      rw [List.getElem?_eq_getElem hj, List.getElem?_take, if_pos (by omega), Array.getElem?_toList, h1]
    · rw [List.getElem?_eq_none (by omega), List.getElem?_take, if_neg (by omega)]
  rw [← e]
  exact hx
/-- At the end all goes on behind it. -/
theorem GP.out {H g0 : Nat} {T : TypeId} (h : GP H g0 T w [] 0 0 0) (hH : H ≤ g0) : ∀ {f : Fs} {b o : Nat}, H ≤ b → FB w T b → FsAt w (IC H T w) f b o → FsAt w (fun k => g0 < k ∧ FB w T k) f b o
  | .nil, _, _, _, _, _ => trivial
  | .cons t y n s i r, b, o, hb, hF, hf => by
    obtain ⟨h1, h2, h3, h4, ⟨A, c, h5, hc, h6⟩, h7⟩ := hf
    refine ⟨h1, h2, h3, h4, ⟨A, c, h5, hc, ?_⟩, GP.out h hH hb hF h7⟩
    rcases h6 with h0 | ⟨b', o', hA, hI, hlt, h8⟩
    · exact .inl h0
    · by_cases h0 : i.len = 0
      · exact .inl h0
      right
      obtain ⟨cs, hcs⟩ := hF
      subst hA
      have hg : g0 < b' := by
        rw [hcs.cell] at h5
        rcases h b cs hb hcs (o + 4) ⟨b', o', none⟩ i.len c h5 h0 with h | ⟨_, _, _, h, _⟩ | ⟨_, _, h⟩
        · exact h
        · simp at h
        · omega
      have hF' : FB w T b' := by
        rcases hI with h | h
        · omega
        · exact h
      exact ⟨b', o', rfl, ⟨hg, hF'⟩, hlt, GP.out h hH (by omega) hF' h8⟩
end
end Go.PM
end

section
/-
  Appends whose world is known: onto nil (a copy of fields), of one slice onto a row of the call's own. Plain theorems, over any program.
-/
namespace Go.PM
open Go.RowKit
def zfield : Value := .agg #[.int .u64 0, .int .i64 0, .int .u64 0, .string ByteArray.empty, .slice none 0 0]
theorem copy_none {P : Program} (w : World) (t ty e : TypeId) (i : TypeInfo) (ht : P.underlying t = some (.slice e)) (hi : P.info? e = some i) (A : Option Addr) (c : Nat) :
    (Builtin.append_ #[t, t] ty #[.slice none 0 0, .slice A 0 c]).run P w = .ok (.slice none 0 0) w := by
  have h : (Builtin.firstCells i.size 0 (.slice A 0 c)).run P w = .ok #[] w := by
    cases A with
    | none => exact run_firstCells_none w i.size 0 0 c
    | some a => exact run_firstCells_some w i.size 0 a 0 c [] (by simp) (fun j u h => by simp at h)
  simp [Builtin.append_, run_underlying ht, sizeOf, typeInfo, hi, Builtin.lenOf, h]
theorem cls_one {w : World} {I : Nat → Prop} : ∀ {xs : List Value} {f : Fs}, Cls w I xs f → ∀ u ∈ xs, u.oneCell' = true
  | [], .nil, _ => by simp
  | a :: b :: c :: d :: v :: xs, .cons t y n s i r, h => by
    obtain ⟨rfl, rfl, rfl, rfl, ⟨A, c, rfl, _⟩, h7⟩ := h
    intro u hu
    simp only [List.mem_cons] at hu
    rcases hu with rfl | rfl | rfl | rfl | rfl | hu
    · rfl
    · rfl
    · rfl
    · rfl
    · rfl
    · exact cls_one h7 u hu
  | [], .cons .., h => h.elim
  | _ :: _, .nil, h => by simp [Cls] at h
  | [_], .cons .., h => by simp [Cls] at h
  | [_, _], .cons .., h => by simp [Cls] at h
  | [_, _, _], .cons .., h => by simp [Cls] at h
  | [_, _, _, _], .cons .., h => by simp [Cls] at h
/-- A copy of some fields. -/
theorem copy_some {P : Program} (w : World) (t ty e : TypeId) (i : TypeInfo) (ht : P.underlying t = some (.slice e)) (hi : P.info? e = some i) (hz : i.zero = some zfield) (hsz : i.size = 5) (hby : i.bytes = 64)
    {I : Nat → Prop} {A : Option Addr} {c : Nat} {f : Fs} (hs : SlV w I (.slice A f.len c) f) (h0 : 0 < f.len) (h60 : f.len ≤ 1000000) :
    ∃ xs G, Cls w I xs f ∧ (f.len ≤ G ∧ G ≤ maxLen) ∧ (Builtin.append_ #[t, t] ty #[.slice none 0 0, .slice A f.len c]).run P w = .ok (.slice (some ⟨w.heap.size, 0, none⟩) f.len G) (w.drew.alloc (.cells (xs.toArray ++ Builtin.zeroCells zfield.cells (G - f.len)) e)) := by
  obtain ⟨A', c', hv, hc, hor⟩ := hs
  injection hv with e1 e2 e3
  subst e1 e3
  rcases hor with hh | ⟨b, o, rfl, hI, hb, hf⟩
  · omega
  obtain ⟨xs, hx, hx2⟩ := hf.cls
  have hlen := hx.length
  have hsrc : Src P i.size t (.slice (some ⟨b, o, none⟩) f.len c) f.len xs w := by
    refine Src.ofSlice w ht ⟨b, o, none⟩ f.len c xs (by rw [hsz]; omega) (fun j u hj => ?_) (cls_one hx)
    have ha : (⟨b, o, none⟩ : Addr).add j = ⟨b, o + j, none⟩ := by unfold Addr.add; split <;> simp_all
    rw [ha]
    exact hx2 j u hj
  have hr := run_append_grow_src (P := P) w t t ty e i zfield ht hi hz none 0 0 [] (run_firstCells_none w.drew i.size 0 0 0) (.slice (some ⟨b, o, none⟩) f.len c) f.len xs hsrc (by omega) (by omega) (by rw [hby]; exact growslice_fits (by omega) (by omega))
  simp only [Nat.zero_add, List.nil_append] at hr
  exact ⟨xs, _, hx, ⟨grownCap_ge w f.len 0 e, grownCap_le_maxLen w f.len 0 e (by unfold maxLen; omega)⟩, hr⟩
theorem zcell_at (n o : Nat) (u : Value) (h : (Builtin.zeroCells zfield.cells n)[o]? = some u) : ∀ A m c, u ≠ .slice (some A) m c := by
  have hz : zfield.cells = #[.int .u64 0, .int .i64 0, .int .u64 0, .string ByteArray.empty, .slice none 0 0] := rfl
  have ho : o < n * zfield.cells.size := by
    have := (Array.getElem?_eq_some_iff.1 h).1
    rwa [size_zeroCells] at this
  unfold Builtin.zeroCells at h
  rw [Array.getElem?_map, Array.getElem?_range] at h
  rw [if_pos ho] at h
  simp only [Option.map_some, Option.some.injEq] at h
  have hm : o % zfield.cells.size < 5 := Nat.mod_lt _ (by rw [hz]; decide)
  generalize o % zfield.cells.size = q at h hm
  rw [hz] at h
  intro A m c e
  subst e
  match q, hm with
  | 0, _ => simp at h
  | 1, _ => simp at h
  | 2, _ => simp at h
  | 3, _ => simp at h
  | 4, _ => simp at h
/-- No block of another type is new, or turned. -/
def NT (e : TypeId) (w w' : World) : Prop := ∀ b T cs, T ≠ e → BlkAt w' b T cs → BlkAt w b T cs
theorem NT.alloc (e : TypeId) (w : World) (cs : Array Value) : NT e w (w.alloc (.cells cs e)) := fun b T cs' hT h => by
  by_cases hb : b < w.heap.size
  · unfold BlkAt at h ⊢
    rw [← h]
    exact (Below.heap_alloc w (.cells cs e) b hb).symm
  · have hlt := h.lt
    simp at hlt
    obtain rfl : b = w.heap.size := by omega
    exact absurd rfl (BlkAt.apart h (BlkAt.made w e cs) hT)
theorem NT.trans {e : TypeId} {a b c : World} (h : NT e a b) (k : NT e b c) : NT e a c := fun x T cs hT hc => h x T cs hT (k x T cs hT hc)
theorem NT.dr {e : TypeId} {a b : World} (h : NT e a b) : NT e a b.drew := fun x T cs hT hc => h x T cs hT hc
theorem NT.puts {e : TypeId} {w : World} {g : Nat} (hg : HasT w g e) (o : Nat) (vs : List Value) : NT e w (w.setCells g o vs) := fun b T cs hT h => by
  have hne : b ≠ g := by
    rintro rfl
    exact hT (HasT.one h.hasT (hg.puts vs o w))
  have := tch_setCells (a := w) (S := fun k => k = g) (b := g) rfl vs o w (Tch.refl _ _)
  have hlt : b < w.heap.size := by
    have h1 := h.lt
    have h2 : ∀ (vs : List Value) (o : Nat) (w : World), (w.setCells g o vs).heap.size = w.heap.size := by
      intro vs
      induction vs with
      | nil => intro o w; rfl
      | cons v vs ih => intro o w; rw [World.setCells, ih]; simp [World.setCell]
    rwa [h2] at h1
  unfold BlkAt at h ⊢
  rw [← h]
  exact (this.block b hlt hne).symm
theorem push_nt {P : Program} (w : World) (t ty : TypeId) (base : Nat) (e : TypeId) (i : TypeInfo) (z : Value) (ht : P.underlying t = some (.slice e)) (hi : P.info? e = some i) (hz : i.zero = some z)
    (hsize : i.size = 1) {v v' : Value} {n : Nat} {xs : List Value} {w' : World} (hown : w.ownsRow base e 1 v n xs) (ad : Addr) (u : Value) (hu : w.cell? ad = some u) (h1 : u.oneCell' = true) (h63 : n + 1 ≤ 4000001) (hb : i.bytes ≤ 100)
    (hr : (Builtin.append_ #[t, t] ty #[v, .slice (some ad) 1 1]).run P w = .ok v' w') : NT e w w' := by
  have hsrc : Src P i.size t (.slice (some ad) 1 1) 1 [u] w := by
    refine Src.ofSlice w ht ad 1 1 [u] (by rw [hsize]; rfl) (fun j x hj => ?_) (by simp [h1])
    match j, hj with
    | 0, hj =>
      simp at hj
      subst hj
      have : ad.add 0 = ad := by unfold Addr.add; split <;> simp_all
      rw [this]; exact hu
  have grow : ∀ (A : Option Addr) (c : Nat) (olds : List Value), v = .slice A n c → (Builtin.firstCells i.size n (.slice A n c)).run P w.drew = .ok olds.toArray w.drew → c < n + 1 → NT e w w' := fun A c olds hv hold hg => by
    subst hv
    have hmul : (n + 1) * i.bytes ≤ 140737488355328 := Nat.le_trans (Nat.mul_le_mul h63 hb) (by decide)
    have := run_append_grow_src (P := P) w t t ty e i z ht hi hz A n c olds hold (.slice (some ad) 1 1) 1 [u] hsrc hg (by omega) (growslice_fits (by omega) hmul)
    rw [hr] at this
    injection this with _ hw
    subst hw
    exact NT.trans (b := w.drew) (fun b T cs _ h => h) (NT.alloc e w.drew _)
  rcases hown.2 with ⟨rfl, rfl⟩ | ⟨g, cap, cur, rfl, hbg, hg, hnc, hcm, hcs, htk⟩
  · exact grow none 0 [] rfl (run_firstCells_none w.drew i.size 0 0 0) (by omega)
  · by_cases hroom : n + 1 ≤ cap
    · have := run_append_room_src (P := P) w t t ty e i ht hi g 0 n cap (.slice (some ad) 1 1) 1 [u] hsrc hroom
        (fun j hj => by rw [cell_of_row _ _ _ _ _ _ hg]; simp at hj; subst hj; simp [hsize]; omega) (fun j hj => by unfold World.frozen?; rw [hg]; simp)
      rw [hr] at this
      injection this with _ hw
      subst hw
      exact NT.puts ⟨_, _, hg⟩ _ _
    · refine grow (some ⟨g, 0, none⟩) cap xs rfl ?_ (by omega)
      refine run_firstCells_some w.drew i.size n ⟨g, 0, none⟩ n cap xs (by rw [hsize]; have := hown.1; omega) fun j x hx => ?_
      have := hown.cells (g := g) rfl j x hx
      exact this
/-- An append of one slice, and what it leaves. -/
theorem wpList_append_push {P : Program} {w : World} {ops : Array Oper} {rest : List Oper} {o : Oper} {a : Act} {Q : Exit → Act → World → Prop} (hgd : o.guard = none) (s x : Operand) (t : TypeId)
    (ho : o.op = .call { callee := .builtin .append, args := #[s, x], argTypes := #[t, t] })
    (base : Nat) (e : TypeId) (i : TypeInfo) (z : Value) (bytes : Nat) (ht : P.underlying t = some (.slice e)) (hi : P.info? e = some i) (hz : i.zero = some z)
    (hsize : i.size = 1) (hby : i.bytes = bytes) (hbb : bytes ≤ 100) (hzs : z.cells.size = 1) (v : Value) (n : Nat) (xs : List Value) (hs : a.eval s = v) (hown : w.ownsRow base e 1 v n xs)
    (B : Nat) (u : Value) (hx : a.eval x = .slice (some ⟨B, 0, none⟩) 1 1) (hB : BlkAt w B e #[u]) (h1 : u.oneCell' = true) (h63 : n + 1 ≤ 4000001) (hbase : base ≤ w.heap.size)
    (h : ∀ g cap w', w'.ownsRow base e 1 (.slice (some ⟨g, 0, none⟩) (n + 1) cap) (n + 1) (xs ++ [u]) → w.grownBy w' v.ownBlock → (v.ownBlock = some g ∨ g = w.heap.size) → g < w'.heap.size → NT e w w' → wpList P ops Q rest (a.put o.dst (.slice (some ⟨g, 0, none⟩) (n + 1) cap)) w') : wpList P ops Q (o :: rest) a w := by
  have hu : w.cell? ⟨B, 0, none⟩ = some u := by rw [hB.cell]; rfl
  have hmul : (n + 1) * bytes ≤ 140737488355328 := Nat.le_trans (Nat.mul_le_mul h63 hbb) (by decide)
  obtain ⟨g, cap, w', hr, h2, h3, h4, h5⟩ := run_append_lies (P := P) w t o.type base e i z 1 bytes ht hi hz hsize hby hzs (by decide) v n xs hown ⟨B, 0, none⟩ 1 1 [u] rfl hB.news (by simp [h1]) (by decide) (by unfold maxLen; omega) hmul hbase w.heap.size rfl
  exact wpList_append_run hgd s x t t ho v _ _ hs hx hr (h g cap w' h2 h3 h4 h5 (push_nt w t o.type base e i z ht hi hz hsize hown ⟨B, 0, none⟩ u hu h1 h63 (by rw [hby]; exact hbb) hr))
end Go.PM
end

section
/-
  Fields appended to fields; parts of a list of fields. Plain theorems, over any program.
-/
namespace Go.PM
open Go.RowKit
section
variable {P : Program} {w : World}
theorem append_empty (t ty e : TypeId) (i : TypeInfo) (ht : P.underlying t = some (.slice e)) (hi : P.info? e = some i) (A A' : Option Addr) (n c c' : Nat) (h : n ≤ c) :
    (Builtin.append_ #[t, t] ty #[.slice A n c, .slice A' 0 c']).run P w = .ok (.slice A n c) w := by
  have h0 : (Builtin.firstCells i.size 0 (.slice A' 0 c')).run P w = .ok #[] w := by
    cases A' with
    | none => exact run_firstCells_none w i.size 0 0 c'
    | some a => exact run_firstCells_some w i.size 0 a 0 c' [] (by simp) (fun j u h => by simp at h)
  cases A with
  | none => simp [Builtin.append_, run_underlying ht, sizeOf, typeInfo, hi, Builtin.lenOf, h0, h]
  | some a => simp [Builtin.append_, run_underlying ht, sizeOf, typeInfo, hi, Builtin.lenOf, h0, h, storeCells]
theorem step_append_run {w' : World} {ops : Array Oper} {o : Oper} {a : Act} {K : Act → World → Prop} {Q : Exit → Act → World → Prop} {E : Prop} (hgd : o.guard = none) (s x : Operand) (t u : TypeId)
    (ho : o.op = .call { callee := .builtin .append, args := #[s, x], argTypes := #[t, u] }) (v y v' : Value) (hs : a.eval s = v) (hx : a.eval x = y)
    (hrun : (Builtin.append_ #[t, u] o.type #[v, y]).run P w = .ok v' w') (h : K (a.put o.dst v') w') : if Region.wanted o (yielded ops a.tmps) = true then Oper.wp P o a w K Q else E := by
  have hw : Region.wanted o (yielded ops a.tmps) = true := by simp [Region.wanted, hgd]
  rw [if_pos hw]
  unfold Oper.wp execOp
  simp only [ho, resolve, invoke, builtin, Sem.run_bind, Sem.run_pure, Result.andThen_ok, List.map_toArray, List.map_cons, List.map_nil, hs, hx, hrun]
  exact h
/-- Fields appended to a row of the call's own. -/
theorem fapp_run (t ty e : TypeId) (i : TypeInfo) (ht : P.underlying t = some (.slice e)) (hi : P.info? e = some i) (hz : i.zero = some zfield) (hsz : i.size = 5) (hby : i.bytes = 64)
    {base : Nat} {A B : Option Addr} {c d : Nat} {f g : Fs} {xs : List Value} (hown : w.ownsRow base e 5 (.slice A f.len c) f.len xs) {J I : Nat → Prop} (hc : Cls w J xs f) (hJ : ∀ k, J k → (Value.slice A f.len c).ownBlock ≠ some k)
    (hs : SlV w I (.slice B g.len d) g) (hI : ∀ k, I k → (Value.slice A f.len c).ownBlock ≠ some k) (h60 : f.len + g.len ≤ 2000000) (hb : base ≤ w.heap.size) :
    ∃ (A' : Option Addr) (c' : Nat) (w' : World) (xs' : List Value), (Builtin.append_ #[t, t] ty #[.slice A f.len c, .slice B g.len d]).run P w = .ok (.slice A' (f.app g).len c') w' ∧ w'.ownsRow base e 5 (.slice A' (f.app g).len c') (f.app g).len xs' ∧
      Cls w' (fun k => (J k ∨ I k) ∧ k < w.heap.size) xs' (f.app g) ∧ w.grownBy w' (Value.slice A f.len c).ownBlock ∧ ((Value.slice A' (f.app g).len c').ownBlock = (Value.slice A f.len c).ownBlock ∨ (Value.slice A' (f.app g).len c').ownBlock = some w.heap.size) := by
  by_cases h0 : g.len = 0
  · have : g = .nil := Fs.len_zero h0
    subst this
    rw [Fs.app_nil]
    have hnc : f.len ≤ c := by
      rcases hown.2 with ⟨h1, h2⟩ | ⟨g', cap, cur, h1, _, _, h2, _⟩
      · omega
      · simp only [Value.slice.injEq] at h1; omega
    exact ⟨A, c, w, xs, append_empty t ty e i ht hi A B f.len c d hnc, hown, (hc.lt).imp fun k hk => ⟨.inl hk.1, hk.2⟩, grown_refl _ _, .inl rfl⟩
  · obtain ⟨B', d', hv, hd, hor⟩ := hs
    injection hv with e1 e2 e3
    subst e1 e3
    rcases hor with h | ⟨b, o, rfl, hIb, hbl, hf⟩
    · exact absurd h h0
    obtain ⟨ys, hy, hy2⟩ := hf.cls
    have hyl := hy.length
    have hnews : ∀ j u, ys[j]? = some u → w.cell? ((⟨b, o, none⟩ : Addr).add j) = some u := fun j u hj => by
      have ha : (⟨b, o, none⟩ : Addr).add j = ⟨b, o + j, none⟩ := by unfold Addr.add; split <;> simp_all
      rw [ha]; exact hy2 j u hj
    obtain ⟨g', cap, w', hr, h2, h3, h4, h5⟩ := run_append_lies (P := P) w t ty base e i zfield 5 64 ht hi hz hsz hby rfl (by decide) _ f.len xs hown ⟨b, o, none⟩ g.len d ys (by omega) hnews (cls_one hy) (by omega) (by unfold maxLen; omega) (by omega) hb w.heap.size rfl
    have hS : ∀ k, (J k ∨ I k) ∧ k < w.heap.size → ¬ ((Value.slice A f.len c).ownBlock = some k) := fun k hk => by
      rcases hk.1 with h | h
      · exact hJ k h
      · exact hI k h
    have hcl := ((hc.lt.imp (J := fun k => (J k ∨ I k) ∧ k < w.heap.size) fun k hk => ⟨.inl hk.1, hk.2⟩).app (hy.lt.imp (J := fun k => (J k ∨ I k) ∧ k < w.heap.size) fun k hk => ⟨.inr hk.1, hk.2⟩)).tch (S := fun k => (Value.slice A f.len c).ownBlock = some k) (Tch.grown h3 fun k hk _ => hk) hS
    rw [Fs.app_len]
    refine ⟨some ⟨g', 0, none⟩, cap, w', _, hr, h2, hcl, h3, ?_⟩
    rcases h4 with h4 | h4
    · exact .inl h4.symm
    · right; rw [h4]; rfl
end
section
variable {w : World} {I : Nat → Prop}
theorem FsAt.take : ∀ {f : Fs} {b o : Nat} (k : Nat), FsAt w I f b o → FsAt w I (f.take k) b o
  | f, _, _, 0, _ => by cases f <;> trivial
  | .nil, _, _, _ + 1, _ => trivial
  | .cons .., _, _, k + 1, h => ⟨h.1, h.2.1, h.2.2.1, h.2.2.2.1, h.2.2.2.2.1, FsAt.take k h.2.2.2.2.2⟩
theorem SlV.take {A : Option Addr} {c : Nat} {f : Fs} (h : SlV w I (.slice A f.len c) f) (k : Nat) (hk : k ≤ f.len) : SlV w I (.slice A (f.take k).len c) (f.take k) := by
  obtain ⟨A', c', hv, hc, hor⟩ := h
  injection hv with e1 e2 e3
  subst e1 e3
  refine ⟨A, c, rfl, by rw [Fs.take_len f k hk]; omega, ?_⟩
  rcases hor with h | ⟨b, o, h1, h2, h3, h4⟩
  · left; rw [Fs.take_len f k hk]; omega
  · exact .inr ⟨b, o, h1, h2, h3, h4.take k⟩
theorem SlV.drop {b o c : Nat} {f : Fs} (h : SlV w I (.slice (some ⟨b, o, none⟩) f.len c) f) (k : Nat) (hk : k ≤ f.len) (c' : Nat) (hc : f.len - k ≤ c') : SlV w I (.slice (some ⟨b, o + k * 5, none⟩) (f.drop k).len c') (f.drop k) := by
  obtain ⟨A', c2, hv, hc2, hor⟩ := h
  injection hv with e1 e2 e3
  refine ⟨_, c', rfl, by rw [Fs.drop_len]; exact hc, ?_⟩
  rcases hor with h | ⟨b', o', h1, h2, h3, h4⟩
  · left; rw [Fs.drop_len]; omega
  · rw [← e1] at h1
    injection h1 with h1
    injection h1 with h5 h6
    subst h5 h6
    exact .inr ⟨b, o + k * 5, rfl, h2, h3, h4.drop k⟩
end
end Go.PM
end
