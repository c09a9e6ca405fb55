/-
  Texts of the proof, joined: PlainDescr PlainPrefix PlainPack PlainKinds Mem Sl Row. Conditions: as each names.
-/
import Derived.Test.YtgidfnhfgiehjaaGreatDoorXTopBurstaa
import Derived.WalkKit
import Derived.Laws.OwnMore
import Derived.Deep.Draws
import Derived.Laws.AppendOwn
import Derived.OwnWalk
import Derived.Laws.IdiomStrings

section
namespace Go.PM
open Go.Lib (compareBytes)
/-- An entry: key, value. -/
abbrev Ent := List UInt8 × List UInt8
def ecm (a b : Ent) : Int := ecmp a.1 a.2 b.1 b.2
theorem ecm_neg (a b : Ent) : ecm b a = - ecm a b := ecmp_neg _ _ _ _
theorem ecm_iff (a b : Ent) : ecm a b = 0 ↔ a = b := by
  unfold ecm
  rw [ecmp_iff, Prod.ext_iff]
theorem ecm_trans {a b c : Ent} (h : ecm a b < 0) (k : ecm b c < 0) : ecm a c < 0 := ecmp_trans _ _ _ _ _ _ h k
theorem ecm_le_trans {a b c : Ent} (h : ecm a b ≤ 0) (k : ecm b c ≤ 0) : ecm a c ≤ 0 := by
  by_cases h0 : ecm a b = 0
  · rw [(ecm_iff a b).1 h0]; exact k
  by_cases k0 : ecm b c = 0
  · rw [← (ecm_iff b c).1 k0]; exact h
  · have := ecm_trans (a := a) (b := b) (c := c) (by omega) (by omega); omega
def eins (x : Ent) : List Ent → List Ent
  | [] => [x]
  | y :: r => if ecm y x < 0 then y :: eins x r else x :: y :: r
def efold : List Ent → List Ent → List Ent
  | acc, [] => acc
  | acc, x :: r => efold (eins x acc) r
def esort (l : List Ent) : List Ent := efold [] l
theorem eins_perm (x : Ent) : ∀ l : List Ent, (eins x l).Perm (x :: l)
  | [] => List.Perm.refl _
  | y :: r => by
    rw [eins]
    split
    · exact ((eins_perm x r).cons y).trans (List.Perm.swap x y r)
    · exact List.Perm.refl _
theorem efold_perm : ∀ (l acc : List Ent), (efold acc l).Perm (acc ++ l)
  | [], acc => by rw [efold, List.append_nil]
  | x :: r, acc => by
    rw [efold]
    exact (efold_perm r _).trans (((eins_perm x acc).append_right r).trans List.perm_middle.symm)
theorem esort_perm (l : List Ent) : (esort l).Perm l := efold_perm l []
theorem eins_le (x : Ent) : ∀ l : List Ent, l.Pairwise (fun a b => ecm a b ≤ 0) → (eins x l).Pairwise (fun a b => ecm a b ≤ 0)
  | [], _ => by simp [eins]
  | y :: r, h => by
    rw [List.pairwise_cons] at h
    rw [eins]
    split
    · rename_i hlt
      rw [List.pairwise_cons]
      refine ⟨fun b hb => ?_, eins_le x r h.2⟩
      rcases List.mem_cons.1 ((eins_perm x r).mem_iff.1 hb) with rfl | hb
      · omega
      · exact h.1 b hb
    · rename_i hlt
      rw [List.pairwise_cons]
      have hxy : ecm x y ≤ 0 := by have := ecm_neg x y; omega
      refine ⟨fun b hb => ?_, by rw [List.pairwise_cons]; exact h⟩
      rcases List.mem_cons.1 hb with rfl | hb
      · exact hxy
      · exact ecm_le_trans hxy (h.1 b hb)
theorem efold_le : ∀ (l acc : List Ent), acc.Pairwise (fun a b => ecm a b ≤ 0) → (efold acc l).Pairwise (fun a b => ecm a b ≤ 0)
  | [], _, h => h
  | x :: r, acc, h => by rw [efold]; exact efold_le r _ (eins_le x acc h)
theorem esort_le (l : List Ent) : (esort l).Pairwise (fun a b => ecm a b ≤ 0) := efold_le l [] List.Pairwise.nil
/-- Lists in order, of the same elements, are one. -/
theorem eord_one : ∀ l l' : List Ent, l.Perm l' → l.Pairwise (fun a b => ecm a b ≤ 0) → l'.Pairwise (fun a b => ecm a b ≤ 0) → l = l'
  | [], l', hp, _, _ => (List.nil_perm.1 hp).symm
  | x :: r, [], hp, _, _ => absurd (List.perm_nil.1 hp) (by simp)
  | x :: r, y :: s, hp, h, h' => by
    rw [List.pairwise_cons] at h h'
    have hx : x ∈ y :: s := hp.mem_iff.1 (by simp)
    have hy : y ∈ x :: r := hp.mem_iff.2 (by simp)
    have e : x = y := by
      rcases List.mem_cons.1 hx with e | hx
      · exact e
      rcases List.mem_cons.1 hy with e | hy
      · exact e.symm
      have h1 := h'.1 x hx
      have h2 := h.1 y hy
      have h3 := ecm_neg x y
      exact (ecm_iff x y).1 (by omega)
    subst e
    rw [eord_one r s (List.Perm.cons_inv hp) h.2 h'.2]
theorem esort_of {l l' : List Ent} (hp : l.Perm l') (hs : l'.Pairwise (fun a b => ecm a b ≤ 0)) : l' = esort l := eord_one l' _ (hp.symm.trans (esort_perm l).symm) hs (esort_le l)
/-- How many entries there may be. -/
def dmany (n : Nat) : Int := if n = 0 then 12 else if 16 < n then 13 else 0
/-- May a key stand behind another one? -/
def dbeh (a k : List UInt8) : Int := if k = a then 14 else if compareBytes k a < 0 then 7 else 0
def dbehO : Option (List UInt8) → List UInt8 → Int
  | none, _ => 0
  | some a, k => dbeh a k
section
variable (chk : List UInt8 → List UInt8 → Int)
def dchk1 : Option (List UInt8) → List Ent → Int
  | _, [] => 0
  | p, e :: r => if chk e.1 e.2 ≠ 0 then chk e.1 e.2 else if dbehO p e.1 ≠ 0 then dbehO p e.1 else dchk1 (some e.1) r
def dchk (l : List Ent) : Int := if dmany l.length ≠ 0 then dmany l.length else dchk1 chk none l
def dall : List Ent → Int
  | [] => 0
  | e :: r => if chk e.1 e.2 ≠ 0 then chk e.1 e.2 else dall r
/-- Do two neighbours have one key? -/
def dtw : List Ent → Bool
  | a :: b :: r => decide (b.1 = a.1) || dtw (b :: r)
  | _ => false
def dof (l : List Ent) : List Ent × Int :=
  if dmany l.length ≠ 0 then ([], dmany l.length) else if dall chk l ≠ 0 then ([], dall chk l) else if dtw (esort l) = true then ([], 14) else (esort l, 0)
def dkeyL (l : List Ent) : List UInt8 := (l.map fun e => eput e.1 e.2).flatten
def dkey (l : List Ent) : List UInt8 := vput l.length ++ dkeyL l
def dloop : Nat → Option (List UInt8) → List UInt8 → List Ent × Nat × Int
  | 0, _, _ => ([], 0, 0)
  | n + 1, p, s =>
    if (enx chk s).2.2 ≠ 0 then ([], 0, (enx chk s).2.2) else if dbehO p (enx chk s).1.1 ≠ 0 then ([], 0, dbehO p (enx chk s).1.1)
    else if (dloop n (some (enx chk s).1.1) (s.drop (enx chk s).2.1)).2.2 ≠ 0 then ([], 0, (dloop n (some (enx chk s).1.1) (s.drop (enx chk s).2.1)).2.2)
    else ((enx chk s).1 :: (dloop n (some (enx chk s).1.1) (s.drop (enx chk s).2.1)).1, (enx chk s).2.1 + (dloop n (some (enx chk s).1.1) (s.drop (enx chk s).2.1)).2.1, 0)
def dnext (s : List UInt8) : List Ent × Nat × Int :=
  if (vget s).2.2 ≠ 0 then ([], 0, ((vget s).2.2 : Int)) else if dmany (vget s).1 ≠ 0 then ([], 0, dmany (vget s).1)
  else if (dloop chk (vget s).1 none (s.drop (vget s).2.1)).2.2 ≠ 0 then ([], 0, (dloop chk (vget s).1 none (s.drop (vget s).2.1)).2.2)
  else ((dloop chk (vget s).1 none (s.drop (vget s).2.1)).1, (vget s).2.1 + (dloop chk (vget s).1 none (s.drop (vget s).2.1)).2.1, 0)
def dparse (s : List UInt8) : List Ent × Int := if (dnext chk s).2.2 ≠ 0 then ([], (dnext chk s).2.2) else if (dnext chk s).2.1 < s.length then ([], 10) else ((dnext chk s).1, 0)
variable {chk}
theorem dchk1_all : ∀ {l : List Ent} {p : Option (List UInt8)}, dchk1 chk p l = 0 → dall chk l = 0
  | [], _, _ => rfl
  | e :: r, p, h => by
    rw [dchk1] at h
    rw [dall]
    split at h
    · rename_i k; exact absurd h k
    · rename_i k
      rw [if_neg k]
      split at h
      · rename_i k; exact absurd h k
      · exact dchk1_all h
theorem dbeh_lt {a k : List UInt8} (h : dbeh a k = 0) : compareBytes a k < 0 := by
  unfold dbeh at h
  split at h
  · exact absurd h (by decide)
  · rename_i e
    split at h
    · exact absurd h (by decide)
    · have h1 := cmpB_neg a k
      have h2 : compareBytes a k ≠ 0 := fun e' => e ((cmpB_iff a k).1 e').symm
      omega
theorem dbeh_of {a k : List UInt8} (h : compareBytes a k < 0) : dbeh a k = 0 := by
  have h1 := cmpB_neg a k
  unfold dbeh
  rw [if_neg (fun e => by rw [e, cmpB_self] at h; omega), if_neg (by omega)]
theorem dall_iff : ∀ m : List Ent, dall chk m = 0 ↔ ∀ e ∈ m, chk e.1 e.2 = 0
  | [] => by simp [dall]
  | e :: r => by
    rw [dall]
    by_cases k : chk e.1 e.2 = 0
    · rw [if_neg (by omega), dall_iff r]; simp [k]
    · rw [if_pos k]; simp [k]
theorem dloop_ok : ∀ (n : Nat) (p : Option (List UInt8)) (s : List UInt8), (dloop chk n p s).2.2 = 0 →
    (dloop chk n p s).2.1 ≤ s.length ∧ s.take (dloop chk n p s).2.1 = dkeyL (dloop chk n p s).1 ∧ (dloop chk n p s).1.length = n ∧ dchk1 chk p (dloop chk n p s).1 = 0
  | 0, p, s, _ => by simp [dloop, dkeyL, dchk1]
  | n + 1, p, s, h => by
    rw [dloop] at h ⊢
    split at h
    · rename_i k; exact absurd h k
    rename_i k1
    rw [if_neg k1]
    split at h
    · rename_i k; exact absurd h k
    rename_i k2
    rw [if_neg k2]
    split at h
    · rename_i k; exact absurd h k
    rename_i k3
    rw [if_neg k3]
    obtain ⟨a1, a2, a3, a4⟩ := enx_ok (chk := chk) (s := s) (by omega)
    obtain ⟨b1, b2, b3, b4⟩ := dloop_ok n (some (enx chk s).1.1) (s.drop (enx chk s).2.1) (by omega)
    rw [List.length_drop] at b1
    simp only
    refine ⟨by omega, ?_, by rw [List.length_cons, b3], ?_⟩
    · rw [List.take_add, a3, b2]
      simp [dkeyL]
    · rw [dchk1, if_neg (by omega), if_neg k2]
      exact b4
theorem dloop_put (r : List UInt8) : ∀ (l : List Ent) (p : Option (List UInt8)), dchk1 chk p l = 0 → (∀ e ∈ l, e.1.length < 18446744073709551616 ∧ e.2.length < 18446744073709551616) → dloop chk l.length p (dkeyL l ++ r) = (l, (dkeyL l).length, 0)
  | [], p, _, _ => by simp [dloop, dkeyL]
  | e :: m, p, h, hl => by
    rw [dchk1] at h
    split at h
    · rename_i k; exact absurd h k
    rename_i k1
    split at h
    · rename_i k; exact absurd h k
    rename_i k2
    have e1 : dkeyL (e :: m) ++ r = eput e.1 e.2 ++ (dkeyL m ++ r) := by simp [dkeyL]
    have e2 := enx_put chk e.1 e.2 (dkeyL m ++ r) (hl e (by simp)).1 (hl e (by simp)).2
    rw [if_neg k1] at e2
    have ih := dloop_put r m (some e.1) h fun x hx => hl x (by simp [hx])
    rw [List.length_cons, dloop, e1, e2]
    simp only
    rw [if_neg (by simp), if_neg k2, List.drop_left, ih]
    simp [dkeyL]
theorem dnext_put (l : List Ent) (r : List UInt8) (h : dchk chk l = 0) (hl : ∀ e ∈ l, e.1.length < 18446744073709551616 ∧ e.2.length < 18446744073709551616) : dnext chk (dkey l ++ r) = (l, (dkey l).length, 0) := by
  unfold dchk at h
  split at h
  · rename_i k; exact absurd h k
  rename_i k
  have hm : l.length ≤ 16 := by
    unfold dmany at k
    by_cases h0 : l.length = 0
    · omega
    by_cases h1 : 16 < l.length
    · rw [if_neg h0, if_pos h1] at k; exact absurd (by decide) k
    · omega
  have e1 : dkey l ++ r = vput l.length ++ (dkeyL l ++ r) := by simp [dkey]
  have e2 := vget_put l.length (by omega) (dkeyL l ++ r)
  have e3 := dloop_put r l none h hl
  unfold dnext
  rw [e1, e2]
  simp only
  rw [if_neg (by simp), if_neg k, ← vput_length, List.drop_left, e3]
  simp [dkey]
theorem dnext_ok {s : List UInt8} (h : (dnext chk s).2.2 = 0) : (dnext chk s).2.1 ≤ s.length ∧ s.take (dnext chk s).2.1 = dkey (dnext chk s).1 ∧ dchk chk (dnext chk s).1 = 0 := by
  unfold dnext at *
  split at h
  · rename_i k; simp at h; exact absurd h k
  rename_i k1
  rw [if_neg k1]
  split at h
  · rename_i k; exact absurd h k
  rename_i k2
  rw [if_neg k2]
  split at h
  · rename_i k; exact absurd h k
  rename_i k3
  rw [if_neg k3]
  obtain ⟨a1, a2, a3, a4, a5⟩ := vget_ok (s := s) (by omega)
  obtain ⟨b1, b2, b3, b4⟩ := dloop_ok (chk := chk) (vget s).1 none (s.drop (vget s).2.1) (by omega)
  rw [List.length_drop] at b1
  simp only
  refine ⟨by omega, ?_, ?_⟩
  · rw [List.take_add, b2, ← a5]
    unfold dkey
    rw [b3]
  · unfold dchk
    rw [b3, if_neg k2]
    exact b4
theorem dparse_ok {s : List UInt8} (h : (dparse chk s).2 = 0) : s = dkey (dparse chk s).1 ∧ dchk chk (dparse chk s).1 = 0 := by
  unfold dparse at *
  split at h
  · rename_i k; exact absurd h k
  rename_i k1
  rw [if_neg k1]
  split at h
  · exact absurd h (by decide)
  rename_i k2
  rw [if_neg k2]
  obtain ⟨a1, a2, a3⟩ := dnext_ok (chk := chk) (s := s) (by omega)
  simp only
  refine ⟨?_, a3⟩
  rw [← a2, List.take_of_length_le (by omega)]
theorem dparse_put {l : List Ent} (h : dchk chk l = 0) (hl : ∀ e ∈ l, e.1.length < 18446744073709551616 ∧ e.2.length < 18446744073709551616) : dparse chk (dkey l) = (l, 0) := by
  have := dnext_put l [] h hl
  rw [List.append_nil] at this
  unfold dparse
  rw [this]
  simp
end
end Go.PM
end

section
namespace Go.PM
open Go.Lib (compareBytes)
/-- How many bytes two texts share from the front on. -/
def pcom : List UInt8 → List UInt8 → Nat
  | a :: x, b :: y => if a = b then pcom x y + 1 else 0
  | _, _ => 0
theorem pcom_le : ∀ a b : List UInt8, pcom a b ≤ a.length ∧ pcom a b ≤ b.length
  | [], _ => by simp [pcom]
  | _ :: _, [] => by simp [pcom]
  | a :: x, b :: y => by
    have := pcom_le x y
    rw [pcom]
    split <;> simp <;> omega
theorem pcom_take : ∀ a b : List UInt8, a.take (pcom a b) = b.take (pcom a b)
  | [], b => by simp [pcom]
  | _ :: _, [] => by simp [pcom]
  | a :: x, b :: y => by
    rw [pcom]
    split
    · rename_i h
      rw [List.take_succ_cons, List.take_succ_cons, pcom_take x y, h]
    · simp
/-- Where the first k are shared, at least k are. -/
theorem pcom_ge : ∀ (k : Nat) (a b : List UInt8), k ≤ a.length → k ≤ b.length → a.take k = b.take k → k ≤ pcom a b
  | 0, _, _, _, _, _ => Nat.zero_le _
  | k + 1, [], _, h, _, _ => by simp at h
  | k + 1, _ :: _, [], _, h, _ => by simp at h
  | k + 1, a :: x, b :: y, h1, h2, h => by
    rw [List.take_succ_cons, List.take_succ_cons] at h
    injection h with h3 h4
    have := pcom_ge k x y (by simpa using h1) (by simpa using h2) h4
    rw [pcom, if_pos h3]
    omega
/-- A text as it is written behind another one. -/
def pone (a s : List UInt8) : List UInt8 := vput (pcom a s) ++ (vput (s.length - pcom a s) ++ s.drop (pcom a s))
/-- Texts that rise, as they are written; the code. -/
def pputL : Option (List UInt8) → List (List UInt8) → List UInt8 × Int
  | _, [] => ([], 0)
  | none, s :: r => (pone [] s ++ (pputL (some s) r).1, (pputL (some s) r).2)
  | some a, s :: r => if compareBytes a s < 0 then (pone a s ++ (pputL (some s) r).1, (pputL (some s) r).2) else ([], 7)
/-- The text that stands next, how many bytes that took, the code. -/
def pnx (o : Option (List UInt8)) (s : List UInt8) : List UInt8 × Nat × Int :=
  if (vget s).2.2 ≠ 0 then ([], 0, ((vget s).2.2 : Int))
  else if (o.getD []).length < (vget s).1 then ([], 0, 23)
  else if (vget (s.drop (vget s).2.1)).2.2 ≠ 0 then ([], 0, ((vget (s.drop (vget s).2.1)).2.2 : Int))
  else if s.length - (vget s).2.1 - (vget (s.drop (vget s).2.1)).2.1 < (vget (s.drop (vget s).2.1)).1 then ([], 0, 1)
  else if o ≠ none ∧ ¬ compareBytes (o.getD []) ((o.getD []).take (vget s).1 ++ (s.drop ((vget s).2.1 + (vget (s.drop (vget s).2.1)).2.1)).take (vget (s.drop (vget s).2.1)).1) < 0 then ([], 0, 7)
  else if (vget s).1 < pcom (o.getD []) ((o.getD []).take (vget s).1 ++ (s.drop ((vget s).2.1 + (vget (s.drop (vget s).2.1)).2.1)).take (vget (s.drop (vget s).2.1)).1) then ([], 0, 23)
  else ((o.getD []).take (vget s).1 ++ (s.drop ((vget s).2.1 + (vget (s.drop (vget s).2.1)).2.1)).take (vget (s.drop (vget s).2.1)).1, (vget s).2.1 + (vget (s.drop (vget s).2.1)).2.1 + (vget (s.drop (vget s).2.1)).1, 0)
theorem pnx_ok {o : Option (List UInt8)} {s : List UInt8} (h : (pnx o s).2.2 = 0) : (pnx o s).2.1 ≤ s.length ∧ s.take (pnx o s).2.1 = pone (o.getD []) (pnx o s).1 ∧ ∀ a, o = some a → compareBytes a (pnx o s).1 < 0 := by
  unfold pnx at *
  split at h
  · rename_i k; simp at h; exact absurd h k
  rename_i k1
  rw [if_neg k1]
  split at h
  · exact absurd h (by decide)
  rename_i k2
  rw [if_neg k2]
  split at h
  · rename_i k; simp at h; exact absurd h k
  rename_i k3
  rw [if_neg k3]
  split at h
  · exact absurd h (by decide)
  rename_i k4
  rw [if_neg k4]
  split at h
  · exact absurd h (by decide)
  rename_i k5
  rw [if_neg k5]
  split at h
  · exact absurd h (by decide)
  rename_i k6
  rw [if_neg k6]
  obtain ⟨a1, a2, a3, a4, a5⟩ := vget_ok (s := s) (by omega)
  obtain ⟨b1, b2, b3, b4, b5⟩ := vget_ok (s := s.drop (vget s).2.1) (by omega)
  rw [List.length_drop] at b2
  generalize (vget s).1 = n at *
  generalize (vget s).2.1 = i at *
  generalize (vget (s.drop i)).1 = m at *
  generalize (vget (s.drop i)).2.1 = j at *
  generalize hA : o.getD [] = A at *
  simp only
  have hnA : n ≤ A.length := by omega
  have hl : ((s.drop (i + j)).take m).length = m := by rw [List.length_take, List.length_drop]; omega
  have hge : n ≤ pcom A (A.take n ++ (s.drop (i + j)).take m) := by
    refine pcom_ge n _ _ hnA (by rw [List.length_append, List.length_take]; omega) ?_
    rw [List.take_append_of_le_length (by rw [List.length_take]; omega), List.take_take, Nat.min_self]
  have hc : pcom A (A.take n ++ (s.drop (i + j)).take m) = n := by omega
  refine ⟨by omega, ?_, fun a ha => ?_⟩
  · unfold pone
    rw [hc, List.take_add, List.take_add, List.length_append, hl, List.length_take, Nat.min_eq_left hnA, Nat.add_sub_cancel_left, ← a5, ← b5]
    rw [List.drop_append_of_le_length (by rw [List.length_take]; omega), List.drop_take, Nat.sub_self, List.take_zero, List.nil_append, List.append_assoc]
  · have h1 : o ≠ none := by rw [ha]; simp
    have h2 : A = a := by rw [← hA, ha]; rfl
    have h3 := Decidable.not_and_iff_or_not.1 k5
    rcases h3 with h3 | h3
    · exact absurd h1 h3
    · rw [← h2]
      exact Decidable.not_not.1 h3
theorem pnx_put (o : Option (List UInt8)) (t r : List UInt8) (ho : ∀ a, o = some a → compareBytes a t < 0 ∧ a.length < 18446744073709551616) (ht : t.length < 18446744073709551616) : pnx o (pone (o.getD []) t ++ r) = (t, (pone (o.getD []) t).length, 0) := by
  generalize hA : o.getD [] = A at *
  have hcl := pcom_le A t
  have hct := pcom_take A t
  have e0 : pone A t ++ r = vput (pcom A t) ++ (vput (t.length - pcom A t) ++ (t.drop (pcom A t) ++ r)) := by simp [pone]
  have e1 := vget_put (pcom A t) (by omega) (vput (t.length - pcom A t) ++ (t.drop (pcom A t) ++ r))
  have e2 := vget_put (t.length - pcom A t) (by omega) (t.drop (pcom A t) ++ r)
  have hdl : (t.drop (pcom A t)).length = t.length - pcom A t := List.length_drop
  unfold pnx
  rw [e0, e1, hA]
  simp only
  rw [if_neg (by simp), if_neg (by omega), ← vput_length, List.drop_left, e2]
  simp only
  rw [← vput_length (t.length - pcom A t), ← List.drop_drop, List.drop_left, List.drop_left, List.take_append_of_le_length (by omega), List.take_of_length_le (by omega : (t.drop (pcom A t)).length ≤ t.length - pcom A t), hct, List.take_append_drop]
  rw [if_neg (by simp), if_neg (by simp only [List.length_append]; omega), if_neg (by
    rintro ⟨h1, h2⟩
    cases o with
    | none => exact h1 rfl
    | some a =>
      have h3 : A = a := hA.symm
      rw [h3] at h2
      exact h2 (ho a rfl).1), if_neg (by omega)]
  simp [pone, hdl]
  omega
end Go.PM
end

section
namespace Go.PM
open Go.Lib (compareBytes)
/-- A counter: what it is of, and how many. -/
abbrev Rw := List Ent × Nat
section
variable (chk : List UInt8 → List UInt8 → Int)
def rwchk (r : Rw) : Int := if dchk chk r.1 ≠ 0 then dchk chk r.1 else if r.2 = 0 then 18 else 0
def tchk1 : Option (List UInt8) → List Rw → Int
  | _, [] => 0
  | p, r :: m => if rwchk chk r ≠ 0 then rwchk chk r else if dbehO p (dkey r.1) ≠ 0 then dbehO p (dkey r.1) else tchk1 (some (dkey r.1)) m
def tchk (l : List Rw) : Int := if 256 < l.length then 13 else tchk1 chk none l
/-- The rows of a table, as they are written behind a key. -/
def pkrows : List UInt8 → List Rw → List UInt8
  | _, [] => []
  | a, r :: m => pone a (dkey r.1) ++ (vput r.2 ++ pkrows (dkey r.1) m)
def pktext (l : List Rw) : List UInt8 := vput l.length ++ pkrows [] l
def pkput (l : List Rw) : List UInt8 × Int := if tchk chk l ≠ 0 then ([], tchk chk l) else (pktext l, 0)
/-- A row whose key was read: its number stands next. -/
def pkrow (key s : List UInt8) : Rw × Nat × Int :=
  if (dparse chk key).2 ≠ 0 then (([], 0), 0, (dparse chk key).2) else if (vget s).2.2 ≠ 0 then (([], 0), 0, ((vget s).2.2 : Int))
  else if (vget s).1 = 0 then (([], 0), 0, 17) else (((dparse chk key).1, (vget s).1), (vget s).2.1, 0)
def pkloop : Nat → Option (List UInt8) → List UInt8 → List Rw × Nat × Int
  | 0, _, _ => ([], 0, 0)
  | n + 1, o, s =>
    if (pnx o s).2.2 ≠ 0 then ([], 0, (pnx o s).2.2) else if (pkrow chk (pnx o s).1 (s.drop (pnx o s).2.1)).2.2 ≠ 0 then ([], 0, (pkrow chk (pnx o s).1 (s.drop (pnx o s).2.1)).2.2)
    else if (pkloop n (some (pnx o s).1) (s.drop ((pnx o s).2.1 + (pkrow chk (pnx o s).1 (s.drop (pnx o s).2.1)).2.1))).2.2 ≠ 0 then ([], 0, (pkloop n (some (pnx o s).1) (s.drop ((pnx o s).2.1 + (pkrow chk (pnx o s).1 (s.drop (pnx o s).2.1)).2.1))).2.2)
    else ((pkrow chk (pnx o s).1 (s.drop (pnx o s).2.1)).1 :: (pkloop n (some (pnx o s).1) (s.drop ((pnx o s).2.1 + (pkrow chk (pnx o s).1 (s.drop (pnx o s).2.1)).2.1))).1,
      (pnx o s).2.1 + (pkrow chk (pnx o s).1 (s.drop (pnx o s).2.1)).2.1 + (pkloop n (some (pnx o s).1) (s.drop ((pnx o s).2.1 + (pkrow chk (pnx o s).1 (s.drop (pnx o s).2.1)).2.1))).2.1, 0)
def pknext (s : List UInt8) : List Rw × Nat × Int :=
  if (vget s).2.2 ≠ 0 then ([], 0, ((vget s).2.2 : Int)) else if 256 < (vget s).1 then ([], 0, 13)
  else if (pkloop chk (vget s).1 none (s.drop (vget s).2.1)).2.2 ≠ 0 then ([], 0, (pkloop chk (vget s).1 none (s.drop (vget s).2.1)).2.2)
  else ((pkloop chk (vget s).1 none (s.drop (vget s).2.1)).1, (vget s).2.1 + (pkloop chk (vget s).1 none (s.drop (vget s).2.1)).2.1, 0)
def pkget (s : List UInt8) : List Rw × Int := if (pknext chk s).2.2 ≠ 0 then ([], (pknext chk s).2.2) else if (pknext chk s).2.1 < s.length then ([], 10) else ((pknext chk s).1, 0)
variable {chk}
theorem pkrow_ok {key s : List UInt8} (h : (pkrow chk key s).2.2 = 0) : (pkrow chk key s).2.1 ≤ s.length ∧ dkey (pkrow chk key s).1.1 = key ∧ s.take (pkrow chk key s).2.1 = vput (pkrow chk key s).1.2 ∧ rwchk chk (pkrow chk key s).1 = 0 ∧ (pkrow chk key s).1.2 < 18446744073709551616 := by
  unfold pkrow at *
  split at h
  · rename_i k; exact absurd h k
  rename_i k1
  rw [if_neg k1]
  split at h
  · rename_i k; simp at h; exact absurd h k
  rename_i k2
  rw [if_neg k2]
  split at h
  · exact absurd h (by decide)
  rename_i k3
  rw [if_neg k3]
  obtain ⟨a1, a2, a3, a4, a5⟩ := vget_ok (s := s) (by omega)
  obtain ⟨d1, d2⟩ := dparse_ok (chk := chk) (s := key) (by omega)
  simp only
  refine ⟨by omega, d1.symm, a5.symm, ?_, by omega⟩
  unfold rwchk
  rw [if_neg (by rw [d2]; simp), if_neg k3]
theorem pkloop_ok : ∀ (n : Nat) (o : Option (List UInt8)) (s : List UInt8), (pkloop chk n o s).2.2 = 0 →
    (pkloop chk n o s).2.1 ≤ s.length ∧ s.take (pkloop chk n o s).2.1 = pkrows (o.getD []) (pkloop chk n o s).1 ∧ (pkloop chk n o s).1.length = n ∧ tchk1 chk o (pkloop chk n o s).1 = 0
  | 0, o, s, _ => by simp [pkloop, pkrows, tchk1]
  | n + 1, o, s, h => by
    rw [pkloop] at h ⊢
    split at h
    · rename_i k; exact absurd h k
    rename_i k1
    rw [if_neg k1]
    split at h
    · rename_i k; exact absurd h k
    rename_i k2
    rw [if_neg k2]
    split at h
    · rename_i k; exact absurd h k
    rename_i k3
    rw [if_neg k3]
    obtain ⟨a1, a2, a3⟩ := pnx_ok (o := o) (s := s) (by omega)
    obtain ⟨b1, b2, b3, b4, b5⟩ := pkrow_ok (chk := chk) (key := (pnx o s).1) (s := s.drop (pnx o s).2.1) (by omega)
    obtain ⟨c1, c2, c3, c4⟩ := pkloop_ok n (some (pnx o s).1) (s.drop ((pnx o s).2.1 + (pkrow chk (pnx o s).1 (s.drop (pnx o s).2.1)).2.1)) (by omega)
    rw [List.length_drop] at b1 c1
    simp only
    refine ⟨by omega, ?_, by rw [List.length_cons, c3], ?_⟩
    · rw [pkrows, List.take_add, List.take_add, a2, b3, b2, c2]
      simp
    · rw [tchk1, if_neg (by omega), b2]
      have hb : dbehO o (pnx o s).1 = 0 := by
        cases o with
        | none => rfl
        | some a => exact dbeh_of (a3 a rfl)
      rw [if_neg (by omega)]
      exact c4
theorem pkloop_put (r : List UInt8) : ∀ (l : List Rw) (o : Option (List UInt8)), tchk1 chk o l = 0 → (∀ x ∈ l, x.2 < 18446744073709551616 ∧ (dkey x.1).length < 18446744073709551616 ∧ ∀ e ∈ x.1, e.1.length < 18446744073709551616 ∧ e.2.length < 18446744073709551616) →
    (∀ a, o = some a → a.length < 18446744073709551616) → pkloop chk l.length o (pkrows (o.getD []) l ++ r) = (l, (pkrows (o.getD []) l).length, 0)
  | [], o, _, _, _ => by simp [pkloop, pkrows]
  | x :: m, o, h, hl, ho => by
    rw [tchk1] at h
    split at h
    · rename_i k; exact absurd h k
    rename_i k1
    split at h
    · rename_i k; exact absurd h k
    rename_i k2
    obtain ⟨hx1, hx2, hx3⟩ := hl x (by simp)
    have hr1 : dchk chk x.1 = 0 ∧ x.2 ≠ 0 := by
      unfold rwchk at k1
      by_cases hd : dchk chk x.1 ≠ 0
      · rw [if_pos hd] at k1; exact absurd hd k1
      · rw [if_neg hd] at k1
        by_cases h0 : x.2 = 0
        · rw [if_pos h0] at k1; exact absurd (by decide) k1
        · exact ⟨by omega, h0⟩
    have e1 : pkrows (o.getD []) (x :: m) ++ r = pone (o.getD []) (dkey x.1) ++ (vput x.2 ++ (pkrows (dkey x.1) m ++ r)) := by simp [pkrows]
    have e2 := pnx_put o (dkey x.1) (vput x.2 ++ (pkrows (dkey x.1) m ++ r)) (fun a ha => ⟨by
      subst ha
      exact dbeh_lt (by have : dbehO (some a) (dkey x.1) = dbeh a (dkey x.1) := rfl; omega), ho a ha⟩) hx2
    have e3 : pkrow chk (dkey x.1) (vput x.2 ++ (pkrows (dkey x.1) m ++ r)) = (x, (vput x.2).length, 0) := by
      have g1 := dparse_put (chk := chk) hr1.1 hx3
      have g2 := vget_put x.2 hx1 (pkrows (dkey x.1) m ++ r)
      unfold pkrow
      rw [g1, g2]
      simp only
      rw [if_neg (by simp), if_neg (by simp), if_neg hr1.2, vput_length]
    have ih := pkloop_put r m (some (dkey x.1)) h (fun y hy => hl y (by simp [hy])) (fun a ha => by injection ha with ha; rw [← ha]; exact hx2)
    rw [Option.getD_some] at ih
    rw [List.length_cons, pkloop, e1, e2]
    simp only
    rw [if_neg (by simp), List.drop_left, e3]
    simp only
    rw [if_neg (by simp), ← List.drop_drop, List.drop_left, List.drop_left, ih]
    simp [pkrows, Nat.add_assoc]
theorem tchk_len {l : List Rw} (h : tchk chk l = 0) : l.length ≤ 256 ∧ tchk1 chk none l = 0 := by
  unfold tchk at h
  split at h
  · exact absurd h (by decide)
  · exact ⟨by omega, h⟩
theorem pknext_put (l : List Rw) (r : List UInt8) (h : tchk chk l = 0) (hl : ∀ x ∈ l, x.2 < 18446744073709551616 ∧ (dkey x.1).length < 18446744073709551616 ∧ ∀ e ∈ x.1, e.1.length < 18446744073709551616 ∧ e.2.length < 18446744073709551616) :
    pknext chk (pktext l ++ r) = (l, (pktext l).length, 0) := by
  obtain ⟨h1, h2⟩ := tchk_len h
  have e1 : pktext l ++ r = vput l.length ++ (pkrows [] l ++ r) := by simp [pktext]
  have e2 := vget_put l.length (by omega) (pkrows [] l ++ r)
  have e3 := pkloop_put r l none h2 hl (fun a ha => by cases ha)
  rw [Option.getD_none] at e3
  unfold pknext
  rw [e1, e2]
  simp only
  rw [if_neg (by simp), if_neg (by omega), ← vput_length, List.drop_left, e3]
  simp [pktext]
theorem pkget_put {l : List Rw} (h : tchk chk l = 0) (hl : ∀ x ∈ l, x.2 < 18446744073709551616 ∧ (dkey x.1).length < 18446744073709551616 ∧ ∀ e ∈ x.1, e.1.length < 18446744073709551616 ∧ e.2.length < 18446744073709551616) : pkget chk (pktext l) = (l, 0) := by
  have := pknext_put l [] h hl
  rw [List.append_nil] at this
  unfold pkget
  rw [this]
  simp
theorem pknext_ok {s : List UInt8} (h : (pknext chk s).2.2 = 0) : (pknext chk s).2.1 ≤ s.length ∧ s.take (pknext chk s).2.1 = pktext (pknext chk s).1 ∧ tchk chk (pknext chk s).1 = 0 := by
  unfold pknext at *
  split at h
  · rename_i k; simp at h; exact absurd h k
  rename_i k1
  rw [if_neg k1]
  split at h
  · exact absurd h (by decide)
  rename_i k2
  rw [if_neg k2]
  split at h
  · rename_i k; exact absurd h k
  rename_i k3
  rw [if_neg k3]
  obtain ⟨a1, a2, a3, a4, a5⟩ := vget_ok (s := s) (by omega)
  obtain ⟨b1, b2, b3, b4⟩ := pkloop_ok (chk := chk) (vget s).1 none (s.drop (vget s).2.1) (by omega)
  rw [List.length_drop] at b1
  rw [Option.getD_none] at b2
  simp only
  refine ⟨by omega, ?_, ?_⟩
  · rw [List.take_add, b2, ← a5]
    unfold pktext
    rw [b3]
  · unfold tchk
    rw [b3, if_neg k2]
    exact b4
theorem pkget_ok {s : List UInt8} (h : (pkget chk s).2 = 0) : s = pktext (pkget chk s).1 ∧ tchk chk (pkget chk s).1 = 0 := by
  unfold pkget at *
  split at h
  · rename_i k; exact absurd h k
  rename_i k1
  rw [if_neg k1]
  split at h
  · exact absurd h (by decide)
  rename_i k2
  rw [if_neg k2]
  obtain ⟨a1, a2, a3⟩ := pknext_ok (chk := chk) (s := s) (by omega)
  simp only
  refine ⟨?_, a3⟩
  rw [← a2, List.take_of_length_le (by omega)]
end
end Go.PM
end

section
namespace Go.PM
/-- A field of a kind: its tag, its use, from which version on, its name. -/
structure Sp where
  tag : Nat
  use : Nat
  from_ : Nat
  nm : List UInt8
  deriving DecidableEq
def nmAt : Nat → List UInt8
  | 0 => [97, 108, 108, 111, 119, 101, 100]
  | 1 => [98, 97, 115, 101]
  | 2 => [99, 104, 111, 115, 101, 110]
  | 3 => [99, 111, 100, 101]
  | 4 => [99, 111, 115, 116]
  | 5 => [100, 101, 97, 100, 108, 105, 110, 101]
  | 6 => [100, 101, 115, 99, 114]
  | 7 => [100, 105, 103, 101, 115, 116]
  | 8 => [101, 112, 111, 99, 104]
  | 9 => [102, 108, 97, 103, 115]
  | 10 => [105, 100]
  | 11 => [108, 97, 103]
  | 12 => [109, 97, 120]
  | 13 => [109, 105, 110]
  | 14 => [110, 97, 109, 101]
  | 15 => [110, 111, 116, 101]
  | 16 => [112, 114, 105, 111, 114, 105, 116, 121]
  | 17 => [114, 101, 103, 105, 111, 110]
  | 18 => [114, 101, 109, 97, 105, 110, 105, 110, 103]
  | 19 => [114, 101, 116, 114, 121]
  | 20 => [116, 97, 98, 108, 101]
  | 21 => [119, 97, 110, 116]
  | _ => []
/-- All names, in order. -/
def mnames : List (List UInt8) := (List.range 22).map nmAt
def kspecs : Nat → List Sp
  | 1 => [⟨1, 0, 1, nmAt 13⟩, ⟨2, 0, 1, nmAt 12⟩, ⟨3, 3, 1, nmAt 14⟩, ⟨4, 3, 2, nmAt 17⟩, ⟨5, 0, 3, nmAt 9⟩]
  | 2 => [⟨1, 0, 1, nmAt 2⟩, ⟨2, 3, 1, nmAt 14⟩, ⟨3, 3, 2, nmAt 17⟩]
  | 3 => [⟨1, 0, 1, nmAt 10⟩, ⟨2, 4, 1, nmAt 6⟩, ⟨3, 0, 1, nmAt 4⟩, ⟨4, 0, 2, nmAt 16⟩, ⟨5, 0, 3, nmAt 5⟩]
  | 4 => [⟨1, 0, 1, nmAt 10⟩, ⟨2, 1, 1, nmAt 0⟩, ⟨3, 2, 1, nmAt 18⟩, ⟨4, 0, 2, nmAt 19⟩, ⟨5, 3, 3, nmAt 15⟩]
  | 5 => [⟨1, 0, 1, nmAt 8⟩, ⟨2, 5, 1, nmAt 20⟩, ⟨3, 3, 2, nmAt 17⟩, ⟨4, 0, 3, nmAt 7⟩]
  | 6 => [⟨1, 0, 2, nmAt 1⟩, ⟨2, 0, 2, nmAt 8⟩, ⟨3, 5, 2, nmAt 20⟩, ⟨4, 3, 2, nmAt 17⟩, ⟨5, 0, 3, nmAt 7⟩]
  | 7 => [⟨1, 0, 1, nmAt 8⟩, ⟨2, 0, 3, nmAt 11⟩]
  | 8 => [⟨1, 0, 1, nmAt 8⟩, ⟨2, 0, 1, nmAt 3⟩, ⟨3, 0, 2, nmAt 21⟩, ⟨4, 3, 3, nmAt 15⟩]
  | _ => []
def kname : Nat → List UInt8
  | 1 => [72, 101, 108, 108, 111]
  | 2 => [72, 101, 108, 108, 111, 65, 99, 107]
  | 3 => [67, 104, 101, 99, 107, 82, 101, 113, 117, 101, 115, 116]
  | 4 => [67, 104, 101, 99, 107, 82, 101, 115, 112, 111, 110, 115, 101]
  | 5 => [70, 117, 108, 108, 83, 110, 97, 112, 115, 104, 111, 116]
  | 6 => [68, 101, 108, 116, 97, 83, 110, 97, 112, 115, 104, 111, 116]
  | 7 => [65, 99, 107]
  | 8 => [82, 101, 106, 101, 99, 116]
  | _ => []
def kfrom (k : Nat) : Nat := if k = 6 then 2 else if 1 ≤ k ∧ k ≤ 8 then 1 else 0
/-- What is known of a kind at a version. -/
def kknown (k v : Nat) : List Sp := (kspecs k).filter fun s => decide (s.from_ ≤ v)
def ktags (k v : Nat) : List Nat := (kknown k v).map Sp.tag
/-- A kind within those that are known. -/
def knat (k : Int) : Nat := if 1 ≤ k ∧ k ≤ 8 then k.toNat else 0
theorem knat_of {k : Nat} (h1 : 1 ≤ k) (h8 : k ≤ 8) : knat (k : Int) = k := by
  unfold knat
  rw [if_pos (by omega)]
  omega
end Go.PM
end

section
namespace Go.PM
open Go.RowKit
/-- Within uint64, within int: behind a name, for a walk does not bear so long a numeral among its facts. -/
def In64 (n : Nat) : Prop := n < 18446744073709551616
def In63 (n : Nat) : Prop := n < 9223372036854775808
def InI64 (n : Int) : Prop := -9223372036854775808 ≤ n ∧ n ≤ 9223372036854775807
theorem In64.out {n : Nat} (h : In64 n) : n < 18446744073709551616 := h
theorem In63.out {n : Nat} (h : In63 n) : n < 9223372036854775808 := h
/-! ### A block known whole -/
def BlkAt (w : World) (g : Nat) (t : TypeId) (cs : Array Value) : Prop := w.heap[g]? = some (.cells cs t (0, 0))
section
variable {w w' : World} {g : Nat} {t : TypeId} {cs : Array Value}
theorem BlkAt.lt (h : BlkAt w g t cs) : g < w.heap.size := by
  rcases Nat.lt_or_ge g w.heap.size with hl | hl
  · exact hl
  · unfold BlkAt at h
    rw [Array.getElem?_eq_none hl] at h
    cases h
theorem BlkAt.cell (h : BlkAt w g t cs) (i : Nat) : w.cell? ⟨g, i, none⟩ = cs[i]? := cell_of_row w g i cs t (0, 0) h
theorem BlkAt.free (h : BlkAt w g t cs) (i : Nat) : w.frozen? ⟨g, i, none⟩ = false := by
  unfold BlkAt at h
  simp [World.frozen?, h]
theorem BlkAt.made (w : World) (t : TypeId) (cs : Array Value) : BlkAt (w.alloc (.cells cs t)) w.heap.size t cs := heap_alloc_new w _
theorem BlkAt.step (h : BlkAt w g t cs) {row : Option Nat} (hb : w.grownBy w' row) (hg : some g ≠ row) : BlkAt w' g t cs := (hb.block g h.lt hg).trans h
theorem BlkAt.below {B : Nat} (h : BlkAt w g t cs) (hb : Below B w w') (hg : g < B) : BlkAt w' g t cs := (hb.block g hg).trans h
theorem BlkAt.drn (h : BlkAt w g t cs) (n : Nat) : BlkAt (w.drewN n) g t cs := h
theorem BlkAt.dr (h : BlkAt w g t cs) : BlkAt w.drew g t cs := h
theorem BlkAt.more (h : BlkAt w g t cs) (o : Obj) : BlkAt (w.alloc o) g t cs := (Below.heap_alloc w o g h.lt).trans h
theorem BlkAt.put (h : BlkAt w g t cs) (i : Nat) (u : Value) : BlkAt (w.setCell ⟨g, i, none⟩ u) g t (cs.setIfInBounds i u) := by
  unfold BlkAt at h ⊢
  simp [World.setCell, Array.getElem?_modify, h]
theorem BlkAt.far (h : BlkAt w g t cs) {p : Addr} (hp : g ≠ p.block) (u : Value) : BlkAt (w.setCell p u) g t cs := (Below.heap_setCell w p u g hp).trans h
theorem BlkAt.same {cs' : Array Value} (h : BlkAt w g t cs) (h' : BlkAt w g t cs') : cs = cs' := by
  unfold BlkAt at h h'
  rw [h] at h'
  injection h' with h'
  injection h'
theorem BlkAt.apart {g' : Nat} {t' : TypeId} {cs' : Array Value} (h : BlkAt w g t cs) (h' : BlkAt w g' t' cs') (ht : t ≠ t') : g ≠ g' := by
  rintro rfl
  unfold BlkAt at h h'
  rw [h] at h'
  injection h' with h'
  injection h' with _ e
  exact ht e
end
/-! ### What may have turned -/
theorem grown_refl (w : World) (row : Option Nat) : w.grownBy w row := ⟨rfl, rfl, rfl, Nat.le_refl _, fun _ _ _ => rfl⟩
theorem grown_of_below {w w' : World} (h : Below w.heap.size w w') (row : Option Nat) : w.grownBy w' row :=
  ⟨h.os, h.tape, h.output, h.size, fun k hk _ => h.block k hk⟩
theorem below_of_grown {w w' : World} (h : w.grownBy w' none) : Below w.heap.size w w' :=
  ⟨h.os, h.tape, h.output, h.size, fun k hk => h.block k hk (by simp)⟩
theorem below_of_row {B b : Nat} {w w' : World} (h : w.grownBy w' (some b)) (hB : B ≤ b) (hs : B ≤ w.heap.size) : Below B w w' :=
  ⟨h.os, h.tape, h.output, h.size, fun k hk => h.block k (by omega) (by intro e; injection e with e; omega)⟩
theorem grown_trans {a b c : World} {row row' : Option Nat} (h : a.grownBy b row) (k : b.grownBy c row') (hr : ∀ x, row' = some x → x < a.heap.size → row = some x) : a.grownBy c row :=
  ⟨k.os.trans h.os, k.tape.trans h.tape, k.output.trans h.output, Nat.le_trans h.size k.size,
    fun i hi hne => (k.block i (Nat.lt_of_lt_of_le hi h.size) (fun e => hne (hr i e.symm hi).symm)).trans (h.block i hi hne)⟩
theorem grown_put {a w : World} {b : Nat} (h : a.grownBy w (some b)) (i : Nat) (u : Value) : a.grownBy (w.setCell ⟨b, i, none⟩ u) (some b) :=
  ⟨h.os, h.tape, h.output, by simpa [World.setCell] using h.size, fun k hk hne => (Below.heap_setCell w ⟨b, i, none⟩ u k (by rintro rfl; exact hne rfl)).trans (h.block k hk hne)⟩
theorem grown_drn {a w : World} {row : Option Nat} (h : a.grownBy w row) (n : Nat) : a.grownBy (w.drewN n) row := ⟨h.os, h.tape, h.output, h.size, h.block⟩
theorem grown_more {a w : World} {row : Option Nat} (h : a.grownBy w row) (o : Obj) : a.grownBy (w.alloc o) row :=
  ⟨h.os, h.tape, h.output, Nat.le_trans h.size (by simp), fun k hk hne => (Below.heap_alloc w o k (Nat.lt_of_lt_of_le hk h.size)).trans (h.block k hk hne)⟩
theorem below_drewN {B : Nat} {a w : World} (h : Below B a w) (n : Nat) : Below B a (w.drewN n) := ⟨h.os, h.tape, h.output, h.size, h.block⟩
/-- The bytes of a row as values. -/
def bvals (l : List UInt8) : List Value := l.map fun b => .int .u8 (b.toNat : Int)
theorem bvals_at (l : List UInt8) (j : Nat) (hj : j < l.length) : (bvals l)[j]? = some (.int .u8 (l[j].toNat : Int)) := by
  simp [bvals, List.getElem?_eq_getElem hj]
theorem bvals_length (l : List UInt8) : (bvals l).length = l.length := by simp [bvals]
theorem add_at (g j : Nat) : (⟨g, 0, none⟩ : Addr).add j = ⟨g, j, none⟩ := by unfold Addr.add; split <;> simp_all
theorem run_row_string {P : Program} (w : World) (src dst e g n cap : Nat) (cs : Array Value) (l : List UInt8) (hs : P.underlying src = some (.slice e)) (he : P.underlying e = some (.int .u8)) (hd : P.underlying dst = some .string)
    (hg : BlkAt w g e cs) (hn : n = l.length) (hc : cs.toList.take l.length = bvals l) :
    (convert src dst (.slice (some ⟨g, 0, none⟩) n cap)).run P w = .ok (.string ⟨l.toArray⟩) w := by
  subst hn
  refine run_convert_bytes_back w src dst e ⟨g, 0, none⟩ cap l hs he hd fun j hj => ?_
  rw [add_at, hg.cell j]
  have h1 := bvals_at l j hj
  rw [← hc, List.getElem?_take, if_pos hj] at h1
  simpa using h1
theorem ext_list (s : ByteArray) (i j : Nat) : (s.extract i j).data.toList = (s.data.toList.drop i).take (j - i) := by
  simp [ByteArray.data_extract, List.extract_eq_take_drop]
/-! ### Steps of 'below all that was there when it began nothing has turned' -/
section
variable {a w w' : World}
theorem b0 : Below a.heap.size a a := Below.refl _ _
theorem bb (h : Below a.heap.size a w) (k : Below w.heap.size w w') : Below a.heap.size a w' := h.trans (k.mono h.size)
theorem ba (h : Below a.heap.size a w) (o : Obj) : Below a.heap.size a (w.alloc o) := h.alloc h.size o
theorem bg {b : Nat} (h : Below a.heap.size a w) (k : w.grownBy w' (some b)) (hb : a.heap.size ≤ b) : Below a.heap.size a w' := h.trans (below_of_row k hb h.size)
theorem bs {p : Addr} (h : Below a.heap.size a w) (hb : a.heap.size ≤ p.block) (u : Value) : Below a.heap.size a (w.setCell p u) := h.setCell hb u
theorem bn (h : Below a.heap.size a w) (n : Nat) : Below a.heap.size a (w.drewN n) := ⟨h.os, h.tape, h.output, h.size, h.block⟩
theorem bd (h : Below a.heap.size a w) : Below a.heap.size a w.drew := h.drew
end
end Go.PM
end

section
namespace Go.PM
open Go.RowKit
/-- A slice's address from which the cells xs are read. -/
def Rd (w : World) (A : Option Addr) (xs : List Value) : Prop :=
  xs = [] ∨ ∃ b off, A = some ⟨b, off, none⟩ ∧ b < w.heap.size ∧ ∀ j u, xs[j]? = some u → w.cell? ⟨b, off + j, none⟩ = some u
section
variable {w w' : World} {A : Option Addr} {xs : List Value}
theorem Rd.nil (w : World) (A : Option Addr) : Rd w A [] := .inl rfl
theorem Rd.at_ (h : Rd w A xs) {k : Nat} (hk : k < xs.length) : ∃ b off, A = some ⟨b, off, none⟩ ∧ b < w.heap.size ∧ w.cell? ⟨b, off + k, none⟩ = some xs[k] := by
  rcases h with rfl | ⟨b, off, e, hb, hc⟩
  · simp at hk
  · exact ⟨b, off, e, hb, hc k _ (List.getElem?_eq_getElem hk)⟩
theorem Rd.keep (h : Rd w A xs) (hs : w.heap.size ≤ w'.heap.size) (hk : ∀ b off, A = some ⟨b, off, none⟩ → b < w.heap.size → w'.heap[b]? = w.heap[b]?) : Rd w' A xs := by
  rcases h with rfl | ⟨b, off, e, hb, hc⟩
  · exact .inl rfl
  · refine .inr ⟨b, off, e, by omega, fun j u hj => ?_⟩
    rw [World.cell?_of_block (w := w) (hk b off e hb)]
    exact hc j u hj
theorem Rd.below (h : Rd w A xs) (hb : Below w.heap.size w w') : Rd w' A xs := h.keep hb.size fun b _ _ hl => hb.block b hl
theorem Rd.grown (h : Rd w A xs) {row : Option Nat} (hg : w.grownBy w' row) (hne : ∀ b off, A = some ⟨b, off, none⟩ → row ≠ some b) : Rd w' A xs :=
  h.keep hg.size fun b off e hl => hg.block b hl (fun e' => hne b off e e'.symm)
theorem Rd.own {base e n size : Nat} {v : Value} (h : w.ownsRow base e size v n xs) : ∃ A c, v = .slice A n c ∧ Rd w A xs ∧ n ≤ c ∧ (∀ b off, A = some ⟨b, off, none⟩ → v.ownBlock = some b ∧ base ≤ b) := by
  rcases h.2 with ⟨rfl, rfl⟩ | ⟨g, cap, cur, rfl, hb, hg, hn, _⟩
  · refine ⟨none, 0, rfl, ?_, Nat.le_refl _, fun _ _ e => by cases e⟩
    left
    have := h.1
    simpa using this
  · refine ⟨some ⟨g, 0, none⟩, cap, rfl, .inr ⟨g, 0, rfl, (Array.getElem?_eq_some_iff.1 hg).1, fun j u hj => ?_⟩, hn, fun b off e => ?_⟩
    · have := h.cells (g := g) rfl j u hj
      rwa [add_at, ← Nat.zero_add j] at this
    · injection e with e
      injection e with e1 e2
      subst e1
      exact ⟨rfl, hb⟩
end
theorem own_below {w w' : World} {base e size n : Nat} {v : Value} {xs : List Value} (h : w.ownsRow base e size v n xs) (hb : Below w.heap.size w w') : w'.ownsRow base e size v n xs :=
  h.kept (grown_of_below hb none) (by cases v.ownBlock <;> simp)
theorem own_far {w w' : World} {base e size n b : Nat} {v : Value} {xs : List Value} (h : w.ownsRow base e size v n xs) (hg : w.grownBy w' (some b)) (hb : b < base) : w'.ownsRow base e size v n xs :=
  h.kept hg (by
    cases hv : v.ownBlock with
    | none => exact .inl rfl
    | some k => right; intro e; have := (h.lt k hv).1; injection e with e; omega)
theorem below_append {a w w' : World} {e size n : Nat} {v : Value} {xs : List Value} (h : Below a.heap.size a w) (ho : w.ownsRow a.heap.size e size v n xs) (hg : w.grownBy w' v.ownBlock) : Below a.heap.size a w' :=
  h.grown hg h.size (fun k hk => (ho.lt k hk).1)
theorem one_new (w : World) (u : Value) (t : TypeId) : ∀ j x, ([u] : List Value)[j]? = some x → (w.alloc (.cells #[u] t)).cell? ((⟨w.heap.size, 0, none⟩ : Addr).add j) = some x := by
  intro j x hj
  match j, hj with
  | 0, hj =>
    rw [add_at, (BlkAt.made w t #[u]).cell]
    simpa using hj
theorem one_cell_int (k : IntKind) (n : Int) : ∀ u ∈ ([.int k n] : List Value), u.oneCell' = true := by
  intro u hu
  simp at hu
  subst hu
  rfl
theorem one_cell_str (s : ByteArray) : ∀ u ∈ ([.string s] : List Value), u.oneCell' = true := by
  intro u hu
  simp at hu
  subst hu
  rfl
/-- Numbers and texts as values. -/
def u64s (l : List Nat) : List Value := l.map fun n : Nat => .int .u64 (n : Int)
def strs (l : List ByteArray) : List Value := l.map .string
theorem u64s_length (l : List Nat) : (u64s l).length = l.length := by simp [u64s]
theorem strs_length (l : List ByteArray) : (strs l).length = l.length := by simp [strs]
theorem u64s_at (l : List Nat) (k : Nat) (hk : k < l.length) (h : k < (u64s l).length) : (u64s l)[k] = .int .u64 (l[k] : Int) := by simp [u64s]
theorem strs_at (l : List ByteArray) (k : Nat) (hk : k < l.length) (h : k < (strs l).length) : (strs l)[k] = .string l[k] := by simp [strs]
/-- How long a slot's text is. -/
def strLen : Value → Nat | .string s => s.size | _ => 0
/-- A text of bytes. -/
def txt (l : List UInt8) : ByteArray := ⟨l.toArray⟩
theorem txt_list (l : List UInt8) : (txt l).data.toList = l := rfl
theorem txt_size (l : List UInt8) : (txt l).size = l.length := rfl
theorem txt_of (s : ByteArray) : txt s.data.toList = s := rfl
theorem txt_eq {s : ByteArray} {l : List UInt8} (h : s.data.toList = l) : s = txt l := by rw [← h]; rfl
theorem len_list (s : ByteArray) : s.data.toList.length = s.size := by simp
theorem ext_rest (s : ByteArray) (k : Nat) : (s.extract k s.size).data.toList = s.data.toList.drop k := by
  rw [ext_list, List.take_of_length_le]
  rw [List.length_drop, len_list]
  omega
end Go.PM
end

section
namespace Go.PM
open Go.RowKit
def RowAt (w : World) (g : Nat) (l : List UInt8) : Prop :=
  g < w.heap.size ∧ ∀ j (h : j < l.length), w.cell? ⟨g, j, none⟩ = some (.int .u8 (l[j].toNat : Int)) ∧ w.frozen? ⟨g, j, none⟩ = false
section
variable {w w' : World} {g : Nat} {l : List UInt8}
theorem RowAt.made (w : World) (e : TypeId) (s : ByteArray) (cap : Nat) :
    RowAt (w.drew.alloc (.cells (bytesRow s cap) e ((bytesRow s cap).size, (bytesRow s cap).size + 1))) w.heap.size s.data.toList := by
  have hh : (w.drew.alloc (.cells (bytesRow s cap) e ((bytesRow s cap).size, (bytesRow s cap).size + 1))).heap[w.heap.size]? = some (.cells (bytesRow s cap) e ((bytesRow s cap).size, (bytesRow s cap).size + 1)) := heap_alloc_new w.drew _
  refine ⟨by simp, fun j hj => ?_⟩
  have hjs : j < s.data.size := by simpa using hj
  refine ⟨?_, ?_⟩
  · rw [cell_of_row _ _ _ _ _ _ hh, bytesRow_at s cap j hjs]
    simp
  · have hn : s.data.size ≤ (bytesRow s cap).size := by simp [bytesRow]
    unfold World.frozen?
    rw [hh]
    simp
    omega
theorem RowAt.set (h : RowAt w g l) {j : Nat} (hj : j < l.length) (b : UInt8) : RowAt (w.setCell ⟨g, j, none⟩ (.int .u8 (b.toNat : Int))) g (l.set j b) := by
  refine ⟨by simpa [World.setCell] using h.1, fun k hk => ?_⟩
  have hk' : k < l.length := by simpa using hk
  refine ⟨?_, ?_⟩
  · by_cases e : j = k
    · subst e
      rw [World.cell?_setCell_same _ _ _ (h.2 j hj).1]
      simp
    · rw [World.cell?_setCell_other _ _ _ _ (by intro e'; injection e' with _ e'; exact e e'), (h.2 k hk').1]
      simp [e]
  · rw [World.frozen?_setCell]
    exact (h.2 k hk').2
theorem RowAt.below {B : Nat} (h : RowAt w g l) (hb : Below B w w') (hg : g < B) : RowAt w' g l := by
  have e := hb.block g hg
  refine ⟨Nat.lt_of_lt_of_le h.1 hb.size, fun j hj => ⟨?_, ?_⟩⟩
  · rw [← (h.2 j hj).1]
    exact hb.cell (p := ⟨g, j, none⟩) hg
  · rw [← (h.2 j hj).2]
    unfold World.frozen?
    rw [e]
theorem RowAt.at_ (h : RowAt w g l) {j : Nat} (hj : j < l.length) : w.cell? ⟨g, j, none⟩ = some (.int .u8 ((l.getD j 0).toNat : Int)) ∧ w.frozen? ⟨g, j, none⟩ = false := by
  have := h.2 j hj
  rw [List.getD_eq_getElem?_getD, List.getElem?_eq_getElem hj]
  exact this
theorem RowAt.drn (h : RowAt w g l) (n : Nat) : RowAt (w.drewN n) g l := h
theorem RowAt.back {P : Program} (h : RowAt w g l) (src dst e i n cap : Nat) (hs : P.underlying src = some (.slice e)) (he : P.underlying e = some (.int .u8)) (hd : P.underlying dst = some .string) (hn : i + n ≤ l.length) :
    (convert src dst (.slice (some ⟨g, i, none⟩) n cap)).run P w = .ok (.string (txt ((l.drop i).take n))) w := by
  have hl : ((l.drop i).take n).length = n := by simp; omega
  have := run_convert_bytes_back (P := P) w src dst e ⟨g, i, none⟩ cap ((l.drop i).take n) hs he hd fun j hj => by
    have ha : (⟨g, i, none⟩ : Addr).add j = ⟨g, i + j, none⟩ := by unfold Addr.add; split <;> simp_all
    rw [ha, (h.2 (i + j) (by omega)).1]
    simp
  rw [hl] at this
  exact this
end
end Go.PM
end
