/-
  Contracts of layer 5: all frames of a text; two lists of texts held against each other. Conditions: texts of at most a million bytes.
-/
import Derived.Test.YtmlijflappjfoaaDoorRef05
import Derived.Test.YtmlijflappjfoaaDoorVarint2
namespace Go.Proofs.YtmlijflappjfoaaDoor
open Go.RowKit Go.PM
set_option maxRecDepth 100000
set_option maxHeartbeats 4000000

theorem info_str : (Tryd.prog.info? 9).map (fun i => (i.zero, i.size, i.bytes)) = some (some (.string ByteArray.empty), 1, 16) := by kernel_rfl

/-- All frames, on the way. -/
def FallOf (S done : List ByteArray) (c : Nat) (R : List UInt8) : Prop := (if (fall R).2 = 0 then (done ++ (fall R).1.map txt, 0) else ([], (fall R).2)) = (S, c)
theorem fall_eq (R : List UInt8) : fall R = if R.length = 0 then ([], 0) else if (fparse R).2.2 = 0 then
    (if (fall (R.drop (fparse R).2.1)).2 = 0 then ((fparse R).1 :: (fall (R.drop (fparse R).2.1)).1, 0) else ([], (fall (R.drop (fparse R).2.1)).2)) else ([], (fparse R).2.2) := by
  rw [fall]
  split
  · rfl
  · split <;> rfl
theorem FallOf.start (l : List UInt8) : FallOf ((fall l).1.map txt) [] (fall l).2 l := by
  unfold FallOf
  split
  · rename_i h; rw [h]; rfl
  · rename_i h
    have : (fall l).1 = [] := by
      rw [fall_eq] at h ⊢
      split
      · rfl
      · rename_i h1; rw [if_neg h1] at h
        split
        · rename_i h2; rw [if_pos h2] at h
          split
          · rename_i h3; rw [if_pos h3] at h; simp at h
          · rfl
        · rfl
    rw [this]
    rfl
theorem FallOf.stop {S done : List ByteArray} {c : Nat} (h : FallOf S done c []) : S = done ∧ c = 0 := by
  unfold FallOf at h
  rw [fall_eq] at h
  simp at h
  exact ⟨h.1.symm, h.2.symm⟩
theorem FallOf.err {S done : List ByteArray} {c : Nat} {R : List UInt8} (h : FallOf S done c R) (hR : R.length ≠ 0) (hv : (fparse R).2.2 ≠ 0) : S = [] ∧ c = (fparse R).2.2 := by
  unfold FallOf at h
  rw [fall_eq, if_neg hR, if_neg hv] at h
  simp [hv] at h
  exact ⟨h.1, h.2.symm⟩
theorem FallOf.next {S done : List ByteArray} {c : Nat} {R : List UInt8} (h : FallOf S done c R) (hR : R.length ≠ 0) (hv : (fparse R).2.2 = 0) : FallOf S (done ++ [txt (fparse R).1]) c (R.drop (fparse R).2.1) := by
  unfold FallOf at h ⊢
  rw [fall_eq, if_neg hR, if_pos hv] at h
  rw [← h]
  split <;> simp


end Go.Proofs.YtmlijflappjfoaaDoor
