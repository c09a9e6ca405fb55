/-
  Plain laws, more: how long lists of numbers and of payloads are; no program in sight.
-/
import Derived.Test.YtmlijflappjfoaaDoorPlainStream
namespace Go.PM
theorem vall_length : ∀ s : List UInt8, (vall s).1.length ≤ s.length := by
  intro s
  induction hn : s.length using Nat.strongRecOn generalizing s with
  | _ n ih =>
    rw [vall]
    by_cases h0 : s.length = 0
    · rw [if_pos h0]; simp
    rw [if_neg h0]
    by_cases hv : (vget s).2.2 = 0
    · rw [dif_pos hv]
      have hk := vget_ok hv
      have := ih (s.drop (vget s).2.1).length (by simp; omega) _ rfl
      simp only
      split
      · simp at this ⊢; omega
      · simp
    · rw [dif_neg hv]; simp
end Go.PM
