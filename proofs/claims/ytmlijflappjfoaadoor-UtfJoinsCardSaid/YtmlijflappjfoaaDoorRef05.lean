/-
  Contracts of the document's answer for layer 5. Conditions: texts of at most a million bytes.
-/
import Derived.Test.YtmlijflappjfoaaDoorFrame2
import Derived.Test.YtmlijflappjfoaaDoorRef02b
namespace Go.Proofs.YtmlijflappjfoaaDoor
open Go.RowKit Go.PM
set_option maxRecDepth 100000
set_option maxHeartbeats 4000000


theorem str_same {a b : ByteArray} (h : a = b) : (a.toList == b.toList) = true := by rw [h]; simp
theorem str_else {a b : ByteArray} (h : a ≠ b) : (a.toList == b.toList) = false := by
  rw [beq_eq_false_iff_ne, ByteArray.toList_eq, ByteArray.toList_eq]
  intro e
  exact h (ByteArray.ext (Array.toList_inj.1 e))
/-- A frame, as the document holds it against a text. -/
theorem text_iff (l : List UInt8) (n k : Nat) (hm : fmark l = 0) (hv : vput n = (l.drop 2).take k) (hk : k ≤ l.length - 2) (hlen : ¬ l.length - (2 + k) < n + 4) :
    ftext ((l.drop (2 + k)).take n) = l.take (2 + k + n + 4) ↔ cget (((l.drop (2 + k)).drop n).take 4) = csum ((l.drop (2 + k)).take n) := by
  rcases fmark_cases l with ⟨_, r, rfl⟩ | ⟨h1, _⟩ | h1
  · have hpl : ((List.drop (2 + k) (81 :: 70 :: r)).take n).length = n := by simp at hlen ⊢; omega
    unfold ftext
    rw [hpl, hv]
    have hd : List.drop (2 + k) (81 :: 70 :: r) = r.drop k := by rw [Nat.add_comm]; rfl
    rw [hd]
    have ht : List.take (2 + k + n + 4) (81 :: 70 :: r) = [81, 70] ++ r.take k ++ (r.drop k).take n ++ ((r.drop k).drop n).take 4 := by
      rw [show 2 + k + n + 4 = (k + (n + 4)) + 2 by omega]
      rw [List.take_succ_cons, List.take_succ_cons, List.take_add, List.take_add]
      simp
    rw [ht]
    show [81, 70] ++ r.take k ++ _ ++ _ = _ ↔ _
    rw [List.append_cancel_left_eq]
    have hql : (((r.drop k).drop n).take 4).length = 4 := by simp at hlen ⊢; omega
    constructor
    · intro e
      rw [← e, cput_get _ (csum_lt _)]
    · intro e
      rw [← e, cget_put _ hql]
  · omega
  · omega

end Go.Proofs.YtmlijflappjfoaaDoor
