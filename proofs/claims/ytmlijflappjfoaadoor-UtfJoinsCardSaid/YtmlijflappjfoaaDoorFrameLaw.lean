/-
  The walks of the statements of layer 5. Conditions: texts as they come in.
-/
import Derived.Test.YtmlijflappjfoaaDoorFrame3
import Derived.Test.YtmlijflappjfoaaDoorCrcLaw
namespace Go.Proofs.YtmlijflappjfoaaDoor
open Go.RowKit Go.PM
set_option maxRecDepth 100000
set_option maxHeartbeats 1000000

theorem awake05 (w : World) :
    Calls Tryd.prog 89 #[] w fun e w' => e = .returned (.bool true) ∧ Below w.heap.size w w' := by
  go_enter Tryd.func89, Tryd.ntmps89
  go_wp2_with fail
  refine (wrap_any _ _ (by decide)).mono ?_
  rintro e w1 ⟨rfl, hb1⟩
  rw [show txt (ftext (ByteArray.mk #[]).data.toList) = ByteArray.mk #[81, 70, 0, 0, 0, 0, 0] by decide +kernel]
  go_wp2_with fail
  refine (awakeE04 _).mono ?_
  rintro e w2 ⟨rfl, hb2⟩
  go_wp2
  go_ret
  exact ⟨rfl, bb hb1 hb2⟩
theorem awakeE05 (w : World) : Calls Tryd.prog 83 #[] w fun e w' => e = .returned (.bool true) ∧ Below w.heap.size w w' := by
  go_enter Tryd.func83, Tryd.ntmps83
  go_wp2_with (go_at_call 89; refine (awake05 _).mono ?_; rintro e w' ⟨rfl, hb⟩)
  go_ret
  exact ⟨rfl, hb⟩

/-- A number's bytes, counted by hand. -/
def Cs (n x z : Nat) : Prop := z + vsz x = fsize n + 1 ∧ x ≤ 65536
theorem Cs.start (n : Nat) (h : n ≤ 65536) : Cs n n (7 + n) := by unfold Cs fsize; omega
theorem Cs.next {n x z : Nat} (h : Cs n x z) (hx : 127 < x) : Cs n (x / 128) (z + 1) := by
  obtain ⟨h1, h2⟩ := h
  rw [vsz, if_neg (by omega)] at h1
  exact ⟨by omega, by omega⟩
theorem Cs.stop {n x z : Nat} (h : Cs n x z) (hx : ¬ 127 < x) : z = fsize n := by
  obtain ⟨h1, _⟩ := h
  rw [vsz, if_pos (by omega)] at h1
  omega

theorem fall_length (l : List UInt8) : (fall l).1.length ≤ l.length := by
  induction hn : l.length using Nat.strongRecOn generalizing l with
  | _ n ih =>
    rw [fall_eq]
    by_cases h0 : l.length = 0
    · rw [if_pos h0]; simp
    · rw [if_neg h0]
      by_cases hv : (fparse l).2.2 = 0
      · rw [if_pos hv]
        obtain ⟨k1, k2, _, _, _⟩ := fparse_ok hv
        have := ih (l.drop (fparse l).2.1).length (by rw [List.length_drop]; omega) _ rfl
        rw [List.length_drop] at this
        split
        · simp only [List.length_cons]; omega
        · simp
      · rw [if_neg hv]; simp
end Go.Proofs.YtmlijflappjfoaaDoor
