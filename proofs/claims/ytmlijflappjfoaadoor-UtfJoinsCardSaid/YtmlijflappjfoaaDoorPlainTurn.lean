/-
  Plain laws of layers 4 and 5, more: bits turned in the hind part of a text. No program in sight.
-/
import Derived.Test.YtmlijflappjfoaaDoorPlainFrame
namespace Go.PM
theorem cflip_behind (pre body : List UInt8) (k : Nat) : cflip (pre ++ body) (8 * pre.length + k) = pre ++ cflip body k := by
  have e1 : (8 * pre.length + k) / 8 = pre.length + k / 8 := by omega
  have e2 : (8 * pre.length + k) % 8 = k % 8 := by omega
  unfold cflip
  rw [e1, e2, List.set_append_right _ _ (by omega), Nat.add_sub_cancel_left]
  congr 2
  simp [List.getD_eq_getElem?_getD, List.getElem?_append_right]
theorem cturn_behind (pre body : List UInt8) (first pattern : Nat) : ∀ i, cturn (pre ++ body) (8 * pre.length + first) pattern i = pre ++ cturn body first pattern i
  | 0 => rfl
  | i + 1 => by
    have ih := cturn_behind pre body first pattern i
    rw [cturn, cturn, ih, List.length_append]
    by_cases h : pattern / 2 ^ i % 2 = 1 ∧ first + i < 8 * body.length
    · rw [if_pos h, if_pos ⟨h.1, by omega⟩, Nat.add_assoc, cflip_behind]
    · rw [if_neg h, if_neg fun x => h ⟨x.1, by omega⟩]
theorem cturned_behind (m N first pattern : Nat) : ∀ i, cturned (8 * m + N) (8 * m + first) pattern i = cturned N first pattern i
  | 0 => rfl
  | i + 1 => by
    rw [cturned, cturned, cturned_behind m N first pattern i]
    by_cases h : pattern / 2 ^ i % 2 = 1 ∧ first + i < N
    · rw [if_pos h, if_pos ⟨h.1, by omega⟩]
    · rw [if_neg h, if_neg fun x => h ⟨x.1, by omega⟩]
/-- A frame of which bits behind its head are turned: how it reads. -/
theorem fparse_burst (p r : List UInt8) (hp : p.length ≤ 65536) (first pattern : Nat) (hf : first ≤ 8 * (p.length + 4)) (hpat : pattern < 4294967296) :
    fparse (cturn (ftext p) (8 * (2 + vsz p.length) + first) pattern 32 ++ r) =
      if cturned (8 * fsize p.length) (8 * (2 + vsz p.length) + first) pattern 32 then ([], 0, 6) else (p, fsize p.length, 0) := by
  have hh : ([81, 70] ++ vput p.length : List UInt8).length = 2 + vsz p.length := by simp [vput_length]; omega
  have e : ftext p = ([81, 70] ++ vput p.length) ++ (p ++ cput (csum p)) := by simp [ftext]
  rw [e, ← hh, cturn_behind, show 8 * fsize p.length = 8 * ([81, 70] ++ vput p.length : List UInt8).length + 8 * (p.length + 4) by rw [hh]; unfold fsize; omega, cturned_behind]
  exact fparse_turn p r hp first pattern 32 (by omega) hf hpat
end Go.PM
