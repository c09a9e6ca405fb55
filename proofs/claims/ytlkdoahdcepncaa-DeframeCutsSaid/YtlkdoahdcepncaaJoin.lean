/-
  strings.Join without a separator. Conditions: the result within 2^47 bytes.
-/
import Derived.Test.YtlkdoahdcepncaaFeed
import Derived.Test.YtlkdoahdcepncaaShelf
namespace Go.Proofs.Ytlkdoahdcepncaa
open Go.RowKit Go.PM
theorem join_flat : ∀ l : List ByteArray, Lib.join (l.map (·.data.toList)) [] = flat l
  | [] => rfl
  | [x] => by simp [flat, Lib.join_one]
  | x :: y :: r => by
    have h := join_flat (y :: r)
    unfold Lib.join at h ⊢
    simp only [List.map_cons] at h ⊢
    unfold List.intercalate at h ⊢
    rw [List.intersperse_cons_cons, List.flatten_cons, List.flatten_cons, h]
    simp [flat]
theorem join_any (A : Option Addr) (cap : Nat) (l : List ByteArray) (w : World) (hr : Rd w A (strs l)) (hc : l.length ≤ cap) (hl : l.length ≤ 140737488355328) (hn : (flat l).length ≤ 140737488355328) :
    Calls Try.prog 52 #[.slice A l.length cap, .string ⟨#[]⟩] w fun e w' => e = .returned (.string (txt (flat l))) ∧ Below w.heap.size w w' := by
  rcases hr with h | ⟨b, off, rfl, hb, hcl⟩
  · have : l = [] := by simpa [strs] using h
    subst this
    exact (Try.strings_Join_none A cap ⟨#[]⟩ w).mono fun e w' ⟨he, hw⟩ => ⟨he, hw ▸ b0⟩
  · have := Try.strings_Join b off cap l ⟨#[]⟩ w (fun j x hj => hcl j (.string x) (by simp [strs, hj])) hb (by omega) hc (by show (Lib.join _ []).length ≤ _; rw [join_flat]; exact hn)
    refine this.mono fun e w' ⟨he, hw⟩ => ⟨?_, hw⟩
    rw [he]
    show Ending.returned (.string ⟨(Lib.join _ []).toArray⟩) = _
    rw [join_flat]
    rfl
end Go.Proofs.Ytlkdoahdcepncaa
