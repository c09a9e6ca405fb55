/-
  Arguments opened: a slice of strings, and what its bulk bounds.
-/
import Derived.Test.YtlkdoahdcepncaaRows
import Derived.Test.YtlkdoahdcepncaaOpen
import Derived.Test.YtlkdoahdcepncaaPlainFeed
import Derived.SliceStrings
namespace Go.Proofs.Ytlkdoahdcepncaa
open Go.RowKit Go.ChangeShapes Go.WideShapes Go.Deep Go.PM
theorem bulk_pos {H : Type} (d : DataW H) : 1 ≤ Rows.uptoBulk d := by
  cases d with
  | lit l => cases l <;> simp [Rows.uptoBulk]
  | nil => simp [Rows.uptoBulk]
  | ptr d => simp [Rows.uptoBulk]
  | slice elems spare => simp [Rows.uptoBulk]
  | agg parts => simp [Rows.uptoBulk]
  | iface t d => simp [Rows.uptoBulk]
  | map entries => simp [Rows.uptoBulk]
  | held h => simp [Rows.uptoBulk]
theorem bulk_strs {H : Type} : ∀ l : List ByteArray, Rows.uptoBulkAll (l.map fun s => DataW.lit (H := H) (.string s.data.toList)) = (flat l).length + l.length
  | [] => by simp [Rows.uptoBulkAll, flat]
  | x :: r => by
    rw [List.map_cons, Rows.uptoBulkAll, bulk_strs r, Rows.uptoBulk]
    simp only [flat, List.flatMap_cons, List.length_append, List.length_cons]
    omega
section
variable {H : Type} {enc : TypeId × Value → H} {P : Program} {w : World} {spare : Nat → Bool} {held : Bool}
theorem open_strs {t e : TypeId} {a : Option Addr} {len cap : Nat} {d : DataW H} {ps : List MemPlace} (ht : P.underlying t = some (.slice e)) (he : P.underlying e = some .string) (hc : P.cellsOf e = 1)
    (h : DataW.Trod enc P w 0 spare held t (.slice a len cap) d ps) :
    ∃ l : List ByteArray, l.length = len ∧ Rd w a (Go.PM.strs l) ∧ (∀ x ∈ l, x.size ≤ maxLen) ∧ len ≤ cap ∧ cap ≤ maxLen ∧ (flat l).length + l.length ≤ Rows.uptoBulk d := by
  obtain ⟨fuel, hf⟩ := h
  rcases open_strings ht he hc hf with ⟨hcs, _⟩ | ⟨x, l, c, ss, hcs, _, hl, hm, hz, hx, hcell, hwz⟩
  · simp [Value.cells] at hcs
    obtain ⟨rfl, rfl, rfl⟩ := hcs
    exact ⟨[], rfl, Rd.nil _ _, by simp, by omega, by unfold maxLen; omega, by simp [flat]⟩
  · simp [Value.cells] at hcs
    obtain ⟨rfl, rfl, rfl⟩ := hcs
    have hzl : len ≤ ss.length := by rw [hz]; split <;> omega
    refine ⟨ss.take len, by simp; omega, rd_cells fun j u hj => ?_, fun n hn => hwz n (List.mem_of_mem_take hn), hl, hm, ?_⟩
    · have hj' : j < len := by
        have := (List.getElem?_eq_some_iff.1 hj).1
        simp [Go.PM.strs] at this; omega
      rw [hcell j (by omega), ← hj]
      simp only [Go.PM.strs, List.getElem?_map, List.getElem?_take, if_pos hj', List.getElem?_eq_getElem (show j < ss.length by omega), Option.map_some, List.getD_eq_getElem?_getD, Option.getD_some]
    · injection hx with hx _
      subst hx
      rw [Rows.uptoBulk]
      have := bulk_strs (H := H) (ss.take len)
      rw [show (Go.ChangeShapes.strs (ss.take len) : List (DataW H)) = (ss.take len).map fun s => DataW.lit (H := H) (.string s.data.toList) from rfl, this]
      omega
theorem open_u16s {t e : TypeId} {a : Option Addr} {len cap : Nat} {d : DataW H} {ps : List MemPlace} (ht : P.underlying t = some (.slice e)) (he : P.underlying e = some (.int .u16)) (hc : P.cellsOf e = 1)
    (h : DataW.Trod enc P w 0 spare held t (.slice a len cap) d ps) :
    ∃ l : List Nat, l.length = len ∧ Rd w a (l.map fun n : Nat => .int .u16 (n : Int)) ∧ (∀ n ∈ l, n < 65536) ∧ len ≤ cap ∧ cap ≤ maxLen := by
  obtain ⟨l, h1, h2, h3, h4, h5⟩ := open_sl ht he hc h
  have e : l.map (Value.int .u16) = (l.map Int.toNat).map fun n : Nat => .int .u16 (n : Int) := by
    rw [List.map_map]
    apply List.map_congr_left
    intro n hn
    have := bounds_u16 (h3 n hn)
    simp only [Function.comp]
    rw [Int.toNat_of_nonneg this.1]
  refine ⟨l.map Int.toNat, by simp [h1], e ▸ h2, fun n hn => ?_, h4, h5⟩
  obtain ⟨m, hm, rfl⟩ := List.mem_map.1 hn
  have := bounds_u16 (h3 m hm)
  omega
end
end Go.Proofs.Ytlkdoahdcepncaa
