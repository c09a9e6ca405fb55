/-
  Texts of the proof, joined: Open Open2. Conditions: as each names.
-/
import Derived.Test.YtgidfnhfgiehjaaGreatDoorXTopStreamab
import Derived.ProofKit
import Derived.OpenShut
import Derived.Deep.SlicePairs
import Derived.Test.YtgidfnhfgiehjaaGreatDoorRows
import Derived.Test.YtgidfnhfgiehjaaGreatDoorXTopStreamai
import Derived.SliceStrings

section
namespace Go.PM
open Go.RowKit Go.ChangeShapes Go.WideShapes Go.Deep
section
variable {H : Type} {enc : TypeId × Value → H} {P : Program} {w : World} {spare : Nat → Bool} {held : Bool}
theorem rd_cells {A : Addr} {xs : List Value} (hc : ∀ j u, xs[j]? = some u → w.cell? (A.add j) = some u) : Rd w (some A) xs := by
  cases xs with
  | nil => exact .inl rfl
  | cons x xs =>
    have h0 := hc 0 x rfl
    have hsp := World.cell?_spot h0
    obtain ⟨b, off, spot⟩ := A
    have hs : spot = none := by simpa [Addr.add] using hsp
    subst hs
    have ha : ∀ j, (⟨b, off, none⟩ : Addr).add j = ⟨b, off + j, none⟩ := fun j => by unfold Addr.add; split <;> simp_all
    refine .inr ⟨b, off, rfl, ?_, fun j u hj => by rw [← ha]; exact hc j u hj⟩
    exact World.block_lt_of_cell? w _ (by rw [ha] at h0; exact h0)
theorem getD_take (zs : List Int) (len j : Nat) (h : j < len) (hl : len ≤ zs.length) : (zs.take len)[j]? = some (zs.getD j 0) := by
  rw [List.getElem?_take, if_pos h, List.getElem?_eq_getElem (by omega)]
  simp [List.getD, List.getElem?_eq_getElem (show j < zs.length by omega)]
/-- A slice of integers of one kind. -/
theorem open_sl {t e : TypeId} {k : IntKind} {a : Option Addr} {len cap : Nat} {d : DataW H} {ps : List MemPlace} (ht : P.underlying t = some (.slice e)) (he : P.underlying e = some (.int k)) (hc : P.cellsOf e = 1)
    (h : DataW.Trod enc P w 0 spare held t (.slice a len cap) d ps) :
    ∃ l : List Int, l.length = len ∧ Rd w a (l.map (Value.int k)) ∧ (∀ n ∈ l, (Lit.int k n).wf = true) ∧ len ≤ cap ∧ cap ≤ maxLen := by
  obtain ⟨fuel, hf⟩ := h
  rcases open_ints ht he hc hf with ⟨hcs, _⟩ | ⟨x, l, c, zs, hcs, _, hl, hm, hz, _, hcell, hwz⟩
  · simp [Value.cells] at hcs
    obtain ⟨rfl, rfl, rfl⟩ := hcs
    exact ⟨[], rfl, Rd.nil _ _, by simp, by omega, by unfold maxLen; omega⟩
  · simp [Value.cells] at hcs
    obtain ⟨rfl, rfl, rfl⟩ := hcs
    have hzl : len ≤ zs.length := by rw [hz]; split <;> omega
    refine ⟨zs.take len, by simp; omega, rd_cells fun j u hj => ?_, fun n hn => hwz n (List.mem_of_mem_take hn), hl, hm⟩
    have hj' : j < len := by
      have := (List.getElem?_eq_some_iff.1 hj).1
      simp at this; omega
    rw [List.getElem?_map, getD_take zs len j hj' hzl] at hj
    simp at hj
    rw [hcell j (by omega), ← hj]
    simp
end
end Go.PM
end

section
namespace Go.Proofs.YtgidfnhfgiehjaaGreatDoor
open Go.RowKit Go.ChangeShapes Go.WideShapes Go.Deep Go.PM
section
variable {H : Type} {enc : TypeId × Value → H} {P : Program} {w : World} {spare : Nat → Bool} {held : Bool}
theorem open_u16s {t e : TypeId} {a : Option Addr} {len cap : Nat} {d : DataW H} {ps : List MemPlace} (ht : P.underlying t = some (.slice e)) (he : P.underlying e = some (.int .u16)) (hc : P.cellsOf e = 1)
    (h : DataW.Trod enc P w 0 spare held t (.slice a len cap) d ps) :
    ∃ l : List Nat, l.length = len ∧ Rd w a (l.map fun n : Nat => .int .u16 (n : Int)) ∧ (∀ n ∈ l, n < 65536) ∧ len ≤ cap ∧ cap ≤ maxLen := by
  obtain ⟨l, h1, h2, h3, h4, h5⟩ := open_sl ht he hc h
  have e : l.map (Value.int .u16) = (l.map Int.toNat).map fun n : Nat => .int .u16 (n : Int) := by
    rw [List.map_map]
    apply List.map_congr_left
    intro n hn
    have := bounds_u16 (h3 n hn)
    simp only [Function.comp]
    rw [Int.toNat_of_nonneg this.1]
  refine ⟨l.map Int.toNat, by simp [h1], e ▸ h2, fun n hn => ?_, h4, h5⟩
  obtain ⟨m, hm, rfl⟩ := List.mem_map.1 hn
  have := bounds_u16 (h3 m hm)
  omega
end
end Go.Proofs.YtgidfnhfgiehjaaGreatDoor
end
