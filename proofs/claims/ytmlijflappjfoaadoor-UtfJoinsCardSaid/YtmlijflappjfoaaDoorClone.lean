/-
  Contracts of layer 6: a clone; the nil deframer. Conditions: at most a million bytes wait.
-/
import Derived.Test.YtmlijflappjfoaaDoorFeed
namespace Go.Proofs.YtmlijflappjfoaaDoor
open Go.RowKit Go.PM
set_option maxRecDepth 100000
set_option maxHeartbeats 1000000

/-- The clone of a buffer. -/
def CloneEnd (w : World) (R : List UInt8) (e : Ending) (w' : World) : Prop := ∃ v', e = .returned v' ∧ Buf w' 5 v' R ∧ Below w.heap.size w w' ∧ ∀ g, foot v' = some g → w.heap.size ≤ g
theorem u8_one (l : List UInt8) : ∀ u ∈ bvals l, u.oneCell' = true := by
  intro u hu
  obtain ⟨x, _, rfl⟩ := List.mem_map.1 hu
  rfl

/-- The end of Clone. -/
def CloneAt (w : World) (R : List UInt8) (need e count : Nat) (en : Ending) (w' : World) : Prop :=
  ∃ c v', en = .returned (.pointer (some ⟨c, 0, none⟩)) ∧ w.heap.size ≤ c ∧ Dfr w' c v' R need e count ∧ Below w.heap.size w w' ∧ ∀ g, foot v' = some g → w.heap.size ≤ g
end Go.Proofs.YtmlijflappjfoaaDoor
