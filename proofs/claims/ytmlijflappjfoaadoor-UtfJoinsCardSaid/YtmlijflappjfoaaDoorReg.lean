/-
  A region that draws its order, of operations that compute and of calls that leave all that was there: one walk of it, in the order of the text. Plain theorems, over any program.
-/
import Derived.Test.YtmlijflappjfoaaDoorMem
import Derived.Deep.QuietTactic
import Derived.BigQuiet
namespace Go.PM
open Go.RowKit

/-! ### A region that draws its order, of operations that compute and of calls that leave all that was there -/
/-- A world in which all that was there in w is as it was. -/
def BelW (w : World) : Type := { x : World // Below w.heap.size w x }
def BelW.wld {w : World} (n : BelW w) : World := n.1
theorem BelW.bel {w : World} (n : BelW w) : Below w.heap.size w n.wld := n.2
instance (w : World) : Nonempty (BelW w) := ⟨⟨w, b0⟩⟩
theorem wp_region_below_lit {P : Program} {id : Nat} {Q : Exit → Act → World → Prop} {a : Act} {w : World} {l : List Oper} (hm : P.follows .mixedOrders = true) (hB : Region.lexB .any l.toArray = true)
    (h : wpQuiet P l.toArray (fun w' => ∃ n : BelW w, w' = n.wld) (fun a' => ∀ w', (∃ n : BelW w, w' = n.wld) → Q .normal a' w') l a) : (Code.region id l.toArray true).wp P Q a w :=
  wp_region_quiet (C := fun w' => ∃ n : BelW w, w' = n.wld) hm hB ⟨(⟨w.drew, bd b0⟩ : BelW w), rfl⟩ (by simpa using h)
theorem below_of {P : Program} {f : FuncId} {args : Array Value} {w : World} {n : BelW w} {v : Value} (h : Calls P f args n.wld fun e w' => e = .returned v ∧ Below n.wld.heap.size n.wld w') :
    Calls P f args n.wld fun e w' => e = .returned v ∧ ∃ m : BelW w, w' = m.wld := h.mono fun _ w' ⟨he, hb⟩ => ⟨he, ⟨w', bb n.bel hb⟩, rfl⟩
/-- The world under a name. -/
theorem wp_world {P : Program} {c : Code} {Q : Exit → Act → World → Prop} {a : Act} {w : World} (h : ∀ W, W = w → Code.wp P c Q a W) : Code.wp P c Q a w := h w rfl
end Go.PM
