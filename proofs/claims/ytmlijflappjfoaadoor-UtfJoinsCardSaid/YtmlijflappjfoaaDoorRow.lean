/-
  A row of bytes that the call made ('[]byte(s)'): as a list, through stores, and back. Plain theorems, over any program.
-/
import Derived.Test.YtmlijflappjfoaaDoorSl
import Derived.Laws.IdiomStrings
import Derived.Laws.AppendOwn
namespace Go.PM
open Go.RowKit

def RowAt (w : World) (g : Nat) (l : List UInt8) : Prop :=
  g < w.heap.size ∧ ∀ j (h : j < l.length), w.cell? ⟨g, j, none⟩ = some (.int .u8 (l[j].toNat : Int)) ∧ w.frozen? ⟨g, j, none⟩ = false
section
variable {w w' : World} {g : Nat} {l : List UInt8}
theorem RowAt.made (w : World) (e : TypeId) (s : ByteArray) (cap : Nat) :
    RowAt (w.drew.alloc (.cells (bytesRow s cap) e ((bytesRow s cap).size, (bytesRow s cap).size + 1))) w.heap.size s.data.toList := by
  have hh : (w.drew.alloc (.cells (bytesRow s cap) e ((bytesRow s cap).size, (bytesRow s cap).size + 1))).heap[w.heap.size]? = some (.cells (bytesRow s cap) e ((bytesRow s cap).size, (bytesRow s cap).size + 1)) := heap_alloc_new w.drew _
  refine ⟨by simp, fun j hj => ?_⟩
  have hjs : j < s.data.size := by simpa using hj
  refine ⟨?_, ?_⟩
  · rw [cell_of_row _ _ _ _ _ _ hh, bytesRow_at s cap j hjs]
    simp
  · have hn : s.data.size ≤ (bytesRow s cap).size := by simp [bytesRow]
    unfold World.frozen?
    rw [hh]
    simp
    omega
theorem RowAt.set (h : RowAt w g l) {j : Nat} (hj : j < l.length) (b : UInt8) : RowAt (w.setCell ⟨g, j, none⟩ (.int .u8 (b.toNat : Int))) g (l.set j b) := by
  refine ⟨by simpa [World.setCell] using h.1, fun k hk => ?_⟩
  have hk' : k < l.length := by simpa using hk
  refine ⟨?_, ?_⟩
  · by_cases e : j = k
    · subst e
      rw [World.cell?_setCell_same _ _ _ (h.2 j hj).1]
      simp
    · rw [World.cell?_setCell_other _ _ _ _ (by intro e'; injection e' with _ e'; exact e e'), (h.2 k hk').1]
      simp [e]
  · rw [World.frozen?_setCell]
    exact (h.2 k hk').2
theorem RowAt.below {B : Nat} (h : RowAt w g l) (hb : Below B w w') (hg : g < B) : RowAt w' g l := by
  have e := hb.block g hg
  refine ⟨Nat.lt_of_lt_of_le h.1 hb.size, fun j hj => ⟨?_, ?_⟩⟩
  · rw [← (h.2 j hj).1]
    exact hb.cell (p := ⟨g, j, none⟩) hg
  · rw [← (h.2 j hj).2]
    unfold World.frozen?
    rw [e]
theorem RowAt.at_ (h : RowAt w g l) {j : Nat} (hj : j < l.length) : w.cell? ⟨g, j, none⟩ = some (.int .u8 ((l.getD j 0).toNat : Int)) ∧ w.frozen? ⟨g, j, none⟩ = false := by
  have := h.2 j hj
  rw [List.getD_eq_getElem?_getD, List.getElem?_eq_getElem hj]
  exact this
theorem RowAt.drn (h : RowAt w g l) (n : Nat) : RowAt (w.drewN n) g l := h
theorem RowAt.back {P : Program} (h : RowAt w g l) (src dst e i n cap : Nat) (hs : P.underlying src = some (.slice e)) (he : P.underlying e = some (.int .u8)) (hd : P.underlying dst = some .string) (hn : i + n ≤ l.length) :
    (convert src dst (.slice (some ⟨g, i, none⟩) n cap)).run P w = .ok (.string (txt ((l.drop i).take n))) w := by
  have hl : ((l.drop i).take n).length = n := by simp; omega
  have := run_convert_bytes_back (P := P) w src dst e ⟨g, i, none⟩ cap ((l.drop i).take n) hs he hd fun j hj => by
    have ha : (⟨g, i, none⟩ : Addr).add j = ⟨g, i + j, none⟩ := by unfold Addr.add; split <;> simp_all
    rw [ha, (h.2 (i + j) (by omega)).1]
    simp
  rw [hl] at this
  exact this
end
end Go.PM
