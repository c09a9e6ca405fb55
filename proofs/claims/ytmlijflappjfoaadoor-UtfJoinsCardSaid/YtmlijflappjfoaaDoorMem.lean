/-
  Words for memory, over any program: a block that is known whole, worlds of which one block may have turned, a slice that reads as a list. Plain theorems; no condition beside what each names.
-/
import Derived.WalkKit
import Derived.Laws.OwnMore
import Derived.Deep.Draws
namespace Go.PM
open Go.RowKit

/-- Within uint64, within int: behind a name, for a walk does not bear so long a numeral among its facts. -/
def In64 (n : Nat) : Prop := n < 18446744073709551616
def In63 (n : Nat) : Prop := n < 9223372036854775808
theorem In64.out {n : Nat} (h : In64 n) : n < 18446744073709551616 := h
theorem In63.out {n : Nat} (h : In63 n) : n < 9223372036854775808 := h

/-! ### A block known whole -/
def BlkAt (w : World) (g : Nat) (t : TypeId) (cs : Array Value) : Prop := w.heap[g]? = some (.cells cs t (0, 0))

section
variable {w w' : World} {g : Nat} {t : TypeId} {cs : Array Value}
theorem BlkAt.lt (h : BlkAt w g t cs) : g < w.heap.size := by
  rcases Nat.lt_or_ge g w.heap.size with hl | hl
  · exact hl
  · unfold BlkAt at h
    rw [Array.getElem?_eq_none hl] at h
    cases h
theorem BlkAt.cell (h : BlkAt w g t cs) (i : Nat) : w.cell? ⟨g, i, none⟩ = cs[i]? := cell_of_row w g i cs t (0, 0) h
theorem BlkAt.free (h : BlkAt w g t cs) (i : Nat) : w.frozen? ⟨g, i, none⟩ = false := by
  unfold BlkAt at h
  simp [World.frozen?, h]
theorem BlkAt.made (w : World) (t : TypeId) (cs : Array Value) : BlkAt (w.alloc (.cells cs t)) w.heap.size t cs := heap_alloc_new w _
theorem BlkAt.step (h : BlkAt w g t cs) {row : Option Nat} (hb : w.grownBy w' row) (hg : some g ≠ row) : BlkAt w' g t cs := (hb.block g h.lt hg).trans h
theorem BlkAt.below {B : Nat} (h : BlkAt w g t cs) (hb : Below B w w') (hg : g < B) : BlkAt w' g t cs := (hb.block g hg).trans h
theorem BlkAt.drn (h : BlkAt w g t cs) (n : Nat) : BlkAt (w.drewN n) g t cs := h
theorem BlkAt.dr (h : BlkAt w g t cs) : BlkAt w.drew g t cs := h
theorem BlkAt.more (h : BlkAt w g t cs) (o : Obj) : BlkAt (w.alloc o) g t cs := (Below.heap_alloc w o g h.lt).trans h
theorem BlkAt.put (h : BlkAt w g t cs) (i : Nat) (u : Value) : BlkAt (w.setCell ⟨g, i, none⟩ u) g t (cs.setIfInBounds i u) := by
  unfold BlkAt at h ⊢
  simp [World.setCell, Array.getElem?_modify, h]
theorem BlkAt.far (h : BlkAt w g t cs) {p : Addr} (hp : g ≠ p.block) (u : Value) : BlkAt (w.setCell p u) g t cs := (Below.heap_setCell w p u g hp).trans h
theorem BlkAt.same {cs' : Array Value} (h : BlkAt w g t cs) (h' : BlkAt w g t cs') : cs = cs' := by
  unfold BlkAt at h h'
  rw [h] at h'
  injection h' with h'
  injection h'
theorem BlkAt.apart {g' : Nat} {t' : TypeId} {cs' : Array Value} (h : BlkAt w g t cs) (h' : BlkAt w g' t' cs') (ht : t ≠ t') : g ≠ g' := by
  rintro rfl
  unfold BlkAt at h h'
  rw [h] at h'
  injection h' with h'
  injection h' with _ e
  exact ht e
end

/-! ### What may have turned -/
theorem grown_refl (w : World) (row : Option Nat) : w.grownBy w row := ⟨rfl, rfl, rfl, Nat.le_refl _, fun _ _ _ => rfl⟩
theorem grown_of_below {w w' : World} (h : Below w.heap.size w w') (row : Option Nat) : w.grownBy w' row :=
  ⟨h.os, h.tape, h.output, h.size, fun k hk _ => h.block k hk⟩
theorem below_of_grown {w w' : World} (h : w.grownBy w' none) : Below w.heap.size w w' :=
  ⟨h.os, h.tape, h.output, h.size, fun k hk => h.block k hk (by simp)⟩
theorem below_of_row {B b : Nat} {w w' : World} (h : w.grownBy w' (some b)) (hB : B ≤ b) (hs : B ≤ w.heap.size) : Below B w w' :=
  ⟨h.os, h.tape, h.output, h.size, fun k hk => h.block k (by omega) (by intro e; injection e with e; omega)⟩
theorem grown_trans {a b c : World} {row row' : Option Nat} (h : a.grownBy b row) (k : b.grownBy c row') (hr : ∀ x, row' = some x → x < a.heap.size → row = some x) : a.grownBy c row :=
  ⟨k.os.trans h.os, k.tape.trans h.tape, k.output.trans h.output, Nat.le_trans h.size k.size,
    fun i hi hne => (k.block i (Nat.lt_of_lt_of_le hi h.size) (fun e => hne (hr i e.symm hi).symm)).trans (h.block i hi hne)⟩
theorem grown_put {a w : World} {b : Nat} (h : a.grownBy w (some b)) (i : Nat) (u : Value) : a.grownBy (w.setCell ⟨b, i, none⟩ u) (some b) :=
  ⟨h.os, h.tape, h.output, by simpa [World.setCell] using h.size, fun k hk hne => (Below.heap_setCell w ⟨b, i, none⟩ u k (by rintro rfl; exact hne rfl)).trans (h.block k hk hne)⟩
theorem grown_drn {a w : World} {row : Option Nat} (h : a.grownBy w row) (n : Nat) : a.grownBy (w.drewN n) row := ⟨h.os, h.tape, h.output, h.size, h.block⟩
theorem grown_dr {a w : World} {row : Option Nat} (h : a.grownBy w row) : a.grownBy w.drew row := ⟨h.os, h.tape, h.output, h.size, h.block⟩
theorem grown_more {a w : World} {row : Option Nat} (h : a.grownBy w row) (o : Obj) : a.grownBy (w.alloc o) row :=
  ⟨h.os, h.tape, h.output, Nat.le_trans h.size (by simp), fun k hk hne => (Below.heap_alloc w o k (Nat.lt_of_lt_of_le hk h.size)).trans (h.block k hk hne)⟩
theorem below_trans {a b c : World} (h : Below a.heap.size a b) (k : Below b.heap.size b c) : Below a.heap.size a c := h.trans (k.mono h.size)
theorem below_drewN {B : Nat} {a w : World} (h : Below B a w) (n : Nat) : Below B a (w.drewN n) := ⟨h.os, h.tape, h.output, h.size, h.block⟩

/-- The bytes of a row as values. -/
def bvals (l : List UInt8) : List Value := l.map fun b => .int .u8 (b.toNat : Int)
theorem bvals_at (l : List UInt8) (j : Nat) (hj : j < l.length) : (bvals l)[j]? = some (.int .u8 (l[j].toNat : Int)) := by
  simp [bvals, List.getElem?_eq_getElem hj]
theorem bvals_length (l : List UInt8) : (bvals l).length = l.length := by simp [bvals]

theorem add_at (g j : Nat) : (⟨g, 0, none⟩ : Addr).add j = ⟨g, j, none⟩ := by unfold Addr.add; split <;> simp_all
theorem run_row_string {P : Program} (w : World) (src dst e g n cap : Nat) (cs : Array Value) (l : List UInt8) (hs : P.underlying src = some (.slice e)) (he : P.underlying e = some (.int .u8)) (hd : P.underlying dst = some .string)
    (hg : BlkAt w g e cs) (hn : n = l.length) (hc : cs.toList.take l.length = bvals l) :
    (convert src dst (.slice (some ⟨g, 0, none⟩) n cap)).run P w = .ok (.string ⟨l.toArray⟩) w := by
  subst hn
  refine run_convert_bytes_back w src dst e ⟨g, 0, none⟩ cap l hs he hd fun j hj => ?_
  rw [add_at, hg.cell j]
  have h1 := bvals_at l j hj
  rw [← hc, List.getElem?_take, if_pos hj] at h1
  simpa using h1

theorem ext_list (s : ByteArray) (i j : Nat) : (s.extract i j).data.toList = (s.data.toList.drop i).take (j - i) := by
  simp [ByteArray.data_extract, List.extract_eq_take_drop]

/-! ### Steps of 'below all that was there when it began nothing has turned' -/
section
variable {a w w' : World}
theorem b0 : Below a.heap.size a a := Below.refl _ _
theorem bb (h : Below a.heap.size a w) (k : Below w.heap.size w w') : Below a.heap.size a w' := h.trans (k.mono h.size)
theorem ba (h : Below a.heap.size a w) (o : Obj) : Below a.heap.size a (w.alloc o) := h.alloc h.size o
theorem bg {b : Nat} (h : Below a.heap.size a w) (k : w.grownBy w' (some b)) (hb : a.heap.size ≤ b) : Below a.heap.size a w' := h.trans (below_of_row k hb h.size)
theorem bs {p : Addr} (h : Below a.heap.size a w) (hb : a.heap.size ≤ p.block) (u : Value) : Below a.heap.size a (w.setCell p u) := h.setCell hb u
theorem bn (h : Below a.heap.size a w) (n : Nat) : Below a.heap.size a (w.drewN n) := ⟨h.os, h.tape, h.output, h.size, h.block⟩
theorem bd (h : Below a.heap.size a w) : Below a.heap.size a w.drew := h.drew
end
end Go.PM
