/-
  Slices that read as lists, over any program. Plain theorems; no condition beside what each names.
-/
import Derived.Test.YtmlijflappjfoaaDoorMem
import Derived.Laws.AppendOwn
import Derived.OwnWalk
namespace Go.PM
open Go.RowKit

/-- A slice's address from which the cells xs are read. -/
def Rd (w : World) (A : Option Addr) (xs : List Value) : Prop :=
  xs = [] ∨ ∃ b off, A = some ⟨b, off, none⟩ ∧ b < w.heap.size ∧ ∀ j u, xs[j]? = some u → w.cell? ⟨b, off + j, none⟩ = some u
section
variable {w w' : World} {A : Option Addr} {xs : List Value}
theorem Rd.nil (w : World) (A : Option Addr) : Rd w A [] := .inl rfl
theorem Rd.at_ (h : Rd w A xs) {k : Nat} (hk : k < xs.length) : ∃ b off, A = some ⟨b, off, none⟩ ∧ b < w.heap.size ∧ w.cell? ⟨b, off + k, none⟩ = some xs[k] := by
  rcases h with rfl | ⟨b, off, e, hb, hc⟩
  · simp at hk
  · exact ⟨b, off, e, hb, hc k _ (List.getElem?_eq_getElem hk)⟩
theorem Rd.keep (h : Rd w A xs) (hs : w.heap.size ≤ w'.heap.size) (hk : ∀ b off, A = some ⟨b, off, none⟩ → b < w.heap.size → w'.heap[b]? = w.heap[b]?) : Rd w' A xs := by
  rcases h with rfl | ⟨b, off, e, hb, hc⟩
  · exact .inl rfl
  · refine .inr ⟨b, off, e, by omega, fun j u hj => ?_⟩
    rw [World.cell?_of_block (w := w) (hk b off e hb)]
    exact hc j u hj
theorem Rd.below (h : Rd w A xs) (hb : Below w.heap.size w w') : Rd w' A xs := h.keep hb.size fun b _ _ hl => hb.block b hl
theorem Rd.grown (h : Rd w A xs) {row : Option Nat} (hg : w.grownBy w' row) (hne : ∀ b off, A = some ⟨b, off, none⟩ → row ≠ some b) : Rd w' A xs :=
  h.keep hg.size fun b off e hl => hg.block b hl (fun e' => hne b off e e'.symm)
theorem Rd.own {base e n size : Nat} {v : Value} (h : w.ownsRow base e size v n xs) : ∃ A c, v = .slice A n c ∧ Rd w A xs ∧ n ≤ c ∧ (∀ b off, A = some ⟨b, off, none⟩ → v.ownBlock = some b ∧ base ≤ b) := by
  rcases h.2 with ⟨rfl, rfl⟩ | ⟨g, cap, cur, rfl, hb, hg, hn, _⟩
  · refine ⟨none, 0, rfl, ?_, Nat.le_refl _, fun _ _ e => by cases e⟩
    left
    have := h.1
    simpa using this
  · refine ⟨some ⟨g, 0, none⟩, cap, rfl, .inr ⟨g, 0, rfl, (Array.getElem?_eq_some_iff.1 hg).1, fun j u hj => ?_⟩, hn, fun b off e => ?_⟩
    · have := h.cells (g := g) rfl j u hj
      rwa [add_at, ← Nat.zero_add j] at this
    · injection e with e
      injection e with e1 e2
      subst e1
      exact ⟨rfl, hb⟩
end

theorem own_below {w w' : World} {base e size n : Nat} {v : Value} {xs : List Value} (h : w.ownsRow base e size v n xs) (hb : Below w.heap.size w w') : w'.ownsRow base e size v n xs :=
  h.kept (grown_of_below hb none) (by cases v.ownBlock <;> simp)
theorem own_far {w w' : World} {base e size n b : Nat} {v : Value} {xs : List Value} (h : w.ownsRow base e size v n xs) (hg : w.grownBy w' (some b)) (hb : b < base) : w'.ownsRow base e size v n xs :=
  h.kept hg (by
    cases hv : v.ownBlock with
    | none => exact .inl rfl
    | some k => right; intro e; have := (h.lt k hv).1; injection e with e; omega)
theorem below_append {a w w' : World} {e size n : Nat} {v : Value} {xs : List Value} (h : Below a.heap.size a w) (ho : w.ownsRow a.heap.size e size v n xs) (hg : w.grownBy w' v.ownBlock) : Below a.heap.size a w' :=
  h.grown hg h.size (fun k hk => (ho.lt k hk).1)
theorem one_new (w : World) (u : Value) (t : TypeId) : ∀ j x, ([u] : List Value)[j]? = some x → (w.alloc (.cells #[u] t)).cell? ((⟨w.heap.size, 0, none⟩ : Addr).add j) = some x := by
  intro j x hj
  match j, hj with
  | 0, hj =>
    rw [add_at, (BlkAt.made w t #[u]).cell]
    simpa using hj
theorem one_cell_int (k : IntKind) (n : Int) : ∀ u ∈ ([.int k n] : List Value), u.oneCell' = true := by
  intro u hu
  simp at hu
  subst hu
  rfl
theorem one_cell_str (s : ByteArray) : ∀ u ∈ ([.string s] : List Value), u.oneCell' = true := by
  intro u hu
  simp at hu
  subst hu
  rfl

/-- Numbers and texts as values. -/
def u64s (l : List Nat) : List Value := l.map fun n : Nat => .int .u64 (n : Int)
def strs (l : List ByteArray) : List Value := l.map .string
theorem u64s_length (l : List Nat) : (u64s l).length = l.length := by simp [u64s]
theorem strs_length (l : List ByteArray) : (strs l).length = l.length := by simp [strs]
theorem u64s_at (l : List Nat) (k : Nat) (hk : k < l.length) (h : k < (u64s l).length) : (u64s l)[k] = .int .u64 (l[k] : Int) := by simp [u64s]
theorem strs_at (l : List ByteArray) (k : Nat) (hk : k < l.length) (h : k < (strs l).length) : (strs l)[k] = .string l[k] := by simp [strs]

/-- How long a slot's text is. -/
def strLen : Value → Nat | .string s => s.size | _ => 0
/-- A text of bytes. -/
def txt (l : List UInt8) : ByteArray := ⟨l.toArray⟩
theorem txt_list (l : List UInt8) : (txt l).data.toList = l := rfl
theorem txt_size (l : List UInt8) : (txt l).size = l.length := rfl
theorem txt_of (s : ByteArray) : txt s.data.toList = s := rfl
theorem txt_eq {s : ByteArray} {l : List UInt8} (h : s.data.toList = l) : s = txt l := by rw [← h]; rfl
theorem len_list (s : ByteArray) : s.data.toList.length = s.size := by simp
theorem ext_rest (s : ByteArray) (k : Nat) : (s.extract k s.size).data.toList = s.data.toList.drop k := by
  rw [ext_list, List.take_of_length_le]
  rw [List.length_drop, len_list]
  omega
end Go.PM
