/-
  Texts of the proof, joined: Fld Reg Ones From Of FCheck Work PlainFs FCount FDepth. Conditions: as each names.
-/
import Derived.Test.YtgbgbdocgpdkgaaGreatDoorBab
import Derived.Deep.QuietTactic
import Derived.BigQuiet
import Derived.Test.YtgbgbdocgpdkgaaGreatDoorProg
import Derived.WalkSpells
import Derived.WalkLawsBesides
import Derived.Lib.Hide
import Derived.Deep.OwnRows
import Derived.KernelRfl
import Derived.Deep.RegionHeld3
import Derived.Deep.AppendLies
import Derived.Deep.DrawnRows
import Derived.Test.YtgbgbdocgpdkgaaGreatDoorBaa
import Derived.Deep.LoopGhost

section
/-
  Fields as one inductive, and how they lie in memory (five cells a field; a field's own fields are a slice in its fifth cell). Plain theorems, over any program.
-/
namespace Go.PM
open Go.RowKit

/-- A list of fields: the first one's tag, type, number, text, its own fields; the others. -/
inductive Fs where
  | nil : Fs
  | cons (tag : Nat) (ty : Int) (num : Nat) (text : ByteArray) (inner rest : Fs) : Fs
namespace Fs
def len : Fs → Nat
  | nil => 0
  | cons _ _ _ _ _ r => r.len + 1
/-- How many fields there are, with those of all lists. -/
def count : Fs → Nat
  | nil => 0
  | cons _ _ _ _ i r => 1 + i.count + r.count
def app : Fs → Fs → Fs
  | nil, g => g
  | cons t y n s i r, g => cons t y n s i (r.app g)
theorem app_nil : ∀ f : Fs, f.app nil = f
  | nil => rfl
  | cons t y n s i r => by rw [app, app_nil r]
theorem app_len : ∀ f g : Fs, (f.app g).len = f.len + g.len
  | nil, g => by simp [app, len]
  | cons t y n s i r, g => by rw [app, len, len, app_len r g]; omega
theorem app_count : ∀ f g : Fs, (f.app g).count = f.count + g.count
  | nil, g => by simp [app, count]
  | cons t y n s i r, g => by rw [app, count, count, app_count r g]; omega
theorem app_assoc : ∀ f g h : Fs, (f.app g).app h = f.app (g.app h)
  | nil, _, _ => rfl
  | cons t y n s i r, g, h => by rw [app, app, app, app_assoc r g h]
theorem len_zero : ∀ {f : Fs}, f.len = 0 → f = nil
  | nil, _ => rfl
  | cons .., h => by simp [len] at h
theorem len_count : ∀ f : Fs, f.len ≤ f.count
  | nil => Nat.le_refl _
  | cons t y n s i r => by have := len_count r; rw [len, count]; omega
/-- What holds of each field, everywhere. -/
def All (P : Nat → Int → Nat → ByteArray → Prop) : Fs → Prop
  | nil => True
  | cons t y n s i r => P t y n s ∧ All P i ∧ All P r
theorem All.app {P : Nat → Int → Nat → ByteArray → Prop} : ∀ {f g : Fs}, All P f → All P g → All P (f.app g)
  | nil, _, _, h => h
  | cons .., _, h, h' => ⟨h.1, h.2.1, All.app h.2.2 h'⟩
end Fs

/-- The fields that lie in a block from an offset on; the blocks of their own fields, however deep, meet I. -/
def FsAt (w : World) (I : Nat → Prop) : Fs → Nat → Nat → Prop
  | .nil, _, _ => True
  | .cons t y n s i r, b, o =>
    w.cell? ⟨b, o, none⟩ = some (.int .u64 (t : Int)) ∧ w.cell? ⟨b, o + 1, none⟩ = some (.int .i64 y) ∧ w.cell? ⟨b, o + 2, none⟩ = some (.int .u64 (n : Int)) ∧ w.cell? ⟨b, o + 3, none⟩ = some (.string s) ∧
    (∃ A c, w.cell? ⟨b, o + 4, none⟩ = some (.slice A i.len c) ∧ i.len ≤ c ∧ (i.len = 0 ∨ ∃ b' o', A = some ⟨b', o', none⟩ ∧ I b' ∧ b' < w.heap.size ∧ FsAt w I i b' o')) ∧ FsAt w I r b (o + 5)
/-- A slice that reads as fields. -/
def SlV (w : World) (I : Nat → Prop) (v : Value) (f : Fs) : Prop :=
  ∃ A c, v = .slice A f.len c ∧ f.len ≤ c ∧ (f.len = 0 ∨ ∃ b o, A = some ⟨b, o, none⟩ ∧ I b ∧ b < w.heap.size ∧ FsAt w I f b o)
/-- Cells that are fields. -/
def Cls (w : World) (I : Nat → Prop) : List Value → Fs → Prop
  | [], .nil => True
  | a :: b :: c :: d :: v :: xs, .cons t y n s i r => a = .int .u64 (t : Int) ∧ b = .int .i64 y ∧ c = .int .u64 (n : Int) ∧ d = .string s ∧ SlV w I v i ∧ Cls w I xs r
  | _, _ => False
section
variable {w w' : World} {I J : Nat → Prop}
theorem FsAt.keep (hs : w.heap.size ≤ w'.heap.size) (hI : ∀ k, I k → k < w.heap.size → w'.heap[k]? = w.heap[k]?) : ∀ {f : Fs} {b o : Nat}, w'.heap[b]? = w.heap[b]? → FsAt w I f b o → FsAt w' I f b o
  | .nil, _, _, _, _ => trivial
  | .cons t y n s i r, b, o, hb, h => by
    have e : ∀ j, w'.cell? ⟨b, j, none⟩ = w.cell? ⟨b, j, none⟩ := fun j => World.cell?_of_block (a := ⟨b, j, none⟩) hb
    obtain ⟨h1, h2, h3, h4, ⟨A, c, h5, hc, h6⟩, h7⟩ := h
    refine ⟨(e _).trans h1, (e _).trans h2, (e _).trans h3, (e _).trans h4, ⟨A, c, (e _).trans h5, hc, ?_⟩, FsAt.keep hs hI hb h7⟩
    rcases h6 with h6 | ⟨b', o', hA, hi, hlt, h8⟩
    · exact .inl h6
    · exact .inr ⟨b', o', hA, hi, Nat.lt_of_lt_of_le hlt hs, FsAt.keep hs hI (hI b' hi hlt) h8⟩
theorem FsAt.imp (hJ : ∀ k, I k → J k) : ∀ {f : Fs} {b o : Nat}, FsAt w I f b o → FsAt w J f b o
  | .nil, _, _, _ => trivial
  | .cons t y n s i r, b, o, h => by
    obtain ⟨h1, h2, h3, h4, ⟨A, c, h5, hc, h6⟩, h7⟩ := h
    refine ⟨h1, h2, h3, h4, ⟨A, c, h5, hc, ?_⟩, FsAt.imp hJ h7⟩
    rcases h6 with h6 | ⟨b', o', hA, hi, hlt, h8⟩
    · exact .inl h6
    · exact .inr ⟨b', o', hA, hJ _ hi, hlt, FsAt.imp hJ h8⟩
theorem SlV.keep {v : Value} {f : Fs} (h : SlV w I v f) (hs : w.heap.size ≤ w'.heap.size) (hI : ∀ k, I k → k < w.heap.size → w'.heap[k]? = w.heap[k]?) : SlV w' I v f := by
  obtain ⟨A, c, hv, hc, h⟩ := h
  refine ⟨A, c, hv, hc, h.imp id fun ⟨b, o, hA, hi, hlt, h8⟩ => ⟨b, o, hA, hi, Nat.lt_of_lt_of_le hlt hs, h8.keep hs hI (hI b hi hlt)⟩⟩
theorem SlV.imp {v : Value} {f : Fs} (h : SlV w I v f) (hJ : ∀ k, I k → J k) : SlV w J v f := by
  obtain ⟨A, c, hv, hc, h⟩ := h
  exact ⟨A, c, hv, hc, h.imp id fun ⟨b, o, hA, hi, hlt, h8⟩ => ⟨b, o, hA, hJ _ hi, hlt, h8.imp hJ⟩⟩
theorem SlV.below {v : Value} {f : Fs} (h : SlV w I v f) (hb : Below w.heap.size w w') : SlV w' I v f := h.keep hb.size fun k _ hk => hb.block k hk
theorem SlV.tch {S : Nat → Prop} {v : Value} {f : Fs} (h : SlV w I v f) (hb : Tch S w w') (hS : ∀ k, I k → ¬ S k) : SlV w' I v f := h.keep hb.size fun k hi hk => hb.block k hk (hS k hi)
theorem SlV.nil (w : World) (I : Nat → Prop) (A : Option Addr) (c : Nat) : SlV w I (.slice A 0 c) .nil := ⟨A, c, rfl, Nat.zero_le _, .inl rfl⟩
theorem Cls.keep (hs : w.heap.size ≤ w'.heap.size) (hI : ∀ k, I k → k < w.heap.size → w'.heap[k]? = w.heap[k]?) : ∀ {xs : List Value} {f : Fs}, Cls w I xs f → Cls w' I xs f
  | [], .nil, _ => trivial
  | _ :: _ :: _ :: _ :: _ :: _, .cons .., h => ⟨h.1, h.2.1, h.2.2.1, h.2.2.2.1, h.2.2.2.2.1.keep hs hI, Cls.keep hs hI h.2.2.2.2.2⟩
  | [], .cons .., h => h.elim
  | _ :: _, .nil, h => by simp [Cls] at h
  | [_], .cons .., h => by simp [Cls] at h
  | [_, _], .cons .., h => by simp [Cls] at h
  | [_, _, _], .cons .., h => by simp [Cls] at h
  | [_, _, _, _], .cons .., h => by simp [Cls] at h
theorem Cls.below {xs : List Value} {f : Fs} (h : Cls w I xs f) (hb : Below w.heap.size w w') : Cls w' I xs f := h.keep hb.size fun k _ hk => hb.block k hk
theorem Cls.tch {S : Nat → Prop} {xs : List Value} {f : Fs} (h : Cls w I xs f) (hb : Tch S w w') (hS : ∀ k, I k → ¬ S k) : Cls w' I xs f := h.keep hb.size fun k hi hk => hb.block k hk (hS k hi)
theorem Cls.imp (hJ : ∀ k, I k → J k) : ∀ {xs : List Value} {f : Fs}, Cls w I xs f → Cls w J xs f
  | [], .nil, _ => trivial
  | _ :: _ :: _ :: _ :: _ :: _, .cons .., h => ⟨h.1, h.2.1, h.2.2.1, h.2.2.2.1, h.2.2.2.2.1.imp hJ, Cls.imp hJ h.2.2.2.2.2⟩
  | [], .cons .., h => h.elim
  | _ :: _, .nil, h => by simp [Cls] at h
  | [_], .cons .., h => by simp [Cls] at h
  | [_, _], .cons .., h => by simp [Cls] at h
  | [_, _, _], .cons .., h => by simp [Cls] at h
  | [_, _, _, _], .cons .., h => by simp [Cls] at h
theorem Cls.length : ∀ {xs : List Value} {f : Fs}, Cls w I xs f → xs.length = 5 * f.len
  | [], .nil, _ => rfl
  | _ :: _ :: _ :: _ :: _ :: xs, .cons _ _ _ _ _ r, h => by
    have := Cls.length h.2.2.2.2.2
    simp only [List.length_cons, Fs.len]
    omega
  | [], .cons .., h => h.elim
  | _ :: _, .nil, h => by simp [Cls] at h
  | [_], .cons .., h => by simp [Cls] at h
  | [_, _], .cons .., h => by simp [Cls] at h
  | [_, _, _], .cons .., h => by simp [Cls] at h
  | [_, _, _, _], .cons .., h => by simp [Cls] at h
theorem Cls.app : ∀ {xs ys : List Value} {f g : Fs}, Cls w I xs f → Cls w I ys g → Cls w I (xs ++ ys) (f.app g)
  | [], _, .nil, _, _, h => h
  | _ :: _ :: _ :: _ :: _ :: _, _, .cons .., _, h, h' => ⟨h.1, h.2.1, h.2.2.1, h.2.2.2.1, h.2.2.2.2.1, Cls.app h.2.2.2.2.2 h'⟩
  | [], _, .cons .., _, h, _ => h.elim
  | _ :: _, _, .nil, _, h, _ => by simp [Cls] at h
  | [_], _, .cons .., _, h, _ => by simp [Cls] at h
  | [_, _], _, .cons .., _, h, _ => by simp [Cls] at h
  | [_, _, _], _, .cons .., _, h, _ => by simp [Cls] at h
  | [_, _, _, _], _, .cons .., _, h, _ => by simp [Cls] at h
/-- Cells that are fields, where they lie. -/
theorem Cls.at_ : ∀ {xs : List Value} {f : Fs} {b o : Nat}, Cls w I xs f → (∀ j u, xs[j]? = some u → w.cell? ⟨b, o + j, none⟩ = some u) → FsAt w I f b o
  | [], .nil, _, _, _, _ => trivial
  | x0 :: x1 :: x2 :: x3 :: v :: xs, .cons t y n s i r, b, o, h, hc => by
    obtain ⟨rfl, rfl, rfl, rfl, ⟨A, c, rfl, h5, h6⟩, h7⟩ := h
    refine ⟨hc 0 _ rfl, hc 1 _ rfl, hc 2 _ rfl, hc 3 _ rfl, ⟨A, c, hc 4 _ rfl, h5, h6⟩, Cls.at_ h7 fun j u hj => ?_⟩
    rw [Nat.add_assoc, Nat.add_comm 5 j]
    exact hc (j + 5) u hj
  | [], .cons .., _, _, h, _ => h.elim
  | _ :: _, .nil, _, _, h, _ => by simp [Cls] at h
  | [_], .cons .., _, _, h, _ => by simp [Cls] at h
  | [_, _], .cons .., _, _, h, _ => by simp [Cls] at h
  | [_, _, _], .cons .., _, _, h, _ => by simp [Cls] at h
  | [_, _, _, _], .cons .., _, _, h, _ => by simp [Cls] at h
/-- What lies there, as cells. -/
theorem FsAt.cls : ∀ {f : Fs} {b o : Nat}, FsAt w I f b o → ∃ xs, Cls w I xs f ∧ ∀ j u, xs[j]? = some u → w.cell? ⟨b, o + j, none⟩ = some u
  | .nil, _, _, _ => ⟨[], trivial, by simp⟩
  | .cons t y n s i r, b, o, h => by
    obtain ⟨h1, h2, h3, h4, ⟨A, c, h5, hc, h6⟩, h7⟩ := h
    obtain ⟨xs, hx, hx2⟩ := FsAt.cls h7
    refine ⟨.int .u64 (t : Int) :: .int .i64 y :: .int .u64 (n : Int) :: .string s :: .slice A i.len c :: xs, ⟨rfl, rfl, rfl, rfl, ⟨A, c, rfl, hc, h6⟩, hx⟩, fun j u hj => ?_⟩
    match j, hj with
    | 0, hj => injection hj with hj; subst hj; exact h1
    | 1, hj => injection hj with hj; subst hj; exact h2
    | 2, hj => injection hj with hj; subst hj; exact h3
    | 3, hj => injection hj with hj; subst hj; exact h4
    | 4, hj => injection hj with hj; subst hj; exact h5
    | j + 5, hj =>
      have := hx2 j u hj
      rw [Nat.add_assoc, Nat.add_comm 5 j] at this
      exact this
end
/-- The k-th field, and those from there on. -/
def Fs.drop : Fs → Nat → Fs
  | f, 0 => f
  | .nil, _ + 1 => .nil
  | .cons _ _ _ _ _ r, k + 1 => r.drop k
def Fs.take : Fs → Nat → Fs
  | _, 0 => .nil
  | .nil, _ + 1 => .nil
  | .cons t y n s i r, k + 1 => .cons t y n s i (r.take k)
theorem Fs.drop_len : ∀ (f : Fs) (k : Nat), (f.drop k).len = f.len - k
  | f, 0 => by cases f <;> rfl
  | .nil, _ + 1 => by simp [Fs.drop, Fs.len]
  | .cons _ _ _ _ _ r, k + 1 => by rw [Fs.drop, Fs.drop_len r k, Fs.len]; omega
theorem Fs.drop_cons : ∀ (f : Fs) (k : Nat), k < f.len → ∃ t y n s i, f.drop k = .cons t y n s i (f.drop (k + 1)) ∧ f.take (k + 1) = (f.take k).app (.cons t y n s i .nil)
  | .cons t y n s i r, 0, _ => ⟨t, y, n, s, i, by cases r <;> rfl, by cases r <;> rfl⟩
  | .cons t y n s i r, k + 1, h => by
    obtain ⟨t', y', n', s', i', h1, h2⟩ := Fs.drop_cons r k (by simp [Fs.len] at h; omega)
    exact ⟨t', y', n', s', i', h1, by rw [Fs.take, h2]; rfl⟩
theorem Fs.take_all : ∀ (f : Fs) (k : Nat), f.len ≤ k → f.take k = f
  | .nil, 0, _ => rfl
  | .nil, _ + 1, _ => rfl
  | .cons .., 0, h => by simp [Fs.len] at h
  | .cons t y n s i r, k + 1, h => by rw [Fs.take, Fs.take_all r k (by simp [Fs.len] at h; omega)]
theorem Fs.take_len : ∀ (f : Fs) (k : Nat), k ≤ f.len → (f.take k).len = k
  | f, 0, _ => by cases f <;> rfl
  | .nil, _ + 1, h => by simp [Fs.len] at h
  | .cons t y n s i r, k + 1, h => by rw [Fs.take, Fs.len, Fs.take_len r k (by simp [Fs.len] at h; omega)]
theorem Fs.take_count : ∀ (f : Fs) (k : Nat), (f.take k).count ≤ f.count
  | f, 0 => by cases f <;> simp [Fs.take, Fs.count]
  | .nil, _ + 1 => Nat.le_refl _
  | .cons t y n s i r, k + 1 => by have := Fs.take_count r k; rw [Fs.take, Fs.count, Fs.count]; omega
theorem FsAt.drop {w : World} {I : Nat → Prop} : ∀ {f : Fs} {b o : Nat} (k : Nat), FsAt w I f b o → FsAt w I (f.drop k) b (o + k * 5)
  | f, b, o, 0, h => by cases f <;> simpa [Fs.drop] using h
  | .nil, _, _, _ + 1, _ => trivial
  | .cons t y n s i r, b, o, k + 1, h => by
    have := FsAt.drop k h.2.2.2.2.2
    rw [show o + 5 + k * 5 = o + (k + 1) * 5 by omega] at this
    exact this
theorem FsAt.lt {w : World} {I : Nat → Prop} : ∀ {f : Fs} {b o : Nat}, FsAt w I f b o → FsAt w (fun k => I k ∧ k < w.heap.size) f b o
  | .nil, _, _, _ => trivial
  | .cons t y n s i r, b, o, h => by
    obtain ⟨h1, h2, h3, h4, ⟨A, c, h5, hc, h6⟩, h7⟩ := h
    refine ⟨h1, h2, h3, h4, ⟨A, c, h5, hc, ?_⟩, FsAt.lt h7⟩
    rcases h6 with h6 | ⟨b', o', hA, hi, hlt, h8⟩
    · exact .inl h6
    · exact .inr ⟨b', o', hA, ⟨hi, hlt⟩, hlt, FsAt.lt h8⟩
theorem SlV.lt {w : World} {I : Nat → Prop} {v : Value} {f : Fs} (h : SlV w I v f) : SlV w (fun k => I k ∧ k < w.heap.size) v f := by
  obtain ⟨A, c, hv, hc, h⟩ := h
  exact ⟨A, c, hv, hc, h.imp id fun ⟨b, o, hA, hi, hlt, h8⟩ => ⟨b, o, hA, ⟨hi, hlt⟩, hlt, h8.lt⟩⟩
theorem Cls.lt {w : World} {I : Nat → Prop} : ∀ {xs : List Value} {f : Fs}, Cls w I xs f → Cls w (fun k => I k ∧ k < w.heap.size) xs f
  | [], .nil, _ => trivial
  | _ :: _ :: _ :: _ :: _ :: _, .cons .., h => ⟨h.1, h.2.1, h.2.2.1, h.2.2.2.1, h.2.2.2.2.1.lt, Cls.lt h.2.2.2.2.2⟩
  | [], .cons .., h => h.elim
  | _ :: _, .nil, h => by simp [Cls] at h
  | [_], .cons .., h => by simp [Cls] at h
  | [_, _], .cons .., h => by simp [Cls] at h
  | [_, _, _], .cons .., h => by simp [Cls] at h
  | [_, _, _, _], .cons .., h => by simp [Cls] at h
/-- Fields behind an append to their row. -/
theorem Cls.grow {wq w3 : World} {base g : Nat} {v : Value} {xs : List Value} {f : Fs} (h : Cls wq (fun k => base ≤ k ∧ v.ownBlock ≠ some k) xs f) (hg : wq.grownBy w3 v.ownBlock) (hat : v.ownBlock = some g ∨ g = wq.heap.size) :
    Cls w3 (fun k => base ≤ k ∧ some g ≠ some k) xs f := by
  have h2 := Cls.tch (S := fun k => v.ownBlock = some k) h.lt (Tch.grown hg fun k hk _ => hk) fun k hk => hk.1.2
  refine h2.imp fun k hk => ⟨hk.1.1, fun e => ?_⟩
  injection e with e
  subst e
  rcases hat with h | h
  · exact hk.1.2 h
  · have := hk.2; omega
theorem BlkAt.news {w : World} {g : Nat} {t : TypeId} {cs : Array Value} (h : BlkAt w g t cs) : ∀ j u, cs.toList[j]? = some u → w.cell? ((⟨g, 0, none⟩ : Addr).add j) = some u := by
  intro j u hj
  rw [add_at, h.cell j, ← Array.getElem?_toList]
  exact hj
theorem Fs.All.imp {P Q : Nat → Int → Nat → ByteArray → Prop} (h : ∀ t y n s, P t y n s → Q t y n s) : ∀ {f : Fs}, f.All P → f.All Q
  | .nil, _ => trivial
  | .cons .., hf => ⟨h _ _ _ _ hf.1, Fs.All.imp h hf.2.1, Fs.All.imp h hf.2.2⟩
theorem Fs.All.drop {P : Nat → Int → Nat → ByteArray → Prop} : ∀ {f : Fs} (k : Nat), f.All P → (f.drop k).All P
  | f, 0, h => by cases f <;> exact h
  | .nil, _ + 1, _ => trivial
  | .cons .., k + 1, h => Fs.All.drop k h.2.2
theorem Fs.drop_count : ∀ (f : Fs) (k : Nat), (f.drop k).count ≤ f.count
  | f, 0 => by cases f <;> exact Nat.le_refl _
  | .nil, _ + 1 => Nat.le_refl _
  | .cons _ _ _ _ _ r, k + 1 => by have := Fs.drop_count r k; rw [Fs.drop, Fs.count]; omega
end Go.PM
end

section
/-
  A region that draws its order, of operations that compute and of calls that leave all that was there: one walk of it, in the order of the text. Plain theorems, over any program.
-/
namespace Go.PM
open Go.RowKit

/-! ### A region that draws its order, of operations that compute and of calls that leave all that was there -/
/-- A world in which all that was there in w is as it was. -/
def BelW (w : World) : Type := { x : World // Below w.heap.size w x }
def BelW.wld {w : World} (n : BelW w) : World := n.1
theorem BelW.bel {w : World} (n : BelW w) : Below w.heap.size w n.wld := n.2
instance (w : World) : Nonempty (BelW w) := ⟨⟨w, b0⟩⟩
theorem wp_region_below_lit {P : Program} {id : Nat} {Q : Exit → Act → World → Prop} {a : Act} {w : World} {l : List Oper} (hm : P.follows .mixedOrders = true) (hB : Region.lexB .any l.toArray = true)
    (h : wpQuiet P l.toArray (fun w' => ∃ n : BelW w, w' = n.wld) (fun a' => ∀ w', (∃ n : BelW w, w' = n.wld) → Q .normal a' w') l a) : (Code.region id l.toArray true).wp P Q a w :=
  wp_region_quiet (C := fun w' => ∃ n : BelW w, w' = n.wld) hm hB ⟨(⟨w.drew, bd b0⟩ : BelW w), rfl⟩ (by simpa using h)
theorem below_of {P : Program} {f : FuncId} {args : Array Value} {w : World} {n : BelW w} {v : Value} (h : Calls P f args n.wld fun e w' => e = .returned v ∧ Below n.wld.heap.size n.wld w') :
    Calls P f args n.wld fun e w' => e = .returned v ∧ ∃ m : BelW w, w' = m.wld := h.mono fun _ w' ⟨he, hb⟩ => ⟨he, ⟨w', bb n.bel hb⟩, rfl⟩
/-- The world under a name. -/
theorem wp_world {P : Program} {c : Code} {Q : Exit → Act → World → Prop} {a : Act} {w : World} (h : ∀ W, W = w → Code.wp P c Q a W) : Code.wp P c Q a w := h w rfl
end Go.PM
end

section
/-
  What the statements of layer 8 make trees of: a list of 'One's as it lies in memory; whether they are few; what 'from' makes of it. Conditions: numbers within their kinds.
-/
namespace Go.PM
open Go.RowKit
structure One where
  deep : Nat
  tag : Nat
  ty : Int
  num : Nat
  text : ByteArray
/-- Within their kinds. -/
def One.ok (x : One) : Prop := x.deep < 256 ∧ In64 x.tag ∧ (-128 ≤ x.ty ∧ x.ty ≤ 127) ∧ In64 x.num ∧ x.text.size ≤ 9223372036854775807
def OnesAt (w : World) (b o : Nat) (l : List One) : Prop := ∀ j x, l[j]? = some x →
  w.cell? ⟨b, o + j * 5, none⟩ = some (.int .u8 (x.deep : Int)) ∧ w.cell? ⟨b, o + j * 5 + 1, none⟩ = some (.int .u64 (x.tag : Int)) ∧ w.cell? ⟨b, o + j * 5 + 2, none⟩ = some (.int .i8 x.ty) ∧
  w.cell? ⟨b, o + j * 5 + 3, none⟩ = some (.int .u64 (x.num : Int)) ∧ w.cell? ⟨b, o + j * 5 + 4, none⟩ = some (.string x.text)
/-- A slice that reads so; it lies below H. -/
def OnesRd (H : Nat) (w : World) (A : Option Addr) (l : List One) : Prop := l = [] ∨ ∃ b o, A = some ⟨b, o, none⟩ ∧ b < H ∧ H ≤ w.heap.size ∧ OnesAt w b o l
theorem OnesAt.below {w w' : World} {b o : Nat} {l : List One} (h : OnesAt w b o l) (hb : Below w.heap.size w w') (hlt : b < w.heap.size) : OnesAt w' b o l := fun j x hj => by
  have e : ∀ k, w'.cell? ⟨b, k, none⟩ = w.cell? ⟨b, k, none⟩ := fun k => World.cell?_of_block (a := ⟨b, k, none⟩) (hb.block b hlt)
  obtain ⟨h1, h2, h3, h4, h5⟩ := h j x hj
  exact ⟨(e _).trans h1, (e _).trans h2, (e _).trans h3, (e _).trans h4, (e _).trans h5⟩
theorem OnesRd.below {H : Nat} {w w' : World} {A : Option Addr} {l : List One} (h : OnesRd H w A l) (hb : Below w.heap.size w w') : OnesRd H w' A l :=
  h.imp id fun ⟨b, o, hA, hlt, hH, h⟩ => ⟨b, o, hA, hlt, Nat.le_trans hH hb.size, h.below hb (Nat.lt_of_lt_of_le hlt hH)⟩
theorem OnesRd.belowB {H : Nat} {w w' : World} {A : Option Addr} {l : List One} (h : OnesRd H w A l) (hb : Below H w w') : OnesRd H w' A l :=
  h.imp id fun ⟨b, o, hA, hlt, hH, h⟩ => ⟨b, o, hA, hlt, Nat.le_trans hH hb.size, fun j x hj => by
    have e : ∀ k, w'.cell? ⟨b, k, none⟩ = w.cell? ⟨b, k, none⟩ := fun k => World.cell?_of_block (a := ⟨b, k, none⟩) (hb.block b hlt)
    obtain ⟨h1, h2, h3, h4, h5⟩ := h j x hj
    exact ⟨(e _).trans h1, (e _).trans h2, (e _).trans h3, (e _).trans h4, (e _).trans h5⟩⟩
def few (l : List One) : Bool := l.all (fun x => decide (x.text.size ≤ 300)) && decide (l.length ≤ 60)
end Go.PM
namespace Go.Proofs.YtgbgbdocgpdkgaaGreatDoor
open Go.RowKit Go.PM
set_option maxRecDepth 100000
set_option maxHeartbeats 1000000

end Go.Proofs.YtgbgbdocgpdkgaaGreatDoor
end

section
/-
  What 'from' makes of a list of 'One's: fields. Conditions: numbers within their kinds; at most 60, of texts of 300 bytes.
-/
namespace Go.Proofs.YtgbgbdocgpdkgaaGreatDoor
open Go.RowKit Go.PM
set_option maxRecDepth 100000
set_option maxHeartbeats 2000000
attribute [local go_sem ↓] Go.wp_at_zero Go.wp_at_succ

/-- What holds of each field that was made. -/
def FOk (t : Nat) (y : Int) (n : Nat) (s : ByteArray) : Prop := In64 t ∧ (-128 ≤ y ∧ y ≤ 127) ∧ In64 n ∧ s.size ≤ 300
def FromEnd (H : Nat) (w : World) (l : List One) (deep : Nat) (e : Ending) (w' : World) : Prop :=
  ∃ (f : Fs) (A : Option Addr) (c : Nat) (A' : Option Addr) (c' : Nat), e = .returned (.tuple #[.slice A f.len c, .slice A' (l.length - f.count) c']) ∧ f.count ≤ l.length ∧ (deep = 0 → f.count = l.length) ∧ f.All FOk ∧
    SlV w' (w.heap.size ≤ ·) (.slice A f.len c) f ∧ OnesRd H w' A' (l.drop f.count) ∧ l.length - f.count ≤ c' ∧ c' ≤ 9223372036854775807 ∧ Below w.heap.size w w'
/-- Where the loop of 'from' stands: the fields so far, and what is left. -/
def FromAt (H : Nat) (w : World) (l : List One) (sl out : Value) (wr : World) : Prop :=
  ∃ (f : Fs) (A' : Option Addr) (c' : Nat) (xs : List Value), sl = .slice A' (l.length - f.count) c' ∧ f.count ≤ l.length ∧ f.All FOk ∧ wr.ownsRow w.heap.size 124 5 out f.len xs ∧
    Cls wr (fun k => w.heap.size ≤ k ∧ out.ownBlock ≠ some k) xs f ∧ OnesRd H wr A' (l.drop f.count) ∧ l.length - f.count ≤ c' ∧ c' ≤ 9223372036854775807 ∧ Below w.heap.size w wr
theorem from_step {H : Nat} {w wq w3 : World} {l : List One} {f fi : Fs} {xs : List Value} {out vi : Value} {xt xn g cap3 c2 : Nat} {xy : Int} {xs' : ByteArray} {A2 : Option Addr} (hHw : H ≤ w.heap.size) (hfo : f.All FOk)
    (hcls : Cls wq (fun k => w.heap.size ≤ k ∧ out.ownBlock ≠ some k) xs f) (hout : ∀ k, out.ownBlock = some k → w.heap.size ≤ k) (hbel : Below w.heap.size w wq)
    (hown3 : w3.ownsRow w.heap.size 124 5 (.slice (some ⟨g, 0, none⟩) (f.len + 1) cap3) (f.len + 1) (xs ++ [.int .u64 (xt : Int), .int .i64 xy, .int .u64 (xn : Int), .string xs', vi]))
    (hg3 : wq.grownBy w3 out.ownBlock) (hat : out.ownBlock = some g ∨ g = wq.heap.size) (hi : SlV wq (fun k => w.heap.size ≤ k ∧ out.ownBlock ≠ some k) vi fi) (hok : FOk xt xy xn xs') (hfi : fi.All FOk)
    (hcnt : f.count + 1 + fi.count ≤ l.length) (hrd : OnesRd H wq A2 (l.drop (f.count + 1 + fi.count))) (hc2 : l.length - (f.count + 1 + fi.count) ≤ c2) (hcc : c2 ≤ 9223372036854775807) :
    FromAt H w l (.slice A2 (l.length - (f.count + 1 + fi.count)) c2) (.slice (some ⟨g, 0, none⟩) (f.len + 1) cap3) w3 := by
  have hcnt2 : (f.app (.cons xt xy xn xs' fi .nil)).count = f.count + 1 + fi.count := by rw [Fs.app_count]; simp [Fs.count]; omega
  have hlen2 : (f.app (.cons xt xy xn xs' fi .nil)).len = f.len + 1 := by rw [Fs.app_len]; simp [Fs.len]
  have hw3 : Below w.heap.size w w3 := hbel.trans (Tch.grown (S := fun k => out.ownBlock = some k) hg3 (fun k hk _ => hk) |>.toBelowB hbel.size fun k hk e => by have := hout k e; omega)
  refine ⟨f.app (.cons xt xy xn xs' fi .nil), A2, c2, xs ++ [.int .u64 (xt : Int), .int .i64 xy, .int .u64 (xn : Int), .string xs', vi], by rw [hcnt2], by rw [hcnt2]; exact hcnt, hfo.app ⟨hok, hfi, trivial⟩, by rw [hlen2]; exact hown3, ?_, ?_, by rw [hcnt2]; exact hc2, hcc, hw3⟩
  · refine Cls.grow (v := out) (hcls.app (?_ : Cls _ _ _ (.cons xt xy xn xs' fi .nil))) hg3 hat
    exact ⟨rfl, rfl, rfl, rfl, hi, trivial⟩
  · rw [hcnt2]
    exact hrd.belowB (Tch.grown (S := fun k => out.ownBlock = some k) hg3 (fun k hk _ => hk) |>.toBelowB (Nat.le_trans hHw hbel.size) fun k hk e => by have := hout k e; omega)
theorem own_slv {w : World} {base : Nat} {e : TypeId} {v : Value} {xs : List Value} {f : Fs} {J : Nat → Prop} (h : w.ownsRow base e 5 v f.len xs) (hc : Cls w J xs f) (hJ : ∀ k, J k → base ≤ k) : ∃ A c, v = .slice A f.len c ∧ SlV w (base ≤ ·) (.slice A f.len c) f := by
  rcases h.2 with ⟨rfl, h0⟩ | ⟨g, cap, cur, rfl, hb, hg, hn, _⟩
  · have := Fs.len_zero h0
    subst this
    exact ⟨none, 0, rfl, SlV.nil _ _ _ _⟩
  · refine ⟨some ⟨g, 0, none⟩, cap, rfl, some ⟨g, 0, none⟩, cap, rfl, hn, .inr ⟨g, 0, rfl, hb, (Array.getElem?_eq_some_iff.1 hg).1, (hc.imp hJ).at_ fun j u hj => ?_⟩⟩
    have := h.cells (g := g) rfl j u hj
    rwa [add_at, ← Nat.zero_add j] at this
theorem from_stop {H : Nat} {w wr : World} {l : List One} {deep : Nat} {f : Fs} {A' : Option Addr} {c' : Nat} {xs : List Value} {out : Value} (hfc : f.count ≤ l.length) (hd : deep = 0 → f.count = l.length) (hfo : f.All FOk)
    (hown : wr.ownsRow w.heap.size 124 5 out f.len xs) (hcls : Cls wr (fun k => w.heap.size ≤ k ∧ out.ownBlock ≠ some k) xs f) (hrd : OnesRd H wr A' (l.drop f.count)) (hlc : l.length - f.count ≤ c') (hcc : c' ≤ 9223372036854775807)
    (hbel : Below w.heap.size w wr) : FromEnd H w l deep (.returned (.tuple #[out, .slice A' (l.length - f.count) c'])) wr := by
  obtain ⟨A, c, rfl, h⟩ := own_slv hown hcls fun k hk => hk.1
  exact ⟨f, A, c, A', c', rfl, hfc, hd, hfo, h, hrd, hlc, hcc, hbel⟩
theorem info_field : (Tryz.prog.info? 124).map (fun i => (i.zero, i.size, i.bytes)) = some (some (.agg #[.int .u64 0, .int .i64 0, .int .u64 0, .string ByteArray.empty, .slice none 0 0]), 5, 64) := by kernel_rfl
end Go.Proofs.YtgbgbdocgpdkgaaGreatDoor
end

section
/-
  Make, and the document's fields of some. Conditions: numbers within their kinds; at most 60 fields.
-/
namespace Go.Proofs.YtgbgbdocgpdkgaaGreatDoor
open Go.RowKit Go.PM
set_option maxRecDepth 100000
set_option maxHeartbeats 2000000
attribute [local go_sem ↓] Go.wp_at_zero Go.wp_at_succ

/-- What Make makes. -/
def MakeEnd (w : World) (n : Nat) (e : Ending) (w' : World) : Prop :=
  ∃ (f : Fs) (A : Option Addr) (c : Nat), e = .returned (.slice A f.len c) ∧ f.count = n ∧ f.All FOk ∧ SlV w' (w.heap.size ≤ ·) (.slice A f.len c) f ∧ Below w.heap.size w w'

/-- A copy of fields, in new memory. -/
def CopyEnd (w : World) (f : Fs) (e : Ending) (w' : World) : Prop :=
  ∃ (A : Option Addr) (c : Nat), e = .returned (.slice A f.len c) ∧ SlV w' (w.heap.size ≤ ·) (.slice A f.len c) f ∧ Below w.heap.size w w'
end Go.Proofs.YtgbgbdocgpdkgaaGreatDoor
end

section
/-
  Contracts of layer 8: whether fields may be. Conditions: numbers within their kinds.
-/
namespace Go.Proofs.YtgbgbdocgpdkgaaGreatDoor
open Go.RowKit Go.PM
set_option maxRecDepth 100000
set_option maxHeartbeats 1000000

def ftyped (y : Int) (n : Nat) (s : ByteArray) (len : Nat) : Bool :=
  if y = 0 then decide (s.size = 0) && decide (len = 0) else if y = 1 then decide (n = 0) && decide (len = 0) else if y = 2 then decide (n = 0) && decide (s.size = 0) else false
theorem size_zero {s : ByteArray} (h : s.size = 0) : s = ⟨#[]⟩ := ByteArray.ext (Array.eq_empty_of_size_eq_zero h)
theorem size_some {s : ByteArray} (h : s.size ≠ 0) : s.toList.isEmpty = false ∧ s.toList ≠ [] := by
  have : s.toList ≠ [] := fun e => h (by rw [ByteArray.toList_eq] at e; have := congrArg List.length e; simpa using this)
  exact ⟨by simpa using this, this⟩
theorem typed_any (t : Nat) (y : Int) (n : Nat) (s : ByteArray) (A : Option Addr) (len c : Nat) (w : World) (hy : InI64 y) (hl : len ≤ 9223372036854775807) :
    Calls Tryz.prog 105 #[.agg #[.int .u64 (t : Int), .int .i64 y, .int .u64 (n : Int), .string s, .slice A len c]] w fun e w' => e = .returned (.bool (ftyped y n s len)) ∧ Below w.heap.size w w' := by
  unfold ftyped
  by_cases y0 : y = 0
  · subst y0
    rw [if_pos rfl]
    by_cases hs : s.size = 0
    · obtain rfl := size_zero hs
      by_cases h0 : len = 0
      · subst h0
        go_enter Tryz.func105, Tryz.ntmps105
        go_wp2
        go_ret
        exact ⟨rfl, ba b0 _⟩
      · have hd : decide (len = 0) = false := by simp; exact h0
        have hi : ((len : Int) == 0) = false := by rw [beq_eq_false_iff_ne]; omega
        rw [hd]
        clear hd
        go_enter Tryz.func105, Tryz.ntmps105
        go_wp2
        go_ret
        exact ⟨rfl, ba b0 _⟩
    · obtain ⟨e1, e2⟩ := size_some hs
      rw [decide_eq_false hs]
      go_enter Tryz.func105, Tryz.ntmps105
      go_wp2
      go_ret
      exact ⟨rfl, ba b0 _⟩
  · rw [if_neg y0]
    by_cases y1 : y = 1
    · subst y1
      rw [if_pos rfl]
      by_cases hn : n = 0
      · subst hn
        by_cases h0 : len = 0
        · subst h0
          go_enter Tryz.func105, Tryz.ntmps105
          go_wp2
          go_ret
          exact ⟨rfl, ba b0 _⟩
        · have hd : decide (len = 0) = false := by simp; exact h0
          have hi : ((len : Int) == 0) = false := by rw [beq_eq_false_iff_ne]; omega
          rw [hd]
          clear hd
          go_enter Tryz.func105, Tryz.ntmps105
          go_wp2
          go_ret
          exact ⟨rfl, ba b0 _⟩
      · have hi : ((n : Int) == 0) = false := by rw [beq_eq_false_iff_ne]; omega
        rw [decide_eq_false hn]
        go_enter Tryz.func105, Tryz.ntmps105
        go_wp2
        go_ret
        exact ⟨rfl, ba b0 _⟩
    · rw [if_neg y1]
      have i0 : ((y : Int) == 0) = false := by rw [beq_eq_false_iff_ne]; exact y0
      have i1 : ((y : Int) == 1) = false := by rw [beq_eq_false_iff_ne]; exact y1
      by_cases y2 : y = 2
      · subst y2
        rw [if_pos rfl]
        clear y0 y1 i0 i1
        by_cases hn : n = 0
        · subst hn
          by_cases hs : s.size = 0
          · obtain rfl := size_zero hs
            go_enter Tryz.func105, Tryz.ntmps105
            go_wp2
            go_ret
            exact ⟨rfl, ba b0 _⟩
          · obtain ⟨e1, e2⟩ := size_some hs
            rw [decide_eq_false hs]
            go_enter Tryz.func105, Tryz.ntmps105
            go_wp2
            go_ret
            exact ⟨rfl, ba b0 _⟩
        · have hi : ((n : Int) == 0) = false := by rw [beq_eq_false_iff_ne]; omega
          rw [decide_eq_false hn]
          go_enter Tryz.func105, Tryz.ntmps105
          go_wp2
          go_ret
          exact ⟨rfl, ba b0 _⟩
      · rw [if_neg y2]
        have i2 : ((y : Int) == 2) = false := by rw [beq_eq_false_iff_ne]; exact y2
        clear y0 y1 y2
        go_enter Tryz.func105, Tryz.ntmps105
        go_wp2
        go_ret
        exact ⟨rfl, ba b0 _⟩
/-- Whether fields may be that stand within so many lists, behind a tag: the code. -/
def fcheck : Fs → Nat → Nat → Nat
  | .nil, _, _ => 0
  | .cons t y n s i r, ahead, within =>
    if t = 0 ∨ 4294967296 < t then 18 else if t ≤ ahead then 7 else if ftyped y n s i.len = false then 8 else if y ≠ 2 then fcheck r t within else if 8 ≤ within then 9
    else if fcheck i 0 (within + 1) ≠ 0 then fcheck i 0 (within + 1) else fcheck r t within
/-- Numbers within their kinds. -/
def FKd (t : Nat) (y : Int) (n : Nat) (s : ByteArray) : Prop := In64 t ∧ InI64 y ∧ In64 n ∧ s.size ≤ 9223372036854775807
theorem FOk.kd {t : Nat} {y : Int} {n : Nat} {s : ByteArray} (h : FOk t y n s) : FKd t y n s := ⟨h.1, by have := h.2.1; unfold InI64; omega, h.2.2.1, by have := h.2.2.2; omega⟩
theorem check_any8 (N : Nat) : ∀ (A : Option Addr) (c : Nat) (f : Fs) (I : Nat → Prop) (within : Nat) (w : World), f.count ≤ N → SlV w I (.slice A f.len c) f → f.All FKd → f.count ≤ 1000000 → within ≤ 8 →
    Calls Tryz.prog 99 #[.slice A f.len c, .int .i64 (within : Int)] w fun e w' => e = .returned (.int .i64 (fcheck f 0 within : Int)) ∧ Below w.heap.size w w' := by
  induction N with
  | zero =>
    intro A c f I within w hN hr hk h60 hw
    have : f = .nil := Fs.len_zero (by have := f.len_count; omega)
    subst this
    go_enter Tryz.func99, Tryz.ntmps99
    go_wp2_with fail
    go_loopw [5, 11] (fun _ kk wr => kk = .int .i64 0 ∧ wr = w) (fun _ _ _ => 0)
    case atStart => exact ⟨rfl, rfl⟩
    case round =>
      obtain ⟨rfl, rfl⟩ := hrel
      go_wp2_with fail
      go_ret
      exact ⟨rfl, b0⟩
  | succ N ih =>
    intro A c f I within w hN hr hk h60 hw
    have IH := Lib.hid ih
    have HR := Lib.hid hr
    have HK := Lib.hid hk
    have hfl := f.len_count
    generalize hRR : fcheck f 0 within = R
    have H0 : Hid (fcheck (f.drop 0) 0 within = R) := by show _ = _; rw [← hRR]; cases f <;> rfl
    clear hRR ih hr hk
    go_enter Tryz.func99, Tryz.ntmps99
    go_wp2_with fail
    go_loopw [5, 11] (fun aa kk wr => ∃ k ahead : Nat, k ≤ f.len ∧ kk = .int .i64 (k : Int) ∧ aa = .int .u64 (ahead : Int) ∧ ahead ≤ 4294967296 ∧ Hid (fcheck (f.drop k) ahead within = R) ∧ Below w.heap.size w wr) (fun _ kk _ => f.len - (intOf kk).toNat)
    case atStart => exact ⟨0, 0, by omega, rfl, rfl, by omega, H0, b0⟩
    case round =>
      obtain ⟨k, ahead, hk, rfl, rfl, hah, hR', hbel⟩ := hrel
      have HBEL := Lib.hid hbel
      have hR := hR'.out
      by_cases hlt : k < f.len
      · obtain ⟨t, y, n, s, i, hdc, _⟩ := f.drop_cons k hlt
        obtain ⟨A0, c0, hv, hc0, hor⟩ := HR.out.below hbel
        injection hv with hv1 hv2 hv3
        subst hv1 hv3
        rcases hor with h0 | ⟨b, o, rfl, hIb, hbl, hat⟩
        · omega
        have hak := hat.drop k
        have hkk := HK.out.drop k
        have hcc := f.drop_count k
        rw [hdc] at hak hkk hR hcc
        obtain ⟨d0, d1, d2, d3, ⟨Ai, ci, d4, hin⟩, _⟩ := hak
        obtain ⟨⟨ht64, hy64, hn64, hs63⟩, hki, _⟩ := hkk
        have hic : i.count ≤ N ∧ i.count ≤ 1000000 ∧ i.len ≤ 1000000 := by
          have := i.len_count
          simp only [Fs.count] at hcc
          omega
        have HTY : Hid (∀ x : World, Calls Tryz.prog 105 #[.agg #[.int .u64 (t : Int), .int .i64 y, .int .u64 (n : Int), .string s, .slice Ai i.len ci]] x fun e w' => e = .returned (.bool (ftyped y n s i.len)) ∧ Below x.heap.size x w') := fun x => typed_any t y n s Ai i.len ci x hy64 (by omega)
        have HIN := Lib.hid hin
        have HKI := Lib.hid hki
        have HT64 := Lib.hid ht64
        clear hdc hat hin hki hbel hv2 hy64 hn64 hR' ht64 hcc H0
        rw [fcheck] at hR
        by_cases ht0 : t = 0
        · subst ht0
          rw [if_pos (.inl rfl)] at hR
          subst hR
          go_wp2_with (first | (go_at_call 105; refine (HTY.out _).mono ?_; rintro e wt ⟨rfl, hbt⟩; have hm := (BlkAt.made wr 124 #[.int .u64 (t : Int), .int .i64 y, .int .u64 (n : Int), .string s, .slice Ai i.len ci]).below hbt (by simp); have q1 := hm.cell 1; have q4 := hm.cell 4; simp at q1 q4))
          go_ret
          exact ⟨rfl, HBEL.out.trans (by first | exact (bb (ba b0 _) hbt).mono HBEL.out.size | exact (ba b0 _ : Below wr.heap.size wr _).mono HBEL.out.size)⟩
        by_cases ht1 : 4294967296 < t
        · have hti : ((t : Int) == 0) = false := by rw [beq_eq_false_iff_ne]; omega
          rw [if_pos (.inr ht1)] at hR
          subst hR
          go_wp2_with (first | (go_at_call 105; refine (HTY.out _).mono ?_; rintro e wt ⟨rfl, hbt⟩; have hm := (BlkAt.made wr 124 #[.int .u64 (t : Int), .int .i64 y, .int .u64 (n : Int), .string s, .slice Ai i.len ci]).below hbt (by simp); have q1 := hm.cell 1; have q4 := hm.cell 4; simp at q1 q4))
          go_ret
          exact ⟨rfl, HBEL.out.trans (by first | exact (bb (ba b0 _) hbt).mono HBEL.out.size | exact (ba b0 _ : Below wr.heap.size wr _).mono HBEL.out.size)⟩
        rw [if_neg (by omega)] at hR
        have hti : ((t : Int) == 0) = false := by rw [beq_eq_false_iff_ne]; omega
        by_cases hta : t ≤ ahead
        · rw [if_pos hta] at hR
          subst hR
          go_wp2_with (first | (go_at_call 105; refine (HTY.out _).mono ?_; rintro e wt ⟨rfl, hbt⟩; have hm := (BlkAt.made wr 124 #[.int .u64 (t : Int), .int .i64 y, .int .u64 (n : Int), .string s, .slice Ai i.len ci]).below hbt (by simp); have q1 := hm.cell 1; have q4 := hm.cell 4; simp at q1 q4))
          go_ret
          exact ⟨rfl, HBEL.out.trans (by first | exact (bb (ba b0 _) hbt).mono HBEL.out.size | exact (ba b0 _ : Below wr.heap.size wr _).mono HBEL.out.size)⟩
        rw [if_neg hta] at hR
        cases hty : ftyped y n s i.len with
        | false =>
          rw [hty] at HTY hR
          rw [if_pos rfl] at hR
          clear hty
          subst hR
          go_wp2_with (first | (go_at_call 105; refine (HTY.out _).mono ?_; rintro e wt ⟨rfl, hbt⟩; have hm := (BlkAt.made wr 124 #[.int .u64 (t : Int), .int .i64 y, .int .u64 (n : Int), .string s, .slice Ai i.len ci]).below hbt (by simp); have q1 := hm.cell 1; have q4 := hm.cell 4; simp at q1 q4))
          go_ret
          exact ⟨rfl, HBEL.out.trans (by first | exact (bb (ba b0 _) hbt).mono HBEL.out.size | exact (ba b0 _ : Below wr.heap.size wr _).mono HBEL.out.size)⟩
        | true =>
          rw [hty] at HTY hR
          rw [if_neg (by simp)] at hR
          clear hty
          by_cases hy2 : y = 2
          · subst hy2
            rw [if_neg (by simp)] at hR
            by_cases hwi : 8 ≤ within
            · rw [if_pos hwi] at hR
              subst hR
              go_wp2_with (first | (go_at_call 105; refine (HTY.out _).mono ?_; rintro e wt ⟨rfl, hbt⟩; have hm := (BlkAt.made wr 124 #[.int .u64 (t : Int), .int .i64 2, .int .u64 (n : Int), .string s, .slice Ai i.len ci]).below hbt (by simp); have q1 := hm.cell 1; have q4 := hm.cell 4; simp at q1 q4))
              go_ret
              exact ⟨rfl, HBEL.out.trans ((bb (ba b0 _) hbt).mono HBEL.out.size)⟩
            rw [if_neg hwi] at hR
            have HSL : Hid (SlV wr I (.slice Ai i.len ci) i) := ⟨Ai, ci, rfl, HIN.out⟩
            generalize hE : fcheck i 0 (within + 1) = E at hR
            have HE := Lib.hid hE
            clear hE
            by_cases he : E = 0
            · subst he
              rw [if_neg (by simp)] at hR
              have HR2 := Lib.hid hR
              clear hR
              go_wp2_with (first | (go_at_call 105; refine (HTY.out _).mono ?_; rintro e wt ⟨rfl, hbt⟩; have hm := (BlkAt.made wr 124 #[.int .u64 (t : Int), .int .i64 2, .int .u64 (n : Int), .string s, .slice Ai i.len ci]).below hbt (by simp); have q1 := hm.cell 1; have q4 := hm.cell 4; simp at q1 q4) | (go_at_call 99; refine (IH.out Ai ci i I (within + 1) _ hic.1 (HSL.out.below (bb (ba b0 _) hbt)) HKI.out hic.2.1 (by omega)).mono ?_; rw [HE.out]; rintro e2 w2 ⟨rfl, hb2⟩))
              go_roundw
              case rel => exact ⟨k + 1, t, by omega, by go_num, rfl, by omega, HR2, HBEL.out.trans ((bb (bb (ba b0 _) hbt) hb2).mono HBEL.out.size)⟩
              case measure => simp [intOf]; omega
            · rw [if_pos he] at hR
              have hei : ((E : Int) != 0) = true := by rw [bne_iff_ne]; omega
              subst hR
              go_wp2_with (first | (go_at_call 105; refine (HTY.out _).mono ?_; rintro e wt ⟨rfl, hbt⟩; have hm := (BlkAt.made wr 124 #[.int .u64 (t : Int), .int .i64 2, .int .u64 (n : Int), .string s, .slice Ai i.len ci]).below hbt (by simp); have q1 := hm.cell 1; have q4 := hm.cell 4; simp at q1 q4) | (go_at_call 99; refine (IH.out Ai ci i I (within + 1) _ hic.1 (HSL.out.below (bb (ba b0 _) hbt)) HKI.out hic.2.1 (by omega)).mono ?_; rw [HE.out]; rintro e2 w2 ⟨rfl, hb2⟩))
              go_ret
              exact ⟨rfl, HBEL.out.trans ((bb (bb (ba b0 _) hbt) hb2).mono HBEL.out.size)⟩
          · rw [if_pos hy2] at hR
            have hyi : (y != 2) = true := by rw [bne_iff_ne]; exact hy2
            have HR2 := Lib.hid hR
            clear hR hy2
            go_wp2_with (first | (go_at_call 105; refine (HTY.out _).mono ?_; rintro e wt ⟨rfl, hbt⟩; have hm := (BlkAt.made wr 124 #[.int .u64 (t : Int), .int .i64 y, .int .u64 (n : Int), .string s, .slice Ai i.len ci]).below hbt (by simp); have q1 := hm.cell 1; have q4 := hm.cell 4; simp at q1 q4))
            go_roundw
            case rel => exact ⟨k + 1, t, by omega, by go_num, rfl, by omega, HR2, HBEL.out.trans ((bb (ba b0 _) hbt).mono HBEL.out.size)⟩
            case measure => simp [intOf]; omega
      · obtain rfl : k = f.len := by omega
        have hn : f.drop f.len = .nil := Fs.len_zero (by rw [Fs.drop_len]; omega)
        rw [hn, fcheck] at hR
        subst hR
        clear hR' hbel H0
        go_wp2_with fail
        go_ret
        exact ⟨rfl, HBEL.out⟩
theorem check_of (v : Value) (f : Fs) (I : Nat → Prop) (w : World) (hr : SlV w I v f) (hk : f.All FKd) (h60 : f.count ≤ 1000000) :
    Calls Tryz.prog 93 #[v] w fun e w' => e = .returned (.int .i64 (fcheck f 0 0 : Int)) ∧ Below w.heap.size w w' := by
  obtain ⟨A, c, rfl, hr'⟩ := hr
  have HC := Lib.hid (check_any8 f.count A c f I 0 w (Nat.le_refl _) ⟨A, c, rfl, hr'⟩ hk h60 (by omega))
  clear hr' hk
  generalize fcheck f 0 0 = E at HC ⊢
  go_enter Tryz.func93, Tryz.ntmps93
  go_wp2_with (first | (go_at_call 99; refine HC.out.mono ?_; rintro e wt ⟨rfl, hbt⟩))
  go_ret
  exact ⟨rfl, hbt⟩
end Go.Proofs.YtgbgbdocgpdkgaaGreatDoor
end

section
/-
  Work lists: rows of slices that read as fields, of the call's own. Plain theorems, over any program.
-/
namespace Go.PM
open Go.RowKit
theorem own_pop {w : World} {base : Nat} {e : TypeId} {size g n cap : Nat} {xs : List Value} (h : w.ownsRow base e size (.slice (some ⟨g, 0, none⟩) (n + 1) cap) (n + 1) xs) :
    w.ownsRow base e size (.slice (some ⟨g, 0, none⟩) n cap) n (xs.take (n * size)) := by
  have hle : n * size ≤ (n + 1) * size := Nat.mul_le_mul_right _ (by omega)
  refine ⟨by rw [List.length_take, h.1]; omega, ?_⟩
  rcases h.2 with ⟨h', _⟩ | ⟨g', cap', cur, h', hb, hg, hnc, hcm, hcs, htake⟩
  · simp at h'
  · simp only [Value.slice.injEq, Option.some.injEq, Addr.mk.injEq, and_true, true_and] at h'
    obtain ⟨rfl, rfl⟩ := h'
    refine .inr ⟨g, cap, cur, rfl, hb, hg, by omega, hcm, hcs, ?_⟩
    rw [← htake, List.take_take, Nat.min_eq_left hle]

theorem own_cap {w : World} {base : Nat} {e : TypeId} {size g n cap : Nat} {xs : List Value} (h : w.ownsRow base e size (.slice (some ⟨g, 0, none⟩) n cap) n xs) : n ≤ cap ∧ cap ≤ 9223372036854775807 := by
  rcases h.2 with ⟨h', _⟩ | ⟨g', cap', cur, h', hb, hg, hnc, hcm, hcs, htake⟩
  · simp at h'
  · simp only [Value.slice.injEq, Option.some.injEq, Addr.mk.injEq, and_true, true_and] at h'
    obtain ⟨rfl, rfl⟩ := h'
    exact ⟨hnc, by unfold maxLen at hcm; omega⟩
/-- Values that read as lists of fields. -/
def WL (w : World) (I : Nat → Prop) (xs : List Value) (L : List Fs) : Prop := xs.length = L.length ∧ ∀ (j : Nat) (x : Value) (f : Fs), xs[j]? = some x → L[j]? = some f → SlV w I x f
theorem WL.nil {w : World} {I : Nat → Prop} : WL w I [] [] := ⟨rfl, fun j x f h => by simp at h⟩
theorem WL.push {w : World} {I : Nat → Prop} {xs : List Value} {L : List Fs} {x : Value} {f : Fs} (h : WL w I xs L) (hx : SlV w I x f) : WL w I (xs ++ [x]) (L ++ [f]) := by
  refine ⟨by simp [h.1], fun j y g hy hg => ?_⟩
  by_cases hj : j < xs.length
  · rw [List.getElem?_append_left hj] at hy
    rw [List.getElem?_append_left (by rw [← h.1]; exact hj)] at hg
    exact h.2 j y g hy hg
  · rw [List.getElem?_append_right (by omega)] at hy
    rw [List.getElem?_append_right (by rw [← h.1]; omega), ← h.1] at hg
    generalize j - xs.length = m at hy hg
    cases m with
    | zero => simp at hy hg; subst hy hg; exact hx
    | succ m => simp at hy
theorem WL.pop {w : World} {I : Nat → Prop} {xs : List Value} {L : List Fs} {n : Nat} (h : WL w I xs L) (hn : L.length = n + 1) :
    ∃ L' f x, L = L' ++ [f] ∧ L'.length = n ∧ xs[n]? = some x ∧ SlV w I x f ∧ WL w I (xs.take n) L' := by
  have hx : n < xs.length := by rw [h.1]; omega
  have hL : n < L.length := by omega
  refine ⟨L.take n, L[n], xs[n], ?_, by rw [List.length_take]; omega, List.getElem?_eq_getElem hx, h.2 n _ _ (List.getElem?_eq_getElem hx) (List.getElem?_eq_getElem hL), ?_⟩
  · have h1 := List.take_append_getElem hL
    rw [h1, List.take_of_length_le (by omega)]
  · refine ⟨by rw [List.length_take, List.length_take, h.1], fun j y g hy hg => ?_⟩
    rw [List.getElem?_take] at hy hg
    by_cases hj : j < n
    · rw [if_pos hj] at hy hg
      exact h.2 j y g hy hg
    · rw [if_neg hj] at hy
      cases hy
end Go.PM
end

section
/-
  Plain laws of fields: how deep they stand, whether two lists are one, their writing, what a text reads as. No program in sight.
-/
namespace Go.PM
def lsum : List Fs → Nat
  | [] => 0
  | f :: L => f.count + lsum L
theorem lsum_app : ∀ (L M : List Fs), lsum (L ++ M) = lsum L + lsum M
  | [], M => by simp [lsum]
  | f :: L, M => by simp only [List.cons_append, lsum, lsum_app L M]; omega
/-- The fields that stand in these fields. -/
def Fs.icount : Fs → Nat
  | .nil => 0
  | .cons _ _ _ _ i r => i.count + r.icount
theorem Fs.count_in : ∀ f : Fs, f.count = f.len + f.icount
  | .nil => rfl
  | .cons _ _ _ _ i r => by simp only [Fs.count, Fs.len, Fs.icount, Fs.count_in r]; omega
/-! ### Depth -/
def Fs.depth : Fs → Nat
  | .nil => 0
  | .cons _ y _ _ i r => if y = 2 ∨ 0 < i.len then max (1 + i.depth) r.depth else r.depth
def ldepth : List Fs → Nat
  | [] => 0
  | f :: L => max f.depth (ldepth L)
/-- The lists that stand in fields, but for empty ones. -/
def Fs.ins : Fs → List Fs
  | .nil => []
  | .cons _ _ _ _ i r => if 0 < i.len then i :: r.ins else r.ins
/-- Does a list stand in these? -/
def Fs.more : Fs → Bool
  | .nil => false
  | .cons _ y _ _ i r => decide (y = 2 ∨ 0 < i.len) || r.more
def lins : List Fs → List Fs
  | [] => []
  | f :: L => f.ins ++ lins L
def lmore : List Fs → Bool
  | [] => false
  | f :: L => f.more || lmore L
theorem len_pos_or (i : Fs) : 0 < i.len ∨ i = .nil := by
  cases i with
  | nil => exact .inr rfl
  | cons => left; simp [Fs.len]
theorem ldepth_app : ∀ (L M : List Fs), ldepth (L ++ M) = max (ldepth L) (ldepth M)
  | [], M => by simp [ldepth]
  | f :: L, M => by simp only [List.cons_append, ldepth, ldepth_app L M]; omega
theorem ins_no : ∀ g : Fs, g.more = false → g.ins = [] := by
  intro g
  induction g with
  | nil => intro _; rfl
  | cons a b c d e f ih1 ih2 =>
    intro h
    simp only [Fs.more, Bool.or_eq_false_iff, decide_eq_false_iff_not, not_or] at h
    simp only [Fs.ins, if_neg h.1.2]
    exact ih2 h.2
theorem depth_more : ∀ f : Fs, f.depth = if f.more = true then 1 + ldepth f.ins else 0
  | .nil => by simp [Fs.depth, Fs.more]
  | .cons t y n s i r => by
    have hr := depth_more r
    simp only [Fs.depth, Fs.more, Fs.ins]
    have h0 : r.more = false → ldepth r.ins = 0 := fun h => by rw [ins_no r h]; rfl
    rcases len_pos_or i with hi | rfl
    · simp only [hi, or_true, if_true, decide_true, Bool.true_or]
      simp only [ldepth]
      cases hm : r.more with
      | true => rw [hm, if_pos rfl] at hr; omega
      | false => rw [hm, if_neg (by simp)] at hr; rw [h0 hm, hr]; omega
    · simp only [Fs.len, Nat.lt_irrefl, or_false, if_false]
      by_cases hy : y = 2
      · simp only [hy, if_true, decide_true, Bool.true_or]
        simp only [Fs.depth]
        cases hm : r.more with
        | true => rw [hm, if_pos rfl] at hr; omega
        | false => rw [hm, if_neg (by simp)] at hr; rw [h0 hm, hr]; omega
      · simp only [hy, if_false, decide_false, Bool.false_or]
        exact hr
theorem lins_no : ∀ M : List Fs, lmore M = false → lins M = []
  | [], _ => rfl
  | f :: M, h => by
    simp only [lmore, Bool.or_eq_false_iff] at h
    rw [lins, ins_no f h.1, lins_no M h.2]; rfl
theorem ldepth_step : ∀ L : List Fs, ldepth L = if lmore L = true then 1 + ldepth (lins L) else 0
  | [] => by simp [ldepth, lmore]
  | f :: L => by
    have h1 := depth_more f
    have h2 := ldepth_step L
    simp only [ldepth, lmore, lins, ldepth_app]
    cases ha : f.more with
    | false =>
      rw [ha, if_neg (by simp)] at h1
      rw [h1, ins_no f ha, Bool.false_or, ldepth]
      rw [h2]; split <;> omega
    | true =>
      rw [ha, if_pos rfl] at h1
      rw [Bool.true_or, if_pos rfl, h1, h2]
      cases hb : lmore L with
      | true => rw [if_pos rfl]; omega
      | false => rw [if_neg (by simp), lins_no L hb, ldepth]; omega
theorem ins_sum : ∀ f : Fs, lsum f.ins = f.icount
  | .nil => rfl
  | .cons t y n s i r => by
    simp only [Fs.ins, Fs.icount]
    rcases len_pos_or i with hi | rfl
    · rw [if_pos hi, lsum, ins_sum r]
    · simp [Fs.len, Fs.count, ins_sum r]
theorem lins_app : ∀ (L M : List Fs), lins (L ++ M) = lins L ++ lins M
  | [], M => rfl
  | f :: L, M => by simp only [List.cons_append, lins, lins_app L M, List.append_assoc]
theorem lmore_app : ∀ (L M : List Fs), lmore (L ++ M) = (lmore L || lmore M)
  | [], M => rfl
  | f :: L, M => by simp only [List.cons_append, lmore, lmore_app L M, Bool.or_assoc]
theorem lins_sum : ∀ L : List Fs, lsum (lins L) ≤ lsum L ∧ (lmore L = true → lsum (lins L) < lsum L)
  | [] => by simp [lins, lsum, lmore]
  | f :: L => by
    obtain ⟨h1, h2⟩ := lins_sum L
    have h3 := ins_sum f
    have h4 := f.count_in
    have h5 : f.more = true → 0 < f.len := fun h => by cases f with
      | nil => simp [Fs.more] at h
      | cons => simp [Fs.len]
    simp only [lins, lmore, lsum_app, lsum] at h1 h2 ⊢
    refine ⟨by omega, fun h => ?_⟩
    rw [Bool.or_eq_true] at h
    rcases h with h | h
    · have := h5 h; omega
    · have := h2 h; omega
theorem ins_len : ∀ f : Fs, f.ins.length ≤ f.len
  | .nil => Nat.le_refl _
  | .cons t y n s i r => by
    have := ins_len r
    simp only [Fs.ins, Fs.len]
    split <;> simp <;> omega
theorem lins_len : ∀ L : List Fs, (lins L).length ≤ lsum L
  | [] => Nat.le_refl _
  | f :: L => by
    have h1 := lins_len L
    have h2 := ins_len f
    have h3 := f.len_count
    simp only [lins, List.length_append, lsum] at h1 ⊢
    omega
theorem depth_le : ∀ f : Fs, f.depth ≤ f.count
  | .nil => Nat.le_refl _
  | .cons t y n s i r => by
    have h1 := depth_le i
    have h2 := depth_le r
    simp only [Fs.depth, Fs.count]
    split <;> omega
theorem more_app : ∀ f g : Fs, (f.app g).more = (f.more || g.more)
  | .nil, g => by simp [Fs.app, Fs.more]
  | .cons t y n s i r, g => by simp only [Fs.app, Fs.more, more_app r g, Bool.or_assoc]
theorem ins_app : ∀ f g : Fs, (f.app g).ins = f.ins ++ g.ins
  | .nil, g => rfl
  | .cons t y n s i r, g => by
    simp only [Fs.app, Fs.ins, ins_app r g]
    split <;> simp
theorem level_step {L : List Fs} {j : Nat} {f : Fs} (h : L[j]? = some f) : lmore (L.take (j + 1)) = (lmore (L.take j) || f.more) ∧ lins (L.take (j + 1)) = lins (L.take j) ++ f.ins ∧ lsum (L.take j) + f.count ≤ lsum L := by
  obtain ⟨hj, rfl⟩ := List.getElem?_eq_some_iff.1 h
  have e : L.take (j + 1) = L.take j ++ [L[j]] := (List.take_append_getElem hj).symm
  have e2 : lsum L = lsum (L.take (j + 1)) + lsum (L.drop (j + 1)) := by rw [← lsum_app, List.take_append_drop]
  rw [e, lmore_app, lins_app]
  rw [e, lsum_app] at e2
  simp only [lmore, lins, lsum, Bool.or_false, List.append_nil, Nat.add_zero] at e2 ⊢
  exact ⟨trivial, trivial, by omega⟩
theorem ldepth_le : ∀ L : List Fs, ldepth L ≤ lsum L
  | [] => Nat.le_refl _
  | f :: L => by
    have := depth_le f
    have := ldepth_le L
    simp only [ldepth, lsum]
    omega
/-! ### Whether two lists are one -/
def Fs.same : Fs → Fs → Bool
  | .nil, .nil => true
  | .cons t y n s i r, .cons t' y' n' s' i' r' => decide (t = t' ∧ y = y' ∧ n = n' ∧ s = s') && (i.same i' && r.same r')
  | _, _ => false
theorem same_iff : ∀ f g : Fs, f.same g = true ↔ f = g
  | .nil, .nil => by simp [Fs.same]
  | .nil, .cons .. => by simp [Fs.same]
  | .cons .., .nil => by simp [Fs.same]
  | .cons t y n s i r, .cons t' y' n' s' i' r' => by
    have h1 := same_iff i i'
    have h2 := same_iff r r'
    simp only [Fs.same, Bool.and_eq_true, decide_eq_true_eq, h1, h2, Fs.cons.injEq, and_assoc]
theorem same_self (f : Fs) : f.same f = true := (same_iff f f).2 rfl
theorem same_no {f g : Fs} (h : f ≠ g) : f.same g = false := by
  cases e : f.same g with
  | false => rfl
  | true => exact absurd ((same_iff f g).1 e) h
theorem same_len {f g : Fs} (h : f.len ≠ g.len) : f.same g = false := same_no fun e => h (by rw [e])
def lsame (L : List (Fs × Fs)) : Bool := L.all fun p => p.1.same p.2
end Go.PM
end

section
/-
  Contracts of layer 8: how many fields there are.
-/
namespace Go.Proofs.YtgbgbdocgpdkgaaGreatDoor
open Go.RowKit Go.PM
set_option maxRecDepth 100000
set_option maxHeartbeats 1000000

theorem info_fields : (Tryz.prog.info? 120).map (fun i => (i.zero, i.size, i.bytes)) = some (some (.slice none 0 0), 1, 24) := by kernel_rfl
/-- Where a walk over a work list stands. -/
def WkAt (w : World) (I : Nat → Prop) (v : Value) (L : List Fs) (wr : World) : Prop :=
  ∃ (g cap : Nat) (xs : List Value), v = .slice (some ⟨g, 0, none⟩) L.length cap ∧ wr.ownsRow w.heap.size 120 1 v L.length xs ∧ WL w I xs L ∧ Below w.heap.size w wr
end Go.Proofs.YtgbgbdocgpdkgaaGreatDoor
end

section
/-
  Contracts of layer 8: how many lists stand in one another.
-/
namespace Go.Proofs.YtgbgbdocgpdkgaaGreatDoor
open Go.RowKit Go.PM
set_option maxRecDepth 100000
set_option maxHeartbeats 4000000

/-- A row of lists of fields, of the call's own. -/
def LvAt (base : Nat) (w0 : World) (I : Nat → Prop) (v : Value) (L : List Fs) (wr : World) : Prop :=
  ∃ xs : List Value, wr.ownsRow base 120 1 v L.length xs ∧ WL w0 I xs L
theorem LvAt.form {base : Nat} {w0 wr : World} {I : Nat → Prop} {v : Value} {L : List Fs} (h : LvAt base w0 I v L wr) : ∃ A c, v = .slice A L.length c := by
  obtain ⟨xs, h1, _⟩ := h
  obtain ⟨A, c, rfl, _⟩ := Rd.own h1
  exact ⟨A, c, rfl⟩
theorem LvAt.at_ {base : Nat} {w0 wr : World} {I : Nat → Prop} {A : Option Addr} {n c : Nat} {L : List Fs} (h : LvAt base w0 I (.slice A n c) L wr) {j : Nat} (hj : j < L.length) :
    ∃ g f x, A = some ⟨g, 0, none⟩ ∧ base ≤ g ∧ g < wr.heap.size ∧ L[j]? = some f ∧ wr.cell? ⟨g, j, none⟩ = some x ∧ SlV w0 I x f := by
  obtain ⟨xs, h1, h2⟩ := h
  obtain ⟨g, cap, hv, hb, hlt⟩ := h1.form (by omega)
  injection hv with e1 e2 e3
  subst e1 e2 e3
  have hx : j < xs.length := by rw [h2.1]; exact hj
  refine ⟨g, L[j], xs[j], rfl, hb, hlt, List.getElem?_eq_getElem hj, ?_, h2.2 j _ _ (List.getElem?_eq_getElem hx) (List.getElem?_eq_getElem hj)⟩
  have hc := h1.cellAt j (by omega)
  rw [hc, List.getElem?_eq_getElem hx]
theorem LvAt.below {base : Nat} {w0 wr w' : World} {I : Nat → Prop} {v : Value} {L : List Fs} (h : LvAt base w0 I v L wr) (hb : Below wr.heap.size wr w') : LvAt base w0 I v L w' := by
  obtain ⟨xs, h1, h2⟩ := h
  exact ⟨xs, own_below h1 hb, h2⟩
theorem LvAt.mono {base base' : Nat} {w0 wr : World} {I : Nat → Prop} {v : Value} {L : List Fs} (h : LvAt base w0 I v L wr) (hb : base' ≤ base) : LvAt base' w0 I v L wr := by
  obtain ⟨xs, ⟨h0, h1⟩, h2⟩ := h
  refine ⟨xs, ⟨h0, h1.imp id ?_⟩, h2⟩
  rintro ⟨g, cap, cur, e1, e2, e3⟩
  exact ⟨g, cap, cur, e1, by omega, e3⟩
end Go.Proofs.YtgbgbdocgpdkgaaGreatDoor
end
