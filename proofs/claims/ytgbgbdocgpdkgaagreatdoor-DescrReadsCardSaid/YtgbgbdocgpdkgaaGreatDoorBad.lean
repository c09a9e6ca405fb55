/-
  Texts of the proof, joined: CloneF CloneG FApp EntRow Varint Cursor. Conditions: as each names.
-/
import Derived.Test.YtgbgbdocgpdkgaaGreatDoorBac
import Derived.Deep.DeepAppendWide
import Derived.Deep.AppendSrc
import Derived.Test.YtgbgbdocgpdkgaaGreatDoorBab
import Derived.Test.YtgbgbdocgpdkgaaGreatDoorProg
import Derived.Test.YtgbgbdocgpdkgaaGreatDoorBaa
import Derived.WalkSpells
import Derived.WalkLawsBesides
import Derived.Deep.QuietTactic
import Derived.BigQuiet
import Derived.Lib.Hide
import Derived.Deep.OwnRows
import Derived.KernelRfl

section
/-
  Words for the walk over 'Clone': lists of fields in the call's own memory, one place of which is written anew. Plain theorems, over any program.
-/
namespace Go.PM
open Go.RowKit
section
variable {w w' : World} {I J : Nat → Prop}
/-- What is read is one. -/
theorem FsAt.uniq : ∀ {f g : Fs} {b o : Nat}, FsAt w I f b o → FsAt w J g b o → f.len = g.len → f = g
  | .nil, .nil, _, _, _, _, _ => rfl
  | .nil, .cons .., _, _, _, _, h => by simp [Fs.len] at h
  | .cons .., .nil, _, _, _, _, h => by simp [Fs.len] at h
  | .cons t y n s i r, .cons t' y' n' s' i' r', b, o, h, k, hl => by
    obtain ⟨h1, h2, h3, h4, ⟨A, c, h5, _, h6⟩, h7⟩ := h
    obtain ⟨k1, k2, k3, k4, ⟨A', c', k5, _, k6⟩, k7⟩ := k
    have e1 := h1.symm.trans k1
    have e2 := h2.symm.trans k2
    have e3 := h3.symm.trans k3
    have e4 := h4.symm.trans k4
    have e5 := h5.symm.trans k5
    simp only [Option.some.injEq, Value.int.injEq, Value.string.injEq, Value.slice.injEq, true_and, Int.natCast_inj] at e1 e2 e3 e4 e5
    obtain ⟨rfl, e5, rfl⟩ := e5
    have hr := FsAt.uniq h7 k7 (by simp only [Fs.len] at hl; omega)
    have hi : i = i' := by
      rcases h6 with h0 | ⟨b', o', hA, _, _, h8⟩
      · have a1 : i = .nil := Fs.len_zero h0
        have a2 : i' = .nil := Fs.len_zero (by omega)
        rw [a1, a2]
      · rcases k6 with h0 | ⟨b2, o2, hA2, _, _, k8⟩
        · have a1 : i = .nil := Fs.len_zero (by omega)
          have a2 : i' = .nil := Fs.len_zero h0
          rw [a1, a2]
        · rw [hA] at hA2
          injection hA2 with hA2
          injection hA2 with e6 e7
          subst e6 e7
          exact FsAt.uniq h8 k8 e5
    rw [e1, e2, e3, e4, hi, hr]
/-- One place is written anew by a slice that reads as the one that stood there: all reads as it did. -/
theorem FsAt.anew {p : Addr} {A A' : Option Addr} {c c' : Nat} {j : Fs} (hp : w.cell? p = some (.slice A j.len c)) (hj : j.len = 0 ∨ ∃ b o, A = some ⟨b, o, none⟩ ∧ FsAt w I j b o)
    (hj' : j.len ≤ c' ∧ (j.len = 0 ∨ ∃ b o, A' = some ⟨b, o, none⟩ ∧ I b ∧ b < w.heap.size ∧ FsAt w I j b o)) : ∀ {f : Fs} {b o : Nat}, FsAt w I f b o → FsAt (w.setCell p (.slice A' j.len c')) I f b o
  | .nil, _, _, _ => trivial
  | .cons t y n s i r, b, o, h => by
    obtain ⟨h1, h2, h3, h4, ⟨B, d, h5, hd, h6⟩, h7⟩ := h
    have hs : (w.setCell p (.slice A' j.len c')).heap.size = w.heap.size := by simp [World.setCell]
    have oth : ∀ {q : Addr} {v : Value}, w.cell? q = some v → (∀ A n c, v ≠ .slice A n c) → (w.setCell p (.slice A' j.len c')).cell? q = some v := fun {q v} hq hv => by
      rw [World.cell?_setCell_other _ _ _ _ (by rintro rfl; rw [hp] at hq; injection hq with hq; exact hv _ _ _ hq.symm)]
      exact hq
    refine ⟨oth h1 (by simp), oth h2 (by simp), oth h3 (by simp), oth h4 (by simp), ?_, FsAt.anew hp hj hj' h7⟩
    by_cases e : p = ⟨b, o + 4, none⟩
    · have h5' := h5
      rw [← e, hp] at h5'
      simp only [Option.some.injEq, Value.slice.injEq] at h5'
      obtain ⟨e1, e2, e3⟩ := h5'
      have hij : i = j := by
        rcases h6 with h0 | ⟨b', o', hA, _, _, h8⟩
        · rw [Fs.len_zero h0, Fs.len_zero (show j.len = 0 by omega)]
        · rcases hj with h0 | ⟨b2, o2, hA2, k8⟩
          · rw [Fs.len_zero h0, Fs.len_zero (show i.len = 0 by omega)]
          · rw [← e1, hA2] at hA
            injection hA with hA
            injection hA with e6 e7
            subst e6 e7
            exact FsAt.uniq h8 k8 e2.symm
      subst hij
      refine ⟨A', c', ?_, hj'.1, ?_⟩
      · rw [← e]
        exact World.cell?_setCell_same _ _ _ hp
      · rcases hj'.2 with h0 | ⟨b', o', hA, hI, hb, h8⟩
        · exact .inl h0
        · exact .inr ⟨b', o', hA, hI, by rw [hs]; exact hb, FsAt.anew hp hj hj' h8⟩
    · refine ⟨B, d, ?_, hd, ?_⟩
      · rw [World.cell?_setCell_other _ _ _ _ e]
        exact h5
      · rcases h6 with h0 | ⟨b', o', hA, hI, hb, h8⟩
        · exact .inl h0
        · exact .inr ⟨b', o', hA, hI, by rw [hs]; exact hb, FsAt.anew hp hj hj' h8⟩
/-- A block of fields, of the call's own. -/
def FB (w : World) (T : TypeId) (k : Nat) : Prop := ∃ cs, BlkAt w k T cs
theorem FB.lt {T : TypeId} {k : Nat} (h : FB w T k) : k < w.heap.size := by obtain ⟨cs, h⟩ := h; exact h.lt
theorem FB.below {T : TypeId} {k : Nat} (h : FB w T k) (hb : Below w.heap.size w w') : FB w' T k := by obtain ⟨cs, h⟩ := h; exact ⟨cs, h.below hb h.lt⟩
theorem FB.tch {S : Nat → Prop} {T : TypeId} {k : Nat} (h : FB w T k) (hb : Tch S w w') (hk : ¬ S k) : FB w' T k := by obtain ⟨cs, h⟩ := h; exact ⟨cs, h.tch hb hk⟩
theorem FB.put {T : TypeId} {k b i : Nat} (h : FB w T k) (u : Value) : FB (w.setCell ⟨b, i, none⟩ u) T k := by
  obtain ⟨cs, h⟩ := h
  by_cases e : k = b
  · subst e; exact ⟨_, h.put i u⟩
  · exact ⟨cs, h.far e u⟩
/-- So, and of how many cells. -/
def FZ (w : World) (T : TypeId) (k n : Nat) : Prop := ∃ cs, BlkAt w k T cs ∧ cs.size = n
theorem FZ.fb {T : TypeId} {k n : Nat} (h : FZ w T k n) : FB w T k := by obtain ⟨cs, h, _⟩ := h; exact ⟨cs, h⟩
theorem FZ.below {T : TypeId} {k n : Nat} (h : FZ w T k n) (hb : Below w.heap.size w w') : FZ w' T k n := by obtain ⟨cs, h, hn⟩ := h; exact ⟨cs, h.below hb h.lt, hn⟩
theorem FZ.tch {S : Nat → Prop} {T : TypeId} {k n : Nat} (h : FZ w T k n) (hb : Tch S w w') (hk : ¬ S k) : FZ w' T k n := by obtain ⟨cs, h, hn⟩ := h; exact ⟨cs, h.tch hb hk, hn⟩
theorem FZ.put {T : TypeId} {k b i n : Nat} (h : FZ w T k n) (u : Value) : FZ (w.setCell ⟨b, i, none⟩ u) T k n := by
  obtain ⟨cs, h, hn⟩ := h
  by_cases e : k = b
  · subst e; exact ⟨_, h.put i u, by simpa using hn⟩
  · exact ⟨cs, h.far e u, hn⟩
/-- Old, or a block of fields of the call's own. -/
def IC (H : Nat) (T : TypeId) (w : World) (k : Nat) : Prop := k < H ∨ FB w T k
/-- A slice of fields in the call's own memory. -/
def CE (H : Nat) (T : TypeId) (w : World) (x : Value) (f : Fs) : Prop :=
  ∃ A c, x = .slice A f.len c ∧ f.len ≤ c ∧ (f.len = 0 ∧ A = none ∧ c = 0 ∨ ∃ b, A = some ⟨b, 0, none⟩ ∧ H ≤ b ∧ c ≤ maxLen ∧ FZ w T b (c * 5) ∧ FsAt w (IC H T w) f b 0)
/-- What a turn of the world keeps. -/
def Rp (H : Nat) (T : TypeId) (w w' : World) : Prop := (∀ f b o, IC H T w b → FsAt w (IC H T w) f b o → FsAt w' (IC H T w') f b o) ∧ (∀ k, FB w T k → FB w' T k) ∧ (∀ k n, FZ w T k n → FZ w' T k n)
theorem Rp.trans {H : Nat} {T : TypeId} {a : World} (h : Rp H T a w) (k : Rp H T w w') : Rp H T a w' :=
  ⟨fun f b o hb hf => k.1 f b o (hb.imp id (h.2.1 b)) (h.1 f b o hb hf), fun j hj => k.2.1 j (h.2.1 j hj), fun j n hj => k.2.2 j n (h.2.2 j n hj)⟩
theorem Rp.below {H : Nat} {T : TypeId} (hH : H ≤ w.heap.size) (hb : Below w.heap.size w w') : Rp H T w w' := by
  have hI : ∀ k, IC H T w k → k < w.heap.size := fun k hk => by rcases hk with h | h; omega; exact h.lt
  refine ⟨fun f b o hb' hf => (hf.keep hb.size (fun k _ hk => hb.block k hk) (hb.block b (hI b hb'))).imp fun k hk => hk.imp id fun h => h.below hb, fun k hk => hk.below hb, fun k n hk => hk.below hb⟩
theorem Rp.tch {H g : Nat} {T : TypeId} (hH : H ≤ w.heap.size) (hb : Tch (fun k => some g = some k) w w') (hg : H ≤ g) (hT : ¬ FB w T g) : Rp H T w w' := by
  have hI : ∀ k, IC H T w k → k < w.heap.size := fun k hk => by rcases hk with h | h; omega; exact h.lt
  have hn : ∀ k, IC H T w k → ¬ (some g = some k) := fun k hk e => by
    injection e with e
    subst e
    rcases hk with h | h
    · omega
    · exact hT h
  refine ⟨fun f b o hb' hf => (hf.keep hb.size (fun k hk hl => hb.block k hl (hn k hk)) (hb.block b (hI b hb') (hn b hb'))).imp fun k hk => hk.imp id fun h => h.tch hb (hn k (.inr h)), fun k hk => hk.tch hb (hn k (.inr hk)), fun k n hk => hk.tch hb (hn k (.inr hk.fb))⟩
theorem Rp.anew {H : Nat} {T : TypeId} {b q : Nat} {A A' : Option Addr} {c c' : Nat} {j : Fs} (hp : w.cell? ⟨b, q, none⟩ = some (.slice A j.len c)) (hj : j.len = 0 ∨ ∃ b o, A = some ⟨b, o, none⟩ ∧ FsAt w (IC H T w) j b o)
    (hj' : j.len ≤ c' ∧ (j.len = 0 ∨ ∃ b o, A' = some ⟨b, o, none⟩ ∧ IC H T w b ∧ b < w.heap.size ∧ FsAt w (IC H T w) j b o)) : Rp H T w (w.setCell ⟨b, q, none⟩ (.slice A' j.len c')) :=
  ⟨fun _ _ _ _ hf => (hf.anew hp hj hj').imp fun _ hk => hk.imp id fun h => h.put _, fun _ hk => hk.put _, fun _ _ hk => hk.put _⟩
theorem CE.rp {H : Nat} {T : TypeId} {x : Value} {f : Fs} (h : CE H T w x f) (hr : Rp H T w w') : CE H T w' x f := by
  obtain ⟨A, c, hx, hc, h⟩ := h
  exact ⟨A, c, hx, hc, h.imp id fun ⟨b, hA, hH, hm, hb, hf⟩ => ⟨b, hA, hH, hm, hr.2.2 b _ hb, hr.1 f b 0 (.inr hb.fb) hf⟩⟩
/-- The call's own lists. -/
def CL (H : Nat) (T : TypeId) (w : World) (xs : List Value) (L : List Fs) : Prop := xs.length = L.length ∧ ∀ (j : Nat) (x : Value) (f : Fs), xs[j]? = some x → L[j]? = some f → CE H T w x f
theorem CL.rp {H : Nat} {T : TypeId} {xs : List Value} {L : List Fs} (h : CL H T w xs L) (hr : Rp H T w w') : CL H T w' xs L := ⟨h.1, fun j x f hx hf => (h.2 j x f hx hf).rp hr⟩
theorem CL.nil {H : Nat} {T : TypeId} : CL H T w [] [] := ⟨rfl, fun j x f h => by simp at h⟩
theorem CL.push {H : Nat} {T : TypeId} {xs : List Value} {L : List Fs} {x : Value} {f : Fs} (h : CL H T w xs L) (hx : CE H T w x f) : CL H T w (xs ++ [x]) (L ++ [f]) := by
  refine ⟨by simp [h.1], fun j y g hy hg => ?_⟩
  by_cases hj : j < xs.length
  · rw [List.getElem?_append_left hj] at hy
    rw [List.getElem?_append_left (by rw [← h.1]; exact hj)] at hg
    exact h.2 j y g hy hg
  · rw [List.getElem?_append_right (by omega)] at hy
    rw [List.getElem?_append_right (by rw [← h.1]; omega), ← h.1] at hg
    generalize j - xs.length = m at hy hg
    cases m with
    | zero => simp at hy hg; subst hy hg; exact hx
    | succ m => simp at hy
theorem CL.pop {H : Nat} {T : TypeId} {xs : List Value} {L : List Fs} {n : Nat} (h : CL H T w xs L) (hn : L.length = n + 1) :
    ∃ L' f x, L = L' ++ [f] ∧ L'.length = n ∧ xs[n]? = some x ∧ CE H T w x f ∧ CL H T w (xs.take n) L' := by
  have hx : n < xs.length := by rw [h.1]; omega
  have hL : n < L.length := by omega
  refine ⟨L.take n, L[n], xs[n], ?_, by rw [List.length_take]; omega, List.getElem?_eq_getElem hx, h.2 n _ _ (List.getElem?_eq_getElem hx) (List.getElem?_eq_getElem hL), ?_⟩
  · have h1 := List.take_append_getElem hL
    rw [h1, List.take_of_length_le (by omega)]
  · refine ⟨by rw [List.length_take, List.length_take, h.1], fun j y g hy hg => ?_⟩
    rw [List.getElem?_take] at hy hg
    by_cases hj : j < n
    · rw [if_pos hj] at hy hg
      exact h.2 j y g hy hg
    · rw [if_neg hj] at hy
      cases hy
/-- Each slice in the call's own blocks of fields goes on behind a block, but for those that are still to be copied. -/
def GP (H g0 : Nat) (T : TypeId) (w : World) (xs : List Value) (cur k n : Nat) : Prop :=
  ∀ b cs, H ≤ b → BlkAt w b T cs → ∀ (o : Nat) (A : Addr) (m c : Nat), cs[o]? = some (.slice (some A) m c) → m ≠ 0 → g0 < A.block ∨ (∃ off m' c', Value.slice (some ⟨b, off, none⟩) m' c' ∈ xs ∧ o < 5 * m') ∨ (b = cur ∧ 5 * k ≤ o ∧ o < 5 * n)
/-- A block's cells, as fields. -/
theorem cls_of_blk {T : TypeId} {f : Fs} {g : Nat} {cs : Array Value} (h : FsAt w I f g 0) (hb : BlkAt w g T cs) : Cls w I (cs.toList.take (f.len * 5)) f := by
  obtain ⟨xs, hx, hc⟩ := h.cls
  have hl := hx.length
  have e : xs = cs.toList.take (f.len * 5) := by
    apply List.ext_getElem?
    intro j
    by_cases hj : j < xs.length
    · have h1 := hc j xs[j] (List.getElem?_eq_getElem hj)
      rw [Nat.zero_add, hb.cell] at h1
      rw [List.getElem?_eq_getElem hj, List.getElem?_take, if_pos (by omega), Array.getElem?_toList, h1]
    · rw [List.getElem?_eq_none (by omega), List.getElem?_take, if_neg (by omega)]
  rw [← e]
  exact hx
/-- At the end all goes on behind it. -/
theorem GP.out {H g0 : Nat} {T : TypeId} (h : GP H g0 T w [] 0 0 0) (hH : H ≤ g0) : ∀ {f : Fs} {b o : Nat}, H ≤ b → FB w T b → FsAt w (IC H T w) f b o → FsAt w (fun k => g0 < k ∧ FB w T k) f b o
  | .nil, _, _, _, _, _ => trivial
  | .cons t y n s i r, b, o, hb, hF, hf => by
    obtain ⟨h1, h2, h3, h4, ⟨A, c, h5, hc, h6⟩, h7⟩ := hf
    refine ⟨h1, h2, h3, h4, ⟨A, c, h5, hc, ?_⟩, GP.out h hH hb hF h7⟩
    rcases h6 with h0 | ⟨b', o', hA, hI, hlt, h8⟩
    · exact .inl h0
    · by_cases h0 : i.len = 0
      · exact .inl h0
      right
      obtain ⟨cs, hcs⟩ := hF
      subst hA
      have hg : g0 < b' := by
        rw [hcs.cell] at h5
        rcases h b cs hb hcs (o + 4) ⟨b', o', none⟩ i.len c h5 h0 with h | ⟨_, _, _, h, _⟩ | ⟨_, _, h⟩
        · exact h
        · simp at h
        · omega
      have hF' : FB w T b' := by
        rcases hI with h | h
        · omega
        · exact h
      exact ⟨b', o', rfl, ⟨hg, hF'⟩, hlt, GP.out h hH (by omega) hF' h8⟩
end
end Go.PM
end

section
/-
  Appends whose world is known: onto nil (a copy of fields), of one slice onto a row of the call's own. Plain theorems, over any program.
-/
namespace Go.PM
open Go.RowKit
def zfield : Value := .agg #[.int .u64 0, .int .i64 0, .int .u64 0, .string ByteArray.empty, .slice none 0 0]
theorem copy_none {P : Program} (w : World) (t ty e : TypeId) (i : TypeInfo) (ht : P.underlying t = some (.slice e)) (hi : P.info? e = some i) (A : Option Addr) (c : Nat) :
    (Builtin.append_ #[t, t] ty #[.slice none 0 0, .slice A 0 c]).run P w = .ok (.slice none 0 0) w := by
  have h : (Builtin.firstCells i.size 0 (.slice A 0 c)).run P w = .ok #[] w := by
    cases A with
    | none => exact run_firstCells_none w i.size 0 0 c
    | some a => exact run_firstCells_some w i.size 0 a 0 c [] (by simp) (fun j u h => by simp at h)
  simp [Builtin.append_, run_underlying ht, sizeOf, typeInfo, hi, Builtin.lenOf, h]
theorem cls_one {w : World} {I : Nat → Prop} : ∀ {xs : List Value} {f : Fs}, Cls w I xs f → ∀ u ∈ xs, u.oneCell' = true
  | [], .nil, _ => by simp
  | a :: b :: c :: d :: v :: xs, .cons t y n s i r, h => by
    obtain ⟨rfl, rfl, rfl, rfl, ⟨A, c, rfl, _⟩, h7⟩ := h
    intro u hu
    simp only [List.mem_cons] at hu
    rcases hu with rfl | rfl | rfl | rfl | rfl | hu
    · rfl
    · rfl
    · rfl
    · rfl
    · rfl
    · exact cls_one h7 u hu
  | [], .cons .., h => h.elim
  | _ :: _, .nil, h => by simp [Cls] at h
  | [_], .cons .., h => by simp [Cls] at h
  | [_, _], .cons .., h => by simp [Cls] at h
  | [_, _, _], .cons .., h => by simp [Cls] at h
  | [_, _, _, _], .cons .., h => by simp [Cls] at h
/-- A copy of some fields. -/
theorem copy_some {P : Program} (w : World) (t ty e : TypeId) (i : TypeInfo) (ht : P.underlying t = some (.slice e)) (hi : P.info? e = some i) (hz : i.zero = some zfield) (hsz : i.size = 5) (hby : i.bytes = 64)
    {I : Nat → Prop} {A : Option Addr} {c : Nat} {f : Fs} (hs : SlV w I (.slice A f.len c) f) (h0 : 0 < f.len) (h60 : f.len ≤ 1000000) :
    ∃ xs G, Cls w I xs f ∧ (f.len ≤ G ∧ G ≤ maxLen) ∧ (Builtin.append_ #[t, t] ty #[.slice none 0 0, .slice A f.len c]).run P w = .ok (.slice (some ⟨w.heap.size, 0, none⟩) f.len G) (w.drew.alloc (.cells (xs.toArray ++ Builtin.zeroCells zfield.cells (G - f.len)) e)) := by
  obtain ⟨A', c', hv, hc, hor⟩ := hs
  injection hv with e1 e2 e3
  subst e1 e3
  rcases hor with hh | ⟨b, o, rfl, hI, hb, hf⟩
  · omega
  obtain ⟨xs, hx, hx2⟩ := hf.cls
  have hlen := hx.length
  have hsrc : Src P i.size t (.slice (some ⟨b, o, none⟩) f.len c) f.len xs w := by
    refine Src.ofSlice w ht ⟨b, o, none⟩ f.len c xs (by rw [hsz]; omega) (fun j u hj => ?_) (cls_one hx)
    have ha : (⟨b, o, none⟩ : Addr).add j = ⟨b, o + j, none⟩ := by unfold Addr.add; split <;> simp_all
    rw [ha]
    exact hx2 j u hj
  have hr := run_append_grow_src (P := P) w t t ty e i zfield ht hi hz none 0 0 [] (run_firstCells_none w.drew i.size 0 0 0) (.slice (some ⟨b, o, none⟩) f.len c) f.len xs hsrc (by omega) (by omega) (by rw [hby]; exact growslice_fits (by omega) (by omega))
  simp only [Nat.zero_add, List.nil_append] at hr
  exact ⟨xs, _, hx, ⟨grownCap_ge w f.len 0 e, grownCap_le_maxLen w f.len 0 e (by unfold maxLen; omega)⟩, hr⟩
theorem zcell_at (n o : Nat) (u : Value) (h : (Builtin.zeroCells zfield.cells n)[o]? = some u) : ∀ A m c, u ≠ .slice (some A) m c := by
  have hz : zfield.cells = #[.int .u64 0, .int .i64 0, .int .u64 0, .string ByteArray.empty, .slice none 0 0] := rfl
  have ho : o < n * zfield.cells.size := by
    have := (Array.getElem?_eq_some_iff.1 h).1
    rwa [size_zeroCells] at this
  unfold Builtin.zeroCells at h
  rw [Array.getElem?_map, Array.getElem?_range] at h
  rw [if_pos ho] at h
  simp only [Option.map_some, Option.some.injEq] at h
  have hm : o % zfield.cells.size < 5 := Nat.mod_lt _ (by rw [hz]; decide)
  generalize o % zfield.cells.size = q at h hm
  rw [hz] at h
  intro A m c e
  subst e
  match q, hm with
  | 0, _ => simp at h
  | 1, _ => simp at h
  | 2, _ => simp at h
  | 3, _ => simp at h
  | 4, _ => simp at h
/-- No block of another type is new, or turned. -/
def NT (e : TypeId) (w w' : World) : Prop := ∀ b T cs, T ≠ e → BlkAt w' b T cs → BlkAt w b T cs
theorem NT.alloc (e : TypeId) (w : World) (cs : Array Value) : NT e w (w.alloc (.cells cs e)) := fun b T cs' hT h => by
  by_cases hb : b < w.heap.size
  · unfold BlkAt at h ⊢
    rw [← h]
    exact (Below.heap_alloc w (.cells cs e) b hb).symm
  · have hlt := h.lt
    simp at hlt
    obtain rfl : b = w.heap.size := by omega
    exact absurd rfl (BlkAt.apart h (BlkAt.made w e cs) hT)
theorem NT.trans {e : TypeId} {a b c : World} (h : NT e a b) (k : NT e b c) : NT e a c := fun x T cs hT hc => h x T cs hT (k x T cs hT hc)
theorem NT.dr {e : TypeId} {a b : World} (h : NT e a b) : NT e a b.drew := fun x T cs hT hc => h x T cs hT hc
theorem NT.puts {e : TypeId} {w : World} {g : Nat} (hg : HasT w g e) (o : Nat) (vs : List Value) : NT e w (w.setCells g o vs) := fun b T cs hT h => by
  have hne : b ≠ g := by
    rintro rfl
    exact hT (HasT.one h.hasT (hg.puts vs o w))
  have := tch_setCells (a := w) (S := fun k => k = g) (b := g) rfl vs o w (Tch.refl _ _)
  have hlt : b < w.heap.size := by
    have h1 := h.lt
    have h2 : ∀ (vs : List Value) (o : Nat) (w : World), (w.setCells g o vs).heap.size = w.heap.size := by
      intro vs
      induction vs with
      | nil => intro o w; rfl
      | cons v vs ih => intro o w; rw [World.setCells, ih]; simp [World.setCell]
    rwa [h2] at h1
  unfold BlkAt at h ⊢
  rw [← h]
  exact (this.block b hlt hne).symm
theorem push_nt {P : Program} (w : World) (t ty : TypeId) (base : Nat) (e : TypeId) (i : TypeInfo) (z : Value) (ht : P.underlying t = some (.slice e)) (hi : P.info? e = some i) (hz : i.zero = some z)
    (hsize : i.size = 1) {v v' : Value} {n : Nat} {xs : List Value} {w' : World} (hown : w.ownsRow base e 1 v n xs) (ad : Addr) (u : Value) (hu : w.cell? ad = some u) (h1 : u.oneCell' = true) (h63 : n + 1 ≤ 4000001) (hb : i.bytes ≤ 100)
    (hr : (Builtin.append_ #[t, t] ty #[v, .slice (some ad) 1 1]).run P w = .ok v' w') : NT e w w' := by
  have hsrc : Src P i.size t (.slice (some ad) 1 1) 1 [u] w := by
    refine Src.ofSlice w ht ad 1 1 [u] (by rw [hsize]; rfl) (fun j x hj => ?_) (by simp [h1])
    match j, hj with
    | 0, hj =>
      simp at hj
      subst hj
      have : ad.add 0 = ad := by unfold Addr.add; split <;> simp_all
      rw [this]; exact hu
  have grow : ∀ (A : Option Addr) (c : Nat) (olds : List Value), v = .slice A n c → (Builtin.firstCells i.size n (.slice A n c)).run P w.drew = .ok olds.toArray w.drew → c < n + 1 → NT e w w' := fun A c olds hv hold hg => by
    subst hv
    have hmul : (n + 1) * i.bytes ≤ 140737488355328 := Nat.le_trans (Nat.mul_le_mul h63 hb) (by decide)
    have := run_append_grow_src (P := P) w t t ty e i z ht hi hz A n c olds hold (.slice (some ad) 1 1) 1 [u] hsrc hg (by omega) (growslice_fits (by omega) hmul)
    rw [hr] at this
    injection this with _ hw
    subst hw
    exact NT.trans (b := w.drew) (fun b T cs _ h => h) (NT.alloc e w.drew _)
  rcases hown.2 with ⟨rfl, rfl⟩ | ⟨g, cap, cur, rfl, hbg, hg, hnc, hcm, hcs, htk⟩
  · exact grow none 0 [] rfl (run_firstCells_none w.drew i.size 0 0 0) (by omega)
  · by_cases hroom : n + 1 ≤ cap
    · have := run_append_room_src (P := P) w t t ty e i ht hi g 0 n cap (.slice (some ad) 1 1) 1 [u] hsrc hroom
        (fun j hj => by rw [cell_of_row _ _ _ _ _ _ hg]; simp at hj; subst hj; simp [hsize]; omega) (fun j hj => by unfold World.frozen?; rw [hg]; simp)
      rw [hr] at this
      injection this with _ hw
      subst hw
      exact NT.puts ⟨_, _, hg⟩ _ _
    · refine grow (some ⟨g, 0, none⟩) cap xs rfl ?_ (by omega)
      refine run_firstCells_some w.drew i.size n ⟨g, 0, none⟩ n cap xs (by rw [hsize]; have := hown.1; omega) fun j x hx => ?_
      have := hown.cells (g := g) rfl j x hx
      exact this
/-- An append of one slice, and what it leaves. -/
theorem wpList_append_push {P : Program} {w : World} {ops : Array Oper} {rest : List Oper} {o : Oper} {a : Act} {Q : Exit → Act → World → Prop} (hgd : o.guard = none) (s x : Operand) (t : TypeId)
    (ho : o.op = .call { callee := .builtin .append, args := #[s, x], argTypes := #[t, t] })
    (base : Nat) (e : TypeId) (i : TypeInfo) (z : Value) (bytes : Nat) (ht : P.underlying t = some (.slice e)) (hi : P.info? e = some i) (hz : i.zero = some z)
    (hsize : i.size = 1) (hby : i.bytes = bytes) (hbb : bytes ≤ 100) (hzs : z.cells.size = 1) (v : Value) (n : Nat) (xs : List Value) (hs : a.eval s = v) (hown : w.ownsRow base e 1 v n xs)
    (B : Nat) (u : Value) (hx : a.eval x = .slice (some ⟨B, 0, none⟩) 1 1) (hB : BlkAt w B e #[u]) (h1 : u.oneCell' = true) (h63 : n + 1 ≤ 4000001) (hbase : base ≤ w.heap.size)
    (h : ∀ g cap w', w'.ownsRow base e 1 (.slice (some ⟨g, 0, none⟩) (n + 1) cap) (n + 1) (xs ++ [u]) → w.grownBy w' v.ownBlock → (v.ownBlock = some g ∨ g = w.heap.size) → g < w'.heap.size → NT e w w' → wpList P ops Q rest (a.put o.dst (.slice (some ⟨g, 0, none⟩) (n + 1) cap)) w') : wpList P ops Q (o :: rest) a w := by
  have hu : w.cell? ⟨B, 0, none⟩ = some u := by rw [hB.cell]; rfl
  have hmul : (n + 1) * bytes ≤ 140737488355328 := Nat.le_trans (Nat.mul_le_mul h63 hbb) (by decide)
  obtain ⟨g, cap, w', hr, h2, h3, h4, h5⟩ := run_append_lies (P := P) w t o.type base e i z 1 bytes ht hi hz hsize hby hzs (by decide) v n xs hown ⟨B, 0, none⟩ 1 1 [u] rfl hB.news (by simp [h1]) (by decide) (by unfold maxLen; omega) hmul hbase w.heap.size rfl
  exact wpList_append_run hgd s x t t ho v _ _ hs hx hr (h g cap w' h2 h3 h4 h5 (push_nt w t o.type base e i z ht hi hz hsize hown ⟨B, 0, none⟩ u hu h1 h63 (by rw [hby]; exact hbb) hr))
end Go.PM
end

section
/-
  Fields appended to fields; parts of a list of fields. Plain theorems, over any program.
-/
namespace Go.PM
open Go.RowKit
section
variable {P : Program} {w : World}
theorem append_empty (t ty e : TypeId) (i : TypeInfo) (ht : P.underlying t = some (.slice e)) (hi : P.info? e = some i) (A A' : Option Addr) (n c c' : Nat) (h : n ≤ c) :
    (Builtin.append_ #[t, t] ty #[.slice A n c, .slice A' 0 c']).run P w = .ok (.slice A n c) w := by
  have h0 : (Builtin.firstCells i.size 0 (.slice A' 0 c')).run P w = .ok #[] w := by
    cases A' with
    | none => exact run_firstCells_none w i.size 0 0 c'
    | some a => exact run_firstCells_some w i.size 0 a 0 c' [] (by simp) (fun j u h => by simp at h)
  cases A with
  | none => simp [Builtin.append_, run_underlying ht, sizeOf, typeInfo, hi, Builtin.lenOf, h0, h]
  | some a => simp [Builtin.append_, run_underlying ht, sizeOf, typeInfo, hi, Builtin.lenOf, h0, h, storeCells]
theorem step_append_run {w' : World} {ops : Array Oper} {o : Oper} {a : Act} {K : Act → World → Prop} {Q : Exit → Act → World → Prop} {E : Prop} (hgd : o.guard = none) (s x : Operand) (t u : TypeId)
    (ho : o.op = .call { callee := .builtin .append, args := #[s, x], argTypes := #[t, u] }) (v y v' : Value) (hs : a.eval s = v) (hx : a.eval x = y)
    (hrun : (Builtin.append_ #[t, u] o.type #[v, y]).run P w = .ok v' w') (h : K (a.put o.dst v') w') : if Region.wanted o (yielded ops a.tmps) = true then Oper.wp P o a w K Q else E := by
  have hw : Region.wanted o (yielded ops a.tmps) = true := by simp [Region.wanted, hgd]
  rw [if_pos hw]
  unfold Oper.wp execOp
  simp only [ho, resolve, invoke, builtin, Sem.run_bind, Sem.run_pure, Result.andThen_ok, List.map_toArray, List.map_cons, List.map_nil, hs, hx, hrun]
  exact h
/-- Fields appended to a row of the call's own. -/
theorem fapp_run (t ty e : TypeId) (i : TypeInfo) (ht : P.underlying t = some (.slice e)) (hi : P.info? e = some i) (hz : i.zero = some zfield) (hsz : i.size = 5) (hby : i.bytes = 64)
    {base : Nat} {A B : Option Addr} {c d : Nat} {f g : Fs} {xs : List Value} (hown : w.ownsRow base e 5 (.slice A f.len c) f.len xs) {J I : Nat → Prop} (hc : Cls w J xs f) (hJ : ∀ k, J k → (Value.slice A f.len c).ownBlock ≠ some k)
    (hs : SlV w I (.slice B g.len d) g) (hI : ∀ k, I k → (Value.slice A f.len c).ownBlock ≠ some k) (h60 : f.len + g.len ≤ 2000000) (hb : base ≤ w.heap.size) :
    ∃ (A' : Option Addr) (c' : Nat) (w' : World) (xs' : List Value), (Builtin.append_ #[t, t] ty #[.slice A f.len c, .slice B g.len d]).run P w = .ok (.slice A' (f.app g).len c') w' ∧ w'.ownsRow base e 5 (.slice A' (f.app g).len c') (f.app g).len xs' ∧
      Cls w' (fun k => (J k ∨ I k) ∧ k < w.heap.size) xs' (f.app g) ∧ w.grownBy w' (Value.slice A f.len c).ownBlock ∧ ((Value.slice A' (f.app g).len c').ownBlock = (Value.slice A f.len c).ownBlock ∨ (Value.slice A' (f.app g).len c').ownBlock = some w.heap.size) := by
  by_cases h0 : g.len = 0
  · have : g = .nil := Fs.len_zero h0
    subst this
    rw [Fs.app_nil]
    have hnc : f.len ≤ c := by
      rcases hown.2 with ⟨h1, h2⟩ | ⟨g', cap, cur, h1, _, _, h2, _⟩
      · omega
      · simp only [Value.slice.injEq] at h1; omega
    exact ⟨A, c, w, xs, append_empty t ty e i ht hi A B f.len c d hnc, hown, (hc.lt).imp fun k hk => ⟨.inl hk.1, hk.2⟩, grown_refl _ _, .inl rfl⟩
  · obtain ⟨B', d', hv, hd, hor⟩ := hs
    injection hv with e1 e2 e3
    subst e1 e3
    rcases hor with h | ⟨b, o, rfl, hIb, hbl, hf⟩
    · exact absurd h h0
    obtain ⟨ys, hy, hy2⟩ := hf.cls
    have hyl := hy.length
    have hnews : ∀ j u, ys[j]? = some u → w.cell? ((⟨b, o, none⟩ : Addr).add j) = some u := fun j u hj => by
      have ha : (⟨b, o, none⟩ : Addr).add j = ⟨b, o + j, none⟩ := by unfold Addr.add; split <;> simp_all
      rw [ha]; exact hy2 j u hj
    obtain ⟨g', cap, w', hr, h2, h3, h4, h5⟩ := run_append_lies (P := P) w t ty base e i zfield 5 64 ht hi hz hsz hby rfl (by decide) _ f.len xs hown ⟨b, o, none⟩ g.len d ys (by omega) hnews (cls_one hy) (by omega) (by unfold maxLen; omega) (by omega) hb w.heap.size rfl
    have hS : ∀ k, (J k ∨ I k) ∧ k < w.heap.size → ¬ ((Value.slice A f.len c).ownBlock = some k) := fun k hk => by
      rcases hk.1 with h | h
      · exact hJ k h
      · exact hI k h
    have hcl := ((hc.lt.imp (J := fun k => (J k ∨ I k) ∧ k < w.heap.size) fun k hk => ⟨.inl hk.1, hk.2⟩).app (hy.lt.imp (J := fun k => (J k ∨ I k) ∧ k < w.heap.size) fun k hk => ⟨.inr hk.1, hk.2⟩)).tch (S := fun k => (Value.slice A f.len c).ownBlock = some k) (Tch.grown h3 fun k hk _ => hk) hS
    rw [Fs.app_len]
    refine ⟨some ⟨g', 0, none⟩, cap, w', _, hr, h2, hcl, h3, ?_⟩
    rcases h4 with h4 | h4
    · exact .inl h4.symm
    · right; rw [h4]; rfl
end
section
variable {w : World} {I : Nat → Prop}
theorem FsAt.take : ∀ {f : Fs} {b o : Nat} (k : Nat), FsAt w I f b o → FsAt w I (f.take k) b o
  | f, _, _, 0, _ => by cases f <;> trivial
  | .nil, _, _, _ + 1, _ => trivial
  | .cons .., _, _, k + 1, h => ⟨h.1, h.2.1, h.2.2.1, h.2.2.2.1, h.2.2.2.2.1, FsAt.take k h.2.2.2.2.2⟩
theorem SlV.take {A : Option Addr} {c : Nat} {f : Fs} (h : SlV w I (.slice A f.len c) f) (k : Nat) (hk : k ≤ f.len) : SlV w I (.slice A (f.take k).len c) (f.take k) := by
  obtain ⟨A', c', hv, hc, hor⟩ := h
  injection hv with e1 e2 e3
  subst e1 e3
  refine ⟨A, c, rfl, by rw [Fs.take_len f k hk]; omega, ?_⟩
  rcases hor with h | ⟨b, o, h1, h2, h3, h4⟩
  · left; rw [Fs.take_len f k hk]; omega
  · exact .inr ⟨b, o, h1, h2, h3, h4.take k⟩
theorem SlV.drop {b o c : Nat} {f : Fs} (h : SlV w I (.slice (some ⟨b, o, none⟩) f.len c) f) (k : Nat) (hk : k ≤ f.len) (c' : Nat) (hc : f.len - k ≤ c') : SlV w I (.slice (some ⟨b, o + k * 5, none⟩) (f.drop k).len c') (f.drop k) := by
  obtain ⟨A', c2, hv, hc2, hor⟩ := h
  injection hv with e1 e2 e3
  refine ⟨_, c', rfl, by rw [Fs.drop_len]; exact hc, ?_⟩
  rcases hor with h | ⟨b', o', h1, h2, h3, h4⟩
  · left; rw [Fs.drop_len]; omega
  · rw [← e1] at h1
    injection h1 with h1
    injection h1 with h5 h6
    subst h5 h6
    exact .inr ⟨b, o + k * 5, rfl, h2, h3, h4.drop k⟩
end
end Go.PM
end

section
/-
  Rows of entries: two texts each. Plain theorems, over any program.
-/
namespace Go.PM
open Go.RowKit
/-- An entry's cells. -/
def encE (e : Ent) : List Value := [.string (txt e.1), .string (txt e.2)]
theorem encE_len (e : Ent) : (encE e).length = 2 := rfl
theorem encE_one (e : Ent) : ∀ v ∈ encE e, v.oneCell' = true := by
  intro v hv
  simp only [encE, List.mem_cons, List.not_mem_nil, or_false] at hv
  rcases hv with rfl | rfl <;> rfl
def ents (l : List Ent) : List Value := l.flatMap encE
theorem ents_len : ∀ l : List Ent, (ents l).length = l.length * 2
  | [] => rfl
  | a :: r => by
    show (ents r).length + 1 + 1 = (r.length + 1) * 2
    rw [ents_len r]
    omega
theorem ents_app (l m : List Ent) : ents (l ++ m) = ents l ++ ents m := by simp [ents]
theorem ents_at : ∀ (l : List Ent) (k : Nat) (h : k < l.length), (ents l)[k * 2]? = some (.string (txt l[k].1)) ∧ (ents l)[k * 2 + 1]? = some (.string (txt l[k].2))
  | a :: r, 0, _ => ⟨rfl, rfl⟩
  | a :: r, k + 1, h => by
    have ih := ents_at r k (by simpa using h)
    rw [show (k + 1) * 2 = k * 2 + 1 + 1 by omega]
    exact ih
theorem ents_one (l : List Ent) : ∀ u ∈ ents l, u.oneCell' = true := fun u hu => by
  obtain ⟨a, _, h⟩ := List.mem_flatMap.1 hu
  exact encE_one a u h
theorem ents_take (l : List Ent) (k : Nat) : (ents l).take (k * 2) = ents (l.take k) := by
  induction l generalizing k with
  | nil => simp [ents]
  | cons a r ih =>
    cases k with
    | zero => simp [ents]
    | succ k =>
      rw [show (k + 1) * 2 = k * 2 + 1 + 1 by omega]
      show _ :: _ :: (ents r).take (k * 2) = _ :: _ :: ents (r.take k)
      rw [ih]
theorem ents_drop (l : List Ent) (k : Nat) : (ents l).drop (k * 2) = ents (l.drop k) := by
  induction l generalizing k with
  | nil => simp [ents]
  | cons a r ih =>
    cases k with
    | zero => simp
    | succ k =>
      rw [show (k + 1) * 2 = k * 2 + 1 + 1 by omega]
      show (ents r).drop (k * 2) = ents (r.drop k)
      rw [ih]
section
variable {w : World} {A : Option Addr} {l : List Ent}
theorem Rd.ent (h : Rd w A (ents l)) {k : Nat} (hk : k < l.length) : ∃ b off, A = some ⟨b, off, none⟩ ∧ b < w.heap.size ∧ w.cell? ⟨b, off + k * 2, none⟩ = some (.string (txt l[k].1)) ∧ w.cell? ⟨b, off + k * 2 + 1, none⟩ = some (.string (txt l[k].2)) := by
  obtain ⟨h1, h2⟩ := ents_at l k hk
  rcases h with h | ⟨b, off, e, hb, hc⟩
  · rw [h] at h1; simp at h1
  · exact ⟨b, off, e, hb, hc _ _ h1, hc _ _ h2⟩
theorem Rd.sub {b o : Nat} (h : Rd w (some ⟨b, o, none⟩) (ents l)) (k : Nat) : Rd w (some ⟨b, o + k * 2, none⟩) (ents (l.drop k)) := by
  rcases h with h | ⟨b', off, e, hb, hc⟩
  · left
    rw [← ents_drop, h, List.drop_nil]
  · injection e with e
    injection e with e1 e2
    subst e1 e2
    refine .inr ⟨b, o + k * 2, rfl, hb, fun j u hj => ?_⟩
    rw [← ents_drop, List.getElem?_drop] at hj
    rw [Nat.add_assoc]
    exact hc _ _ hj
theorem Rd.fst {A : Option Addr} (h : Rd w A (ents l)) (k : Nat) : Rd w A (ents (l.take k)) := by
  rcases h with h | ⟨b, off, e, hb, hc⟩
  · left
    rw [← ents_take, h, List.take_nil]
  · refine .inr ⟨b, off, e, hb, fun j u hj => ?_⟩
    rw [← ents_take, List.getElem?_take] at hj
    split at hj
    · exact hc _ _ hj
    · cases hj
end
def zent : Value := .agg #[.string ByteArray.empty, .string ByteArray.empty]
section
variable {P : Program} {w : World}
/-- Entries appended to a row of the call's own. -/
theorem eapp_run (t ty e : TypeId) (i : TypeInfo) (ht : P.underlying t = some (.slice e)) (hi : P.info? e = some i) (hz : i.zero = some zent) (hsz : i.size = 2) (hby : i.bytes = 32)
    {base : Nat} {A B : Option Addr} {c d : Nat} {l m : List Ent} (hown : w.ownsRow base e 2 (.slice A l.length c) l.length (ents l)) (hB : Rd w B (ents m)) (hlm : l.length + m.length ≤ 1000000) (hb : base ≤ w.heap.size) :
    ∃ (A' : Option Addr) (c' : Nat) (w' : World), (Builtin.append_ #[t, t] ty #[.slice A l.length c, .slice B m.length d]).run P w = .ok (.slice A' (l.length + m.length) c') w' ∧ w'.ownsRow base e 2 (.slice A' (l.length + m.length) c') (l.length + m.length) (ents (l ++ m)) ∧
      w.grownBy w' (Value.slice A l.length c).ownBlock ∧ ((Value.slice A' (l.length + m.length) c').ownBlock = (Value.slice A l.length c).ownBlock ∨ (Value.slice A' (l.length + m.length) c').ownBlock = some w.heap.size) := by
  by_cases h0 : m = []
  · subst h0
    have hnc : l.length ≤ c := by
      rcases hown.2 with ⟨h1, h2⟩ | ⟨g', cap, cur, h1, _, _, h2, _⟩
      · omega
      · simp only [Value.slice.injEq] at h1; omega
    rw [List.append_nil, List.length_nil, Nat.add_zero]
    exact ⟨A, c, w, append_empty t ty e i ht hi A B l.length c d hnc, hown, grown_refl _ _, .inl rfl⟩
  · rcases hB with h | ⟨b, o, rfl, hbl, hc⟩
    · have h1 := ents_len m
      rw [h] at h1
      exact absurd (List.eq_nil_of_length_eq_zero (by simp only [List.length_nil] at h1; omega)) h0
    have hpos : 0 < m.length := List.length_pos_iff.2 h0
    have hnews : ∀ j u, (ents m)[j]? = some u → w.cell? ((⟨b, o, none⟩ : Addr).add j) = some u := fun j u hj => by
      have ha : (⟨b, o, none⟩ : Addr).add j = ⟨b, o + j, none⟩ := by unfold Addr.add; split <;> simp_all
      rw [ha]; exact hc j u hj
    obtain ⟨g', cap, w', hr, h2, h3, h4, h5⟩ := run_append_lies (P := P) w t ty base e i zent 2 32 ht hi hz hsz hby rfl (by decide) _ l.length (ents l) hown ⟨b, o, none⟩ m.length d (ents m) (ents_len m) hnews (ents_one m) hpos (by unfold maxLen; omega) (by omega) hb w.heap.size rfl
    refine ⟨some ⟨g', 0, none⟩, cap, w', hr, by rw [ents_app]; exact h2, h3, ?_⟩
    rcases h4 with h4 | h4
    · exact .inl h4.symm
    · right; rw [h4]; rfl
end
/-- An own row of entries is read so. -/
theorem own_rd {w : World} {base e n : Nat} {v : Value} {l : List Ent} (h : w.ownsRow base e 2 v n (ents l)) : n = l.length ∧ ∃ A c, v = .slice A l.length c ∧ Rd w A (ents l) ∧ l.length ≤ c ∧ (∀ b off, A = some ⟨b, off, none⟩ → v.ownBlock = some b ∧ base ≤ b) := by
  have hn : n = l.length := by have h1 := h.1; rw [ents_len] at h1; omega
  subst hn
  exact ⟨rfl, Rd.own h⟩
end Go.PM
end

section
/-
  Contracts of layer 2 (varint) and of the document's answer: what each function answers. Conditions: numbers within uint64, texts within int.
-/
namespace Go.Proofs.YtgbgbdocgpdkgaaGreatDoor
open Go.RowKit Go.PM
set_option maxRecDepth 100000

theorem info_u8 : (Tryz.prog.info? 5).map (fun i => (i.zero, i.size, i.bytes)) = some (some (.int .u8 0), 1, 1) := by kernel_rfl

theorem size_any (n : Nat) (w : World) (hn : In64 n) :
    Calls Tryz.prog 55 #[.int .u64 (n : Int)] w fun e w' => e = .returned (.int .i64 (vsz n : Int)) ∧ w = w' := by
  go_enter Tryz.func55, Tryz.ntmps55
  have h10 := vsz_le10 hn.out
  have HN := Lib.hid hn
  clear hn
  go_wp2
  go_loop [0, 3] (fun v c => ∃ m k : Nat, v = .int .u64 (m : Int) ∧ c = .int .i64 (k : Int) ∧ k + vsz m = vsz n + 1 ∧ In64 m) (fun v _ => (intOf v).toNat)
  case atStart => exact ⟨n, 1, rfl, rfl, by omega, HN.out⟩
  case round =>
    obtain ⟨m, k, rfl, rfl, hk, hm⟩ := hrel
    have HK := Lib.hid hk
    have HM := Lib.hid hm
    clear hm
    have hp := vsz_pos m
    have hk11 : k ≤ 10 := by omega
    clear hk hp
    by_cases h : m < 128
    · go_wp2
      go_ret
      have e := vsz_small h
      have := HK.out
      exact ⟨congrArg (fun x : Int => Ending.returned (.int .i64 x)) (by omega), rfl⟩
    · go_wp2
      go_round
      case rel =>
        have hb := vsz_big (n := m) (by omega)
        have := HK.out
        exact ⟨m / 128, k + 1, by go_num, by go_num, by omega, Nat.lt_of_le_of_lt (Nat.div_le_self _ _) HM.out⟩
      case measure => simp [intOf]; omega

/-- What Put has laid down after i rounds. -/
def Lay (n L i m : Nat) (C : Array Value) : Prop := m = n / 128 ^ i ∧ C.toList = bvals (vraw i n) ++ List.replicate (L - i) (.int .u8 0)
theorem Lay.start (n L : Nat) : Lay n L 0 n (madeCells #[.int .u8 0] L) := ⟨by simp, by rw [toList_madeCells_one]; simp [vraw, bvals]⟩
theorem Lay.at_ {n L i m : Nat} {C : Array Value} (h : Lay n L i m C) (hi : i < L) : C[i]? = some (.int .u8 0) := by
  have : C[i]? = C.toList[i]? := by simp
  rw [this, h.2, List.getElem?_append_right (by rw [bvals_length, vraw_length]; omega), bvals_length, vraw_length, Nat.sub_self, List.getElem?_replicate]
  simp; omega
theorem Lay.step {n L i m : Nat} {C : Array Value} (h : Lay n L i m C) (hi : i < L) : Lay n L (i + 1) (m / 128) (C.setIfInBounds i (.int .u8 ((m : Int) % 128 + 128))) := by
  obtain ⟨rfl, hC⟩ := h
  refine ⟨by rw [Nat.div_div_eq_div_mul, Nat.pow_succ], ?_⟩
  rw [Array.toList_setIfInBounds, hC, vraw_snoc]
  have e : L - i = (L - (i + 1)) + 1 := by omega
  rw [e, List.replicate_succ, List.set_append_right _ _ (by rw [bvals_length, vraw_length]; omega), bvals_length, vraw_length, Nat.sub_self]
  simp only [List.set_cons_zero, bvals, List.map_append, List.map_cons, List.map_nil, List.append_assoc, List.cons_append, List.nil_append]
  congr 3
  rw [toNat_lo (by omega)]
  omega
theorem Lay.done {n i m : Nat} {C : Array Value} (h : Lay n (vsz n) i m C) (hi : i = vsz n) :
    C[vsz n - 1]? = some (.int .u8 ((n / 128 ^ (vsz n - 1) : Nat) + 128 : Int)) ∧ (C.setIfInBounds (vsz n - 1) (.int .u8 (n / 128 ^ (vsz n - 1) : Nat))).toList = bvals (vput n) := by
  subst hi
  obtain ⟨_, hC⟩ := h
  have hp := vsz_pos n
  have ht := vtop_lt n
  rw [Nat.sub_self, List.replicate_zero, List.append_nil] at hC
  have e : vsz n = (vsz n - 1) + 1 := by omega
  rw [e, vraw_snoc] at hC
  rw [Nat.mod_eq_of_lt ht] at hC
  constructor
  · have : C[vsz n - 1]? = C.toList[vsz n - 1]? := by simp
    rw [this, hC, bvals_at _ _ (by simp [vraw_length])]
    rw [List.getElem_append_right (by rw [vraw_length]; omega)]
    simp only [vraw_length, Nat.sub_self, List.getElem_cons_zero]
    rw [toNat_lo (by omega)]
    rfl
  · rw [Array.toList_setIfInBounds, hC, vput_raw]
    unfold bvals
    rw [List.map_append, List.map_append, List.set_append_right _ _ (by simp [vraw_length])]
    simp only [List.length_map, vraw_length, Nat.sub_self, List.map_cons, List.map_nil, List.set_cons_zero]
    rw [toNat_lo (by omega)]

theorem and127 (m : Nat) (h : In64 m) : bits .and .u64 (m : Int) 127 = (m : Int) % 128 := by
  have := bits_and_u64_nat m 127 h.out (by omega)
  rw [show (127 : Nat) = 2 ^ 7 - 1 from rfl, Nat.and_two_pow_sub_one_eq_mod] at this
  simpa using this
theorem or128 (m : Nat) : bits .or .u8 ((m : Int) % 128) 128 = (m : Int) % 128 + 128 := by
  have := u8_or_nat (m % 128) 128 (by omega) (by omega)
  have e : m % 128 ||| 128 = m % 128 + 128 := by
    have := Nat.two_pow_add_eq_or_of_lt (i := 7) (b := m % 128) (by omega) 1
    rw [Nat.or_comm]
    have e7 : (2 : Nat) ^ 7 * 1 = 128 := rfl
    rw [e7] at this
    omega
  rw [e] at this
  simpa using this
theorem and127b (m : Nat) (h : m < 128) : bits .and .u8 ((m : Int) + 128) 127 = (m : Int) := by
  have := u8_and_nat (m + 128) 127 (by omega) (by omega)
  rw [show (127 : Nat) = 2 ^ 7 - 1 from rfl, Nat.and_two_pow_sub_one_eq_mod, show (m + 128) % 2 ^ 7 = m by omega] at this
  simpa using this

theorem put_any (n : Nat) (w : World) (hn : In64 n) :
    Calls Tryz.prog 34 #[.int .u64 (n : Int)] w fun e w' => e = .returned (.string ⟨(vput n).toArray⟩) ∧ Below w.heap.size w w' := by
  have h10 := vsz_le10 hn
  have hp := vsz_pos n
  have hmk := run_make_row' (P := Tryz.prog) 63 5 (.int .u8 0) 1 Tryz.underlying63 info_u8 rfl .i64 .i64 (vsz n) (by omega) (by omega)
  go_enter Tryz.func34, Tryz.ntmps34
  go_wp2_with (go_at_call 55; refine (size_any n _ hn).mono ?_; rintro e w' ⟨rfl, rfl⟩)
  clear hmk
  have HN := Lib.hid hn
  clear hn
  go_loopw [0, 10] (fun nn k wr => ∃ (i m : Nat) (C : Array Value), i ≤ vsz n ∧ k = .int .i64 (i : Int) ∧ nn = .int .u64 (m : Int) ∧ wr = w.alloc (.cells C 5) ∧ Lay n (vsz n) i m C ∧ In64 m) (fun _ k _ => vsz n - (intOf k).toNat)
  case atStart => exact ⟨0, n, _, Nat.zero_le _, rfl, rfl, rfl, Lay.start _ _, HN.out⟩
  case round =>
    obtain ⟨i, m, C, hi, rfl, rfl, rfl, hl, hm⟩ := hrel
    have HL := Lib.hid hl
    have HM := Lib.hid hm
    have e1 := and127 m hm
    have e2 := or128 m
    clear hm hl
    by_cases hlt : i < vsz n
    · have hc := HL.out.at_ hlt
      go_wp2
      go_roundw
      case rel => exact ⟨i + 1, m / 128, _, by omega, by go_num, by go_num, rfl, HL.out.step hlt, Nat.lt_of_le_of_lt (Nat.div_le_self _ _) HM.out⟩
      case measure => simp [intOf]; omega
    · have hi' : i = vsz n := by omega
      obtain ⟨d1, d2⟩ := HL.out.done hi'
      have ht := vtop_lt n
      generalize hq : n / 128 ^ (vsz n - 1) = q at d1 d2 ht
      have e3 := and127b q ht
      have D2 := Lib.hid d2
      have hcv := run_row_string (P := Tryz.prog) (w.alloc (.cells (C.setIfInBounds (vsz n - 1) (.int .u8 (q : Int))) 5)) 63 9 5 w.heap.size (vsz n) (vsz n) _ (vput n) Tryz.underlying63 Tryz.underlying5 Tryz.underlying9 (BlkAt.made _ _ _) (vput_length n).symm (by rw [D2.out, ← bvals_length, List.take_length])
      clear hi' d2 hq
      go_wp2
      go_ret
      exact ⟨rfl, ba b0 _⟩

/-- What Get knows after i rounds. -/
def Gt (l : List UInt8) (i acc : Nat) : Prop := In64 acc ∧ (i < 10 → acc < 128 ^ i ∧ vget l = vgetL i acc (l.drop i)) ∧ (i = 10 → vget l = (0, 0, 3))
theorem mask127 (c : UInt8) : bits .and .u8 (c.toNat : Int) 127 = (c.toNat : Int) % 128 := by
  have := u8_and_nat c.toNat 127 c.toNat_lt (by omega)
  rw [show (127 : Nat) = 2 ^ 7 - 1 from rfl, Nat.and_two_pow_sub_one_eq_mod] at this
  simpa using this
theorem drop_at (s : ByteArray) (i : Nat) (hi : i < s.size) : s.data.toList.drop i = s[i] :: s.data.toList.drop (i + 1) := by
  rw [List.drop_eq_getElem_cons (by simpa using hi)]
  rfl
theorem drop_end (s : ByteArray) (i : Nat) (hi : s.size ≤ i) : s.data.toList.drop i = [] := by
  apply List.drop_eq_nil_of_le
  simpa using hi

theorem pow128 (i : Nat) : 128 ^ i = 2 ^ (7 * i) := by rw [Nat.pow_mul]
theorem or_any (acc c i : Nat) (ha : In64 acc) : ∃ X : Nat, bits .or .u64 (acc : Int) (IntKind.u64.wrap ((c : Int) % 128 * 2 ^ (7 * i))) = (X : Int) ∧ In64 X ∧ (acc < 128 ^ i → i < 10 → (i = 9 → c % 128 ≤ 1) → X = acc + c % 128 * 128 ^ i) := by
  have e1 : ((c : Int) % 128 * 2 ^ (7 * i)) = ((c % 128 * 128 ^ i : Nat) : Int) := by rw [pow128]; push_cast; rfl
  have e2 : ∀ y : Nat, IntKind.u64.wrap (y : Int) = ((y % 18446744073709551616 : Nat) : Int) := fun y => by rw [IntKind.wrap_u64]; omega
  have hlt : c % 128 * 128 ^ i % 18446744073709551616 < 18446744073709551616 := Nat.mod_lt _ (by omega)
  refine ⟨acc ||| (c % 128 * 128 ^ i % 18446744073709551616), ?_, ?_, ?_⟩
  · rw [e1, e2]; exact bits_or_u64_nat _ _ ha.out hlt
  · exact Nat.or_lt_two_pow (n := 64) ha.out hlt
  · intro h1 h2 h9
    have hb : c % 128 * 128 ^ i < 18446744073709551616 := by
      by_cases e : i = 9
      · subst e
        have := h9 rfl
        have : c % 128 * 128 ^ 9 ≤ 1 * 128 ^ 9 := Nat.mul_le_mul_right _ this
        exact Nat.lt_of_le_of_lt this (by decide)
      · have h3 : 128 ^ i ≤ 128 ^ 8 := pow_lt (by omega)
        have : c % 128 * 128 ^ i ≤ 127 * 128 ^ 8 := Nat.mul_le_mul (by omega) h3
        exact Nat.lt_of_le_of_lt this (by decide)
    rw [Nat.mod_eq_of_lt hb, Nat.or_comm]
    rw [pow128] at h1 ⊢
    have := Nat.two_pow_add_eq_or_of_lt h1 (c % 128)
    rw [Nat.mul_comm (c % 128), ← this]
    omega
theorem Gt.next {l r : List UInt8} {i acc X : Nat} {c : UInt8} (h : Gt l i acc) (hi : i < 10) (hd : l.drop i = c :: r) (hr : l.drop (i + 1) = r) (hc : 128 ≤ c.toNat) (hX : In64 X)
    (hv : acc < 128 ^ i → i < 10 → (i = 9 → c.toNat % 128 ≤ 1) → X = acc + c.toNat % 128 * 128 ^ i) : Gt l (i + 1) X := by
  obtain ⟨h1, h2⟩ := h.2.1 hi
  rw [hd, vgetL, if_neg (by omega), if_pos hc] at h2
  refine ⟨hX, fun h3 => ?_, fun h3 => ?_⟩
  · have e := hv h1 hi (fun h => by omega)
    rw [hr, e]
    refine ⟨?_, h2⟩
    have : c.toNat % 128 * 128 ^ i ≤ 127 * 128 ^ i := Nat.mul_le_mul_right _ (by omega)
    rw [Nat.pow_succ]; omega
  · rw [h2]
    have : 10 ≤ i + 1 := by omega
    cases r <;> simp [vgetL, this]
theorem Gt.stop {l r : List UInt8} {i acc : Nat} {c : UInt8} (h : Gt l i acc) (hi : i < 10) (hd : l.drop i = c :: r) (hc : ¬ 128 ≤ c.toNat) :
    vget l = if i = 9 ∧ 1 < c.toNat then (0, 0, 3) else if 0 < i ∧ c.toNat = 0 then (0, 0, 2) else (acc + c.toNat * 128 ^ i, i + 1, 0) := by
  obtain ⟨h1, h2⟩ := h.2.1 hi
  rw [hd, vgetL, if_neg (by omega), if_neg hc] at h2
  exact h2

theorem get_any (s : ByteArray) (w : World) (hs : s.size ≤ 9223372036854775807) :
    Calls Tryz.prog 59 #[.string s] w fun e w' => e = .returned (.tuple #[.int .u64 ((vget s.data.toList).1 : Int), .int .i64 ((vget s.data.toList).2.1 : Int), .int .i64 ((vget s.data.toList).2.2 : Int)]) ∧ Below w.heap.size w w' := by
  generalize hV : vget s.data.toList = V
  have HV := Lib.hid hV
  clear hV
  go_enter Tryz.func59, Tryz.ntmps59
  go_wp2
  all_goals
    go_loop [5, 10] (fun nn k => ∃ i acc : Nat, i ≤ 10 ∧ i ≤ s.size ∧ k = .int .i64 (i : Int) ∧ nn = .int .u64 (acc : Int) ∧ Gt s.data.toList i acc) (fun _ k => 10 - (intOf k).toNat)
    case atStart => exact ⟨0, 0, by omega, by omega, rfl, rfl, by unfold In64; omega, fun _ => ⟨by decide, rfl⟩, fun h => by omega⟩
    case round =>
      obtain ⟨i, acc, hi, his, rfl, rfl, hg⟩ := hrel
      have HG := Lib.hid hg
      clear hg
      by_cases hlt : i < s.size ∧ i < 10
      · obtain ⟨hl1, hl2⟩ := hlt
        have em := mask127 s[i]
        obtain ⟨X, hX, hX64, hXv⟩ := or_any acc s[i].toNat i HG.out.1
        have HX := Lib.hid (And.intro hX64 hXv)
        have hd := drop_at s i hl1
        have HD := Lib.hid hd
        clear hX64 hXv hd
        by_cases h1 : 128 ≤ s[i].toNat
        · have hn := HG.out.next hl2 HD.out rfl h1 HX.out.1 HX.out.2
          have HNx := Lib.hid hn
          clear hn
          go_wp2
          go_round
          case rel => exact ⟨i + 1, X, by omega, by omega, by go_num, rfl, HNx.out⟩
          case measure => simp [intOf]; omega
        · have hst := HG.out.stop hl2 HD.out h1
          rw [HV.out] at hst
          by_cases h2 : i = 9 ∧ 1 < s[i].toNat
          · rw [if_pos h2] at hst
            obtain ⟨h2a, h2b⟩ := h2
            have HS := Lib.hid hst
            clear hst
            have t9 : ((i : Int) == 9) = true := by rw [beq_iff_eq]; omega
            have h2c : (1 : Int) < (s[i].toNat : Int) := by omega
            clear h2a
            go_wp2
            go_ret3
            rw [HS.out]
            exact ⟨rfl, Below.refl _ _⟩
          · rw [if_neg h2] at hst
            by_cases h3 : 0 < i ∧ s[i].toNat = 0
            · rw [if_pos h3] at hst
              obtain ⟨h3a, h3b⟩ := h3
              have HS := Lib.hid hst
              have t0 : ((s[i].toNat : Int) == 0) = true := by rw [beq_iff_eq]; omega
              have t1 : ¬ (1 : Int) < (s[i].toNat : Int) := by omega
              have p0 : (0 : Int) < (i : Int) := by omega
              have H3 := Lib.hid h3b
              clear hst h3b h2
              by_cases h9 : i = 9
              · have t9 : ((i : Int) == 9) = true := by rw [beq_iff_eq]; omega
                clear h9
                go_wp2
                go_ret3
                rw [HS.out]
                exact ⟨rfl, Below.refl _ _⟩
              · have t9 : ((i : Int) == 9) = false := by rw [beq_eq_false_iff_ne]; omega
                go_wp2
                go_ret3
                rw [HS.out]
                exact ⟨rfl, Below.refl _ _⟩
            · rw [if_neg h3] at hst
              have hX2 : X = acc + s[i].toNat * 128 ^ i := by
                have := HX.out.2 (HG.out.2.1 hl2).1 hl2 (fun h => by omega)
                rw [this, Nat.mod_eq_of_lt (by omega)]
              rw [← hX2] at hst
              have HS := Lib.hid hst
              have H2 := Lib.hid h2
              have H3 := Lib.hid h3
              clear hst hX2 h2 h3
              by_cases h9 : i = 9
              · have t9 : ((i : Int) == 9) = true := by rw [beq_iff_eq]; omega
                have t1 : ¬ (1 : Int) < (s[i].toNat : Int) := by have := H2.out; omega
                have t0 : ((s[i].toNat : Int) == 0) = false := by rw [beq_eq_false_iff_ne]; have := H3.out; omega
                have p0 : (0 : Int) < (i : Int) := by omega
                clear h9
                go_wp2
                go_ret3
                rw [HS.out]
                exact ⟨rfl, Below.refl _ _⟩
              · have t9 : ((i : Int) == 9) = false := by rw [beq_eq_false_iff_ne]; omega
                by_cases p0 : 0 < i
                · have t0 : ((s[i].toNat : Int) == 0) = false := by rw [beq_eq_false_iff_ne]; have := H3.out; omega
                  go_wp2
                  go_ret3
                  rw [HS.out]
                  exact ⟨rfl, Below.refl _ _⟩
                · go_wp2
                  go_ret3
                  rw [HS.out]
                  exact ⟨rfl, Below.refl _ _⟩
      · by_cases h10 : i = 10
        · have hst := HG.out.2.2 h10
          rw [HV.out] at hst
          have HS := Lib.hid hst
          clear hst
          subst h10
          go_wp2
          go_ret3
          rw [HS.out]
          exact ⟨rfl, Below.refl _ _⟩
        · have hst := (HG.out.2.1 (by omega)).2
          rw [HV.out, drop_end s i (by omega), vgetL, if_neg (by omega)] at hst
          have HS := Lib.hid hst
          clear hst
          first
            | (exfalso; omega)
            | (go_wp2
               go_ret3
               rw [HS.out]
               exact ⟨rfl, Below.refl _ _⟩)
end Go.Proofs.YtgbgbdocgpdkgaaGreatDoor
end

section
/-
  Contracts of layer 1 (cursor): what each method answers, and what becomes of the cursor. Conditions: the cursor's block is known, its place lies within its text.
-/
namespace Go.Proofs.YtgbgbdocgpdkgaaGreatDoor
open Go.RowKit Go.PM

/-- A cursor's block: its text, its place. -/
def Cur (w : World) (b : Nat) (s : ByteArray) (k : Nat) : Prop := BlkAt w b 79 #[.string s, .int .i64 (k : Int)] ∧ k ≤ s.size ∧ s.size ≤ 9223372036854775807

theorem cur_over (s : ByteArray) (w : World) :
    Calls Tryz.prog 23 #[.string s] w fun e w' => e = .returned (.pointer (some ⟨w.heap.size, 0, none⟩)) ∧ w' = w.alloc (.cells #[.string s, .int .i64 0] 79) := by
  go_enter Tryz.func23, Tryz.ntmps23
  go_wp2
  go_ret
  exact ⟨rfl, rfl⟩

theorem cur_left (b : Nat) (s : ByteArray) (k : Nat) (w : World) (h : Cur w b s k) :
    Calls Tryz.prog 45 #[.pointer (some ⟨b, 0, none⟩)] w fun e w' => e = .returned (.int .i64 ((s.size : Int) - (k : Int))) ∧ Below w.heap.size w w' := by
  obtain ⟨hb, hk, hs⟩ := h
  have c0 : w.cell? ⟨b, 0, none⟩ = some (.string s) := hb.cell 0
  have c1 : w.cell? ⟨b, 1, none⟩ = some (.int .i64 (k : Int)) := hb.cell 1
  clear hb
  go_enter Tryz.func45, Tryz.ntmps45
  go_wp2
  go_quiet (fail)
  go_wp2
  go_ret
  exact ⟨rfl, below_drewN (Below.refl _ _) _⟩


theorem cur_rest (b : Nat) (s : ByteArray) (k : Nat) (w : World) (h : Cur w b s k) :
    Calls Tryz.prog 26 #[.pointer (some ⟨b, 0, none⟩)] w fun e w' => e = .returned (.string (s.extract k s.size)) ∧ Below w.heap.size w w' := by
  obtain ⟨hb, hk, hs⟩ := h
  have c0 : w.cell? ⟨b, 0, none⟩ = some (.string s) := hb.cell 0
  have c1 : w.cell? ⟨b, 1, none⟩ = some (.int .i64 (k : Int)) := hb.cell 1
  clear hb
  go_enter Tryz.func26, Tryz.ntmps26
  go_wp2
  go_quiet (fail)
  go_wp2
  go_ret
  exact ⟨rfl, below_drewN (Below.refl _ _) _⟩

theorem cur_take_no (b : Nat) (s : ByteArray) (k : Nat) (n : Int) (w : World) (h : Cur w b s k) (h0 : (s.size : Int) - k < n) (h1 : n < 18446744073709551616) :
    Calls Tryz.prog 60 #[.pointer (some ⟨b, 0, none⟩), .int .u64 n] w fun e w' => e = .returned (.tuple #[.string ByteArray.empty, .bool false]) ∧ Below w.heap.size w w' := by
  have H := Lib.hid h
  obtain ⟨hb, hk, hs⟩ := h
  clear hb
  go_enter Tryz.func60, Tryz.ntmps60
  go_wp2_with (go_at_call 45; refine (cur_left b s k _ H.out).mono ?_; rintro e w1 ⟨rfl, hb1⟩)
  go_ret2
  exact ⟨rfl, hb1⟩

theorem cur_take_yes (b : Nat) (s : ByteArray) (k : Nat) (n : Int) (w : World) (h : Cur w b s k) (h0 : 0 ≤ n) (h1 : n ≤ (s.size : Int) - k) :
    Calls Tryz.prog 60 #[.pointer (some ⟨b, 0, none⟩), .int .u64 n] w fun e w' =>
      e = .returned (.tuple #[.string (s.extract k (k + n.toNat)), .bool true]) ∧ Cur w' b s (k + n.toNat) ∧ w.grownBy w' (some b) := by
  have H := Lib.hid h
  obtain ⟨hb, hk, hs⟩ := h
  have HB := Lib.hid hb
  obtain ⟨m, rfl⟩ := Int.eq_ofNat_of_zero_le h0
  rw [Int.toNat_natCast]
  clear hb
  go_enter Tryz.func60, Tryz.ntmps60
  go_wp2_with (go_at_call 45; refine (cur_left b s k _ H.out).mono ?_; rintro e w1 ⟨rfl, hb1⟩; have c0 : w1.cell? ⟨b, 0, none⟩ = some (.string s) := (HB.out.below hb1 HB.out.lt).cell 0; have c1 : w1.cell? ⟨b, 1, none⟩ = some (.int .i64 (k : Int)) := (HB.out.below hb1 HB.out.lt).cell 1; have f1 : w1.frozen? ⟨b, 1, none⟩ = false := (HB.out.below hb1 HB.out.lt).free 1)
  go_quiet (fail)
  go_wp2
  go_ret2
  refine ⟨rfl, ⟨?_, by omega, hs⟩, grown_put (grown_drn (grown_of_below hb1 _) _) _ _⟩
  have := ((HB.out.below hb1 HB.out.lt).drn nq).put 1 (.int .i64 ((k : Int) + (m : Int)))
  simpa using this

theorem cur_byte_no (b : Nat) (s : ByteArray) (k : Nat) (w : World) (h : Cur w b s k) (h0 : s.size = k) :
    Calls Tryz.prog 154 #[.pointer (some ⟨b, 0, none⟩)] w fun e w' => e = .returned (.tuple #[.int .u8 0, .bool false]) ∧ Below w.heap.size w w' := by
  have H := Lib.hid h
  have H0 := Lib.hid h0
  clear h h0
  go_enter Tryz.func154, Tryz.ntmps154
  go_wp2_with (go_at_call 60; refine (cur_take_no b s k 1 _ H.out (by have := H0.out; omega) (by omega)).mono ?_; rintro e w1 ⟨rfl, hb1⟩)
  go_ret2
  exact ⟨rfl, hb1⟩

theorem cur_byte_yes (b : Nat) (s : ByteArray) (k : Nat) (w : World) (h : Cur w b s k) (h0 : k < s.size) :
    Calls Tryz.prog 154 #[.pointer (some ⟨b, 0, none⟩)] w fun e w' =>
      e = .returned (.tuple #[.int .u8 (s[k].toNat : Int), .bool true]) ∧ Cur w' b s (k + 1) ∧ w.grownBy w' (some b) := by
  have H := Lib.hid h
  clear h
  go_enter Tryz.func154, Tryz.ntmps154
  go_wp2_with (go_at_call 60; refine (cur_take_yes b s k 1 _ H.out (by omega) (by omega)).mono ?_; rintro e w1 ⟨rfl, hc1, hg1⟩)
  go_ret2
  refine ⟨?_, hc1, hg1⟩
  have e : (s.extract k (k + 1))[0]'(by simp; omega) = s[k] := by simp [ByteArray.getElem_extract]
  rw [← e]
  rfl



/-! ### A nil cursor -/
theorem nil_left (w : World) : Calls Tryz.prog 45 #[.pointer none] w fun e w' => e = .returned (.int .i64 0) ∧ w = w' := by
  go_enter Tryz.func45, Tryz.ntmps45
  go_wp2
  go_ret
  exact ⟨rfl, rfl⟩
theorem nil_rest (w : World) : Calls Tryz.prog 26 #[.pointer none] w fun e w' => e = .returned (.string ByteArray.empty) ∧ w = w' := by
  go_enter Tryz.func26, Tryz.ntmps26
  go_wp2
  go_ret
  exact ⟨rfl, rfl⟩
theorem nil_take (n : Int) (w : World) : Calls Tryz.prog 60 #[.pointer none, .int .u64 n] w fun e w' => e = .returned (.tuple #[.string ByteArray.empty, .bool false]) ∧ Below w.heap.size w w' := by
  go_enter Tryz.func60, Tryz.ntmps60
  go_wp2_with fail
  go_ret2
  exact ⟨rfl, Below.refl _ _⟩
theorem nil_byte (w : World) : Calls Tryz.prog 154 #[.pointer none] w fun e w' => e = .returned (.tuple #[.int .u8 0, .bool false]) ∧ Below w.heap.size w w' := by
  go_enter Tryz.func154, Tryz.ntmps154
  go_wp2_with (go_at_call 60; refine (nil_take 1 _).mono ?_; rintro e w1 ⟨rfl, hb1⟩)
  go_ret2
  exact ⟨rfl, hb1⟩
end Go.Proofs.YtgbgbdocgpdkgaaGreatDoor
end
