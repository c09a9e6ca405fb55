/-
  Texts of the proof, joined: CloneF CloneG FApp Kinds2 Kinds3. Conditions: as each names.
-/
import Derived.Test.YtgidfnhfgiehjaaGreatDoorXTopOneac
import Derived.Deep.DeepAppendWide
import Derived.Deep.AppendSrc
import Derived.Laws.EntriesVeiled

section
namespace Go.PM
open Go.RowKit
section
variable {w w' : World} {I J : Nat → Prop}
theorem FsAt.uniq : ∀ {f g : Fs} {b o : Nat}, FsAt w I f b o → FsAt w J g b o → f.len = g.len → f = g
  | .nil, .nil, _, _, _, _, _ => rfl
  | .nil, .cons .., _, _, _, _, h => by simp [Fs.len] at h
  | .cons .., .nil, _, _, _, _, h => by simp [Fs.len] at h
  | .cons t y n s i r, .cons t' y' n' s' i' r', b, o, h, k, hl => by
    obtain ⟨h1, h2, h3, h4, ⟨A, c, h5, _, h6⟩, h7⟩ := h
    obtain ⟨k1, k2, k3, k4, ⟨A', c', k5, _, k6⟩, k7⟩ := k
    have e1 := h1.symm.trans k1
    have e2 := h2.symm.trans k2
    have e3 := h3.symm.trans k3
    have e4 := h4.symm.trans k4
    have e5 := h5.symm.trans k5
    simp only [Option.some.injEq, Value.int.injEq, Value.string.injEq, Value.slice.injEq, true_and, Int.natCast_inj] at e1 e2 e3 e4 e5
    obtain ⟨rfl, e5, rfl⟩ := e5
    have hr := FsAt.uniq h7 k7 (by simp only [Fs.len] at hl; omega)
    have hi : i = i' := by
      rcases h6 with h0 | ⟨b', o', hA, _, _, h8⟩
      · have a1 : i = .nil := Fs.len_zero h0
        have a2 : i' = .nil := Fs.len_zero (by omega)
        rw [a1, a2]
      · rcases k6 with h0 | ⟨b2, o2, hA2, _, _, k8⟩
        · have a1 : i = .nil := Fs.len_zero (by omega)
          have a2 : i' = .nil := Fs.len_zero h0
          rw [a1, a2]
        · rw [hA] at hA2
          injection hA2 with hA2
          injection hA2 with e6 e7
          subst e6 e7
          exact FsAt.uniq h8 k8 e5
    rw [e1, e2, e3, e4, hi, hr]
theorem FsAt.anew {p : Addr} {A A' : Option Addr} {c c' : Nat} {j : Fs} (hp : w.cell? p = some (.slice A j.len c)) (hj : j.len = 0 ∨ ∃ b o, A = some ⟨b, o, none⟩ ∧ FsAt w I j b o)
    (hj' : j.len ≤ c' ∧ (j.len = 0 ∨ ∃ b o, A' = some ⟨b, o, none⟩ ∧ I b ∧ b < w.heap.size ∧ FsAt w I j b o)) : ∀ {f : Fs} {b o : Nat}, FsAt w I f b o → FsAt (w.setCell p (.slice A' j.len c')) I f b o
  | .nil, _, _, _ => trivial
  | .cons t y n s i r, b, o, h => by
    obtain ⟨h1, h2, h3, h4, ⟨B, d, h5, hd, h6⟩, h7⟩ := h
    have hs : (w.setCell p (.slice A' j.len c')).heap.size = w.heap.size := by simp [World.setCell]
    have oth : ∀ {q : Addr} {v : Value}, w.cell? q = some v → (∀ A n c, v ≠ .slice A n c) → (w.setCell p (.slice A' j.len c')).cell? q = some v := fun {q v} hq hv => by
      rw [World.cell?_setCell_other _ _ _ _ (by rintro rfl; rw [hp] at hq; injection hq with hq; exact hv _ _ _ hq.symm)]
      exact hq
    refine ⟨oth h1 (by simp), oth h2 (by simp), oth h3 (by simp), oth h4 (by simp), ?_, FsAt.anew hp hj hj' h7⟩
    by_cases e : p = ⟨b, o + 4, none⟩
    · have h5' := h5
      rw [← e, hp] at h5'
      simp only [Option.some.injEq, Value.slice.injEq] at h5'
      obtain ⟨e1, e2, e3⟩ := h5'
      have hij : i = j := by
        rcases h6 with h0 | ⟨b', o', hA, _, _, h8⟩
        · rw [Fs.len_zero h0, Fs.len_zero (show j.len = 0 by omega)]
        · rcases hj with h0 | ⟨b2, o2, hA2, k8⟩
          · rw [Fs.len_zero h0, Fs.len_zero (show i.len = 0 by omega)]
          · rw [← e1, hA2] at hA
            injection hA with hA
            injection hA with e6 e7
            subst e6 e7
            exact FsAt.uniq h8 k8 e2.symm
      subst hij
      refine ⟨A', c', ?_, hj'.1, ?_⟩
      · rw [← e]
        exact World.cell?_setCell_same _ _ _ hp
      · rcases hj'.2 with h0 | ⟨b', o', hA, hI, hb, h8⟩
        · exact .inl h0
        · exact .inr ⟨b', o', hA, hI, by rw [hs]; exact hb, FsAt.anew hp hj hj' h8⟩
    · refine ⟨B, d, ?_, hd, ?_⟩
      · rw [World.cell?_setCell_other _ _ _ _ e]
        exact h5
      · rcases h6 with h0 | ⟨b', o', hA, hI, hb, h8⟩
        · exact .inl h0
        · exact .inr ⟨b', o', hA, hI, by rw [hs]; exact hb, FsAt.anew hp hj hj' h8⟩
def FB (w : World) (T : TypeId) (k : Nat) : Prop := ∃ cs, BlkAt w k T cs
theorem FB.lt {T : TypeId} {k : Nat} (h : FB w T k) : k < w.heap.size := by obtain ⟨cs, h⟩ := h; exact h.lt
theorem FB.below {T : TypeId} {k : Nat} (h : FB w T k) (hb : Below w.heap.size w w') : FB w' T k := by obtain ⟨cs, h⟩ := h; exact ⟨cs, h.below hb h.lt⟩
theorem FB.tch {S : Nat → Prop} {T : TypeId} {k : Nat} (h : FB w T k) (hb : Tch S w w') (hk : ¬ S k) : FB w' T k := by obtain ⟨cs, h⟩ := h; exact ⟨cs, h.tch hb hk⟩
theorem FB.put {T : TypeId} {k b i : Nat} (h : FB w T k) (u : Value) : FB (w.setCell ⟨b, i, none⟩ u) T k := by
  obtain ⟨cs, h⟩ := h
  by_cases e : k = b
  · subst e; exact ⟨_, h.put i u⟩
  · exact ⟨cs, h.far e u⟩
def FZ (w : World) (T : TypeId) (k n : Nat) : Prop := ∃ cs, BlkAt w k T cs ∧ cs.size = n
theorem FZ.fb {T : TypeId} {k n : Nat} (h : FZ w T k n) : FB w T k := by obtain ⟨cs, h, _⟩ := h; exact ⟨cs, h⟩
theorem FZ.below {T : TypeId} {k n : Nat} (h : FZ w T k n) (hb : Below w.heap.size w w') : FZ w' T k n := by obtain ⟨cs, h, hn⟩ := h; exact ⟨cs, h.below hb h.lt, hn⟩
theorem FZ.tch {S : Nat → Prop} {T : TypeId} {k n : Nat} (h : FZ w T k n) (hb : Tch S w w') (hk : ¬ S k) : FZ w' T k n := by obtain ⟨cs, h, hn⟩ := h; exact ⟨cs, h.tch hb hk, hn⟩
theorem FZ.put {T : TypeId} {k b i n : Nat} (h : FZ w T k n) (u : Value) : FZ (w.setCell ⟨b, i, none⟩ u) T k n := by
  obtain ⟨cs, h, hn⟩ := h
  by_cases e : k = b
  · subst e; exact ⟨_, h.put i u, by simpa using hn⟩
  · exact ⟨cs, h.far e u, hn⟩
def IC (H : Nat) (T : TypeId) (w : World) (k : Nat) : Prop := k < H ∨ FB w T k
def CE (H : Nat) (T : TypeId) (w : World) (x : Value) (f : Fs) : Prop :=
  ∃ A c, x = .slice A f.len c ∧ f.len ≤ c ∧ (f.len = 0 ∧ A = none ∧ c = 0 ∨ ∃ b, A = some ⟨b, 0, none⟩ ∧ H ≤ b ∧ c ≤ maxLen ∧ FZ w T b (c * 5) ∧ FsAt w (IC H T w) f b 0)
def Rp (H : Nat) (T : TypeId) (w w' : World) : Prop := (∀ f b o, IC H T w b → FsAt w (IC H T w) f b o → FsAt w' (IC H T w') f b o) ∧ (∀ k, FB w T k → FB w' T k) ∧ (∀ k n, FZ w T k n → FZ w' T k n)
theorem Rp.trans {H : Nat} {T : TypeId} {a : World} (h : Rp H T a w) (k : Rp H T w w') : Rp H T a w' :=
  ⟨fun f b o hb hf => k.1 f b o (hb.imp id (h.2.1 b)) (h.1 f b o hb hf), fun j hj => k.2.1 j (h.2.1 j hj), fun j n hj => k.2.2 j n (h.2.2 j n hj)⟩
theorem Rp.below {H : Nat} {T : TypeId} (hH : H ≤ w.heap.size) (hb : Below w.heap.size w w') : Rp H T w w' := by
  have hI : ∀ k, IC H T w k → k < w.heap.size := fun k hk => by rcases hk with h | h; omega; exact h.lt
  refine ⟨fun f b o hb' hf => (hf.keep hb.size (fun k _ hk => hb.block k hk) (hb.block b (hI b hb'))).imp fun k hk => hk.imp id fun h => h.below hb, fun k hk => hk.below hb, fun k n hk => hk.below hb⟩
theorem Rp.tch {H g : Nat} {T : TypeId} (hH : H ≤ w.heap.size) (hb : Tch (fun k => some g = some k) w w') (hg : H ≤ g) (hT : ¬ FB w T g) : Rp H T w w' := by
  have hI : ∀ k, IC H T w k → k < w.heap.size := fun k hk => by rcases hk with h | h; omega; exact h.lt
  have hn : ∀ k, IC H T w k → ¬ (some g = some k) := fun k hk e => by
    injection e with e
    subst e
    rcases hk with h | h
    · omega
    · exact hT h
  refine ⟨fun f b o hb' hf => (hf.keep hb.size (fun k hk hl => hb.block k hl (hn k hk)) (hb.block b (hI b hb') (hn b hb'))).imp fun k hk => hk.imp id fun h => h.tch hb (hn k (.inr h)), fun k hk => hk.tch hb (hn k (.inr hk)), fun k n hk => hk.tch hb (hn k (.inr hk.fb))⟩
theorem Rp.anew {H : Nat} {T : TypeId} {b q : Nat} {A A' : Option Addr} {c c' : Nat} {j : Fs} (hp : w.cell? ⟨b, q, none⟩ = some (.slice A j.len c)) (hj : j.len = 0 ∨ ∃ b o, A = some ⟨b, o, none⟩ ∧ FsAt w (IC H T w) j b o)
    (hj' : j.len ≤ c' ∧ (j.len = 0 ∨ ∃ b o, A' = some ⟨b, o, none⟩ ∧ IC H T w b ∧ b < w.heap.size ∧ FsAt w (IC H T w) j b o)) : Rp H T w (w.setCell ⟨b, q, none⟩ (.slice A' j.len c')) :=
  ⟨fun _ _ _ _ hf => (hf.anew hp hj hj').imp fun _ hk => hk.imp id fun h => h.put _, fun _ hk => hk.put _, fun _ _ hk => hk.put _⟩
theorem CE.rp {H : Nat} {T : TypeId} {x : Value} {f : Fs} (h : CE H T w x f) (hr : Rp H T w w') : CE H T w' x f := by
  obtain ⟨A, c, hx, hc, h⟩ := h
  exact ⟨A, c, hx, hc, h.imp id fun ⟨b, hA, hH, hm, hb, hf⟩ => ⟨b, hA, hH, hm, hr.2.2 b _ hb, hr.1 f b 0 (.inr hb.fb) hf⟩⟩
def CL (H : Nat) (T : TypeId) (w : World) (xs : List Value) (L : List Fs) : Prop := xs.length = L.length ∧ ∀ (j : Nat) (x : Value) (f : Fs), xs[j]? = some x → L[j]? = some f → CE H T w x f
theorem CL.rp {H : Nat} {T : TypeId} {xs : List Value} {L : List Fs} (h : CL H T w xs L) (hr : Rp H T w w') : CL H T w' xs L := ⟨h.1, fun j x f hx hf => (h.2 j x f hx hf).rp hr⟩
theorem CL.nil {H : Nat} {T : TypeId} : CL H T w [] [] := ⟨rfl, fun j x f h => by simp at h⟩
theorem CL.push {H : Nat} {T : TypeId} {xs : List Value} {L : List Fs} {x : Value} {f : Fs} (h : CL H T w xs L) (hx : CE H T w x f) : CL H T w (xs ++ [x]) (L ++ [f]) := by
  refine ⟨by simp [h.1], fun j y g hy hg => ?_⟩
  by_cases hj : j < xs.length
  · rw [List.getElem?_append_left hj] at hy
    rw [List.getElem?_append_left (by rw [← h.1]; exact hj)] at hg
    exact h.2 j y g hy hg
  · rw [List.getElem?_append_right (by omega)] at hy
    rw [List.getElem?_append_right (by rw [← h.1]; omega), ← h.1] at hg
    generalize j - xs.length = m at hy hg
    cases m with
    | zero => simp at hy hg; subst hy hg; exact hx
    | succ m => simp at hy
theorem CL.pop {H : Nat} {T : TypeId} {xs : List Value} {L : List Fs} {n : Nat} (h : CL H T w xs L) (hn : L.length = n + 1) :
    ∃ L' f x, L = L' ++ [f] ∧ L'.length = n ∧ xs[n]? = some x ∧ CE H T w x f ∧ CL H T w (xs.take n) L' := by
  have hx : n < xs.length := by rw [h.1]; omega
  have hL : n < L.length := by omega
  refine ⟨L.take n, L[n], xs[n], ?_, by rw [List.length_take]; omega, List.getElem?_eq_getElem hx, h.2 n _ _ (List.getElem?_eq_getElem hx) (List.getElem?_eq_getElem hL), ?_⟩
  · have h1 := List.take_append_getElem hL
    rw [h1, List.take_of_length_le (by omega)]
  · refine ⟨by rw [List.length_take, List.length_take, h.1], fun j y g hy hg => ?_⟩
    rw [List.getElem?_take] at hy hg
    by_cases hj : j < n
    · rw [if_pos hj] at hy hg
      exact h.2 j y g hy hg
    · rw [if_neg hj] at hy
      cases hy
def GP (H g0 : Nat) (T : TypeId) (w : World) (xs : List Value) (cur k n : Nat) : Prop :=
  ∀ b cs, H ≤ b → BlkAt w b T cs → ∀ (o : Nat) (A : Addr) (m c : Nat), cs[o]? = some (.slice (some A) m c) → m ≠ 0 → g0 < A.block ∨ (∃ off m' c', Value.slice (some ⟨b, off, none⟩) m' c' ∈ xs ∧ o < 5 * m') ∨ (b = cur ∧ 5 * k ≤ o ∧ o < 5 * n)
theorem cls_of_blk {T : TypeId} {f : Fs} {g : Nat} {cs : Array Value} (h : FsAt w I f g 0) (hb : BlkAt w g T cs) : Cls w I (cs.toList.take (f.len * 5)) f := by
  obtain ⟨xs, hx, hc⟩ := h.cls
  have hl := hx.length
  have e : xs = cs.toList.take (f.len * 5) := by
    apply List.ext_getElem?
    intro j
    by_cases hj : j < xs.length
    · have h1 := hc j xs[j] (List.getElem?_eq_getElem hj)
      rw [Nat.zero_add, hb.cell] at h1
      rw [List.getElem?_eq_getElem hj, List.getElem?_take, if_pos (by omega), Array.getElem?_toList, h1]
    · rw [List.getElem?_eq_none (by omega), List.getElem?_take, if_neg (by omega)]
  rw [← e]
  exact hx
theorem GP.out {H g0 : Nat} {T : TypeId} (h : GP H g0 T w [] 0 0 0) (hH : H ≤ g0) : ∀ {f : Fs} {b o : Nat}, H ≤ b → FB w T b → FsAt w (IC H T w) f b o → FsAt w (fun k => g0 < k ∧ FB w T k) f b o
  | .nil, _, _, _, _, _ => trivial
  | .cons t y n s i r, b, o, hb, hF, hf => by
    obtain ⟨h1, h2, h3, h4, ⟨A, c, h5, hc, h6⟩, h7⟩ := hf
    refine ⟨h1, h2, h3, h4, ⟨A, c, h5, hc, ?_⟩, GP.out h hH hb hF h7⟩
    rcases h6 with h0 | ⟨b', o', hA, hI, hlt, h8⟩
    · exact .inl h0
    · by_cases h0 : i.len = 0
      · exact .inl h0
      right
      obtain ⟨cs, hcs⟩ := hF
      subst hA
      have hg : g0 < b' := by
        rw [hcs.cell] at h5
        rcases h b cs hb hcs (o + 4) ⟨b', o', none⟩ i.len c h5 h0 with h | ⟨_, _, _, h, _⟩ | ⟨_, _, h⟩
        · exact h
        · simp at h
        · omega
      have hF' : FB w T b' := by
        rcases hI with h | h
        · omega
        · exact h
      exact ⟨b', o', rfl, ⟨hg, hF'⟩, hlt, GP.out h hH (by omega) hF' h8⟩
end
end Go.PM
end

section
namespace Go.PM
open Go.RowKit
def zfield : Value := .agg #[.int .u64 0, .int .i64 0, .int .u64 0, .string ByteArray.empty, .slice none 0 0]
theorem copy_none {P : Program} (w : World) (t ty e : TypeId) (i : TypeInfo) (ht : P.underlying t = some (.slice e)) (hi : P.info? e = some i) (A : Option Addr) (c : Nat) :
    (Builtin.append_ #[t, t] ty #[.slice none 0 0, .slice A 0 c]).run P w = .ok (.slice none 0 0) w := by
  have h : (Builtin.firstCells i.size 0 (.slice A 0 c)).run P w = .ok #[] w := by
    cases A with
    | none => exact run_firstCells_none w i.size 0 0 c
    | some a => exact run_firstCells_some w i.size 0 a 0 c [] (by simp) (fun j u h => by simp at h)
  simp [Builtin.append_, run_underlying ht, sizeOf, typeInfo, hi, Builtin.lenOf, h]
theorem cls_one {w : World} {I : Nat → Prop} : ∀ {xs : List Value} {f : Fs}, Cls w I xs f → ∀ u ∈ xs, u.oneCell' = true
  | [], .nil, _ => by simp
  | a :: b :: c :: d :: v :: xs, .cons t y n s i r, h => by
    obtain ⟨rfl, rfl, rfl, rfl, ⟨A, c, rfl, _⟩, h7⟩ := h
    intro u hu
    simp only [List.mem_cons] at hu
    rcases hu with rfl | rfl | rfl | rfl | rfl | hu
    · rfl
    · rfl
    · rfl
    · rfl
    · rfl
    · exact cls_one h7 u hu
  | [], .cons .., h => h.elim
  | _ :: _, .nil, h => by simp [Cls] at h
  | [_], .cons .., h => by simp [Cls] at h
  | [_, _], .cons .., h => by simp [Cls] at h
  | [_, _, _], .cons .., h => by simp [Cls] at h
  | [_, _, _, _], .cons .., h => by simp [Cls] at h
theorem copy_some {P : Program} (w : World) (t ty e : TypeId) (i : TypeInfo) (ht : P.underlying t = some (.slice e)) (hi : P.info? e = some i) (hz : i.zero = some zfield) (hsz : i.size = 5) (hby : i.bytes = 64)
    {I : Nat → Prop} {A : Option Addr} {c : Nat} {f : Fs} (hs : SlV w I (.slice A f.len c) f) (h0 : 0 < f.len) (h60 : f.len ≤ 1000000) :
    ∃ xs G, Cls w I xs f ∧ (f.len ≤ G ∧ G ≤ maxLen) ∧ (Builtin.append_ #[t, t] ty #[.slice none 0 0, .slice A f.len c]).run P w = .ok (.slice (some ⟨w.heap.size, 0, none⟩) f.len G) (w.drew.alloc (.cells (xs.toArray ++ Builtin.zeroCells zfield.cells (G - f.len)) e)) := by
  obtain ⟨A', c', hv, hc, hor⟩ := hs
  injection hv with e1 e2 e3
  subst e1 e3
  rcases hor with hh | ⟨b, o, rfl, hI, hb, hf⟩
  · omega
  obtain ⟨xs, hx, hx2⟩ := hf.cls
  have hlen := hx.length
  have hsrc : Src P i.size t (.slice (some ⟨b, o, none⟩) f.len c) f.len xs w := by
    refine Src.ofSlice w ht ⟨b, o, none⟩ f.len c xs (by rw [hsz]; omega) (fun j u hj => ?_) (cls_one hx)
    have ha : (⟨b, o, none⟩ : Addr).add j = ⟨b, o + j, none⟩ := by unfold Addr.add; split <;> simp_all
    rw [ha]
    exact hx2 j u hj
  have hr := run_append_grow_src (P := P) w t t ty e i zfield ht hi hz none 0 0 [] (run_firstCells_none w.drew i.size 0 0 0) (.slice (some ⟨b, o, none⟩) f.len c) f.len xs hsrc (by omega) (by omega) (by rw [hby]; exact growslice_fits (by omega) (by omega))
  simp only [Nat.zero_add, List.nil_append] at hr
  exact ⟨xs, _, hx, ⟨grownCap_ge w f.len 0 e, grownCap_le_maxLen w f.len 0 e (by unfold maxLen; omega)⟩, hr⟩
theorem zcell_at (n o : Nat) (u : Value) (h : (Builtin.zeroCells zfield.cells n)[o]? = some u) : ∀ A m c, u ≠ .slice (some A) m c := by
  have hz : zfield.cells = #[.int .u64 0, .int .i64 0, .int .u64 0, .string ByteArray.empty, .slice none 0 0] := rfl
  have ho : o < n * zfield.cells.size := by
    have := (Array.getElem?_eq_some_iff.1 h).1
    rwa [size_zeroCells] at this
  unfold Builtin.zeroCells at h
  rw [Array.getElem?_map, Array.getElem?_range] at h
  rw [if_pos ho] at h
  simp only [Option.map_some, Option.some.injEq] at h
  have hm : o % zfield.cells.size < 5 := Nat.mod_lt _ (by rw [hz]; decide)
  generalize o % zfield.cells.size = q at h hm
  rw [hz] at h
  intro A m c e
  subst e
  match q, hm with
  | 0, _ => simp at h
  | 1, _ => simp at h
  | 2, _ => simp at h
  | 3, _ => simp at h
  | 4, _ => simp at h
def NT (e : TypeId) (w w' : World) : Prop := ∀ b T cs, T ≠ e → BlkAt w' b T cs → BlkAt w b T cs
theorem NT.alloc (e : TypeId) (w : World) (cs : Array Value) : NT e w (w.alloc (.cells cs e)) := fun b T cs' hT h => by
  by_cases hb : b < w.heap.size
  · unfold BlkAt at h ⊢
    rw [← h]
    exact (Below.heap_alloc w (.cells cs e) b hb).symm
  · have hlt := h.lt
    simp at hlt
    obtain rfl : b = w.heap.size := by omega
    exact absurd rfl (BlkAt.apart h (BlkAt.made w e cs) hT)
theorem NT.trans {e : TypeId} {a b c : World} (h : NT e a b) (k : NT e b c) : NT e a c := fun x T cs hT hc => h x T cs hT (k x T cs hT hc)
theorem NT.dr {e : TypeId} {a b : World} (h : NT e a b) : NT e a b.drew := fun x T cs hT hc => h x T cs hT hc
theorem NT.puts {e : TypeId} {w : World} {g : Nat} (hg : HasT w g e) (o : Nat) (vs : List Value) : NT e w (w.setCells g o vs) := fun b T cs hT h => by
  have hne : b ≠ g := by
    rintro rfl
    exact hT (HasT.one h.hasT (hg.puts vs o w))
  have := tch_setCells (a := w) (S := fun k => k = g) (b := g) rfl vs o w (Tch.refl _ _)
  have hlt : b < w.heap.size := by
    have h1 := h.lt
    have h2 : ∀ (vs : List Value) (o : Nat) (w : World), (w.setCells g o vs).heap.size = w.heap.size := by
      intro vs
      induction vs with
      | nil => intro o w; rfl
      | cons v vs ih => intro o w; rw [World.setCells, ih]; simp [World.setCell]
    rwa [h2] at h1
  unfold BlkAt at h ⊢
  rw [← h]
  exact (this.block b hlt hne).symm
theorem push_nt {P : Program} (w : World) (t ty : TypeId) (base : Nat) (e : TypeId) (i : TypeInfo) (z : Value) (ht : P.underlying t = some (.slice e)) (hi : P.info? e = some i) (hz : i.zero = some z)
    (hsize : i.size = 1) {v v' : Value} {n : Nat} {xs : List Value} {w' : World} (hown : w.ownsRow base e 1 v n xs) (ad : Addr) (u : Value) (hu : w.cell? ad = some u) (h1 : u.oneCell' = true) (h63 : n + 1 ≤ 4000001) (hb : i.bytes ≤ 100)
    (hr : (Builtin.append_ #[t, t] ty #[v, .slice (some ad) 1 1]).run P w = .ok v' w') : NT e w w' := by
  have hsrc : Src P i.size t (.slice (some ad) 1 1) 1 [u] w := by
    refine Src.ofSlice w ht ad 1 1 [u] (by rw [hsize]; rfl) (fun j x hj => ?_) (by simp [h1])
    match j, hj with
    | 0, hj =>
      simp at hj
      subst hj
      have : ad.add 0 = ad := by unfold Addr.add; split <;> simp_all
      rw [this]; exact hu
  have grow : ∀ (A : Option Addr) (c : Nat) (olds : List Value), v = .slice A n c → (Builtin.firstCells i.size n (.slice A n c)).run P w.drew = .ok olds.toArray w.drew → c < n + 1 → NT e w w' := fun A c olds hv hold hg => by
    subst hv
    have hmul : (n + 1) * i.bytes ≤ 140737488355328 := Nat.le_trans (Nat.mul_le_mul h63 hb) (by decide)
    have := run_append_grow_src (P := P) w t t ty e i z ht hi hz A n c olds hold (.slice (some ad) 1 1) 1 [u] hsrc hg (by omega) (growslice_fits (by omega) hmul)
    rw [hr] at this
    injection this with _ hw
    subst hw
    exact NT.trans (b := w.drew) (fun b T cs _ h => h) (NT.alloc e w.drew _)
  rcases hown.2 with ⟨rfl, rfl⟩ | ⟨g, cap, cur, rfl, hbg, hg, hnc, hcm, hcs, htk⟩
  · exact grow none 0 [] rfl (run_firstCells_none w.drew i.size 0 0 0) (by omega)
  · by_cases hroom : n + 1 ≤ cap
    · have := run_append_room_src (P := P) w t t ty e i ht hi g 0 n cap (.slice (some ad) 1 1) 1 [u] hsrc hroom
        (fun j hj => by rw [cell_of_row _ _ _ _ _ _ hg]; simp at hj; subst hj; simp [hsize]; omega) (fun j hj => by unfold World.frozen?; rw [hg]; simp)
      rw [hr] at this
      injection this with _ hw
      subst hw
      exact NT.puts ⟨_, _, hg⟩ _ _
    · refine grow (some ⟨g, 0, none⟩) cap xs rfl ?_ (by omega)
      refine run_firstCells_some w.drew i.size n ⟨g, 0, none⟩ n cap xs (by rw [hsize]; have := hown.1; omega) fun j x hx => ?_
      have := hown.cells (g := g) rfl j x hx
      exact this
theorem wpList_append_push {P : Program} {w : World} {ops : Array Oper} {rest : List Oper} {o : Oper} {a : Act} {Q : Exit → Act → World → Prop} (hgd : o.guard = none) (s x : Operand) (t : TypeId)
    (ho : o.op = .call { callee := .builtin .append, args := #[s, x], argTypes := #[t, t] })
    (base : Nat) (e : TypeId) (i : TypeInfo) (z : Value) (bytes : Nat) (ht : P.underlying t = some (.slice e)) (hi : P.info? e = some i) (hz : i.zero = some z)
    (hsize : i.size = 1) (hby : i.bytes = bytes) (hbb : bytes ≤ 100) (hzs : z.cells.size = 1) (v : Value) (n : Nat) (xs : List Value) (hs : a.eval s = v) (hown : w.ownsRow base e 1 v n xs)
    (B : Nat) (u : Value) (hx : a.eval x = .slice (some ⟨B, 0, none⟩) 1 1) (hB : BlkAt w B e #[u]) (h1 : u.oneCell' = true) (h63 : n + 1 ≤ 4000001) (hbase : base ≤ w.heap.size)
    (h : ∀ g cap w', w'.ownsRow base e 1 (.slice (some ⟨g, 0, none⟩) (n + 1) cap) (n + 1) (xs ++ [u]) → w.grownBy w' v.ownBlock → (v.ownBlock = some g ∨ g = w.heap.size) → g < w'.heap.size → NT e w w' → wpList P ops Q rest (a.put o.dst (.slice (some ⟨g, 0, none⟩) (n + 1) cap)) w') : wpList P ops Q (o :: rest) a w := by
  have hu : w.cell? ⟨B, 0, none⟩ = some u := by rw [hB.cell]; rfl
  have hmul : (n + 1) * bytes ≤ 140737488355328 := Nat.le_trans (Nat.mul_le_mul h63 hbb) (by decide)
  obtain ⟨g, cap, w', hr, h2, h3, h4, h5⟩ := run_append_lies (P := P) w t o.type base e i z 1 bytes ht hi hz hsize hby hzs (by decide) v n xs hown ⟨B, 0, none⟩ 1 1 [u] rfl hB.news (by simp [h1]) (by decide) (by unfold maxLen; omega) hmul hbase w.heap.size rfl
  exact wpList_append_run hgd s x t t ho v _ _ hs hx hr (h g cap w' h2 h3 h4 h5 (push_nt w t o.type base e i z ht hi hz hsize hown ⟨B, 0, none⟩ u hu h1 h63 (by rw [hby]; exact hbb) hr))
end Go.PM
end

section
namespace Go.PM
open Go.RowKit
section
variable {P : Program} {w : World}
theorem append_empty (t ty e : TypeId) (i : TypeInfo) (ht : P.underlying t = some (.slice e)) (hi : P.info? e = some i) (A A' : Option Addr) (n c c' : Nat) (h : n ≤ c) :
    (Builtin.append_ #[t, t] ty #[.slice A n c, .slice A' 0 c']).run P w = .ok (.slice A n c) w := by
  have h0 : (Builtin.firstCells i.size 0 (.slice A' 0 c')).run P w = .ok #[] w := by
    cases A' with
    | none => exact run_firstCells_none w i.size 0 0 c'
    | some a => exact run_firstCells_some w i.size 0 a 0 c' [] (by simp) (fun j u h => by simp at h)
  cases A with
  | none => simp [Builtin.append_, run_underlying ht, sizeOf, typeInfo, hi, Builtin.lenOf, h0, h]
  | some a => simp [Builtin.append_, run_underlying ht, sizeOf, typeInfo, hi, Builtin.lenOf, h0, h, storeCells]
theorem fapp_run (t ty e : TypeId) (i : TypeInfo) (ht : P.underlying t = some (.slice e)) (hi : P.info? e = some i) (hz : i.zero = some zfield) (hsz : i.size = 5) (hby : i.bytes = 64)
    {base : Nat} {A B : Option Addr} {c d : Nat} {f g : Fs} {xs : List Value} (hown : w.ownsRow base e 5 (.slice A f.len c) f.len xs) {J I : Nat → Prop} (hc : Cls w J xs f) (hJ : ∀ k, J k → (Value.slice A f.len c).ownBlock ≠ some k)
    (hs : SlV w I (.slice B g.len d) g) (hI : ∀ k, I k → (Value.slice A f.len c).ownBlock ≠ some k) (h60 : f.len + g.len ≤ 2000000) (hb : base ≤ w.heap.size) :
    ∃ (A' : Option Addr) (c' : Nat) (w' : World) (xs' : List Value), (Builtin.append_ #[t, t] ty #[.slice A f.len c, .slice B g.len d]).run P w = .ok (.slice A' (f.app g).len c') w' ∧ w'.ownsRow base e 5 (.slice A' (f.app g).len c') (f.app g).len xs' ∧
      Cls w' (fun k => (J k ∨ I k) ∧ k < w.heap.size) xs' (f.app g) ∧ w.grownBy w' (Value.slice A f.len c).ownBlock ∧ ((Value.slice A' (f.app g).len c').ownBlock = (Value.slice A f.len c).ownBlock ∨ (Value.slice A' (f.app g).len c').ownBlock = some w.heap.size) := by
  by_cases h0 : g.len = 0
  · have : g = .nil := Fs.len_zero h0
    subst this
    rw [Fs.app_nil]
    have hnc : f.len ≤ c := by
      rcases hown.2 with ⟨h1, h2⟩ | ⟨g', cap, cur, h1, _, _, h2, _⟩
      · omega
      · simp only [Value.slice.injEq] at h1; omega
    exact ⟨A, c, w, xs, append_empty t ty e i ht hi A B f.len c d hnc, hown, (hc.lt).imp fun k hk => ⟨.inl hk.1, hk.2⟩, grown_refl _ _, .inl rfl⟩
  · obtain ⟨B', d', hv, hd, hor⟩ := hs
    injection hv with e1 e2 e3
    subst e1 e3
    rcases hor with h | ⟨b, o, rfl, hIb, hbl, hf⟩
    · exact absurd h h0
    obtain ⟨ys, hy, hy2⟩ := hf.cls
    have hyl := hy.length
    have hnews : ∀ j u, ys[j]? = some u → w.cell? ((⟨b, o, none⟩ : Addr).add j) = some u := fun j u hj => by
      have ha : (⟨b, o, none⟩ : Addr).add j = ⟨b, o + j, none⟩ := by unfold Addr.add; split <;> simp_all
      rw [ha]; exact hy2 j u hj
    obtain ⟨g', cap, w', hr, h2, h3, h4, h5⟩ := run_append_lies (P := P) w t ty base e i zfield 5 64 ht hi hz hsz hby rfl (by decide) _ f.len xs hown ⟨b, o, none⟩ g.len d ys (by omega) hnews (cls_one hy) (by omega) (by unfold maxLen; omega) (by omega) hb w.heap.size rfl
    have hS : ∀ k, (J k ∨ I k) ∧ k < w.heap.size → ¬ ((Value.slice A f.len c).ownBlock = some k) := fun k hk => by
      rcases hk.1 with h | h
      · exact hJ k h
      · exact hI k h
    have hcl := ((hc.lt.imp (J := fun k => (J k ∨ I k) ∧ k < w.heap.size) fun k hk => ⟨.inl hk.1, hk.2⟩).app (hy.lt.imp (J := fun k => (J k ∨ I k) ∧ k < w.heap.size) fun k hk => ⟨.inr hk.1, hk.2⟩)).tch (S := fun k => (Value.slice A f.len c).ownBlock = some k) (Tch.grown h3 fun k hk _ => hk) hS
    rw [Fs.app_len]
    refine ⟨some ⟨g', 0, none⟩, cap, w', _, hr, h2, hcl, h3, ?_⟩
    rcases h4 with h4 | h4
    · exact .inl h4.symm
    · right; rw [h4]; rfl
end
section
variable {w : World} {I : Nat → Prop}
theorem FsAt.take : ∀ {f : Fs} {b o : Nat} (k : Nat), FsAt w I f b o → FsAt w I (f.take k) b o
  | f, _, _, 0, _ => by cases f <;> trivial
  | .nil, _, _, _ + 1, _ => trivial
  | .cons .., _, _, k + 1, h => ⟨h.1, h.2.1, h.2.2.1, h.2.2.2.1, h.2.2.2.2.1, FsAt.take k h.2.2.2.2.2⟩
theorem SlV.take {A : Option Addr} {c : Nat} {f : Fs} (h : SlV w I (.slice A f.len c) f) (k : Nat) (hk : k ≤ f.len) : SlV w I (.slice A (f.take k).len c) (f.take k) := by
  obtain ⟨A', c', hv, hc, hor⟩ := h
  injection hv with e1 e2 e3
  subst e1 e3
  refine ⟨A, c, rfl, by rw [Fs.take_len f k hk]; omega, ?_⟩
  rcases hor with h | ⟨b, o, h1, h2, h3, h4⟩
  · left; rw [Fs.take_len f k hk]; omega
  · exact .inr ⟨b, o, h1, h2, h3, h4.take k⟩
theorem SlV.drop {b o c : Nat} {f : Fs} (h : SlV w I (.slice (some ⟨b, o, none⟩) f.len c) f) (k : Nat) (hk : k ≤ f.len) (c' : Nat) (hc : f.len - k ≤ c') : SlV w I (.slice (some ⟨b, o + k * 5, none⟩) (f.drop k).len c') (f.drop k) := by
  obtain ⟨A', c2, hv, hc2, hor⟩ := h
  injection hv with e1 e2 e3
  refine ⟨_, c', rfl, by rw [Fs.drop_len]; exact hc, ?_⟩
  rcases hor with h | ⟨b', o', h1, h2, h3, h4⟩
  · left; rw [Fs.drop_len]; omega
  · rw [← e1] at h1
    injection h1 with h1
    injection h1 with h5 h6
    subst h5 h6
    exact .inr ⟨b, o + k * 5, rfl, h2, h3, h4.drop k⟩
end
end Go.PM
end

section
namespace Go.Proofs.YtgidfnhfgiehjaaGreatDoor
open Go.RowKit Go.PM
set_option maxRecDepth 100000
set_option maxHeartbeats 4000000
attribute [local go_sem ↓] Go.wp_at_zero Go.wp_at_succ
theorem kget : ∀ k : Nat, 1 ≤ k → k ≤ 8 → getL zkind kindL (.int .i64 (k : Int)) = kv k ∧ hasL kindL (.int .i64 (k : Int)) = true
  | 1, _, _ | 2, _, _ | 3, _, _ | 4, _, _ | 5, _, _ | 6, _, _ | 7, _, _ | 8, _, _ => ⟨rfl, rfl⟩
  | 0, h, _ => absurd h (by omega)
  | n + 9, _, h => absurd h (by omega)
theorem kget_no {k : Int} (h : ¬ (1 ≤ k ∧ k ≤ 8)) : getL zkind kindL (.int .i64 k) = zkind := by
  have hs : ∀ n : Int, 1 ≤ n → n ≤ 8 → (Lit.int .i64 n).sameKey (.int .i64 k) = false := fun n h1 h2 => by
    simp only [Lit.sameKey, decide_eq_false_iff_not]
    rintro ⟨_, rfl⟩
    exact h ⟨h1, h2⟩
  simp only [kindL, getL, hs 1 (by decide) (by decide), hs 2 (by decide) (by decide), hs 3 (by decide) (by decide), hs 4 (by decide) (by decide), hs 5 (by decide) (by decide), hs 6 (by decide) (by decide), hs 7 (by decide) (by decide), hs 8 (by decide) (by decide), cond_false]
theorem kget_any (k : Int) : ∃ F, (F = .nilFunc ∨ ∃ n, F = .func (.func n) #[] #[]) ∧ getL zkind kindL (.int .i64 k) = .agg #[.string (txt (kname (knat k))), .int .i64 (kfrom (knat k) : Int), F] := by
  by_cases h : 1 ≤ k ∧ k ≤ 8
  · obtain ⟨n, rfl⟩ : ∃ n : Nat, k = n := ⟨k.toNat, by omega⟩
    rw [(kget n (by omega) (by omega)).1, knat_of (by omega) (by omega)]
    exact ⟨_, .inr ⟨_, rfl⟩, rfl⟩
  · rw [kget_no h]
    unfold knat
    rw [if_neg h]
    exact ⟨_, .inl rfl, rfl⟩
theorem enter_of {P : Program} {f : FuncId} {fn : Func} {c : Code} (hf : P.funcs[f]? = some fn) (hname : (fn.name == "runtime.NumGoroutine") = false) (hb : fn.body = some c) (args : Array Value) (w : World) : (callFunc f args).run P w = .ok (.enter f args) w := by
  have h1 : fn.name ≠ "runtime.NumGoroutine" := by simpa using hname
  simp [callFunc, hf, h1, hb]
theorem kfn_enter (w : World) : ∀ k, 1 ≤ k → k ≤ 8 → (callFunc (kfn k) #[]).run Tryz.prog w = .ok (.enter (kfn k) #[]) w
  | 1, _, _ => enter_of Tryz.func127 rfl rfl _ _
  | 2, _, _ => enter_of Tryz.func128 rfl rfl _ _
  | 3, _, _ => enter_of Tryz.func129 rfl rfl _ _
  | 4, _, _ => enter_of Tryz.func130 rfl rfl _ _
  | 5, _, _ => enter_of Tryz.func131 rfl rfl _ _
  | 6, _, _ => enter_of Tryz.func132 rfl rfl _ _
  | 7, _, _ => enter_of Tryz.func133 rfl rfl _ _
  | 8, _, _ => enter_of Tryz.func134 rfl rfl _ _
  | 0, h, _ => absurd h (by omega)
  | n + 9, _, h => absurd h (by omega)
theorem wf_i64 {k : Int} (h : InI64 k) : (Lit.int .i64 k).wf = true := by
  unfold InI64 at h
  simp only [Lit.wf, show IntKind.i64.min = -9223372036854775808 from rfl, show IntKind.i64.max = 9223372036854775807 from rfl, Bool.and_eq_true, decide_eq_true_eq]
  omega
theorem fld_kind0 (S : ByteArray) (R : Int) (F : Value) (x : World) : (Instr.field 145 (.agg #[.string S, .int .i64 R, F]) 0).run Tryz.prog x = .ok (.string S) x := by rfl
theorem fld_kind1 (S : ByteArray) (R : Int) (F : Value) (x : World) : (Instr.field 145 (.agg #[.string S, .int .i64 R, F]) 1).run Tryz.prog x = .ok (.int .i64 R) x := by rfl
theorem from17 (k : Int) (w : World) (hk : InI64 k) : Calls Tryz.prog 37 #[.int .i64 k] w fun e w' => e = .returned (.int .i64 (kfrom (knat k) : Int)) ∧ Below w.heap.size w w' := by
  obtain ⟨F, hor, hF⟩ := kget_any k
  have hf0 := fld_kind0
  have hf1 := fld_kind1
  have HF := Lib.hid hF
  have HK := Lib.hid (wf_i64 hk)
  clear hF hk
  generalize kname (knat k) = N at *
  generalize kfrom (knat k) = R at *
  rcases hor with rfl | ⟨n, rfl⟩
  · skip
    go_enter Tryz.func37, Tryz.ntmps37
    go_wp2_with (first |
      (go_at_call 79; refine (all17 _).mono ?_; rintro e w1 ⟨rfl, h1, b1⟩; have H1 := Lib.hid h1; have B1 := Lib.hid b1; clear h1 b1) |
      (at_lookup; refine wpList_look_v _ rfl _ _ 146 rfl 3 145 key_int Tryz.underlying146 (zero_kind _) _ _ rfl H1.out (.int .i64 k) (.int .i64 k) rfl (Maps.keyOf_int_mk Tryz.underlying3 HK.out) HF.out ?_))
    go_ret
    exact ⟨rfl, B1.out⟩
  · skip
    go_enter Tryz.func37, Tryz.ntmps37
    go_wp2_with (first |
      (go_at_call 79; refine (all17 _).mono ?_; rintro e w1 ⟨rfl, h1, b1⟩; have H1 := Lib.hid h1; have B1 := Lib.hid b1; clear h1 b1) |
      (at_lookup; refine wpList_look_v _ rfl _ _ 146 rfl 3 145 key_int Tryz.underlying146 (zero_kind _) _ _ rfl H1.out (.int .i64 k) (.int .i64 k) rfl (Maps.keyOf_int_mk Tryz.underlying3 HK.out) HF.out ?_))
    go_ret
    exact ⟨rfl, B1.out⟩
theorem name17 (k : Int) (w : World) (hk : InI64 k) : Calls Tryz.prog 240 #[.int .i64 k] w fun e w' => e = .returned (.string (txt (kname (knat k)))) ∧ Below w.heap.size w w' := by
  obtain ⟨F, hor, hF⟩ := kget_any k
  have hf0 := fld_kind0
  have hf1 := fld_kind1
  have HF := Lib.hid hF
  have HK := Lib.hid (wf_i64 hk)
  clear hF hk
  generalize kname (knat k) = N at *
  generalize kfrom (knat k) = R at *
  rcases hor with rfl | ⟨n, rfl⟩
  · skip
    go_enter Tryz.func240, Tryz.ntmps240
    go_wp2_with (first |
      (go_at_call 79; refine (all17 _).mono ?_; rintro e w1 ⟨rfl, h1, b1⟩; have H1 := Lib.hid h1; have B1 := Lib.hid b1; clear h1 b1) |
      (at_lookup; refine wpList_look_v _ rfl _ _ 146 rfl 3 145 key_int Tryz.underlying146 (zero_kind _) _ _ rfl H1.out (.int .i64 k) (.int .i64 k) rfl (Maps.keyOf_int_mk Tryz.underlying3 HK.out) HF.out ?_))
    go_ret
    exact ⟨rfl, B1.out⟩
  · skip
    go_enter Tryz.func240, Tryz.ntmps240
    go_wp2_with (first |
      (go_at_call 79; refine (all17 _).mono ?_; rintro e w1 ⟨rfl, h1, b1⟩; have H1 := Lib.hid h1; have B1 := Lib.hid b1; clear h1 b1) |
      (at_lookup; refine wpList_look_v _ rfl _ _ 146 rfl 3 145 key_int Tryz.underlying146 (zero_kind _) _ _ rfl H1.out (.int .i64 k) (.int .i64 k) rfl (Maps.keyOf_int_mk Tryz.underlying3 HK.out) HF.out ?_))
    go_ret
    exact ⟨rfl, B1.out⟩
def zspec : Value := .agg #[.int .u64 0, .int .i64 0, .int .i64 0, .string ⟨#[]⟩]
theorem info_spec : (Tryz.prog.info? 94).map (fun i => (i.zero, i.size, i.bytes)) = some (some zspec, 4, 40) := by kernel_rfl
theorem sapp_run {P : Program} {w : World} (t ty e : TypeId) (i : TypeInfo) (ht : P.underlying t = some (.slice e)) (hi : P.info? e = some i) (hz : i.zero = some zspec) (hsz : i.size = 4) (hby : i.bytes = 40)
    {base : Nat} {A : Option Addr} {g c d : Nat} {l : List Sp} {s : Sp} (hown : w.ownsRow base e 4 (.slice A l.length c) l.length (sps l)) (hB : ∀ j u, (spv s)[j]? = some u → w.cell? ((⟨g, 0, none⟩ : Addr).add j) = some u) (hl : l.length ≤ 100000) (hb : base ≤ w.heap.size) :
    ∃ (A' : Option Addr) (c' : Nat) (w' : World), (Builtin.append_ #[t, t] ty #[.slice A l.length c, .slice (some ⟨g, 0, none⟩) 1 d]).run P w = .ok (.slice A' (l ++ [s]).length c') w' ∧ w'.ownsRow base e 4 (.slice A' (l ++ [s]).length c') (l ++ [s]).length (sps (l ++ [s])) ∧
      w.grownBy w' (Value.slice A l.length c).ownBlock := by
  have e1 : sps [s] = spv s := by simp [sps]
  obtain ⟨g', cap, w', hr, h2, h3, h4, h5⟩ := run_append_lies (P := P) w t ty base e i zspec 4 40 ht hi hz hsz hby rfl (by decide) _ l.length (sps l) hown ⟨g, 0, none⟩ 1 d (spv s) rfl hB (fun u hu => sps_one [s] u (by rw [e1]; exact hu)) (by decide) (by unfold maxLen; omega) (by omega) hb w.heap.size rfl
  have e2 : (l ++ [s]).length = l.length + 1 := by simp
  refine ⟨some ⟨g', 0, none⟩, cap, w', by rw [e2]; exact hr, ?_, h3⟩
  rw [sps_app, e1, e2]
  exact h2
def KnAt (w : World) (l : List Sp) (vv : Value) (wr : World) : Prop := ∃ A c, vv = .slice A l.length c ∧ wr.ownsRow w.heap.size 94 4 vv l.length (sps l) ∧ Below w.heap.size w wr
def KnEnd (w : World) (l : List Sp) (e : Ending) (w' : World) : Prop := ∃ A c, e = .returned (.slice A l.length c) ∧ Rd w' A (sps l) ∧ l.length ≤ c ∧ Below w.heap.size w w'
theorem known17 (k v : Nat) (w : World) (h1 : 1 ≤ k) (h8 : k ≤ 8) (hv : kfrom k ≤ v) (hv3 : v ≤ 3) : Calls Tryz.prog 39 #[.int .i64 (k : Int), .int .i64 (v : Int)] w (KnEnd w (kknown k v)) := by
  obtain ⟨i0, hi0, hz0, hz1, hz2⟩ := info_parts info_spec
  obtain ⟨hG, hH⟩ := kget k h1 h8
  obtain ⟨N, hN⟩ : ∃ N, N = txt (kname k) := ⟨_, rfl⟩
  obtain ⟨L, hL⟩ : ∃ L, L = kspecs k := ⟨_, rfl⟩
  have hG' : getL zkind kindL (.int .i64 (k : Int)) = .agg #[.string N, .int .i64 (kfrom k : Int), .func (.func (kfn k)) #[] #[]] := by rw [hG, hN]; rfl
  have HG := Lib.hid hG'
  have HH := Lib.hid hH
  have HW := Lib.hid (wf_i64 (k := (k : Int)) (by unfold InI64; omega))
  have HSP : Hid (∀ x : World, Calls Tryz.prog (kfn k) #[] x (SpEnd x k)) := fun x => specs_of x k h1 h8
  have hent : ∀ x : World, (callFunc (kfn k) #[]).run Tryz.prog x = .ok (.enter (kfn k) #[]) x := fun x => kfn_enter x k h1 h8
  have hLl : L.length ≤ 5 := by
    subst hL
    clear hv hG hH hN hG' HG HH HW HSP hent
    revert h1 h8
    match k with
    | 0 | 1 | 2 | 3 | 4 | 5 | 6 | 7 | 8 => intros; decide
    | n + 9 => intro _ h; omega
  have hv1 : ¬ (v : Int) < (kfrom k : Int) := by omega
  have hv2 : ¬ (3 : Int) < (v : Int) := by omega
  have HKN : Hid (kknown k v = L.filter fun s => decide (s.from_ ≤ v)) := by show _ = _; rw [hL]; rfl
  have HLL := Lib.hid hL
  generalize kfn k = fn at *
  generalize kfrom k = fr at *
  clear hG hH hG' hN hL h1 h8
  go_enter Tryz.func39, Tryz.ntmps39
  go_wp2_with (first |
    (go_at_call 79; refine (all17 _).mono ?_; rintro e w1 ⟨rfl, h1, b1⟩; have H1 := Lib.hid h1; have B1 := Lib.hid b1; clear h1 b1) |
    (at_lookup; refine wpList_look_ok_v _ rfl _ _ 146 rfl 3 145 key_int Tryz.underlying146 (zero_kind _) _ _ rfl H1.out (.int .i64 (k : Int)) (.int .i64 (k : Int)) rfl (Maps.keyOf_int_mk Tryz.underlying3 HW.out) HG.out HH.out ?_))
  refine (HSP.out _).mono ?_
  rintro e w2 ⟨bs, rfl, hbs, hrd, hb2⟩
  rw [← HLL.out] at hrd ⊢
  have HB2 := Lib.hid (bb (ba B1.out _) hb2)
  have HRD := Lib.hid hrd
  clear hrd hb2 H1 B1 HSP hent
  go_wp2_with fail
  have H0 : Hid (KnAt w2 ((L.take 0).filter fun s => decide (s.from_ ≤ v)) (.slice none 0 0) w2) := ⟨none, 0, rfl, World.ownsRow_nil _ _ _ _, b0⟩
  go_loopg [7, 32] L.length (fun gk vv ki wr => ∃ j : Nat, j ≤ L.length ∧ L.length - j ≤ gk ∧ ki = .int .i64 (j : Int) ∧ Hid (KnAt w2 ((L.take j).filter fun s => decide (s.from_ ≤ v)) vv wr))
  case atStart => exact ⟨0, Nat.zero_le _, by omega, rfl, H0⟩
  case round =>
    obtain ⟨j, hj, hgj, rfl, HS⟩ := hrel
    obtain ⟨A, c, rfl, hown, hbel⟩ := HS.out
    by_cases hlt : j < L.length
    · obtain ⟨b, off, hAe, hbl, c0, c1, c2, c3⟩ := rd_spec (HRD.out.below hbel) hlt
      injection hAe with hAe
      injection hAe with e1 e2
      subst e1 e2
      simp only [Nat.zero_add] at c0 c1 c2 c3
      have hst : (L.take (j + 1)).filter (fun s => decide (s.from_ ≤ v)) = (L.take j).filter (fun s => decide (s.from_ ≤ v)) ++ (if L[j].from_ ≤ v then [L[j]] else []) := by
        rw [← List.take_append_getElem hlt, List.filter_append, List.filter_cons, List.filter_nil]
        by_cases h : L[j].from_ ≤ v <;> simp [h]
      have hln : ((L.take j).filter fun s => decide (s.from_ ≤ v)).length ≤ 5 := Nat.le_trans (List.length_filter_le _ _) (by rw [List.length_take]; omega)
      have HST := Lib.hid hst
      generalize L[j] = s at *
      generalize (L.take j).filter (fun s => decide (s.from_ ≤ v)) = F at *
      have hbo := ba (a := wr) b0 (.cells #[.int .u64 (s.tag : Int), .int .i64 (s.use : Int), .int .i64 (s.from_ : Int), .string (txt s.nm)] 94)
      have hbo2 := ba hbo (.cells #[.int .u64 (s.tag : Int), .int .i64 (s.use : Int), .int .i64 (s.from_ : Int), .string (txt s.nm)] 94)
      have hyy := World.news_of_block (cs := #[.int .u64 (s.tag : Int), .int .i64 (s.use : Int), .int .i64 (s.from_ : Int), .string (txt s.nm)]) (t := 94) (fr := (0, 0)) (heap_alloc_new (wr.alloc (.cells #[.int .u64 (s.tag : Int), .int .i64 (s.use : Int), .int .i64 (s.from_ : Int), .string (txt s.nm)] 94)) (.cells #[.int .u64 (s.tag : Int), .int .i64 (s.use : Int), .int .i64 (s.from_ : Int), .string (txt s.nm)] 94))
      simp only [World.size_alloc] at hyy
      have hw2 := hbel.size
      by_cases hf : s.from_ ≤ v
      · obtain ⟨A2, c2', w3, hrun, hown3, hg3⟩ := sapp_run (g := wr.heap.size + 1) (d := 1) (s := s) 91 91 94 i0 Tryz.underlying91 hi0 hz0 hz1 hz2 (own_below hown hbo2) hyy (by omega) (by simp; omega)
        have HRUN := Lib.hid hrun
        have HN : Hid (KnAt w2 (F ++ [s]) (.slice A2 (F ++ [s]).length c2') w3) := ⟨A2, c2', rfl, hown3, (hbel.trans (hbo2.mono hw2)).grown hg3 (by simp; omega) fun k hk => (hown.lt k hk).1⟩
        have hfi : (s.from_ : Int) ≤ (v : Int) := by omega
        rw [if_pos hf] at HST
        clear hown hbel hrun hown3 hg3 hyy hbo hbo2 HS H0 hst hln
        go_wp2_with (at_builtin; (refine wpList_append_run rfl _ _ _ _ rfl _ _ _ rfl rfl HRUN.out ?_))
        go_roundg (L.length - (j + 1))
        case measure => omega
        case rel => exact ⟨j + 1, by omega, Nat.le_refl _, by go_num, by
          have h := HN
          rw [List.length_append] at h
          rw [HST.out]
          exact h⟩
      · have HN : Hid (KnAt w2 F (.slice A F.length c) (wr.alloc (.cells #[.int .u64 (s.tag : Int), .int .i64 (s.use : Int), .int .i64 (s.from_ : Int), .string (txt s.nm)] 94))) := ⟨A, c, rfl, own_below hown hbo, hbel.trans (hbo.mono hw2)⟩
        have hfi : ¬ (s.from_ : Int) ≤ (v : Int) := by omega
        rw [if_neg hf, List.append_nil] at HST
        clear hown hbel hyy hbo hbo2 HS H0 hst hln
        go_wp2_with fail
        go_roundg (L.length - (j + 1))
        case measure => omega
        case rel => exact ⟨j + 1, by omega, Nat.le_refl _, by go_num, by rw [HST.out]; exact HN⟩
    · obtain rfl : j = L.length := by omega
      have HE : Hid (KnEnd w (kknown k v) (.returned (.slice A ((L.take L.length).filter fun s => decide (s.from_ ≤ v)).length c)) wr) := by
        rw [List.take_of_length_le (Nat.le_refl _), ← HKN.out] at hown ⊢
        obtain ⟨A', c', h1, h2, h3, _⟩ := Rd.own hown
        injection h1 with e1 _ e3
        subst e1 e3
        exact ⟨_, _, rfl, h2, h3, HB2.out.trans (hbel.mono HB2.out.size)⟩
      clear hown hbel HS H0
      generalize ((L.take L.length).filter fun s => decide (s.from_ ≤ v)).length = n at *
      go_wp2_with fail
      go_ret
      exact HE.out
theorem info_ku64 : (Tryz.prog.info? 22).map (fun i => (i.zero, i.size, i.bytes)) = some (some (.int .u64 0), 1, 8) := by kernel_rfl
theorem tags17 (k v : Nat) (w : World) (h1 : 1 ≤ k) (h8 : k ≤ 8) (hv : kfrom k ≤ v) (hv3 : v ≤ 3) : Calls Tryz.prog 41 #[.int .i64 (k : Int), .int .i64 (v : Int)] w
    fun e w' => ∃ A c, e = .returned (.slice A (ktags k v).length c) ∧ Rd w' A (u64s (ktags k v)) ∧ (ktags k v).length ≤ c ∧ Below w.heap.size w w' := by
  obtain ⟨i0, hi0, hz0, hz1, hz2⟩ := info_parts info_ku64
  have HK := Lib.hid (known17 k v w h1 h8 hv hv3)
  obtain ⟨L, hL⟩ : ∃ L, L = kknown k v := ⟨_, rfl⟩
  have hkt : ktags k v = L.map Sp.tag := by rw [hL]; rfl
  have hLl : L.length ≤ 100 := by
    rw [hL]
    refine Nat.le_trans (List.length_filter_le _ _) ?_
    clear HK hL hkt hv
    revert h1 h8
    match k with
    | 0 | 1 | 2 | 3 | 4 | 5 | 6 | 7 | 8 => intros; decide
    | n + 9 => intro _ h; omega
  rw [hkt, List.length_map]
  rw [← hL] at HK
  clear hL hkt h1 h8 hv hv3
  go_enter Tryz.func41, Tryz.ntmps41
  go_wp2_with fail
  refine HK.out.mono ?_
  rintro e w2 ⟨A0, c0, rfl, hrd, hc0, hb2⟩
  have HB2 := Lib.hid hb2
  have HRD := Lib.hid hrd
  clear hrd hb2 HK
  go_wp2_with fail
  have H0 : Hid (w2.ownsRow w2.heap.size 22 1 (.slice none 0 0) 0 (u64s ((L.map Sp.tag).take 0))) := World.ownsRow_nil _ _ _ _
  go_loopg [5, 12] L.length (fun gk vv ki wr => ∃ j : Nat, j ≤ L.length ∧ L.length - j ≤ gk ∧ ki = .int .i64 (j : Int) ∧ Hid (wr.ownsRow w2.heap.size 22 1 vv j (u64s ((L.map Sp.tag).take j))) ∧ Below w2.heap.size w2 wr)
  case atStart => exact ⟨0, Nat.zero_le _, by omega, rfl, H0, b0⟩
  case round =>
    obtain ⟨j, hj, hgj, rfl, HO, hb⟩ := hrel
    have HB := Lib.hid hb
    by_cases hlt : j < L.length
    · obtain ⟨b, off, rfl, hbl, c0', c1, c2, c3⟩ := rd_spec (HRD.out.below hb) hlt
      have hst : Hid (u64s ((L.map Sp.tag).take (j + 1)) = u64s ((L.map Sp.tag).take j) ++ [.int .u64 (L[j].tag : Int)]) := by
        show _ = _
        rw [← List.take_append_getElem (show j < (L.map Sp.tag).length by rw [List.length_map]; exact hlt)]
        simp [u64s]
      generalize L[j] = s at *
      have hwz := hb.size
      have hnew := one_new (wr.alloc (.cells #[.int .u64 (s.tag : Int), .int .i64 (s.use : Int), .int .i64 (s.from_ : Int), .string (txt s.nm)] 94)) (.int .u64 (s.tag : Int)) 22
      simp only [World.size_alloc] at hnew
      clear hb
      go_wp2_with (at_builtin; go_must (refine wpList_append_own _ rfl _ _ 97 rfl w2.heap.size 22 i0 (.int .u64 0) 1 8 Tryz.underlying97 hi0 hz0 hz1 hz2 rfl (by decide) _ _ _ rfl ((HO.out.alloc _).alloc _) ⟨wr.heap.size + 1, 0, none⟩ 1 1 [.int .u64 (s.tag : Int)] rfl rfl hnew (one_cell_int _ _) (by unfold maxLen; omega) (by omega) (by simp; omega) ?_); intro v1 w3 hown2 hg2 _)
      go_roundg (L.length - (j + 1))
      case measure => omega
      case rel =>
        refine ⟨j + 1, by omega, Nat.le_refl _, by go_num, ?_, below_append (ba (ba HB.out _) _) ((HO.out.alloc _).alloc _) hg2⟩
        rw [hst.out]
        exact hown2
    · obtain rfl : j = L.length := by omega
      have h := HO.out
      rw [List.take_of_length_le (by simp)] at h
      obtain ⟨A', c', rfl, h2, h3, _⟩ := Rd.own h
      have HE2 : Hid (Rd wr A' (u64s (L.map Sp.tag)) ∧ L.length ≤ c' ∧ Below w.heap.size w wr) := ⟨h2, h3, HB2.out.trans (hb.mono HB2.out.size)⟩
      clear hb h h2 h3 HO H0
      go_wp2_with fail
      go_ret
      exact ⟨A', c', rfl, HE2.out⟩
end Go.Proofs.YtgidfnhfgiehjaaGreatDoor
end

section
namespace Go.Proofs.YtgidfnhfgiehjaaGreatDoor
open Go.RowKit Go.PM
set_option maxRecDepth 100000
set_option maxHeartbeats 4000000
attribute [local go_sem ↓] Go.wp_at_zero Go.wp_at_succ
theorem specs17 (k : Nat) (w : World) (h1 : 1 ≤ k) (h8 : k ≤ 8) : Calls Tryz.prog 98 #[.int .i64 (k : Int)] w (SpEnd w k) := by
  obtain ⟨hG, hH⟩ := kget k h1 h8
  obtain ⟨N, hN⟩ : ∃ N, N = txt (kname k) := ⟨_, rfl⟩
  have hG' : getL zkind kindL (.int .i64 (k : Int)) = .agg #[.string N, .int .i64 (kfrom k : Int), .func (.func (kfn k)) #[] #[]] := by rw [hG, hN]; rfl
  have HG := Lib.hid hG'
  have HH := Lib.hid hH
  have HW := Lib.hid (wf_i64 (k := (k : Int)) (by unfold InI64; omega))
  have HSP : Hid (∀ x : World, Calls Tryz.prog (kfn k) #[] x (SpEnd x k)) := fun x => specs_of x k h1 h8
  have hent : ∀ x : World, (callFunc (kfn k) #[]).run Tryz.prog x = .ok (.enter (kfn k) #[]) x := fun x => kfn_enter x k h1 h8
  generalize kfn k = fn at *
  generalize kfrom k = fr at *
  clear hG hH hG' hN h1 h8
  go_enter Tryz.func98, Tryz.ntmps98
  go_wp2_with (first |
    (go_at_call 79; refine (all17 _).mono ?_; rintro e w1 ⟨rfl, h1, b1⟩; have H1 := Lib.hid h1; have B1 := Lib.hid b1; clear h1 b1) |
    (at_lookup; refine wpList_look_ok_v _ rfl _ _ 146 rfl 3 145 key_int Tryz.underlying146 (zero_kind _) _ _ rfl H1.out (.int .i64 (k : Int)) (.int .i64 (k : Int)) rfl (Maps.keyOf_int_mk Tryz.underlying3 HW.out) HG.out HH.out ?_))
  refine (HSP.out _).mono ?_
  rintro e w2 ⟨bs, rfl, hbs, hrd, hb2⟩
  have hsz := B1.out.size
  have HE : Hid (SpEnd w k (.returned (.slice (some ⟨bs, 0, none⟩) (kspecs k).length (kspecs k).length)) w2) := ⟨bs, rfl, by rw [World.size_alloc] at hbs; omega, hrd, bb (ba B1.out _) hb2⟩
  clear hrd hb2 H1 B1 HSP hent hsz
  generalize (kspecs k).length = n at *
  go_wp2_with fail
  go_ret
  exact HE.out
theorem zero_int (w : World) : (zeroValue 3).run Tryz.prog w = .ok (.int .i64 0) w := rfl
def typeL : List (Lit × Value) := [(.int .i64 0, .int .i64 0), (.int .i64 1, .int .i64 0), (.int .i64 2, .int .i64 0), (.int .i64 3, .int .i64 1), (.int .i64 4, .int .i64 1), (.int .i64 5, .int .i64 1)]
theorem tget : ∀ u : Nat, u ≤ 5 → getL (.int .i64 0) typeL (.int .i64 (u : Int)) = .int .i64 (if u ≤ 2 then 0 else 1) ∧ hasL typeL (.int .i64 (u : Int)) = true
  | 0, _ | 1, _ | 2, _ | 3, _ | 4, _ | 5, _ => ⟨rfl, rfl⟩
  | n + 6, h => absurd h (by omega)
theorem type17 (u : Nat) (w : World) (hu : u ≤ 5) : Calls Tryz.prog 139 #[.int .i64 (u : Int)] w fun e w' => e = .returned (.int .i64 (if u ≤ 2 then 0 else 1)) ∧ Below w.heap.size w w' := by
  have hmm := @run_makeMap Tryz.prog
  have H0 := Lib.hid (MapAt.made w Tryz.prog 3)
  have B0 := Lib.hid (ba (a := w) b0 (.map #[] 0))
  obtain ⟨hG, hH⟩ := tget u hu
  have HG := Lib.hid hG
  have HH := Lib.hid hH
  have HW := Lib.hid (wf_i64 (k := (u : Int)) (by unfold InI64; omega))
  generalize (if u ≤ 2 then (0 : Int) else 1) = R at *
  clear hG hH
  go_enter Tryz.func139, Tryz.ntmps139
  go_wp2_with (first |
    (with_reducible show wpList _ _ _ (Oper.mk _ (Op.insert _ _ _ _) _ _ _ _ :: _) _ _; refine wpList_ins_v _ rfl _ _ _ 267 rfl 3 3 key_int Tryz.underlying267 _ _ rfl H0.out (by unfold maxLen; simp) (.int .i64 0) (.int .i64 0) (.int .i64 0) rfl rfl (Maps.keyOf_int_mk Tryz.underlying3 (by decide)) (isKey_int _ _) ?_; intro w1 h1 g1; have H1 := Lib.hid h1; have B1 := Lib.hid (bg B0.out g1 (Nat.le_refl _)); clear h1 g1 H0 B0) |
    (with_reducible show wpList _ _ _ (Oper.mk _ (Op.insert _ _ _ _) _ _ _ _ :: _) _ _; refine wpList_ins_v _ rfl _ _ _ 267 rfl 3 3 key_int Tryz.underlying267 _ _ rfl H1.out (by unfold maxLen; simp) (.int .i64 1) (.int .i64 0) (.int .i64 1) rfl rfl (Maps.keyOf_int_mk Tryz.underlying3 (by decide)) (isKey_int _ _) ?_; intro w2 h2 g2; have H2 := Lib.hid h2; have B2 := Lib.hid (bg B1.out g2 (Nat.le_refl _)); clear h2 g2 H1 B1) |
    (with_reducible show wpList _ _ _ (Oper.mk _ (Op.insert _ _ _ _) _ _ _ _ :: _) _ _; refine wpList_ins_v _ rfl _ _ _ 267 rfl 3 3 key_int Tryz.underlying267 _ _ rfl H2.out (by unfold maxLen; simp) (.int .i64 2) (.int .i64 0) (.int .i64 2) rfl rfl (Maps.keyOf_int_mk Tryz.underlying3 (by decide)) (isKey_int _ _) ?_; intro w3 h3 g3; have H3 := Lib.hid h3; have B3 := Lib.hid (bg B2.out g3 (Nat.le_refl _)); clear h3 g3 H2 B2) |
    (with_reducible show wpList _ _ _ (Oper.mk _ (Op.insert _ _ _ _) _ _ _ _ :: _) _ _; refine wpList_ins_v _ rfl _ _ _ 267 rfl 3 3 key_int Tryz.underlying267 _ _ rfl H3.out (by unfold maxLen; simp) (.int .i64 3) (.int .i64 1) (.int .i64 3) rfl rfl (Maps.keyOf_int_mk Tryz.underlying3 (by decide)) (isKey_int _ _) ?_; intro w4 h4 g4; have H4 := Lib.hid h4; have B4 := Lib.hid (bg B3.out g4 (Nat.le_refl _)); clear h4 g4 H3 B3) |
    (with_reducible show wpList _ _ _ (Oper.mk _ (Op.insert _ _ _ _) _ _ _ _ :: _) _ _; refine wpList_ins_v _ rfl _ _ _ 267 rfl 3 3 key_int Tryz.underlying267 _ _ rfl H4.out (by unfold maxLen; simp) (.int .i64 4) (.int .i64 1) (.int .i64 4) rfl rfl (Maps.keyOf_int_mk Tryz.underlying3 (by decide)) (isKey_int _ _) ?_; intro w5 h5 g5; have H5 := Lib.hid h5; have B5 := Lib.hid (bg B4.out g5 (Nat.le_refl _)); clear h5 g5 H4 B4) |
    (with_reducible show wpList _ _ _ (Oper.mk _ (Op.insert _ _ _ _) _ _ _ _ :: _) _ _; refine wpList_ins_v _ rfl _ _ _ 267 rfl 3 3 key_int Tryz.underlying267 _ _ rfl H5.out (by unfold maxLen; simp) (.int .i64 5) (.int .i64 1) (.int .i64 5) rfl rfl (Maps.keyOf_int_mk Tryz.underlying3 (by decide)) (isKey_int _ _) ?_; intro w6 h6 g6; have H6 := Lib.hid h6; have B6 := Lib.hid (bg B5.out g6 (Nat.le_refl _)); clear h6 g6 H5 B5) |
    (at_lookup; refine wpList_look_ok_v _ rfl _ _ 267 rfl 3 3 key_int Tryz.underlying267 (zero_int _) _ _ rfl H6.out (.int .i64 (u : Int)) (.int .i64 (u : Int)) rfl (Maps.keyOf_int_mk Tryz.underlying3 HW.out) HG.out HH.out ?_))
  go_ret
  exact ⟨rfl, B6.out⟩
end Go.Proofs.YtgidfnhfgiehjaaGreatDoor
end
