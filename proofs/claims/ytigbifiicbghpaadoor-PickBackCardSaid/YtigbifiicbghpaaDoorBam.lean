/-
  Texts of the proof, joined: Open Open3 RPick1 FldLaw3. Conditions: as each names.
-/
import Derived.Test.YtigbifiicbghpaaDoorBaa
import Derived.ProofKit
import Derived.OpenShut
import Derived.Deep.SlicePairs
import Derived.Test.YtigbifiicbghpaaDoorBak
import Derived.Test.YtigbifiicbghpaaDoorBaf
import Derived.Test.YtigbifiicbghpaaDoorBaj
import Derived.Test.YtigbifiicbghpaaDoorBad
import Derived.Test.YtigbifiicbghpaaDoorBae

section
/-
  Arguments opened: slices that come in, as lists. Plain theorems, over any program.
-/
namespace Go.PM
open Go.RowKit Go.ChangeShapes Go.WideShapes Go.Deep
section
variable {H : Type} {enc : TypeId × Value → H} {P : Program} {w : World} {spare : Nat → Bool} {held : Bool}
theorem rd_cells {A : Addr} {xs : List Value} (hc : ∀ j u, xs[j]? = some u → w.cell? (A.add j) = some u) : Rd w (some A) xs := by
  cases xs with
  | nil => exact .inl rfl
  | cons x xs =>
    have h0 := hc 0 x rfl
    have hsp := World.cell?_spot h0
    obtain ⟨b, off, spot⟩ := A
    have hs : spot = none := by simpa [Addr.add] using hsp
    subst hs
    have ha : ∀ j, (⟨b, off, none⟩ : Addr).add j = ⟨b, off + j, none⟩ := fun j => by unfold Addr.add; split <;> simp_all
    refine .inr ⟨b, off, rfl, ?_, fun j u hj => by rw [← ha]; exact hc j u hj⟩
    exact World.block_lt_of_cell? w _ (by rw [ha] at h0; exact h0)
theorem getD_take (zs : List Int) (len j : Nat) (h : j < len) (hl : len ≤ zs.length) : (zs.take len)[j]? = some (zs.getD j 0) := by
  rw [List.getElem?_take, if_pos h, List.getElem?_eq_getElem (by omega)]
  simp [List.getD, List.getElem?_eq_getElem (show j < zs.length by omega)]
/-- A slice of integers of one kind. -/
theorem open_sl {t e : TypeId} {k : IntKind} {a : Option Addr} {len cap : Nat} {d : DataW H} {ps : List MemPlace} (ht : P.underlying t = some (.slice e)) (he : P.underlying e = some (.int k)) (hc : P.cellsOf e = 1)
    (h : DataW.Trod enc P w 0 spare held t (.slice a len cap) d ps) :
    ∃ l : List Int, l.length = len ∧ Rd w a (l.map (Value.int k)) ∧ (∀ n ∈ l, (Lit.int k n).wf = true) ∧ len ≤ cap ∧ cap ≤ maxLen := by
  obtain ⟨fuel, hf⟩ := h
  rcases open_ints ht he hc hf with ⟨hcs, _⟩ | ⟨x, l, c, zs, hcs, _, hl, hm, hz, _, hcell, hwz⟩
  · simp [Value.cells] at hcs
    obtain ⟨rfl, rfl, rfl⟩ := hcs
    exact ⟨[], rfl, Rd.nil _ _, by simp, by omega, by unfold maxLen; omega⟩
  · simp [Value.cells] at hcs
    obtain ⟨rfl, rfl, rfl⟩ := hcs
    have hzl : len ≤ zs.length := by rw [hz]; split <;> omega
    refine ⟨zs.take len, by simp; omega, rd_cells fun j u hj => ?_, fun n hn => hwz n (List.mem_of_mem_take hn), hl, hm⟩
    have hj' : j < len := by
      have := (List.getElem?_eq_some_iff.1 hj).1
      simp at this; omega
    rw [List.getElem?_map, getD_take zs len j hj' hzl] at hj
    simp at hj
    rw [hcell j (by omega), ← hj]
    simp
theorem open_u64s {t e : TypeId} {a : Option Addr} {len cap : Nat} {d : DataW H} {ps : List MemPlace} (ht : P.underlying t = some (.slice e)) (he : P.underlying e = some (.int .u64)) (hc : P.cellsOf e = 1)
    (h : DataW.Trod enc P w 0 spare held t (.slice a len cap) d ps) :
    ∃ l : List Nat, l.length = len ∧ Rd w a (u64s l) ∧ (∀ n ∈ l, In64 n) ∧ len ≤ cap ∧ cap ≤ maxLen := by
  obtain ⟨l, h1, h2, h3, h4, h5⟩ := open_sl ht he hc h
  have e : l.map (Value.int .u64) = u64s (l.map Int.toNat) := by
    unfold u64s
    rw [List.map_map]
    apply List.map_congr_left
    intro n hn
    have := bounds_u64 (h3 n hn)
    simp only [Function.comp]
    rw [Int.toNat_of_nonneg this.1]
  refine ⟨l.map Int.toNat, by simp [h1], e ▸ h2, fun n hn => ?_, h4, h5⟩
  obtain ⟨m, hm, rfl⟩ := List.mem_map.1 hn
  have := bounds_u64 (h3 m hm)
  unfold In64
  omega
/-- A slice of structs of two integer fields, a cell each. -/
theorem open_pairs {t e : TypeId} {f0 f1 : Field} {k0 k1 : IntKind} {a : Option Addr} {len cap : Nat} {d : DataW H} {ps : List MemPlace} (ht : P.underlying t = some (.slice e)) (he : P.underlying e = some (.struct #[f0, f1]))
    (ce : P.cellsOf e = 2) (o0 : f0.offset = 0) (o1 : f1.offset = 1) (c0 : P.cellsOf f0.type = 1) (c1 : P.cellsOf f1.type = 1) (t0 : P.underlying f0.type = some (.int k0)) (t1 : P.underlying f1.type = some (.int k1))
    (h : DataW.Trod enc P w 0 spare held t (.slice a len cap) d ps) :
    ∃ l : List (Int × Int), l.length = len ∧ (∀ x ∈ l, (Lit.int k0 x.1).wf = true ∧ (Lit.int k1 x.2).wf = true) ∧ len ≤ cap ∧ cap ≤ maxLen ∧
      (l = [] ∨ ∃ b off, a = some ⟨b, off, none⟩ ∧ b < w.heap.size ∧ ∀ j x, l[j]? = some x → w.cell? ⟨b, off + j * 2, none⟩ = some (.int k0 x.1) ∧ w.cell? ⟨b, off + j * 2 + 1, none⟩ = some (.int k1 x.2)) := by
  obtain ⟨fuel, hf⟩ := h
  rcases open_slice_pairs ht he ce o0 o1 c0 c1 hf with ⟨hcs, _⟩ | ⟨x, ln, c, m, n, V0, V1, D0, D1, P0, P1, hcs, _, hl, hm, hmm, hx, hall⟩
  · simp [Value.cells] at hcs
    obtain ⟨rfl, rfl, rfl⟩ := hcs
    exact ⟨[], rfl, by simp, by omega, by unfold maxLen; omega, .inl rfl⟩
  · simp [Value.cells] at hcs
    obtain ⟨rfl, rfl, rfl⟩ := hcs
    have hlm : len ≤ m := by rw [hmm]; split <;> omega
    have each : ∀ i, i < len → ∃ q : Int × Int, w.cell? (x.add (i * 2)) = some (.int k0 q.1) ∧ w.cell? (x.add (i * 2 + 1)) = some (.int k1 q.2) ∧ (Lit.int k0 q.1).wf = true ∧ (Lit.int k1 q.2).wf = true := by
      intro i hi
      obtain ⟨e0, e1, g0, g1⟩ := hall i (by omega)
      obtain ⟨N0, h1, _, h3⟩ := DataW.trod_int t0 g0
      obtain ⟨N1, h4, _, h6⟩ := DataW.trod_int t1 g1
      simp only [List.cons.injEq, and_true] at h1 h4
      exact ⟨(N0, N1), h1 ▸ e0, h4 ▸ e1, h3, h6⟩
    obtain ⟨q, hq⟩ := choose_lt each
    have hlen : ((List.range len).map q).length = len := by simp
    refine ⟨(List.range len).map q, hlen, ?_, hl, hm, ?_⟩
    · intro y hy
      obtain ⟨i, hi, rfl⟩ := List.mem_map.1 hy
      have := hq i (List.mem_range.1 hi)
      exact ⟨this.2.2.1, this.2.2.2⟩
    · by_cases hz : len = 0
      · subst hz; exact .inl rfl
      · obtain ⟨b, off, spot⟩ := x
        have hs : spot = none := by simpa [Addr.add] using World.cell?_spot (hq 0 (by omega)).1
        subst hs
        have ha : ∀ j, (⟨b, off, none⟩ : Addr).add j = ⟨b, off + j, none⟩ := fun j => by unfold Addr.add; split <;> simp_all
        refine .inr ⟨b, off, rfl, ?_, ?_⟩
        · have := (hq 0 (by omega)).1
          rw [ha] at this
          exact World.block_lt_of_cell? w _ this
        · intro j y hj
          rw [List.getElem?_map] at hj
          have hjl : j < len := by
            by_cases h : j < len
            · exact h
            · rw [List.getElem?_eq_none (by simp; omega)] at hj; simp at hj
          rw [List.getElem?_range hjl] at hj
          simp at hj
          have := hq j hjl
          rw [ha, ha] at this
          rw [← hj]
          exact ⟨this.1, by rw [Nat.add_assoc]; exact this.2.1⟩
end
end Go.PM
end

section
/-
  Arguments opened: slices of structs. Plain theorems, over any program.
-/
namespace Go.PM
open Go.RowKit Go.ChangeShapes Go.WideShapes Go.Deep
section
variable {H : Type} {enc : TypeId × Value → H} {P : Program} {w : World} {spare : Nat → Bool} {held : Bool}
/-- A slice, element by element. -/
theorem open_els {t e : TypeId} {a : Option Addr} {len cap : Nat} {d : DataW H} {ps : List MemPlace} (ht : P.underlying t = some (.slice e)) (hpos : 0 < P.cellsOf e)
    (h : DataW.Trod enc P w 0 spare held t (.slice a len cap) d ps) :
    len ≤ cap ∧ cap ≤ maxLen ∧ (len = 0 ∨ ∃ b off, a = some ⟨b, off, none⟩ ∧ b < w.heap.size ∧ ∀ i, i < len → ∃ (cs : List Value) (D : DataW H) (Pl : List MemPlace) (n : Nat), cs.length = P.cellsOf e ∧
      (∀ j, j < P.cellsOf e → w.cell? ⟨b, off + i * P.cellsOf e + j, none⟩ = cs[j]?) ∧ DataW.trod enc P w 0 spare held n e cs = some (D, Pl)) := by
  obtain ⟨fuel, hf⟩ := h
  rcases open_slice ht hf with ⟨hcs, _⟩ | ⟨x, ln, c, m, n, D, Pl, hcs, _, hl, hm, hmm, _, hall⟩
  · simp [Value.cells] at hcs
    obtain ⟨rfl, rfl, rfl⟩ := hcs
    exact ⟨by omega, by unfold maxLen; omega, .inl rfl⟩
  · simp [Value.cells] at hcs
    obtain ⟨rfl, rfl, rfl⟩ := hcs
    have hlm : len ≤ m := by rw [hmm]; split <;> omega
    refine ⟨hl, hm, ?_⟩
    by_cases hz : len = 0
    · exact .inl hz
    right
    obtain ⟨b, off, spot⟩ := x
    have hs : spot = none := by
      obtain ⟨cs, h1, _⟩ := hall 0 (by omega)
      obtain ⟨_, hlen, hcell⟩ := World.cells?_some h1
      have h0 := hcell 0 hpos
      rw [List.getElem?_eq_getElem (by omega)] at h0
      simpa [Addr.add] using World.cell?_spot h0
    subst hs
    have ha : ∀ j, (⟨b, off, none⟩ : Addr).add j = ⟨b, off + j, none⟩ := fun j => by unfold Addr.add; split <;> simp_all
    have hb' : ∀ q j, (⟨b, q, none⟩ : Addr).add j = ⟨b, q + j, none⟩ := fun q j => by unfold Addr.add; split <;> simp_all
    have each : ∀ i, i < len → ∃ (cs : List Value) (D : DataW H) (Pl : List MemPlace) (n : Nat), cs.length = P.cellsOf e ∧
      (∀ j, j < P.cellsOf e → w.cell? ⟨b, off + i * P.cellsOf e + j, none⟩ = cs[j]?) ∧ DataW.trod enc P w 0 spare held n e cs = some (D, Pl) := fun i hi => by
      obtain ⟨cs, h1, h2⟩ := hall i (by omega)
      obtain ⟨_, hlen, hcell⟩ := World.cells?_some h1
      refine ⟨cs, _, _, _, hlen, fun j hj => ?_, h2⟩
      have := hcell j hj
      rwa [ha, hb'] at this
    refine ⟨b, off, rfl, ?_, each⟩
    obtain ⟨cs, _, _, _, hlen, hcell, _⟩ := each 0 (by omega)
    have h0 := hcell 0 hpos
    rw [List.getElem?_eq_getElem (by omega)] at h0
    exact World.block_lt_of_cell? w _ h0
/-- A struct of five fields of a cell each, at its cells. -/
theorem struct5 {e : TypeId} {f0 f1 f2 f3 f4 : Field} {cs : List Value} {D : DataW H} {Pl : List MemPlace} {n : Nat} (he : P.underlying e = some (.struct #[f0, f1, f2, f3, f4])) (ce : P.cellsOf e = 5)
    (o : f0.offset = 0 ∧ f1.offset = 1 ∧ f2.offset = 2 ∧ f3.offset = 3 ∧ f4.offset = 4) (c : P.cellsOf f0.type = 1 ∧ P.cellsOf f1.type = 1 ∧ P.cellsOf f2.type = 1 ∧ P.cellsOf f3.type = 1 ∧ P.cellsOf f4.type = 1)
    (h : DataW.trod enc P w 0 spare held n e cs = some (D, Pl)) :
    ∃ (v0 v1 v2 v3 v4 : Value) (k : Nat) (y0 y1 y2 y3 y4 : DataW H × List MemPlace), cs = [v0, v1, v2, v3, v4] ∧ DataW.trod enc P w 0 spare held k f0.type [v0] = some y0 ∧ DataW.trod enc P w 0 spare held k f1.type [v1] = some y1 ∧
      DataW.trod enc P w 0 spare held k f2.type [v2] = some y2 ∧ DataW.trod enc P w 0 spare held k f3.type [v3] = some y3 ∧ DataW.trod enc P w 0 spare held k f4.type [v4] = some y4 := by
  obtain ⟨o0, o1, o2, o3, o4⟩ := o
  obtain ⟨c0, c1, c2, c3, c4⟩ := c
  obtain ⟨xs, k, _, _, hlen, hxl, hf⟩ := DataW.trod_struct he h
  rw [ce] at hlen
  match xs, hxl, cs, hlen with
  | [y0, y1, y2, y3, y4], _, [v0, v1, v2, v3, v4], _ =>
    have g0 := hf 0 f0 rfl
    have g1 := hf 1 f1 rfl
    have g2 := hf 2 f2 rfl
    have g3 := hf 3 f3 rfl
    have g4 := hf 4 f4 rfl
    simp [o0, o1, o2, o3, o4, c0, c1, c2, c3, c4] at g0 g1 g2 g3 g4
    exact ⟨v0, v1, v2, v3, v4, k, y0, y1, y2, y3, y4, rfl, g0, g1, g2, g3, g4⟩
instance : Inhabited One := ⟨⟨0, 0, 0, 0, ByteArray.empty⟩⟩
/-- A slice of 'One's. -/
theorem open_ones {t e : TypeId} {f0 f1 f2 f3 f4 : Field} {a : Option Addr} {len cap : Nat} {d : DataW H} {ps : List MemPlace} (ht : P.underlying t = some (.slice e)) (he : P.underlying e = some (.struct #[f0, f1, f2, f3, f4])) (ce : P.cellsOf e = 5)
    (o : f0.offset = 0 ∧ f1.offset = 1 ∧ f2.offset = 2 ∧ f3.offset = 3 ∧ f4.offset = 4) (c : P.cellsOf f0.type = 1 ∧ P.cellsOf f1.type = 1 ∧ P.cellsOf f2.type = 1 ∧ P.cellsOf f3.type = 1 ∧ P.cellsOf f4.type = 1)
    (t0 : P.underlying f0.type = some (.int .u8)) (t1 : P.underlying f1.type = some (.int .u64)) (t2 : P.underlying f2.type = some (.int .i8)) (t3 : P.underlying f3.type = some (.int .u64)) (t4 : P.underlying f4.type = some .string)
    (h : DataW.Trod enc P w 0 spare held t (.slice a len cap) d ps) :
    ∃ l : List One, l.length = len ∧ OnesRd w.heap.size w a l ∧ (∀ x ∈ l, x.ok) ∧ len ≤ cap ∧ cap ≤ maxLen := by
  obtain ⟨hl, hm, hor⟩ := open_els ht (by rw [ce]; decide) h
  rcases hor with rfl | ⟨b, off, rfl, hb, hall⟩
  · exact ⟨[], rfl, .inl rfl, by simp, hl, hm⟩
  rw [ce] at hall
  have each : ∀ i, i < len → ∃ x : One, x.ok ∧ w.cell? ⟨b, off + i * 5, none⟩ = some (.int .u8 (x.deep : Int)) ∧ w.cell? ⟨b, off + i * 5 + 1, none⟩ = some (.int .u64 (x.tag : Int)) ∧ w.cell? ⟨b, off + i * 5 + 2, none⟩ = some (.int .i8 x.ty) ∧
      w.cell? ⟨b, off + i * 5 + 3, none⟩ = some (.int .u64 (x.num : Int)) ∧ w.cell? ⟨b, off + i * 5 + 4, none⟩ = some (.string x.text) := by
    intro i hi
    obtain ⟨cs, D, Pl, n, hlen, hcell, htr⟩ := hall i hi
    obtain ⟨v0, v1, v2, v3, v4, k, y0, y1, y2, y3, y4, rfl, g0, g1, g2, g3, g4⟩ := struct5 he ce o c htr
    obtain ⟨N0, h0, _, q0⟩ := DataW.trod_int t0 g0
    obtain ⟨N1, h1, _, q1⟩ := DataW.trod_int t1 g1
    obtain ⟨N2, h2, _, q2⟩ := DataW.trod_int t2 g2
    obtain ⟨N3, h3, _, q3⟩ := DataW.trod_int t3 g3
    obtain ⟨s, h4, _, q4⟩ := DataW.trod_string t4 g4
    simp only [List.cons.injEq, and_true] at h0 h1 h2 h3 h4
    subst h0 h1 h2 h3 h4
    have b0 := bounds_u8 q0
    have b1 := bounds_u64 q1
    have b2 := bounds_i8 q2
    have b3 := bounds_u64 q3
    obtain ⟨n0, rfl⟩ := Int.eq_ofNat_of_zero_le b0.1
    obtain ⟨n1, rfl⟩ := Int.eq_ofNat_of_zero_le b1.1
    obtain ⟨n3, rfl⟩ := Int.eq_ofNat_of_zero_le b3.1
    refine ⟨⟨n0, n1, N2, n3, s⟩, ⟨by show n0 < 256; omega, by show n1 < _; omega, b2, by show n3 < _; omega, by unfold maxLen at q4; exact q4⟩, ?_, ?_, ?_, ?_, ?_⟩
    · exact hcell 0 (by omega)
    · exact hcell 1 (by omega)
    · exact hcell 2 (by omega)
    · exact hcell 3 (by omega)
    · exact hcell 4 (by omega)
  obtain ⟨q, hq⟩ := choose_lt each
  refine ⟨(List.range len).map q, by simp, .inr ⟨b, off, rfl, hb, Nat.le_refl _, fun j x hj => ?_⟩, fun x hx => ?_, hl, hm⟩
  · rw [List.getElem?_map] at hj
    have hjl : j < len := by
      by_cases h : j < len
      · exact h
      · rw [List.getElem?_eq_none (by simp; omega)] at hj; simp at hj
    rw [List.getElem?_range hjl] at hj
    simp at hj
    have := hq j hjl
    rw [← hj]
    exact this.2
  · obtain ⟨i, hi, rfl⟩ := List.mem_map.1 hx
    exact (hq i (List.mem_range.1 hi)).1
end
end Go.PM
end

section
/-
  Layer 10: the document's way to bring lists together: how one field is put at its place. Conditions: at most a million fields.
-/
namespace Go.Proofs.YtigbifiicbghpaaDoor
open Go.RowKit Go.PM
set_option maxRecDepth 100000
set_option maxHeartbeats 1000000

theorem own_base {w : World} {base base' n size : Nat} {e : TypeId} {v : Value} {xs : List Value} (h : w.ownsRow base e size v n xs) (hb : base' ≤ base) : w.ownsRow base' e size v n xs := by
  refine ⟨h.1, h.2.imp id ?_⟩
  rintro ⟨g, cap, cur, h1, h2, h3⟩
  exact ⟨g, cap, cur, h1, Nat.le_trans hb h2, h3⟩
theorem take_ofL : ∀ (f : Fs) (k : Nat), f.take k = ofL (f.toL.take k)
  | f, 0 => by cases f <;> rfl
  | .nil, _ + 1 => rfl
  | .cons t y n s i r, k + 1 => by rw [Fs.take, Fs.toL, List.take_succ_cons, ofL, take_ofL r k]
theorem drop_ofL : ∀ (f : Fs) (k : Nat), f.drop k = ofL (f.toL.drop k)
  | f, 0 => by
    rw [List.drop_zero, ofL_toL]
    cases f <;> rfl
  | .nil, _ + 1 => rfl
  | .cons t y n s i r, k + 1 => by rw [Fs.drop, Fs.toL, List.drop_succ_cons, drop_ofL r k]
/-- A row of one field. -/
theorem slv_one2 {x : World} {b : Nat} {T : TypeId} {J : Nat → Prop} {t n : Nat} {y : Int} {s : ByteArray} {i : Fs} {A : Option Addr} {c : Nat} (h : BlkAt x b T #[.int .u64 (t : Int), .int .i64 y, .int .u64 (n : Int), .string s, .slice A i.len c]) (hs : SlV x J (.slice A i.len c) i) (hJ : J b) :
    SlV x J (.slice (some ⟨b, 0, none⟩) 1 1) (.cons t y n s i .nil) := by
  refine ⟨some ⟨b, 0, none⟩, 1, rfl, Nat.le_refl _, .inr ⟨b, 0, rfl, hJ, h.lt, ?_⟩⟩
  obtain ⟨A', c', hv, hc, hor⟩ := hs
  injection hv with h1 h2 h3
  subst h1 h3
  exact ⟨h.cell 0, h.cell 1, h.cell 2, h.cell 3, ⟨A, c, h.cell 4, hc, hor⟩, trivial⟩
theorem rins_run {W1 : World} {I : Nat → Prop} {F : Fs} {a d1 d3 t n : Nat} {y : Int} {s : ByteArray} {i : Fs} {B1 B3 Ai : Option Addr} {ci : Nat}
    (h1 : SlV W1 I (.slice B1 a d1) (F.take a)) (h3 : SlV W1 I (.slice B3 (F.len - a) d3) (F.drop a)) (hi : SlV W1 I (.slice Ai i.len ci) i) (ha : a ≤ F.len) (h60 : F.len ≤ 1000000) :
    ∃ (A2 : Option Addr) (c2 : Nat) (W2 : World), (Builtin.append_ #[30, 30] 30 #[.slice none 0 0, .slice B1 a d1]).run Tryd.prog W1 = .ok (.slice A2 a c2) W2 ∧ Below W1.heap.size W1 W2 ∧
    ∃ (A3 : Option Addr) (c3 : Nat) (W3 : World), (Builtin.append_ #[30, 30] 30 #[.slice A2 a c2, .slice (some ⟨W2.heap.size, 0, none⟩) 1 1]).run Tryd.prog (W2.alloc (.cells #[.int .u64 (t : Int), .int .i64 y, .int .u64 (n : Int), .string s, .slice Ai i.len ci] 51)) = .ok (.slice A3 (a + 1) c3) W3 ∧
    ∃ (A4 : Option Addr) (c4 : Nat) (W4 : World) (xs : List Value), (Builtin.append_ #[30, 30] 30 #[.slice A3 (a + 1) c3, .slice B3 (F.len - a) d3]).run Tryd.prog W3 = .ok (.slice A4 (F.len + 1) c4) W4 ∧
      W4.ownsRow W1.heap.size 51 5 (.slice A4 (F.len + 1) c4) (F.len + 1) xs ∧ Cls W4 (fun q => (Value.slice A4 (F.len + 1) c4).ownBlock ≠ some q) xs (ofL (F.toL.take a ++ ⟨t, y, n, s, i⟩ :: F.toL.drop a)) ∧ Below W1.heap.size W1 W4 := by
  obtain ⟨i0, hi0, hz0, hz1, hz2⟩ := info_parts info_rfield
  have htl := F.take_len a ha
  have hdl := F.drop_len a
  have l1 := h1.lt.imp (J := fun q => q < W1.heap.size) fun q hq => hq.2
  have l3 := h3.lt.imp (J := fun q => q < W1.heap.size) fun q hq => hq.2
  have li := hi.lt.imp (J := fun q => q < W1.heap.size) fun q hq => hq.2
  -- the beginning
  obtain ⟨A2, c2, W2, xs2, hrun2, own2, cls2, gr2, lie2⟩ := fapp_run (P := Tryd.prog) 30 30 51 i0 Tryd.underlying30 hi0 hz0 hz1 hz2
    (w := W1) (base := W1.heap.size) (A := none) (c := 0) (f := .nil) (xs := []) (J := fun q => q < W1.heap.size) (World.ownsRow_nil _ _ _ _) trivial (fun q hq h => by cases h) (by rw [htl]; exact l1) (fun q hq h => by cases h) (by simp only [Fs.len]; omega) (Nat.le_refl _)
  have e2 : (Fs.nil.app (F.take a)).len = a := htl
  rw [e2] at hrun2 own2 lie2
  have hfn : Fs.nil.app (F.take a) = F.take a := rfl
  rw [hfn] at cls2
  rw [show (Fs.nil).len = 0 from rfl, htl] at hrun2
  have hb2 : Below W1.heap.size W1 W2 := below_of_grown gr2
  have hw2 := hb2.size
  -- the field
  have hx2 := BlkAt.made W2 51 #[.int .u64 (t : Int), .int .i64 y, .int .u64 (n : Int), .string s, .slice Ai i.len ci]
  have own2' := own2.alloc (.cells #[.int .u64 (t : Int), .int .i64 y, .int .u64 (n : Int), .string s, .slice Ai i.len ci] 51)
  have cls2' := (cls2.below (ba (a := W2) b0 (.cells #[.int .u64 (t : Int), .int .i64 y, .int .u64 (n : Int), .string s, .slice Ai i.len ci] 51))).imp (J := fun q => q < W1.heap.size) fun q hq => hq.2
  have hb2' : Below W1.heap.size W1 (W2.alloc (.cells #[.int .u64 (t : Int), .int .i64 y, .int .u64 (n : Int), .string s, .slice Ai i.len ci] 51)) := ba hb2 _
  have hsx := slv_one2 (J := fun q => q < W1.heap.size ∨ q = W2.heap.size) hx2 ((li.below hb2').imp fun q hq => .inl hq) (.inr rfl)
  have hob2 : ∀ q, (Value.slice A2 a c2).ownBlock = some q → W1.heap.size ≤ q ∧ q < W2.heap.size := fun q hq => own2.lt q hq
  have e3 : (F.take a).len = a := htl
  have own2'' : (W2.alloc (.cells #[.int .u64 (t : Int), .int .i64 y, .int .u64 (n : Int), .string s, .slice Ai i.len ci] 51)).ownsRow W1.heap.size 51 5 (.slice A2 (F.take a).len c2) (F.take a).len xs2 := by rw [e3]; exact own2'
  obtain ⟨A3, c3, W3, xs3, hrun3, own3, cls3, gr3, lie3⟩ := fapp_run (P := Tryd.prog) 30 30 51 i0 Tryd.underlying30 hi0 hz0 hz1 hz2
    (g := .cons t y n s i .nil) own2'' cls2' (fun q hq h => by rw [e3] at h; have := (hob2 q h).1; omega) hsx (fun q hq h => by rw [e3] at h; have := hob2 q h; rcases hq with hq | hq <;> omega) (by rw [e3]; simp only [Fs.len]; omega) (by rw [World.size_alloc]; omega)
  have e4 : ((F.take a).app (.cons t y n s i .nil)).len = a + 1 := by rw [Fs.app_len, e3]; rfl
  rw [e4] at hrun3 own3 lie3
  rw [e3] at hrun3 gr3 lie3
  have hb3 : Below W1.heap.size W1 W3 := hb2'.trans (Tch.grown (S := fun q => (Value.slice A2 a c2).ownBlock = some q) gr3 (fun q hq _ => hq) |>.toBelowB hb2'.size fun q hq h => by have := (hob2 q h).1; omega)
  have hob3 : ∀ q, (Value.slice A3 (a + 1) c3).ownBlock = some q → W1.heap.size ≤ q ∧ q < W3.heap.size ∧ q ≠ W2.heap.size := fun q hq => by
    have h5 := own3.lt q hq
    refine ⟨h5.1, h5.2, ?_⟩
    rcases lie3 with h6 | h6
    · rw [h6] at hq; have := (hob2 q hq).2; omega
    · rw [h6, World.size_alloc] at hq; injection hq with hq; omega
  have cls3' := cls3.imp (J := fun q => q < W1.heap.size ∨ q = W2.heap.size) fun q hq => by
    rcases hq.1 with h | h
    · exact .inl h
    · exact h
  have own3' : W3.ownsRow W1.heap.size 51 5 (.slice A3 ((F.take a).app (.cons t y n s i .nil)).len c3) ((F.take a).app (.cons t y n s i .nil)).len xs3 := by rw [e4]; exact own3
  have l3' := l3.below hb3
  rw [← hdl] at l3'
  obtain ⟨A4, c4, W4, xs4, hrun4, own4, cls4, gr4, lie4⟩ := fapp_run (P := Tryd.prog) 30 30 51 i0 Tryd.underlying30 hi0 hz0 hz1 hz2
    (g := F.drop a) own3' cls3' (fun q hq h => by rw [e4] at h; have := hob3 q h; rcases hq with hq | hq <;> omega) l3' (fun q hq h => by rw [e4] at h; have := hob3 q h; omega) (by rw [e4, hdl]; omega) hb3.size
  have e5 : (((F.take a).app (.cons t y n s i .nil)).app (F.drop a)).len = F.len + 1 := by rw [Fs.app_len, e4, hdl]; omega
  rw [e5] at hrun4 own4 lie4
  rw [e4] at hrun4 gr4 lie4
  rw [hdl] at hrun4
  refine ⟨A2, c2, W2, hrun2, hb2, A3, c3, W3, hrun3, A4, c4, W4, xs4, hrun4, own4, ?_, ?_⟩
  · have e6 : ((F.take a).app (.cons t y n s i .nil)).app (F.drop a) = ofL (F.toL.take a ++ ⟨t, y, n, s, i⟩ :: F.toL.drop a) := by
      rw [ofL_app, take_ofL, drop_ofL, Fs.app_assoc]
      rfl
    rw [e6] at cls4
    refine cls4.imp fun q hq h => ?_
    rcases lie4 with h6 | h6
    · rw [h6] at h
      have h7 := hob3 q h
      rcases hq.1 with (h8 | h8) | h8 <;> omega
    · rw [h6] at h; injection h with h; have := hq.2; omega
  · exact hb3.trans (Tch.grown (S := fun q => (Value.slice A3 (a + 1) c3).ownBlock = some q) gr4 (fun q hq _ => hq) |>.toBelowB hb3.size fun q hq h => by have := (hob3 q h).1; omega)
/-- How one field is put at its place. -/
def InsAt (W1 : World) (S : List Fl) (L a la d1 d3 t n : Nat) (y : Int) (s : ByteArray) (i : Fs) (B1 B3 Ai : Option Addr) (ci : Nat) : Prop :=
  ∃ (A2 : Option Addr) (c2 : Nat) (W2 : World), (Builtin.append_ #[30, 30] 30 #[.slice none 0 0, .slice B1 a d1]).run Tryd.prog W1 = .ok (.slice A2 a c2) W2 ∧ Below W1.heap.size W1 W2 ∧
    ∃ (A3 : Option Addr) (c3 : Nat) (W3 : World), (Builtin.append_ #[30, 30] 30 #[.slice A2 a c2, .slice (some ⟨W2.heap.size, 0, none⟩) 1 1]).run Tryd.prog (W2.alloc (.cells #[.int .u64 (t : Int), .int .i64 y, .int .u64 (n : Int), .string s, .slice Ai i.len ci] 51)) = .ok (.slice A3 (a + 1) c3) W3 ∧
    ∃ (A4 : Option Addr) (c4 : Nat) (W4 : World) (xs : List Value), (Builtin.append_ #[30, 30] 30 #[.slice A3 (a + 1) c3, .slice B3 la d3]).run Tryd.prog W3 = .ok (.slice A4 (L + 1) c4) W4 ∧
      W4.ownsRow W1.heap.size 51 5 (.slice A4 (L + 1) c4) (L + 1) xs ∧ Cls W4 (fun q => (Value.slice A4 (L + 1) c4).ownBlock ≠ some q) xs (ofL (S.take a ++ ⟨t, y, n, s, i⟩ :: S.drop a)) ∧ Below W1.heap.size W1 W4
theorem ins_at {W1 : World} {I : Nat → Prop} {S : List Fl} {L a la d1 d3 t n : Nat} {y : Int} {s : ByteArray} {i : Fs} {B1 B3 Ai : Option Addr} {ci : Nat} (hL : S.length = L) (hla : la = L - a)
    (h1 : SlV W1 I (.slice B1 a d1) ((ofL S).take a)) (h3 : SlV W1 I (.slice B3 la d3) ((ofL S).drop a)) (hi : SlV W1 I (.slice Ai i.len ci) i) (ha : a ≤ L) (h60 : L ≤ 1000000) :
    InsAt W1 S L a la d1 d3 t n y s i B1 B3 Ai ci := by
  have e : (ofL S).len = L := by rw [ofL_len, hL]
  subst hla
  have := rins_run (t := t) (n := n) (y := y) (s := s) h1 (by rw [e]; exact h3) hi (by rw [e]; exact ha) (by rw [e]; exact h60)
  rw [e, toL_ofL] at this
  exact this
end Go.Proofs.YtigbifiicbghpaaDoor
end

section
/-
  The walk of the statement FieldRests. Conditions: numbers within their kinds; Go's tables of UTF-8 lie in memory.
-/
namespace Go.PM
open Go.RowKit
theorem own_slv2 {w : World} {base : Nat} {e : TypeId} {v : Value} {xs : List Value} {f : Fs} {J : Nat → Prop} (h : w.ownsRow base e 5 v f.len xs) (hc : Cls w J xs f) : ∃ A c, v = .slice A f.len c ∧ SlV w (fun _ => True) (.slice A f.len c) f := by
  rcases h.2 with ⟨rfl, h0⟩ | ⟨g, cap, cur, rfl, hb, hg, hn, _⟩
  · have := Fs.len_zero h0
    subst this
    exact ⟨none, 0, rfl, SlV.nil _ _ _ _⟩
  · refine ⟨some ⟨g, 0, none⟩, cap, rfl, some ⟨g, 0, none⟩, cap, rfl, hn, .inr ⟨g, 0, rfl, trivial, (Array.getElem?_eq_some_iff.1 hg).1, (hc.imp fun _ _ => trivial).at_ fun j u hj => ?_⟩⟩
    have := h.cells (g := g) rfl j u hj
    rwa [add_at, ← Nat.zero_add j] at this
end Go.PM
namespace Go.Proofs.YtigbifiicbghpaaDoor
open Go.RowKit Go.PM
set_option maxRecDepth 100000
set_option maxHeartbeats 4000000
attribute [local go_sem ↓] Go.wp_at_zero Go.wp_at_succ

end Go.Proofs.YtigbifiicbghpaaDoor
end
