/-
  Texts of the proof, joined: Open Open3 PickLaw1 Open4 PlainEntry. Conditions: as each names.
-/
import Derived.Test.YtigbifiicbghpaaDoorBaa
import Derived.ProofKit
import Derived.OpenShut
import Derived.Deep.SlicePairs
import Derived.Test.YtigbifiicbghpaaDoorBam
import Derived.Test.YtigbifiicbghpaaDoorBag
import Derived.Test.YtigbifiicbghpaaDoorBab
import Derived.Test.YtigbifiicbghpaaDoorBan
import Derived.Test.YtigbifiicbghpaaDoorBad
import Derived.Lib.Bytealg

section
/-
  Arguments opened: slices that come in, as lists. Plain theorems, over any program.
-/
namespace Go.PM
open Go.RowKit Go.ChangeShapes Go.WideShapes Go.Deep
section
variable {H : Type} {enc : TypeId × Value → H} {P : Program} {w : World} {spare : Nat → Bool} {held : Bool}
theorem rd_cells {A : Addr} {xs : List Value} (hc : ∀ j u, xs[j]? = some u → w.cell? (A.add j) = some u) : Rd w (some A) xs := by
  cases xs with
  | nil => exact .inl rfl
  | cons x xs =>
    have h0 := hc 0 x rfl
    have hsp := World.cell?_spot h0
    obtain ⟨b, off, spot⟩ := A
    have hs : spot = none := by simpa [Addr.add] using hsp
    subst hs
    have ha : ∀ j, (⟨b, off, none⟩ : Addr).add j = ⟨b, off + j, none⟩ := fun j => by unfold Addr.add; split <;> simp_all
    refine .inr ⟨b, off, rfl, ?_, fun j u hj => by rw [← ha]; exact hc j u hj⟩
    exact World.block_lt_of_cell? w _ (by rw [ha] at h0; exact h0)
theorem getD_take (zs : List Int) (len j : Nat) (h : j < len) (hl : len ≤ zs.length) : (zs.take len)[j]? = some (zs.getD j 0) := by
  rw [List.getElem?_take, if_pos h, List.getElem?_eq_getElem (by omega)]
  simp [List.getD, List.getElem?_eq_getElem (show j < zs.length by omega)]
/-- A slice of integers of one kind. -/
theorem open_sl {t e : TypeId} {k : IntKind} {a : Option Addr} {len cap : Nat} {d : DataW H} {ps : List MemPlace} (ht : P.underlying t = some (.slice e)) (he : P.underlying e = some (.int k)) (hc : P.cellsOf e = 1)
    (h : DataW.Trod enc P w 0 spare held t (.slice a len cap) d ps) :
    ∃ l : List Int, l.length = len ∧ Rd w a (l.map (Value.int k)) ∧ (∀ n ∈ l, (Lit.int k n).wf = true) ∧ len ≤ cap ∧ cap ≤ maxLen := by
  obtain ⟨fuel, hf⟩ := h
  rcases open_ints ht he hc hf with ⟨hcs, _⟩ | ⟨x, l, c, zs, hcs, _, hl, hm, hz, _, hcell, hwz⟩
  · simp [Value.cells] at hcs
    obtain ⟨rfl, rfl, rfl⟩ := hcs
    exact ⟨[], rfl, Rd.nil _ _, by simp, by omega, by unfold maxLen; omega⟩
  · simp [Value.cells] at hcs
    obtain ⟨rfl, rfl, rfl⟩ := hcs
    have hzl : len ≤ zs.length := by rw [hz]; split <;> omega
    refine ⟨zs.take len, by simp; omega, rd_cells fun j u hj => ?_, fun n hn => hwz n (List.mem_of_mem_take hn), hl, hm⟩
    have hj' : j < len := by
      have := (List.getElem?_eq_some_iff.1 hj).1
      simp at this; omega
    rw [List.getElem?_map, getD_take zs len j hj' hzl] at hj
    simp at hj
    rw [hcell j (by omega), ← hj]
    simp
theorem open_u64s {t e : TypeId} {a : Option Addr} {len cap : Nat} {d : DataW H} {ps : List MemPlace} (ht : P.underlying t = some (.slice e)) (he : P.underlying e = some (.int .u64)) (hc : P.cellsOf e = 1)
    (h : DataW.Trod enc P w 0 spare held t (.slice a len cap) d ps) :
    ∃ l : List Nat, l.length = len ∧ Rd w a (u64s l) ∧ (∀ n ∈ l, In64 n) ∧ len ≤ cap ∧ cap ≤ maxLen := by
  obtain ⟨l, h1, h2, h3, h4, h5⟩ := open_sl ht he hc h
  have e : l.map (Value.int .u64) = u64s (l.map Int.toNat) := by
    unfold u64s
    rw [List.map_map]
    apply List.map_congr_left
    intro n hn
    have := bounds_u64 (h3 n hn)
    simp only [Function.comp]
    rw [Int.toNat_of_nonneg this.1]
  refine ⟨l.map Int.toNat, by simp [h1], e ▸ h2, fun n hn => ?_, h4, h5⟩
  obtain ⟨m, hm, rfl⟩ := List.mem_map.1 hn
  have := bounds_u64 (h3 m hm)
  unfold In64
  omega
/-- A slice of structs of two integer fields, a cell each. -/
theorem open_pairs {t e : TypeId} {f0 f1 : Field} {k0 k1 : IntKind} {a : Option Addr} {len cap : Nat} {d : DataW H} {ps : List MemPlace} (ht : P.underlying t = some (.slice e)) (he : P.underlying e = some (.struct #[f0, f1]))
    (ce : P.cellsOf e = 2) (o0 : f0.offset = 0) (o1 : f1.offset = 1) (c0 : P.cellsOf f0.type = 1) (c1 : P.cellsOf f1.type = 1) (t0 : P.underlying f0.type = some (.int k0)) (t1 : P.underlying f1.type = some (.int k1))
    (h : DataW.Trod enc P w 0 spare held t (.slice a len cap) d ps) :
    ∃ l : List (Int × Int), l.length = len ∧ (∀ x ∈ l, (Lit.int k0 x.1).wf = true ∧ (Lit.int k1 x.2).wf = true) ∧ len ≤ cap ∧ cap ≤ maxLen ∧
      (l = [] ∨ ∃ b off, a = some ⟨b, off, none⟩ ∧ b < w.heap.size ∧ ∀ j x, l[j]? = some x → w.cell? ⟨b, off + j * 2, none⟩ = some (.int k0 x.1) ∧ w.cell? ⟨b, off + j * 2 + 1, none⟩ = some (.int k1 x.2)) := by
  obtain ⟨fuel, hf⟩ := h
  rcases open_slice_pairs ht he ce o0 o1 c0 c1 hf with ⟨hcs, _⟩ | ⟨x, ln, c, m, n, V0, V1, D0, D1, P0, P1, hcs, _, hl, hm, hmm, hx, hall⟩
  · simp [Value.cells] at hcs
    obtain ⟨rfl, rfl, rfl⟩ := hcs
    exact ⟨[], rfl, by simp, by omega, by unfold maxLen; omega, .inl rfl⟩
  · simp [Value.cells] at hcs
    obtain ⟨rfl, rfl, rfl⟩ := hcs
    have hlm : len ≤ m := by rw [hmm]; split <;> omega
    have each : ∀ i, i < len → ∃ q : Int × Int, w.cell? (x.add (i * 2)) = some (.int k0 q.1) ∧ w.cell? (x.add (i * 2 + 1)) = some (.int k1 q.2) ∧ (Lit.int k0 q.1).wf = true ∧ (Lit.int k1 q.2).wf = true := by
      intro i hi
      obtain ⟨e0, e1, g0, g1⟩ := hall i (by omega)
      obtain ⟨N0, h1, _, h3⟩ := DataW.trod_int t0 g0
      obtain ⟨N1, h4, _, h6⟩ := DataW.trod_int t1 g1
      simp only [List.cons.injEq, and_true] at h1 h4
      exact ⟨(N0, N1), h1 ▸ e0, h4 ▸ e1, h3, h6⟩
    obtain ⟨q, hq⟩ := choose_lt each
    have hlen : ((List.range len).map q).length = len := by simp
    refine ⟨(List.range len).map q, hlen, ?_, hl, hm, ?_⟩
    · intro y hy
      obtain ⟨i, hi, rfl⟩ := List.mem_map.1 hy
      have := hq i (List.mem_range.1 hi)
      exact ⟨this.2.2.1, this.2.2.2⟩
    · by_cases hz : len = 0
      · subst hz; exact .inl rfl
      · obtain ⟨b, off, spot⟩ := x
        have hs : spot = none := by simpa [Addr.add] using World.cell?_spot (hq 0 (by omega)).1
        subst hs
        have ha : ∀ j, (⟨b, off, none⟩ : Addr).add j = ⟨b, off + j, none⟩ := fun j => by unfold Addr.add; split <;> simp_all
        refine .inr ⟨b, off, rfl, ?_, ?_⟩
        · have := (hq 0 (by omega)).1
          rw [ha] at this
          exact World.block_lt_of_cell? w _ this
        · intro j y hj
          rw [List.getElem?_map] at hj
          have hjl : j < len := by
            by_cases h : j < len
            · exact h
            · rw [List.getElem?_eq_none (by simp; omega)] at hj; simp at hj
          rw [List.getElem?_range hjl] at hj
          simp at hj
          have := hq j hjl
          rw [ha, ha] at this
          rw [← hj]
          exact ⟨this.1, by rw [Nat.add_assoc]; exact this.2.1⟩
end
end Go.PM
end

section
/-
  Arguments opened: slices of structs. Plain theorems, over any program.
-/
namespace Go.PM
open Go.RowKit Go.ChangeShapes Go.WideShapes Go.Deep
section
variable {H : Type} {enc : TypeId × Value → H} {P : Program} {w : World} {spare : Nat → Bool} {held : Bool}
/-- A slice, element by element. -/
theorem open_els {t e : TypeId} {a : Option Addr} {len cap : Nat} {d : DataW H} {ps : List MemPlace} (ht : P.underlying t = some (.slice e)) (hpos : 0 < P.cellsOf e)
    (h : DataW.Trod enc P w 0 spare held t (.slice a len cap) d ps) :
    len ≤ cap ∧ cap ≤ maxLen ∧ (len = 0 ∨ ∃ b off, a = some ⟨b, off, none⟩ ∧ b < w.heap.size ∧ ∀ i, i < len → ∃ (cs : List Value) (D : DataW H) (Pl : List MemPlace) (n : Nat), cs.length = P.cellsOf e ∧
      (∀ j, j < P.cellsOf e → w.cell? ⟨b, off + i * P.cellsOf e + j, none⟩ = cs[j]?) ∧ DataW.trod enc P w 0 spare held n e cs = some (D, Pl)) := by
  obtain ⟨fuel, hf⟩ := h
  rcases open_slice ht hf with ⟨hcs, _⟩ | ⟨x, ln, c, m, n, D, Pl, hcs, _, hl, hm, hmm, _, hall⟩
  · simp [Value.cells] at hcs
    obtain ⟨rfl, rfl, rfl⟩ := hcs
    exact ⟨by omega, by unfold maxLen; omega, .inl rfl⟩
  · simp [Value.cells] at hcs
    obtain ⟨rfl, rfl, rfl⟩ := hcs
    have hlm : len ≤ m := by rw [hmm]; split <;> omega
    refine ⟨hl, hm, ?_⟩
    by_cases hz : len = 0
    · exact .inl hz
    right
    obtain ⟨b, off, spot⟩ := x
    have hs : spot = none := by
      obtain ⟨cs, h1, _⟩ := hall 0 (by omega)
      obtain ⟨_, hlen, hcell⟩ := World.cells?_some h1
      have h0 := hcell 0 hpos
      rw [List.getElem?_eq_getElem (by omega)] at h0
      simpa [Addr.add] using World.cell?_spot h0
    subst hs
    have ha : ∀ j, (⟨b, off, none⟩ : Addr).add j = ⟨b, off + j, none⟩ := fun j => by unfold Addr.add; split <;> simp_all
    have hb' : ∀ q j, (⟨b, q, none⟩ : Addr).add j = ⟨b, q + j, none⟩ := fun q j => by unfold Addr.add; split <;> simp_all
    have each : ∀ i, i < len → ∃ (cs : List Value) (D : DataW H) (Pl : List MemPlace) (n : Nat), cs.length = P.cellsOf e ∧
      (∀ j, j < P.cellsOf e → w.cell? ⟨b, off + i * P.cellsOf e + j, none⟩ = cs[j]?) ∧ DataW.trod enc P w 0 spare held n e cs = some (D, Pl) := fun i hi => by
      obtain ⟨cs, h1, h2⟩ := hall i (by omega)
      obtain ⟨_, hlen, hcell⟩ := World.cells?_some h1
      refine ⟨cs, _, _, _, hlen, fun j hj => ?_, h2⟩
      have := hcell j hj
      rwa [ha, hb'] at this
    refine ⟨b, off, rfl, ?_, each⟩
    obtain ⟨cs, _, _, _, hlen, hcell, _⟩ := each 0 (by omega)
    have h0 := hcell 0 hpos
    rw [List.getElem?_eq_getElem (by omega)] at h0
    exact World.block_lt_of_cell? w _ h0
/-- A struct of five fields of a cell each, at its cells. -/
theorem struct5 {e : TypeId} {f0 f1 f2 f3 f4 : Field} {cs : List Value} {D : DataW H} {Pl : List MemPlace} {n : Nat} (he : P.underlying e = some (.struct #[f0, f1, f2, f3, f4])) (ce : P.cellsOf e = 5)
    (o : f0.offset = 0 ∧ f1.offset = 1 ∧ f2.offset = 2 ∧ f3.offset = 3 ∧ f4.offset = 4) (c : P.cellsOf f0.type = 1 ∧ P.cellsOf f1.type = 1 ∧ P.cellsOf f2.type = 1 ∧ P.cellsOf f3.type = 1 ∧ P.cellsOf f4.type = 1)
    (h : DataW.trod enc P w 0 spare held n e cs = some (D, Pl)) :
    ∃ (v0 v1 v2 v3 v4 : Value) (k : Nat) (y0 y1 y2 y3 y4 : DataW H × List MemPlace), cs = [v0, v1, v2, v3, v4] ∧ DataW.trod enc P w 0 spare held k f0.type [v0] = some y0 ∧ DataW.trod enc P w 0 spare held k f1.type [v1] = some y1 ∧
      DataW.trod enc P w 0 spare held k f2.type [v2] = some y2 ∧ DataW.trod enc P w 0 spare held k f3.type [v3] = some y3 ∧ DataW.trod enc P w 0 spare held k f4.type [v4] = some y4 := by
  obtain ⟨o0, o1, o2, o3, o4⟩ := o
  obtain ⟨c0, c1, c2, c3, c4⟩ := c
  obtain ⟨xs, k, _, _, hlen, hxl, hf⟩ := DataW.trod_struct he h
  rw [ce] at hlen
  match xs, hxl, cs, hlen with
  | [y0, y1, y2, y3, y4], _, [v0, v1, v2, v3, v4], _ =>
    have g0 := hf 0 f0 rfl
    have g1 := hf 1 f1 rfl
    have g2 := hf 2 f2 rfl
    have g3 := hf 3 f3 rfl
    have g4 := hf 4 f4 rfl
    simp [o0, o1, o2, o3, o4, c0, c1, c2, c3, c4] at g0 g1 g2 g3 g4
    exact ⟨v0, v1, v2, v3, v4, k, y0, y1, y2, y3, y4, rfl, g0, g1, g2, g3, g4⟩
instance : Inhabited One := ⟨⟨0, 0, 0, 0, ByteArray.empty⟩⟩
/-- A slice of 'One's. -/
theorem open_ones {t e : TypeId} {f0 f1 f2 f3 f4 : Field} {a : Option Addr} {len cap : Nat} {d : DataW H} {ps : List MemPlace} (ht : P.underlying t = some (.slice e)) (he : P.underlying e = some (.struct #[f0, f1, f2, f3, f4])) (ce : P.cellsOf e = 5)
    (o : f0.offset = 0 ∧ f1.offset = 1 ∧ f2.offset = 2 ∧ f3.offset = 3 ∧ f4.offset = 4) (c : P.cellsOf f0.type = 1 ∧ P.cellsOf f1.type = 1 ∧ P.cellsOf f2.type = 1 ∧ P.cellsOf f3.type = 1 ∧ P.cellsOf f4.type = 1)
    (t0 : P.underlying f0.type = some (.int .u8)) (t1 : P.underlying f1.type = some (.int .u64)) (t2 : P.underlying f2.type = some (.int .i8)) (t3 : P.underlying f3.type = some (.int .u64)) (t4 : P.underlying f4.type = some .string)
    (h : DataW.Trod enc P w 0 spare held t (.slice a len cap) d ps) :
    ∃ l : List One, l.length = len ∧ OnesRd w.heap.size w a l ∧ (∀ x ∈ l, x.ok) ∧ len ≤ cap ∧ cap ≤ maxLen := by
  obtain ⟨hl, hm, hor⟩ := open_els ht (by rw [ce]; decide) h
  rcases hor with rfl | ⟨b, off, rfl, hb, hall⟩
  · exact ⟨[], rfl, .inl rfl, by simp, hl, hm⟩
  rw [ce] at hall
  have each : ∀ i, i < len → ∃ x : One, x.ok ∧ w.cell? ⟨b, off + i * 5, none⟩ = some (.int .u8 (x.deep : Int)) ∧ w.cell? ⟨b, off + i * 5 + 1, none⟩ = some (.int .u64 (x.tag : Int)) ∧ w.cell? ⟨b, off + i * 5 + 2, none⟩ = some (.int .i8 x.ty) ∧
      w.cell? ⟨b, off + i * 5 + 3, none⟩ = some (.int .u64 (x.num : Int)) ∧ w.cell? ⟨b, off + i * 5 + 4, none⟩ = some (.string x.text) := by
    intro i hi
    obtain ⟨cs, D, Pl, n, hlen, hcell, htr⟩ := hall i hi
    obtain ⟨v0, v1, v2, v3, v4, k, y0, y1, y2, y3, y4, rfl, g0, g1, g2, g3, g4⟩ := struct5 he ce o c htr
    obtain ⟨N0, h0, _, q0⟩ := DataW.trod_int t0 g0
    obtain ⟨N1, h1, _, q1⟩ := DataW.trod_int t1 g1
    obtain ⟨N2, h2, _, q2⟩ := DataW.trod_int t2 g2
    obtain ⟨N3, h3, _, q3⟩ := DataW.trod_int t3 g3
    obtain ⟨s, h4, _, q4⟩ := DataW.trod_string t4 g4
    simp only [List.cons.injEq, and_true] at h0 h1 h2 h3 h4
    subst h0 h1 h2 h3 h4
    have b0 := bounds_u8 q0
    have b1 := bounds_u64 q1
    have b2 := bounds_i8 q2
    have b3 := bounds_u64 q3
    obtain ⟨n0, rfl⟩ := Int.eq_ofNat_of_zero_le b0.1
    obtain ⟨n1, rfl⟩ := Int.eq_ofNat_of_zero_le b1.1
    obtain ⟨n3, rfl⟩ := Int.eq_ofNat_of_zero_le b3.1
    refine ⟨⟨n0, n1, N2, n3, s⟩, ⟨by show n0 < 256; omega, by show n1 < _; omega, b2, by show n3 < _; omega, by unfold maxLen at q4; exact q4⟩, ?_, ?_, ?_, ?_, ?_⟩
    · exact hcell 0 (by omega)
    · exact hcell 1 (by omega)
    · exact hcell 2 (by omega)
    · exact hcell 3 (by omega)
    · exact hcell 4 (by omega)
  obtain ⟨q, hq⟩ := choose_lt each
  refine ⟨(List.range len).map q, by simp, .inr ⟨b, off, rfl, hb, Nat.le_refl _, fun j x hj => ?_⟩, fun x hx => ?_, hl, hm⟩
  · rw [List.getElem?_map] at hj
    have hjl : j < len := by
      by_cases h : j < len
      · exact h
      · rw [List.getElem?_eq_none (by simp; omega)] at hj; simp at hj
    rw [List.getElem?_range hjl] at hj
    simp at hj
    have := hq j hjl
    rw [← hj]
    exact this.2
  · obtain ⟨i, hi, rfl⟩ := List.mem_map.1 hx
    exact (hq i (List.mem_range.1 hi)).1
end
end Go.PM
end

section
/-
  The walk of the statement of layer 10 that any lists are brought together as the document says. Conditions: numbers within their kinds; Go's tables of UTF-8 lie in memory.
-/
namespace Go.Proofs.YtigbifiicbghpaaDoor
open Go.RowKit Go.PM
set_option maxRecDepth 100000
set_option maxHeartbeats 2000000
attribute [local go_sem ↓] Go.wp_at_zero Go.wp_at_succ

/-- A slice of lists of 'One's. -/
def OnesLs (H : Nat) (w : World) (A : Option Addr) (ls : List (List One)) : Prop :=
  ls = [] ∨ ∃ b o, A = some ⟨b, o, none⟩ ∧ b < H ∧ ∀ j (h : j < ls.length), ∃ A' c', w.cell? ⟨b, o + j, none⟩ = some (.slice A' ls[j].length c') ∧ OnesRd H w A' ls[j] ∧ ls[j].length ≤ c' ∧ c' ≤ 9223372036854775807 ∧ ∀ x ∈ ls[j], x.ok
theorem OnesLs.at_ {w x : World} {A : Option Addr} {ls : List (List One)} (h : OnesLs w.heap.size w A ls) (hx : Below w.heap.size w x) (k : Nat) (hk : k < ls.length) :
    ∃ b o A' c', A = some ⟨b, o, none⟩ ∧ b < x.heap.size ∧ x.cell? ⟨b, o + k, none⟩ = some (.slice A' ls[k].length c') ∧ OnesRd w.heap.size w A' ls[k] ∧ ls[k].length ≤ c' ∧ c' ≤ 9223372036854775807 ∧ ∀ y ∈ ls[k], y.ok := by
  rcases h with rfl | ⟨b, o, rfl, hb, hall⟩
  · simp at hk
  · obtain ⟨A', c', h1, h2, h3, h4, h5⟩ := hall k hk
    exact ⟨b, o, A', c', rfl, Nat.lt_of_lt_of_le hb hx.size, (World.cell?_of_block (a := ⟨b, o + k, none⟩) (hx.block b hb)).trans h1, h2, h3, h4, h5⟩
theorem info_lsf : (Tryd.prog.info? 28).map (fun i => (i.zero, i.size, i.bytes)) = some (some (.slice none 0 0), 1, 24) := by kernel_rfl
theorem info_lsr : (Tryd.prog.info? 30).map (fun i => (i.zero, i.size, i.bytes)) = some (some (.slice none 0 0), 1, 24) := by kernel_rfl
/-- The lists made so far, and the document's of them. -/
def LdAt (w : World) (fs : List Fs) (vl vd : Value) (wr : World) : Prop :=
  ∃ vs us : List Value, wr.ownsRow w.heap.size 28 1 vl fs.length vs ∧ wr.ownsRow w.heap.size 30 1 vd fs.length us ∧
    LsV wr (fun q => vl.ownBlock ≠ some q ∧ vd.ownBlock ≠ some q) vs fs ∧ LsV wr (fun q => vl.ownBlock ≠ some q ∧ vd.ownBlock ≠ some q) us fs ∧ (∀ g, vl.ownBlock = some g → vd.ownBlock ≠ some g) ∧ Below w.heap.size w wr ∧ ∀ f ∈ fs, f.All FKd ∧ f.count ≤ 60
theorem fcat_count60 : ∀ {fs : List Fs}, (∀ f ∈ fs, f.All FKd ∧ f.count ≤ 60) → (fcat fs).count ≤ 60 * fs.length
  | [], _ => Nat.le_refl _
  | f :: r, h => by
    have h1 := (h f (by simp)).2
    have h2 := fcat_count60 (fs := r) fun x hx => h x (by simp [hx])
    rw [fcat, Fs.app_count, List.length_cons]
    omega
theorem fmerge_count (fs : List Fs) : (fmerge fs).1.count ≤ (fcat fs).count := by
  unfold fmerge
  split
  · exact Nat.zero_le _
  · unfold fmrg
    split
    · rw [ofL_count_perm (ksort_perm Fl.tag (fcat fs).toL), ofL_toL]; exact Nat.le_refl _
    · exact Nat.zero_le _
theorem one_slice (A : Option Addr) (n c : Nat) : ∀ u ∈ ([.slice A n c] : List Value), u.oneCell' = true := by
  intro u hu
  simp at hu
  subst hu
  rfl
/-- One list more: first the one row, then the other. -/
theorem ld_step1 {w wr W w5 : World} {fs gs : List Fs} {T1 T2 : TypeId} {vl vd : Value} {vs us : List Value} {g n1 n2 : Nat} {f : Fs} {A : Option Addr} {c : Nat} (hl : wr.ownsRow w.heap.size T1 1 vl n1 vs) (hd : wr.ownsRow w.heap.size T2 1 vd n2 us)
    (hls : LsV wr (fun q => vl.ownBlock ≠ some q ∧ vd.ownBlock ≠ some q) vs fs) (hds : LsV wr (fun q => vl.ownBlock ≠ some q ∧ vd.ownBlock ≠ some q) us gs) (hne : ∀ g, vl.ownBlock = some g → vd.ownBlock ≠ some g) (hb : Below w.heap.size w wr)
    (hW : Below wr.heap.size wr W) (hs : SlV W (wr.heap.size ≤ ·) (.slice A f.len c) f) (hg : W.grownBy w5 vl.ownBlock) (hat : vl.ownBlock = some g ∨ g = W.heap.size) :
    w5.ownsRow w.heap.size T2 1 vd n2 us ∧ LsV w5 (fun q => some g ≠ some q ∧ vd.ownBlock ≠ some q) (vs ++ [.slice A f.len c]) (fs ++ [f]) ∧ LsV w5 (fun q => some g ≠ some q ∧ vd.ownBlock ≠ some q) us gs ∧ (vd.ownBlock ≠ some g) ∧ Below w.heap.size w w5 := by
  have hbl : ∀ q, vl.ownBlock = some q → w.heap.size ≤ q ∧ q < wr.heap.size := fun q hq => hl.lt q hq
  have hbd : ∀ q, vd.ownBlock = some q → w.heap.size ≤ q ∧ q < wr.heap.size := fun q hq => hd.lt q hq
  have htch : Tch (fun q => vl.ownBlock = some q) W w5 := Tch.grown hg fun q hq _ => hq
  have hgn : ∀ q, q < wr.heap.size → vl.ownBlock ≠ some q → some g ≠ some q := fun q hq hn e => by
    injection e with e
    subst e
    rcases hat with h | h
    · exact hn h
    · have := hW.size; omega
  have keep : ∀ {v : Value} {ff : Fs}, SlV wr (fun q => vl.ownBlock ≠ some q ∧ vd.ownBlock ≠ some q) v ff → SlV w5 (fun q => some g ≠ some q ∧ vd.ownBlock ≠ some q) v ff := fun h =>
    ((h.lt.below hW).tch htch fun q hq => hq.1.1).imp fun q hq => ⟨hgn q hq.2 hq.1.1, hq.1.2⟩
  have hs5 : SlV w5 (fun q => some g ≠ some q ∧ vd.ownBlock ≠ some q) (.slice A f.len c) f :=
    (hs.lt.tch htch fun q hq h => by have := (hbl q h).2; have := hq.1; omega).imp fun q hq => by
      refine ⟨fun e => ?_, fun e => by have := (hbd q e).2; have := hq.1; omega⟩
      injection e with e
      subst e
      rcases hat with h | h
      · have := (hbl _ h).2; have := hq.1; omega
      · have := hq.2; omega
  refine ⟨own_tch (own_below hd hW) htch fun q hq h => hne q h hq, (hls.map fun v ff h => keep h).snoc hs5, hds.map fun v ff h => keep h, fun e => ?_, ?_⟩
  · rcases hat with h | h
    · exact hne _ h e
    · have := (hbd _ e).2; have := hW.size; omega
  · exact (bb hb hW).trans (htch.toBelowB (bb hb hW).size fun q hq h => by have := (hbl q h).1; omega)
theorem pmerges_walk (A : Option Addr) (cap : Nat) (ls : List (List One)) (w : World) (hT : Tabs w) (hr : OnesLs w.heap.size w A ls) :
    Calls Tryd.prog 3 #[.slice A ls.length cap] w fun e w' => e = .returned (.bool true) ∧ Below w.heap.size w w' := by
  have HA := Lib.hid (awake10 w hT)
  have HR := Lib.hid hr
  clear hT hr
  by_cases h5 : 5 < ls.length
  · go_enter Tryd.func3, Tryd.ntmps3
    go_wp2_with fail
    refine HA.out.mono ?_
    rintro e w1 ⟨rfl, hb1⟩
    go_wp2
    go_ret
    exact ⟨rfl, hb1⟩
  obtain ⟨i0, hi0, hz0, hz1, hz2⟩ := info_parts info_lsf
  obtain ⟨j0, hj0, hy0, hy1, hy2⟩ := info_parts info_lsr
  go_enter Tryd.func3, Tryd.ntmps3
  go_wp2_with fail
  refine HA.out.mono ?_
  rintro e w1 ⟨rfl, hb1⟩
  have H0 : Hid (LdAt w [] (.slice none 0 0) (.slice none 0 0) w1) := ⟨[], [], World.ownsRow_nil _ _ _ _, World.ownsRow_nil _ _ _ _, trivial, trivial, fun g h => (by cases h), hb1, fun f hf => (by cases hf)⟩
  clear hb1
  go_wp2_with fail
  go_loopg [3, 4, 19] ls.length (fun gk vl vd ki wr => ∃ k : Nat, k ≤ ls.length ∧ ls.length - k ≤ gk ∧ ki = .int .i64 (k : Int) ∧ ∃ fs : List Fs, fs.length = k ∧ Hid (LdAt w fs vl vd wr))
  case atStart => exact ⟨0, Nat.zero_le _, by omega, rfl, [], rfl, H0⟩
  case round =>
    obtain ⟨k, hkl, hgk, rfl, fs, hfk, HM⟩ := hrel
    obtain ⟨vs, us, hol, hod, hls, hds, hne, hb, hall⟩ := HM.out
    by_cases hlt : k < ls.length
    · obtain ⟨b, o, A', c', rfl, hbl, hcell, hrd, hlc, hcm, hok⟩ := HR.out.at_ hb k hlt
      have HRD := Lib.hid hrd
      have HOK := Lib.hid hok
      have HST := Lib.hid (And.intro hol (And.intro hod (And.intro hls (And.intro hds (And.intro hne (And.intro hb hall))))))
      generalize ls[k] = l at *
      clear hrd hok hol hod hls hds hne hall
      have HF := Lib.hid (few_any w.heap.size A' c' l wr (HRD.out.belowB hb) HOK.out (by omega))
      generalize hfa : few l = fa at HF
      have HFA := Lib.hid hfa
      clear hfa
      go_wp2_with fail
      refine HF.out.mono ?_
      rintro e w2 ⟨rfl, hb2⟩
      have HB2 := Lib.hid hb2
      have HBB := Lib.hid hb
      clear hb2 HF hb
      cases fa with
      | false =>
        go_wp2
        go_ret
        exact ⟨rfl, bb HBB.out HB2.out⟩
      | true =>
        obtain ⟨ht3, h60⟩ := few_ok HFA.out
        have HMK := Lib.hid (make_any w.heap.size A' c' l w2 (bb HBB.out HB2.out).size (HRD.out.belowB (bb HBB.out HB2.out)) (fun x hx => ⟨HOK.out x hx, ht3 x hx⟩) h60 hlc hcm)
        clear ht3
        go_wp2_with fail
        refine HMK.out.mono ?_
        rintro e w4 ⟨f, Af, cf, rfl, hfc, hfk2, hfs, hb4⟩
        have hWr : Below wr.heap.size wr w4 := bb HB2.out hb4
        have HSF := Lib.hid (hfs.imp (J := fun q => wr.heap.size ≤ q) fun q hq => Nat.le_trans HB2.out.size hq)
        have HFK := Lib.hid (hfk2.imp (Q := FKd) fun _ _ _ _ h => h.kd)
        have HFC : Hid (f.count ≤ 60) := by show _ ≤ _; omega
        have HWR := Lib.hid hWr
        have HOL4 : Hid ((w4.alloc (.cells #[.slice Af f.len cf] 28)).ownsRow w.heap.size 28 1 u3 k vs) := by
          have := own_below HST.out.1 hWr
          rw [hfk] at this
          exact this.alloc _
        have HX := Lib.hid (one_new w4 (.slice Af f.len cf) 28)
        have hwz := hWr.size
        have hwz0 := HBB.out.size
        clear hfs hfk2 hfc hb4 hWr HMK
        go_wp2_with (at_builtin; go_must (refine wpList_append_lies _ rfl _ _ 24 rfl w.heap.size 28 i0 _ 1 24 Tryd.underlying24 hi0 hz0 hz1 hz2 rfl (by decide) u3 k vs rfl HOL4.out ⟨w4.heap.size, 0, none⟩ 1 1 [.slice Af f.len cf] rfl rfl HX.out (one_slice _ _ _) (by decide) (by unfold maxLen; omega) (by omega) (by simp; omega) (w4.heap.size + 1) (by simp) ?_); intro g3 cap3 w5 hown5 hg5 hat5 hlt5; have HO5 := Lib.hid hown5; have HG5 := Lib.hid hg5; have HAT5 := Lib.hid hat5; clear hown5 hg5 hat5 hlt5)
        have hob : ∀ q, u3.ownBlock = some q → w.heap.size ≤ q ∧ q < wr.heap.size := fun q hq => HST.out.1.lt q hq
        have hsW : SlV (w4.alloc (.cells #[.slice Af f.len cf] 28)) (wr.heap.size ≤ ·) (.slice Af f.len cf) f := HSF.out.below (ba b0 _)
        have hs5 : SlV w5 (fun _ => True) (.slice Af f.len cf) f := (hsW.tch (Tch.grown (S := fun q => u3.ownBlock = some q) HG5.out fun q hq _ => hq) fun q (hq : wr.heap.size ≤ q) h => by have := (hob q h).2; omega).imp fun _ _ => trivial
        have hst := ld_step1 (W := w4.alloc (.cells #[.slice Af f.len cf] 28)) HST.out.1 HST.out.2.1 HST.out.2.2.1 HST.out.2.2.2.1 HST.out.2.2.2.2.1 HST.out.2.2.2.2.2.1 (ba HWR.out _) hsW HG5.out (HAT5.out.imp id fun h => by rw [h]; simp)
        have HS2 := Lib.hid hst
        have HOF := Lib.hid (of_any f.count Af cf f _ w5 (Nat.le_refl _) hs5 (by have := HFC.out; omega))
        clear hob hsW hs5 hst
        refine HOF.out.mono ?_
        rintro e w6 ⟨Ao, co, rfl, hso, hb6⟩
        have HSO := Lib.hid hso
        have HB6 := Lib.hid hb6
        have HOD6 : Hid ((w6.alloc (.cells #[.slice Ao f.len co] 30)).ownsRow w.heap.size 30 1 u4 k us) := by
          have := own_below HS2.out.1 hb6
          rw [hfk] at this
          exact this.alloc _
        have HX6 := Lib.hid (one_new w6 (.slice Ao f.len co) 30)
        have hw6z := hb6.size
        have hw5z := HS2.out.2.2.2.2.size
        clear hso hb6 HOF HX HOL4
        go_wp2_with (at_builtin; go_must (refine wpList_append_lies _ rfl _ _ 25 rfl w.heap.size 30 j0 _ 1 24 Tryd.underlying25 hj0 hy0 hy1 hy2 rfl (by decide) u4 k us rfl HOD6.out ⟨w6.heap.size, 0, none⟩ 1 1 [.slice Ao f.len co] rfl rfl HX6.out (one_slice _ _ _) (by decide) (by unfold maxLen; omega) (by omega) (by simp; omega) (w6.heap.size + 1) (by simp) ?_); intro g4 cap4 w7 hown7 hg7 hat7 hlt7; have HO7 := Lib.hid hown7; have HG7 := Lib.hid hg7; have HAT7 := Lib.hid hat7; clear hown7 hg7 hat7 hlt7)
        go_roundg (ls.length - (k + 1))
        case measure => omega
        case rel =>
          have hsW6 : SlV (w6.alloc (.cells #[.slice Ao f.len co] 30)) (w5.heap.size ≤ ·) (.slice Ao f.len co) f := HSO.out.below (ba b0 _)
          have h2 := ld_step1 (wr := w5) (W := w6.alloc (.cells #[.slice Ao f.len co] 30)) (vl := u4) (vd := .slice (some ⟨g3, 0, none⟩) (k + 1) cap3) HS2.out.1 HO5.out (HS2.out.2.2.1.map fun v ff h => h.imp fun q hq => ⟨hq.2, hq.1⟩) (HS2.out.2.1.map fun v ff h => h.imp fun q hq => ⟨hq.2, hq.1⟩)
            (fun q hq h => by injection h with h; subst h; exact HS2.out.2.2.2.1 hq) HS2.out.2.2.2.2 (ba HB6.out _) hsW6 HG7.out (HAT7.out.imp id fun h => by rw [h]; simp)
          refine ⟨k + 1, by omega, Nat.le_refl _, by go_num, fs ++ [f], by simp [hfk], ?_⟩
          have hln : (fs ++ [f]).length = k + 1 := by simp [hfk]
          show LdAt _ _ _ _ _
          unfold LdAt
          rw [hln]
          refine ⟨vs ++ [.slice Af f.len cf], us ++ [.slice Ao f.len co], h2.1, HO7.out, h2.2.2.1.map fun v ff h => h.imp fun q hq => ⟨hq.2, hq.1⟩, h2.2.1.map fun v ff h => h.imp fun q hq => ⟨hq.2, hq.1⟩, fun q hq h => ?_, h2.2.2.2.2, fun x hx => ?_⟩
          · injection h with h
            subst h
            exact h2.2.2.2.1 hq
          · rcases List.mem_append.1 hx with hx | hx
            · exact HST.out.2.2.2.2.2.2 x hx
            · simp at hx
              subst hx
              exact ⟨HFK.out, HFC.out⟩
    · obtain rfl : k = ls.length := by omega
      have hcl := fcat_count60 hall
      have hcc : (fcat fs).count ≤ 1000000 := by omega
      obtain ⟨A3, c3, rfl, hrl, hnl, _⟩ := PM.Rd.own hol
      obtain ⟨A4, c4, rfl, hrd4, hnd, _⟩ := PM.Rd.own hod
      have HML := Lib.hid (merge_any A3 c3 fs vs _ wr hrl hls (fun f hf => (hall f hf).1) hcc (by omega))
      have HMD : Hid (∀ x : World, Below wr.heap.size wr x → Calls Tryd.prog 12 #[.slice A4 fs.length c4] x (RMergeEnd x (fmerge fs))) := fun x hx => rmerge_any A4 c4 fs us _ x (hrd4.below hx) (hds.below hx) (fun f hf => (hall f hf).1) hcc (by omega)
      have hmc := Nat.le_trans (fmerge_count fs) hcc
      have HMC := Lib.hid hmc
      have HBB := Lib.hid hb
      clear hol hod hls hds hne hb hall hrl hrd4 hcl hcc hmc HM hfk
      generalize fmerge fs = M at *
      obtain ⟨R, C⟩ := M
      simp only at HMC
      go_wp2_with fail
      refine HML.out.mono ?_
      rintro e w2 ⟨Ag, cg, rfl, hsg, hb2⟩
      simp only
      have HSG := Lib.hid hsg
      have HB2 := Lib.hid hb2
      clear hsg hb2 HML
      go_wp2_with fail
      refine (HMD.out _ HB2.out).mono ?_
      rintro e w3 ⟨Ah, ch, rfl, hsh, hb3⟩
      simp only
      have HSH := Lib.hid hsh
      have HB3 := Lib.hid hb3
      have HOF := Lib.hid (of_any R.count Ag cg R _ w3 (Nat.le_refl _) (HSG.out.below hb3) HMC.out)
      clear hsh hb3 HMD
      go_wp2_with fail
      refine HOF.out.mono ?_
      rintro e w5 ⟨Ak, ck, rfl, hsk, hb5⟩
      have hsm := rsame_any8 R.count Ak Ah ck ch R R (fun _ => True) w5 (Nat.le_refl _) (hsk.imp fun _ _ => trivial) ((HSH.out.below hb5).imp fun _ _ => trivial) HMC.out HMC.out
      rw [same_self] at hsm
      have HSM := Lib.hid hsm
      have HB5 := Lib.hid (bb (bb (bb HBB.out HB2.out) HB3.out) hb5)
      clear hsk hb5 hsm HOF
      go_wp2_with fail
      refine HSM.out.mono ?_
      rintro e w6 ⟨rfl, hb6⟩
      have HB6 := Lib.hid (bb HB5.out hb6)
      clear hb6 HSM
      go_wp2_with fail
      go_ret
      exact ⟨rfl, HB6.out⟩
end Go.Proofs.YtigbifiicbghpaaDoor
end

section
/-
  Arguments opened: a slice of slices of structs. Plain theorems, over the program.
-/
namespace Go.Proofs.YtigbifiicbghpaaDoor
open Go.RowKit Go.ChangeShapes Go.WideShapes Go.Deep Go.PM
section
variable {H : Type} {enc : TypeId × Value → H} {P : Program} {w : World} {spare : Nat → Bool} {held : Bool}
theorem open_ones_ls {t e q : TypeId} {f0 f1 f2 f3 f4 : Field} {a : Option Addr} {len cap : Nat} {d : DataW H} {ps : List MemPlace} (ht : P.underlying t = some (.slice e)) (he : P.underlying e = some (.slice q)) (ce : P.cellsOf e = 1)
    (hq : P.underlying q = some (.struct #[f0, f1, f2, f3, f4])) (cq : P.cellsOf q = 5)
    (o : f0.offset = 0 ∧ f1.offset = 1 ∧ f2.offset = 2 ∧ f3.offset = 3 ∧ f4.offset = 4) (c : P.cellsOf f0.type = 1 ∧ P.cellsOf f1.type = 1 ∧ P.cellsOf f2.type = 1 ∧ P.cellsOf f3.type = 1 ∧ P.cellsOf f4.type = 1)
    (t0 : P.underlying f0.type = some (.int .u8)) (t1 : P.underlying f1.type = some (.int .u64)) (t2 : P.underlying f2.type = some (.int .i8)) (t3 : P.underlying f3.type = some (.int .u64)) (t4 : P.underlying f4.type = some .string)
    (h : DataW.Trod enc P w 0 spare held t (.slice a len cap) d ps) :
    ∃ ls : List (List One), ls.length = len ∧ OnesLs w.heap.size w a ls ∧ len ≤ cap ∧ cap ≤ maxLen := by
  obtain ⟨hl, hm, hor⟩ := open_els ht (by rw [ce]; decide) h
  rcases hor with rfl | ⟨b, off, rfl, hb, hall⟩
  · exact ⟨[], rfl, .inl rfl, hl, hm⟩
  rw [ce] at hall
  have each : ∀ i, i < len → ∃ y : List One × Option Addr × Nat, w.cell? ⟨b, off + i, none⟩ = some (.slice y.2.1 y.1.length y.2.2) ∧ OnesRd w.heap.size w y.2.1 y.1 ∧ y.1.length ≤ y.2.2 ∧ y.2.2 ≤ 9223372036854775807 ∧ ∀ x ∈ y.1, x.ok := by
    intro i hi
    obtain ⟨cs, D, Pl, n, hlen, hcell, htr⟩ := hall i hi
    have hc0 := hcell 0 (by omega)
    rcases open_slice he htr with ⟨hcs, _⟩ | ⟨x, ln, c2, m, n', D', Pl', hcs, _⟩
    · subst hcs
      exact ⟨([], none, 0), (by rw [Nat.mul_one] at hc0; exact hc0), .inl rfl, Nat.le_refl _, by simp, by simp⟩
    · subst hcs
      have hT : DataW.Trod enc P w 0 spare held e (.slice (some x) ln c2) D Pl := ⟨n, htr⟩
      obtain ⟨l, rfl, hr, hok, hlc, hcm⟩ := open_ones he hq cq o c t0 t1 t2 t3 t4 hT
      exact ⟨(l, some x, c2), (by rw [Nat.mul_one] at hc0; exact hc0), hr, hlc, by unfold maxLen at hcm; exact hcm, hok⟩
  obtain ⟨q, hq⟩ := choose_lt each
  refine ⟨(List.range len).map fun i => (q i).1, by simp, .inr ⟨b, off, rfl, hb, fun j hj => ?_⟩, hl, hm⟩
  have hjl : j < len := by simpa using hj
  obtain ⟨h1, h2, h3, h4, h5⟩ := hq j hjl
  refine ⟨(q j).2.1, (q j).2.2, ?_⟩
  simp only [List.getElem_map, List.getElem_range]
  exact ⟨h1, h2, h3, h4, h5⟩
end
end Go.Proofs.YtigbifiicbghpaaDoor
end

section
/-
  The plain law of layer 11: the order of texts and of entries; entries as they are written and read. Plain theorems; no condition beside what each names.
-/
namespace Go.PM
open Go.Lib (compareBytes)

theorem u8_tri (a b : UInt8) : a < b ∨ b < a ∨ a = b := by
  rw [UInt8.lt_iff_toNat_lt, UInt8.lt_iff_toNat_lt, ← UInt8.toNat_inj]; omega
theorem u8_asym {a b : UInt8} (h : a < b) : ¬ b < a := by
  rw [UInt8.lt_iff_toNat_lt] at *; omega
theorem u8_irr (a : UInt8) : ¬ a < a := by rw [UInt8.lt_iff_toNat_lt]; omega
theorem u8_trans {a b c : UInt8} (h : a < b) (k : b < c) : a < c := by
  rw [UInt8.lt_iff_toNat_lt] at *; omega
theorem cmpB_self : ∀ a : List UInt8, compareBytes a a = 0
  | [] => rfl
  | x :: r => by rw [compareBytes, if_neg (u8_irr x), if_neg (u8_irr x), cmpB_self r]
theorem cmpB_eq : ∀ a b : List UInt8, compareBytes a b = 0 → a = b
  | [], [], _ => rfl
  | [], _ :: _, h => by simp [compareBytes] at h
  | _ :: _, [], h => by simp [compareBytes] at h
  | x :: r, y :: s, h => by
    rw [compareBytes] at h
    rcases u8_tri x y with k | k | k
    · rw [if_pos k] at h; omega
    · rw [if_neg (u8_asym k), if_pos k] at h; omega
    · subst k
      rw [if_neg (u8_irr x), if_neg (u8_irr x)] at h
      rw [cmpB_eq r s h]
theorem cmpB_iff (a b : List UInt8) : compareBytes a b = 0 ↔ a = b := ⟨cmpB_eq a b, fun h => by rw [h, cmpB_self]⟩
theorem cmpB_neg : ∀ a b : List UInt8, compareBytes b a = - compareBytes a b
  | [], [] => rfl
  | [], _ :: _ => rfl
  | _ :: _, [] => rfl
  | x :: r, y :: s => by
    rw [compareBytes, compareBytes]
    rcases u8_tri x y with k | k | k
    · rw [if_pos k, if_neg (u8_asym k), if_pos k]; rfl
    · rw [if_pos k, if_neg (u8_asym k), if_pos k]
    · subst k
      rw [if_neg (u8_irr x), if_neg (u8_irr x), if_neg (u8_irr x), if_neg (u8_irr x), cmpB_neg r s]
theorem cmpB_range : ∀ a b : List UInt8, compareBytes a b = -1 ∨ compareBytes a b = 0 ∨ compareBytes a b = 1
  | [], [] => by simp [compareBytes]
  | [], _ :: _ => by simp [compareBytes]
  | _ :: _, [] => by simp [compareBytes]
  | x :: r, y :: s => by
    rw [compareBytes]
    have := cmpB_range r s
    split
    · simp
    · split
      · simp
      · exact this
theorem cmpB_trans : ∀ a b c : List UInt8, compareBytes a b < 0 → compareBytes b c < 0 → compareBytes a c < 0
  | [], [], _, h, _ => by simp [compareBytes] at h
  | [], _ :: _, [], _, k => by simp [compareBytes] at k
  | [], _ :: _, _ :: _, _, _ => by simp [compareBytes]
  | _ :: _, [], _, h, _ => by simp [compareBytes] at h
  | _ :: _, _ :: _, [], _, k => by simp [compareBytes] at k
  | x :: r, y :: s, z :: t, h, k => by
    rw [compareBytes] at h k ⊢
    rcases u8_tri x y with xy | xy | xy
    · rcases u8_tri y z with yz | yz | yz
      · rw [if_pos (u8_trans xy yz)]; omega
      · rw [if_neg (u8_asym yz), if_pos yz] at k; omega
      · subst yz; rw [if_pos xy]; omega
    · rw [if_neg (u8_asym xy), if_pos xy] at h; omega
    · subst xy
      rw [if_neg (u8_irr x), if_neg (u8_irr x)] at h
      rcases u8_tri x z with yz | yz | yz
      · rw [if_pos yz]; omega
      · rw [if_neg (u8_asym yz), if_pos yz] at k; omega
      · subst yz
        rw [if_neg (u8_irr x), if_neg (u8_irr x)] at k
        rw [if_neg (u8_irr x), if_neg (u8_irr x)]
        exact cmpB_trans r s t h k
theorem less_cmp : ∀ a b : List UInt8, Op.bytesLess a b = decide (compareBytes a b < 0)
  | [], [] => by simp [Op.bytesLess, compareBytes]
  | _ :: _, [] => by simp [Op.bytesLess, compareBytes]
  | [], _ :: _ => by simp [Op.bytesLess, compareBytes]
  | x :: r, y :: s => by
    rw [Op.bytesLess, compareBytes, less_cmp r s]
    rcases u8_tri x y with k | k | k
    · simp [k]
    · have h1 := u8_asym k
      have h2 : x ≠ y := fun e => by subst e; exact u8_irr x k
      simp [h1, h2, k]
    · subst k
      simp
/-- The order of entries: by keys, then by values. -/
def ecmp (ak av bk bv : List UInt8) : Int := if compareBytes ak bk ≠ 0 then compareBytes ak bk else compareBytes av bv
theorem ecmp_neg (ak av bk bv : List UInt8) : ecmp bk bv ak av = - ecmp ak av bk bv := by
  unfold ecmp
  rw [cmpB_neg ak bk, cmpB_neg av bv]
  by_cases h : compareBytes ak bk = 0
  · simp [h]
  · rw [if_pos (by omega), if_pos h]
theorem ecmp_iff (ak av bk bv : List UInt8) : ecmp ak av bk bv = 0 ↔ ak = bk ∧ av = bv := by
  unfold ecmp
  by_cases h : compareBytes ak bk = 0
  · rw [if_neg (by omega), cmpB_iff]
    have := (cmpB_iff ak bk).1 h
    simp [this]
  · rw [if_pos h]
    have : ak ≠ bk := fun e => h ((cmpB_iff ak bk).2 e)
    simp [h, this]
theorem ecmp_range (ak av bk bv : List UInt8) : ecmp ak av bk bv = -1 ∨ ecmp ak av bk bv = 0 ∨ ecmp ak av bk bv = 1 := by
  unfold ecmp
  split
  · exact cmpB_range _ _
  · exact cmpB_range _ _
theorem ecmp_trans (ak av bk bv ck cv : List UInt8) (h : ecmp ak av bk bv < 0) (k : ecmp bk bv ck cv < 0) : ecmp ak av ck cv < 0 := by
  unfold ecmp at *
  by_cases h1 : compareBytes ak bk = 0
  · have e1 := (cmpB_iff ak bk).1 h1
    subst e1
    rw [if_neg (by omega)] at h
    by_cases h2 : compareBytes ak ck = 0
    · rw [if_neg (by omega)] at k ⊢
      exact cmpB_trans _ _ _ h k
    · rw [if_pos h2] at k ⊢; exact k
  · rw [if_pos h1] at h
    by_cases h2 : compareBytes bk ck = 0
    · have e2 := (cmpB_iff bk ck).1 h2
      subst e2
      rw [if_pos h1]; exact h
    · rw [if_pos h2] at k
      have := cmpB_trans _ _ _ h k
      rw [if_pos (by omega)]; exact this
/-- The document's: a text that is less. -/
def bless : List UInt8 → List UInt8 → Bool
  | [], [] => false
  | [], _ :: _ => true
  | _ :: _, [] => false
  | a :: x, b :: y => if a ≠ b then decide (a.toNat < b.toNat) else bless x y
theorem bless_cmp : ∀ a b : List UInt8, bless a b = decide (compareBytes a b < 0)
  | [], [] => by simp [bless, compareBytes]
  | _ :: _, [] => by simp [bless, compareBytes]
  | [], _ :: _ => by simp [bless, compareBytes]
  | x :: r, y :: s => by
    rw [bless, compareBytes, bless_cmp r s]
    rcases u8_tri x y with k | k | k
    · have h2 : x ≠ y := fun e => by subst e; exact u8_irr x k
      have h3 := UInt8.lt_iff_toNat_lt.1 k
      simp [k, h2, h3]
    · have h1 := u8_asym k
      have h2 : x ≠ y := fun e => by subst e; exact u8_irr x k
      have h3 := UInt8.lt_iff_toNat_lt.1 k
      simp [h1, h2, k]; omega
    · subst k
      simp

/-- An entry as it is written. -/
def eput (k v : List UInt8) : List UInt8 := vput k.length ++ (k ++ (vput v.length ++ v))
/-- A text with its length ahead: the text, how many bytes it takes, the code. -/
def etx (s : List UInt8) : List UInt8 × Nat × Nat :=
  if (vget s).2.2 ≠ 0 then ([], 0, (vget s).2.2) else if s.length - (vget s).2.1 < (vget s).1 then ([], 0, 1) else ((s.drop (vget s).2.1).take (vget s).1, (vget s).2.1 + (vget s).1, 0)
theorem etx_err {s : List UInt8} (h : (etx s).2.2 ≠ 0) : etx s = ([], 0, (etx s).2.2) := by
  unfold etx at *
  split at h
  · rename_i k; rw [if_pos k]
  · rename_i k
    rw [if_neg k]
    split at h
    · rename_i k; rw [if_pos k]
    · exact absurd rfl h
theorem etx_code (s : List UInt8) : (etx s).2.2 ≤ 3 := by
  unfold etx
  have := vget_code s
  split
  · exact this
  · split
    · simp
    · simp
theorem etx_ok {s : List UInt8} (h : (etx s).2.2 = 0) : (etx s).2.1 ≤ s.length ∧ 1 ≤ (etx s).2.1 ∧ s.take (etx s).2.1 = vput (etx s).1.length ++ (etx s).1 ∧ (etx s).1.length < 18446744073709551616 := by
  unfold etx at *
  split at h
  · rename_i k; exact absurd h k
  · rename_i k
    split at h
    · exact absurd h (by simp)
    · rename_i k2
      obtain ⟨h1, h2, h3, h4, h5⟩ := vget_ok (s := s) (by omega)
      rw [if_neg k, if_neg k2]
      simp only
      have hl : ((s.drop (vget s).2.1).take (vget s).1).length = (vget s).1 := by rw [List.length_take, List.length_drop]; omega
      refine ⟨by omega, by omega, ?_, by omega⟩
      rw [hl, h5, List.take_add]
theorem etx_put (k r : List UInt8) (hk : k.length < 18446744073709551616) : etx (vput k.length ++ (k ++ r)) = (k, (vput k.length).length + k.length, 0) := by
  have e := vget_put k.length hk (k ++ r)
  unfold etx
  rw [e]
  simp only
  rw [if_neg (by simp), ← vput_length, if_neg (by simp only [List.length_append]; omega), List.drop_left, List.take_left' rfl]
/-- The entry that a text begins with, if chk lets it be: it, how many bytes it takes, the code. -/
def enx (chk : List UInt8 → List UInt8 → Int) (s : List UInt8) : (List UInt8 × List UInt8) × Nat × Int :=
  if (etx s).2.2 ≠ 0 then (([], []), 0, ((etx s).2.2 : Int))
  else if (etx (s.drop (etx s).2.1)).2.2 ≠ 0 then (([], []), 0, ((etx (s.drop (etx s).2.1)).2.2 : Int))
  else if chk (etx s).1 (etx (s.drop (etx s).2.1)).1 ≠ 0 then (([], []), 0, chk (etx s).1 (etx (s.drop (etx s).2.1)).1)
  else (((etx s).1, (etx (s.drop (etx s).2.1)).1), (etx s).2.1 + (etx (s.drop (etx s).2.1)).2.1, 0)
theorem enx_ok {chk : List UInt8 → List UInt8 → Int} {s : List UInt8} (h : (enx chk s).2.2 = 0) :
    (enx chk s).2.1 ≤ s.length ∧ 1 ≤ (enx chk s).2.1 ∧ s.take (enx chk s).2.1 = eput (enx chk s).1.1 (enx chk s).1.2 ∧ chk (enx chk s).1.1 (enx chk s).1.2 = 0 := by
  unfold enx at *
  split at h
  · rename_i k; simp at h; exact absurd h k
  · rename_i k1
    rw [if_neg k1]
    split at h
    · rename_i k; simp at h; exact absurd h k
    · rename_i k2
      rw [if_neg k2]
      split at h
      · rename_i k; exact absurd h k
      · rename_i k3
        rw [if_neg k3]
        obtain ⟨a1, a2, a3, a4⟩ := etx_ok (s := s) (by omega)
        obtain ⟨b1, b2, b3, b4⟩ := etx_ok (s := s.drop (etx s).2.1) (by omega)
        rw [List.length_drop] at b1
        simp only
        refine ⟨by omega, by omega, ?_, by omega⟩
        rw [List.take_add, a3, b3]
        simp [eput]
theorem enx_err {chk : List UInt8 → List UInt8 → Int} {s : List UInt8} (h : (enx chk s).2.2 ≠ 0) : enx chk s = (([], []), 0, (enx chk s).2.2) := by
  unfold enx at *
  split at h
  · rename_i k; rw [if_pos k]
  · rename_i k; rw [if_neg k]
    split at h
    · rename_i k; rw [if_pos k]
    · rename_i k; rw [if_neg k]
      split at h
      · rename_i k; rw [if_pos k]
      · exact absurd rfl h
theorem eput_length (k v : List UInt8) : (eput k v).length = (vput k.length).length + k.length + ((vput v.length).length + v.length) := by
  simp [eput]; omega
theorem enx_put (chk : List UInt8 → List UInt8 → Int) (k v r : List UInt8) (hk : k.length < 18446744073709551616) (hv : v.length < 18446744073709551616) :
    enx chk (eput k v ++ r) = if chk k v ≠ 0 then (([], []), 0, chk k v) else ((k, v), (eput k v).length, 0) := by
  have e1 : etx (eput k v ++ r) = (k, (vput k.length).length + k.length, 0) := by
    have := etx_put k (vput v.length ++ v ++ r) hk
    simpa [eput] using this
  have e2 : (eput k v ++ r).drop ((vput k.length).length + k.length) = vput v.length ++ (v ++ r) := by
    have : eput k v ++ r = (vput k.length ++ k) ++ (vput v.length ++ (v ++ r)) := by simp [eput]
    rw [this]
    exact List.drop_left' (by simp)
  have e3 := etx_put v r hv
  unfold enx
  rw [e1]
  simp only
  rw [if_neg (by simp), e2, e3]
  simp only
  rw [if_neg (by simp), eput_length]
end Go.PM
end
