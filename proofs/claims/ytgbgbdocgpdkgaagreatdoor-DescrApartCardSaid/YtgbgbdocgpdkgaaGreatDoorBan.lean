/-
  Texts of the proof, joined: Open Open5. Conditions: as each names.
-/
import Derived.Test.YtgbgbdocgpdkgaaGreatDoorBab
import Derived.ProofKit
import Derived.OpenShut
import Derived.Deep.SlicePairs
import Derived.Test.YtgbgbdocgpdkgaaGreatDoorBaf

section
/-
  Arguments opened: slices that come in, as lists. Plain theorems, over any program.
-/
namespace Go.PM
open Go.RowKit Go.ChangeShapes Go.WideShapes Go.Deep
section
variable {H : Type} {enc : TypeId × Value → H} {P : Program} {w : World} {spare : Nat → Bool} {held : Bool}
theorem rd_cells {A : Addr} {xs : List Value} (hc : ∀ j u, xs[j]? = some u → w.cell? (A.add j) = some u) : Rd w (some A) xs := by
  cases xs with
  | nil => exact .inl rfl
  | cons x xs =>
    have h0 := hc 0 x rfl
    have hsp := World.cell?_spot h0
    obtain ⟨b, off, spot⟩ := A
    have hs : spot = none := by simpa [Addr.add] using hsp
    subst hs
    have ha : ∀ j, (⟨b, off, none⟩ : Addr).add j = ⟨b, off + j, none⟩ := fun j => by unfold Addr.add; split <;> simp_all
    refine .inr ⟨b, off, rfl, ?_, fun j u hj => by rw [← ha]; exact hc j u hj⟩
    exact World.block_lt_of_cell? w _ (by rw [ha] at h0; exact h0)
theorem getD_take (zs : List Int) (len j : Nat) (h : j < len) (hl : len ≤ zs.length) : (zs.take len)[j]? = some (zs.getD j 0) := by
  rw [List.getElem?_take, if_pos h, List.getElem?_eq_getElem (by omega)]
  simp [List.getD, List.getElem?_eq_getElem (show j < zs.length by omega)]
/-- A slice of integers of one kind. -/
theorem open_sl {t e : TypeId} {k : IntKind} {a : Option Addr} {len cap : Nat} {d : DataW H} {ps : List MemPlace} (ht : P.underlying t = some (.slice e)) (he : P.underlying e = some (.int k)) (hc : P.cellsOf e = 1)
    (h : DataW.Trod enc P w 0 spare held t (.slice a len cap) d ps) :
    ∃ l : List Int, l.length = len ∧ Rd w a (l.map (Value.int k)) ∧ (∀ n ∈ l, (Lit.int k n).wf = true) ∧ len ≤ cap ∧ cap ≤ maxLen := by
  obtain ⟨fuel, hf⟩ := h
  rcases open_ints ht he hc hf with ⟨hcs, _⟩ | ⟨x, l, c, zs, hcs, _, hl, hm, hz, _, hcell, hwz⟩
  · simp [Value.cells] at hcs
    obtain ⟨rfl, rfl, rfl⟩ := hcs
    exact ⟨[], rfl, Rd.nil _ _, by simp, by omega, by unfold maxLen; omega⟩
  · simp [Value.cells] at hcs
    obtain ⟨rfl, rfl, rfl⟩ := hcs
    have hzl : len ≤ zs.length := by rw [hz]; split <;> omega
    refine ⟨zs.take len, by simp; omega, rd_cells fun j u hj => ?_, fun n hn => hwz n (List.mem_of_mem_take hn), hl, hm⟩
    have hj' : j < len := by
      have := (List.getElem?_eq_some_iff.1 hj).1
      simp at this; omega
    rw [List.getElem?_map, getD_take zs len j hj' hzl] at hj
    simp at hj
    rw [hcell j (by omega), ← hj]
    simp
theorem open_u64s {t e : TypeId} {a : Option Addr} {len cap : Nat} {d : DataW H} {ps : List MemPlace} (ht : P.underlying t = some (.slice e)) (he : P.underlying e = some (.int .u64)) (hc : P.cellsOf e = 1)
    (h : DataW.Trod enc P w 0 spare held t (.slice a len cap) d ps) :
    ∃ l : List Nat, l.length = len ∧ Rd w a (u64s l) ∧ (∀ n ∈ l, In64 n) ∧ len ≤ cap ∧ cap ≤ maxLen := by
  obtain ⟨l, h1, h2, h3, h4, h5⟩ := open_sl ht he hc h
  have e : l.map (Value.int .u64) = u64s (l.map Int.toNat) := by
    unfold u64s
    rw [List.map_map]
    apply List.map_congr_left
    intro n hn
    have := bounds_u64 (h3 n hn)
    simp only [Function.comp]
    rw [Int.toNat_of_nonneg this.1]
  refine ⟨l.map Int.toNat, by simp [h1], e ▸ h2, fun n hn => ?_, h4, h5⟩
  obtain ⟨m, hm, rfl⟩ := List.mem_map.1 hn
  have := bounds_u64 (h3 m hm)
  unfold In64
  omega
/-- A slice of structs of two integer fields, a cell each. -/
theorem open_pairs {t e : TypeId} {f0 f1 : Field} {k0 k1 : IntKind} {a : Option Addr} {len cap : Nat} {d : DataW H} {ps : List MemPlace} (ht : P.underlying t = some (.slice e)) (he : P.underlying e = some (.struct #[f0, f1]))
    (ce : P.cellsOf e = 2) (o0 : f0.offset = 0) (o1 : f1.offset = 1) (c0 : P.cellsOf f0.type = 1) (c1 : P.cellsOf f1.type = 1) (t0 : P.underlying f0.type = some (.int k0)) (t1 : P.underlying f1.type = some (.int k1))
    (h : DataW.Trod enc P w 0 spare held t (.slice a len cap) d ps) :
    ∃ l : List (Int × Int), l.length = len ∧ (∀ x ∈ l, (Lit.int k0 x.1).wf = true ∧ (Lit.int k1 x.2).wf = true) ∧ len ≤ cap ∧ cap ≤ maxLen ∧
      (l = [] ∨ ∃ b off, a = some ⟨b, off, none⟩ ∧ b < w.heap.size ∧ ∀ j x, l[j]? = some x → w.cell? ⟨b, off + j * 2, none⟩ = some (.int k0 x.1) ∧ w.cell? ⟨b, off + j * 2 + 1, none⟩ = some (.int k1 x.2)) := by
  obtain ⟨fuel, hf⟩ := h
  rcases open_slice_pairs ht he ce o0 o1 c0 c1 hf with ⟨hcs, _⟩ | ⟨x, ln, c, m, n, V0, V1, D0, D1, P0, P1, hcs, _, hl, hm, hmm, hx, hall⟩
  · simp [Value.cells] at hcs
    obtain ⟨rfl, rfl, rfl⟩ := hcs
    exact ⟨[], rfl, by simp, by omega, by unfold maxLen; omega, .inl rfl⟩
  · simp [Value.cells] at hcs
    obtain ⟨rfl, rfl, rfl⟩ := hcs
    have hlm : len ≤ m := by rw [hmm]; split <;> omega
    have each : ∀ i, i < len → ∃ q : Int × Int, w.cell? (x.add (i * 2)) = some (.int k0 q.1) ∧ w.cell? (x.add (i * 2 + 1)) = some (.int k1 q.2) ∧ (Lit.int k0 q.1).wf = true ∧ (Lit.int k1 q.2).wf = true := by
      intro i hi
      obtain ⟨e0, e1, g0, g1⟩ := hall i (by omega)
      obtain ⟨N0, h1, _, h3⟩ := DataW.trod_int t0 g0
      obtain ⟨N1, h4, _, h6⟩ := DataW.trod_int t1 g1
      simp only [List.cons.injEq, and_true] at h1 h4
      exact ⟨(N0, N1), h1 ▸ e0, h4 ▸ e1, h3, h6⟩
    obtain ⟨q, hq⟩ := choose_lt each
    have hlen : ((List.range len).map q).length = len := by simp
    refine ⟨(List.range len).map q, hlen, ?_, hl, hm, ?_⟩
    · intro y hy
      obtain ⟨i, hi, rfl⟩ := List.mem_map.1 hy
      have := hq i (List.mem_range.1 hi)
      exact ⟨this.2.2.1, this.2.2.2⟩
    · by_cases hz : len = 0
      · subst hz; exact .inl rfl
      · obtain ⟨b, off, spot⟩ := x
        have hs : spot = none := by simpa [Addr.add] using World.cell?_spot (hq 0 (by omega)).1
        subst hs
        have ha : ∀ j, (⟨b, off, none⟩ : Addr).add j = ⟨b, off + j, none⟩ := fun j => by unfold Addr.add; split <;> simp_all
        refine .inr ⟨b, off, rfl, ?_, ?_⟩
        · have := (hq 0 (by omega)).1
          rw [ha] at this
          exact World.block_lt_of_cell? w _ this
        · intro j y hj
          rw [List.getElem?_map] at hj
          have hjl : j < len := by
            by_cases h : j < len
            · exact h
            · rw [List.getElem?_eq_none (by simp; omega)] at hj; simp at hj
          rw [List.getElem?_range hjl] at hj
          simp at hj
          have := hq j hjl
          rw [ha, ha] at this
          rw [← hj]
          exact ⟨this.1, by rw [Nat.add_assoc]; exact this.2.1⟩
end
end Go.PM
end

section
/-
  Arguments opened: a slice of entries. Plain theorems, over any program.
-/
namespace Go.Proofs.YtgbgbdocgpdkgaaGreatDoor
open Go.RowKit Go.ChangeShapes Go.WideShapes Go.Deep Go.PM
section
variable {H : Type} {enc : TypeId × Value → H} {P : Program} {w : World} {spare : Nat → Bool} {held : Bool}
theorem weightsAll_mem {e : TypeId} {n : Nat} : ∀ {ds : List (DataW H)} {d : DataW H}, d ∈ ds → n ∈ DataW.weights P e d → n ∈ DataW.weightsAll P e ds
  | [], _, h, _ => by cases h
  | x :: r, d, h, hn => by
    rw [DataW.weightsAll, List.mem_append]
    rcases List.mem_cons.1 h with rfl | h
    · exact .inl hn
    · exact .inr (weightsAll_mem h hn)
theorem open_ents {t e : TypeId} {f0 f1 : Field} {a : Option Addr} {len cap : Nat} {d : DataW H} {ps : List MemPlace} (ht : P.underlying t = some (.slice e)) (he : P.underlying e = some (.struct #[f0, f1])) (ce : P.cellsOf e = 2)
    (o : f0.offset = 0 ∧ f1.offset = 1) (c : P.cellsOf f0.type = 1 ∧ P.cellsOf f1.type = 1) (t0 : P.underlying f0.type = some .string) (t1 : P.underlying f1.type = some .string)
    (h : DataW.Trod enc P w 0 spare held t (.slice a len cap) d ps) (hw : ∀ n ∈ DataW.weights P t d, n ≤ 140737488351232) :
    ∃ l : List Ent, l.length = len ∧ Rd w a (ents l) ∧ ESz l ∧ len ≤ cap ∧ cap ≤ maxLen := by
  obtain ⟨fuel, hf⟩ := h
  obtain ⟨o0, o1⟩ := o
  obtain ⟨c0, c1⟩ := c
  rcases open_slice ht hf with ⟨hcs, _⟩ | ⟨x, ln, c', m, n, D, Pl, hcs, _, hl, hm, hmm, hx, hall⟩
  · simp [Value.cells] at hcs
    obtain ⟨rfl, rfl, rfl⟩ := hcs
    exact ⟨[], rfl, .inl rfl, (fun e he => by cases he), by omega, by unfold maxLen; omega⟩
  · simp [Value.cells] at hcs
    obtain ⟨rfl, rfl, rfl⟩ := hcs
    injection hx with hd _
    have hlm : len ≤ m := by rw [hmm]; split <;> omega
    by_cases hz : len = 0
    · subst hz
      exact ⟨[], rfl, .inl rfl, (fun e he => by cases he), hl, hm⟩
    obtain ⟨b, off, spot⟩ := x
    have hs : spot = none := by
      obtain ⟨cs, h1, _⟩ := hall 0 (by omega)
      obtain ⟨_, hlen, hcell⟩ := World.cells?_some h1
      have h0 := hcell 0 (by rw [ce]; decide)
      rw [List.getElem?_eq_getElem (by omega)] at h0
      simpa [Addr.add] using World.cell?_spot h0
    subst hs
    have ha : ∀ q j, (⟨b, q, none⟩ : Addr).add j = ⟨b, q + j, none⟩ := fun q j => by unfold Addr.add; split <;> simp_all
    have each : ∀ i, i < len → ∃ y : Ent, w.cell? ⟨b, off + i * 2, none⟩ = some (.string (txt y.1)) ∧ w.cell? ⟨b, off + i * 2 + 1, none⟩ = some (.string (txt y.2)) ∧ y.1.length ≤ 140737488351232 ∧ y.2.length ≤ 140737488351232 := by
      intro i hi
      obtain ⟨cs, h1, h2⟩ := hall i (by omega)
      obtain ⟨_, hlen, hcell⟩ := World.cells?_some h1
      rw [ce] at hlen hcell
      obtain ⟨xs, k, _, hxe, _, hxl, hf2⟩ := DataW.trod_struct he h2
      match xs, hxl, cs, hlen with
      | [y0, y1], _, [v0, v1], _ =>
        have g0 := hf2 0 f0 rfl
        have g1 := hf2 1 f1 rfl
        simp [o0, o1, c0, c1] at g0 g1
        obtain ⟨s0, e0, q0, _⟩ := DataW.trod_string t0 g0
        obtain ⟨s1, e1, q1, _⟩ := DataW.trod_string t1 g1
        simp only [List.cons.injEq, and_true] at e0 e1
        subst e0 e1 q0 q1
        have k0 := hcell 0 (by decide)
        have k1 := hcell 1 (by decide)
        rw [ha, ha] at k0 k1
        injection hxe with hxd _
        have hin : ∀ q ∈ DataW.weights P e (D i), q ≤ 140737488351232 := fun q hq => by
          refine hw q ?_
          rw [hd]
          unfold DataW.weights
          rw [ht]
          simp only [List.mem_cons, List.mem_append]
          exact .inr (.inl (weightsAll_mem (List.mem_map.2 ⟨i, List.mem_range.2 hi, rfl⟩) hq))
        rw [hxd] at hin
        have hwe : DataW.weights (H := H) P e (.agg [.lit (.string s0.data.toList), .lit (.string s1.data.toList)]) = [s0.data.toList.length, s1.data.toList.length] := by
          simp [DataW.weights, DataW.weightsEach, he]
        simp only [List.map_cons, List.map_nil] at hin
        rw [hwe] at hin
        exact ⟨(s0.data.toList, s1.data.toList), by rw [txt_of]; simpa using k0, by rw [txt_of]; simpa using k1, hin _ (by simp), hin _ (by simp)⟩
    obtain ⟨q, hq⟩ := choose_lt each
    have hb : b < w.heap.size := World.block_lt_of_cell? w _ (hq 0 (by omega)).1
    have hlq : ((List.range len).map q).length = len := by simp
    refine ⟨(List.range len).map q, hlq, .inr ⟨b, off, rfl, hb, fun j u hj => ?_⟩, fun y hy => ?_, hl, hm⟩
    · have hjl : j < len * 2 := by
        have := (List.getElem?_eq_some_iff.1 hj).1
        rw [ents_len, hlq] at this
        exact this
      obtain ⟨p1, p2⟩ := ents_at ((List.range len).map q) (j / 2) (by rw [hlq]; omega)
      simp only [List.getElem_map, List.getElem_range] at p1 p2
      obtain ⟨r1, r2, _⟩ := hq (j / 2) (by omega)
      by_cases hj2 : j % 2 = 0
      · have e1 : j = j / 2 * 2 := by omega
        rw [e1, p1] at hj
        injection hj with hj
        rw [e1, r1, hj]
      · have e1 : j = j / 2 * 2 + 1 := by omega
        rw [e1, p2] at hj
        injection hj with hj
        rw [e1, ← Nat.add_assoc, r2, hj]
    · obtain ⟨i, hi, rfl⟩ := List.mem_map.1 hy
      exact (hq i (List.mem_range.1 hi)).2.2
end
end Go.Proofs.YtgbgbdocgpdkgaaGreatDoor
end
