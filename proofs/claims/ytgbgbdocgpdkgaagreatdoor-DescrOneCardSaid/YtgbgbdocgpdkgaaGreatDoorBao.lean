/-
  Texts of the proof, joined: Open5. Conditions: as each names.
-/
import Derived.Test.YtgbgbdocgpdkgaaGreatDoorBan
import Derived.Test.YtgbgbdocgpdkgaaGreatDoorBaf

section
/-
  Arguments opened: a slice of entries. Plain theorems, over any program.
-/
namespace Go.Proofs.YtgbgbdocgpdkgaaGreatDoor
open Go.RowKit Go.ChangeShapes Go.WideShapes Go.Deep Go.PM
section
variable {H : Type} {enc : TypeId × Value → H} {P : Program} {w : World} {spare : Nat → Bool} {held : Bool}
theorem weightsAll_mem {e : TypeId} {n : Nat} : ∀ {ds : List (DataW H)} {d : DataW H}, d ∈ ds → n ∈ DataW.weights P e d → n ∈ DataW.weightsAll P e ds
  | [], _, h, _ => by cases h
  | x :: r, d, h, hn => by
    rw [DataW.weightsAll, List.mem_append]
    rcases List.mem_cons.1 h with rfl | h
    · exact .inl hn
    · exact .inr (weightsAll_mem h hn)
theorem open_ents {t e : TypeId} {f0 f1 : Field} {a : Option Addr} {len cap : Nat} {d : DataW H} {ps : List MemPlace} (ht : P.underlying t = some (.slice e)) (he : P.underlying e = some (.struct #[f0, f1])) (ce : P.cellsOf e = 2)
    (o : f0.offset = 0 ∧ f1.offset = 1) (c : P.cellsOf f0.type = 1 ∧ P.cellsOf f1.type = 1) (t0 : P.underlying f0.type = some .string) (t1 : P.underlying f1.type = some .string)
    (h : DataW.Trod enc P w 0 spare held t (.slice a len cap) d ps) (hw : ∀ n ∈ DataW.weights P t d, n ≤ 140737488351232) :
    ∃ l : List Ent, l.length = len ∧ Rd w a (ents l) ∧ ESz l ∧ len ≤ cap ∧ cap ≤ maxLen := by
  obtain ⟨fuel, hf⟩ := h
  obtain ⟨o0, o1⟩ := o
  obtain ⟨c0, c1⟩ := c
  rcases open_slice ht hf with ⟨hcs, _⟩ | ⟨x, ln, c', m, n, D, Pl, hcs, _, hl, hm, hmm, hx, hall⟩
  · simp [Value.cells] at hcs
    obtain ⟨rfl, rfl, rfl⟩ := hcs
    exact ⟨[], rfl, .inl rfl, (fun e he => by cases he), by omega, by unfold maxLen; omega⟩
  · simp [Value.cells] at hcs
    obtain ⟨rfl, rfl, rfl⟩ := hcs
    injection hx with hd _
    have hlm : len ≤ m := by rw [hmm]; split <;> omega
    by_cases hz : len = 0
    · subst hz
      exact ⟨[], rfl, .inl rfl, (fun e he => by cases he), hl, hm⟩
    obtain ⟨b, off, spot⟩ := x
    have hs : spot = none := by
      obtain ⟨cs, h1, _⟩ := hall 0 (by omega)
      obtain ⟨_, hlen, hcell⟩ := World.cells?_some h1
      have h0 := hcell 0 (by rw [ce]; decide)
      rw [List.getElem?_eq_getElem (by omega)] at h0
      simpa [Addr.add] using World.cell?_spot h0
    subst hs
    have ha : ∀ q j, (⟨b, q, none⟩ : Addr).add j = ⟨b, q + j, none⟩ := fun q j => by unfold Addr.add; split <;> simp_all
    have each : ∀ i, i < len → ∃ y : Ent, w.cell? ⟨b, off + i * 2, none⟩ = some (.string (txt y.1)) ∧ w.cell? ⟨b, off + i * 2 + 1, none⟩ = some (.string (txt y.2)) ∧ y.1.length ≤ 140737488351232 ∧ y.2.length ≤ 140737488351232 := by
      intro i hi
      obtain ⟨cs, h1, h2⟩ := hall i (by omega)
      obtain ⟨_, hlen, hcell⟩ := World.cells?_some h1
      rw [ce] at hlen hcell
      obtain ⟨xs, k, _, hxe, _, hxl, hf2⟩ := DataW.trod_struct he h2
      match xs, hxl, cs, hlen with
      | [y0, y1], _, [v0, v1], _ =>
        have g0 := hf2 0 f0 rfl
        have g1 := hf2 1 f1 rfl
        simp [o0, o1, c0, c1] at g0 g1
        obtain ⟨s0, e0, q0, _⟩ := DataW.trod_string t0 g0
        obtain ⟨s1, e1, q1, _⟩ := DataW.trod_string t1 g1
        simp only [List.cons.injEq, and_true] at e0 e1
        subst e0 e1 q0 q1
        have k0 := hcell 0 (by decide)
        have k1 := hcell 1 (by decide)
        rw [ha, ha] at k0 k1
        injection hxe with hxd _
        have hin : ∀ q ∈ DataW.weights P e (D i), q ≤ 140737488351232 := fun q hq => by
          refine hw q ?_
          rw [hd]
          unfold DataW.weights
          rw [ht]
          simp only [List.mem_cons, List.mem_append]
          exact .inr (.inl (weightsAll_mem (List.mem_map.2 ⟨i, List.mem_range.2 hi, rfl⟩) hq))
        rw [hxd] at hin
        have hwe : DataW.weights (H := H) P e (.agg [.lit (.string s0.data.toList), .lit (.string s1.data.toList)]) = [s0.data.toList.length, s1.data.toList.length] := by
          simp [DataW.weights, DataW.weightsEach, he]
        simp only [List.map_cons, List.map_nil] at hin
        rw [hwe] at hin
        exact ⟨(s0.data.toList, s1.data.toList), by rw [txt_of]; simpa using k0, by rw [txt_of]; simpa using k1, hin _ (by simp), hin _ (by simp)⟩
    obtain ⟨q, hq⟩ := choose_lt each
    have hb : b < w.heap.size := World.block_lt_of_cell? w _ (hq 0 (by omega)).1
    have hlq : ((List.range len).map q).length = len := by simp
    refine ⟨(List.range len).map q, hlq, .inr ⟨b, off, rfl, hb, fun j u hj => ?_⟩, fun y hy => ?_, hl, hm⟩
    · have hjl : j < len * 2 := by
        have := (List.getElem?_eq_some_iff.1 hj).1
        rw [ents_len, hlq] at this
        exact this
      obtain ⟨p1, p2⟩ := ents_at ((List.range len).map q) (j / 2) (by rw [hlq]; omega)
      simp only [List.getElem_map, List.getElem_range] at p1 p2
      obtain ⟨r1, r2, _⟩ := hq (j / 2) (by omega)
      by_cases hj2 : j % 2 = 0
      · have e1 : j = j / 2 * 2 := by omega
        rw [e1, p1] at hj
        injection hj with hj
        rw [e1, r1, hj]
      · have e1 : j = j / 2 * 2 + 1 := by omega
        rw [e1, p2] at hj
        injection hj with hj
        rw [e1, ← Nat.add_assoc, r2, hj]
    · obtain ⟨i, hi, rfl⟩ := List.mem_map.1 hy
      exact (hq i (List.mem_range.1 hi)).2.2
end
end Go.Proofs.YtgbgbdocgpdkgaaGreatDoor
end
