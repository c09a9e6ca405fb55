/-
  The walk of DeframeCuts. Conditions: texts as they come in.
-/
import Derived.Test.YtlkdoahdcepncaaFeedsLaw
import Derived.Test.YtlkdoahdcepncaaShelf
import Derived.Sort.OwnSortedInts
namespace Go.Proofs.Ytlkdoahdcepncaa
open Go.RowKit Go.PM
set_option maxRecDepth 100000
set_option maxHeartbeats 1000000

def ints (l : List Nat) : List Value := l.map fun n : Nat => .int .i64 (n : Int)
def u16s (l : List Nat) : List Value := l.map fun n : Nat => .int .u16 (n : Int)
theorem ints_one (l : List Nat) : ∀ u ∈ ints l, u.oneCell' = true := by
  intro u hu
  obtain ⟨x, _, rfl⟩ := List.mem_map.1 hu
  rfl
theorem info_int : (Try.prog.info? 3).map (fun i => (i.zero, i.size, i.bytes)) = some (some (.int .i64 0), 1, 8) := by kernel_rfl
/-- Two rows of other types lie in two blocks. -/
theorem own_apart {w : World} {b1 b2 e1 e2 s1 s2 n1 n2 : Nat} {v1 v2 : Value} {x1 x2 : List Value} (h1 : w.ownsRow b1 e1 s1 v1 n1 x1) (h2 : w.ownsRow b2 e2 s2 v2 n2 x2) (he : e1 ≠ e2) : ∀ g, v1.ownBlock = some g → v2.ownBlock ≠ some g := fun g hg hg2 => by
  rcases h1.2 with ⟨rfl, _⟩ | ⟨g1, cap1, cur1, rfl, _, hh1, _⟩
  · cases hg
  rcases h2.2 with ⟨rfl, _⟩ | ⟨g2, cap2, cur2, rfl, _, hh2, _⟩
  · cases hg2
  have e1 : g1 = g := by simpa [Value.ownBlock] using hg
  have e2 : g2 = g := by simpa [Value.ownBlock] using hg2
  subst e1 e2
  exact he (HasT.one ⟨_, _, hh1⟩ ⟨_, _, hh2⟩)
theorem own_ne_blk {w : World} {b1 e1 s1 n1 : Nat} {v1 : Value} {x1 : List Value} (h1 : w.ownsRow b1 e1 s1 v1 n1 x1) {d : Nat} {t : TypeId} {cs : Array Value} (h2 : BlkAt w d t cs) (he : e1 ≠ t) : ∀ g, v1.ownBlock = some g → g ≠ d := fun g hg e => by
  subst e
  rcases h1.2 with ⟨rfl, _⟩ | ⟨g1, cap1, cur1, rfl, _, hh1, _⟩
  · cases hg
  have e1 : g1 = g := by simpa [Value.ownBlock] using hg
  subst e1
  exact he (HasT.one ⟨_, _, hh1⟩ h2.hasT)

/-- The sort of a row of the call's own. -/
theorem sort_own (B : Nat) (v : Value) (l : List Nat) (w : World) (h : w.ownsRow B 3 1 v l.length (ints l)) (hl : l.length ≤ 1000000) :
    Calls Try.prog 72 #[v] w fun e w' => e = .returned (.tuple #[]) ∧ ∃ l' : List Nat, l'.length = l.length ∧ (∀ x ∈ l', x ∈ l) ∧ l'.Pairwise (· ≤ ·) ∧ w'.ownsRow B 3 1 v l'.length (ints l') ∧ w.grownBy w' v.ownBlock := by
  rcases h.2 with ⟨rfl, h0⟩ | ⟨g, cap, cur, rfl, hbase, hb, h1, h2, h3, h4⟩
  · have : l = [] := List.eq_nil_of_length_eq_zero h0
    subst this
    exact (Try.slices_Sort_int_none none 0 w).mono fun e w' ⟨he, hw⟩ => ⟨he, [], rfl, by simp, .nil, hw ▸ h, hw ▸ grown_refl _ _⟩
  · have hz : (l.map fun n : Nat => (n : Int)).length = l.length := List.length_map _
    have hm : ints l = (l.map fun n : Nat => (n : Int)).map (Value.int .i64) := by unfold ints; rw [List.map_map]; rfl
    have hgl : g < w.heap.size := (Array.getElem?_eq_some_iff.1 hb).1
    have hc := Try.slices_Sort_int g 0 cap (l.map fun n : Nat => (n : Int)) w (holds_of_blockI hb (by rw [hz, ← hm]; simpa using h4)) hgl (by rw [hz]; omega)
    rw [hz] at hc
    refine hc.mono fun e w' ⟨he, n, os, hw⟩ => ⟨he, ?_⟩
    have hmem : ∀ x ∈ ((l.map fun n : Nat => (n : Int)).mergeSort fun x y => decide (x ≤ y)), ∃ k ∈ l, x = (k : Int) := fun x hx => by
      rw [List.mem_mergeSort] at hx
      obtain ⟨k, hk, rfl⟩ := List.mem_map.1 hx
      exact ⟨k, hk, rfl⟩
    have hpw := List.pairwise_mergeSort (le := fun x y : Int => decide (x ≤ y)) (fun a b c h1 h2 => by simp only [decide_eq_true_eq] at *; omega) (fun a b => by simp only [Bool.or_eq_true, decide_eq_true_eq]; omega) (l.map fun n : Nat => (n : Int))
    have hlen : ((l.map fun n : Nat => (n : Int)).mergeSort fun x y => decide (x ≤ y)).length = l.length := by rw [List.length_mergeSort, hz]
    generalize ((l.map fun n : Nat => (n : Int)).mergeSort fun x y => decide (x ≤ y)) = ss at *
    have hss : ss.map (Value.int .i64) = ints (ss.map Int.toNat) := by
      unfold ints
      rw [List.map_map]
      apply List.map_congr_left
      intro x hx
      obtain ⟨k, _, rfl⟩ := hmem x hx
      simp
    refine ⟨ss.map Int.toNat, by rw [List.length_map, hlen], fun x hx => ?_, ?_, ?_, ?_⟩
    · obtain ⟨y, hy, rfl⟩ := List.mem_map.1 hx
      obtain ⟨k, hk, rfl⟩ := hmem y hy
      simpa using hk
    · rw [List.pairwise_map]
      exact hpw.imp fun h => by simp only [decide_eq_true_eq] at h; omega
    · rw [List.length_map, ← hss, hw]
      have := ownsRow_sortedI (w := w) (n := n) (os := os) (ss := l.map fun n : Nat => (n : Int)) (ts := ss) (by rw [hz, hlen]) hbase hb (by rw [hz]; exact h1) h2 h3
      rw [hz] at this
      rw [hlen]
      exact this
    · rw [hw]
      exact grownBy_sortedI _

/-- A text, cut at the first k places of Z. -/
structure Cutt (s : List UInt8) (Z : List Nat) (k F : Nat) (pcs : List ByteArray) : Prop where
  len : pcs.length = k
  fl : flat pcs = s.take F
  le : F ≤ s.length
  nx : ∀ j (h : j < Z.length), k ≤ j → F ≤ Z[j]
  fin : k = Z.length → F = s.length
theorem Cutt.start (s : List UInt8) (Z : List Nat) (h : 0 < Z.length) : Cutt s Z 0 0 [] := ⟨rfl, rfl, by omega, fun _ _ _ => by omega, fun e => by omega⟩
theorem Cutt.step {s : ByteArray} {Z : List Nat} {k F : Nat} {pcs : List ByteArray} (h : Cutt s.data.toList Z k F pcs) (hk : k < Z.length) (hz : ∀ x ∈ Z, x ≤ s.size) (hp : Z.Pairwise (· ≤ ·)) (hl : ∀ h : Z.length - 1 < Z.length, Z[Z.length - 1] = s.size) :
    Cutt s.data.toList Z (k + 1) Z[k] (pcs ++ [s.extract F Z[k]]) := by
  have hle := hz Z[k] (List.getElem_mem hk)
  have hF := h.nx k hk (Nat.le_refl _)
  refine ⟨by simp [h.len], ?_, by rw [len_list]; exact hle, fun j hj hkj => ?_, fun e => ?_⟩
  · have h1 : flat (pcs ++ [s.extract F Z[k]]) = flat pcs ++ (s.extract F Z[k]).data.toList := by simp [flat]
    rw [h1, h.fl, ext_list]
    have h2 := List.take_add (l := s.data.toList) (i := F) (j := Z[k] - F)
    rw [show F + (Z[k] - F) = Z[k] by omega] at h2
    exact h2.symm
  · exact List.pairwise_iff_getElem.1 hp k j hk hj (by omega)
  · have : Z[k] = s.size := by
      have e1 : k = Z.length - 1 := by omega
      subst e1
      exact hl hk
    rw [this, len_list]
end Go.Proofs.Ytlkdoahdcepncaa
