/-
  Contracts of layer 1 (cursor): what each method answers, and what becomes of the cursor. Conditions: the cursor's block is known, its place lies within its text.
-/
import Derived.Test.YtmlijflappjfoaaDoorProg
import Derived.Test.YtmlijflappjfoaaDoorMem
import Derived.WalkSpells
import Derived.WalkLawsBesides
import Derived.Deep.QuietTactic
import Derived.BigQuiet
import Derived.Lib.Hide
namespace Go.Proofs.YtmlijflappjfoaaDoor
open Go.RowKit Go.PM

/-- A cursor's block: its text, its place. -/
def Cur (w : World) (b : Nat) (s : ByteArray) (k : Nat) : Prop := BlkAt w b 107 #[.string s, .int .i64 (k : Int)] ∧ k ≤ s.size ∧ s.size ≤ 9223372036854775807

theorem cur_over (s : ByteArray) (w : World) :
    Calls Tryd.prog 61 #[.string s] w fun e w' => e = .returned (.pointer (some ⟨w.heap.size, 0, none⟩)) ∧ w' = w.alloc (.cells #[.string s, .int .i64 0] 107) := by
  go_enter Tryd.func61, Tryd.ntmps61
  go_wp2
  go_ret
  exact ⟨rfl, rfl⟩

theorem cur_left (b : Nat) (s : ByteArray) (k : Nat) (w : World) (h : Cur w b s k) :
    Calls Tryd.prog 74 #[.pointer (some ⟨b, 0, none⟩)] w fun e w' => e = .returned (.int .i64 ((s.size : Int) - (k : Int))) ∧ Below w.heap.size w w' := by
  obtain ⟨hb, hk, hs⟩ := h
  have c0 : w.cell? ⟨b, 0, none⟩ = some (.string s) := hb.cell 0
  have c1 : w.cell? ⟨b, 1, none⟩ = some (.int .i64 (k : Int)) := hb.cell 1
  clear hb
  go_enter Tryd.func74, Tryd.ntmps74
  go_wp2
  go_quiet (fail)
  go_wp2
  go_ret
  exact ⟨rfl, below_drewN (Below.refl _ _) _⟩

theorem cur_at (b : Nat) (s : ByteArray) (k : Nat) (w : World) (h : Cur w b s k) :
    Calls Tryd.prog 65 #[.pointer (some ⟨b, 0, none⟩)] w fun e w' => e = .returned (.int .i64 (k : Int)) ∧ Below w.heap.size w w' := by
  obtain ⟨hb, hk, hs⟩ := h
  have c1 : w.cell? ⟨b, 1, none⟩ = some (.int .i64 (k : Int)) := hb.cell 1
  clear hb
  go_enter Tryd.func65, Tryd.ntmps65
  go_wp2
  go_ret
  exact ⟨rfl, Below.refl _ _⟩

theorem cur_rest (b : Nat) (s : ByteArray) (k : Nat) (w : World) (h : Cur w b s k) :
    Calls Tryd.prog 85 #[.pointer (some ⟨b, 0, none⟩)] w fun e w' => e = .returned (.string (s.extract k s.size)) ∧ Below w.heap.size w w' := by
  obtain ⟨hb, hk, hs⟩ := h
  have c0 : w.cell? ⟨b, 0, none⟩ = some (.string s) := hb.cell 0
  have c1 : w.cell? ⟨b, 1, none⟩ = some (.int .i64 (k : Int)) := hb.cell 1
  clear hb
  go_enter Tryd.func85, Tryd.ntmps85
  go_wp2
  go_quiet (fail)
  go_wp2
  go_ret
  exact ⟨rfl, below_drewN (Below.refl _ _) _⟩

theorem cur_take_no (b : Nat) (s : ByteArray) (k : Nat) (n : Int) (w : World) (h : Cur w b s k) (h0 : (s.size : Int) - k < n) (h1 : n < 18446744073709551616) :
    Calls Tryd.prog 86 #[.pointer (some ⟨b, 0, none⟩), .int .u64 n] w fun e w' => e = .returned (.tuple #[.string ByteArray.empty, .bool false]) ∧ Below w.heap.size w w' := by
  have H := Lib.hid h
  obtain ⟨hb, hk, hs⟩ := h
  clear hb
  go_enter Tryd.func86, Tryd.ntmps86
  go_wp2_with (go_at_call 74; refine (cur_left b s k _ H.out).mono ?_; rintro e w1 ⟨rfl, hb1⟩)
  go_ret2
  exact ⟨rfl, hb1⟩

theorem cur_take_yes (b : Nat) (s : ByteArray) (k : Nat) (n : Int) (w : World) (h : Cur w b s k) (h0 : 0 ≤ n) (h1 : n ≤ (s.size : Int) - k) :
    Calls Tryd.prog 86 #[.pointer (some ⟨b, 0, none⟩), .int .u64 n] w fun e w' =>
      e = .returned (.tuple #[.string (s.extract k (k + n.toNat)), .bool true]) ∧ Cur w' b s (k + n.toNat) ∧ w.grownBy w' (some b) := by
  have H := Lib.hid h
  obtain ⟨hb, hk, hs⟩ := h
  have HB := Lib.hid hb
  obtain ⟨m, rfl⟩ := Int.eq_ofNat_of_zero_le h0
  rw [Int.toNat_natCast]
  clear hb
  go_enter Tryd.func86, Tryd.ntmps86
  go_wp2_with (go_at_call 74; refine (cur_left b s k _ H.out).mono ?_; rintro e w1 ⟨rfl, hb1⟩; have c0 : w1.cell? ⟨b, 0, none⟩ = some (.string s) := (HB.out.below hb1 HB.out.lt).cell 0; have c1 : w1.cell? ⟨b, 1, none⟩ = some (.int .i64 (k : Int)) := (HB.out.below hb1 HB.out.lt).cell 1; have f1 : w1.frozen? ⟨b, 1, none⟩ = false := (HB.out.below hb1 HB.out.lt).free 1)
  go_quiet (fail)
  go_wp2
  go_ret2
  refine ⟨rfl, ⟨?_, by omega, hs⟩, grown_put (grown_drn (grown_of_below hb1 _) _) _ _⟩
  have := ((HB.out.below hb1 HB.out.lt).drn nq).put 1 (.int .i64 ((k : Int) + (m : Int)))
  simpa using this

theorem cur_byte_no (b : Nat) (s : ByteArray) (k : Nat) (w : World) (h : Cur w b s k) (h0 : s.size = k) :
    Calls Tryd.prog 112 #[.pointer (some ⟨b, 0, none⟩)] w fun e w' => e = .returned (.tuple #[.int .u8 0, .bool false]) ∧ Below w.heap.size w w' := by
  have H := Lib.hid h
  have H0 := Lib.hid h0
  clear h h0
  go_enter Tryd.func112, Tryd.ntmps112
  go_wp2_with (go_at_call 86; refine (cur_take_no b s k 1 _ H.out (by have := H0.out; omega) (by omega)).mono ?_; rintro e w1 ⟨rfl, hb1⟩)
  go_ret2
  exact ⟨rfl, hb1⟩

theorem cur_byte_yes (b : Nat) (s : ByteArray) (k : Nat) (w : World) (h : Cur w b s k) (h0 : k < s.size) :
    Calls Tryd.prog 112 #[.pointer (some ⟨b, 0, none⟩)] w fun e w' =>
      e = .returned (.tuple #[.int .u8 (s[k].toNat : Int), .bool true]) ∧ Cur w' b s (k + 1) ∧ w.grownBy w' (some b) := by
  have H := Lib.hid h
  clear h
  go_enter Tryd.func112, Tryd.ntmps112
  go_wp2_with (go_at_call 86; refine (cur_take_yes b s k 1 _ H.out (by omega) (by omega)).mono ?_; rintro e w1 ⟨rfl, hc1, hg1⟩)
  go_ret2
  refine ⟨?_, hc1, hg1⟩
  have e : (s.extract k (k + 1))[0]'(by simp; omega) = s[k] := by simp [ByteArray.getElem_extract]
  rw [← e]
  rfl

theorem cur_sub_no (b : Nat) (s : ByteArray) (k : Nat) (n : Int) (w : World) (h : Cur w b s k) (h0 : (s.size : Int) - k < n) (h1 : n < 18446744073709551616) :
    Calls Tryd.prog 87 #[.pointer (some ⟨b, 0, none⟩), .int .u64 n] w fun e w' => e = .returned (.tuple #[.pointer none, .bool false]) ∧ Below w.heap.size w w' := by
  have H := Lib.hid h
  clear h
  go_enter Tryd.func87, Tryd.ntmps87
  go_wp2_with (go_at_call 86; refine (cur_take_no b s k n _ H.out h0 h1).mono ?_; rintro e w1 ⟨rfl, hb1⟩)
  go_ret2
  exact ⟨rfl, hb1⟩

theorem cur_sub_yes (b : Nat) (s : ByteArray) (k : Nat) (n : Int) (w : World) (h : Cur w b s k) (h0 : 0 ≤ n) (h1 : n ≤ (s.size : Int) - k) :
    Calls Tryd.prog 87 #[.pointer (some ⟨b, 0, none⟩), .int .u64 n] w fun e w' =>
      ∃ g, e = .returned (.tuple #[.pointer (some ⟨g, 0, none⟩), .bool true]) ∧ w.heap.size ≤ g ∧ Cur w' g (s.extract k (k + n.toNat)) 0 ∧ Cur w' b s (k + n.toNat) ∧ w.grownBy w' (some b) := by
  have H := Lib.hid h
  have hs := h.2.2
  clear h
  go_enter Tryd.func87, Tryd.ntmps87
  go_wp2_with (first
    | (go_at_call 86; refine (cur_take_yes b s k n _ H.out h0 h1).mono ?_; rintro e w1 ⟨rfl, hc1, hg1⟩)
    | (go_at_call 61; refine (cur_over _ _).mono ?_; rintro e w2 ⟨rfl, rfl⟩))
  go_ret2
  refine ⟨_, rfl, hg1.size, ⟨BlkAt.made _ _ _, Nat.zero_le _, ?_⟩, ⟨hc1.1.more _, hc1.2⟩, grown_more hg1 _⟩
  simp; omega

/-! ### A nil cursor -/
theorem nil_left (w : World) : Calls Tryd.prog 74 #[.pointer none] w fun e w' => e = .returned (.int .i64 0) ∧ w = w' := by
  go_enter Tryd.func74, Tryd.ntmps74
  go_wp2
  go_ret
  exact ⟨rfl, rfl⟩
theorem nil_at (w : World) : Calls Tryd.prog 65 #[.pointer none] w fun e w' => e = .returned (.int .i64 0) ∧ w = w' := by
  go_enter Tryd.func65, Tryd.ntmps65
  go_wp2
  go_ret
  exact ⟨rfl, rfl⟩
theorem nil_rest (w : World) : Calls Tryd.prog 85 #[.pointer none] w fun e w' => e = .returned (.string ByteArray.empty) ∧ w = w' := by
  go_enter Tryd.func85, Tryd.ntmps85
  go_wp2
  go_ret
  exact ⟨rfl, rfl⟩
theorem nil_take (n : Int) (w : World) : Calls Tryd.prog 86 #[.pointer none, .int .u64 n] w fun e w' => e = .returned (.tuple #[.string ByteArray.empty, .bool false]) ∧ Below w.heap.size w w' := by
  go_enter Tryd.func86, Tryd.ntmps86
  go_wp2_with fail
  go_ret2
  exact ⟨rfl, Below.refl _ _⟩
theorem nil_byte (w : World) : Calls Tryd.prog 112 #[.pointer none] w fun e w' => e = .returned (.tuple #[.int .u8 0, .bool false]) ∧ Below w.heap.size w w' := by
  go_enter Tryd.func112, Tryd.ntmps112
  go_wp2_with (go_at_call 86; refine (nil_take 1 _).mono ?_; rintro e w1 ⟨rfl, hb1⟩)
  go_ret2
  exact ⟨rfl, hb1⟩
theorem nil_sub (n : Int) (w : World) : Calls Tryd.prog 87 #[.pointer none, .int .u64 n] w fun e w' => e = .returned (.tuple #[.pointer none, .bool false]) ∧ Below w.heap.size w w' := by
  go_enter Tryd.func87, Tryd.ntmps87
  go_wp2_with (go_at_call 86; refine (nil_take n _).mono ?_; rintro e w1 ⟨rfl, hb1⟩)
  go_ret2
  exact ⟨rfl, hb1⟩
end Go.Proofs.YtmlijflappjfoaaDoor
