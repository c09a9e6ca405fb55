/-
  Texts of the proof, joined: Msg1 PlainPick SortRow CloneH. Conditions: as each names.
-/
import Derived.Test.YtgidfnhfgiehjaaGreatDoorXTopOneac
import Derived.Test.YtgidfnhfgiehjaaGreatDoorXTopOnead
import Derived.Test.YtgidfnhfgiehjaaGreatDoorXTopOneab
import Derived.Shelf.SlSortCmp.WholeK

section
namespace Go.Proofs.YtgidfnhfgiehjaaGreatDoor
open Go.RowKit Go.PM
set_option maxRecDepth 100000
set_option maxHeartbeats 4000000
attribute [local go_sem ↓] Go.wp_at_zero Go.wp_at_succ
def cellIx : Nat → Nat
  | 0 => 17
  | 1 => 11
  | 2 => 4
  | 3 => 14
  | 4 => 6
  | 5 => 8
  | 6 => 21
  | 7 => 12
  | 8 => 10
  | 9 => 5
  | 10 => 1
  | 11 => 13
  | 12 => 3
  | 13 => 2
  | 14 => 18
  | 15 => 20
  | 16 => 7
  | 17 => 19
  | 18 => 16
  | 19 => 9
  | 20 => 22
  | 21 => 15
  | _ => 0
def ptrT : Nat → TypeId
  | 0 => 159
  | 1 => 161
  | 2 => 162
  | 3 => 164
  | 4 => 166
  | _ => 167
def plc (b i : Nat) : Value := .iface (ptrT (nmUse i)) (.pointer (some ⟨b, cellIx i, none⟩))
def mvs (m : Mp) (dv tv rv : Value) : Array Value := #[.int .i64 m.kind, .int .u64 (m.id : Int), .int .u64 (m.min_ : Int), .int .u64 (m.max_ : Int), .int .u64 (m.chosen : Int), .int .u64 (m.flags : Int), .int .u64 (m.cost : Int), .int .u64 (m.prio : Int), .int .u64 (m.dead : Int), .int .u64 (m.retry : Int), .int .u64 (m.epoch : Int), .int .u64 (m.base : Int), .int .u64 (m.digest : Int), .int .u64 (m.lag : Int), .int .u64 (m.code : Int), .int .u64 (m.want : Int), .int .i64 m.rem, .bool m.al, .string (txt m.nm), .string (txt m.rg), .string (txt m.nt), dv, tv, rv]
def mvv (m : Mp) (dv tv : Value) (i : Nat) : Value := match m.val i with
  | .num n => .int .u64 (n : Int)
  | .flag b => .bool b
  | .sgn z => .int .i64 z
  | .word s => .string (txt s)
  | .of _ => dv
  | .rows _ => tv
theorem mvs_at (m : Mp) (dv tv rv : Value) : ∀ i, i < 22 → (mvs m dv tv rv)[cellIx i]? = some (mvv m dv tv i) := by
  refine cases22 ?_ ?_ ?_ ?_ ?_ ?_ ?_ ?_ ?_ ?_ ?_ ?_ ?_ ?_ ?_ ?_ ?_ ?_ ?_ ?_ ?_ ?_ <;> rfl
theorem number1 (b : Nat) (w : World) : Calls Tryz.prog 103 #[.pointer (some ⟨b, 0, none⟩), .string (txt (nmAt 1))] w fun e w' => e = .returned (.pointer (some ⟨b, cellIx 1, none⟩)) ∧ Below w.heap.size w w' := by
  have hs : (txt (nmAt 1)).toList = [98, 97, 115, 101] := by rw [ByteArray.toList_eq]; rfl
  go_enter Tryz.func103, Tryz.ntmps103
  go_wp2_with fail
  go_ret
  exact ⟨rfl, b0⟩
theorem number2 (b : Nat) (w : World) : Calls Tryz.prog 103 #[.pointer (some ⟨b, 0, none⟩), .string (txt (nmAt 2))] w fun e w' => e = .returned (.pointer (some ⟨b, cellIx 2, none⟩)) ∧ Below w.heap.size w w' := by
  have hs : (txt (nmAt 2)).toList = [99, 104, 111, 115, 101, 110] := by rw [ByteArray.toList_eq]; rfl
  go_enter Tryz.func103, Tryz.ntmps103
  go_wp2_with fail
  go_ret
  exact ⟨rfl, b0⟩
theorem number3 (b : Nat) (w : World) : Calls Tryz.prog 103 #[.pointer (some ⟨b, 0, none⟩), .string (txt (nmAt 3))] w fun e w' => e = .returned (.pointer (some ⟨b, cellIx 3, none⟩)) ∧ Below w.heap.size w w' := by
  have hs : (txt (nmAt 3)).toList = [99, 111, 100, 101] := by rw [ByteArray.toList_eq]; rfl
  go_enter Tryz.func103, Tryz.ntmps103
  go_wp2_with fail
  go_ret
  exact ⟨rfl, b0⟩
theorem number4 (b : Nat) (w : World) : Calls Tryz.prog 103 #[.pointer (some ⟨b, 0, none⟩), .string (txt (nmAt 4))] w fun e w' => e = .returned (.pointer (some ⟨b, cellIx 4, none⟩)) ∧ Below w.heap.size w w' := by
  have hs : (txt (nmAt 4)).toList = [99, 111, 115, 116] := by rw [ByteArray.toList_eq]; rfl
  go_enter Tryz.func103, Tryz.ntmps103
  go_wp2_with fail
  go_ret
  exact ⟨rfl, b0⟩
theorem number5 (b : Nat) (w : World) : Calls Tryz.prog 103 #[.pointer (some ⟨b, 0, none⟩), .string (txt (nmAt 5))] w fun e w' => e = .returned (.pointer (some ⟨b, cellIx 5, none⟩)) ∧ Below w.heap.size w w' := by
  have hs : (txt (nmAt 5)).toList = [100, 101, 97, 100, 108, 105, 110, 101] := by rw [ByteArray.toList_eq]; rfl
  go_enter Tryz.func103, Tryz.ntmps103
  go_wp2_with fail
  go_ret
  exact ⟨rfl, b0⟩
theorem number7 (b : Nat) (w : World) : Calls Tryz.prog 103 #[.pointer (some ⟨b, 0, none⟩), .string (txt (nmAt 7))] w fun e w' => e = .returned (.pointer (some ⟨b, cellIx 7, none⟩)) ∧ Below w.heap.size w w' := by
  have hs : (txt (nmAt 7)).toList = [100, 105, 103, 101, 115, 116] := by rw [ByteArray.toList_eq]; rfl
  go_enter Tryz.func103, Tryz.ntmps103
  go_wp2_with fail
  go_ret
  exact ⟨rfl, b0⟩
theorem number8 (b : Nat) (w : World) : Calls Tryz.prog 103 #[.pointer (some ⟨b, 0, none⟩), .string (txt (nmAt 8))] w fun e w' => e = .returned (.pointer (some ⟨b, cellIx 8, none⟩)) ∧ Below w.heap.size w w' := by
  have hs : (txt (nmAt 8)).toList = [101, 112, 111, 99, 104] := by rw [ByteArray.toList_eq]; rfl
  go_enter Tryz.func103, Tryz.ntmps103
  go_wp2_with fail
  go_ret
  exact ⟨rfl, b0⟩
theorem number9 (b : Nat) (w : World) : Calls Tryz.prog 103 #[.pointer (some ⟨b, 0, none⟩), .string (txt (nmAt 9))] w fun e w' => e = .returned (.pointer (some ⟨b, cellIx 9, none⟩)) ∧ Below w.heap.size w w' := by
  have hs : (txt (nmAt 9)).toList = [102, 108, 97, 103, 115] := by rw [ByteArray.toList_eq]; rfl
  go_enter Tryz.func103, Tryz.ntmps103
  go_wp2_with fail
  go_ret
  exact ⟨rfl, b0⟩
theorem number10 (b : Nat) (w : World) : Calls Tryz.prog 103 #[.pointer (some ⟨b, 0, none⟩), .string (txt (nmAt 10))] w fun e w' => e = .returned (.pointer (some ⟨b, cellIx 10, none⟩)) ∧ Below w.heap.size w w' := by
  have hs : (txt (nmAt 10)).toList = [105, 100] := by rw [ByteArray.toList_eq]; rfl
  go_enter Tryz.func103, Tryz.ntmps103
  go_wp2_with fail
  go_ret
  exact ⟨rfl, b0⟩
theorem number11 (b : Nat) (w : World) : Calls Tryz.prog 103 #[.pointer (some ⟨b, 0, none⟩), .string (txt (nmAt 11))] w fun e w' => e = .returned (.pointer (some ⟨b, cellIx 11, none⟩)) ∧ Below w.heap.size w w' := by
  have hs : (txt (nmAt 11)).toList = [108, 97, 103] := by rw [ByteArray.toList_eq]; rfl
  go_enter Tryz.func103, Tryz.ntmps103
  go_wp2_with fail
  go_ret
  exact ⟨rfl, b0⟩
theorem number12 (b : Nat) (w : World) : Calls Tryz.prog 103 #[.pointer (some ⟨b, 0, none⟩), .string (txt (nmAt 12))] w fun e w' => e = .returned (.pointer (some ⟨b, cellIx 12, none⟩)) ∧ Below w.heap.size w w' := by
  have hs : (txt (nmAt 12)).toList = [109, 97, 120] := by rw [ByteArray.toList_eq]; rfl
  go_enter Tryz.func103, Tryz.ntmps103
  go_wp2_with fail
  go_ret
  exact ⟨rfl, b0⟩
theorem number13 (b : Nat) (w : World) : Calls Tryz.prog 103 #[.pointer (some ⟨b, 0, none⟩), .string (txt (nmAt 13))] w fun e w' => e = .returned (.pointer (some ⟨b, cellIx 13, none⟩)) ∧ Below w.heap.size w w' := by
  have hs : (txt (nmAt 13)).toList = [109, 105, 110] := by rw [ByteArray.toList_eq]; rfl
  go_enter Tryz.func103, Tryz.ntmps103
  go_wp2_with fail
  go_ret
  exact ⟨rfl, b0⟩
theorem number16 (b : Nat) (w : World) : Calls Tryz.prog 103 #[.pointer (some ⟨b, 0, none⟩), .string (txt (nmAt 16))] w fun e w' => e = .returned (.pointer (some ⟨b, cellIx 16, none⟩)) ∧ Below w.heap.size w w' := by
  have hs : (txt (nmAt 16)).toList = [112, 114, 105, 111, 114, 105, 116, 121] := by rw [ByteArray.toList_eq]; rfl
  go_enter Tryz.func103, Tryz.ntmps103
  go_wp2_with fail
  go_ret
  exact ⟨rfl, b0⟩
theorem number19 (b : Nat) (w : World) : Calls Tryz.prog 103 #[.pointer (some ⟨b, 0, none⟩), .string (txt (nmAt 19))] w fun e w' => e = .returned (.pointer (some ⟨b, cellIx 19, none⟩)) ∧ Below w.heap.size w w' := by
  have hs : (txt (nmAt 19)).toList = [114, 101, 116, 114, 121] := by rw [ByteArray.toList_eq]; rfl
  go_enter Tryz.func103, Tryz.ntmps103
  go_wp2_with fail
  go_ret
  exact ⟨rfl, b0⟩
theorem number21 (b : Nat) (w : World) : Calls Tryz.prog 103 #[.pointer (some ⟨b, 0, none⟩), .string (txt (nmAt 21))] w fun e w' => e = .returned (.pointer (some ⟨b, cellIx 21, none⟩)) ∧ Below w.heap.size w w' := by
  have hs : (txt (nmAt 21)).toList = [119, 97, 110, 116] := by rw [ByteArray.toList_eq]; rfl
  go_enter Tryz.func103, Tryz.ntmps103
  go_wp2_with fail
  go_ret
  exact ⟨rfl, b0⟩
theorem place0 (b : Nat) (w : World) : Calls Tryz.prog 59 #[.pointer (some ⟨b, 0, none⟩), .string (txt (nmAt 0))] w fun e w' => e = .returned (plc b 0) ∧ Below w.heap.size w w' := by
  have hs : (txt (nmAt 0)).toList = [97, 108, 108, 111, 119, 101, 100] := by rw [ByteArray.toList_eq]; rfl
  go_enter Tryz.func59, Tryz.ntmps59
  go_wp2_with fail
  go_ret
  exact ⟨rfl, b0⟩
theorem place1 (b : Nat) (w : World) : Calls Tryz.prog 59 #[.pointer (some ⟨b, 0, none⟩), .string (txt (nmAt 1))] w fun e w' => e = .returned (plc b 1) ∧ Below w.heap.size w w' := by
  have HC := Lib.hid (number1 b w)
  have hs : (txt (nmAt 1)).toList = [98, 97, 115, 101] := by rw [ByteArray.toList_eq]; rfl
  go_enter Tryz.func59, Tryz.ntmps59
  go_wp2_with fail
  refine HC.out.mono ?_
  rintro e w1 ⟨rfl, hb1⟩
  have HB := Lib.hid hb1
  clear hb1
  go_wp2_with fail
  go_ret
  exact ⟨rfl, HB.out⟩
theorem place2 (b : Nat) (w : World) : Calls Tryz.prog 59 #[.pointer (some ⟨b, 0, none⟩), .string (txt (nmAt 2))] w fun e w' => e = .returned (plc b 2) ∧ Below w.heap.size w w' := by
  have HC := Lib.hid (number2 b w)
  have hs : (txt (nmAt 2)).toList = [99, 104, 111, 115, 101, 110] := by rw [ByteArray.toList_eq]; rfl
  go_enter Tryz.func59, Tryz.ntmps59
  go_wp2_with fail
  refine HC.out.mono ?_
  rintro e w1 ⟨rfl, hb1⟩
  have HB := Lib.hid hb1
  clear hb1
  go_wp2_with fail
  go_ret
  exact ⟨rfl, HB.out⟩
theorem place3 (b : Nat) (w : World) : Calls Tryz.prog 59 #[.pointer (some ⟨b, 0, none⟩), .string (txt (nmAt 3))] w fun e w' => e = .returned (plc b 3) ∧ Below w.heap.size w w' := by
  have HC := Lib.hid (number3 b w)
  have hs : (txt (nmAt 3)).toList = [99, 111, 100, 101] := by rw [ByteArray.toList_eq]; rfl
  go_enter Tryz.func59, Tryz.ntmps59
  go_wp2_with fail
  refine HC.out.mono ?_
  rintro e w1 ⟨rfl, hb1⟩
  have HB := Lib.hid hb1
  clear hb1
  go_wp2_with fail
  go_ret
  exact ⟨rfl, HB.out⟩
theorem place4 (b : Nat) (w : World) : Calls Tryz.prog 59 #[.pointer (some ⟨b, 0, none⟩), .string (txt (nmAt 4))] w fun e w' => e = .returned (plc b 4) ∧ Below w.heap.size w w' := by
  have HC := Lib.hid (number4 b w)
  have hs : (txt (nmAt 4)).toList = [99, 111, 115, 116] := by rw [ByteArray.toList_eq]; rfl
  go_enter Tryz.func59, Tryz.ntmps59
  go_wp2_with fail
  refine HC.out.mono ?_
  rintro e w1 ⟨rfl, hb1⟩
  have HB := Lib.hid hb1
  clear hb1
  go_wp2_with fail
  go_ret
  exact ⟨rfl, HB.out⟩
theorem place5 (b : Nat) (w : World) : Calls Tryz.prog 59 #[.pointer (some ⟨b, 0, none⟩), .string (txt (nmAt 5))] w fun e w' => e = .returned (plc b 5) ∧ Below w.heap.size w w' := by
  have HC := Lib.hid (number5 b w)
  have hs : (txt (nmAt 5)).toList = [100, 101, 97, 100, 108, 105, 110, 101] := by rw [ByteArray.toList_eq]; rfl
  go_enter Tryz.func59, Tryz.ntmps59
  go_wp2_with fail
  refine HC.out.mono ?_
  rintro e w1 ⟨rfl, hb1⟩
  have HB := Lib.hid hb1
  clear hb1
  go_wp2_with fail
  go_ret
  exact ⟨rfl, HB.out⟩
theorem place6 (b : Nat) (w : World) : Calls Tryz.prog 59 #[.pointer (some ⟨b, 0, none⟩), .string (txt (nmAt 6))] w fun e w' => e = .returned (plc b 6) ∧ Below w.heap.size w w' := by
  have hs : (txt (nmAt 6)).toList = [100, 101, 115, 99, 114] := by rw [ByteArray.toList_eq]; rfl
  go_enter Tryz.func59, Tryz.ntmps59
  go_wp2_with fail
  go_ret
  exact ⟨rfl, b0⟩
theorem place7 (b : Nat) (w : World) : Calls Tryz.prog 59 #[.pointer (some ⟨b, 0, none⟩), .string (txt (nmAt 7))] w fun e w' => e = .returned (plc b 7) ∧ Below w.heap.size w w' := by
  have HC := Lib.hid (number7 b w)
  have hs : (txt (nmAt 7)).toList = [100, 105, 103, 101, 115, 116] := by rw [ByteArray.toList_eq]; rfl
  go_enter Tryz.func59, Tryz.ntmps59
  go_wp2_with fail
  refine HC.out.mono ?_
  rintro e w1 ⟨rfl, hb1⟩
  have HB := Lib.hid hb1
  clear hb1
  go_wp2_with fail
  go_ret
  exact ⟨rfl, HB.out⟩
theorem place8 (b : Nat) (w : World) : Calls Tryz.prog 59 #[.pointer (some ⟨b, 0, none⟩), .string (txt (nmAt 8))] w fun e w' => e = .returned (plc b 8) ∧ Below w.heap.size w w' := by
  have HC := Lib.hid (number8 b w)
  have hs : (txt (nmAt 8)).toList = [101, 112, 111, 99, 104] := by rw [ByteArray.toList_eq]; rfl
  go_enter Tryz.func59, Tryz.ntmps59
  go_wp2_with fail
  refine HC.out.mono ?_
  rintro e w1 ⟨rfl, hb1⟩
  have HB := Lib.hid hb1
  clear hb1
  go_wp2_with fail
  go_ret
  exact ⟨rfl, HB.out⟩
theorem place9 (b : Nat) (w : World) : Calls Tryz.prog 59 #[.pointer (some ⟨b, 0, none⟩), .string (txt (nmAt 9))] w fun e w' => e = .returned (plc b 9) ∧ Below w.heap.size w w' := by
  have HC := Lib.hid (number9 b w)
  have hs : (txt (nmAt 9)).toList = [102, 108, 97, 103, 115] := by rw [ByteArray.toList_eq]; rfl
  go_enter Tryz.func59, Tryz.ntmps59
  go_wp2_with fail
  refine HC.out.mono ?_
  rintro e w1 ⟨rfl, hb1⟩
  have HB := Lib.hid hb1
  clear hb1
  go_wp2_with fail
  go_ret
  exact ⟨rfl, HB.out⟩
theorem place10 (b : Nat) (w : World) : Calls Tryz.prog 59 #[.pointer (some ⟨b, 0, none⟩), .string (txt (nmAt 10))] w fun e w' => e = .returned (plc b 10) ∧ Below w.heap.size w w' := by
  have HC := Lib.hid (number10 b w)
  have hs : (txt (nmAt 10)).toList = [105, 100] := by rw [ByteArray.toList_eq]; rfl
  go_enter Tryz.func59, Tryz.ntmps59
  go_wp2_with fail
  refine HC.out.mono ?_
  rintro e w1 ⟨rfl, hb1⟩
  have HB := Lib.hid hb1
  clear hb1
  go_wp2_with fail
  go_ret
  exact ⟨rfl, HB.out⟩
theorem place11 (b : Nat) (w : World) : Calls Tryz.prog 59 #[.pointer (some ⟨b, 0, none⟩), .string (txt (nmAt 11))] w fun e w' => e = .returned (plc b 11) ∧ Below w.heap.size w w' := by
  have HC := Lib.hid (number11 b w)
  have hs : (txt (nmAt 11)).toList = [108, 97, 103] := by rw [ByteArray.toList_eq]; rfl
  go_enter Tryz.func59, Tryz.ntmps59
  go_wp2_with fail
  refine HC.out.mono ?_
  rintro e w1 ⟨rfl, hb1⟩
  have HB := Lib.hid hb1
  clear hb1
  go_wp2_with fail
  go_ret
  exact ⟨rfl, HB.out⟩
theorem place12 (b : Nat) (w : World) : Calls Tryz.prog 59 #[.pointer (some ⟨b, 0, none⟩), .string (txt (nmAt 12))] w fun e w' => e = .returned (plc b 12) ∧ Below w.heap.size w w' := by
  have HC := Lib.hid (number12 b w)
  have hs : (txt (nmAt 12)).toList = [109, 97, 120] := by rw [ByteArray.toList_eq]; rfl
  go_enter Tryz.func59, Tryz.ntmps59
  go_wp2_with fail
  refine HC.out.mono ?_
  rintro e w1 ⟨rfl, hb1⟩
  have HB := Lib.hid hb1
  clear hb1
  go_wp2_with fail
  go_ret
  exact ⟨rfl, HB.out⟩
theorem place13 (b : Nat) (w : World) : Calls Tryz.prog 59 #[.pointer (some ⟨b, 0, none⟩), .string (txt (nmAt 13))] w fun e w' => e = .returned (plc b 13) ∧ Below w.heap.size w w' := by
  have HC := Lib.hid (number13 b w)
  have hs : (txt (nmAt 13)).toList = [109, 105, 110] := by rw [ByteArray.toList_eq]; rfl
  go_enter Tryz.func59, Tryz.ntmps59
  go_wp2_with fail
  refine HC.out.mono ?_
  rintro e w1 ⟨rfl, hb1⟩
  have HB := Lib.hid hb1
  clear hb1
  go_wp2_with fail
  go_ret
  exact ⟨rfl, HB.out⟩
theorem place14 (b : Nat) (w : World) : Calls Tryz.prog 59 #[.pointer (some ⟨b, 0, none⟩), .string (txt (nmAt 14))] w fun e w' => e = .returned (plc b 14) ∧ Below w.heap.size w w' := by
  have hs : (txt (nmAt 14)).toList = [110, 97, 109, 101] := by rw [ByteArray.toList_eq]; rfl
  go_enter Tryz.func59, Tryz.ntmps59
  go_wp2_with fail
  go_ret
  exact ⟨rfl, b0⟩
theorem place15 (b : Nat) (w : World) : Calls Tryz.prog 59 #[.pointer (some ⟨b, 0, none⟩), .string (txt (nmAt 15))] w fun e w' => e = .returned (plc b 15) ∧ Below w.heap.size w w' := by
  have hs : (txt (nmAt 15)).toList = [110, 111, 116, 101] := by rw [ByteArray.toList_eq]; rfl
  go_enter Tryz.func59, Tryz.ntmps59
  go_wp2_with fail
  go_ret
  exact ⟨rfl, b0⟩
theorem place16 (b : Nat) (w : World) : Calls Tryz.prog 59 #[.pointer (some ⟨b, 0, none⟩), .string (txt (nmAt 16))] w fun e w' => e = .returned (plc b 16) ∧ Below w.heap.size w w' := by
  have HC := Lib.hid (number16 b w)
  have hs : (txt (nmAt 16)).toList = [112, 114, 105, 111, 114, 105, 116, 121] := by rw [ByteArray.toList_eq]; rfl
  go_enter Tryz.func59, Tryz.ntmps59
  go_wp2_with fail
  refine HC.out.mono ?_
  rintro e w1 ⟨rfl, hb1⟩
  have HB := Lib.hid hb1
  clear hb1
  go_wp2_with fail
  go_ret
  exact ⟨rfl, HB.out⟩
theorem place17 (b : Nat) (w : World) : Calls Tryz.prog 59 #[.pointer (some ⟨b, 0, none⟩), .string (txt (nmAt 17))] w fun e w' => e = .returned (plc b 17) ∧ Below w.heap.size w w' := by
  have hs : (txt (nmAt 17)).toList = [114, 101, 103, 105, 111, 110] := by rw [ByteArray.toList_eq]; rfl
  go_enter Tryz.func59, Tryz.ntmps59
  go_wp2_with fail
  go_ret
  exact ⟨rfl, b0⟩
theorem place18 (b : Nat) (w : World) : Calls Tryz.prog 59 #[.pointer (some ⟨b, 0, none⟩), .string (txt (nmAt 18))] w fun e w' => e = .returned (plc b 18) ∧ Below w.heap.size w w' := by
  have hs : (txt (nmAt 18)).toList = [114, 101, 109, 97, 105, 110, 105, 110, 103] := by rw [ByteArray.toList_eq]; rfl
  go_enter Tryz.func59, Tryz.ntmps59
  go_wp2_with fail
  go_ret
  exact ⟨rfl, b0⟩
theorem place19 (b : Nat) (w : World) : Calls Tryz.prog 59 #[.pointer (some ⟨b, 0, none⟩), .string (txt (nmAt 19))] w fun e w' => e = .returned (plc b 19) ∧ Below w.heap.size w w' := by
  have HC := Lib.hid (number19 b w)
  have hs : (txt (nmAt 19)).toList = [114, 101, 116, 114, 121] := by rw [ByteArray.toList_eq]; rfl
  go_enter Tryz.func59, Tryz.ntmps59
  go_wp2_with fail
  refine HC.out.mono ?_
  rintro e w1 ⟨rfl, hb1⟩
  have HB := Lib.hid hb1
  clear hb1
  go_wp2_with fail
  go_ret
  exact ⟨rfl, HB.out⟩
theorem place20 (b : Nat) (w : World) : Calls Tryz.prog 59 #[.pointer (some ⟨b, 0, none⟩), .string (txt (nmAt 20))] w fun e w' => e = .returned (plc b 20) ∧ Below w.heap.size w w' := by
  have hs : (txt (nmAt 20)).toList = [116, 97, 98, 108, 101] := by rw [ByteArray.toList_eq]; rfl
  go_enter Tryz.func59, Tryz.ntmps59
  go_wp2_with fail
  go_ret
  exact ⟨rfl, b0⟩
theorem place21 (b : Nat) (w : World) : Calls Tryz.prog 59 #[.pointer (some ⟨b, 0, none⟩), .string (txt (nmAt 21))] w fun e w' => e = .returned (plc b 21) ∧ Below w.heap.size w w' := by
  have HC := Lib.hid (number21 b w)
  have hs : (txt (nmAt 21)).toList = [119, 97, 110, 116] := by rw [ByteArray.toList_eq]; rfl
  go_enter Tryz.func59, Tryz.ntmps59
  go_wp2_with fail
  refine HC.out.mono ?_
  rintro e w1 ⟨rfl, hb1⟩
  have HB := Lib.hid hb1
  clear hb1
  go_wp2_with fail
  go_ret
  exact ⟨rfl, HB.out⟩
theorem place_any (b : Nat) (w : World) : ∀ i, i < 22 → Calls Tryz.prog 59 #[.pointer (some ⟨b, 0, none⟩), .string (txt (nmAt i))] w fun e w' => e = .returned (plc b i) ∧ Below w.heap.size w w' :=
  cases22 (place0 b w) (place1 b w) (place2 b w) (place3 b w) (place4 b w) (place5 b w) (place6 b w) (place7 b w) (place8 b w) (place9 b w) (place10 b w) (place11 b w) (place12 b w) (place13 b w) (place14 b w) (place15 b w) (place16 b w) (place17 b w) (place18 b w) (place19 b w) (place20 b w) (place21 b w)
end Go.Proofs.YtgidfnhfgiehjaaGreatDoor
end

section
namespace Go.PM
section
variable {X : Type} (key : X → Nat)
def kins (x : X) : List X → List X
  | [] => [x]
  | y :: r => if key y < key x then y :: kins x r else x :: y :: r
def kfold : List X → List X → List X
  | acc, [] => acc
  | acc, x :: r => kfold (kins key x acc) r
def ksort (l : List X) : List X := kfold key [] l
theorem kins_perm (x : X) : ∀ l : List X, (kins key x l).Perm (x :: l)
  | [] => List.Perm.refl _
  | y :: r => by
    rw [kins]
    split
    · exact ((kins_perm x r).cons y).trans (List.Perm.swap x y r)
    · exact List.Perm.refl _
theorem kfold_perm : ∀ (l acc : List X), (kfold key acc l).Perm (acc ++ l)
  | [], acc => by rw [kfold, List.append_nil]
  | x :: r, acc => by
    rw [kfold]
    refine (kfold_perm r _).trans (((kins_perm key x acc).append_right r).trans ?_)
    exact List.perm_middle.symm
theorem ksort_perm (l : List X) : (ksort key l).Perm l := kfold_perm key l []
theorem kins_le (x : X) : ∀ l : List X, l.Pairwise (fun a b => key a ≤ key b) → (kins key x l).Pairwise (fun a b => key a ≤ key b)
  | [], _ => by simp [kins]
  | y :: r, h => by
    rw [List.pairwise_cons] at h
    rw [kins]
    split
    · rename_i hlt
      rw [List.pairwise_cons]
      refine ⟨fun b hb => ?_, kins_le x r h.2⟩
      rcases List.mem_cons.1 ((kins_perm key x r).mem_iff.1 hb) with rfl | hb
      · omega
      · exact h.1 b hb
    · rename_i hlt
      rw [List.pairwise_cons]
      refine ⟨fun b hb => ?_, by rw [List.pairwise_cons]; exact h⟩
      rcases List.mem_cons.1 hb with rfl | hb
      · omega
      · have := h.1 b hb; omega
theorem kfold_le : ∀ (l acc : List X), acc.Pairwise (fun a b => key a ≤ key b) → (kfold key acc l).Pairwise (fun a b => key a ≤ key b)
  | [], _, h => h
  | x :: r, acc, h => by rw [kfold]; exact kfold_le r _ (kins_le key x acc h)
theorem ksort_le (l : List X) : (ksort key l).Pairwise (fun a b => key a ≤ key b) := kfold_le key l [] List.Pairwise.nil
theorem krise_one : ∀ l l' : List X, l.Perm l' → l.Pairwise (fun a b => key a < key b) → l'.Pairwise (fun a b => key a < key b) → l = l'
  | [], l', hp, _, _ => (List.nil_perm.1 hp).symm
  | x :: r, [], hp, _, _ => absurd (List.perm_nil.1 hp) (by simp)
  | x :: r, y :: s, hp, h, h' => by
    rw [List.pairwise_cons] at h h'
    have hx : x ∈ y :: s := hp.mem_iff.1 (by simp)
    have hy : y ∈ x :: r := hp.mem_iff.2 (by simp)
    have e : x = y := by
      rcases List.mem_cons.1 hx with e | hx
      · exact e
      rcases List.mem_cons.1 hy with e | hy
      · exact e.symm
      have h1 := h'.1 x hx
      have h2 := h.1 y hy
      omega
    subst e
    rw [krise_one r s (List.Perm.cons_inv hp) h.2 h'.2]
theorem krise_of {l : List X} (h : l.Pairwise (fun a b => key a ≤ key b)) (hn : (l.map key).Nodup) : l.Pairwise (fun a b => key a < key b) := by
  rw [List.Nodup, List.pairwise_map] at hn
  exact (h.and hn).imp fun ⟨h1, h2⟩ => by omega
theorem krise_nodup {l : List X} (h : l.Pairwise (fun a b => key a < key b)) : (l.map key).Nodup := by
  rw [List.Nodup, List.pairwise_map]
  exact h.imp fun h => by omega
theorem ksort_of {l l' : List X} (hp : l.Perm l') (hs : l'.Pairwise (fun a b => key a ≤ key b)) (hn : (l.map key).Nodup) : l' = ksort key l :=
  krise_one key l' _ (hp.symm.trans (ksort_perm key l).symm) (krise_of key hs ((hp.map key).nodup hn)) (krise_of key (ksort_le key l) (((ksort_perm key l).symm.map key).nodup hn))
theorem krise_next : ∀ {l : List X}, l.Pairwise (fun a b => key a ≤ key b) → (∀ i (h : i + 1 < l.length), key l[i] ≠ key l[i + 1]) → l.Pairwise (fun a b => key a < key b)
  | [], _, _ => List.Pairwise.nil
  | [x], _, _ => by simp
  | x :: y :: r, h, hn => by
    have ih := krise_next (l := y :: r) (List.pairwise_cons.1 h).2 fun i hi => hn (i + 1) (by simp at hi ⊢; omega)
    have h0 : key x ≠ key y := hn 0 (by simp)
    have h1 := (List.pairwise_cons.1 h).1
    rw [List.pairwise_cons]
    refine ⟨fun b hb => ?_, ih⟩
    have hxy := h1 y (by simp)
    rcases List.mem_cons.1 hb with rfl | hb
    · omega
    · have := (List.pairwise_cons.1 ih).1 b hb; omega
theorem ktwice {l l' : List X} (hp : l.Perm l') {i : Nat} (h : i + 1 < l'.length) (he : key l'[i] = key l'[i + 1]) : ¬ (l.map key).Nodup := fun hn => by
  have hn' : (l'.map key).Nodup := (hp.map key).nodup hn
  rw [List.Nodup, List.pairwise_iff_getElem] at hn'
  exact hn' i (i + 1) (by simp; omega) (by simp; omega) (by omega) (by simpa using he)
end
structure Fl where
  tag : Nat
  ty : Int
  num : Nat
  text : ByteArray
  inner : Fs
def Fs.toL : Fs → List Fl
  | .nil => []
  | .cons t y n s i r => ⟨t, y, n, s, i⟩ :: r.toL
def ofL : List Fl → Fs
  | [] => .nil
  | x :: r => .cons x.tag x.ty x.num x.text x.inner (ofL r)
theorem ofL_toL : ∀ f : Fs, ofL f.toL = f
  | .nil => rfl
  | .cons t y n s i r => by rw [Fs.toL, ofL, ofL_toL r]
theorem toL_ofL : ∀ l : List Fl, (ofL l).toL = l
  | [] => rfl
  | x :: r => by rw [ofL, Fs.toL, toL_ofL r]
theorem toL_len : ∀ f : Fs, f.toL.length = f.len
  | .nil => rfl
  | .cons t y n s i r => by rw [Fs.toL, List.length_cons, toL_len r, Fs.len]
theorem ofL_len (l : List Fl) : (ofL l).len = l.length := by rw [← toL_len, toL_ofL]
theorem toL_app : ∀ f g : Fs, (f.app g).toL = f.toL ++ g.toL
  | .nil, g => rfl
  | .cons t y n s i r, g => by rw [Fs.app, Fs.toL, toL_app r g, Fs.toL, List.cons_append]
theorem ofL_app (l m : List Fl) : ofL (l ++ m) = (ofL l).app (ofL m) := by
  rw [← ofL_toL ((ofL l).app (ofL m)), toL_app, toL_ofL, toL_ofL]
theorem ofL_count : ∀ l : List Fl, (ofL l).count = (l.map fun x => 1 + x.inner.count).sum
  | [] => rfl
  | x :: r => by rw [ofL, Fs.count, ofL_count r, List.map_cons, List.sum_cons]
theorem ofL_count_perm {l m : List Fl} (h : l.Perm m) : (ofL l).count = (ofL m).count := by
  rw [ofL_count, ofL_count]
  exact (h.map _).sum_nat
theorem ofL_all {P : Nat → Int → Nat → ByteArray → Prop} : ∀ l : List Fl, (ofL l).All P ↔ ∀ x ∈ l, P x.tag x.ty x.num x.text ∧ x.inner.All P
  | [] => by simp [ofL, Fs.All]
  | x :: r => by
    rw [ofL, Fs.All, ofL_all r]
    simp [and_assoc]
theorem ofL_all_perm {P : Nat → Int → Nat → ByteArray → Prop} {l m : List Fl} (h : l.Perm m) : (ofL l).All P ↔ (ofL m).All P := by
  rw [ofL_all, ofL_all]
  exact ⟨fun k x hx => k x (h.mem_iff.2 hx), fun k x hx => k x (h.mem_iff.1 hx)⟩
def fmrg (f : Fs) : Fs × Nat := if (f.toL.map Fl.tag).Nodup then (ofL (ksort Fl.tag f.toL), 0) else (.nil, 14)
def fcat : List Fs → Fs
  | [] => .nil
  | f :: r => f.app (fcat r)
theorem fmrg_yes {l l' : List Fl} (hp : l.Perm l') (hs : l'.Pairwise (fun a b => a.tag ≤ b.tag)) (hn : ∀ i (h : i + 1 < l'.length), l'[i].tag ≠ l'[i + 1].tag) : fmrg (ofL l) = (ofL l', 0) := by
  have h1 := krise_next Fl.tag hs hn
  have h2 : (l.map Fl.tag).Nodup := (hp.symm.map _).nodup (krise_nodup Fl.tag h1)
  unfold fmrg
  rw [toL_ofL, if_pos h2, ← ksort_of Fl.tag hp hs h2]
theorem fmrg_no {l l' : List Fl} (hp : l.Perm l') {i : Nat} (h : i + 1 < l'.length) (he : l'[i].tag = l'[i + 1].tag) : fmrg (ofL l) = (.nil, 14) := by
  unfold fmrg
  rw [toL_ofL, if_neg (ktwice Fl.tag hp h he)]
end Go.PM
namespace Go.Proofs.YtgidfnhfgiehjaaGreatDoor
open Go.PM
def fbad : List Fs → Nat
  | [] => 0
  | f :: r => if fcheck f 0 0 ≠ 0 then fcheck f 0 0 else fbad r
def fmerge (l : List Fs) : Fs × Nat := if fbad l ≠ 0 then (.nil, fbad l) else fmrg (fcat l)
end Go.Proofs.YtgidfnhfgiehjaaGreatDoor
end

section
namespace Go.PM
open Go.RowKit Go.Sort Go.Proofs
theorem flat_length {α : Type} {enc : α → List Value} {k : Nat} (hk : ∀ x, (enc x).length = k) : ∀ l : List α, (l.flatMap enc).length = l.length * k
  | [] => by simp
  | a :: r => by rw [List.flatMap_cons, List.length_append, hk, flat_length hk r, List.length_cons, Nat.add_mul, Nat.one_mul, Nat.add_comm]
section
variable {α : Type} [Inhabited α] {enc : α → List Value} {k : Nat}
theorem flat_at (hk : ∀ x, (enc x).length = k) (k0 : 0 < k) : ∀ (l : List α) (t : Nat), t < l.length * k → (l.flatMap enc)[t]? = some ((enc l[t / k]!)[t % k]!)
  | [], t, h => by simp at h
  | a :: r, t, h => by
    rw [List.flatMap_cons]
    by_cases ht : t < k
    · rw [List.getElem?_append_left (by rw [hk]; exact ht), Nat.div_eq_of_lt ht, Nat.mod_eq_of_lt ht]
      have : t < (enc a).length := by rw [hk]; exact ht
      simp [this]
    · obtain ⟨u, rfl⟩ : ∃ u, t = u + k := ⟨t - k, by omega⟩
      rw [List.getElem?_append_right (by rw [hk]; omega), hk, Nat.add_sub_cancel, flat_at hk k0 r u (by simp only [List.length_cons, Nat.add_mul, Nat.one_mul] at h; omega), Nat.add_div_right _ k0, Nat.add_mod_right]
      simp
theorem flatK_list (hk : ∀ x, (enc x).length = k) (k0 : 0 < k) (d : Array α) : (flatK enc k d).toList = d.toList.flatMap enc := by
  apply List.ext_getElem?
  intro t
  by_cases h : t < d.size * k
  · rw [flat_at hk k0 d.toList t (by simpa using h)]
    have h1 := get_flatK enc k d t h
    rw [Array.getElem?_toList, Array.getElem?_eq_getElem (by rw [size_flatK]; exact h)]
    rw [getElem!_pos _ _ (by rw [size_flatK]; exact h)] at h1
    have hq : t / k < d.size := (Nat.div_lt_iff_lt_mul k0).2 h
    rw [h1, getElem!_pos d.toList (t / k) (by simpa using hq), getElem!_pos d (t / k) hq, Array.getElem_toList]
  · rw [List.getElem?_eq_none (by rw [Array.length_toList, size_flatK]; omega), List.getElem?_eq_none (by rw [flat_length hk, Array.length_toList]; omega)]
theorem holdsK_own {w : World} {base n g cap : Nat} {e : TypeId} {xs : List Value} (hk : ∀ x, (enc x).length = k) (k0 : 0 < k) (d : Array α) (hd : d.size = n) (h : w.ownsRow base e k (.slice (some ⟨g, 0, none⟩) n cap) n xs) (hx : xs = d.toList.flatMap enc) :
    HoldsK enc k w g 0 d ∧ g < w.heap.size ∧ base ≤ g := by
  rcases h.2 with ⟨h0, _⟩ | ⟨g', cap', cur, hv, hg, hb, hn, hm, hs, ht⟩
  · cases h0
  injection hv with h1 h2 h3
  injection h1 with h1
  injection h1 with h1
  subst h1 h3
  refine ⟨fun j hj => ?_, (Array.getElem?_eq_some_iff.1 hb).1, hg⟩
  rw [size_flatK] at hj
  refine ⟨?_, by simp [World.frozen?, hb]⟩
  have h5 : (cur.toList.take (n * k))[j]? = (flatK enc k d).toList[j]? := by rw [ht, hx, flatK_list hk k0]
  rw [List.getElem?_take_of_lt (by rw [← hd]; exact hj), Array.getElem?_toList, Array.getElem?_toList, Array.getElem?_eq_getElem (xs := flatK enc k d) (by rw [size_flatK]; exact hj)] at h5
  simp only [World.cell?, hb, Nat.zero_add]
  simp only [Option.isSome_none, Bool.false_eq_true, if_false]
  rw [h5, getElem!_pos _ _ (by rw [size_flatK]; exact hj)]
  rfl
theorem heap_sortedK {w : World} {g m : Nat} {os : Array Obj} {cur : Array Value} {e : TypeId} {fr : Nat × Nat} (d : Array α) (hb : w.heap[g]? = some (.cells cur e fr)) :
    (sortWorldK enc k w g 0 m d os).heap[g]? = some (.cells (putCells id 0 (flatK enc k d) cur) e fr) := by
  have hg : g < w.heap.size := (Array.getElem?_eq_some_iff.1 hb).1
  unfold sortWorldK putRowK
  rw [heap_grow_old _ _ (by simpa [putRow, mapBlock, Sort.ahead] using hg)]
  simp [putRow, mapBlock, Sort.ahead, Array.getElem?_modify, hb, onCells]
theorem grownBy_sortedK {w : World} {g m : Nat} {os : Array Obj} (d : Array α) : w.grownBy (sortWorldK enc k w g 0 m d os) (some g) := by
  unfold sortWorldK putRowK
  refine ⟨rfl, rfl, rfl, by simp [grow, putRow, mapBlock, Sort.ahead], fun j hj hne => ?_⟩
  rw [heap_grow_old _ _ (by simpa [putRow, mapBlock, Sort.ahead] using hj)]
  have : g ≠ j := fun e => hne (by rw [e])
  simp [putRow, mapBlock, Sort.ahead, Array.getElem?_modify, this]
theorem take_putCellsK (cur : Array Value) (F : Array Value) (h : F.size ≤ cur.size) : (putCells id 0 F cur).toList.take F.size = F.toList := by
  apply List.ext_getElem?
  intro j
  by_cases hj : j < F.size
  · rw [List.getElem?_take_of_lt hj, Array.getElem?_toList, Array.getElem?_toList]
    simp [putCells, hj, show j < cur.size by omega]
  · rw [List.getElem?_take_eq_none (by omega), List.getElem?_eq_none (by simp; omega)]
theorem own_sortedK {w : World} {base n g cap m : Nat} {e : TypeId} {xs : List Value} {os : Array Obj} (hk : ∀ x, (enc x).length = k) (k0 : 0 < k) (d : Array α) (hd : d.size = n) (h : w.ownsRow base e k (.slice (some ⟨g, 0, none⟩) n cap) n xs) :
    (sortWorldK enc k w g 0 m d os).ownsRow base e k (.slice (some ⟨g, 0, none⟩) n cap) n (d.toList.flatMap enc) := by
  rcases h.2 with ⟨h0, _⟩ | ⟨g', cap', cur, hv, hg, hb, hn, hm, hs, ht⟩
  · cases h0
  injection hv with h1 h2 h3
  injection h1 with h1
  injection h1 with h1
  subst h1 h3
  refine ⟨by rw [flat_length hk, Array.length_toList, hd], .inr ⟨g, cap, _, rfl, hg, heap_sortedK d hb, hn, hm, by simp [putCells, hs], ?_⟩⟩
  have h6 := take_putCellsK cur (flatK enc k d) (by rw [size_flatK, hs, hd]; exact Nat.mul_le_mul_right k hn)
  rw [size_flatK, hd, flatK_list hk k0] at h6
  exact h6
theorem permIn_all {d d' : Array α} (h : PermIn 0 d.size d d') : d.toList.Perm d'.toList := by
  obtain ⟨h1, _, h3⟩ := h
  have e : d'.extract 0 d.size = d' := by rw [← h1]; simp
  rw [e] at h3
  simpa using h3.symm
theorem sortedIn_all {lt : α → α → Bool} {d : Array α} {n : Nat} (h : SortedIn lt 0 n d) (hn : d.size = n) : d.toList.Pairwise (fun a b => lt b a = false) := by
  rw [List.pairwise_iff_getElem]
  intro i j hi hj hij
  have := h i j (Nat.zero_le _) hij (by rw [← hn]; simpa using hj)
  rw [getElem!_pos d i (by simpa using hi), getElem!_pos d j (by simpa using hj)] at this
  simpa using this
end
end Go.PM
end

section
namespace Go.PM
open Go.RowKit
section
variable {H g0 cur k n : Nat} {T Te : TypeId} {w : World} {xs : List Value}
theorem GP.put {b : Nat} {I : Nat → Prop} {t n' : Nat} {y : Int} {s : ByteArray} {i r : Fs} {A' : Option Addr} {m' c' : Nat} (h : GP H g0 T w xs b k n) (hF : FB w T b) (hf : FsAt w I (.cons t y n' s i r) b (k * 5)) (hv : ∀ a, A' = some a → m' ≠ 0 → g0 < a.block) :
    GP H g0 T (w.setCell ⟨b, k * 5 + 4, none⟩ (.slice A' m' c')) xs b (k + 1) n := by
  intro b2 cs hb hB o A m c ho hm
  by_cases e : b2 = b
  · subst e
    obtain ⟨cs0, h0⟩ := hF
    have h1 := BlkAt.same hB (h0.put (k * 5 + 4) (.slice A' m' c'))
    subst h1
    by_cases eo : o = k * 5 + 4
    · subst eo
      rw [Array.getElem?_setIfInBounds] at ho
      simp only [if_true] at ho
      split at ho
      · simp only [Option.some.injEq, Value.slice.injEq] at ho
        obtain ⟨rfl, rfl, rfl⟩ := ho
        exact .inl (hv _ rfl hm)
      · cases ho
    · rw [Array.getElem?_setIfInBounds, if_neg (by omega)] at ho
      rcases h b2 cs0 hb h0 o A m c ho hm with h | h | ⟨_, h1, h2⟩
      · exact .inl h
      · exact .inr (.inl h)
      · right; right
        refine ⟨rfl, ?_, h2⟩
        obtain ⟨a0, a1, a2, a3, _⟩ := hf
        rw [h0.cell] at a0 a1 a2 a3
        have n0 : o ≠ k * 5 := by rintro rfl; rw [a0] at ho; simp at ho
        have n1 : o ≠ k * 5 + 1 := by rintro rfl; rw [a1] at ho; simp at ho
        have n2 : o ≠ k * 5 + 2 := by rintro rfl; rw [a2] at ho; simp at ho
        have n3 : o ≠ k * 5 + 3 := by rintro rfl; rw [a3] at ho; simp at ho
        omega
  · have hB' : BlkAt w b2 T cs := by
      unfold BlkAt at hB ⊢
      rw [← hB]
      exact (Below.heap_setCell w ⟨b, k * 5 + 4, none⟩ _ b2 e).symm
    rcases h b2 cs hb hB' o A m c ho hm with h | h | ⟨h1, _⟩
    · exact .inl h
    · exact .inr (.inl h)
    · exact absurd h1 e
theorem GP.nt {w' : World} (h : GP H g0 T w xs cur k n) (hn : NT Te w w') (hT : T ≠ Te) : GP H g0 T w' xs cur k n := fun b cs hb hB => h b cs hb (hn b T cs hT hB)
theorem GP.grow (h : GP H g0 T w xs cur k n) (x : Value) : GP H g0 T w (xs ++ [x]) cur k n := fun b cs hb hB o A m c ho hm => by
  rcases h b cs hb hB o A m c ho hm with h | ⟨f, a, d, h1, h2⟩ | h
  · exact .inl h
  · exact .inr (.inl ⟨f, a, d, List.mem_append_left _ h1, h2⟩)
  · exact .inr (.inr h)
theorem GP.alloc {cs' : Array Value} {m' G : Nat} (h : GP H g0 T w xs cur k n) (hc : ∀ (o : Nat) (A : Addr) (m c : Nat), cs'[o]? = some (.slice (some A) m c) → o < 5 * m') :
    GP H g0 T (w.drew.alloc (.cells cs' T)) (xs ++ [.slice (some ⟨w.heap.size, 0, none⟩) m' G]) cur k n := fun b cs hb hB o A m c ho hm => by
  by_cases e : b < w.heap.size
  · have hB' : BlkAt w b T cs := by
      unfold BlkAt at hB ⊢
      rw [← hB]
      exact (Below.heap_alloc w.drew (.cells cs' T) b e).symm
    exact h.grow _ b cs hb hB' o A m c ho hm
  · have hlt := hB.lt
    simp at hlt
    obtain rfl : b = w.heap.size := by omega
    have := BlkAt.same hB (BlkAt.made w.drew T cs')
    subst this
    exact .inr (.inl ⟨0, m', G, by simp, hc o A m c ho⟩)
theorem GP.pop {b c : Nat} {A : Option Addr} (h : GP H g0 T w (xs ++ [.slice A n c]) 0 0 0) (hA : A = some ⟨b, 0, none⟩ ∨ n = 0) : GP H g0 T w xs b 0 n := fun b2 cs hb hB o A' m c' ho hm => by
  rcases h b2 cs hb hB o A' m c' ho hm with h | ⟨f, a, d, h1, h2⟩ | ⟨_, _, h⟩
  · exact .inl h
  · rw [List.mem_append] at h1
    rcases h1 with h1 | h1
    · exact .inr (.inl ⟨f, a, d, h1, h2⟩)
    · simp only [List.mem_singleton, Value.slice.injEq] at h1
      obtain ⟨h3, rfl, rfl⟩ := h1
      rcases hA with hA | hA
      · rw [hA] at h3
        injection h3 with h3
        injection h3 with h3
        exact .inr (.inr ⟨h3, by omega, h2⟩)
      · omega
  · omega
theorem GP.done {b : Nat} (h : GP H g0 T w xs b n n) : GP H g0 T w xs 0 0 0 := fun b2 cs hb hB o A' m c' ho hm => by
  rcases h b2 cs hb hB o A' m c' ho hm with h | h | ⟨_, h1, h2⟩
  · exact .inl h
  · exact .inr (.inl h)
  · omega
theorem GP.dr (h : GP H g0 T w xs cur k n) : GP H g0 T w.drew xs cur k n := h
theorem copy_cells {I : Nat → Prop} {ys : List Value} {f : Fs} {G : Nat} (hx : Cls w I ys f) : ∀ (o : Nat) (A : Addr) (m c : Nat), (ys.toArray ++ Builtin.zeroCells zfield.cells (G - f.len))[o]? = some (.slice (some A) m c) → o < 5 * f.len := fun o A m c h => by
  have hl := hx.length
  by_cases e : o < 5 * f.len
  · exact e
  · rw [Array.getElem?_append_right (by simp; omega)] at h
    exact absurd rfl (zcell_at _ _ _ h A m c)
theorem copy_size {I : Nat → Prop} {ys : List Value} {f : Fs} {G : Nat} (hx : Cls w I ys f) (hG : f.len ≤ G) : (ys.toArray ++ Builtin.zeroCells zfield.cells (G - f.len)).size = G * 5 := by
  have hz : zfield.cells.size = 5 := rfl
  rw [Array.size_append, size_zeroCells, hz, List.size_toArray, hx.length]
  omega
theorem copy_reads {I : Nat → Prop} {ys : List Value} {f : Fs} {G : Nat} (hx : Cls w I ys f) :
    FsAt (w.drew.alloc (.cells (ys.toArray ++ Builtin.zeroCells zfield.cells (G - f.len)) T)) I f w.heap.size 0 := by
  have hb := BlkAt.made w.drew T (ys.toArray ++ Builtin.zeroCells zfield.cells (G - f.len))
  have hc : Cls (w.drew.alloc (.cells (ys.toArray ++ Builtin.zeroCells zfield.cells (G - f.len)) T)) I ys f := hx.below (bd b0 |>.trans (ba (a := w.drew) b0 _ |>.mono (by exact Nat.le_refl _)))
  refine hc.at_ fun j u hj => ?_
  rw [Nat.zero_add]
  have := hb.cell j
  rw [show w.drew.heap.size = w.heap.size from rfl] at this
  rw [this, Array.getElem?_append_left (by simpa using (List.getElem?_eq_some_iff.1 hj).1)]
  simpa using hj
end
def CW (H g0 : Nat) (T Te : TypeId) (w0 : World) (f : Fs) (vc : Value) (b k : Nat) (f1 : Fs) (v : Value) (L : List Fs) (w : World) : Prop :=
  ∃ (g cap : Nat) (xs : List Value), v = .slice (some ⟨g, 0, none⟩) L.length cap ∧ w.ownsRow H Te 1 v L.length xs ∧ CL H T w xs L ∧ CE H T w vc f ∧ (f1.len = 0 ∨ H ≤ b ∧ FB w T b ∧ FsAt w (IC H T w) f1 b 0) ∧ GP H g0 T w xs b k f1.len ∧ Below H w0 w ∧ g0 < w.heap.size ∧ H ≤ w.heap.size
section
variable {H g0 b k : Nat} {T Te : TypeId} {w0 w : World} {f f1 : Fs} {vc v : Value} {L : List Fs}
theorem CW.at_ (h : CW H g0 T Te w0 f vc b k f1 v L w) (hk : k < f1.len) : ∃ t y n s i Ai ci, f1.drop k = .cons t y n s i (f1.drop (k + 1)) ∧ H ≤ b ∧ w.cell? ⟨b, k * 5 + 4, none⟩ = some (.slice Ai i.len ci) ∧ w.frozen? ⟨b, k * 5 + 4, none⟩ = false ∧
    i.len ≤ ci ∧ (i.len = 0 ∨ ∃ b' o', Ai = some ⟨b', o', none⟩ ∧ IC H T w b' ∧ b' < w.heap.size ∧ FsAt w (IC H T w) i b' o') := by
  obtain ⟨g, cap, xs, rfl, hown, hcl, hce, hcur, hgp, hbel, hg1, hH⟩ := h
  obtain ⟨t, y, n, s, i, hdc, _⟩ := f1.drop_cons k hk
  rcases hcur with h0 | ⟨hb, hF, hf⟩
  · omega
  have hak := hf.drop k
  rw [hdc, Nat.zero_add] at hak
  obtain ⟨a0, a1, a2, a3, ⟨Ai, ci, a4, hci, hin⟩, _⟩ := hak
  obtain ⟨cs, hcs⟩ := hF
  exact ⟨t, y, n, s, i, Ai, ci, hdc, hb, a4, hcs.free _, hci, hin⟩
theorem CW.clear (hT : T ≠ Te) (h : CW H g0 T Te w0 f vc b k f1 v L w) (hk : k < f1.len) {t n : Nat} {y : Int} {s : ByteArray} {i : Fs} (hdc : f1.drop k = .cons t y n s i (f1.drop (k + 1))) (hi : i.len = 0) :
    CW H g0 T Te w0 f vc b (k + 1) f1 v L (w.setCell ⟨b, k * 5 + 4, none⟩ (.slice none 0 0)) := by
  obtain ⟨g, cap, xs, rfl, hown, hcl, hce, hcur, hgp, hbel, hg1, hH⟩ := h
  rcases hcur with h0 | ⟨hb, hF, hf⟩
  · omega
  have hak := hf.drop k
  rw [hdc, Nat.zero_add] at hak
  have hin : i = .nil := Fs.len_zero hi
  subst hin
  obtain ⟨Ai, ci, a4, _⟩ := hak.2.2.2.2.1
  have hrp : Rp H T w (w.setCell ⟨b, k * 5 + 4, none⟩ (.slice none (Fs.nil.len) 0)) := Rp.anew (j := .nil) a4 (.inl rfl) ⟨Nat.le_refl _, .inl rfl⟩
  have hne : ∀ q, (Value.slice (some ⟨g, 0, none⟩) L.length cap).ownBlock = some q → ¬ (q = b) := fun q hq e => by
    simp only [Value.ownBlock, Option.some.injEq] at hq
    subst hq e
    rcases hown.2 with ⟨h1, _⟩ | ⟨g', cap', cur, h1, _, hgg, _⟩
    · simp at h1
    · simp only [Value.slice.injEq, Option.some.injEq, Addr.mk.injEq, and_true, true_and] at h1
      obtain ⟨rfl, _⟩ := h1
      obtain ⟨cs, hcs⟩ := hF
      exact hT (HasT.one hcs.hasT ⟨_, _, hgg⟩)
  exact ⟨g, cap, xs, rfl, own_tch hown ((Tch.refl (fun q => q = b) w).put (p := ⟨b, k * 5 + 4, none⟩) (fun _ => rfl) _) hne, hcl.rp hrp, hce.rp hrp, .inr ⟨hb, hrp.2.1 b hF, hrp.1 f1 b 0 (.inr hF) hf⟩, hgp.put hF hak (fun a h => by cases h), hbel.setCell hb _, by simpa [World.setCell] using hg1, by simpa [World.setCell] using hH⟩
theorem CW.fill (hT : T ≠ Te) (h : CW H g0 T Te w0 f vc b k f1 v L w) (hk : k < f1.len) {t n : Nat} {y : Int} {s : ByteArray} {i : Fs} (hdc : f1.drop k = .cons t y n s i (f1.drop (k + 1))) 
    {ys : List Value} {G : Nat} (hG : i.len ≤ G ∧ G ≤ maxLen) (hx : Cls w (fun q => IC H T w q ∧ q < w.heap.size) ys i) {wa : World} (ha : wa = w.drew.alloc (.cells (ys.toArray ++ Builtin.zeroCells zfield.cells (G - i.len)) T))
    {g cap g3 cap3 : Nat} {xs : List Value} {w3 : World} (hv : v = .slice (some ⟨g, 0, none⟩) L.length cap) (hown : w.ownsRow H Te 1 v L.length xs)
    (hown3 : w3.ownsRow H Te 1 (.slice (some ⟨g3, 0, none⟩) (L.length + 1) cap3) (L.length + 1) (xs ++ [.slice (some ⟨w.heap.size, 0, none⟩) i.len G]))
    (hg3 : ((wa.setCell ⟨b, k * 5 + 4, none⟩ (.slice (some ⟨w.heap.size, 0, none⟩) i.len G)).alloc (.cells #[.slice (some ⟨w.heap.size, 0, none⟩) i.len G] Te)).grownBy w3 v.ownBlock)
    (hnt : NT Te ((wa.setCell ⟨b, k * 5 + 4, none⟩ (.slice (some ⟨w.heap.size, 0, none⟩) i.len G)).alloc (.cells #[.slice (some ⟨w.heap.size, 0, none⟩) i.len G] Te)) w3) :
    CW H g0 T Te w0 f vc b (k + 1) f1 (.slice (some ⟨g3, 0, none⟩) (L.length + 1) cap3) (L ++ [i]) w3 := by
  obtain ⟨g', cap', xs', hv', hown', hcl, hce, hcur, hgp, hbel, hg1, hH⟩ := h
  have hxs : xs' = xs := by
    rcases hown.2 with ⟨h1, _⟩ | ⟨g1, cap1, cur1, h1, _, hgg, _, _, _, ht⟩
    · rw [hv] at h1; simp at h1
    · rcases hown'.2 with ⟨h2, _⟩ | ⟨g2, cap2, cur2, h2, _, hgg2, _, _, _, ht2⟩
      · rw [hv] at h2; simp at h2
      · rw [h1] at h2
        simp only [Value.slice.injEq, Option.some.injEq, Addr.mk.injEq, and_true, true_and] at h2
        obtain ⟨rfl, _⟩ := h2
        rw [hgg] at hgg2
        injection hgg2 with hgg2
        injection hgg2 with hgg2
        rw [← ht, ← ht2, hgg2]
  subst hxs
  rcases hcur with h0 | ⟨hb, hF, hf⟩
  · omega
  have hak := hf.drop k
  rw [hdc, Nat.zero_add] at hak
  obtain ⟨Ai, ci, a4, hci, hin⟩ := hak.2.2.2.2.1
  have hba : Below w.heap.size w wa := by rw [ha]; exact ba (a := w) (bd b0) _
  have hra : Rp H T w wa := Rp.below hH hba
  have hsza : wa.heap.size = w.heap.size + 1 := by rw [ha]; simp
  have hFa := hra.2.1 b hF
  have hfa := hra.1 f1 b 0 (.inr hF) hf
  have hgpa : GP H g0 T wa (xs' ++ [.slice (some ⟨w.heap.size, 0, none⟩) i.len G]) b k f1.len := by rw [ha]; exact hgp.alloc (copy_cells hx)
  have hread : FsAt wa (fun q => IC H T w q ∧ q < w.heap.size) i w.heap.size 0 := by rw [ha]; exact copy_reads hx
  have hnew : FB wa T w.heap.size := by rw [ha]; exact ⟨_, BlkAt.made w.drew T _⟩
  have hia : FsAt wa (IC H T wa) i w.heap.size 0 := hread.imp fun q hq => hq.1.imp id (hra.2.1 q)
  have haka := hfa.drop k
  rw [hdc, Nat.zero_add] at haka
  obtain ⟨Aj, cj, a4', _, hinj⟩ := haka.2.2.2.2.1
  -- the place is written
  have hrb : Rp H T wa (wa.setCell ⟨b, k * 5 + 4, none⟩ (.slice (some ⟨w.heap.size, 0, none⟩) i.len G)) :=
    Rp.anew a4' (hinj.imp id fun ⟨b', o', e1, _, _, e2⟩ => ⟨b', o', e1, e2⟩) ⟨hG.1, .inr ⟨w.heap.size, 0, rfl, .inr hnew, hnew.lt, hia⟩⟩
  have hgpb := GP.put (A' := .some ⟨w.heap.size, 0, none⟩) (m' := i.len) (c' := G) hgpa hFa haka (fun a h _ => by injection h with h; subst h; exact hg1)
  have hszb : (wa.setCell ⟨b, k * 5 + 4, none⟩ (.slice (some ⟨w.heap.size, 0, none⟩) i.len G)).heap.size = w.heap.size + 1 := by simp [World.setCell, hsza]
  generalize hwb : wa.setCell ⟨b, k * 5 + 4, none⟩ (.slice (some ⟨w.heap.size, 0, none⟩) i.len G) = wb at *
  have hbc : Below wb.heap.size wb (wb.alloc (.cells #[.slice (some ⟨w.heap.size, 0, none⟩) i.len G] Te)) := ba b0 _
  have hrc : Rp H T wb (wb.alloc (.cells #[.slice (some ⟨w.heap.size, 0, none⟩) i.len G] Te)) := Rp.below (by omega) hbc
  have hgH : H ≤ g ∧ g < w.heap.size := hown.lt g (by rw [hv]; rfl)
  have hgT : HasT w g Te := by
    rcases hown.2 with ⟨h1, _⟩ | ⟨g1, cap1, cur1, h1, _, hgg, _⟩
    · rw [hv] at h1; simp at h1
    · rw [hv] at h1
      simp only [Value.slice.injEq, Option.some.injEq, Addr.mk.injEq, and_true, true_and] at h1
      obtain ⟨rfl, _⟩ := h1
      exact ⟨_, _, hgg⟩
  have hgTa : HasT wa g Te := by obtain ⟨c1, f1, h1⟩ := hgT; exact ⟨c1, f1, (hba.block g hgH.2).trans h1⟩
  have hgTb : HasT wb g Te := by rw [← hwb]; exact hgTa.put _ _
  have hgTc : HasT (wb.alloc (.cells #[.slice (some ⟨w.heap.size, 0, none⟩) i.len G] Te)) g Te := by obtain ⟨c1, f1, h1⟩ := hgTb; exact ⟨c1, f1, (hbc.block g (by omega)).trans h1⟩
  have htch : Tch (fun q => some g = some q) (wb.alloc (.cells #[.slice (some ⟨w.heap.size, 0, none⟩) i.len G] Te)) w3 := Tch.grown hg3 fun q hq _ => by rw [hv] at hq; simpa [Value.ownBlock] using hq
  have hr3 : Rp H T (wb.alloc (.cells #[.slice (some ⟨w.heap.size, 0, none⟩) i.len G] Te)) w3 := Rp.tch (by simp; omega) htch hgH.1 (fun ⟨cs, hcs⟩ => hT (HasT.one hcs.hasT hgTc))
  have hall : Rp H T wa w3 := (hrb.trans hrc).trans hr3
  have hnz : FZ wa T w.heap.size (G * 5) := by rw [ha]; exact ⟨_, BlkAt.made w.drew T _, copy_size hx hG.1⟩
  have hne : CE H T wa (.slice (some ⟨w.heap.size, 0, none⟩) i.len G) i := ⟨_, G, rfl, hG.1, .inr ⟨w.heap.size, rfl, hH, hG.2, hnz, hia⟩⟩
  have hbw : Below H w wb := by rw [← hwb]; exact (hba.mono hH).setCell hb _
  have hs3 := htch.size
  simp only [World.size_alloc, hszb] at hs3
  refine ⟨g3, cap3, _, by simp, by simpa using hown3, ((hcl.rp hra).rp hall).push (hne.rp hall), (hce.rp hra).rp hall, .inr ⟨hb, hall.2.1 b hFa, hall.1 f1 b 0 (.inr hFa) hfa⟩, (hgpb.nt (NT.alloc Te wb _) hT).nt hnt hT, ?_, by omega, by omega⟩
  exact hbel.trans ((hbw.alloc (by omega) _).trans (htch.toBelowB (by simp; omega) fun q hq e => by injection e with e; omega))
end
end Go.PM
end
