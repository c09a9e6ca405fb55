/-
  Contracts of layer 4: the table of sums, the sum of some parts. Conditions: texts within int.
-/
import Derived.Test.YtmlijflappjfoaaDoorCrc
namespace Go.Proofs.YtmlijflappjfoaaDoor
open Go.RowKit Go.PM
set_option maxRecDepth 100000

/-- The table, of which k entries are laid. -/
def tabl (k : Nat) : List Value := (List.range 16).map fun i => .int .u32 (if i < k then (csteps 4 i : Int) else 0)
def tab (k : Nat) : Array Value := (tabl k).toArray
theorem tab_size (k : Nat) : (tab k).size = 16 := by simp [tab, tabl]
theorem tab_at (k i : Nat) (hi : i < 16) : (tab k)[i]? = some (.int .u32 (if i < k then (csteps 4 i : Int) else 0)) := by
  simp [tab, tabl, hi]
theorem tab_put (k : Nat) (hk : k < 16) : (tab k).setIfInBounds k (.int .u32 (csteps 4 k : Int)) = tab (k + 1) := by
  apply Array.ext_getElem?
  intro i
  rw [Array.getElem?_setIfInBounds]
  by_cases hi : i < 16
  · rw [tab_at _ _ hi, tab_at _ _ hi, tab_size]
    by_cases e : k = i
    · subst e; simp [hk]
    · rw [if_neg e]
      by_cases hik : i < k
      · rw [if_pos hik, if_pos (by omega)]
      · rw [if_neg hik, if_neg (by omega)]
  · rw [Array.getElem?_eq_none (by rw [tab_size]; omega), Array.getElem?_eq_none (by rw [tab_size]; omega)]
    simp
    omega

theorem tab_zero : tab 0 = #[.int .u32 0, .int .u32 0, .int .u32 0, .int .u32 0, .int .u32 0, .int .u32 0, .int .u32 0, .int .u32 0, .int .u32 0, .int .u32 0, .int .u32 0, .int .u32 0, .int .u32 0, .int .u32 0, .int .u32 0, .int .u32 0] := rfl
theorem tab_full : ∃ v0 v1 v2 v3 v4 v5 v6 v7 v8 v9 v10 v11 v12 v13 v14 v15 : Int, tab 16 = #[.int .u32 v0, .int .u32 v1, .int .u32 v2, .int .u32 v3, .int .u32 v4, .int .u32 v5, .int .u32 v6, .int .u32 v7, .int .u32 v8, .int .u32 v9, .int .u32 v10, .int .u32 v11, .int .u32 v12, .int .u32 v13, .int .u32 v14, .int .u32 v15] := ⟨_, _, _, _, _, _, _, _, _, _, _, _, _, _, _, _, rfl⟩
theorem reckon_any (g i : Nat) (w : World) (hg : BlkAt w g 142 (tab i)) (hi : i < 16) :
    Calls Tryd.prog 105 #[.int .i64 (i : Int), .pointer (some ⟨g, 0, none⟩)] w fun e w' => e = .returned (.tuple #[]) ∧ BlkAt w' g 142 (tab (i + 1)) ∧ w.grownBy w' (some g) := by
  have HG := Lib.hid hg
  have c0 : w.cell? ⟨g, i, none⟩ = some (.int .u32 0) := by rw [hg.cell i, tab_at _ _ hi]; simp
  have f0 := hg.free i
  clear hg
  have HR : Hid (Rb (csteps 4 i) 4 i) := ⟨rfl, by omega⟩
  generalize hY : csteps 4 i = Y at HR
  have HY := Lib.hid hY
  clear hY
  go_enter Tryd.func105, Tryd.ntmps105
  go_wp2
  go_loop [3, 6] (fun rr kk => ∃ k r : Nat, k ≤ 4 ∧ kk = .int .i64 (k : Int) ∧ rr = .int .u32 (r : Int) ∧ Rb Y (4 + k) r) (fun _ k => 4 - (intOf k).toNat)
  case atStart => exact ⟨0, i, by omega, rfl, rfl, HR.out⟩
  case round =>
    obtain ⟨k, q, hk, rfl, rfl, hrb⟩ := hrel
    by_cases hk4 : k < 4
    · have hst := hrb.step (by omega)
      have hq := hrb.2
      have hand : bits .and .u32 (q : Int) 1 = ((q % 2 : Nat) : Int) := by rw [← nat_mask1]; exact u32_and_nat q 1 hq (by omega)
      clear hrb
      by_cases hodd : q % 2 = 1
      · have ho : (((q % 2 : Nat) : Int) == 1) = true := by rw [beq_iff_eq]; omega
        have hbx : bits .xor .u32 ((q : Int) / 2) 3988292384 = ((cstep q : Nat) : Int) := by
          unfold cstep
          rw [if_pos hodd, ← u32_xor_nat _ _ (by omega) (by omega)]
          rfl
        generalize cstep q = Q at hst hbx
        have HST := Lib.hid hst
        clear hst hodd
        go_wp2
        go_round
        case rel => exact ⟨k + 1, Q, by omega, by go_num, rfl, HST.out⟩
        case measure => simp [intOf]; omega
      · have ho : (((q % 2 : Nat) : Int) == 1) = false := by rw [beq_eq_false_iff_ne]; omega
        have hbx : ((q : Int) / 2) = ((cstep q : Nat) : Int) := by
          unfold cstep
          rw [if_neg hodd]
          omega
        have HBX := Lib.hid hbx
        generalize cstep q = Q at hst HBX
        have HST := Lib.hid hst
        clear hst hodd hbx
        go_wp2
        go_round
        case rel => exact ⟨k + 1, Q, by omega, by go_num, by rw [HBX.out], HST.out⟩
        case measure => simp [intOf]; omega
    · obtain rfl : k = 4 := by omega
      have hqy : q = Y := hrb.1
      subst hqy
      clear hrb
      go_wp2
      go_end0
      refine ⟨rfl, ?_, grown_put (grown_refl _ _) _ _⟩
      have := HG.out.put i (.int .u32 (q : Int))
      rw [← HY.out, tab_put i hi] at this
      rw [← HY.out]
      exact this
theorem sums_any (w : World) :
    Calls Tryd.prog 103 #[] w fun e w' => e = .returned (.agg (tab 16)) ∧ Below w.heap.size w w' := by
  go_enter Tryd.func103, Tryd.ntmps103
  go_wp2
  go_loopw [5] (fun k wr => ∃ i : Nat, i ≤ 16 ∧ k = .int .i64 (i : Int) ∧ BlkAt wr (w.heap.size + 1) 142 (tab i) ∧ BlkAt wr w.heap.size 142 (tab 0) ∧ Below w.heap.size w wr) (fun k _ => 16 - (intOf k).toNat)
  case atStart =>
    refine ⟨0, by omega, rfl, ?_, ?_, ba (ba b0 _) _⟩
    · rw [tab_zero]
      have := BlkAt.made (w.alloc (.cells #[.int .u32 0, .int .u32 0, .int .u32 0, .int .u32 0, .int .u32 0, .int .u32 0, .int .u32 0, .int .u32 0, .int .u32 0, .int .u32 0, .int .u32 0, .int .u32 0, .int .u32 0, .int .u32 0, .int .u32 0, .int .u32 0] 142)) 142 #[.int .u32 0, .int .u32 0, .int .u32 0, .int .u32 0, .int .u32 0, .int .u32 0, .int .u32 0, .int .u32 0, .int .u32 0, .int .u32 0, .int .u32 0, .int .u32 0, .int .u32 0, .int .u32 0, .int .u32 0, .int .u32 0]
      simpa using this
    · rw [tab_zero]
      exact (BlkAt.made w _ _).more _
  case round =>
    obtain ⟨i, hi, rfl, hb, hz, hw⟩ := hrel
    have HZ := Lib.hid hz
    have hgt := hz.lt
    clear hz
    have HB := Lib.hid hb
    have HW := Lib.hid hw
    clear hb hw
    by_cases h16 : i < 16
    · go_wp2_with fail
      refine (reckon_any _ i _ HB.out h16).mono ?_
      rintro e w1 ⟨rfl, hb1, hg1⟩
      have hw1 := bg HW.out hg1 (by omega)
      have HZ1 := Lib.hid (HZ.out.step hg1 (by intro e; injection e with e; omega))
      have HB1 := Lib.hid hb1
      have HW1 := Lib.hid hw1
      clear hb1 hw1 hg1
      go_wp2
      go_round
      case rel => exact ⟨i + 1, by omega, by go_num, HB1.out, HZ1.out, HW1.out⟩
      case measure => simp [intOf]; omega
    · obtain rfl : i = 16 := by omega
      obtain ⟨v0, v1, v2, v3, v4, v5, v6, v7, v8, v9, v10, v11, v12, v13, v14, v15, hv⟩ := tab_full
      have hb := HB.out
      rw [hv] at hb
      have c0 : wr.cell? ⟨w.heap.size + 1, 0, none⟩ = some (.int .u32 v0) := hb.cell 0
      have c1 : wr.cell? ⟨w.heap.size + 1, 1, none⟩ = some (.int .u32 v1) := hb.cell 1
      have c2 : wr.cell? ⟨w.heap.size + 1, 2, none⟩ = some (.int .u32 v2) := hb.cell 2
      have c3 : wr.cell? ⟨w.heap.size + 1, 3, none⟩ = some (.int .u32 v3) := hb.cell 3
      have c4 : wr.cell? ⟨w.heap.size + 1, 4, none⟩ = some (.int .u32 v4) := hb.cell 4
      have c5 : wr.cell? ⟨w.heap.size + 1, 5, none⟩ = some (.int .u32 v5) := hb.cell 5
      have c6 : wr.cell? ⟨w.heap.size + 1, 6, none⟩ = some (.int .u32 v6) := hb.cell 6
      have c7 : wr.cell? ⟨w.heap.size + 1, 7, none⟩ = some (.int .u32 v7) := hb.cell 7
      have c8 : wr.cell? ⟨w.heap.size + 1, 8, none⟩ = some (.int .u32 v8) := hb.cell 8
      have c9 : wr.cell? ⟨w.heap.size + 1, 9, none⟩ = some (.int .u32 v9) := hb.cell 9
      have c10 : wr.cell? ⟨w.heap.size + 1, 10, none⟩ = some (.int .u32 v10) := hb.cell 10
      have c11 : wr.cell? ⟨w.heap.size + 1, 11, none⟩ = some (.int .u32 v11) := hb.cell 11
      have c12 : wr.cell? ⟨w.heap.size + 1, 12, none⟩ = some (.int .u32 v12) := hb.cell 12
      have c13 : wr.cell? ⟨w.heap.size + 1, 13, none⟩ = some (.int .u32 v13) := hb.cell 13
      have c14 : wr.cell? ⟨w.heap.size + 1, 14, none⟩ = some (.int .u32 v14) := hb.cell 14
      have c15 : wr.cell? ⟨w.heap.size + 1, 15, none⟩ = some (.int .u32 v15) := hb.cell 15
      have hz := HZ.out
      rw [tab_zero] at hz
      have z0 : wr.cell? ⟨w.heap.size, 0, none⟩ = some (.int .u32 0) := hz.cell 0
      have f0 := hz.free 0
      have z1 : wr.cell? ⟨w.heap.size, 1, none⟩ = some (.int .u32 0) := hz.cell 1
      have f1 := hz.free 1
      have z2 : wr.cell? ⟨w.heap.size, 2, none⟩ = some (.int .u32 0) := hz.cell 2
      have f2 := hz.free 2
      have z3 : wr.cell? ⟨w.heap.size, 3, none⟩ = some (.int .u32 0) := hz.cell 3
      have f3 := hz.free 3
      have z4 : wr.cell? ⟨w.heap.size, 4, none⟩ = some (.int .u32 0) := hz.cell 4
      have f4 := hz.free 4
      have z5 : wr.cell? ⟨w.heap.size, 5, none⟩ = some (.int .u32 0) := hz.cell 5
      have f5 := hz.free 5
      have z6 : wr.cell? ⟨w.heap.size, 6, none⟩ = some (.int .u32 0) := hz.cell 6
      have f6 := hz.free 6
      have z7 : wr.cell? ⟨w.heap.size, 7, none⟩ = some (.int .u32 0) := hz.cell 7
      have f7 := hz.free 7
      have z8 : wr.cell? ⟨w.heap.size, 8, none⟩ = some (.int .u32 0) := hz.cell 8
      have f8 := hz.free 8
      have z9 : wr.cell? ⟨w.heap.size, 9, none⟩ = some (.int .u32 0) := hz.cell 9
      have f9 := hz.free 9
      have z10 : wr.cell? ⟨w.heap.size, 10, none⟩ = some (.int .u32 0) := hz.cell 10
      have f10 := hz.free 10
      have z11 : wr.cell? ⟨w.heap.size, 11, none⟩ = some (.int .u32 0) := hz.cell 11
      have f11 := hz.free 11
      have z12 : wr.cell? ⟨w.heap.size, 12, none⟩ = some (.int .u32 0) := hz.cell 12
      have f12 := hz.free 12
      have z13 : wr.cell? ⟨w.heap.size, 13, none⟩ = some (.int .u32 0) := hz.cell 13
      have f13 := hz.free 13
      have z14 : wr.cell? ⟨w.heap.size, 14, none⟩ = some (.int .u32 0) := hz.cell 14
      have f14 := hz.free 14
      have z15 : wr.cell? ⟨w.heap.size, 15, none⟩ = some (.int .u32 0) := hz.cell 15
      have f15 := hz.free 15
      clear hb hz
      have hend := (((((((((((((((HZ.out.put 0 (.int .u32 v0)).put 1 (.int .u32 v1)).put 2 (.int .u32 v2)).put 3 (.int .u32 v3)).put 4 (.int .u32 v4)).put 5 (.int .u32 v5)).put 6 (.int .u32 v6)).put 7 (.int .u32 v7)).put 8 (.int .u32 v8)).put 9 (.int .u32 v9)).put 10 (.int .u32 v10)).put 11 (.int .u32 v11)).put 12 (.int .u32 v12)).put 13 (.int .u32 v13)).put 14 (.int .u32 v14)).put 15 (.int .u32 v15)
      rw [tab_zero] at hend
      simp only [List.setIfInBounds_toArray, List.set] at hend
      rw [← hv] at hend
      have HE := Lib.hid hend
      clear hend
      go_wp2
      exact bodyPost_ret_by (results_cell_row Tryd.results103 _ _ w.heap.size 142 (tab 16) (0, 0) _ rfl HE.out Tryd.underlying142 rfl (by kernel_rfl)) rfl ⟨rfl, (bs (bs (bs (bs (bs (bs (bs (bs (bs (bs (bs (bs (bs (bs (bs (bs HW.out (by simp) _) (by simp) _) (by simp) _) (by simp) _) (by simp) _) (by simp) _) (by simp) _) (by simp) _) (by simp) _) (by simp) _) (by simp) _) (by simp) _) (by simp) _) (by simp) _) (by simp) _) (by simp) _)⟩
end Go.Proofs.YtmlijflappjfoaaDoor
