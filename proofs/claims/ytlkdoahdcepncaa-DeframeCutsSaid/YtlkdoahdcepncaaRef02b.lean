/-
  Contracts of the document's answer for layer 2, more: all numbers of a text; two lists of numbers held against each other. Conditions: texts of at most a million bytes.
-/
import Derived.Test.YtlkdoahdcepncaaRef02
namespace Go.Proofs.Ytlkdoahdcepncaa
open Go.RowKit Go.PM
set_option maxRecDepth 100000

theorem rall_any (s : ByteArray) (w : World) (hs : s.size ≤ 1000000) :
    Calls Try.prog 32 #[.string s] w fun e w' => ∃ v, e = .returned (.tuple #[v, .int .i64 ((vall s.data.toList).2 : Int)]) ∧
      w'.ownsRow w.heap.size 28 1 v (vall s.data.toList).1.length (u64s (vall s.data.toList).1) ∧ Below w.heap.size w w' := by
  have hst := AllOf.start s.data.toList
  generalize (vall s.data.toList).1 = S at hst ⊢
  generalize (vall s.data.toList).2 = c at hst ⊢
  have HST := Lib.hid hst
  clear hst
  obtain ⟨i0, hi0, hz0, hz1, hz2⟩ := info_parts info_u64
  go_enter Try.func32, Try.ntmps32
  go_wp2
  go_loopw [0, 4] (fun sl v wr => ∃ (t : ByteArray) (done : List Nat), sl = .string t ∧ AllOf S done c t.data.toList ∧ done.length + t.size ≤ s.size ∧ wr.ownsRow w.heap.size 28 1 v done.length (u64s done) ∧ Below w.heap.size w wr) (fun sl _ _ => strLen sl)
  case atStart => exact ⟨s, [], rfl, HST.out, by simp, World.ownsRow_nil _ _ _ _, b0⟩
  case round =>
    obtain ⟨t, done, rfl, hall, hlen, hown, hbel⟩ := hrel
    have HA := Lib.hid hall
    clear hall
    by_cases ht : t.size = 0
    · have he : t.data.toList = [] := by apply List.eq_nil_of_length_eq_zero; rw [len_list]; exact ht
      obtain ⟨rfl, rfl⟩ := AllOf.stop (he ▸ HA.out)
      clear he
      go_wp2
      go_ret2
      exact ⟨_, rfl, hown, hbel⟩
    · have hne : t.data.toList.length ≠ 0 := by rw [len_list]; exact ht
      have hpos : 0 < t.size := by omega
      have HNE := Lib.hid hne
      clear hne ht
      have HOWN := Lib.hid hown
      have HBEL := Lib.hid hbel
      clear hown hbel
      go_wp2_with fail
      refine (rget_any _ _ (by omega)).mono ?_
      rintro e w1 ⟨rfl, hb1⟩
      have hown := own_below HOWN.out hb1
      have hbel := bb HBEL.out hb1
      generalize hV : vget t.data.toList = V
      obtain ⟨n, m, g⟩ := V
      simp only
      have HV := Lib.hid hV
      clear hV
      by_cases hg : g = 0
      · subst hg
        have hk2 := vget_ok (s := t.data.toList) (by rw [HV.out])
        have hnx := HA.out.next HNE.out (by rw [HV.out])
        rw [HV.out] at hk2 hnx
        obtain ⟨k1, k2, k3, k4, k5⟩ := hk2
        simp only at k1 k2 k3 hnx
        rw [len_list] at k2
        have HNX := Lib.hid hnx
        have HBEL2 := Lib.hid hbel
        clear k4 k5 hnx hbel
        go_wp2_with (at_builtin; go_must (refine wpList_append_own _ rfl _ _ 48 rfl w.heap.size 28 i0 (.int .u64 0) 1 8 Try.underlying48 hi0 hz0 hz1 hz2 rfl (by decide) _ _ _ rfl (hown.alloc _) ⟨w1.heap.size, 0, none⟩ 1 1 [.int .u64 (n : Int)] rfl rfl (one_new _ _ _) (one_cell_int _ _) (by unfold maxLen; omega) (by omega) (by have := HBEL2.out.size; simp; omega) ?_); intro v1 w2 hown2 hg2 _)
        go_roundw
        case rel =>
          refine ⟨_, done ++ [n], rfl, by rw [ext_rest]; exact HNX.out, ?_, ?_, below_append (ba HBEL2.out _) (hown.alloc _) hg2⟩
          · simp
            omega
          · simpa [u64s] using hown2
        case measure =>
          simp [strLen]
          omega
      · obtain ⟨rfl, hc⟩ := HA.out.err HNE.out (by rw [HV.out]; exact hg)
        rw [HV.out] at hc
        simp only at hc
        subst hc
        have hv2 : ((c : Int) == 0) = false := by rw [beq_eq_false_iff_ne]; omega
        have hv3 : ((c : Int) != 0) = true := by rw [bne_iff_ne]; omega
        have HBEL2 := Lib.hid hbel
        clear hg hbel hown
        go_wp2
        go_ret2
        exact ⟨_, rfl, World.ownsRow_nil _ _ _ _, HBEL2.out⟩

theorem equ64 (A1 A2 : Option Addr) (c1 c2 : Nat) (xs : List Nat) (w : World) (h1 : Rd w A1 (u64s xs)) (h2 : Rd w A2 (u64s xs)) (hl : xs.length ≤ 1000000) :
    Calls Try.prog 35 #[.slice A1 xs.length c1, .slice A2 xs.length c2] w fun e w' => e = .returned (.bool true) ∧ Below w.heap.size w w' := by
  go_enter Try.func35, Try.ntmps35
  go_wp2
  go_loopw [13] (fun k wr => ∃ i : Nat, i ≤ xs.length ∧ k = .int .i64 (i : Int) ∧ Below w.heap.size w wr) (fun k _ => xs.length - (intOf k).toNat)
  case atStart => exact ⟨0, by omega, rfl, b0⟩
  case round =>
    obtain ⟨i, hi, rfl, hbel⟩ := hrel
    by_cases hlt : i < xs.length
    · obtain ⟨d1, o1, rfl, _, e1⟩ := (h1.below hbel).at_ (k := i) (by rw [u64s_length]; exact hlt)
      obtain ⟨d2, o2, rfl, _, e2⟩ := (h2.below hbel).at_ (k := i) (by rw [u64s_length]; exact hlt)
      rw [u64s_at xs i hlt] at e1 e2
      have HB := Lib.hid hbel
      have H1 := Lib.hid h1
      have H2 := Lib.hid h2
      clear hbel h1 h2
      go_wp2
      go_quiet (fail)
      go_wp2
      go_roundw
      case rel => exact ⟨i + 1, by omega, by go_num, bn HB.out _⟩
      case measure => simp [intOf]; omega
    · have HB := Lib.hid hbel
      clear hbel h1 h2
      go_wp2
      go_ret
      exact ⟨rfl, HB.out⟩
end Go.Proofs.Ytlkdoahdcepncaa
