/-
  Contracts of layer 2, more: a cursor's next number, all numbers of a text, and the document's answers. Conditions: numbers within uint64, texts of at most a million bytes where lists are made.
-/
import Derived.Test.YtlkdoahdcepncaaVarint
import Derived.Test.YtlkdoahdcepncaaCursor
import Derived.Test.YtlkdoahdcepncaaSl
import Derived.Test.YtlkdoahdcepncaaReg
namespace Go.Proofs.Ytlkdoahdcepncaa
open Go.RowKit Go.PM
set_option maxRecDepth 100000

theorem next_nil (w : World) : Calls Try.prog 29 #[.pointer none] w fun e w' => e = .returned (.tuple #[.int .u64 0, .int .i64 25]) ∧ Below w.heap.size w w' := by
  go_enter Try.func29, Try.ntmps29
  go_wp2
  go_ret2
  exact ⟨rfl, b0⟩

theorem next_any (b : Nat) (s : ByteArray) (k : Nat) (w : World) (h : Cur w b s k) :
    Calls Try.prog 29 #[.pointer (some ⟨b, 0, none⟩)] w fun e w' =>
      e = .returned (.tuple #[.int .u64 ((vget (s.data.toList.drop k)).1 : Int), .int .i64 ((vget (s.data.toList.drop k)).2.2 : Int)]) ∧ Cur w' b s (k + (vget (s.data.toList.drop k)).2.1) ∧ w.grownBy w' (some b) := by
  have H := Lib.hid h
  have hk := h.2.1
  have hs := h.2.2
  generalize hV : vget (s.data.toList.drop k) = V
  obtain ⟨n, m, g⟩ := V
  simp only
  have HV := Lib.hid hV
  clear h hV
  go_enter Try.func29, Try.ntmps29
  go_wp2_with (go_at_call 23; refine (cur_rest b s k _ H.out).mono ?_; rintro e w1 ⟨rfl, hb1⟩)
  refine (get_any _ _ (by simp; omega)).mono ?_
  rintro e w2 ⟨rfl, hb2⟩
  rw [ext_rest, HV.out]
  have hc : Cur w2 b s k := ⟨(H.out.1.below hb1 H.out.1.lt).below hb2 (by have := hb1.size; have := H.out.1.lt; omega), hk, hs⟩
  have HC := Lib.hid hc
  clear hc
  by_cases hv : g = 0
  · subst hv
    have hk2 := vget_ok (s := s.data.toList.drop k) (by rw [HV.out])
    rw [HV.out] at hk2
    obtain ⟨k1, k2, k3, k4, k5⟩ := hk2
    simp only at k1 k2 k3
    rw [List.length_drop, len_list] at k2
    clear k4 k5
    go_wp2_with (go_at_call 21; refine (cur_take_yes b s k (m : Int) _ HC.out (by omega) (by omega)).mono ?_; rintro e w3 ⟨rfl, hc3, hg3⟩)
    go_ret2
    exact ⟨rfl, by simpa using hc3, grown_trans (grown_of_below (bb hb1 hb2) _) hg3 (fun x e _ => e)⟩
  · have hve := vget_err (s := s.data.toList.drop k) (by rw [HV.out]; exact hv)
    rw [HV.out] at hve
    obtain ⟨rfl, rfl⟩ : n = 0 ∧ m = 0 := by simpa using hve
    have hv2 : ((g : Int) == 0) = false := by rw [beq_eq_false_iff_ne]; omega
    have hv3 : ((g : Int) != 0) = true := by rw [bne_iff_ne]; omega
    clear hve hv
    go_wp2_with fail
    go_ret2
    exact ⟨rfl, HC.out, grown_of_below (bb hb1 hb2) _⟩

theorem info_u64 : (Try.prog.info? 28).map (fun i => (i.zero, i.size, i.bytes)) = some (some (.int .u64 0), 1, 8) := by kernel_rfl

/-- Of a text, what All has gathered, and what is left. -/
def AllOf (S done : List Nat) (c : Nat) (R : List UInt8) : Prop := (if (vall R).2 = 0 then (done ++ (vall R).1, 0) else ([], (vall R).2)) = (S, c)
theorem AllOf.start (l : List UInt8) : AllOf (vall l).1 [] (vall l).2 l := by
  unfold AllOf
  split
  · rename_i h; rw [h]; rfl
  · rename_i h
    have : (vall l).1 = [] := by
      rw [vall] at h ⊢
      split
      · rfl
      · rename_i h1; rw [if_neg h1] at h
        split
        · rename_i h2; rw [dif_pos h2] at h
          simp only at h ⊢
          split
          · rename_i h3; rw [if_pos h3] at h; simp at h
          · rfl
        · rfl
    rw [this]
theorem AllOf.stop {S done : List Nat} {c : Nat} (h : AllOf S done c []) : S = done ∧ c = 0 := by
  unfold AllOf at h
  rw [vall] at h
  simp at h
  exact ⟨h.1.symm, h.2.symm⟩
theorem AllOf.err {S done : List Nat} {c : Nat} {R : List UInt8} (h : AllOf S done c R) (hR : R.length ≠ 0) (hv : (vget R).2.2 ≠ 0) : S = [] ∧ c = (vget R).2.2 := by
  unfold AllOf at h
  rw [vall, if_neg hR, dif_neg hv] at h
  simp [hv] at h
  exact ⟨h.1, h.2.symm⟩
theorem AllOf.next {S done : List Nat} {c : Nat} {R : List UInt8} (h : AllOf S done c R) (hR : R.length ≠ 0) (hv : (vget R).2.2 = 0) : AllOf S (done ++ [(vget R).1]) c (R.drop (vget R).2.1) := by
  unfold AllOf at h ⊢
  rw [vall, if_neg hR, dif_pos hv] at h
  simp only at h
  rw [← h]
  split <;> simp

theorem all_any (s : ByteArray) (w : World) (hs : s.size ≤ 1000000) :
    Calls Try.prog 31 #[.string s] w fun e w' => ∃ v, e = .returned (.tuple #[v, .int .i64 ((vall s.data.toList).2 : Int)]) ∧
      w'.ownsRow w.heap.size 28 1 v (vall s.data.toList).1.length (u64s (vall s.data.toList).1) ∧ Below w.heap.size w w' := by
  have hst := AllOf.start s.data.toList
  generalize (vall s.data.toList).1 = S at hst ⊢
  generalize (vall s.data.toList).2 = c at hst ⊢
  have HST := Lib.hid hst
  clear hst
  obtain ⟨i0, hi0, hz0, hz1, hz2⟩ := info_parts info_u64
  go_enter Try.func31, Try.ntmps31
  go_wp2
  go_loopw [0, 4] (fun sl v wr => ∃ (t : ByteArray) (done : List Nat), sl = .string t ∧ AllOf S done c t.data.toList ∧ done.length + t.size ≤ s.size ∧ wr.ownsRow w.heap.size 28 1 v done.length (u64s done) ∧ Below w.heap.size w wr) (fun sl _ _ => strLen sl)
  case atStart => exact ⟨s, [], rfl, HST.out, by simp, World.ownsRow_nil _ _ _ _, b0⟩
  case round =>
    obtain ⟨t, done, rfl, hall, hlen, hown, hbel⟩ := hrel
    have HA := Lib.hid hall
    clear hall
    by_cases ht : t.size = 0
    · have he : t.data.toList = [] := by apply List.eq_nil_of_length_eq_zero; rw [len_list]; exact ht
      obtain ⟨rfl, rfl⟩ := AllOf.stop (he ▸ HA.out)
      clear he
      go_wp2
      go_ret2
      exact ⟨_, rfl, hown, hbel⟩
    · have hne : t.data.toList.length ≠ 0 := by rw [len_list]; exact ht
      have hpos : 0 < t.size := by omega
      have HNE := Lib.hid hne
      clear hne ht
      have HOWN := Lib.hid hown
      have HBEL := Lib.hid hbel
      clear hown hbel
      go_wp2_with fail
      refine (get_any _ _ (by omega)).mono ?_
      rintro e w1 ⟨rfl, hb1⟩
      have hown := own_below HOWN.out hb1
      have hbel := bb HBEL.out hb1
      generalize hV : vget t.data.toList = V
      obtain ⟨n, m, g⟩ := V
      simp only
      have HV := Lib.hid hV
      clear hV
      by_cases hg : g = 0
      · subst hg
        have hk2 := vget_ok (s := t.data.toList) (by rw [HV.out])
        have hnx := HA.out.next HNE.out (by rw [HV.out])
        rw [HV.out] at hk2 hnx
        obtain ⟨k1, k2, k3, k4, k5⟩ := hk2
        simp only at k1 k2 k3 hnx
        rw [len_list] at k2
        have HNX := Lib.hid hnx
        have HBEL2 := Lib.hid hbel
        clear k4 k5 hnx hbel
        go_wp2_with (at_builtin; go_must (refine wpList_append_own _ rfl _ _ 48 rfl w.heap.size 28 i0 (.int .u64 0) 1 8 Try.underlying48 hi0 hz0 hz1 hz2 rfl (by decide) _ _ _ rfl (hown.alloc _) ⟨w1.heap.size, 0, none⟩ 1 1 [.int .u64 (n : Int)] rfl rfl (one_new _ _ _) (one_cell_int _ _) (by unfold maxLen; omega) (by omega) (by have := HBEL2.out.size; simp; omega) ?_); intro v1 w2 hown2 hg2 _)
        go_roundw
        case rel =>
          refine ⟨_, done ++ [n], rfl, by rw [ext_rest]; exact HNX.out, ?_, ?_, below_append (ba HBEL2.out _) (hown.alloc _) hg2⟩
          · simp
            omega
          · simpa [u64s] using hown2
        case measure =>
          simp [strLen]
          omega
      · obtain ⟨rfl, hc⟩ := HA.out.err HNE.out (by rw [HV.out]; exact hg)
        rw [HV.out] at hc
        simp only at hc
        subst hc
        have hv2 : ((c : Int) == 0) = false := by rw [beq_eq_false_iff_ne]; omega
        have hv3 : ((c : Int) != 0) = true := by rw [bne_iff_ne]; omega
        have HBEL2 := Lib.hid hbel
        clear hg hbel hown
        go_wp2
        go_ret2
        exact ⟨_, rfl, World.ownsRow_nil _ _ _ _, HBEL2.out⟩
end Go.Proofs.Ytlkdoahdcepncaa
