/-
  Contracts of layer 5: all frames of a text; two lists of texts held against each other. Conditions: texts of at most a million bytes.
-/
import Derived.Test.YtlkdoahdcepncaaRef05
import Derived.Test.YtlkdoahdcepncaaVarint2
namespace Go.Proofs.Ytlkdoahdcepncaa
open Go.RowKit Go.PM
set_option maxRecDepth 100000
set_option maxHeartbeats 4000000

theorem info_str : (Try.prog.info? 9).map (fun i => (i.zero, i.size, i.bytes)) = some (some (.string ByteArray.empty), 1, 16) := by kernel_rfl

/-- All frames, on the way. -/
def FallOf (S done : List ByteArray) (c : Nat) (R : List UInt8) : Prop := (if (fall R).2 = 0 then (done ++ (fall R).1.map txt, 0) else ([], (fall R).2)) = (S, c)
theorem fall_eq (R : List UInt8) : fall R = if R.length = 0 then ([], 0) else if (fparse R).2.2 = 0 then
    (if (fall (R.drop (fparse R).2.1)).2 = 0 then ((fparse R).1 :: (fall (R.drop (fparse R).2.1)).1, 0) else ([], (fall (R.drop (fparse R).2.1)).2)) else ([], (fparse R).2.2) := by
  rw [fall]
  split
  · rfl
  · split <;> rfl
theorem FallOf.start (l : List UInt8) : FallOf ((fall l).1.map txt) [] (fall l).2 l := by
  unfold FallOf
  split
  · rename_i h; rw [h]; rfl
  · rename_i h
    have : (fall l).1 = [] := by
      rw [fall_eq] at h ⊢
      split
      · rfl
      · rename_i h1; rw [if_neg h1] at h
        split
        · rename_i h2; rw [if_pos h2] at h
          split
          · rename_i h3; rw [if_pos h3] at h; simp at h
          · rfl
        · rfl
    rw [this]
    rfl
theorem FallOf.stop {S done : List ByteArray} {c : Nat} (h : FallOf S done c []) : S = done ∧ c = 0 := by
  unfold FallOf at h
  rw [fall_eq] at h
  simp at h
  exact ⟨h.1.symm, h.2.symm⟩
theorem FallOf.err {S done : List ByteArray} {c : Nat} {R : List UInt8} (h : FallOf S done c R) (hR : R.length ≠ 0) (hv : (fparse R).2.2 ≠ 0) : S = [] ∧ c = (fparse R).2.2 := by
  unfold FallOf at h
  rw [fall_eq, if_neg hR, if_neg hv] at h
  simp [hv] at h
  exact ⟨h.1, h.2.symm⟩
theorem FallOf.next {S done : List ByteArray} {c : Nat} {R : List UInt8} (h : FallOf S done c R) (hR : R.length ≠ 0) (hv : (fparse R).2.2 = 0) : FallOf S (done ++ [txt (fparse R).1]) c (R.drop (fparse R).2.1) := by
  unfold FallOf at h ⊢
  rw [fall_eq, if_neg hR, if_pos hv] at h
  rw [← h]
  split <;> simp

theorem fall_any (s : ByteArray) (w : World) (hs : s.size ≤ 1000000) :
    Calls Try.prog 59 #[.string s] w fun e w' => ∃ v, e = .returned (.tuple #[v, .int .i64 ((fall s.data.toList).2 : Int)]) ∧
      w'.ownsRow w.heap.size 9 1 v ((fall s.data.toList).1.map txt).length (strs ((fall s.data.toList).1.map txt)) ∧ Below w.heap.size w w' := by
  have hst := FallOf.start s.data.toList
  generalize (fall s.data.toList).1.map txt = S at hst ⊢
  generalize (fall s.data.toList).2 = c at hst ⊢
  have HST := Lib.hid hst
  clear hst
  obtain ⟨i0, hi0, hz0, hz1, hz2⟩ := info_parts info_str
  go_enter Try.func59, Try.ntmps59
  go_wp2
  go_loopw [0, 4] (fun sl v wr => ∃ (t : ByteArray) (done : List ByteArray), sl = .string t ∧ FallOf S done c t.data.toList ∧ done.length + t.size ≤ s.size ∧ wr.ownsRow w.heap.size 9 1 v done.length (strs done) ∧ Below w.heap.size w wr) (fun sl _ _ => strLen sl)
  case atStart => exact ⟨s, [], rfl, HST.out, by simp, World.ownsRow_nil _ _ _ _, b0⟩
  case round =>
    obtain ⟨t, done, rfl, hall, hlen, hown, hbel⟩ := hrel
    have HA := Lib.hid hall
    clear hall
    by_cases ht : t.size = 0
    · have he : t.data.toList = [] := by apply List.eq_nil_of_length_eq_zero; rw [len_list]; exact ht
      obtain ⟨rfl, rfl⟩ := FallOf.stop (he ▸ HA.out)
      clear he
      go_wp2
      go_ret2
      exact ⟨_, rfl, hown, hbel⟩
    · have hne : t.data.toList.length ≠ 0 := by rw [len_list]; exact ht
      have hpos : 0 < t.size := by omega
      have HNE := Lib.hid hne
      clear hne ht
      have HOWN := Lib.hid hown
      have HBEL := Lib.hid hbel
      clear hown hbel
      go_wp2_with fail
      refine (parse_any _ _ (by omega)).mono ?_
      rintro e w1 ⟨rfl, hb1⟩
      have hown := own_below HOWN.out hb1
      have hbel := bb HBEL.out hb1
      generalize hV : fparse t.data.toList = V
      obtain ⟨q, m, g⟩ := V
      simp only
      have HV := Lib.hid hV
      clear hV
      by_cases hg : g = 0
      · subst hg
        have hk2 := fparse_ok (s := t.data.toList) (by rw [HV.out])
        have hnx := HA.out.next HNE.out (by rw [HV.out])
        rw [HV.out] at hk2 hnx
        obtain ⟨k1, k2, _, _, _⟩ := hk2
        simp only at k1 k2 hnx
        rw [len_list] at k2
        have HNX := Lib.hid hnx
        have HBEL2 := Lib.hid hbel
        clear hnx hbel
        go_wp2_with (at_builtin; go_must (refine wpList_append_own _ rfl _ _ 82 rfl w.heap.size 9 i0 (.string ByteArray.empty) 1 16 Try.underlying82 hi0 hz0 hz1 hz2 rfl (by decide) _ _ _ rfl (hown.alloc _) ⟨w1.heap.size, 0, none⟩ 1 1 [.string (txt q)] rfl rfl (one_new _ _ _) (one_cell_str _) (by unfold maxLen; omega) (by omega) (by have := HBEL2.out.size; simp; omega) ?_); intro v1 w2 hown2 hg2 _)
        go_roundw
        case rel =>
          refine ⟨_, done ++ [txt q], rfl, by rw [ext_rest]; exact HNX.out, ?_, ?_, below_append (ba HBEL2.out _) (hown.alloc _) hg2⟩
          · simp
            omega
          · simpa [strs] using hown2
        case measure =>
          simp [strLen]
          omega
      · obtain ⟨rfl, hc⟩ := HA.out.err HNE.out (by rw [HV.out]; exact hg)
        rw [HV.out] at hc
        simp only at hc
        subst hc
        have hv2 : ((c : Int) == 0) = false := by rw [beq_eq_false_iff_ne]; omega
        have hv3 : ((c : Int) != 0) = true := by rw [bne_iff_ne]; omega
        have HBEL2 := Lib.hid hbel
        clear hg hbel hown
        go_wp2
        go_ret2
        exact ⟨_, rfl, World.ownsRow_nil _ _ _ _, HBEL2.out⟩
theorem rfall_any (s : ByteArray) (w : World) (hs : s.size ≤ 1000000) :
    Calls Try.prog 60 #[.string s] w fun e w' => ∃ v, e = .returned (.tuple #[v, .int .i64 ((fall s.data.toList).2 : Int)]) ∧
      w'.ownsRow w.heap.size 9 1 v ((fall s.data.toList).1.map txt).length (strs ((fall s.data.toList).1.map txt)) ∧ Below w.heap.size w w' := by
  have hst := FallOf.start s.data.toList
  generalize (fall s.data.toList).1.map txt = S at hst ⊢
  generalize (fall s.data.toList).2 = c at hst ⊢
  have HST := Lib.hid hst
  clear hst
  obtain ⟨i0, hi0, hz0, hz1, hz2⟩ := info_parts info_str
  go_enter Try.func60, Try.ntmps60
  go_wp2
  go_loopw [0, 4] (fun sl v wr => ∃ (t : ByteArray) (done : List ByteArray), sl = .string t ∧ FallOf S done c t.data.toList ∧ done.length + t.size ≤ s.size ∧ wr.ownsRow w.heap.size 9 1 v done.length (strs done) ∧ Below w.heap.size w wr) (fun sl _ _ => strLen sl)
  case atStart => exact ⟨s, [], rfl, HST.out, by simp, World.ownsRow_nil _ _ _ _, b0⟩
  case round =>
    obtain ⟨t, done, rfl, hall, hlen, hown, hbel⟩ := hrel
    have HA := Lib.hid hall
    clear hall
    by_cases ht : t.size = 0
    · have he : t.data.toList = [] := by apply List.eq_nil_of_length_eq_zero; rw [len_list]; exact ht
      obtain ⟨rfl, rfl⟩ := FallOf.stop (he ▸ HA.out)
      clear he
      go_wp2
      go_ret2
      exact ⟨_, rfl, hown, hbel⟩
    · have hne : t.data.toList.length ≠ 0 := by rw [len_list]; exact ht
      have hpos : 0 < t.size := by omega
      have HNE := Lib.hid hne
      clear hne ht
      have HOWN := Lib.hid hown
      have HBEL := Lib.hid hbel
      clear hown hbel
      go_wp2_with fail
      refine (rparse_any _ _ (by omega)).mono ?_
      rintro e w1 ⟨rfl, hb1⟩
      have hown := own_below HOWN.out hb1
      have hbel := bb HBEL.out hb1
      generalize hV : fparse t.data.toList = V
      obtain ⟨q, m, g⟩ := V
      simp only
      have HV := Lib.hid hV
      clear hV
      by_cases hg : g = 0
      · subst hg
        have hk2 := fparse_ok (s := t.data.toList) (by rw [HV.out])
        have hnx := HA.out.next HNE.out (by rw [HV.out])
        rw [HV.out] at hk2 hnx
        obtain ⟨k1, k2, _, _, _⟩ := hk2
        simp only at k1 k2 hnx
        rw [len_list] at k2
        have HNX := Lib.hid hnx
        have HBEL2 := Lib.hid hbel
        clear hnx hbel
        go_wp2_with (at_builtin; go_must (refine wpList_append_own _ rfl _ _ 82 rfl w.heap.size 9 i0 (.string ByteArray.empty) 1 16 Try.underlying82 hi0 hz0 hz1 hz2 rfl (by decide) _ _ _ rfl (hown.alloc _) ⟨w1.heap.size, 0, none⟩ 1 1 [.string (txt q)] rfl rfl (one_new _ _ _) (one_cell_str _) (by unfold maxLen; omega) (by omega) (by have := HBEL2.out.size; simp; omega) ?_); intro v1 w2 hown2 hg2 _)
        go_roundw
        case rel =>
          refine ⟨_, done ++ [txt q], rfl, by rw [ext_rest]; exact HNX.out, ?_, ?_, below_append (ba HBEL2.out _) (hown.alloc _) hg2⟩
          · simp
            omega
          · simpa [strs] using hown2
        case measure =>
          simp [strLen]
          omega
      · obtain ⟨rfl, hc⟩ := HA.out.err HNE.out (by rw [HV.out]; exact hg)
        rw [HV.out] at hc
        simp only at hc
        subst hc
        have hv2 : ((c : Int) == 0) = false := by rw [beq_eq_false_iff_ne]; omega
        have hv3 : ((c : Int) != 0) = true := by rw [bne_iff_ne]; omega
        have HBEL2 := Lib.hid hbel
        clear hg hbel hown
        go_wp2
        go_ret2
        exact ⟨_, rfl, World.ownsRow_nil _ _ _ _, HBEL2.out⟩

theorem equstr (A1 A2 : Option Addr) (c1 c2 : Nat) (xs : List ByteArray) (w : World) (h1 : Rd w A1 (strs xs)) (h2 : Rd w A2 (strs xs)) (hl : xs.length ≤ 1000000) :
    Calls Try.prog 61 #[.slice A1 xs.length c1, .slice A2 xs.length c2] w fun e w' => e = .returned (.bool true) ∧ Below w.heap.size w w' := by
  go_enter Try.func61, Try.ntmps61
  go_wp2
  go_loopw [13] (fun k wr => ∃ i : Nat, i ≤ xs.length ∧ k = .int .i64 (i : Int) ∧ Below w.heap.size w wr) (fun k _ => xs.length - (intOf k).toNat)
  case atStart => exact ⟨0, by omega, rfl, b0⟩
  case round =>
    obtain ⟨i, hi, rfl, hbel⟩ := hrel
    by_cases hlt : i < xs.length
    · obtain ⟨d1, o1, rfl, _, e1⟩ := (h1.below hbel).at_ (k := i) (by rw [strs_length]; exact hlt)
      obtain ⟨d2, o2, rfl, _, e2⟩ := (h2.below hbel).at_ (k := i) (by rw [strs_length]; exact hlt)
      rw [strs_at xs i hlt] at e1 e2
      generalize xs[i] = X at e1 e2
      have HB := Lib.hid hbel
      have H1 := Lib.hid h1
      have H2 := Lib.hid h2
      clear hbel h1 h2
      go_wp2
      go_quiet (fail)
      go_wp2
      go_roundw
      case rel => exact ⟨i + 1, by omega, by go_num, bn HB.out _⟩
      case measure => simp [intOf]; omega
    · have HB := Lib.hid hbel
      clear hbel h1 h2
      go_wp2
      go_ret
      exact ⟨rfl, HB.out⟩
end Go.Proofs.Ytlkdoahdcepncaa
