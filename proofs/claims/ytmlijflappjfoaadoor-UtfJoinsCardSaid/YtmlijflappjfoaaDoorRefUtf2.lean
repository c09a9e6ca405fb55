/-
  The document's answers of layer 7 over whole texts, walked. Conditions: texts within int.
-/
import Derived.Test.YtmlijflappjfoaaDoorRefUtf
namespace Go.Proofs.YtmlijflappjfoaaDoor
open Go.RowKit Go.PM
set_option maxRecDepth 100000
set_option maxHeartbeats 1000000

theorem list_nil {t : ByteArray} (h : t.size = 0) : t.data.toList = [] := List.eq_nil_of_length_eq_zero (by rw [len_list]; exact h)
theorem list_ne {t : ByteArray} (h : ¬ t.size = 0) : t.data.toList ≠ [] := fun e => h (by rw [← len_list, e]; rfl)
theorem rgood_any (s : ByteArray) (w : World) (hs : s.size ≤ 9223372036854775807) :
    Calls Tryd.prog 16 #[.string s] w fun e w' => e = .returned (.bool (ugood s.data.toList)) ∧ Below w.heap.size w w' := by
  generalize hG : ugood s.data.toList = G
  have HG := Lib.hid hG
  clear hG
  go_enter Tryd.func16, Tryd.ntmps16
  go_wp2
  go_loopw [0] (fun sl wr => ∃ t : ByteArray, sl = .string t ∧ t.size ≤ s.size ∧ Hid (ugood t.data.toList = G) ∧ Below w.heap.size w wr) (fun sl _ => strLen sl)
  case atStart => exact ⟨s, rfl, Nat.le_refl _, HG, b0⟩
  case round =>
    obtain ⟨t, rfl, hle, hg, hbel⟩ := hrel
    have HB := Lib.hid hbel
    clear hbel
    by_cases ht : t.size = 0
    · have hg2 := hg.out
      rw [list_nil ht, ugood_nil] at hg2
      subst hg2
      go_wp2
      go_ret
      exact ⟨rfl, HB.out⟩
    · have hpos : 0 < t.size := by omega
      have hne := list_ne ht
      have hu := ufirst_le4 t.data.toList
      have HF : Hid (∀ x : World, Calls Tryd.prog 49 #[.string t] x fun e w' => e = .returned (.int .i64 (ufirst t.data.toList : Int)) ∧ Below x.heap.size x w') := fun x => rfirst_any t x (by omega)
      have hg2 := hg.out
      by_cases hz : ufirst t.data.toList = 0
      · rw [ugood_zero hz hne] at hg2
        subst hg2
        rw [hz] at HF
        clear hz hu ht hne
        go_wp2_with fail
        refine (HF.out _).mono ?_
        rintro e w1 ⟨rfl, hb1⟩
        go_wp2
        go_ret
        exact ⟨rfl, bb HB.out hb1⟩
      · rw [ugood_step hz] at hg2
        have hl := ufirst_le hz
        rw [len_list] at hl
        obtain ⟨l1, l2, _⟩ := hl
        have hn0 : ((ufirst t.data.toList : Int) == 0) = false := by rw [beq_eq_false_iff_ne]; omega
        generalize ufirst t.data.toList = k at *
        have HG2 := Lib.hid hg2
        clear hg2 hz hne ht
        go_wp2_with fail
        refine (HF.out _).mono ?_
        rintro e w1 ⟨rfl, hb1⟩
        go_wp2
        go_roundw
        case rel => exact ⟨_, rfl, by simp; omega, by show _ = _; rw [ext_rest]; exact HG2.out, bb HB.out hb1⟩
        case measure => simp [strLen]; omega
theorem rcount_any (s : ByteArray) (w : World) (hs : s.size ≤ 9223372036854775806) :
    Calls Tryd.prog 21 #[.string s] w fun e w' => e = .returned (.int .i64 (ucount s.data.toList : Int)) ∧ Below w.heap.size w w' := by
  generalize hG : ucount s.data.toList = G
  have HG := Lib.hid hG
  clear hG
  go_enter Tryd.func21, Tryd.ntmps21
  go_wp2
  go_loopw [0, 3] (fun sl nn wr => ∃ (t : ByteArray) (n : Nat), sl = .string t ∧ nn = .int .i64 (n : Int) ∧ n + t.size ≤ s.size ∧ Hid (n + ucount t.data.toList = G) ∧ Below w.heap.size w wr) (fun sl _ _ => strLen sl)
  case atStart => exact ⟨s, 0, rfl, rfl, by omega, by show _ = _; rw [Nat.zero_add]; exact HG.out, b0⟩
  case round =>
    obtain ⟨t, n, rfl, rfl, hle, hg, hbel⟩ := hrel
    have HB := Lib.hid hbel
    clear hbel
    by_cases ht : t.size = 0
    · have hg2 := hg.out
      rw [list_nil ht, ucount_nil, Nat.add_zero] at hg2
      subst hg2
      go_wp2
      go_ret
      exact ⟨rfl, HB.out⟩
    · have hpos : 0 < t.size := by omega
      have hne := list_ne ht
      have hu := ufirst_le4 t.data.toList
      have HF : Hid (∀ x : World, Calls Tryd.prog 49 #[.string t] x fun e w' => e = .returned (.int .i64 (ufirst t.data.toList : Int)) ∧ Below x.heap.size x w') := fun x => rfirst_any t x (by omega)
      have hg2 := hg.out
      rw [ucount_step hne] at hg2
      have hl2 : ufirst t.data.toList ≤ t.size := by
        by_cases hz : ufirst t.data.toList = 0
        · omega
        · have := ufirst_le hz
          rw [len_list] at this
          exact this.2.1
      have hk1 : 1 ≤ max 1 (ufirst t.data.toList) ∧ max 1 (ufirst t.data.toList) ≤ t.size := by omega
      have hmx : (max 1 (ufirst t.data.toList : Int)).toNat = max 1 (ufirst t.data.toList) := by omega
      generalize ufirst t.data.toList = k at *
      have HG2 := Lib.hid hg2
      have HMX := Lib.hid hmx
      clear hg2 hne ht hmx
      obtain ⟨k1, k2⟩ := hk1
      have k3 : max 1 (k : Int) ≤ (t.size : Int) := by omega
      have k4 : 0 ≤ max 1 (k : Int) := by omega
      go_wp2_with fail
      refine (HF.out _).mono ?_
      rintro e w1 ⟨rfl, hb1⟩
      go_wp2
      go_roundw
      case rel => exact ⟨_, n + 1, rfl, by go_num, by rw [HMX.out, ByteArray.size_extract]; omega, by show _ = _; rw [HMX.out, ext_rest]; have := HG2.out; omega, bb HB.out hb1⟩
      case measure =>
        show (t.extract _ _).size < t.size
        rw [HMX.out, ByteArray.size_extract]
        omega
theorem rcheck_any (s : ByteArray) (least most : Int) (w : World) (hs : s.size ≤ 9223372036854775807) (_hT : True) :
    Calls Tryd.prog 20 #[.string s, .int .i64 least, .int .i64 most] w fun e w' => e = .returned (.int .i64 (uchk s.data.toList least most)) ∧ Below w.heap.size w w' := by
  unfold uchk
  rw [len_list]
  have HG : Hid (Calls Tryd.prog 16 #[.string s] w fun e w' => e = .returned (.bool (ugood s.data.toList)) ∧ Below w.heap.size w w') := rgood_any s w hs
  try clear hT
  by_cases h1 : (s.size : Int) < least
  · rw [if_pos (.inl h1)]
    go_enter Tryd.func20, Tryd.ntmps20
    go_wp2
    go_ret
    exact ⟨rfl, b0⟩
  · by_cases h2 : most < (s.size : Int)
    · rw [if_pos (.inr h2)]
      go_enter Tryd.func20, Tryd.ntmps20
      go_wp2
      go_ret
      exact ⟨rfl, b0⟩
    · rw [if_neg (by omega)]
      cases hg : ugood s.data.toList with
      | true =>
        rw [hg] at HG
        clear hg
        go_enter Tryd.func20, Tryd.ntmps20
        go_wp2_with fail
        refine HG.out.mono ?_
        rintro e w1 ⟨rfl, hb⟩
        go_wp2
        go_ret
        exact ⟨rfl, hb⟩
      | false =>
        rw [hg] at HG
        clear hg
        go_enter Tryd.func20, Tryd.ntmps20
        go_wp2_with fail
        refine HG.out.mono ?_
        rintro e w1 ⟨rfl, hb⟩
        go_wp2
        go_ret
        exact ⟨rfl, hb⟩

/-- Where the document cuts a good text. -/
def rcut (l : List UInt8) (most : Int) : Nat := if most < 0 then 0 else utrim l most.toNat
theorem pcut_rcut (l : List UInt8) (most : Int) (h : ugood l = true) : pcut l most = rcut l most := by
  unfold pcut rcut
  by_cases h0 : most < 0
  · rw [if_pos h0, if_pos h0]
  · rw [if_neg h0, if_neg h0]
    by_cases h1 : (l.length : Int) ≤ most
    · rw [if_pos h1, utrim_all l h _ (by omega)]
    · rw [if_neg h1, ptrim_utrim l h _ (by omega)]
theorem pcut_good (l : List UInt8) (most : Int) (h : ugood l = true) : ugood (l.take (pcut l most)) = true := by
  rw [pcut_rcut l most h]
  unfold rcut
  split
  · simp [ugood_nil]
  · exact utrim_good l h _
theorem pcut_le (l : List UInt8) (most : Int) : pcut l most ≤ l.length ∧ (pcut l most : Int) ≤ max most 0 := by
  unfold pcut
  split
  · omega
  · split
    · omega
    · have := ptrim_le l most.toNat
      omega
theorem rtrim_any (s : ByteArray) (most : Int) (w : World) (hs : s.size ≤ 9223372036854775000) (hm : InI64 most) (hg : ugood s.data.toList = true) :
    Calls Tryd.prog 18 #[.string s, .int .i64 most] w fun e w' => e = .returned (.string (txt (s.data.toList.take (rcut s.data.toList most)))) ∧ Below w.heap.size w w' := by
  have H0 : Hid (ugood (s.data.toList.drop 0) = true ∧ rcut s.data.toList most = 0 + (if most < 0 then 0 else utrim (s.data.toList.drop 0) (most - (0 : Nat)).toNat)) := by
    refine ⟨by rw [List.drop_zero]; exact hg, ?_⟩
    unfold rcut
    rw [List.drop_zero, Nat.zero_add, Int.natCast_zero, Int.sub_zero]
  generalize rcut s.data.toList most = R at H0 ⊢
  have HM := Lib.hid hm
  clear hm hg
  go_enter Tryd.func18, Tryd.ntmps18
  go_wp2
  go_loopw [5] (fun aa wr => ∃ k : Nat, aa = .int .i64 (k : Int) ∧ k ≤ s.size ∧ ((k : Int) ≤ most ∨ k = 0) ∧ Hid (ugood (s.data.toList.drop k) = true ∧ R = k + (if most < 0 then 0 else utrim (s.data.toList.drop k) (most - k).toNat)) ∧ Below w.heap.size w wr) (fun aa _ => s.size - (intOf aa).toNat)
  case atStart => exact ⟨0, rfl, by omega, .inr rfl, H0, b0⟩
  case round =>
    obtain ⟨k, rfl, hk, hkm, hr, hbel⟩ := hrel
    have HB := Lib.hid hbel
    clear hbel H0
    by_cases hlt : k < s.size
    · have hlen : (s.extract k s.size).data.toList = s.data.toList.drop k := ext_rest s k
      have hne : s.data.toList.drop k ≠ [] := fun e => by
        have := congrArg List.length e
        rw [List.length_drop, len_list] at this
        simp at this
        omega
      have hf := ugood_first hr.out.1 hne
      have hl := ufirst_le hf
      rw [List.length_drop, len_list] at hl
      obtain ⟨l1, l2, l4⟩ := hl
      have HF : Hid (∀ x : World, Calls Tryd.prog 49 #[.string (s.extract k s.size)] x fun e w' => e = .returned (.int .i64 (ufirst (s.data.toList.drop k) : Int)) ∧ Below x.heap.size x w') := fun x => by
        have := rfirst_any (s.extract k s.size) x (by rw [ByteArray.size_extract]; omega)
        rw [hlen] at this
        exact this
      by_cases hgo : (k : Int) + ufirst (s.data.toList.drop k) ≤ most
      · have hnx : ugood (s.data.toList.drop (k + ufirst (s.data.toList.drop k))) = true ∧ R = (k + ufirst (s.data.toList.drop k) : Nat) + (if most < 0 then 0 else utrim (s.data.toList.drop (k + ufirst (s.data.toList.drop k))) (most - (k + ufirst (s.data.toList.drop k) : Nat)).toNat) := by
          refine ⟨?_, ?_⟩
          · rw [← List.drop_drop, ← ugood_step hf]
            exact hr.out.1
          · have h2 := hr.out.2
            rw [if_neg (by omega)] at h2 ⊢
            rw [utrim_go hf (by omega), List.drop_drop] at h2
            rw [h2, show (most - (k : Int)).toNat - ufirst (s.data.toList.drop k) = (most - ((k + ufirst (s.data.toList.drop k) : Nat) : Int)).toNat by omega]
            omega
        generalize ufirst (s.data.toList.drop k) = j at *
        have HNX := Lib.hid hnx
        clear hnx hr hf hne hlen
        go_wp2_with fail
        refine (HF.out _).mono ?_
        rintro e w1 ⟨rfl, hb1⟩
        go_wp2_with fail
        refine (HF.out _).mono ?_
        rintro e w2 ⟨rfl, hb2⟩
        go_wp2
        go_roundw
        case rel => exact ⟨k + j, by go_num, by omega, .inl (by omega), HNX, bb (bb HB.out hb1) hb2⟩
        case measure => simp [intOf]; omega
      · have hR : R = k := by
          have h2 := hr.out.2
          by_cases hm0 : most < 0
          · rw [if_pos hm0] at h2; omega
          · rw [if_neg hm0, utrim_stop (by omega)] at h2; omega
        subst hR
        generalize ufirst (s.data.toList.drop R) = j at *
        clear hr hf hne hlen
        have hgo2 : ¬ ((R : Int) + (j : Int) ≤ most) := hgo
        go_wp2_with fail
        refine (HF.out _).mono ?_
        rintro e w1 ⟨rfl, hb1⟩
        go_wp2
        go_ret
        refine ⟨?_, bb HB.out hb1⟩
        have e : s.extract 0 R = txt (s.data.toList.take R) := txt_eq (by rw [ext_list, List.drop_zero, Nat.sub_zero])
        rw [← e]
        rfl
    · have hR : R = k := by
        have h2 := hr.out.2
        have hd : s.data.toList.drop k = [] := List.drop_eq_nil_of_le (by rw [len_list]; omega)
        rw [hd, utrim_zero ufirst_nil] at h2
        split at h2 <;> omega
      subst hR
      clear hr
      go_wp2
      go_ret
      refine ⟨?_, HB.out⟩
      have e : s.extract 0 R = txt (s.data.toList.take R) := txt_eq (by rw [ext_list, List.drop_zero, Nat.sub_zero])
      rw [← e]
      rfl
end Go.Proofs.YtmlijflappjfoaaDoor
