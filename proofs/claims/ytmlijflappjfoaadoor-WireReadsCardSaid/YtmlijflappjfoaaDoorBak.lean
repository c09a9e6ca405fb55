/-
  Texts of the proof, joined: RefUtf RefUtf2 UtfLaw FldLaw. Conditions: as each names.
-/
import Derived.Test.YtmlijflappjfoaaDoorBaj
import Derived.Test.YtmlijflappjfoaaDoorBah

section
/-
  The document's answers of layer 7, walked. Conditions: texts within int.
-/
namespace Go.Proofs.YtmlijflappjfoaaDoor
open Go.RowKit Go.PM
set_option maxRecDepth 100000
set_option maxHeartbeats 1000000

theorem list_cons (s : ByteArray) (h : 0 < s.size) : s.data.toList = s[0] :: s.data.toList.drop 1 := by
  have := List.drop_eq_getElem_cons (l := s.data.toList) (i := 0) (by rw [len_list]; exact h)
  rw [List.drop_zero] at this
  exact this
theorem get_at (s : ByteArray) (k : Nat) (_ : k < s.size) (h' : k < s.data.toList.length) : s.data.toList[k] = s[k] := by simp; rfl
theorem rfirst_any (s : ByteArray) (w : World) (hs : s.size ≤ 9223372036854775807) :
    Calls Tryd.prog 49 #[.string s] w fun e w' => e = .returned (.int .i64 (ufirst s.data.toList : Int)) ∧ Below w.heap.size w w' := by
  by_cases h0 : s.size = 0
  · have hl : s.data.toList = [] := List.eq_nil_of_length_eq_zero (by rw [len_list]; exact h0)
    rw [hl, ufirst_nil]
    clear hl
    go_enter Tryd.func49, Tryd.ntmps49
    go_wp2
    go_ret
    exact ⟨rfl, b0⟩
  · have hpos : 0 < s.size := by omega
    have hcons := list_cons s hpos
    have ha := s[0].toNat_lt
    clear h0
    by_cases h128 : s[0].toNat < 128
    · rw [hcons, ufirst_lo h128]
      clear hcons
      go_enter Tryd.func49, Tryd.ntmps49
      go_wp2
      go_ret
      exact ⟨rfl, b0⟩
    by_cases h192 : s[0].toNat < 192
    · have hcl : uclass s[0].toNat = none := by unfold uclass; rw [if_neg (by omega), if_neg (by omega), if_neg (by omega)]
      rw [hcons, ufirst_hi h128, hcl]
      clear hcons hcl
      go_enter Tryd.func49, Tryd.ntmps49
      go_wp2
      go_ret
      exact ⟨rfl, b0⟩
    by_cases h224 : s[0].toNat < 224
    · have hcl : uclass s[0].toNat = some (2, s[0].toNat - 192, 128) := by unfold uclass; rw [if_pos (by omega)]
      have hF : ufirst s.data.toList = match uacc (s[0].toNat - 192) (2 - 1) (s.data.toList.drop 1) with
          | none => 0
          | some n => if ubad n 128 then 0 else 2 := by
        rw [hcons, ufirst_hi h128, hcl, List.drop_succ_cons, List.drop_zero]
        rfl
      rw [hF]
      clear hF hcl hcons
      by_cases hlen : s.size < 2
      · have hn : uacc (s[0].toNat - 192) (2 - 1) (s.data.toList.drop 1) = none := by
          cases hu : uacc (s[0].toNat - 192) (2 - 1) (s.data.toList.drop 1) with
          | none => rfl
          | some m =>
            have := uacc_len _ _ _ _ hu
            rw [List.length_drop, len_list] at this
            omega
        rw [hn]
        clear hn
        go_enter Tryd.func49, Tryd.ntmps49
        go_wp2
        go_ret
        exact ⟨rfl, b0⟩
      · have H0 : Hid (Ua s.data.toList 2 (s[0].toNat - 192) 1 (s[0].toNat - 192)) := ⟨by omega, by omega, by simp [ub]; omega, rfl⟩
        have hsub : ((s[0].toNat - 192 : Nat) : Int) = (s[0].toNat : Int) - 192 := by omega
        generalize hN : s[0].toNat - 192 = n0 at H0 hsub ⊢
        have HN := Lib.hid hN
        clear hN
        have HSUB := Lib.hid hsub
        clear hsub
        generalize hR : (match uacc n0 (2 - 1) (s.data.toList.drop 1) with
          | none => 0
          | some n => if ubad n 128 then 0 else 2) = R
        have HR := Lib.hid hR
        clear hR
        have d1 : decide ((s[0].toNat : Int) < 128) = false := by simp; omega
        have d2 : decide ((s[0].toNat : Int) < 224) = true := by simp; omega
        have d3 : decide ((s[0].toNat : Int) < 240) = true := by simp; omega
        have d4 : decide ((s[0].toNat : Int) < 248) = true := by simp; omega
        have d5 : decide ((s.size : Int) < 2) = false := by simp; omega
        go_enter Tryd.func49, Tryd.ntmps49
        go_wp2
        go_loop [5, 7] (fun nn kk => ∃ k m : Nat, kk = .int .i64 (k : Int) ∧ nn = .int .i64 (m : Int) ∧ Ua s.data.toList 2 n0 k m) (fun _ kk => 2 - (intOf kk).toNat)
        case atStart => exact ⟨1, n0, rfl, by rw [HSUB.out], H0.out⟩
        case round =>
          obtain ⟨k, m, rfl, rfl, hua⟩ := hrel
          clear H0
          have h1 := hua.1
          have h2 := hua.2.1
          have h3 := Nat.le_trans hua.2.2.1 (ub_le k)
          have HU := Lib.hid hua
          clear hua
          by_cases hk : k < 2
          · have hkl : k < s.size := by omega
            have hb := s[k].toNat_lt
            cases hc : ucont s[k] with
            | false =>
              have hno := HU.out.no hk (by rw [len_list]; exact hkl) (by rw [get_at s k hkl]; exact hc)
              have hr := HR.out
              rw [hno] at hr
              simp only at hr
              subst hr
              clear hno
              unfold ucont at hc
              rw [Bool.and_eq_false_iff, decide_eq_false_iff_not, decide_eq_false_iff_not] at hc
              rcases hc with hc | hc
              · go_wp2
                go_ret
                exact ⟨rfl, b0⟩
              · go_wp2
                go_ret
                exact ⟨rfl, b0⟩
            | true =>
              have hnx := HU.out.next (by omega) hk (by rw [len_list]; exact hkl) (by rw [get_at s k hkl]; exact hc)
              rw [get_at s k hkl] at hnx
              unfold ucont at hc
              rw [Bool.and_eq_true, decide_eq_true_eq, decide_eq_true_eq] at hc
              obtain ⟨c1, c2⟩ := hc
              have HNX := Lib.hid hnx
              clear hnx
              go_wp2
              go_round
              case rel => exact ⟨k + 1, 64 * m + (s[k].toNat - 128), by go_num, by congr 1; omega, HNX.out⟩
              case measure => simp [intOf]; omega
          · obtain rfl : k = 2 := by omega
            have hr := HR.out
            rw [HU.out.end_] at hr
            simp only at hr
            cases hbad : ubad m 128 with
            | true =>
              rw [hbad, if_pos rfl] at hr
              subst hr
              unfold ubad at hbad
              simp only [Bool.or_eq_true, Bool.and_eq_true, decide_eq_true_eq] at hbad
              rcases hbad with (hbad | hbad) | ⟨hb1, hb2⟩
              · go_wp2
                go_ret
                exact ⟨rfl, b0⟩
              · go_wp2
                go_ret
                exact ⟨rfl, b0⟩
              · go_wp2
                go_ret
                exact ⟨rfl, b0⟩
            | false =>
              rw [hbad, if_neg (by simp)] at hr
              subst hr
              unfold ubad at hbad
              simp only [Bool.or_eq_false_iff, Bool.and_eq_false_imp, decide_eq_false_iff_not, decide_eq_true_eq] at hbad
              obtain ⟨⟨hb1, hb2⟩, hb3⟩ := hbad
              have hb4 : m < 55296 ∨ 57344 ≤ m := by omega
              clear hb3
              rcases hb4 with hb4 | hb4
              · go_wp2
                all_goals (go_ret; exact ⟨rfl, b0⟩)
              · go_wp2
                go_ret
                exact ⟨rfl, b0⟩
    by_cases h240 : s[0].toNat < 240
    · have hcl : uclass s[0].toNat = some (3, s[0].toNat - 224, 2048) := by unfold uclass; rw [if_neg (by omega), if_pos (by omega)]
      have hF : ufirst s.data.toList = match uacc (s[0].toNat - 224) (3 - 1) (s.data.toList.drop 1) with
          | none => 0
          | some n => if ubad n 2048 then 0 else 3 := by
        rw [hcons, ufirst_hi h128, hcl, List.drop_succ_cons, List.drop_zero]
        rfl
      rw [hF]
      clear hF hcl hcons
      by_cases hlen : s.size < 3
      · have hn : uacc (s[0].toNat - 224) (3 - 1) (s.data.toList.drop 1) = none := by
          cases hu : uacc (s[0].toNat - 224) (3 - 1) (s.data.toList.drop 1) with
          | none => rfl
          | some m =>
            have := uacc_len _ _ _ _ hu
            rw [List.length_drop, len_list] at this
            omega
        rw [hn]
        clear hn
        go_enter Tryd.func49, Tryd.ntmps49
        go_wp2
        go_ret
        exact ⟨rfl, b0⟩
      · have H0 : Hid (Ua s.data.toList 3 (s[0].toNat - 224) 1 (s[0].toNat - 224)) := ⟨by omega, by omega, by simp [ub]; omega, rfl⟩
        have hsub : ((s[0].toNat - 224 : Nat) : Int) = (s[0].toNat : Int) - 224 := by omega
        generalize hN : s[0].toNat - 224 = n0 at H0 hsub ⊢
        have HN := Lib.hid hN
        clear hN
        have HSUB := Lib.hid hsub
        clear hsub
        generalize hR : (match uacc n0 (3 - 1) (s.data.toList.drop 1) with
          | none => 0
          | some n => if ubad n 2048 then 0 else 3) = R
        have HR := Lib.hid hR
        clear hR
        have d1 : decide ((s[0].toNat : Int) < 128) = false := by simp; omega
        have d2 : decide ((s[0].toNat : Int) < 224) = false := by simp; omega
        have d3 : decide ((s[0].toNat : Int) < 240) = true := by simp; omega
        have d4 : decide ((s[0].toNat : Int) < 248) = true := by simp; omega
        have d5 : decide ((s.size : Int) < 3) = false := by simp; omega
        go_enter Tryd.func49, Tryd.ntmps49
        go_wp2
        go_loop [5, 7] (fun nn kk => ∃ k m : Nat, kk = .int .i64 (k : Int) ∧ nn = .int .i64 (m : Int) ∧ Ua s.data.toList 3 n0 k m) (fun _ kk => 3 - (intOf kk).toNat)
        case atStart => exact ⟨1, n0, rfl, by rw [HSUB.out], H0.out⟩
        case round =>
          obtain ⟨k, m, rfl, rfl, hua⟩ := hrel
          clear H0
          have h1 := hua.1
          have h2 := hua.2.1
          have h3 := Nat.le_trans hua.2.2.1 (ub_le k)
          have HU := Lib.hid hua
          clear hua
          by_cases hk : k < 3
          · have hkl : k < s.size := by omega
            have hb := s[k].toNat_lt
            cases hc : ucont s[k] with
            | false =>
              have hno := HU.out.no hk (by rw [len_list]; exact hkl) (by rw [get_at s k hkl]; exact hc)
              have hr := HR.out
              rw [hno] at hr
              simp only at hr
              subst hr
              clear hno
              unfold ucont at hc
              rw [Bool.and_eq_false_iff, decide_eq_false_iff_not, decide_eq_false_iff_not] at hc
              rcases hc with hc | hc
              · go_wp2
                go_ret
                exact ⟨rfl, b0⟩
              · go_wp2
                go_ret
                exact ⟨rfl, b0⟩
            | true =>
              have hnx := HU.out.next (by omega) hk (by rw [len_list]; exact hkl) (by rw [get_at s k hkl]; exact hc)
              rw [get_at s k hkl] at hnx
              unfold ucont at hc
              rw [Bool.and_eq_true, decide_eq_true_eq, decide_eq_true_eq] at hc
              obtain ⟨c1, c2⟩ := hc
              have HNX := Lib.hid hnx
              clear hnx
              go_wp2
              go_round
              case rel => exact ⟨k + 1, 64 * m + (s[k].toNat - 128), by go_num, by congr 1; omega, HNX.out⟩
              case measure => simp [intOf]; omega
          · obtain rfl : k = 3 := by omega
            have hr := HR.out
            rw [HU.out.end_] at hr
            simp only at hr
            cases hbad : ubad m 2048 with
            | true =>
              rw [hbad, if_pos rfl] at hr
              subst hr
              unfold ubad at hbad
              simp only [Bool.or_eq_true, Bool.and_eq_true, decide_eq_true_eq] at hbad
              rcases hbad with (hbad | hbad) | ⟨hb1, hb2⟩
              · go_wp2
                go_ret
                exact ⟨rfl, b0⟩
              · go_wp2
                go_ret
                exact ⟨rfl, b0⟩
              · go_wp2
                go_ret
                exact ⟨rfl, b0⟩
            | false =>
              rw [hbad, if_neg (by simp)] at hr
              subst hr
              unfold ubad at hbad
              simp only [Bool.or_eq_false_iff, Bool.and_eq_false_imp, decide_eq_false_iff_not, decide_eq_true_eq] at hbad
              obtain ⟨⟨hb1, hb2⟩, hb3⟩ := hbad
              have hb4 : m < 55296 ∨ 57344 ≤ m := by omega
              clear hb3
              rcases hb4 with hb4 | hb4
              · go_wp2
                all_goals (go_ret; exact ⟨rfl, b0⟩)
              · go_wp2
                go_ret
                exact ⟨rfl, b0⟩
    by_cases h248 : s[0].toNat < 248
    · have hcl : uclass s[0].toNat = some (4, s[0].toNat - 240, 65536) := by unfold uclass; rw [if_neg (by omega), if_neg (by omega), if_pos (by omega)]
      have hF : ufirst s.data.toList = match uacc (s[0].toNat - 240) (4 - 1) (s.data.toList.drop 1) with
          | none => 0
          | some n => if ubad n 65536 then 0 else 4 := by
        rw [hcons, ufirst_hi h128, hcl, List.drop_succ_cons, List.drop_zero]
        rfl
      rw [hF]
      clear hF hcl hcons
      by_cases hlen : s.size < 4
      · have hn : uacc (s[0].toNat - 240) (4 - 1) (s.data.toList.drop 1) = none := by
          cases hu : uacc (s[0].toNat - 240) (4 - 1) (s.data.toList.drop 1) with
          | none => rfl
          | some m =>
            have := uacc_len _ _ _ _ hu
            rw [List.length_drop, len_list] at this
            omega
        rw [hn]
        clear hn
        go_enter Tryd.func49, Tryd.ntmps49
        go_wp2
        go_ret
        exact ⟨rfl, b0⟩
      · have H0 : Hid (Ua s.data.toList 4 (s[0].toNat - 240) 1 (s[0].toNat - 240)) := ⟨by omega, by omega, by simp [ub]; omega, rfl⟩
        have hsub : ((s[0].toNat - 240 : Nat) : Int) = (s[0].toNat : Int) - 240 := by omega
        generalize hN : s[0].toNat - 240 = n0 at H0 hsub ⊢
        have HN := Lib.hid hN
        clear hN
        have HSUB := Lib.hid hsub
        clear hsub
        generalize hR : (match uacc n0 (4 - 1) (s.data.toList.drop 1) with
          | none => 0
          | some n => if ubad n 65536 then 0 else 4) = R
        have HR := Lib.hid hR
        clear hR
        have d1 : decide ((s[0].toNat : Int) < 128) = false := by simp; omega
        have d2 : decide ((s[0].toNat : Int) < 224) = false := by simp; omega
        have d3 : decide ((s[0].toNat : Int) < 240) = false := by simp; omega
        have d4 : decide ((s[0].toNat : Int) < 248) = true := by simp; omega
        have d5 : decide ((s.size : Int) < 4) = false := by simp; omega
        go_enter Tryd.func49, Tryd.ntmps49
        go_wp2
        go_loop [5, 7] (fun nn kk => ∃ k m : Nat, kk = .int .i64 (k : Int) ∧ nn = .int .i64 (m : Int) ∧ Ua s.data.toList 4 n0 k m) (fun _ kk => 4 - (intOf kk).toNat)
        case atStart => exact ⟨1, n0, rfl, by rw [HSUB.out], H0.out⟩
        case round =>
          obtain ⟨k, m, rfl, rfl, hua⟩ := hrel
          clear H0
          have h1 := hua.1
          have h2 := hua.2.1
          have h3 := Nat.le_trans hua.2.2.1 (ub_le k)
          have HU := Lib.hid hua
          clear hua
          by_cases hk : k < 4
          · have hkl : k < s.size := by omega
            have hb := s[k].toNat_lt
            cases hc : ucont s[k] with
            | false =>
              have hno := HU.out.no hk (by rw [len_list]; exact hkl) (by rw [get_at s k hkl]; exact hc)
              have hr := HR.out
              rw [hno] at hr
              simp only at hr
              subst hr
              clear hno
              unfold ucont at hc
              rw [Bool.and_eq_false_iff, decide_eq_false_iff_not, decide_eq_false_iff_not] at hc
              rcases hc with hc | hc
              · go_wp2
                go_ret
                exact ⟨rfl, b0⟩
              · go_wp2
                go_ret
                exact ⟨rfl, b0⟩
            | true =>
              have hnx := HU.out.next (by omega) hk (by rw [len_list]; exact hkl) (by rw [get_at s k hkl]; exact hc)
              rw [get_at s k hkl] at hnx
              unfold ucont at hc
              rw [Bool.and_eq_true, decide_eq_true_eq, decide_eq_true_eq] at hc
              obtain ⟨c1, c2⟩ := hc
              have HNX := Lib.hid hnx
              clear hnx
              go_wp2
              go_round
              case rel => exact ⟨k + 1, 64 * m + (s[k].toNat - 128), by go_num, by congr 1; omega, HNX.out⟩
              case measure => simp [intOf]; omega
          · obtain rfl : k = 4 := by omega
            have hr := HR.out
            rw [HU.out.end_] at hr
            simp only at hr
            cases hbad : ubad m 65536 with
            | true =>
              rw [hbad, if_pos rfl] at hr
              subst hr
              unfold ubad at hbad
              simp only [Bool.or_eq_true, Bool.and_eq_true, decide_eq_true_eq] at hbad
              rcases hbad with (hbad | hbad) | ⟨hb1, hb2⟩
              · go_wp2
                go_ret
                exact ⟨rfl, b0⟩
              · go_wp2
                go_ret
                exact ⟨rfl, b0⟩
              · go_wp2
                go_ret
                exact ⟨rfl, b0⟩
            | false =>
              rw [hbad, if_neg (by simp)] at hr
              subst hr
              unfold ubad at hbad
              simp only [Bool.or_eq_false_iff, Bool.and_eq_false_imp, decide_eq_false_iff_not, decide_eq_true_eq] at hbad
              obtain ⟨⟨hb1, hb2⟩, hb3⟩ := hbad
              have hb4 : m < 55296 ∨ 57344 ≤ m := by omega
              clear hb3
              rcases hb4 with hb4 | hb4
              · go_wp2
                all_goals (go_ret; exact ⟨rfl, b0⟩)
              · go_wp2
                go_ret
                exact ⟨rfl, b0⟩
    have hcl : uclass s[0].toNat = none := by unfold uclass; rw [if_neg (by omega), if_neg (by omega), if_neg (by omega)]
    rw [hcons, ufirst_hi h128, hcl]
    clear hcons hcl
    go_enter Tryd.func49, Tryd.ntmps49
    go_wp2
    go_ret
    exact ⟨rfl, b0⟩
end Go.Proofs.YtmlijflappjfoaaDoor
end

section
/-
  The document's answers of layer 7 over whole texts, walked. Conditions: texts within int.
-/
namespace Go.Proofs.YtmlijflappjfoaaDoor
open Go.RowKit Go.PM
set_option maxRecDepth 100000
set_option maxHeartbeats 1000000

theorem list_nil {t : ByteArray} (h : t.size = 0) : t.data.toList = [] := List.eq_nil_of_length_eq_zero (by rw [len_list]; exact h)
theorem list_ne {t : ByteArray} (h : ¬ t.size = 0) : t.data.toList ≠ [] := fun e => h (by rw [← len_list, e]; rfl)
theorem rgood_any (s : ByteArray) (w : World) (hs : s.size ≤ 9223372036854775807) :
    Calls Tryd.prog 16 #[.string s] w fun e w' => e = .returned (.bool (ugood s.data.toList)) ∧ Below w.heap.size w w' := by
  generalize hG : ugood s.data.toList = G
  have HG := Lib.hid hG
  clear hG
  go_enter Tryd.func16, Tryd.ntmps16
  go_wp2
  go_loopw [0] (fun sl wr => ∃ t : ByteArray, sl = .string t ∧ t.size ≤ s.size ∧ Hid (ugood t.data.toList = G) ∧ Below w.heap.size w wr) (fun sl _ => strLen sl)
  case atStart => exact ⟨s, rfl, Nat.le_refl _, HG, b0⟩
  case round =>
    obtain ⟨t, rfl, hle, hg, hbel⟩ := hrel
    have HB := Lib.hid hbel
    clear hbel
    by_cases ht : t.size = 0
    · have hg2 := hg.out
      rw [list_nil ht, ugood_nil] at hg2
      subst hg2
      go_wp2
      go_ret
      exact ⟨rfl, HB.out⟩
    · have hpos : 0 < t.size := by omega
      have hne := list_ne ht
      have hu := ufirst_le4 t.data.toList
      have HF : Hid (∀ x : World, Calls Tryd.prog 49 #[.string t] x fun e w' => e = .returned (.int .i64 (ufirst t.data.toList : Int)) ∧ Below x.heap.size x w') := fun x => rfirst_any t x (by omega)
      have hg2 := hg.out
      by_cases hz : ufirst t.data.toList = 0
      · rw [ugood_zero hz hne] at hg2
        subst hg2
        rw [hz] at HF
        clear hz hu ht hne
        go_wp2_with fail
        refine (HF.out _).mono ?_
        rintro e w1 ⟨rfl, hb1⟩
        go_wp2
        go_ret
        exact ⟨rfl, bb HB.out hb1⟩
      · rw [ugood_step hz] at hg2
        have hl := ufirst_le hz
        rw [len_list] at hl
        obtain ⟨l1, l2, _⟩ := hl
        have hn0 : ((ufirst t.data.toList : Int) == 0) = false := by rw [beq_eq_false_iff_ne]; omega
        generalize ufirst t.data.toList = k at *
        have HG2 := Lib.hid hg2
        clear hg2 hz hne ht
        go_wp2_with fail
        refine (HF.out _).mono ?_
        rintro e w1 ⟨rfl, hb1⟩
        go_wp2
        go_roundw
        case rel => exact ⟨_, rfl, by simp; omega, by show _ = _; rw [ext_rest]; exact HG2.out, bb HB.out hb1⟩
        case measure => simp [strLen]; omega
theorem rcount_any (s : ByteArray) (w : World) (hs : s.size ≤ 9223372036854775806) :
    Calls Tryd.prog 21 #[.string s] w fun e w' => e = .returned (.int .i64 (ucount s.data.toList : Int)) ∧ Below w.heap.size w w' := by
  generalize hG : ucount s.data.toList = G
  have HG := Lib.hid hG
  clear hG
  go_enter Tryd.func21, Tryd.ntmps21
  go_wp2
  go_loopw [0, 3] (fun sl nn wr => ∃ (t : ByteArray) (n : Nat), sl = .string t ∧ nn = .int .i64 (n : Int) ∧ n + t.size ≤ s.size ∧ Hid (n + ucount t.data.toList = G) ∧ Below w.heap.size w wr) (fun sl _ _ => strLen sl)
  case atStart => exact ⟨s, 0, rfl, rfl, by omega, by show _ = _; rw [Nat.zero_add]; exact HG.out, b0⟩
  case round =>
    obtain ⟨t, n, rfl, rfl, hle, hg, hbel⟩ := hrel
    have HB := Lib.hid hbel
    clear hbel
    by_cases ht : t.size = 0
    · have hg2 := hg.out
      rw [list_nil ht, ucount_nil, Nat.add_zero] at hg2
      subst hg2
      go_wp2
      go_ret
      exact ⟨rfl, HB.out⟩
    · have hpos : 0 < t.size := by omega
      have hne := list_ne ht
      have hu := ufirst_le4 t.data.toList
      have HF : Hid (∀ x : World, Calls Tryd.prog 49 #[.string t] x fun e w' => e = .returned (.int .i64 (ufirst t.data.toList : Int)) ∧ Below x.heap.size x w') := fun x => rfirst_any t x (by omega)
      have hg2 := hg.out
      rw [ucount_step hne] at hg2
      have hl2 : ufirst t.data.toList ≤ t.size := by
        by_cases hz : ufirst t.data.toList = 0
        · omega
        · have := ufirst_le hz
          rw [len_list] at this
          exact this.2.1
      have hk1 : 1 ≤ max 1 (ufirst t.data.toList) ∧ max 1 (ufirst t.data.toList) ≤ t.size := by omega
      have hmx : (max 1 (ufirst t.data.toList : Int)).toNat = max 1 (ufirst t.data.toList) := by omega
      generalize ufirst t.data.toList = k at *
      have HG2 := Lib.hid hg2
      have HMX := Lib.hid hmx
      clear hg2 hne ht hmx
      obtain ⟨k1, k2⟩ := hk1
      have k3 : max 1 (k : Int) ≤ (t.size : Int) := by omega
      have k4 : 0 ≤ max 1 (k : Int) := by omega
      go_wp2_with fail
      refine (HF.out _).mono ?_
      rintro e w1 ⟨rfl, hb1⟩
      go_wp2
      go_roundw
      case rel => exact ⟨_, n + 1, rfl, by go_num, by rw [HMX.out, ByteArray.size_extract]; omega, by show _ = _; rw [HMX.out, ext_rest]; have := HG2.out; omega, bb HB.out hb1⟩
      case measure =>
        show (t.extract _ _).size < t.size
        rw [HMX.out, ByteArray.size_extract]
        omega
theorem rcheck_any (s : ByteArray) (least most : Int) (w : World) (hs : s.size ≤ 9223372036854775807) (_hT : True) :
    Calls Tryd.prog 20 #[.string s, .int .i64 least, .int .i64 most] w fun e w' => e = .returned (.int .i64 (uchk s.data.toList least most)) ∧ Below w.heap.size w w' := by
  unfold uchk
  rw [len_list]
  have HG : Hid (Calls Tryd.prog 16 #[.string s] w fun e w' => e = .returned (.bool (ugood s.data.toList)) ∧ Below w.heap.size w w') := rgood_any s w hs
  try clear hT
  by_cases h1 : (s.size : Int) < least
  · rw [if_pos (.inl h1)]
    go_enter Tryd.func20, Tryd.ntmps20
    go_wp2
    go_ret
    exact ⟨rfl, b0⟩
  · by_cases h2 : most < (s.size : Int)
    · rw [if_pos (.inr h2)]
      go_enter Tryd.func20, Tryd.ntmps20
      go_wp2
      go_ret
      exact ⟨rfl, b0⟩
    · rw [if_neg (by omega)]
      cases hg : ugood s.data.toList with
      | true =>
        rw [hg] at HG
        clear hg
        go_enter Tryd.func20, Tryd.ntmps20
        go_wp2_with fail
        refine HG.out.mono ?_
        rintro e w1 ⟨rfl, hb⟩
        go_wp2
        go_ret
        exact ⟨rfl, hb⟩
      | false =>
        rw [hg] at HG
        clear hg
        go_enter Tryd.func20, Tryd.ntmps20
        go_wp2_with fail
        refine HG.out.mono ?_
        rintro e w1 ⟨rfl, hb⟩
        go_wp2
        go_ret
        exact ⟨rfl, hb⟩

/-- Where the document cuts a good text. -/
def rcut (l : List UInt8) (most : Int) : Nat := if most < 0 then 0 else utrim l most.toNat
theorem pcut_rcut (l : List UInt8) (most : Int) (h : ugood l = true) : pcut l most = rcut l most := by
  unfold pcut rcut
  by_cases h0 : most < 0
  · rw [if_pos h0, if_pos h0]
  · rw [if_neg h0, if_neg h0]
    by_cases h1 : (l.length : Int) ≤ most
    · rw [if_pos h1, utrim_all l h _ (by omega)]
    · rw [if_neg h1, ptrim_utrim l h _ (by omega)]
theorem pcut_good (l : List UInt8) (most : Int) (h : ugood l = true) : ugood (l.take (pcut l most)) = true := by
  rw [pcut_rcut l most h]
  unfold rcut
  split
  · simp [ugood_nil]
  · exact utrim_good l h _
theorem pcut_le (l : List UInt8) (most : Int) : pcut l most ≤ l.length ∧ (pcut l most : Int) ≤ max most 0 := by
  unfold pcut
  split
  · omega
  · split
    · omega
    · have := ptrim_le l most.toNat
      omega
theorem rtrim_any (s : ByteArray) (most : Int) (w : World) (hs : s.size ≤ 9223372036854775000) (hm : InI64 most) (hg : ugood s.data.toList = true) :
    Calls Tryd.prog 18 #[.string s, .int .i64 most] w fun e w' => e = .returned (.string (txt (s.data.toList.take (rcut s.data.toList most)))) ∧ Below w.heap.size w w' := by
  have H0 : Hid (ugood (s.data.toList.drop 0) = true ∧ rcut s.data.toList most = 0 + (if most < 0 then 0 else utrim (s.data.toList.drop 0) (most - (0 : Nat)).toNat)) := by
    refine ⟨by rw [List.drop_zero]; exact hg, ?_⟩
    unfold rcut
    rw [List.drop_zero, Nat.zero_add, Int.natCast_zero, Int.sub_zero]
  generalize rcut s.data.toList most = R at H0 ⊢
  have HM := Lib.hid hm
  clear hm hg
  go_enter Tryd.func18, Tryd.ntmps18
  go_wp2
  go_loopw [5] (fun aa wr => ∃ k : Nat, aa = .int .i64 (k : Int) ∧ k ≤ s.size ∧ ((k : Int) ≤ most ∨ k = 0) ∧ Hid (ugood (s.data.toList.drop k) = true ∧ R = k + (if most < 0 then 0 else utrim (s.data.toList.drop k) (most - k).toNat)) ∧ Below w.heap.size w wr) (fun aa _ => s.size - (intOf aa).toNat)
  case atStart => exact ⟨0, rfl, by omega, .inr rfl, H0, b0⟩
  case round =>
    obtain ⟨k, rfl, hk, hkm, hr, hbel⟩ := hrel
    have HB := Lib.hid hbel
    clear hbel H0
    by_cases hlt : k < s.size
    · have hlen : (s.extract k s.size).data.toList = s.data.toList.drop k := ext_rest s k
      have hne : s.data.toList.drop k ≠ [] := fun e => by
        have := congrArg List.length e
        rw [List.length_drop, len_list] at this
        simp at this
        omega
      have hf := ugood_first hr.out.1 hne
      have hl := ufirst_le hf
      rw [List.length_drop, len_list] at hl
      obtain ⟨l1, l2, l4⟩ := hl
      have HF : Hid (∀ x : World, Calls Tryd.prog 49 #[.string (s.extract k s.size)] x fun e w' => e = .returned (.int .i64 (ufirst (s.data.toList.drop k) : Int)) ∧ Below x.heap.size x w') := fun x => by
        have := rfirst_any (s.extract k s.size) x (by rw [ByteArray.size_extract]; omega)
        rw [hlen] at this
        exact this
      by_cases hgo : (k : Int) + ufirst (s.data.toList.drop k) ≤ most
      · have hnx : ugood (s.data.toList.drop (k + ufirst (s.data.toList.drop k))) = true ∧ R = (k + ufirst (s.data.toList.drop k) : Nat) + (if most < 0 then 0 else utrim (s.data.toList.drop (k + ufirst (s.data.toList.drop k))) (most - (k + ufirst (s.data.toList.drop k) : Nat)).toNat) := by
          refine ⟨?_, ?_⟩
          · rw [← List.drop_drop, ← ugood_step hf]
            exact hr.out.1
          · have h2 := hr.out.2
            rw [if_neg (by omega)] at h2 ⊢
            rw [utrim_go hf (by omega), List.drop_drop] at h2
            rw [h2, show (most - (k : Int)).toNat - ufirst (s.data.toList.drop k) = (most - ((k + ufirst (s.data.toList.drop k) : Nat) : Int)).toNat by omega]
            omega
        generalize ufirst (s.data.toList.drop k) = j at *
        have HNX := Lib.hid hnx
        clear hnx hr hf hne hlen
        go_wp2_with fail
        refine (HF.out _).mono ?_
        rintro e w1 ⟨rfl, hb1⟩
        go_wp2_with fail
        refine (HF.out _).mono ?_
        rintro e w2 ⟨rfl, hb2⟩
        go_wp2
        go_roundw
        case rel => exact ⟨k + j, by go_num, by omega, .inl (by omega), HNX, bb (bb HB.out hb1) hb2⟩
        case measure => simp [intOf]; omega
      · have hR : R = k := by
          have h2 := hr.out.2
          by_cases hm0 : most < 0
          · rw [if_pos hm0] at h2; omega
          · rw [if_neg hm0, utrim_stop (by omega)] at h2; omega
        subst hR
        generalize ufirst (s.data.toList.drop R) = j at *
        clear hr hf hne hlen
        have hgo2 : ¬ ((R : Int) + (j : Int) ≤ most) := hgo
        go_wp2_with fail
        refine (HF.out _).mono ?_
        rintro e w1 ⟨rfl, hb1⟩
        go_wp2
        go_ret
        refine ⟨?_, bb HB.out hb1⟩
        have e : s.extract 0 R = txt (s.data.toList.take R) := txt_eq (by rw [ext_list, List.drop_zero, Nat.sub_zero])
        rw [← e]
        rfl
    · have hR : R = k := by
        have h2 := hr.out.2
        have hd : s.data.toList.drop k = [] := List.drop_eq_nil_of_le (by rw [len_list]; omega)
        rw [hd, utrim_zero ufirst_nil] at h2
        split at h2 <;> omega
      subst hR
      clear hr
      go_wp2
      go_ret
      refine ⟨?_, HB.out⟩
      have e : s.extract 0 R = txt (s.data.toList.take R) := txt_eq (by rw [ext_list, List.drop_zero, Nat.sub_zero])
      rw [← e]
      rfl
end Go.Proofs.YtmlijflappjfoaaDoor
end

section
/-
  The walks of the statements of layer 7. Conditions: texts as they come in; Go's tables of UTF-8 lie in memory.
-/
namespace Go.Proofs.YtmlijflappjfoaaDoor
open Go.RowKit Go.PM
set_option maxRecDepth 100000
set_option maxHeartbeats 1000000

theorem good_no : ugood [192, 128] = false := ugood_zero (by decide) (by decide)
theorem good_yes : ugood [97, 0, 195, 169] = true := by
  rw [ugood_step (by decide)]
  show ugood [0, 195, 169] = true
  rw [ugood_step (by decide)]
  show ugood [195, 169] = true
  rw [ugood_step (by decide)]
  exact ugood_nil
theorem awake07 (w : World) (hT : Tabs w) :
    Calls Tryd.prog 12 #[] w fun e w' => e = .returned (.bool true) ∧ Below w.heap.size w w' := by
  have HT := Lib.hid hT
  clear hT
  go_enter Tryd.func12, Tryd.ntmps12
  go_wp2_with fail
  refine (awakeE06 _).mono ?_
  rintro e w1 ⟨rfl, hb1⟩
  have h1 := good_any ⟨#[192, 128]⟩ w1 (by decide) (HT.out.below hb1)
  rw [show (ByteArray.mk #[192, 128]).data.toList = [192, 128] from rfl, good_no] at h1
  have H1 := Lib.hid h1
  clear h1
  go_wp2_with fail
  refine H1.out.mono ?_
  rintro e w2 ⟨rfl, hb2⟩
  replace hb2 := bb hb1 hb2
  have h2 := good_any ⟨#[97, 0, 195, 169]⟩ w2 (by decide) (HT.out.below hb2)
  rw [show (ByteArray.mk #[97, 0, 195, 169]).data.toList = [97, 0, 195, 169] from rfl, good_yes] at h2
  have H2 := Lib.hid h2
  clear h2 H1
  go_wp2_with fail
  refine H2.out.mono ?_
  rintro e w3 ⟨rfl, hb3⟩
  replace hb3 := bb hb2 hb3
  go_wp2
  go_ret
  exact ⟨rfl, hb3⟩
theorem awakeE07 (w : World) (hT : Tabs w) : Calls Tryd.prog 51 #[] w fun e w' => e = .returned (.bool true) ∧ Below w.heap.size w w' := by
  have H := Lib.hid (awake07 w hT)
  clear hT
  go_enter Tryd.func51, Tryd.ntmps51
  go_wp2_with fail
  refine H.out.mono ?_
  rintro e w' ⟨rfl, hb⟩
  go_wp2
  go_ret
  exact ⟨rfl, hb⟩
theorem prefix_take (l : List UInt8) (n : Nat) : Lib.hasPrefix l (l.take n) = true := by
  unfold Lib.hasPrefix
  rw [List.isPrefixOf_iff_prefix]
  exact List.take_prefix n l
theorem tells_walk (s : ByteArray) (least most : Int) (w : World) (hs : s.size ≤ 9223372036854775807) (hl : InI64 least) (hm : InI64 most) (hT : Tabs w) :
    Calls Tryd.prog 4 #[.string s, .int .i64 least, .int .i64 most] w fun e w' => e = .returned (.bool true) ∧ Below w.heap.size w w' := by
  have hb1 : Below w.heap.size w w := b0
  by_cases hlen : 2000 < s.size
  · have HA := Lib.hid (awake07 w hT)
    clear hT
    go_enter Tryd.func4, Tryd.ntmps4
    go_wp2_with fail
    refine (HA.out).mono ?_
    rintro e w1 ⟨rfl, hb2⟩
    replace hb1 := bb hb1 hb2
    clear hb2
    go_wp2
    go_ret
    exact ⟨rfl, hb1⟩
  have HA := Lib.hid (awake07 w hT)
  have HT := Lib.hid hT
  have hpc := pcut_le s.data.toList most
  rw [len_list] at hpc
  have HG1 : Hid (∀ x : World, Below w.heap.size w x → Calls Tryd.prog 13 #[.string s] x fun e w' => e = .returned (.bool (ugood s.data.toList)) ∧ Below x.heap.size x w') := fun x hx => good_any s x hs (HT.out.below hx)
  have HG2 : Hid (∀ x : World, Calls Tryd.prog 16 #[.string s] x fun e w' => e = .returned (.bool (ugood s.data.toList)) ∧ Below x.heap.size x w') := fun x => rgood_any s x hs
  have HC1 : Hid (∀ x : World, Below w.heap.size w x → Calls Tryd.prog 19 #[.string s, .int .i64 least, .int .i64 most] x fun e w' => e = .returned (.int .i64 (uchk s.data.toList least most)) ∧ Below x.heap.size x w') := fun x hx => ucheck_any s least most x hs (HT.out.below hx)
  have HC2 : Hid (∀ x : World, Calls Tryd.prog 20 #[.string s, .int .i64 least, .int .i64 most] x fun e w' => e = .returned (.int .i64 (uchk s.data.toList least most)) ∧ Below x.heap.size x w') := fun x => rcheck_any s least most x hs trivial
  have HN1 : Hid (∀ x : World, Calls Tryd.prog 14 #[.string s] x fun e w' => e = .returned (.int .i64 (ucount s.data.toList : Int)) ∧ Below x.heap.size x w') := fun x => count_any7 s x (by omega)
  have HN2 : Hid (∀ x : World, Calls Tryd.prog 21 #[.string s] x fun e w' => e = .returned (.int .i64 (ucount s.data.toList : Int)) ∧ Below x.heap.size x w') := fun x => rcount_any s x (by omega)
  have HP : Hid (∀ x : World, Calls Tryd.prog 17 #[.string s, .string (txt (s.data.toList.take (pcut s.data.toList most)))] x fun e w' => e = .returned (.bool true) ∧ Below x.heap.size x w') := fun x => by
    have := Tryd.strings_HasPrefix s (txt (s.data.toList.take (pcut s.data.toList most))) x
    rw [txt_list, prefix_take] at this
    exact this.mono fun e w' ⟨he, hw⟩ => ⟨he, hw ▸ b0⟩
  have HTr : Hid (∀ x : World, Calls Tryd.prog 15 #[.string s, .int .i64 most] x fun e w' => e = .returned (.string (txt (s.data.toList.take (pcut s.data.toList most)))) ∧ Below x.heap.size x w') := fun x => trim_any s most x hs hm
  have HRT : Hid (ugood s.data.toList = true → ∀ x : World, Calls Tryd.prog 18 #[.string s, .int .i64 most] x fun e w' => e = .returned (.string (txt (s.data.toList.take (pcut s.data.toList most)))) ∧ Below x.heap.size x w') := fun hg x => by
    rw [pcut_rcut _ _ hg]
    exact rtrim_any s most x (by omega) hm hg
  have hsz : (txt (s.data.toList.take (pcut s.data.toList most))).size = pcut s.data.toList most := by rw [txt_size, List.length_take, len_list]; omega
  have hsz2 : ((txt (s.data.toList.take (pcut s.data.toList most))).size : Int) ≤ max most 0 := by rw [hsz]; exact hpc.2
  have hsz3 : (txt (s.data.toList.take (pcut s.data.toList most))).size ≤ 2000 := by rw [hsz]; omega
  clear hsz hpc
  generalize txt (s.data.toList.take (pcut s.data.toList most)) = T at *
  generalize uchk s.data.toList least most = c at *
  generalize ucount s.data.toList = n at *
  have HL := Lib.hid hl
  have HM := Lib.hid hm
  clear hT hl hm
  cases hg : ugood s.data.toList with
  | true =>
    have HRT2 := Lib.hid (HRT.out hg)
    rw [hg] at HG1 HG2
    clear hg HRT
    go_enter Tryd.func4, Tryd.ntmps4
    go_wp2_with fail
    refine (HA.out).mono ?_
    rintro e w1 ⟨rfl, hb2⟩
    replace hb1 := bb hb1 hb2
    clear hb2
    go_wp2_with fail
    refine (HG2.out _).mono ?_
    rintro e w2 ⟨rfl, hb2⟩
    replace hb1 := bb hb1 hb2
    clear hb2
    go_wp2_with fail
    refine (HTr.out _).mono ?_
    rintro e w3 ⟨rfl, hb2⟩
    replace hb1 := bb hb1 hb2
    clear hb2
    go_wp2_with fail
    refine (HP.out _).mono ?_
    rintro e w4 ⟨rfl, hb2⟩
    replace hb1 := bb hb1 hb2
    clear hb2
    go_wp2_with fail
    refine (HRT2.out _).mono ?_
    rintro e w5 ⟨rfl, hb2⟩
    replace hb1 := bb hb1 hb2
    clear hb2
    go_wp2_with fail
    refine (HG1.out _ hb1).mono ?_
    rintro e w6 ⟨rfl, hb2⟩
    replace hb1 := bb hb1 hb2
    clear hb2
    go_wp2_with fail
    refine (HC1.out _ hb1).mono ?_
    rintro e w7 ⟨rfl, hb2⟩
    replace hb1 := bb hb1 hb2
    clear hb2
    go_wp2_with fail
    refine (HC2.out _).mono ?_
    rintro e w8 ⟨rfl, hb2⟩
    replace hb1 := bb hb1 hb2
    clear hb2
    go_wp2_with fail
    refine (HN1.out _).mono ?_
    rintro e w9 ⟨rfl, hb2⟩
    replace hb1 := bb hb1 hb2
    clear hb2
    go_wp2_with fail
    refine (HN2.out _).mono ?_
    rintro e w10 ⟨rfl, hb2⟩
    replace hb1 := bb hb1 hb2
    clear hb2
    go_wp2
    go_ret
    exact ⟨rfl, hb1⟩
  | false =>
    rw [hg] at HG1 HG2
    clear hg HRT
    go_enter Tryd.func4, Tryd.ntmps4
    go_wp2_with fail
    refine (HA.out).mono ?_
    rintro e w1 ⟨rfl, hb2⟩
    replace hb1 := bb hb1 hb2
    clear hb2
    go_wp2_with fail
    refine (HG2.out _).mono ?_
    rintro e w2 ⟨rfl, hb2⟩
    replace hb1 := bb hb1 hb2
    clear hb2
    go_wp2_with fail
    refine (HTr.out _).mono ?_
    rintro e w3 ⟨rfl, hb2⟩
    replace hb1 := bb hb1 hb2
    clear hb2
    go_wp2_with fail
    refine (HP.out _).mono ?_
    rintro e w4 ⟨rfl, hb2⟩
    replace hb1 := bb hb1 hb2
    clear hb2
    go_wp2_with fail
    refine (HG1.out _ hb1).mono ?_
    rintro e w6 ⟨rfl, hb2⟩
    replace hb1 := bb hb1 hb2
    clear hb2
    go_wp2_with fail
    refine (HC1.out _ hb1).mono ?_
    rintro e w7 ⟨rfl, hb2⟩
    replace hb1 := bb hb1 hb2
    clear hb2
    go_wp2_with fail
    refine (HC2.out _).mono ?_
    rintro e w8 ⟨rfl, hb2⟩
    replace hb1 := bb hb1 hb2
    clear hb2
    go_wp2_with fail
    refine (HN1.out _).mono ?_
    rintro e w9 ⟨rfl, hb2⟩
    replace hb1 := bb hb1 hb2
    clear hb2
    go_wp2_with fail
    refine (HN2.out _).mono ?_
    rintro e w10 ⟨rfl, hb2⟩
    replace hb1 := bb hb1 hb2
    clear hb2
    go_wp2
    go_ret
    exact ⟨rfl, hb1⟩
theorem joins_walk (a b : ByteArray) (most : Int) (w : World) (ha : a.size ≤ 9223372036854775807) (hb : b.size ≤ 9223372036854775807) (hm : InI64 most) (hT : Tabs w) :
    Calls Tryd.prog 3 #[.string a, .string b, .int .i64 most] w fun e w' => e = .returned (.bool true) ∧ Below w.heap.size w w' := by
  have hb1 : Below w.heap.size w w := b0
  by_cases h1 : 2000 < a.size
  · have HA := Lib.hid (awake07 w hT)
    clear hT
    go_enter Tryd.func3, Tryd.ntmps3
    go_wp2_with fail
    refine (HA.out).mono ?_
    rintro e w1 ⟨rfl, hb2⟩
    replace hb1 := bb hb1 hb2
    clear hb2
    go_wp2
    go_ret
    exact ⟨rfl, hb1⟩
  by_cases h2 : 2000 < b.size
  · have HA := Lib.hid (awake07 w hT)
    clear hT
    go_enter Tryd.func3, Tryd.ntmps3
    go_wp2_with fail
    refine (HA.out).mono ?_
    rintro e w1 ⟨rfl, hb2⟩
    replace hb1 := bb hb1 hb2
    clear hb2
    go_wp2
    go_ret
    exact ⟨rfl, hb1⟩
  have HA := Lib.hid (awake07 w hT)
  have HT := Lib.hid hT
  have hab : (a ++ b).data.toList = a.data.toList ++ b.data.toList := by rw [ByteArray.data_append, Array.toList_append]
  have hsz : (a ++ b).size ≤ 4000 := by rw [ByteArray.size_append]; omega
  have HX : Hid (∀ x : World, Below w.heap.size w x → Calls Tryd.prog 13 #[.string a] x fun e w' => e = .returned (.bool (ugood a.data.toList)) ∧ Below x.heap.size x w') := fun x hx => good_any a x ha (HT.out.below hx)
  have HY : Hid (∀ x : World, Below w.heap.size w x → Calls Tryd.prog 13 #[.string b] x fun e w' => e = .returned (.bool (ugood b.data.toList)) ∧ Below x.heap.size x w') := fun x hx => good_any b x hb (HT.out.below hx)
  have HB : Hid (∀ x : World, Below w.heap.size w x → Calls Tryd.prog 13 #[.string (a ++ b)] x fun e w' => e = .returned (.bool (ugood (a.data.toList ++ b.data.toList))) ∧ Below x.heap.size x w') := fun x hx => by
    have := good_any (a ++ b) x (by omega) (HT.out.below hx)
    rwa [hab] at this
  have HNA : Hid (∀ x : World, Calls Tryd.prog 14 #[.string a] x fun e w' => e = .returned (.int .i64 (ucount a.data.toList : Int)) ∧ Below x.heap.size x w') := fun x => count_any7 a x (by omega)
  have HNB : Hid (∀ x : World, Calls Tryd.prog 14 #[.string b] x fun e w' => e = .returned (.int .i64 (ucount b.data.toList : Int)) ∧ Below x.heap.size x w') := fun x => count_any7 b x (by omega)
  have HNN : Hid (∀ x : World, Calls Tryd.prog 14 #[.string (a ++ b)] x fun e w' => e = .returned (.int .i64 (ucount (a.data.toList ++ b.data.toList) : Int)) ∧ Below x.heap.size x w') := fun x => by
    have := count_any7 (a ++ b) x (by omega)
    rwa [hab] at this
  have HTr : Hid (∀ x : World, Calls Tryd.prog 15 #[.string a, .int .i64 most] x fun e w' => e = .returned (.string (txt (a.data.toList.take (pcut a.data.toList most)))) ∧ Below x.heap.size x w') := fun x => trim_any a most x ha hm
  have HGT : Hid (ugood a.data.toList = true → ∀ x : World, Below w.heap.size w x → Calls Tryd.prog 13 #[.string (txt (a.data.toList.take (pcut a.data.toList most)))] x fun e w' => e = .returned (.bool true) ∧ Below x.heap.size x w') := fun hg x hx => by
    have := good_any (txt (a.data.toList.take (pcut a.data.toList most))) x (by rw [txt_size, List.length_take, len_list]; omega) (HT.out.below hx)
    rw [txt_list, pcut_good _ _ hg] at this
    exact this
  generalize txt (a.data.toList.take (pcut a.data.toList most)) = T at *
  have hleft := ugood_left b.data.toList
  have happ := ugood_append b.data.toList a.data.toList
  clear hab
  have HM := Lib.hid hm
  clear hT hm
  have hca : ucount a.data.toList ≤ 2000 := by
    rw [← rune_count]
    have := Lib.runeCount_le a
    omega
  have hcb : ucount b.data.toList ≤ 2000 := by
    rw [← rune_count]
    have := Lib.runeCount_le b
    omega
  cases hx : ugood a.data.toList with
  | true =>
    obtain ⟨e1, e2⟩ := happ hx
    rw [e1] at HB
    rw [e2] at HNN
    have HGT2 := Lib.hid (HGT.out hx)
    rw [hx] at HX
    clear hleft happ e1 e2 HGT hx
    generalize ucount a.data.toList = na at *
    generalize ucount b.data.toList = nb at *
    cases hy : ugood b.data.toList with
    | true =>
      rw [hy] at HY HB
      clear hy
      go_enter Tryd.func3, Tryd.ntmps3
      go_wp2_with fail
      refine (HA.out).mono ?_
      rintro e w1 ⟨rfl, hb2⟩
      replace hb1 := bb hb1 hb2
      clear hb2
      go_wp2_with fail
      refine (HX.out _ hb1).mono ?_
      rintro e w2 ⟨rfl, hb2⟩
      replace hb1 := bb hb1 hb2
      clear hb2
      go_wp2_with fail
      refine (HY.out _ hb1).mono ?_
      rintro e w3 ⟨rfl, hb2⟩
      replace hb1 := bb hb1 hb2
      clear hb2
      go_wp2_with fail
      refine (HB.out _ hb1).mono ?_
      rintro e w4 ⟨rfl, hb2⟩
      replace hb1 := bb hb1 hb2
      clear hb2
      go_wp2_with fail
      refine (HNN.out _).mono ?_
      rintro e w5 ⟨rfl, hb2⟩
      replace hb1 := bb hb1 hb2
      clear hb2
      go_wp2_with fail
      refine (HNA.out _).mono ?_
      rintro e w6 ⟨rfl, hb2⟩
      replace hb1 := bb hb1 hb2
      clear hb2
      go_wp2_with fail
      refine (HNB.out _).mono ?_
      rintro e w7 ⟨rfl, hb2⟩
      replace hb1 := bb hb1 hb2
      clear hb2
      go_wp2_with fail
      refine (HTr.out _).mono ?_
      rintro e w8 ⟨rfl, hb2⟩
      replace hb1 := bb hb1 hb2
      clear hb2
      go_wp2_with fail
      refine (HGT2.out _ hb1).mono ?_
      rintro e w9 ⟨rfl, hb2⟩
      replace hb1 := bb hb1 hb2
      clear hb2
      go_wp2
      go_ret
      exact ⟨rfl, hb1⟩
    | false =>
      rw [hy] at HY HB
      clear hy
      go_enter Tryd.func3, Tryd.ntmps3
      go_wp2_with fail
      refine (HA.out).mono ?_
      rintro e w1 ⟨rfl, hb2⟩
      replace hb1 := bb hb1 hb2
      clear hb2
      go_wp2_with fail
      refine (HX.out _ hb1).mono ?_
      rintro e w2 ⟨rfl, hb2⟩
      replace hb1 := bb hb1 hb2
      clear hb2
      go_wp2_with fail
      refine (HY.out _ hb1).mono ?_
      rintro e w3 ⟨rfl, hb2⟩
      replace hb1 := bb hb1 hb2
      clear hb2
      go_wp2_with fail
      refine (HB.out _ hb1).mono ?_
      rintro e w4 ⟨rfl, hb2⟩
      replace hb1 := bb hb1 hb2
      clear hb2
      go_wp2_with fail
      refine (HTr.out _).mono ?_
      rintro e w8 ⟨rfl, hb2⟩
      replace hb1 := bb hb1 hb2
      clear hb2
      go_wp2_with fail
      refine (HGT2.out _ hb1).mono ?_
      rintro e w9 ⟨rfl, hb2⟩
      replace hb1 := bb hb1 hb2
      clear hb2
      go_wp2
      go_ret
      exact ⟨rfl, hb1⟩
  | false =>
    clear happ HGT
    cases hy : ugood b.data.toList with
    | true =>
      have e1 : ugood (a.data.toList ++ b.data.toList) = false := by
        cases h : ugood (a.data.toList ++ b.data.toList) with
        | false => rfl
        | true => rw [hleft hy _ h] at hx; cases hx
      rw [e1] at HB
      rw [hx] at HX
      rw [hy] at HY
      clear hleft hx hy e1
      go_enter Tryd.func3, Tryd.ntmps3
      go_wp2_with fail
      refine (HA.out).mono ?_
      rintro e w1 ⟨rfl, hb2⟩
      replace hb1 := bb hb1 hb2
      clear hb2
      go_wp2_with fail
      refine (HX.out _ hb1).mono ?_
      rintro e w2 ⟨rfl, hb2⟩
      replace hb1 := bb hb1 hb2
      clear hb2
      go_wp2_with fail
      refine (HY.out _ hb1).mono ?_
      rintro e w3 ⟨rfl, hb2⟩
      replace hb1 := bb hb1 hb2
      clear hb2
      go_wp2_with fail
      refine (HB.out _ hb1).mono ?_
      rintro e w4 ⟨rfl, hb2⟩
      replace hb1 := bb hb1 hb2
      clear hb2
      go_wp2
      go_ret
      exact ⟨rfl, hb1⟩
    | false =>
      rw [hx] at HX
      rw [hy] at HY
      clear hleft hx hy
      cases hz : ugood (a.data.toList ++ b.data.toList) with
      | true =>
        rw [hz] at HB
        clear hz
        go_enter Tryd.func3, Tryd.ntmps3
        go_wp2_with fail
        refine (HA.out).mono ?_
        rintro e w1 ⟨rfl, hb2⟩
        replace hb1 := bb hb1 hb2
        clear hb2
        go_wp2_with fail
        refine (HX.out _ hb1).mono ?_
        rintro e w2 ⟨rfl, hb2⟩
        replace hb1 := bb hb1 hb2
        clear hb2
        go_wp2_with fail
        refine (HY.out _ hb1).mono ?_
        rintro e w3 ⟨rfl, hb2⟩
        replace hb1 := bb hb1 hb2
        clear hb2
        go_wp2_with fail
        refine (HB.out _ hb1).mono ?_
        rintro e w4 ⟨rfl, hb2⟩
        replace hb1 := bb hb1 hb2
        clear hb2
        go_wp2
        go_ret
        exact ⟨rfl, hb1⟩
      | false =>
        rw [hz] at HB
        clear hz
        go_enter Tryd.func3, Tryd.ntmps3
        go_wp2_with fail
        refine (HA.out).mono ?_
        rintro e w1 ⟨rfl, hb2⟩
        replace hb1 := bb hb1 hb2
        clear hb2
        go_wp2_with fail
        refine (HX.out _ hb1).mono ?_
        rintro e w2 ⟨rfl, hb2⟩
        replace hb1 := bb hb1 hb2
        clear hb2
        go_wp2_with fail
        refine (HY.out _ hb1).mono ?_
        rintro e w3 ⟨rfl, hb2⟩
        replace hb1 := bb hb1 hb2
        clear hb2
        go_wp2_with fail
        refine (HB.out _ hb1).mono ?_
        rintro e w4 ⟨rfl, hb2⟩
        replace hb1 := bb hb1 hb2
        clear hb2
        go_wp2
        go_ret
        exact ⟨rfl, hb1⟩
end Go.Proofs.YtmlijflappjfoaaDoor
end

section
/-
  The walks of the statements of layer 8: the chapter's example; whether fields may be, how deep they stand, how many they are, whether they are the same. Conditions: numbers within their kinds; Go's tables of UTF-8 lie in memory.
-/
namespace Go.PM
open Go.RowKit
theorem slv_blk {w : World} {I : Nat → Prop} {g : Nat} {t : TypeId} {cs : Array Value} {f : Fs} {c : Nat} (hb : BlkAt w g t cs) (hc : Cls w I cs.toList f) (hI : I g) (hl : f.len ≤ c) : SlV w I (.slice (some ⟨g, 0, none⟩) f.len c) f :=
  ⟨_, c, rfl, hl, .inr ⟨g, 0, rfl, hI, hb.lt, hc.at_ (by intro j u hj; rw [Nat.zero_add, hb.cell j, ← Array.getElem?_toList]; exact hj)⟩⟩
theorem few_ok {l : List One} (h : few l = true) : (∀ x ∈ l, x.text.size ≤ 300) ∧ l.length ≤ 60 := by
  unfold few at h
  rw [Bool.and_eq_true, List.all_eq_true] at h
  exact ⟨fun x hx => by simpa using h.1 x hx, by simpa using h.2⟩
def fnum (t n : Nat) (r : Fs) : Fs := .cons t 0 n ByteArray.empty .nil r
end Go.PM
namespace Go.Proofs.YtmlijflappjfoaaDoor
open Go.RowKit Go.PM
set_option maxRecDepth 100000
set_option maxHeartbeats 4000000

theorem ofnum_any (t n : Nat) (w : World) :
    Calls Tryd.prog 52 #[.int .u64 (t : Int), .int .u64 (n : Int)] w fun e w' => e = .returned (.agg #[.int .u64 (t : Int), .int .i64 0, .int .u64 (n : Int), .string ByteArray.empty, .slice none 0 0]) ∧ Below w.heap.size w w' := by
  go_enter Tryd.func52, Tryd.ntmps52
  go_wp2
  exact bodyPost_ret (v := .agg #[.int .u64 (t : Int), .int .i64 0, .int .u64 (n : Int), .string ByteArray.empty, .slice none 0 0]) (by simp [results, Tryd.results52, go_sem]; try rfl) rfl ⟨rfl, ba b0 _⟩
theorem two_nums (a b : Nat) (w : World) : SlV (w.alloc (.cells #[.int .u64 (a : Int), .int .i64 0, .int .u64 0, .string ByteArray.empty, .slice none 0 0, .int .u64 (b : Int), .int .i64 0, .int .u64 0, .string ByteArray.empty, .slice none 0 0] 41)) (fun _ => True) (.slice (some ⟨w.heap.size, 0, none⟩) 2 2) (fnum a 0 (fnum b 0 .nil)) := by
  have hb := BlkAt.made w 41 #[.int .u64 (a : Int), .int .i64 0, .int .u64 0, .string ByteArray.empty, .slice none 0 0, .int .u64 (b : Int), .int .i64 0, .int .u64 0, .string ByteArray.empty, .slice none 0 0]
  exact slv_blk (f := fnum a 0 (fnum b 0 .nil)) hb ⟨rfl, rfl, rfl, rfl, SlV.nil _ _ _ _, rfl, rfl, rfl, rfl, SlV.nil _ _ _ _, trivial⟩ trivial (Nat.le_refl 2)
theorem awake08 (w : World) (hT : Tabs w) :
    Calls Tryd.prog 22 #[] w fun e w' => e = .returned (.bool true) ∧ Below w.heap.size w w' := by
  have HT := Lib.hid (awakeE07 w hT)
  have H1 : Hid (∀ W : World, Calls Tryd.prog 30 #[.slice (some ⟨W.heap.size, 0, none⟩) 2 2] (W.alloc (.cells #[.int .u64 2, .int .i64 0, .int .u64 0, .string ByteArray.empty, .slice none 0 0, .int .u64 1, .int .i64 0, .int .u64 0, .string ByteArray.empty, .slice none 0 0] 41)) fun e w' => e = .returned (.int .i64 7) ∧ Below (W.heap.size + 1) (W.alloc (.cells #[.int .u64 2, .int .i64 0, .int .u64 0, .string ByteArray.empty, .slice none 0 0, .int .u64 1, .int .i64 0, .int .u64 0, .string ByteArray.empty, .slice none 0 0] 41)) w') := fun W => by
    have := check_of _ _ _ _ (two_nums 2 1 W) ⟨⟨by unfold In64; omega, by unfold InI64; omega, by unfold In64; omega, by decide⟩, trivial, ⟨by unfold In64; omega, by unfold InI64; omega, by unfold In64; omega, by decide⟩, trivial, trivial⟩ (by decide)
    rw [show fcheck (fnum 2 0 (fnum 1 0 .nil)) 0 0 = 7 by decide] at this
    refine this.mono fun e w' h => ?_
    rw [World.size_alloc] at h
    exact h
  have H2 : Hid (∀ W : World, Calls Tryd.prog 30 #[.slice (some ⟨W.heap.size, 0, none⟩) 2 2] (W.alloc (.cells #[.int .u64 1, .int .i64 0, .int .u64 0, .string ByteArray.empty, .slice none 0 0, .int .u64 2, .int .i64 0, .int .u64 0, .string ByteArray.empty, .slice none 0 0] 41)) fun e w' => e = .returned (.int .i64 0) ∧ Below (W.heap.size + 1) (W.alloc (.cells #[.int .u64 1, .int .i64 0, .int .u64 0, .string ByteArray.empty, .slice none 0 0, .int .u64 2, .int .i64 0, .int .u64 0, .string ByteArray.empty, .slice none 0 0] 41)) w') := fun W => by
    have := check_of _ _ _ _ (two_nums 1 2 W) ⟨⟨by unfold In64; omega, by unfold InI64; omega, by unfold In64; omega, by decide⟩, trivial, ⟨by unfold In64; omega, by unfold InI64; omega, by unfold In64; omega, by decide⟩, trivial, trivial⟩ (by decide)
    rw [show fcheck (fnum 1 0 (fnum 2 0 .nil)) 0 0 = 0 by decide] at this
    refine this.mono fun e w' h => ?_
    rw [World.size_alloc] at h
    exact h
  have hb1 : Below w.heap.size w w := b0
  clear hT
  go_enter Tryd.func22, Tryd.ntmps22
  go_wp2_with fail
  refine (HT.out).mono ?_
  rintro e w1 ⟨rfl, hb2⟩
  replace hb1 := bb hb1 hb2
  clear hb2
  go_wp2_with fail
  refine (ofnum_any 2 0 _).mono ?_
  rintro e w2 ⟨rfl, hb2⟩
  replace hb1 := bb hb1 hb2
  clear hb2
  go_wp2_with fail
  refine (ofnum_any 1 0 _).mono ?_
  rintro e w3 ⟨rfl, hb2⟩
  replace hb1 := bb hb1 hb2
  clear hb2
  go_wp2_with fail
  refine (H1.out _).mono ?_
  rintro e w4 ⟨rfl, hb2⟩
  replace hb1 := bb hb1 (bb (ba b0 _) (by rw [World.size_alloc]; exact hb2))
  clear hb2
  go_wp2_with fail
  refine (ofnum_any 1 0 _).mono ?_
  rintro e w5 ⟨rfl, hb2⟩
  replace hb1 := bb hb1 hb2
  clear hb2
  go_wp2_with fail
  refine (ofnum_any 2 0 _).mono ?_
  rintro e w6 ⟨rfl, hb2⟩
  replace hb1 := bb hb1 hb2
  clear hb2
  go_wp2_with fail
  refine (H2.out _).mono ?_
  rintro e w7 ⟨rfl, hb2⟩
  replace hb1 := bb hb1 (bb (ba b0 _) (by rw [World.size_alloc]; exact hb2))
  clear hb2
  go_wp2
  go_ret
  exact ⟨rfl, hb1⟩
theorem awakeE08 (w : World) (hT : Tabs w) : Calls Tryd.prog 56 #[] w fun e w' => e = .returned (.bool true) ∧ Below w.heap.size w w' := by
  have H := Lib.hid (awake08 w hT)
  clear hT
  go_enter Tryd.func56, Tryd.ntmps56
  go_wp2_with fail
  refine H.out.mono ?_
  rintro e w' ⟨rfl, hb⟩
  go_wp2
  go_ret
  exact ⟨rfl, hb⟩
end Go.Proofs.YtmlijflappjfoaaDoor
end
