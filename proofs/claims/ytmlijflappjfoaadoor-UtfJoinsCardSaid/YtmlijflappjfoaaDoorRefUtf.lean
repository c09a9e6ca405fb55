/-
  The document's answers of layer 7, walked. Conditions: texts within int.
-/
import Derived.Test.YtmlijflappjfoaaDoorUtf
namespace Go.Proofs.YtmlijflappjfoaaDoor
open Go.RowKit Go.PM
set_option maxRecDepth 100000
set_option maxHeartbeats 1000000

theorem list_cons (s : ByteArray) (h : 0 < s.size) : s.data.toList = s[0] :: s.data.toList.drop 1 := by
  have := List.drop_eq_getElem_cons (l := s.data.toList) (i := 0) (by rw [len_list]; exact h)
  rw [List.drop_zero] at this
  exact this
theorem get_at (s : ByteArray) (k : Nat) (_ : k < s.size) (h' : k < s.data.toList.length) : s.data.toList[k] = s[k] := by simp; rfl
theorem rfirst_any (s : ByteArray) (w : World) (hs : s.size ≤ 9223372036854775807) :
    Calls Tryd.prog 49 #[.string s] w fun e w' => e = .returned (.int .i64 (ufirst s.data.toList : Int)) ∧ Below w.heap.size w w' := by
  by_cases h0 : s.size = 0
  · have hl : s.data.toList = [] := List.eq_nil_of_length_eq_zero (by rw [len_list]; exact h0)
    rw [hl, ufirst_nil]
    clear hl
    go_enter Tryd.func49, Tryd.ntmps49
    go_wp2
    go_ret
    exact ⟨rfl, b0⟩
  · have hpos : 0 < s.size := by omega
    have hcons := list_cons s hpos
    have ha := s[0].toNat_lt
    clear h0
    by_cases h128 : s[0].toNat < 128
    · rw [hcons, ufirst_lo h128]
      clear hcons
      go_enter Tryd.func49, Tryd.ntmps49
      go_wp2
      go_ret
      exact ⟨rfl, b0⟩
    by_cases h192 : s[0].toNat < 192
    · have hcl : uclass s[0].toNat = none := by unfold uclass; rw [if_neg (by omega), if_neg (by omega), if_neg (by omega)]
      rw [hcons, ufirst_hi h128, hcl]
      clear hcons hcl
      go_enter Tryd.func49, Tryd.ntmps49
      go_wp2
      go_ret
      exact ⟨rfl, b0⟩
    by_cases h224 : s[0].toNat < 224
    · have hcl : uclass s[0].toNat = some (2, s[0].toNat - 192, 128) := by unfold uclass; rw [if_pos (by omega)]
      have hF : ufirst s.data.toList = match uacc (s[0].toNat - 192) (2 - 1) (s.data.toList.drop 1) with
          | none => 0
          | some n => if ubad n 128 then 0 else 2 := by
        rw [hcons, ufirst_hi h128, hcl, List.drop_succ_cons, List.drop_zero]
        rfl
      rw [hF]
      clear hF hcl hcons
      by_cases hlen : s.size < 2
      · have hn : uacc (s[0].toNat - 192) (2 - 1) (s.data.toList.drop 1) = none := by
          cases hu : uacc (s[0].toNat - 192) (2 - 1) (s.data.toList.drop 1) with
          | none => rfl
          | some m =>
            have := uacc_len _ _ _ _ hu
            rw [List.length_drop, len_list] at this
            omega
        rw [hn]
        clear hn
        go_enter Tryd.func49, Tryd.ntmps49
        go_wp2
        go_ret
        exact ⟨rfl, b0⟩
      · have H0 : Hid (Ua s.data.toList 2 (s[0].toNat - 192) 1 (s[0].toNat - 192)) := ⟨by omega, by omega, by simp [ub]; omega, rfl⟩
        have hsub : ((s[0].toNat - 192 : Nat) : Int) = (s[0].toNat : Int) - 192 := by omega
        generalize hN : s[0].toNat - 192 = n0 at H0 hsub ⊢
        have HN := Lib.hid hN
        clear hN
        have HSUB := Lib.hid hsub
        clear hsub
        generalize hR : (match uacc n0 (2 - 1) (s.data.toList.drop 1) with
          | none => 0
          | some n => if ubad n 128 then 0 else 2) = R
        have HR := Lib.hid hR
        clear hR
        have d1 : decide ((s[0].toNat : Int) < 128) = false := by simp; omega
        have d2 : decide ((s[0].toNat : Int) < 224) = true := by simp; omega
        have d3 : decide ((s[0].toNat : Int) < 240) = true := by simp; omega
        have d4 : decide ((s[0].toNat : Int) < 248) = true := by simp; omega
        have d5 : decide ((s.size : Int) < 2) = false := by simp; omega
        go_enter Tryd.func49, Tryd.ntmps49
        go_wp2
        go_loop [5, 7] (fun nn kk => ∃ k m : Nat, kk = .int .i64 (k : Int) ∧ nn = .int .i64 (m : Int) ∧ Ua s.data.toList 2 n0 k m) (fun _ kk => 2 - (intOf kk).toNat)
        case atStart => exact ⟨1, n0, rfl, by rw [HSUB.out], H0.out⟩
        case round =>
          obtain ⟨k, m, rfl, rfl, hua⟩ := hrel
          clear H0
          have h1 := hua.1
          have h2 := hua.2.1
          have h3 := Nat.le_trans hua.2.2.1 (ub_le k)
          have HU := Lib.hid hua
          clear hua
          by_cases hk : k < 2
          · have hkl : k < s.size := by omega
            have hb := s[k].toNat_lt
            cases hc : ucont s[k] with
            | false =>
              have hno := HU.out.no hk (by rw [len_list]; exact hkl) (by rw [get_at s k hkl]; exact hc)
              have hr := HR.out
              rw [hno] at hr
              simp only at hr
              subst hr
              clear hno
              unfold ucont at hc
              rw [Bool.and_eq_false_iff, decide_eq_false_iff_not, decide_eq_false_iff_not] at hc
              rcases hc with hc | hc
              · go_wp2
                go_ret
                exact ⟨rfl, b0⟩
              · go_wp2
                go_ret
                exact ⟨rfl, b0⟩
            | true =>
              have hnx := HU.out.next (by omega) hk (by rw [len_list]; exact hkl) (by rw [get_at s k hkl]; exact hc)
              rw [get_at s k hkl] at hnx
              unfold ucont at hc
              rw [Bool.and_eq_true, decide_eq_true_eq, decide_eq_true_eq] at hc
              obtain ⟨c1, c2⟩ := hc
              have HNX := Lib.hid hnx
              clear hnx
              go_wp2
              go_round
              case rel => exact ⟨k + 1, 64 * m + (s[k].toNat - 128), by go_num, by congr 1; omega, HNX.out⟩
              case measure => simp [intOf]; omega
          · obtain rfl : k = 2 := by omega
            have hr := HR.out
            rw [HU.out.end_] at hr
            simp only at hr
            cases hbad : ubad m 128 with
            | true =>
              rw [hbad, if_pos rfl] at hr
              subst hr
              unfold ubad at hbad
              simp only [Bool.or_eq_true, Bool.and_eq_true, decide_eq_true_eq] at hbad
              rcases hbad with (hbad | hbad) | ⟨hb1, hb2⟩
              · go_wp2
                go_ret
                exact ⟨rfl, b0⟩
              · go_wp2
                go_ret
                exact ⟨rfl, b0⟩
              · go_wp2
                go_ret
                exact ⟨rfl, b0⟩
            | false =>
              rw [hbad, if_neg (by simp)] at hr
              subst hr
              unfold ubad at hbad
              simp only [Bool.or_eq_false_iff, Bool.and_eq_false_imp, decide_eq_false_iff_not, decide_eq_true_eq] at hbad
              obtain ⟨⟨hb1, hb2⟩, hb3⟩ := hbad
              have hb4 : m < 55296 ∨ 57344 ≤ m := by omega
              clear hb3
              rcases hb4 with hb4 | hb4
              · go_wp2
                all_goals (go_ret; exact ⟨rfl, b0⟩)
              · go_wp2
                go_ret
                exact ⟨rfl, b0⟩
    by_cases h240 : s[0].toNat < 240
    · have hcl : uclass s[0].toNat = some (3, s[0].toNat - 224, 2048) := by unfold uclass; rw [if_neg (by omega), if_pos (by omega)]
      have hF : ufirst s.data.toList = match uacc (s[0].toNat - 224) (3 - 1) (s.data.toList.drop 1) with
          | none => 0
          | some n => if ubad n 2048 then 0 else 3 := by
        rw [hcons, ufirst_hi h128, hcl, List.drop_succ_cons, List.drop_zero]
        rfl
      rw [hF]
      clear hF hcl hcons
      by_cases hlen : s.size < 3
      · have hn : uacc (s[0].toNat - 224) (3 - 1) (s.data.toList.drop 1) = none := by
          cases hu : uacc (s[0].toNat - 224) (3 - 1) (s.data.toList.drop 1) with
          | none => rfl
          | some m =>
            have := uacc_len _ _ _ _ hu
            rw [List.length_drop, len_list] at this
            omega
        rw [hn]
        clear hn
        go_enter Tryd.func49, Tryd.ntmps49
        go_wp2
        go_ret
        exact ⟨rfl, b0⟩
      · have H0 : Hid (Ua s.data.toList 3 (s[0].toNat - 224) 1 (s[0].toNat - 224)) := ⟨by omega, by omega, by simp [ub]; omega, rfl⟩
        have hsub : ((s[0].toNat - 224 : Nat) : Int) = (s[0].toNat : Int) - 224 := by omega
        generalize hN : s[0].toNat - 224 = n0 at H0 hsub ⊢
        have HN := Lib.hid hN
        clear hN
        have HSUB := Lib.hid hsub
        clear hsub
        generalize hR : (match uacc n0 (3 - 1) (s.data.toList.drop 1) with
          | none => 0
          | some n => if ubad n 2048 then 0 else 3) = R
        have HR := Lib.hid hR
        clear hR
        have d1 : decide ((s[0].toNat : Int) < 128) = false := by simp; omega
        have d2 : decide ((s[0].toNat : Int) < 224) = false := by simp; omega
        have d3 : decide ((s[0].toNat : Int) < 240) = true := by simp; omega
        have d4 : decide ((s[0].toNat : Int) < 248) = true := by simp; omega
        have d5 : decide ((s.size : Int) < 3) = false := by simp; omega
        go_enter Tryd.func49, Tryd.ntmps49
        go_wp2
        go_loop [5, 7] (fun nn kk => ∃ k m : Nat, kk = .int .i64 (k : Int) ∧ nn = .int .i64 (m : Int) ∧ Ua s.data.toList 3 n0 k m) (fun _ kk => 3 - (intOf kk).toNat)
        case atStart => exact ⟨1, n0, rfl, by rw [HSUB.out], H0.out⟩
        case round =>
          obtain ⟨k, m, rfl, rfl, hua⟩ := hrel
          clear H0
          have h1 := hua.1
          have h2 := hua.2.1
          have h3 := Nat.le_trans hua.2.2.1 (ub_le k)
          have HU := Lib.hid hua
          clear hua
          by_cases hk : k < 3
          · have hkl : k < s.size := by omega
            have hb := s[k].toNat_lt
            cases hc : ucont s[k] with
            | false =>
              have hno := HU.out.no hk (by rw [len_list]; exact hkl) (by rw [get_at s k hkl]; exact hc)
              have hr := HR.out
              rw [hno] at hr
              simp only at hr
              subst hr
              clear hno
              unfold ucont at hc
              rw [Bool.and_eq_false_iff, decide_eq_false_iff_not, decide_eq_false_iff_not] at hc
              rcases hc with hc | hc
              · go_wp2
                go_ret
                exact ⟨rfl, b0⟩
              · go_wp2
                go_ret
                exact ⟨rfl, b0⟩
            | true =>
              have hnx := HU.out.next (by omega) hk (by rw [len_list]; exact hkl) (by rw [get_at s k hkl]; exact hc)
              rw [get_at s k hkl] at hnx
              unfold ucont at hc
              rw [Bool.and_eq_true, decide_eq_true_eq, decide_eq_true_eq] at hc
              obtain ⟨c1, c2⟩ := hc
              have HNX := Lib.hid hnx
              clear hnx
              go_wp2
              go_round
              case rel => exact ⟨k + 1, 64 * m + (s[k].toNat - 128), by go_num, by congr 1; omega, HNX.out⟩
              case measure => simp [intOf]; omega
          · obtain rfl : k = 3 := by omega
            have hr := HR.out
            rw [HU.out.end_] at hr
            simp only at hr
            cases hbad : ubad m 2048 with
            | true =>
              rw [hbad, if_pos rfl] at hr
              subst hr
              unfold ubad at hbad
              simp only [Bool.or_eq_true, Bool.and_eq_true, decide_eq_true_eq] at hbad
              rcases hbad with (hbad | hbad) | ⟨hb1, hb2⟩
              · go_wp2
                go_ret
                exact ⟨rfl, b0⟩
              · go_wp2
                go_ret
                exact ⟨rfl, b0⟩
              · go_wp2
                go_ret
                exact ⟨rfl, b0⟩
            | false =>
              rw [hbad, if_neg (by simp)] at hr
              subst hr
              unfold ubad at hbad
              simp only [Bool.or_eq_false_iff, Bool.and_eq_false_imp, decide_eq_false_iff_not, decide_eq_true_eq] at hbad
              obtain ⟨⟨hb1, hb2⟩, hb3⟩ := hbad
              have hb4 : m < 55296 ∨ 57344 ≤ m := by omega
              clear hb3
              rcases hb4 with hb4 | hb4
              · go_wp2
                all_goals (go_ret; exact ⟨rfl, b0⟩)
              · go_wp2
                go_ret
                exact ⟨rfl, b0⟩
    by_cases h248 : s[0].toNat < 248
    · have hcl : uclass s[0].toNat = some (4, s[0].toNat - 240, 65536) := by unfold uclass; rw [if_neg (by omega), if_neg (by omega), if_pos (by omega)]
      have hF : ufirst s.data.toList = match uacc (s[0].toNat - 240) (4 - 1) (s.data.toList.drop 1) with
          | none => 0
          | some n => if ubad n 65536 then 0 else 4 := by
        rw [hcons, ufirst_hi h128, hcl, List.drop_succ_cons, List.drop_zero]
        rfl
      rw [hF]
      clear hF hcl hcons
      by_cases hlen : s.size < 4
      · have hn : uacc (s[0].toNat - 240) (4 - 1) (s.data.toList.drop 1) = none := by
          cases hu : uacc (s[0].toNat - 240) (4 - 1) (s.data.toList.drop 1) with
          | none => rfl
          | some m =>
            have := uacc_len _ _ _ _ hu
            rw [List.length_drop, len_list] at this
            omega
        rw [hn]
        clear hn
        go_enter Tryd.func49, Tryd.ntmps49
        go_wp2
        go_ret
        exact ⟨rfl, b0⟩
      · have H0 : Hid (Ua s.data.toList 4 (s[0].toNat - 240) 1 (s[0].toNat - 240)) := ⟨by omega, by omega, by simp [ub]; omega, rfl⟩
        have hsub : ((s[0].toNat - 240 : Nat) : Int) = (s[0].toNat : Int) - 240 := by omega
        generalize hN : s[0].toNat - 240 = n0 at H0 hsub ⊢
        have HN := Lib.hid hN
        clear hN
        have HSUB := Lib.hid hsub
        clear hsub
        generalize hR : (match uacc n0 (4 - 1) (s.data.toList.drop 1) with
          | none => 0
          | some n => if ubad n 65536 then 0 else 4) = R
        have HR := Lib.hid hR
        clear hR
        have d1 : decide ((s[0].toNat : Int) < 128) = false := by simp; omega
        have d2 : decide ((s[0].toNat : Int) < 224) = false := by simp; omega
        have d3 : decide ((s[0].toNat : Int) < 240) = false := by simp; omega
        have d4 : decide ((s[0].toNat : Int) < 248) = true := by simp; omega
        have d5 : decide ((s.size : Int) < 4) = false := by simp; omega
        go_enter Tryd.func49, Tryd.ntmps49
        go_wp2
        go_loop [5, 7] (fun nn kk => ∃ k m : Nat, kk = .int .i64 (k : Int) ∧ nn = .int .i64 (m : Int) ∧ Ua s.data.toList 4 n0 k m) (fun _ kk => 4 - (intOf kk).toNat)
        case atStart => exact ⟨1, n0, rfl, by rw [HSUB.out], H0.out⟩
        case round =>
          obtain ⟨k, m, rfl, rfl, hua⟩ := hrel
          clear H0
          have h1 := hua.1
          have h2 := hua.2.1
          have h3 := Nat.le_trans hua.2.2.1 (ub_le k)
          have HU := Lib.hid hua
          clear hua
          by_cases hk : k < 4
          · have hkl : k < s.size := by omega
            have hb := s[k].toNat_lt
            cases hc : ucont s[k] with
            | false =>
              have hno := HU.out.no hk (by rw [len_list]; exact hkl) (by rw [get_at s k hkl]; exact hc)
              have hr := HR.out
              rw [hno] at hr
              simp only at hr
              subst hr
              clear hno
              unfold ucont at hc
              rw [Bool.and_eq_false_iff, decide_eq_false_iff_not, decide_eq_false_iff_not] at hc
              rcases hc with hc | hc
              · go_wp2
                go_ret
                exact ⟨rfl, b0⟩
              · go_wp2
                go_ret
                exact ⟨rfl, b0⟩
            | true =>
              have hnx := HU.out.next (by omega) hk (by rw [len_list]; exact hkl) (by rw [get_at s k hkl]; exact hc)
              rw [get_at s k hkl] at hnx
              unfold ucont at hc
              rw [Bool.and_eq_true, decide_eq_true_eq, decide_eq_true_eq] at hc
              obtain ⟨c1, c2⟩ := hc
              have HNX := Lib.hid hnx
              clear hnx
              go_wp2
              go_round
              case rel => exact ⟨k + 1, 64 * m + (s[k].toNat - 128), by go_num, by congr 1; omega, HNX.out⟩
              case measure => simp [intOf]; omega
          · obtain rfl : k = 4 := by omega
            have hr := HR.out
            rw [HU.out.end_] at hr
            simp only at hr
            cases hbad : ubad m 65536 with
            | true =>
              rw [hbad, if_pos rfl] at hr
              subst hr
              unfold ubad at hbad
              simp only [Bool.or_eq_true, Bool.and_eq_true, decide_eq_true_eq] at hbad
              rcases hbad with (hbad | hbad) | ⟨hb1, hb2⟩
              · go_wp2
                go_ret
                exact ⟨rfl, b0⟩
              · go_wp2
                go_ret
                exact ⟨rfl, b0⟩
              · go_wp2
                go_ret
                exact ⟨rfl, b0⟩
            | false =>
              rw [hbad, if_neg (by simp)] at hr
              subst hr
              unfold ubad at hbad
              simp only [Bool.or_eq_false_iff, Bool.and_eq_false_imp, decide_eq_false_iff_not, decide_eq_true_eq] at hbad
              obtain ⟨⟨hb1, hb2⟩, hb3⟩ := hbad
              have hb4 : m < 55296 ∨ 57344 ≤ m := by omega
              clear hb3
              rcases hb4 with hb4 | hb4
              · go_wp2
                all_goals (go_ret; exact ⟨rfl, b0⟩)
              · go_wp2
                go_ret
                exact ⟨rfl, b0⟩
    have hcl : uclass s[0].toNat = none := by unfold uclass; rw [if_neg (by omega), if_neg (by omega), if_neg (by omega)]
    rw [hcons, ufirst_hi h128, hcl]
    clear hcons hcl
    go_enter Tryd.func49, Tryd.ntmps49
    go_wp2
    go_ret
    exact ⟨rfl, b0⟩
end Go.Proofs.YtmlijflappjfoaaDoor
