/-
  The walks of the statements of layer 7. Conditions: texts as they come in; Go's tables of UTF-8 lie in memory.
-/
import Derived.Test.YtmlijflappjfoaaDoorRefUtf2
namespace Go.Proofs.YtmlijflappjfoaaDoor
open Go.RowKit Go.PM
set_option maxRecDepth 100000
set_option maxHeartbeats 1000000

theorem good_no : ugood [192, 128] = false := ugood_zero (by decide) (by decide)
theorem good_yes : ugood [97, 0, 195, 169] = true := by
  rw [ugood_step (by decide)]
  show ugood [0, 195, 169] = true
  rw [ugood_step (by decide)]
  show ugood [195, 169] = true
  rw [ugood_step (by decide)]
  exact ugood_nil
theorem awake07 (w : World) (hT : Tabs w) :
    Calls Tryd.prog 12 #[] w fun e w' => e = .returned (.bool true) ∧ Below w.heap.size w w' := by
  have HT := Lib.hid hT
  clear hT
  go_enter Tryd.func12, Tryd.ntmps12
  go_wp2_with fail
  refine (awakeE06 _).mono ?_
  rintro e w1 ⟨rfl, hb1⟩
  have h1 := good_any ⟨#[192, 128]⟩ w1 (by decide) (HT.out.below hb1)
  rw [show (ByteArray.mk #[192, 128]).data.toList = [192, 128] from rfl, good_no] at h1
  have H1 := Lib.hid h1
  clear h1
  go_wp2_with fail
  refine H1.out.mono ?_
  rintro e w2 ⟨rfl, hb2⟩
  replace hb2 := bb hb1 hb2
  have h2 := good_any ⟨#[97, 0, 195, 169]⟩ w2 (by decide) (HT.out.below hb2)
  rw [show (ByteArray.mk #[97, 0, 195, 169]).data.toList = [97, 0, 195, 169] from rfl, good_yes] at h2
  have H2 := Lib.hid h2
  clear h2 H1
  go_wp2_with fail
  refine H2.out.mono ?_
  rintro e w3 ⟨rfl, hb3⟩
  replace hb3 := bb hb2 hb3
  go_wp2
  go_ret
  exact ⟨rfl, hb3⟩
theorem awakeE07 (w : World) (hT : Tabs w) : Calls Tryd.prog 51 #[] w fun e w' => e = .returned (.bool true) ∧ Below w.heap.size w w' := by
  have H := Lib.hid (awake07 w hT)
  clear hT
  go_enter Tryd.func51, Tryd.ntmps51
  go_wp2_with fail
  refine H.out.mono ?_
  rintro e w' ⟨rfl, hb⟩
  go_wp2
  go_ret
  exact ⟨rfl, hb⟩
theorem prefix_take (l : List UInt8) (n : Nat) : Lib.hasPrefix l (l.take n) = true := by
  unfold Lib.hasPrefix
  rw [List.isPrefixOf_iff_prefix]
  exact List.take_prefix n l
theorem tells_walk (s : ByteArray) (least most : Int) (w : World) (hs : s.size ≤ 9223372036854775807) (hl : InI64 least) (hm : InI64 most) (hT : Tabs w) :
    Calls Tryd.prog 4 #[.string s, .int .i64 least, .int .i64 most] w fun e w' => e = .returned (.bool true) ∧ Below w.heap.size w w' := by
  have hb1 : Below w.heap.size w w := b0
  by_cases hlen : 2000 < s.size
  · have HA := Lib.hid (awake07 w hT)
    clear hT
    go_enter Tryd.func4, Tryd.ntmps4
    go_wp2_with fail
    refine (HA.out).mono ?_
    rintro e w1 ⟨rfl, hb2⟩
    replace hb1 := bb hb1 hb2
    clear hb2
    go_wp2
    go_ret
    exact ⟨rfl, hb1⟩
  have HA := Lib.hid (awake07 w hT)
  have HT := Lib.hid hT
  have hpc := pcut_le s.data.toList most
  rw [len_list] at hpc
  have HG1 : Hid (∀ x : World, Below w.heap.size w x → Calls Tryd.prog 13 #[.string s] x fun e w' => e = .returned (.bool (ugood s.data.toList)) ∧ Below x.heap.size x w') := fun x hx => good_any s x hs (HT.out.below hx)
  have HG2 : Hid (∀ x : World, Calls Tryd.prog 16 #[.string s] x fun e w' => e = .returned (.bool (ugood s.data.toList)) ∧ Below x.heap.size x w') := fun x => rgood_any s x hs
  have HC1 : Hid (∀ x : World, Below w.heap.size w x → Calls Tryd.prog 19 #[.string s, .int .i64 least, .int .i64 most] x fun e w' => e = .returned (.int .i64 (uchk s.data.toList least most)) ∧ Below x.heap.size x w') := fun x hx => ucheck_any s least most x hs (HT.out.below hx)
  have HC2 : Hid (∀ x : World, Calls Tryd.prog 20 #[.string s, .int .i64 least, .int .i64 most] x fun e w' => e = .returned (.int .i64 (uchk s.data.toList least most)) ∧ Below x.heap.size x w') := fun x => rcheck_any s least most x hs trivial
  have HN1 : Hid (∀ x : World, Calls Tryd.prog 14 #[.string s] x fun e w' => e = .returned (.int .i64 (ucount s.data.toList : Int)) ∧ Below x.heap.size x w') := fun x => count_any7 s x (by omega)
  have HN2 : Hid (∀ x : World, Calls Tryd.prog 21 #[.string s] x fun e w' => e = .returned (.int .i64 (ucount s.data.toList : Int)) ∧ Below x.heap.size x w') := fun x => rcount_any s x (by omega)
  have HP : Hid (∀ x : World, Calls Tryd.prog 17 #[.string s, .string (txt (s.data.toList.take (pcut s.data.toList most)))] x fun e w' => e = .returned (.bool true) ∧ Below x.heap.size x w') := fun x => by
    have := Tryd.strings_HasPrefix s (txt (s.data.toList.take (pcut s.data.toList most))) x
    rw [txt_list, prefix_take] at this
    exact this.mono fun e w' ⟨he, hw⟩ => ⟨he, hw ▸ b0⟩
  have HTr : Hid (∀ x : World, Calls Tryd.prog 15 #[.string s, .int .i64 most] x fun e w' => e = .returned (.string (txt (s.data.toList.take (pcut s.data.toList most)))) ∧ Below x.heap.size x w') := fun x => trim_any s most x hs hm
  have HRT : Hid (ugood s.data.toList = true → ∀ x : World, Calls Tryd.prog 18 #[.string s, .int .i64 most] x fun e w' => e = .returned (.string (txt (s.data.toList.take (pcut s.data.toList most)))) ∧ Below x.heap.size x w') := fun hg x => by
    rw [pcut_rcut _ _ hg]
    exact rtrim_any s most x (by omega) hm hg
  have hsz : (txt (s.data.toList.take (pcut s.data.toList most))).size = pcut s.data.toList most := by rw [txt_size, List.length_take, len_list]; omega
  have hsz2 : ((txt (s.data.toList.take (pcut s.data.toList most))).size : Int) ≤ max most 0 := by rw [hsz]; exact hpc.2
  have hsz3 : (txt (s.data.toList.take (pcut s.data.toList most))).size ≤ 2000 := by rw [hsz]; omega
  clear hsz hpc
  generalize txt (s.data.toList.take (pcut s.data.toList most)) = T at *
  generalize uchk s.data.toList least most = c at *
  generalize ucount s.data.toList = n at *
  have HL := Lib.hid hl
  have HM := Lib.hid hm
  clear hT hl hm
  cases hg : ugood s.data.toList with
  | true =>
    have HRT2 := Lib.hid (HRT.out hg)
    rw [hg] at HG1 HG2
    clear hg HRT
    go_enter Tryd.func4, Tryd.ntmps4
    go_wp2_with fail
    refine (HA.out).mono ?_
    rintro e w1 ⟨rfl, hb2⟩
    replace hb1 := bb hb1 hb2
    clear hb2
    go_wp2_with fail
    refine (HG2.out _).mono ?_
    rintro e w2 ⟨rfl, hb2⟩
    replace hb1 := bb hb1 hb2
    clear hb2
    go_wp2_with fail
    refine (HTr.out _).mono ?_
    rintro e w3 ⟨rfl, hb2⟩
    replace hb1 := bb hb1 hb2
    clear hb2
    go_wp2_with fail
    refine (HP.out _).mono ?_
    rintro e w4 ⟨rfl, hb2⟩
    replace hb1 := bb hb1 hb2
    clear hb2
    go_wp2_with fail
    refine (HRT2.out _).mono ?_
    rintro e w5 ⟨rfl, hb2⟩
    replace hb1 := bb hb1 hb2
    clear hb2
    go_wp2_with fail
    refine (HG1.out _ hb1).mono ?_
    rintro e w6 ⟨rfl, hb2⟩
    replace hb1 := bb hb1 hb2
    clear hb2
    go_wp2_with fail
    refine (HC1.out _ hb1).mono ?_
    rintro e w7 ⟨rfl, hb2⟩
    replace hb1 := bb hb1 hb2
    clear hb2
    go_wp2_with fail
    refine (HC2.out _).mono ?_
    rintro e w8 ⟨rfl, hb2⟩
    replace hb1 := bb hb1 hb2
    clear hb2
    go_wp2_with fail
    refine (HN1.out _).mono ?_
    rintro e w9 ⟨rfl, hb2⟩
    replace hb1 := bb hb1 hb2
    clear hb2
    go_wp2_with fail
    refine (HN2.out _).mono ?_
    rintro e w10 ⟨rfl, hb2⟩
    replace hb1 := bb hb1 hb2
    clear hb2
    go_wp2
    go_ret
    exact ⟨rfl, hb1⟩
  | false =>
    rw [hg] at HG1 HG2
    clear hg HRT
    go_enter Tryd.func4, Tryd.ntmps4
    go_wp2_with fail
    refine (HA.out).mono ?_
    rintro e w1 ⟨rfl, hb2⟩
    replace hb1 := bb hb1 hb2
    clear hb2
    go_wp2_with fail
    refine (HG2.out _).mono ?_
    rintro e w2 ⟨rfl, hb2⟩
    replace hb1 := bb hb1 hb2
    clear hb2
    go_wp2_with fail
    refine (HTr.out _).mono ?_
    rintro e w3 ⟨rfl, hb2⟩
    replace hb1 := bb hb1 hb2
    clear hb2
    go_wp2_with fail
    refine (HP.out _).mono ?_
    rintro e w4 ⟨rfl, hb2⟩
    replace hb1 := bb hb1 hb2
    clear hb2
    go_wp2_with fail
    refine (HG1.out _ hb1).mono ?_
    rintro e w6 ⟨rfl, hb2⟩
    replace hb1 := bb hb1 hb2
    clear hb2
    go_wp2_with fail
    refine (HC1.out _ hb1).mono ?_
    rintro e w7 ⟨rfl, hb2⟩
    replace hb1 := bb hb1 hb2
    clear hb2
    go_wp2_with fail
    refine (HC2.out _).mono ?_
    rintro e w8 ⟨rfl, hb2⟩
    replace hb1 := bb hb1 hb2
    clear hb2
    go_wp2_with fail
    refine (HN1.out _).mono ?_
    rintro e w9 ⟨rfl, hb2⟩
    replace hb1 := bb hb1 hb2
    clear hb2
    go_wp2_with fail
    refine (HN2.out _).mono ?_
    rintro e w10 ⟨rfl, hb2⟩
    replace hb1 := bb hb1 hb2
    clear hb2
    go_wp2
    go_ret
    exact ⟨rfl, hb1⟩
theorem joins_walk (a b : ByteArray) (most : Int) (w : World) (ha : a.size ≤ 9223372036854775807) (hb : b.size ≤ 9223372036854775807) (hm : InI64 most) (hT : Tabs w) :
    Calls Tryd.prog 3 #[.string a, .string b, .int .i64 most] w fun e w' => e = .returned (.bool true) ∧ Below w.heap.size w w' := by
  have hb1 : Below w.heap.size w w := b0
  by_cases h1 : 2000 < a.size
  · have HA := Lib.hid (awake07 w hT)
    clear hT
    go_enter Tryd.func3, Tryd.ntmps3
    go_wp2_with fail
    refine (HA.out).mono ?_
    rintro e w1 ⟨rfl, hb2⟩
    replace hb1 := bb hb1 hb2
    clear hb2
    go_wp2
    go_ret
    exact ⟨rfl, hb1⟩
  by_cases h2 : 2000 < b.size
  · have HA := Lib.hid (awake07 w hT)
    clear hT
    go_enter Tryd.func3, Tryd.ntmps3
    go_wp2_with fail
    refine (HA.out).mono ?_
    rintro e w1 ⟨rfl, hb2⟩
    replace hb1 := bb hb1 hb2
    clear hb2
    go_wp2
    go_ret
    exact ⟨rfl, hb1⟩
  have HA := Lib.hid (awake07 w hT)
  have HT := Lib.hid hT
  have hab : (a ++ b).data.toList = a.data.toList ++ b.data.toList := by rw [ByteArray.data_append, Array.toList_append]
  have hsz : (a ++ b).size ≤ 4000 := by rw [ByteArray.size_append]; omega
  have HX : Hid (∀ x : World, Below w.heap.size w x → Calls Tryd.prog 13 #[.string a] x fun e w' => e = .returned (.bool (ugood a.data.toList)) ∧ Below x.heap.size x w') := fun x hx => good_any a x ha (HT.out.below hx)
  have HY : Hid (∀ x : World, Below w.heap.size w x → Calls Tryd.prog 13 #[.string b] x fun e w' => e = .returned (.bool (ugood b.data.toList)) ∧ Below x.heap.size x w') := fun x hx => good_any b x hb (HT.out.below hx)
  have HB : Hid (∀ x : World, Below w.heap.size w x → Calls Tryd.prog 13 #[.string (a ++ b)] x fun e w' => e = .returned (.bool (ugood (a.data.toList ++ b.data.toList))) ∧ Below x.heap.size x w') := fun x hx => by
    have := good_any (a ++ b) x (by omega) (HT.out.below hx)
    rwa [hab] at this
  have HNA : Hid (∀ x : World, Calls Tryd.prog 14 #[.string a] x fun e w' => e = .returned (.int .i64 (ucount a.data.toList : Int)) ∧ Below x.heap.size x w') := fun x => count_any7 a x (by omega)
  have HNB : Hid (∀ x : World, Calls Tryd.prog 14 #[.string b] x fun e w' => e = .returned (.int .i64 (ucount b.data.toList : Int)) ∧ Below x.heap.size x w') := fun x => count_any7 b x (by omega)
  have HNN : Hid (∀ x : World, Calls Tryd.prog 14 #[.string (a ++ b)] x fun e w' => e = .returned (.int .i64 (ucount (a.data.toList ++ b.data.toList) : Int)) ∧ Below x.heap.size x w') := fun x => by
    have := count_any7 (a ++ b) x (by omega)
    rwa [hab] at this
  have HTr : Hid (∀ x : World, Calls Tryd.prog 15 #[.string a, .int .i64 most] x fun e w' => e = .returned (.string (txt (a.data.toList.take (pcut a.data.toList most)))) ∧ Below x.heap.size x w') := fun x => trim_any a most x ha hm
  have HGT : Hid (ugood a.data.toList = true → ∀ x : World, Below w.heap.size w x → Calls Tryd.prog 13 #[.string (txt (a.data.toList.take (pcut a.data.toList most)))] x fun e w' => e = .returned (.bool true) ∧ Below x.heap.size x w') := fun hg x hx => by
    have := good_any (txt (a.data.toList.take (pcut a.data.toList most))) x (by rw [txt_size, List.length_take, len_list]; omega) (HT.out.below hx)
    rw [txt_list, pcut_good _ _ hg] at this
    exact this
  generalize txt (a.data.toList.take (pcut a.data.toList most)) = T at *
  have hleft := ugood_left b.data.toList
  have happ := ugood_append b.data.toList a.data.toList
  clear hab
  have HM := Lib.hid hm
  clear hT hm
  have hca : ucount a.data.toList ≤ 2000 := by
    rw [← rune_count]
    have := Lib.runeCount_le a
    omega
  have hcb : ucount b.data.toList ≤ 2000 := by
    rw [← rune_count]
    have := Lib.runeCount_le b
    omega
  cases hx : ugood a.data.toList with
  | true =>
    obtain ⟨e1, e2⟩ := happ hx
    rw [e1] at HB
    rw [e2] at HNN
    have HGT2 := Lib.hid (HGT.out hx)
    rw [hx] at HX
    clear hleft happ e1 e2 HGT hx
    generalize ucount a.data.toList = na at *
    generalize ucount b.data.toList = nb at *
    cases hy : ugood b.data.toList with
    | true =>
      rw [hy] at HY HB
      clear hy
      go_enter Tryd.func3, Tryd.ntmps3
      go_wp2_with fail
      refine (HA.out).mono ?_
      rintro e w1 ⟨rfl, hb2⟩
      replace hb1 := bb hb1 hb2
      clear hb2
      go_wp2_with fail
      refine (HX.out _ hb1).mono ?_
      rintro e w2 ⟨rfl, hb2⟩
      replace hb1 := bb hb1 hb2
      clear hb2
      go_wp2_with fail
      refine (HY.out _ hb1).mono ?_
      rintro e w3 ⟨rfl, hb2⟩
      replace hb1 := bb hb1 hb2
      clear hb2
      go_wp2_with fail
      refine (HB.out _ hb1).mono ?_
      rintro e w4 ⟨rfl, hb2⟩
      replace hb1 := bb hb1 hb2
      clear hb2
      go_wp2_with fail
      refine (HNN.out _).mono ?_
      rintro e w5 ⟨rfl, hb2⟩
      replace hb1 := bb hb1 hb2
      clear hb2
      go_wp2_with fail
      refine (HNA.out _).mono ?_
      rintro e w6 ⟨rfl, hb2⟩
      replace hb1 := bb hb1 hb2
      clear hb2
      go_wp2_with fail
      refine (HNB.out _).mono ?_
      rintro e w7 ⟨rfl, hb2⟩
      replace hb1 := bb hb1 hb2
      clear hb2
      go_wp2_with fail
      refine (HTr.out _).mono ?_
      rintro e w8 ⟨rfl, hb2⟩
      replace hb1 := bb hb1 hb2
      clear hb2
      go_wp2_with fail
      refine (HGT2.out _ hb1).mono ?_
      rintro e w9 ⟨rfl, hb2⟩
      replace hb1 := bb hb1 hb2
      clear hb2
      go_wp2
      go_ret
      exact ⟨rfl, hb1⟩
    | false =>
      rw [hy] at HY HB
      clear hy
      go_enter Tryd.func3, Tryd.ntmps3
      go_wp2_with fail
      refine (HA.out).mono ?_
      rintro e w1 ⟨rfl, hb2⟩
      replace hb1 := bb hb1 hb2
      clear hb2
      go_wp2_with fail
      refine (HX.out _ hb1).mono ?_
      rintro e w2 ⟨rfl, hb2⟩
      replace hb1 := bb hb1 hb2
      clear hb2
      go_wp2_with fail
      refine (HY.out _ hb1).mono ?_
      rintro e w3 ⟨rfl, hb2⟩
      replace hb1 := bb hb1 hb2
      clear hb2
      go_wp2_with fail
      refine (HB.out _ hb1).mono ?_
      rintro e w4 ⟨rfl, hb2⟩
      replace hb1 := bb hb1 hb2
      clear hb2
      go_wp2_with fail
      refine (HTr.out _).mono ?_
      rintro e w8 ⟨rfl, hb2⟩
      replace hb1 := bb hb1 hb2
      clear hb2
      go_wp2_with fail
      refine (HGT2.out _ hb1).mono ?_
      rintro e w9 ⟨rfl, hb2⟩
      replace hb1 := bb hb1 hb2
      clear hb2
      go_wp2
      go_ret
      exact ⟨rfl, hb1⟩
  | false =>
    clear happ HGT
    cases hy : ugood b.data.toList with
    | true =>
      have e1 : ugood (a.data.toList ++ b.data.toList) = false := by
        cases h : ugood (a.data.toList ++ b.data.toList) with
        | false => rfl
        | true => rw [hleft hy _ h] at hx; cases hx
      rw [e1] at HB
      rw [hx] at HX
      rw [hy] at HY
      clear hleft hx hy e1
      go_enter Tryd.func3, Tryd.ntmps3
      go_wp2_with fail
      refine (HA.out).mono ?_
      rintro e w1 ⟨rfl, hb2⟩
      replace hb1 := bb hb1 hb2
      clear hb2
      go_wp2_with fail
      refine (HX.out _ hb1).mono ?_
      rintro e w2 ⟨rfl, hb2⟩
      replace hb1 := bb hb1 hb2
      clear hb2
      go_wp2_with fail
      refine (HY.out _ hb1).mono ?_
      rintro e w3 ⟨rfl, hb2⟩
      replace hb1 := bb hb1 hb2
      clear hb2
      go_wp2_with fail
      refine (HB.out _ hb1).mono ?_
      rintro e w4 ⟨rfl, hb2⟩
      replace hb1 := bb hb1 hb2
      clear hb2
      go_wp2
      go_ret
      exact ⟨rfl, hb1⟩
    | false =>
      rw [hx] at HX
      rw [hy] at HY
      clear hleft hx hy
      cases hz : ugood (a.data.toList ++ b.data.toList) with
      | true =>
        rw [hz] at HB
        clear hz
        go_enter Tryd.func3, Tryd.ntmps3
        go_wp2_with fail
        refine (HA.out).mono ?_
        rintro e w1 ⟨rfl, hb2⟩
        replace hb1 := bb hb1 hb2
        clear hb2
        go_wp2_with fail
        refine (HX.out _ hb1).mono ?_
        rintro e w2 ⟨rfl, hb2⟩
        replace hb1 := bb hb1 hb2
        clear hb2
        go_wp2_with fail
        refine (HY.out _ hb1).mono ?_
        rintro e w3 ⟨rfl, hb2⟩
        replace hb1 := bb hb1 hb2
        clear hb2
        go_wp2_with fail
        refine (HB.out _ hb1).mono ?_
        rintro e w4 ⟨rfl, hb2⟩
        replace hb1 := bb hb1 hb2
        clear hb2
        go_wp2
        go_ret
        exact ⟨rfl, hb1⟩
      | false =>
        rw [hz] at HB
        clear hz
        go_enter Tryd.func3, Tryd.ntmps3
        go_wp2_with fail
        refine (HA.out).mono ?_
        rintro e w1 ⟨rfl, hb2⟩
        replace hb1 := bb hb1 hb2
        clear hb2
        go_wp2_with fail
        refine (HX.out _ hb1).mono ?_
        rintro e w2 ⟨rfl, hb2⟩
        replace hb1 := bb hb1 hb2
        clear hb2
        go_wp2_with fail
        refine (HY.out _ hb1).mono ?_
        rintro e w3 ⟨rfl, hb2⟩
        replace hb1 := bb hb1 hb2
        clear hb2
        go_wp2_with fail
        refine (HB.out _ hb1).mono ?_
        rintro e w4 ⟨rfl, hb2⟩
        replace hb1 := bb hb1 hb2
        clear hb2
        go_wp2
        go_ret
        exact ⟨rfl, hb1⟩
end Go.Proofs.YtmlijflappjfoaaDoor
