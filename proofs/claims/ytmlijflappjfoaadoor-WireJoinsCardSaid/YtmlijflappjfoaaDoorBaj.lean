/-
  Texts of the proof, joined: UtfLaw FldLaw FldLaw2 Laid Open Open3. Conditions: as each names.
-/
import Derived.Test.YtmlijflappjfoaaDoorBai
import Derived.Test.YtmlijflappjfoaaDoorBae
import Derived.Test.YtmlijflappjfoaaDoorRows
import Derived.PinnedBridge
import Derived.Lib.LaidIn
import Derived.Lib.LaidU8T
import Derived.Deep.DeepHandedRow
import Derived.Deep.DeepWitnessRowRef
import Derived.Test.YtmlijflappjfoaaDoorBaa
import Derived.ProofKit
import Derived.OpenShut
import Derived.Deep.SlicePairs

section
/-
  The walks of the statements of layer 7. Conditions: texts as they come in; Go's tables of UTF-8 lie in memory.
-/
namespace Go.Proofs.YtmlijflappjfoaaDoor
open Go.RowKit Go.PM
set_option maxRecDepth 100000
set_option maxHeartbeats 1000000

theorem good_no : ugood [192, 128] = false := ugood_zero (by decide) (by decide)
theorem good_yes : ugood [97, 0, 195, 169] = true := by
  rw [ugood_step (by decide)]
  show ugood [0, 195, 169] = true
  rw [ugood_step (by decide)]
  show ugood [195, 169] = true
  rw [ugood_step (by decide)]
  exact ugood_nil
theorem awake07 (w : World) (hT : Tabs w) :
    Calls Tryd.prog 12 #[] w fun e w' => e = .returned (.bool true) ∧ Below w.heap.size w w' := by
  have HT := Lib.hid hT
  clear hT
  go_enter Tryd.func12, Tryd.ntmps12
  go_wp2_with fail
  refine (awakeE06 _).mono ?_
  rintro e w1 ⟨rfl, hb1⟩
  have h1 := good_any ⟨#[192, 128]⟩ w1 (by decide) (HT.out.below hb1)
  rw [show (ByteArray.mk #[192, 128]).data.toList = [192, 128] from rfl, good_no] at h1
  have H1 := Lib.hid h1
  clear h1
  go_wp2_with fail
  refine H1.out.mono ?_
  rintro e w2 ⟨rfl, hb2⟩
  replace hb2 := bb hb1 hb2
  have h2 := good_any ⟨#[97, 0, 195, 169]⟩ w2 (by decide) (HT.out.below hb2)
  rw [show (ByteArray.mk #[97, 0, 195, 169]).data.toList = [97, 0, 195, 169] from rfl, good_yes] at h2
  have H2 := Lib.hid h2
  clear h2 H1
  go_wp2_with fail
  refine H2.out.mono ?_
  rintro e w3 ⟨rfl, hb3⟩
  replace hb3 := bb hb2 hb3
  go_wp2
  go_ret
  exact ⟨rfl, hb3⟩
theorem awakeE07 (w : World) (hT : Tabs w) : Calls Tryd.prog 51 #[] w fun e w' => e = .returned (.bool true) ∧ Below w.heap.size w w' := by
  have H := Lib.hid (awake07 w hT)
  clear hT
  go_enter Tryd.func51, Tryd.ntmps51
  go_wp2_with fail
  refine H.out.mono ?_
  rintro e w' ⟨rfl, hb⟩
  go_wp2
  go_ret
  exact ⟨rfl, hb⟩
theorem prefix_take (l : List UInt8) (n : Nat) : Lib.hasPrefix l (l.take n) = true := by
  unfold Lib.hasPrefix
  rw [List.isPrefixOf_iff_prefix]
  exact List.take_prefix n l
theorem tells_walk (s : ByteArray) (least most : Int) (w : World) (hs : s.size ≤ 9223372036854775807) (hl : InI64 least) (hm : InI64 most) (hT : Tabs w) :
    Calls Tryd.prog 4 #[.string s, .int .i64 least, .int .i64 most] w fun e w' => e = .returned (.bool true) ∧ Below w.heap.size w w' := by
  have hb1 : Below w.heap.size w w := b0
  by_cases hlen : 2000 < s.size
  · have HA := Lib.hid (awake07 w hT)
    clear hT
    go_enter Tryd.func4, Tryd.ntmps4
    go_wp2_with fail
    refine (HA.out).mono ?_
    rintro e w1 ⟨rfl, hb2⟩
    replace hb1 := bb hb1 hb2
    clear hb2
    go_wp2
    go_ret
    exact ⟨rfl, hb1⟩
  have HA := Lib.hid (awake07 w hT)
  have HT := Lib.hid hT
  have hpc := pcut_le s.data.toList most
  rw [len_list] at hpc
  have HG1 : Hid (∀ x : World, Below w.heap.size w x → Calls Tryd.prog 13 #[.string s] x fun e w' => e = .returned (.bool (ugood s.data.toList)) ∧ Below x.heap.size x w') := fun x hx => good_any s x hs (HT.out.below hx)
  have HG2 : Hid (∀ x : World, Calls Tryd.prog 16 #[.string s] x fun e w' => e = .returned (.bool (ugood s.data.toList)) ∧ Below x.heap.size x w') := fun x => rgood_any s x hs
  have HC1 : Hid (∀ x : World, Below w.heap.size w x → Calls Tryd.prog 19 #[.string s, .int .i64 least, .int .i64 most] x fun e w' => e = .returned (.int .i64 (uchk s.data.toList least most)) ∧ Below x.heap.size x w') := fun x hx => ucheck_any s least most x hs (HT.out.below hx)
  have HC2 : Hid (∀ x : World, Calls Tryd.prog 20 #[.string s, .int .i64 least, .int .i64 most] x fun e w' => e = .returned (.int .i64 (uchk s.data.toList least most)) ∧ Below x.heap.size x w') := fun x => rcheck_any s least most x hs trivial
  have HN1 : Hid (∀ x : World, Calls Tryd.prog 14 #[.string s] x fun e w' => e = .returned (.int .i64 (ucount s.data.toList : Int)) ∧ Below x.heap.size x w') := fun x => count_any7 s x (by omega)
  have HN2 : Hid (∀ x : World, Calls Tryd.prog 21 #[.string s] x fun e w' => e = .returned (.int .i64 (ucount s.data.toList : Int)) ∧ Below x.heap.size x w') := fun x => rcount_any s x (by omega)
  have HP : Hid (∀ x : World, Calls Tryd.prog 17 #[.string s, .string (txt (s.data.toList.take (pcut s.data.toList most)))] x fun e w' => e = .returned (.bool true) ∧ Below x.heap.size x w') := fun x => by
    have := Tryd.strings_HasPrefix s (txt (s.data.toList.take (pcut s.data.toList most))) x
    rw [txt_list, prefix_take] at this
    exact this.mono fun e w' ⟨he, hw⟩ => ⟨he, hw ▸ b0⟩
  have HTr : Hid (∀ x : World, Calls Tryd.prog 15 #[.string s, .int .i64 most] x fun e w' => e = .returned (.string (txt (s.data.toList.take (pcut s.data.toList most)))) ∧ Below x.heap.size x w') := fun x => trim_any s most x hs hm
  have HRT : Hid (ugood s.data.toList = true → ∀ x : World, Calls Tryd.prog 18 #[.string s, .int .i64 most] x fun e w' => e = .returned (.string (txt (s.data.toList.take (pcut s.data.toList most)))) ∧ Below x.heap.size x w') := fun hg x => by
    rw [pcut_rcut _ _ hg]
    exact rtrim_any s most x (by omega) hm hg
  have hsz : (txt (s.data.toList.take (pcut s.data.toList most))).size = pcut s.data.toList most := by rw [txt_size, List.length_take, len_list]; omega
  have hsz2 : ((txt (s.data.toList.take (pcut s.data.toList most))).size : Int) ≤ max most 0 := by rw [hsz]; exact hpc.2
  have hsz3 : (txt (s.data.toList.take (pcut s.data.toList most))).size ≤ 2000 := by rw [hsz]; omega
  clear hsz hpc
  generalize txt (s.data.toList.take (pcut s.data.toList most)) = T at *
  generalize uchk s.data.toList least most = c at *
  generalize ucount s.data.toList = n at *
  have HL := Lib.hid hl
  have HM := Lib.hid hm
  clear hT hl hm
  cases hg : ugood s.data.toList with
  | true =>
    have HRT2 := Lib.hid (HRT.out hg)
    rw [hg] at HG1 HG2
    clear hg HRT
    go_enter Tryd.func4, Tryd.ntmps4
    go_wp2_with fail
    refine (HA.out).mono ?_
    rintro e w1 ⟨rfl, hb2⟩
    replace hb1 := bb hb1 hb2
    clear hb2
    go_wp2_with fail
    refine (HG2.out _).mono ?_
    rintro e w2 ⟨rfl, hb2⟩
    replace hb1 := bb hb1 hb2
    clear hb2
    go_wp2_with fail
    refine (HTr.out _).mono ?_
    rintro e w3 ⟨rfl, hb2⟩
    replace hb1 := bb hb1 hb2
    clear hb2
    go_wp2_with fail
    refine (HP.out _).mono ?_
    rintro e w4 ⟨rfl, hb2⟩
    replace hb1 := bb hb1 hb2
    clear hb2
    go_wp2_with fail
    refine (HRT2.out _).mono ?_
    rintro e w5 ⟨rfl, hb2⟩
    replace hb1 := bb hb1 hb2
    clear hb2
    go_wp2_with fail
    refine (HG1.out _ hb1).mono ?_
    rintro e w6 ⟨rfl, hb2⟩
    replace hb1 := bb hb1 hb2
    clear hb2
    go_wp2_with fail
    refine (HC1.out _ hb1).mono ?_
    rintro e w7 ⟨rfl, hb2⟩
    replace hb1 := bb hb1 hb2
    clear hb2
    go_wp2_with fail
    refine (HC2.out _).mono ?_
    rintro e w8 ⟨rfl, hb2⟩
    replace hb1 := bb hb1 hb2
    clear hb2
    go_wp2_with fail
    refine (HN1.out _).mono ?_
    rintro e w9 ⟨rfl, hb2⟩
    replace hb1 := bb hb1 hb2
    clear hb2
    go_wp2_with fail
    refine (HN2.out _).mono ?_
    rintro e w10 ⟨rfl, hb2⟩
    replace hb1 := bb hb1 hb2
    clear hb2
    go_wp2
    go_ret
    exact ⟨rfl, hb1⟩
  | false =>
    rw [hg] at HG1 HG2
    clear hg HRT
    go_enter Tryd.func4, Tryd.ntmps4
    go_wp2_with fail
    refine (HA.out).mono ?_
    rintro e w1 ⟨rfl, hb2⟩
    replace hb1 := bb hb1 hb2
    clear hb2
    go_wp2_with fail
    refine (HG2.out _).mono ?_
    rintro e w2 ⟨rfl, hb2⟩
    replace hb1 := bb hb1 hb2
    clear hb2
    go_wp2_with fail
    refine (HTr.out _).mono ?_
    rintro e w3 ⟨rfl, hb2⟩
    replace hb1 := bb hb1 hb2
    clear hb2
    go_wp2_with fail
    refine (HP.out _).mono ?_
    rintro e w4 ⟨rfl, hb2⟩
    replace hb1 := bb hb1 hb2
    clear hb2
    go_wp2_with fail
    refine (HG1.out _ hb1).mono ?_
    rintro e w6 ⟨rfl, hb2⟩
    replace hb1 := bb hb1 hb2
    clear hb2
    go_wp2_with fail
    refine (HC1.out _ hb1).mono ?_
    rintro e w7 ⟨rfl, hb2⟩
    replace hb1 := bb hb1 hb2
    clear hb2
    go_wp2_with fail
    refine (HC2.out _).mono ?_
    rintro e w8 ⟨rfl, hb2⟩
    replace hb1 := bb hb1 hb2
    clear hb2
    go_wp2_with fail
    refine (HN1.out _).mono ?_
    rintro e w9 ⟨rfl, hb2⟩
    replace hb1 := bb hb1 hb2
    clear hb2
    go_wp2_with fail
    refine (HN2.out _).mono ?_
    rintro e w10 ⟨rfl, hb2⟩
    replace hb1 := bb hb1 hb2
    clear hb2
    go_wp2
    go_ret
    exact ⟨rfl, hb1⟩
theorem joins_walk (a b : ByteArray) (most : Int) (w : World) (ha : a.size ≤ 9223372036854775807) (hb : b.size ≤ 9223372036854775807) (hm : InI64 most) (hT : Tabs w) :
    Calls Tryd.prog 3 #[.string a, .string b, .int .i64 most] w fun e w' => e = .returned (.bool true) ∧ Below w.heap.size w w' := by
  have hb1 : Below w.heap.size w w := b0
  by_cases h1 : 2000 < a.size
  · have HA := Lib.hid (awake07 w hT)
    clear hT
    go_enter Tryd.func3, Tryd.ntmps3
    go_wp2_with fail
    refine (HA.out).mono ?_
    rintro e w1 ⟨rfl, hb2⟩
    replace hb1 := bb hb1 hb2
    clear hb2
    go_wp2
    go_ret
    exact ⟨rfl, hb1⟩
  by_cases h2 : 2000 < b.size
  · have HA := Lib.hid (awake07 w hT)
    clear hT
    go_enter Tryd.func3, Tryd.ntmps3
    go_wp2_with fail
    refine (HA.out).mono ?_
    rintro e w1 ⟨rfl, hb2⟩
    replace hb1 := bb hb1 hb2
    clear hb2
    go_wp2
    go_ret
    exact ⟨rfl, hb1⟩
  have HA := Lib.hid (awake07 w hT)
  have HT := Lib.hid hT
  have hab : (a ++ b).data.toList = a.data.toList ++ b.data.toList := by rw [ByteArray.data_append, Array.toList_append]
  have hsz : (a ++ b).size ≤ 4000 := by rw [ByteArray.size_append]; omega
  have HX : Hid (∀ x : World, Below w.heap.size w x → Calls Tryd.prog 13 #[.string a] x fun e w' => e = .returned (.bool (ugood a.data.toList)) ∧ Below x.heap.size x w') := fun x hx => good_any a x ha (HT.out.below hx)
  have HY : Hid (∀ x : World, Below w.heap.size w x → Calls Tryd.prog 13 #[.string b] x fun e w' => e = .returned (.bool (ugood b.data.toList)) ∧ Below x.heap.size x w') := fun x hx => good_any b x hb (HT.out.below hx)
  have HB : Hid (∀ x : World, Below w.heap.size w x → Calls Tryd.prog 13 #[.string (a ++ b)] x fun e w' => e = .returned (.bool (ugood (a.data.toList ++ b.data.toList))) ∧ Below x.heap.size x w') := fun x hx => by
    have := good_any (a ++ b) x (by omega) (HT.out.below hx)
    rwa [hab] at this
  have HNA : Hid (∀ x : World, Calls Tryd.prog 14 #[.string a] x fun e w' => e = .returned (.int .i64 (ucount a.data.toList : Int)) ∧ Below x.heap.size x w') := fun x => count_any7 a x (by omega)
  have HNB : Hid (∀ x : World, Calls Tryd.prog 14 #[.string b] x fun e w' => e = .returned (.int .i64 (ucount b.data.toList : Int)) ∧ Below x.heap.size x w') := fun x => count_any7 b x (by omega)
  have HNN : Hid (∀ x : World, Calls Tryd.prog 14 #[.string (a ++ b)] x fun e w' => e = .returned (.int .i64 (ucount (a.data.toList ++ b.data.toList) : Int)) ∧ Below x.heap.size x w') := fun x => by
    have := count_any7 (a ++ b) x (by omega)
    rwa [hab] at this
  have HTr : Hid (∀ x : World, Calls Tryd.prog 15 #[.string a, .int .i64 most] x fun e w' => e = .returned (.string (txt (a.data.toList.take (pcut a.data.toList most)))) ∧ Below x.heap.size x w') := fun x => trim_any a most x ha hm
  have HGT : Hid (ugood a.data.toList = true → ∀ x : World, Below w.heap.size w x → Calls Tryd.prog 13 #[.string (txt (a.data.toList.take (pcut a.data.toList most)))] x fun e w' => e = .returned (.bool true) ∧ Below x.heap.size x w') := fun hg x hx => by
    have := good_any (txt (a.data.toList.take (pcut a.data.toList most))) x (by rw [txt_size, List.length_take, len_list]; omega) (HT.out.below hx)
    rw [txt_list, pcut_good _ _ hg] at this
    exact this
  generalize txt (a.data.toList.take (pcut a.data.toList most)) = T at *
  have hleft := ugood_left b.data.toList
  have happ := ugood_append b.data.toList a.data.toList
  clear hab
  have HM := Lib.hid hm
  clear hT hm
  have hca : ucount a.data.toList ≤ 2000 := by
    rw [← rune_count]
    have := Lib.runeCount_le a
    omega
  have hcb : ucount b.data.toList ≤ 2000 := by
    rw [← rune_count]
    have := Lib.runeCount_le b
    omega
  cases hx : ugood a.data.toList with
  | true =>
    obtain ⟨e1, e2⟩ := happ hx
    rw [e1] at HB
    rw [e2] at HNN
    have HGT2 := Lib.hid (HGT.out hx)
    rw [hx] at HX
    clear hleft happ e1 e2 HGT hx
    generalize ucount a.data.toList = na at *
    generalize ucount b.data.toList = nb at *
    cases hy : ugood b.data.toList with
    | true =>
      rw [hy] at HY HB
      clear hy
      go_enter Tryd.func3, Tryd.ntmps3
      go_wp2_with fail
      refine (HA.out).mono ?_
      rintro e w1 ⟨rfl, hb2⟩
      replace hb1 := bb hb1 hb2
      clear hb2
      go_wp2_with fail
      refine (HX.out _ hb1).mono ?_
      rintro e w2 ⟨rfl, hb2⟩
      replace hb1 := bb hb1 hb2
      clear hb2
      go_wp2_with fail
      refine (HY.out _ hb1).mono ?_
      rintro e w3 ⟨rfl, hb2⟩
      replace hb1 := bb hb1 hb2
      clear hb2
      go_wp2_with fail
      refine (HB.out _ hb1).mono ?_
      rintro e w4 ⟨rfl, hb2⟩
      replace hb1 := bb hb1 hb2
      clear hb2
      go_wp2_with fail
      refine (HNN.out _).mono ?_
      rintro e w5 ⟨rfl, hb2⟩
      replace hb1 := bb hb1 hb2
      clear hb2
      go_wp2_with fail
      refine (HNA.out _).mono ?_
      rintro e w6 ⟨rfl, hb2⟩
      replace hb1 := bb hb1 hb2
      clear hb2
      go_wp2_with fail
      refine (HNB.out _).mono ?_
      rintro e w7 ⟨rfl, hb2⟩
      replace hb1 := bb hb1 hb2
      clear hb2
      go_wp2_with fail
      refine (HTr.out _).mono ?_
      rintro e w8 ⟨rfl, hb2⟩
      replace hb1 := bb hb1 hb2
      clear hb2
      go_wp2_with fail
      refine (HGT2.out _ hb1).mono ?_
      rintro e w9 ⟨rfl, hb2⟩
      replace hb1 := bb hb1 hb2
      clear hb2
      go_wp2
      go_ret
      exact ⟨rfl, hb1⟩
    | false =>
      rw [hy] at HY HB
      clear hy
      go_enter Tryd.func3, Tryd.ntmps3
      go_wp2_with fail
      refine (HA.out).mono ?_
      rintro e w1 ⟨rfl, hb2⟩
      replace hb1 := bb hb1 hb2
      clear hb2
      go_wp2_with fail
      refine (HX.out _ hb1).mono ?_
      rintro e w2 ⟨rfl, hb2⟩
      replace hb1 := bb hb1 hb2
      clear hb2
      go_wp2_with fail
      refine (HY.out _ hb1).mono ?_
      rintro e w3 ⟨rfl, hb2⟩
      replace hb1 := bb hb1 hb2
      clear hb2
      go_wp2_with fail
      refine (HB.out _ hb1).mono ?_
      rintro e w4 ⟨rfl, hb2⟩
      replace hb1 := bb hb1 hb2
      clear hb2
      go_wp2_with fail
      refine (HTr.out _).mono ?_
      rintro e w8 ⟨rfl, hb2⟩
      replace hb1 := bb hb1 hb2
      clear hb2
      go_wp2_with fail
      refine (HGT2.out _ hb1).mono ?_
      rintro e w9 ⟨rfl, hb2⟩
      replace hb1 := bb hb1 hb2
      clear hb2
      go_wp2
      go_ret
      exact ⟨rfl, hb1⟩
  | false =>
    clear happ HGT
    cases hy : ugood b.data.toList with
    | true =>
      have e1 : ugood (a.data.toList ++ b.data.toList) = false := by
        cases h : ugood (a.data.toList ++ b.data.toList) with
        | false => rfl
        | true => rw [hleft hy _ h] at hx; cases hx
      rw [e1] at HB
      rw [hx] at HX
      rw [hy] at HY
      clear hleft hx hy e1
      go_enter Tryd.func3, Tryd.ntmps3
      go_wp2_with fail
      refine (HA.out).mono ?_
      rintro e w1 ⟨rfl, hb2⟩
      replace hb1 := bb hb1 hb2
      clear hb2
      go_wp2_with fail
      refine (HX.out _ hb1).mono ?_
      rintro e w2 ⟨rfl, hb2⟩
      replace hb1 := bb hb1 hb2
      clear hb2
      go_wp2_with fail
      refine (HY.out _ hb1).mono ?_
      rintro e w3 ⟨rfl, hb2⟩
      replace hb1 := bb hb1 hb2
      clear hb2
      go_wp2_with fail
      refine (HB.out _ hb1).mono ?_
      rintro e w4 ⟨rfl, hb2⟩
      replace hb1 := bb hb1 hb2
      clear hb2
      go_wp2
      go_ret
      exact ⟨rfl, hb1⟩
    | false =>
      rw [hx] at HX
      rw [hy] at HY
      clear hleft hx hy
      cases hz : ugood (a.data.toList ++ b.data.toList) with
      | true =>
        rw [hz] at HB
        clear hz
        go_enter Tryd.func3, Tryd.ntmps3
        go_wp2_with fail
        refine (HA.out).mono ?_
        rintro e w1 ⟨rfl, hb2⟩
        replace hb1 := bb hb1 hb2
        clear hb2
        go_wp2_with fail
        refine (HX.out _ hb1).mono ?_
        rintro e w2 ⟨rfl, hb2⟩
        replace hb1 := bb hb1 hb2
        clear hb2
        go_wp2_with fail
        refine (HY.out _ hb1).mono ?_
        rintro e w3 ⟨rfl, hb2⟩
        replace hb1 := bb hb1 hb2
        clear hb2
        go_wp2_with fail
        refine (HB.out _ hb1).mono ?_
        rintro e w4 ⟨rfl, hb2⟩
        replace hb1 := bb hb1 hb2
        clear hb2
        go_wp2
        go_ret
        exact ⟨rfl, hb1⟩
      | false =>
        rw [hz] at HB
        clear hz
        go_enter Tryd.func3, Tryd.ntmps3
        go_wp2_with fail
        refine (HA.out).mono ?_
        rintro e w1 ⟨rfl, hb2⟩
        replace hb1 := bb hb1 hb2
        clear hb2
        go_wp2_with fail
        refine (HX.out _ hb1).mono ?_
        rintro e w2 ⟨rfl, hb2⟩
        replace hb1 := bb hb1 hb2
        clear hb2
        go_wp2_with fail
        refine (HY.out _ hb1).mono ?_
        rintro e w3 ⟨rfl, hb2⟩
        replace hb1 := bb hb1 hb2
        clear hb2
        go_wp2_with fail
        refine (HB.out _ hb1).mono ?_
        rintro e w4 ⟨rfl, hb2⟩
        replace hb1 := bb hb1 hb2
        clear hb2
        go_wp2
        go_ret
        exact ⟨rfl, hb1⟩
end Go.Proofs.YtmlijflappjfoaaDoor
end

section
/-
  The walks of the statements of layer 8: the chapter's example; whether fields may be, how deep they stand, how many they are, whether they are the same. Conditions: numbers within their kinds; Go's tables of UTF-8 lie in memory.
-/
namespace Go.PM
open Go.RowKit
theorem slv_blk {w : World} {I : Nat → Prop} {g : Nat} {t : TypeId} {cs : Array Value} {f : Fs} {c : Nat} (hb : BlkAt w g t cs) (hc : Cls w I cs.toList f) (hI : I g) (hl : f.len ≤ c) : SlV w I (.slice (some ⟨g, 0, none⟩) f.len c) f :=
  ⟨_, c, rfl, hl, .inr ⟨g, 0, rfl, hI, hb.lt, hc.at_ (by intro j u hj; rw [Nat.zero_add, hb.cell j, ← Array.getElem?_toList]; exact hj)⟩⟩
theorem few_ok {l : List One} (h : few l = true) : (∀ x ∈ l, x.text.size ≤ 300) ∧ l.length ≤ 60 := by
  unfold few at h
  rw [Bool.and_eq_true, List.all_eq_true] at h
  exact ⟨fun x hx => by simpa using h.1 x hx, by simpa using h.2⟩
def fnum (t n : Nat) (r : Fs) : Fs := .cons t 0 n ByteArray.empty .nil r
end Go.PM
namespace Go.Proofs.YtmlijflappjfoaaDoor
open Go.RowKit Go.PM
set_option maxRecDepth 100000
set_option maxHeartbeats 4000000

theorem ofnum_any (t n : Nat) (w : World) :
    Calls Tryd.prog 52 #[.int .u64 (t : Int), .int .u64 (n : Int)] w fun e w' => e = .returned (.agg #[.int .u64 (t : Int), .int .i64 0, .int .u64 (n : Int), .string ByteArray.empty, .slice none 0 0]) ∧ Below w.heap.size w w' := by
  go_enter Tryd.func52, Tryd.ntmps52
  go_wp2
  exact bodyPost_ret (v := .agg #[.int .u64 (t : Int), .int .i64 0, .int .u64 (n : Int), .string ByteArray.empty, .slice none 0 0]) (by simp [results, Tryd.results52, go_sem]; try rfl) rfl ⟨rfl, ba b0 _⟩
theorem two_nums (a b : Nat) (w : World) : SlV (w.alloc (.cells #[.int .u64 (a : Int), .int .i64 0, .int .u64 0, .string ByteArray.empty, .slice none 0 0, .int .u64 (b : Int), .int .i64 0, .int .u64 0, .string ByteArray.empty, .slice none 0 0] 41)) (fun _ => True) (.slice (some ⟨w.heap.size, 0, none⟩) 2 2) (fnum a 0 (fnum b 0 .nil)) := by
  have hb := BlkAt.made w 41 #[.int .u64 (a : Int), .int .i64 0, .int .u64 0, .string ByteArray.empty, .slice none 0 0, .int .u64 (b : Int), .int .i64 0, .int .u64 0, .string ByteArray.empty, .slice none 0 0]
  exact slv_blk (f := fnum a 0 (fnum b 0 .nil)) hb ⟨rfl, rfl, rfl, rfl, SlV.nil _ _ _ _, rfl, rfl, rfl, rfl, SlV.nil _ _ _ _, trivial⟩ trivial (Nat.le_refl 2)
theorem awake08 (w : World) (hT : Tabs w) :
    Calls Tryd.prog 22 #[] w fun e w' => e = .returned (.bool true) ∧ Below w.heap.size w w' := by
  have HT := Lib.hid (awakeE07 w hT)
  have H1 : Hid (∀ W : World, Calls Tryd.prog 30 #[.slice (some ⟨W.heap.size, 0, none⟩) 2 2] (W.alloc (.cells #[.int .u64 2, .int .i64 0, .int .u64 0, .string ByteArray.empty, .slice none 0 0, .int .u64 1, .int .i64 0, .int .u64 0, .string ByteArray.empty, .slice none 0 0] 41)) fun e w' => e = .returned (.int .i64 7) ∧ Below (W.heap.size + 1) (W.alloc (.cells #[.int .u64 2, .int .i64 0, .int .u64 0, .string ByteArray.empty, .slice none 0 0, .int .u64 1, .int .i64 0, .int .u64 0, .string ByteArray.empty, .slice none 0 0] 41)) w') := fun W => by
    have := check_of _ _ _ _ (two_nums 2 1 W) ⟨⟨by unfold In64; omega, by unfold InI64; omega, by unfold In64; omega, by decide⟩, trivial, ⟨by unfold In64; omega, by unfold InI64; omega, by unfold In64; omega, by decide⟩, trivial, trivial⟩ (by decide)
    rw [show fcheck (fnum 2 0 (fnum 1 0 .nil)) 0 0 = 7 by decide] at this
    refine this.mono fun e w' h => ?_
    rw [World.size_alloc] at h
    exact h
  have H2 : Hid (∀ W : World, Calls Tryd.prog 30 #[.slice (some ⟨W.heap.size, 0, none⟩) 2 2] (W.alloc (.cells #[.int .u64 1, .int .i64 0, .int .u64 0, .string ByteArray.empty, .slice none 0 0, .int .u64 2, .int .i64 0, .int .u64 0, .string ByteArray.empty, .slice none 0 0] 41)) fun e w' => e = .returned (.int .i64 0) ∧ Below (W.heap.size + 1) (W.alloc (.cells #[.int .u64 1, .int .i64 0, .int .u64 0, .string ByteArray.empty, .slice none 0 0, .int .u64 2, .int .i64 0, .int .u64 0, .string ByteArray.empty, .slice none 0 0] 41)) w') := fun W => by
    have := check_of _ _ _ _ (two_nums 1 2 W) ⟨⟨by unfold In64; omega, by unfold InI64; omega, by unfold In64; omega, by decide⟩, trivial, ⟨by unfold In64; omega, by unfold InI64; omega, by unfold In64; omega, by decide⟩, trivial, trivial⟩ (by decide)
    rw [show fcheck (fnum 1 0 (fnum 2 0 .nil)) 0 0 = 0 by decide] at this
    refine this.mono fun e w' h => ?_
    rw [World.size_alloc] at h
    exact h
  have hb1 : Below w.heap.size w w := b0
  clear hT
  go_enter Tryd.func22, Tryd.ntmps22
  go_wp2_with fail
  refine (HT.out).mono ?_
  rintro e w1 ⟨rfl, hb2⟩
  replace hb1 := bb hb1 hb2
  clear hb2
  go_wp2_with fail
  refine (ofnum_any 2 0 _).mono ?_
  rintro e w2 ⟨rfl, hb2⟩
  replace hb1 := bb hb1 hb2
  clear hb2
  go_wp2_with fail
  refine (ofnum_any 1 0 _).mono ?_
  rintro e w3 ⟨rfl, hb2⟩
  replace hb1 := bb hb1 hb2
  clear hb2
  go_wp2_with fail
  refine (H1.out _).mono ?_
  rintro e w4 ⟨rfl, hb2⟩
  replace hb1 := bb hb1 (bb (ba b0 _) (by rw [World.size_alloc]; exact hb2))
  clear hb2
  go_wp2_with fail
  refine (ofnum_any 1 0 _).mono ?_
  rintro e w5 ⟨rfl, hb2⟩
  replace hb1 := bb hb1 hb2
  clear hb2
  go_wp2_with fail
  refine (ofnum_any 2 0 _).mono ?_
  rintro e w6 ⟨rfl, hb2⟩
  replace hb1 := bb hb1 hb2
  clear hb2
  go_wp2_with fail
  refine (H2.out _).mono ?_
  rintro e w7 ⟨rfl, hb2⟩
  replace hb1 := bb hb1 (bb (ba b0 _) (by rw [World.size_alloc]; exact hb2))
  clear hb2
  go_wp2
  go_ret
  exact ⟨rfl, hb1⟩
theorem awakeE08 (w : World) (hT : Tabs w) : Calls Tryd.prog 56 #[] w fun e w' => e = .returned (.bool true) ∧ Below w.heap.size w w' := by
  have H := Lib.hid (awake08 w hT)
  clear hT
  go_enter Tryd.func56, Tryd.ntmps56
  go_wp2_with fail
  refine H.out.mono ?_
  rintro e w' ⟨rfl, hb⟩
  go_wp2
  go_ret
  exact ⟨rfl, hb⟩
end Go.Proofs.YtmlijflappjfoaaDoor
end

section
/-
  The walk of the statement FieldTells. Conditions: numbers within their kinds; Go's tables of UTF-8 lie in memory.
-/
namespace Go.Proofs.YtmlijflappjfoaaDoor
open Go.RowKit Go.PM
set_option maxRecDepth 100000
set_option maxHeartbeats 4000000

theorem ftells_walk (A A' : Option Addr) (cap cap' : Nat) (l l' : List One) (w : World) (hT : Tabs w) (hr : OnesRd w.heap.size w A l) (hr' : OnesRd w.heap.size w A' l') (hok : ∀ x ∈ l, x.ok) (hok' : ∀ x ∈ l', x.ok)
    (hl : l.length ≤ cap) (hl' : l'.length ≤ cap') (hc : cap ≤ 9223372036854775807) (hc' : cap' ≤ 9223372036854775807) :
    Calls Tryd.prog 8 #[.slice A l.length cap, .slice A' l'.length cap'] w fun e w' => e = .returned (.bool true) ∧ Below w.heap.size w w' := by
  have HA := Lib.hid (awake08 w hT)
  have hb1 : Below w.heap.size w w := b0
  have HF : Hid (∀ x : World, Below w.heap.size w x → Calls Tryd.prog 23 #[.slice A l.length cap] x fun e w' => e = .returned (.bool (few l)) ∧ Below x.heap.size x w') := fun x hx => few_any w.heap.size A cap l x (hr.belowB hx) hok (by omega)
  have HF' : Hid (∀ x : World, Below w.heap.size w x → Calls Tryd.prog 23 #[.slice A' l'.length cap'] x fun e w' => e = .returned (.bool (few l')) ∧ Below x.heap.size x w') := fun x hx => few_any w.heap.size A' cap' l' x (hr'.belowB hx) hok' (by omega)
  have HR := Lib.hid hr
  have HR' := Lib.hid hr'
  have HOK := Lib.hid hok
  have HOK' := Lib.hid hok'
  have HL : Hid (l.length ≤ cap ∧ l'.length ≤ cap' ∧ cap ≤ 9223372036854775807 ∧ cap' ≤ 9223372036854775807) := ⟨hl, hl', hc, hc'⟩
  clear hT hr hr' hok hok'
  generalize hfa : few l = fa at HF
  have HFA := Lib.hid hfa
  clear hfa
  generalize hfb : few l' = fb at HF'
  have HFB := Lib.hid hfb
  clear hfb
  cases fa with
  | false =>
    go_enter Tryd.func8, Tryd.ntmps8
    go_wp2_with fail
    refine (HA.out).mono ?_
    rintro e w1 ⟨rfl, hb2⟩
    replace hb1 := bb hb1 hb2
    clear hb2
    go_wp2_with fail
    refine (HF.out _ hb1).mono ?_
    rintro e w2 ⟨rfl, hb2⟩
    replace hb1 := bb hb1 hb2
    clear hb2
    go_wp2
    go_ret
    exact ⟨rfl, hb1⟩
  | true =>
  cases fb with
  | false =>
    go_enter Tryd.func8, Tryd.ntmps8
    go_wp2_with fail
    refine (HA.out).mono ?_
    rintro e w1 ⟨rfl, hb2⟩
    replace hb1 := bb hb1 hb2
    clear hb2
    go_wp2_with fail
    refine (HF.out _ hb1).mono ?_
    rintro e w2 ⟨rfl, hb2⟩
    replace hb1 := bb hb1 hb2
    clear hb2
    go_wp2_with fail
    refine (HF'.out _ hb1).mono ?_
    rintro e w3 ⟨rfl, hb2⟩
    replace hb1 := bb hb1 hb2
    clear hb2
    go_wp2
    go_ret
    exact ⟨rfl, hb1⟩
  | true =>
    obtain ⟨ht3, h60⟩ := few_ok HFA.out
    obtain ⟨ht3', h60'⟩ := few_ok HFB.out
    have HM : Hid (∀ x : World, Below w.heap.size w x → Calls Tryd.prog 24 #[.slice A l.length cap] x (MakeEnd x l.length)) := fun x hx => make_any w.heap.size A cap l x hx.size (HR.out.belowB hx) (fun x hx => ⟨HOK.out x hx, ht3 x hx⟩) h60 HL.out.1 HL.out.2.2.1
    have HM' : Hid (∀ x : World, Below w.heap.size w x → Calls Tryd.prog 24 #[.slice A' l'.length cap'] x (MakeEnd x l'.length)) := fun x hx => make_any w.heap.size A' cap' l' x hx.size (HR'.out.belowB hx) (fun x hx => ⟨HOK'.out x hx, ht3' x hx⟩) h60' HL.out.2.1 HL.out.2.2.2
    clear ht3 ht3'
    go_enter Tryd.func8, Tryd.ntmps8
    go_wp2_with fail
    refine (HA.out).mono ?_
    rintro e w1 ⟨rfl, hb2⟩
    replace hb1 := bb hb1 hb2
    clear hb2
    go_wp2_with fail
    refine (HF.out _ hb1).mono ?_
    rintro e w2 ⟨rfl, hb2⟩
    replace hb1 := bb hb1 hb2
    clear hb2
    go_wp2_with fail
    refine (HF'.out _ hb1).mono ?_
    rintro e w3 ⟨rfl, hb2⟩
    replace hb1 := bb hb1 hb2
    clear hb2
    go_wp2_with fail
    refine (HM.out _ hb1).mono ?_
    rintro e w4 ⟨f, Af, cf, rfl, hfc, hfk, hfs, hb2⟩
    replace hb1 := bb hb1 hb2
    have HFC := Lib.hid hfc
    have HFK : Hid (f.All FKd) := hfk.imp fun _ _ _ _ h => h.kd
    have HFS : Hid (SlV w4 (fun _ => True) (.slice Af f.len cf) f) := hfs.imp fun _ _ => trivial
    have hx : Below w4.heap.size w4 w4 := b0
    clear hb2 hfc hfk hfs
    go_wp2_with fail
    refine (HM'.out _ hb1).mono ?_
    rintro e w5 ⟨g, Ag, cg, rfl, hgc, hgk, hgs, hb2⟩
    replace hb1 := bb hb1 hb2
    replace hx := bb hx hb2
    have HGC := Lib.hid hgc
    have HGS : Hid (SlV w5 (fun _ => True) (.slice Ag g.len cg) g) := hgs.imp fun _ _ => trivial
    have hy : Below w5.heap.size w5 w5 := b0
    clear hb2 hgc hgk hgs
    have hf60 : f.count ≤ 1000000 := by rw [HFC.out]; omega
    have hg60 : g.count ≤ 1000000 := by rw [HGC.out]; omega
    have H60 : Hid (f.count ≤ 1000000 ∧ g.count ≤ 1000000) := ⟨hf60, hg60⟩
    have hfl := Nat.le_trans f.len_count hf60
    have hgl := Nat.le_trans g.len_count hg60
    clear hf60 hg60
    go_wp2_with fail
    refine (of_any f.count Af cf f _ w5 (Nat.le_refl _) (HFS.out.below hx) H60.out.1).mono ?_
    rintro e w6 ⟨Ap, cp, rfl, hps, hb2⟩
    replace hb1 := bb hb1 hb2
    replace hx := bb hx hb2
    replace hy := bb hy hb2
    have HPS : Hid (SlV w6 (fun _ => True) (.slice Ap f.len cp) f) := hps.imp fun _ _ => trivial
    have hp : Below w6.heap.size w6 w6 := b0
    clear hb2 hps
    go_wp2_with fail
    refine (of_any g.count Ag cg g _ w6 (Nat.le_refl _) (HGS.out.below hy) H60.out.2).mono ?_
    rintro e w7 ⟨Aq, cq, rfl, hqs, hb2⟩
    replace hb1 := bb hb1 hb2
    replace hx := bb hx hb2
    replace hy := bb hy hb2
    replace hp := bb hp hb2
    have HQS : Hid (SlV w7 (fun _ => True) (.slice Aq g.len cq) g) := hqs.imp fun _ _ => trivial
    have hq : Below w7.heap.size w7 w7 := b0
    clear hb2 hqs
    have HC1 : Hid (∀ x : World, Below w4.heap.size w4 x → Calls Tryd.prog 30 #[.slice Af f.len cf] x fun e w' => e = .returned (.int .i64 (fcheck f 0 0 : Int)) ∧ Below x.heap.size x w') := fun x hx => check_of _ f _ x (HFS.out.below hx) HFK.out H60.out.1
    have HC2 : Hid (∀ x : World, Below w6.heap.size w6 x → Calls Tryd.prog 36 #[.slice Ap f.len cp, .int .i64 0] x fun e w' => e = .returned (.int .i64 (fcheck f 0 0 : Int)) ∧ Below x.heap.size x w') := fun x hx => rcheck_any8 f.count Ap cp f _ 0 x (Nat.le_refl _) (HPS.out.below hx) HFK.out H60.out.1 (.inl (by omega))
    have HD1 : Hid (∀ x : World, Below w4.heap.size w4 x → Calls Tryd.prog 31 #[.slice Af f.len cf] x fun e w' => e = .returned (.int .i64 (f.depth : Int)) ∧ Below x.heap.size x w') := fun x hx => depth_of _ f _ x (HFS.out.below hx) H60.out.1
    have HD2 : Hid (∀ x : World, Below w6.heap.size w6 x → Calls Tryd.prog 37 #[.slice Ap f.len cp] x fun e w' => e = .returned (.int .i64 (f.depth : Int)) ∧ Below x.heap.size x w') := fun x hx => rdepth_any8 f.count Ap cp f _ x (Nat.le_refl _) (HPS.out.below hx) H60.out.1
    have HN1 : Hid (∀ x : World, Below w4.heap.size w4 x → Calls Tryd.prog 38 #[.slice Af f.len cf] x fun e w' => e = .returned (.int .i64 (l.length : Int)) ∧ Below x.heap.size x w') := fun x hx => by
      have := count_of _ f _ x (HFS.out.below hx) H60.out.1
      rwa [HFC.out] at this
    have HN2 : Hid (∀ x : World, Below w6.heap.size w6 x → Calls Tryd.prog 39 #[.slice Ap f.len cp] x fun e w' => e = .returned (.int .i64 (l.length : Int)) ∧ Below x.heap.size x w') := fun x hx => by
      have := rcount_any8 f.count Ap cp f _ x (Nat.le_refl _) (HPS.out.below hx) H60.out.1
      rwa [HFC.out] at this
    have HS1 : Hid (∀ x : World, Below w4.heap.size w4 x → Below w5.heap.size w5 x → Calls Tryd.prog 40 #[.slice Af f.len cf, .slice Ag g.len cg] x fun e w' => e = .returned (.bool (f.same g)) ∧ Below x.heap.size x w') := fun x hx hy => same_of _ _ f g _ x (HFS.out.below hx) (HGS.out.below hy) H60.out.1 H60.out.2
    have HS2 : Hid (∀ x : World, Below w6.heap.size w6 x → Below w7.heap.size w7 x → Calls Tryd.prog 28 #[.slice Ap f.len cp, .slice Aq g.len cq] x fun e w' => e = .returned (.bool (f.same g)) ∧ Below x.heap.size x w') := fun x hx hy => rsame_any8 f.count Ap Aq cp cq f g _ x (Nat.le_refl _) (HPS.out.below hx) (HQS.out.below hy) H60.out.1 H60.out.2
    have HS3 : Hid (∀ x : World, Below w4.heap.size w4 x → Calls Tryd.prog 40 #[.slice Af f.len cf, .slice Af f.len cf] x fun e w' => e = .returned (.bool true) ∧ Below x.heap.size x w') := fun x hx => by
      have := same_of _ _ f f _ x (HFS.out.below hx) (HFS.out.below hx) H60.out.1 H60.out.1
      rwa [same_self] at this
    generalize fcheck f 0 0 = E at HC1 HC2
    generalize f.depth = D at HD1 HD2
    generalize f.same g = S at HS1 HS2
    go_wp2_with fail
    refine (HC1.out _ hx).mono ?_
    rintro e w8 ⟨rfl, hb2⟩
    replace hb1 := bb hb1 hb2
    replace hx := bb hx hb2
    replace hy := bb hy hb2
    replace hp := bb hp hb2
    replace hq := bb hq hb2
    clear hb2
    go_wp2_with fail
    refine (HC2.out _ hp).mono ?_
    rintro e w9 ⟨rfl, hb2⟩
    replace hb1 := bb hb1 hb2
    replace hx := bb hx hb2
    replace hy := bb hy hb2
    replace hp := bb hp hb2
    replace hq := bb hq hb2
    clear hb2
    go_wp2_with fail
    refine (HD1.out _ hx).mono ?_
    rintro e w10 ⟨rfl, hb2⟩
    replace hb1 := bb hb1 hb2
    replace hx := bb hx hb2
    replace hy := bb hy hb2
    replace hp := bb hp hb2
    replace hq := bb hq hb2
    clear hb2
    go_wp2_with fail
    refine (HD2.out _ hp).mono ?_
    rintro e w11 ⟨rfl, hb2⟩
    replace hb1 := bb hb1 hb2
    replace hx := bb hx hb2
    replace hy := bb hy hb2
    replace hp := bb hp hb2
    replace hq := bb hq hb2
    clear hb2
    go_wp2_with fail
    refine (HN1.out _ hx).mono ?_
    rintro e w12 ⟨rfl, hb2⟩
    replace hb1 := bb hb1 hb2
    replace hx := bb hx hb2
    replace hy := bb hy hb2
    replace hp := bb hp hb2
    replace hq := bb hq hb2
    clear hb2
    go_wp2_with fail
    refine (HN2.out _ hp).mono ?_
    rintro e w13 ⟨rfl, hb2⟩
    replace hb1 := bb hb1 hb2
    replace hx := bb hx hb2
    replace hy := bb hy hb2
    replace hp := bb hp hb2
    replace hq := bb hq hb2
    clear hb2
    go_wp2_with fail
    refine (HN1.out _ hx).mono ?_
    rintro e w14 ⟨rfl, hb2⟩
    replace hb1 := bb hb1 hb2
    replace hx := bb hx hb2
    replace hy := bb hy hb2
    replace hp := bb hp hb2
    replace hq := bb hq hb2
    clear hb2
    go_wp2_with fail
    refine (HS1.out _ hx hy).mono ?_
    rintro e w15 ⟨rfl, hb2⟩
    replace hb1 := bb hb1 hb2
    replace hx := bb hx hb2
    replace hy := bb hy hb2
    replace hp := bb hp hb2
    replace hq := bb hq hb2
    clear hb2
    go_wp2_with fail
    refine (HS2.out _ hp hq).mono ?_
    rintro e w16 ⟨rfl, hb2⟩
    replace hb1 := bb hb1 hb2
    replace hx := bb hx hb2
    replace hy := bb hy hb2
    replace hp := bb hp hb2
    replace hq := bb hq hb2
    clear hb2
    go_wp2_with fail
    refine (HS3.out _ hx).mono ?_
    rintro e w17 ⟨rfl, hb2⟩
    replace hb1 := bb hb1 hb2
    replace hx := bb hx hb2
    replace hy := bb hy hb2
    replace hp := bb hp hb2
    replace hq := bb hq hb2
    clear hb2
    go_wp2
    go_ret
    exact ⟨rfl, hb1⟩
end Go.Proofs.YtmlijflappjfoaaDoor
end

section
/-
  Go's two tables of UTF-8, as the rows list them: what they give a walk; a world that holds them. (The rows of this seat list the same two variables.)
-/
namespace Go.Proofs.YtmlijflappjfoaaDoor
open Go.Lib
set_option maxRecDepth 100000
theorem accept_eq : (Rows.laid_unicode_utf8_acceptRanges : DataW Unit) = Lib.acceptData := by kernel_rfl
theorem tabs_of_laid {W : World} (h : laidMetH Tryd.prog [("unicode/utf8.acceptRanges", Rows.laid_unicode_utf8_acceptRanges), ("unicode/utf8.first", Rows.laid_unicode_utf8_first)] W) : Tabs W := by
  have h4 := Lib.laidMet.reads h (.head _)
  have h3 := Lib.laidMet.reads h (.tail _ (.head _))
  rw [accept_eq] at h4
  rw [show Rows.laid_unicode_utf8_first = Lib.firstData from Pinned.utf8First_eq] at h3
  exact utf8Tabs_of_readsT (U8Types.of196 Tryd.lays196) ⟨by kernel_rfl, by kernel_rfl, by kernel_rfl, by kernel_rfl, by kernel_rfl, by kernel_rfl, by kernel_rfl⟩ h3 h4
/-- The settled world, the two variables holding what their initialisers lay. -/
noncomputable def laidWorld (os : Os) : World :=
  let w0 := World.holding Tryd.prog os ⟨#[], #[], []⟩
  let put (h : Array Obj) (g : Nat) (cs : Array Value) : Array Obj := h.modify g fun
    | .cells _ t frozen => .cells cs t frozen
    | o => o
  let h1 := put w0.heap (Tryd.lays196_ren.g 3) (Lib.firstTab.map fun z => Value.int .u8 z).toArray
  let h2 := put h1 (Tryd.lays196_ren.g 4) ((List.range 16).flatMap fun i => [Value.int .u8 (Lib.accLo i), Value.int .u8 (Lib.accHi i)]).toArray
  { w0 with heap := h2 }
theorem laid_met (os : Os) (args : Array Value) : laidMet Tryd.prog [("unicode/utf8.acceptRanges", Rows.laid_unicode_utf8_acceptRanges), ("unicode/utf8.first", Rows.laid_unicode_utf8_first)] ((laidWorld os).forCall (fun _ _ => 0) ⟨#[], args, []⟩).memory :=
  (LaidIn.of_run (l := [("unicode/utf8.acceptRanges", Rows.laid_unicode_utf8_acceptRanges), ("unicode/utf8.first", Rows.laid_unicode_utf8_first)]) [Tryd.lays196_ren.g 4, Tryd.lays196_ren.g 3] 8 (by kernel_rfl) (by kernel_rfl) (by kernel_rfl) (by kernel_rfl)).met
theorem own : ownKnob Tryd.prog.godebug = none := by kernel_rfl
theorem laidOut : laidOutB Tryd.prog = true := by kernel_rfl
end Go.Proofs.YtmlijflappjfoaaDoor
end

section
/-
  Arguments opened: slices that come in, as lists. Plain theorems, over any program.
-/
namespace Go.PM
open Go.RowKit Go.ChangeShapes Go.WideShapes Go.Deep
section
variable {H : Type} {enc : TypeId × Value → H} {P : Program} {w : World} {spare : Nat → Bool} {held : Bool}
theorem rd_cells {A : Addr} {xs : List Value} (hc : ∀ j u, xs[j]? = some u → w.cell? (A.add j) = some u) : Rd w (some A) xs := by
  cases xs with
  | nil => exact .inl rfl
  | cons x xs =>
    have h0 := hc 0 x rfl
    have hsp := World.cell?_spot h0
    obtain ⟨b, off, spot⟩ := A
    have hs : spot = none := by simpa [Addr.add] using hsp
    subst hs
    have ha : ∀ j, (⟨b, off, none⟩ : Addr).add j = ⟨b, off + j, none⟩ := fun j => by unfold Addr.add; split <;> simp_all
    refine .inr ⟨b, off, rfl, ?_, fun j u hj => by rw [← ha]; exact hc j u hj⟩
    exact World.block_lt_of_cell? w _ (by rw [ha] at h0; exact h0)
theorem getD_take (zs : List Int) (len j : Nat) (h : j < len) (hl : len ≤ zs.length) : (zs.take len)[j]? = some (zs.getD j 0) := by
  rw [List.getElem?_take, if_pos h, List.getElem?_eq_getElem (by omega)]
  simp [List.getD, List.getElem?_eq_getElem (show j < zs.length by omega)]
/-- A slice of integers of one kind. -/
theorem open_sl {t e : TypeId} {k : IntKind} {a : Option Addr} {len cap : Nat} {d : DataW H} {ps : List MemPlace} (ht : P.underlying t = some (.slice e)) (he : P.underlying e = some (.int k)) (hc : P.cellsOf e = 1)
    (h : DataW.Trod enc P w 0 spare held t (.slice a len cap) d ps) :
    ∃ l : List Int, l.length = len ∧ Rd w a (l.map (Value.int k)) ∧ (∀ n ∈ l, (Lit.int k n).wf = true) ∧ len ≤ cap ∧ cap ≤ maxLen := by
  obtain ⟨fuel, hf⟩ := h
  rcases open_ints ht he hc hf with ⟨hcs, _⟩ | ⟨x, l, c, zs, hcs, _, hl, hm, hz, _, hcell, hwz⟩
  · simp [Value.cells] at hcs
    obtain ⟨rfl, rfl, rfl⟩ := hcs
    exact ⟨[], rfl, Rd.nil _ _, by simp, by omega, by unfold maxLen; omega⟩
  · simp [Value.cells] at hcs
    obtain ⟨rfl, rfl, rfl⟩ := hcs
    have hzl : len ≤ zs.length := by rw [hz]; split <;> omega
    refine ⟨zs.take len, by simp; omega, rd_cells fun j u hj => ?_, fun n hn => hwz n (List.mem_of_mem_take hn), hl, hm⟩
    have hj' : j < len := by
      have := (List.getElem?_eq_some_iff.1 hj).1
      simp at this; omega
    rw [List.getElem?_map, getD_take zs len j hj' hzl] at hj
    simp at hj
    rw [hcell j (by omega), ← hj]
    simp
theorem open_u64s {t e : TypeId} {a : Option Addr} {len cap : Nat} {d : DataW H} {ps : List MemPlace} (ht : P.underlying t = some (.slice e)) (he : P.underlying e = some (.int .u64)) (hc : P.cellsOf e = 1)
    (h : DataW.Trod enc P w 0 spare held t (.slice a len cap) d ps) :
    ∃ l : List Nat, l.length = len ∧ Rd w a (u64s l) ∧ (∀ n ∈ l, In64 n) ∧ len ≤ cap ∧ cap ≤ maxLen := by
  obtain ⟨l, h1, h2, h3, h4, h5⟩ := open_sl ht he hc h
  have e : l.map (Value.int .u64) = u64s (l.map Int.toNat) := by
    unfold u64s
    rw [List.map_map]
    apply List.map_congr_left
    intro n hn
    have := bounds_u64 (h3 n hn)
    simp only [Function.comp]
    rw [Int.toNat_of_nonneg this.1]
  refine ⟨l.map Int.toNat, by simp [h1], e ▸ h2, fun n hn => ?_, h4, h5⟩
  obtain ⟨m, hm, rfl⟩ := List.mem_map.1 hn
  have := bounds_u64 (h3 m hm)
  unfold In64
  omega
/-- A slice of structs of two integer fields, a cell each. -/
theorem open_pairs {t e : TypeId} {f0 f1 : Field} {k0 k1 : IntKind} {a : Option Addr} {len cap : Nat} {d : DataW H} {ps : List MemPlace} (ht : P.underlying t = some (.slice e)) (he : P.underlying e = some (.struct #[f0, f1]))
    (ce : P.cellsOf e = 2) (o0 : f0.offset = 0) (o1 : f1.offset = 1) (c0 : P.cellsOf f0.type = 1) (c1 : P.cellsOf f1.type = 1) (t0 : P.underlying f0.type = some (.int k0)) (t1 : P.underlying f1.type = some (.int k1))
    (h : DataW.Trod enc P w 0 spare held t (.slice a len cap) d ps) :
    ∃ l : List (Int × Int), l.length = len ∧ (∀ x ∈ l, (Lit.int k0 x.1).wf = true ∧ (Lit.int k1 x.2).wf = true) ∧ len ≤ cap ∧ cap ≤ maxLen ∧
      (l = [] ∨ ∃ b off, a = some ⟨b, off, none⟩ ∧ b < w.heap.size ∧ ∀ j x, l[j]? = some x → w.cell? ⟨b, off + j * 2, none⟩ = some (.int k0 x.1) ∧ w.cell? ⟨b, off + j * 2 + 1, none⟩ = some (.int k1 x.2)) := by
  obtain ⟨fuel, hf⟩ := h
  rcases open_slice_pairs ht he ce o0 o1 c0 c1 hf with ⟨hcs, _⟩ | ⟨x, ln, c, m, n, V0, V1, D0, D1, P0, P1, hcs, _, hl, hm, hmm, hx, hall⟩
  · simp [Value.cells] at hcs
    obtain ⟨rfl, rfl, rfl⟩ := hcs
    exact ⟨[], rfl, by simp, by omega, by unfold maxLen; omega, .inl rfl⟩
  · simp [Value.cells] at hcs
    obtain ⟨rfl, rfl, rfl⟩ := hcs
    have hlm : len ≤ m := by rw [hmm]; split <;> omega
    have each : ∀ i, i < len → ∃ q : Int × Int, w.cell? (x.add (i * 2)) = some (.int k0 q.1) ∧ w.cell? (x.add (i * 2 + 1)) = some (.int k1 q.2) ∧ (Lit.int k0 q.1).wf = true ∧ (Lit.int k1 q.2).wf = true := by
      intro i hi
      obtain ⟨e0, e1, g0, g1⟩ := hall i (by omega)
      obtain ⟨N0, h1, _, h3⟩ := DataW.trod_int t0 g0
      obtain ⟨N1, h4, _, h6⟩ := DataW.trod_int t1 g1
      simp only [List.cons.injEq, and_true] at h1 h4
      exact ⟨(N0, N1), h1 ▸ e0, h4 ▸ e1, h3, h6⟩
    obtain ⟨q, hq⟩ := choose_lt each
    have hlen : ((List.range len).map q).length = len := by simp
    refine ⟨(List.range len).map q, hlen, ?_, hl, hm, ?_⟩
    · intro y hy
      obtain ⟨i, hi, rfl⟩ := List.mem_map.1 hy
      have := hq i (List.mem_range.1 hi)
      exact ⟨this.2.2.1, this.2.2.2⟩
    · by_cases hz : len = 0
      · subst hz; exact .inl rfl
      · obtain ⟨b, off, spot⟩ := x
        have hs : spot = none := by simpa [Addr.add] using World.cell?_spot (hq 0 (by omega)).1
        subst hs
        have ha : ∀ j, (⟨b, off, none⟩ : Addr).add j = ⟨b, off + j, none⟩ := fun j => by unfold Addr.add; split <;> simp_all
        refine .inr ⟨b, off, rfl, ?_, ?_⟩
        · have := (hq 0 (by omega)).1
          rw [ha] at this
          exact World.block_lt_of_cell? w _ this
        · intro j y hj
          rw [List.getElem?_map] at hj
          have hjl : j < len := by
            by_cases h : j < len
            · exact h
            · rw [List.getElem?_eq_none (by simp; omega)] at hj; simp at hj
          rw [List.getElem?_range hjl] at hj
          simp at hj
          have := hq j hjl
          rw [ha, ha] at this
          rw [← hj]
          exact ⟨this.1, by rw [Nat.add_assoc]; exact this.2.1⟩
end
end Go.PM
end

section
/-
  Arguments opened: slices of structs. Plain theorems, over any program.
-/
namespace Go.PM
open Go.RowKit Go.ChangeShapes Go.WideShapes Go.Deep
section
variable {H : Type} {enc : TypeId × Value → H} {P : Program} {w : World} {spare : Nat → Bool} {held : Bool}
/-- A slice, element by element. -/
theorem open_els {t e : TypeId} {a : Option Addr} {len cap : Nat} {d : DataW H} {ps : List MemPlace} (ht : P.underlying t = some (.slice e)) (hpos : 0 < P.cellsOf e)
    (h : DataW.Trod enc P w 0 spare held t (.slice a len cap) d ps) :
    len ≤ cap ∧ cap ≤ maxLen ∧ (len = 0 ∨ ∃ b off, a = some ⟨b, off, none⟩ ∧ b < w.heap.size ∧ ∀ i, i < len → ∃ (cs : List Value) (D : DataW H) (Pl : List MemPlace) (n : Nat), cs.length = P.cellsOf e ∧
      (∀ j, j < P.cellsOf e → w.cell? ⟨b, off + i * P.cellsOf e + j, none⟩ = cs[j]?) ∧ DataW.trod enc P w 0 spare held n e cs = some (D, Pl)) := by
  obtain ⟨fuel, hf⟩ := h
  rcases open_slice ht hf with ⟨hcs, _⟩ | ⟨x, ln, c, m, n, D, Pl, hcs, _, hl, hm, hmm, _, hall⟩
  · simp [Value.cells] at hcs
    obtain ⟨rfl, rfl, rfl⟩ := hcs
    exact ⟨by omega, by unfold maxLen; omega, .inl rfl⟩
  · simp [Value.cells] at hcs
    obtain ⟨rfl, rfl, rfl⟩ := hcs
    have hlm : len ≤ m := by rw [hmm]; split <;> omega
    refine ⟨hl, hm, ?_⟩
    by_cases hz : len = 0
    · exact .inl hz
    right
    obtain ⟨b, off, spot⟩ := x
    have hs : spot = none := by
      obtain ⟨cs, h1, _⟩ := hall 0 (by omega)
      obtain ⟨_, hlen, hcell⟩ := World.cells?_some h1
      have h0 := hcell 0 hpos
      rw [List.getElem?_eq_getElem (by omega)] at h0
      simpa [Addr.add] using World.cell?_spot h0
    subst hs
    have ha : ∀ j, (⟨b, off, none⟩ : Addr).add j = ⟨b, off + j, none⟩ := fun j => by unfold Addr.add; split <;> simp_all
    have hb' : ∀ q j, (⟨b, q, none⟩ : Addr).add j = ⟨b, q + j, none⟩ := fun q j => by unfold Addr.add; split <;> simp_all
    have each : ∀ i, i < len → ∃ (cs : List Value) (D : DataW H) (Pl : List MemPlace) (n : Nat), cs.length = P.cellsOf e ∧
      (∀ j, j < P.cellsOf e → w.cell? ⟨b, off + i * P.cellsOf e + j, none⟩ = cs[j]?) ∧ DataW.trod enc P w 0 spare held n e cs = some (D, Pl) := fun i hi => by
      obtain ⟨cs, h1, h2⟩ := hall i (by omega)
      obtain ⟨_, hlen, hcell⟩ := World.cells?_some h1
      refine ⟨cs, _, _, _, hlen, fun j hj => ?_, h2⟩
      have := hcell j hj
      rwa [ha, hb'] at this
    refine ⟨b, off, rfl, ?_, each⟩
    obtain ⟨cs, _, _, _, hlen, hcell, _⟩ := each 0 (by omega)
    have h0 := hcell 0 hpos
    rw [List.getElem?_eq_getElem (by omega)] at h0
    exact World.block_lt_of_cell? w _ h0
/-- A struct of five fields of a cell each, at its cells. -/
theorem struct5 {e : TypeId} {f0 f1 f2 f3 f4 : Field} {cs : List Value} {D : DataW H} {Pl : List MemPlace} {n : Nat} (he : P.underlying e = some (.struct #[f0, f1, f2, f3, f4])) (ce : P.cellsOf e = 5)
    (o : f0.offset = 0 ∧ f1.offset = 1 ∧ f2.offset = 2 ∧ f3.offset = 3 ∧ f4.offset = 4) (c : P.cellsOf f0.type = 1 ∧ P.cellsOf f1.type = 1 ∧ P.cellsOf f2.type = 1 ∧ P.cellsOf f3.type = 1 ∧ P.cellsOf f4.type = 1)
    (h : DataW.trod enc P w 0 spare held n e cs = some (D, Pl)) :
    ∃ (v0 v1 v2 v3 v4 : Value) (k : Nat) (y0 y1 y2 y3 y4 : DataW H × List MemPlace), cs = [v0, v1, v2, v3, v4] ∧ DataW.trod enc P w 0 spare held k f0.type [v0] = some y0 ∧ DataW.trod enc P w 0 spare held k f1.type [v1] = some y1 ∧
      DataW.trod enc P w 0 spare held k f2.type [v2] = some y2 ∧ DataW.trod enc P w 0 spare held k f3.type [v3] = some y3 ∧ DataW.trod enc P w 0 spare held k f4.type [v4] = some y4 := by
  obtain ⟨o0, o1, o2, o3, o4⟩ := o
  obtain ⟨c0, c1, c2, c3, c4⟩ := c
  obtain ⟨xs, k, _, _, hlen, hxl, hf⟩ := DataW.trod_struct he h
  rw [ce] at hlen
  match xs, hxl, cs, hlen with
  | [y0, y1, y2, y3, y4], _, [v0, v1, v2, v3, v4], _ =>
    have g0 := hf 0 f0 rfl
    have g1 := hf 1 f1 rfl
    have g2 := hf 2 f2 rfl
    have g3 := hf 3 f3 rfl
    have g4 := hf 4 f4 rfl
    simp [o0, o1, o2, o3, o4, c0, c1, c2, c3, c4] at g0 g1 g2 g3 g4
    exact ⟨v0, v1, v2, v3, v4, k, y0, y1, y2, y3, y4, rfl, g0, g1, g2, g3, g4⟩
instance : Inhabited One := ⟨⟨0, 0, 0, 0, ByteArray.empty⟩⟩
/-- A slice of 'One's. -/
theorem open_ones {t e : TypeId} {f0 f1 f2 f3 f4 : Field} {a : Option Addr} {len cap : Nat} {d : DataW H} {ps : List MemPlace} (ht : P.underlying t = some (.slice e)) (he : P.underlying e = some (.struct #[f0, f1, f2, f3, f4])) (ce : P.cellsOf e = 5)
    (o : f0.offset = 0 ∧ f1.offset = 1 ∧ f2.offset = 2 ∧ f3.offset = 3 ∧ f4.offset = 4) (c : P.cellsOf f0.type = 1 ∧ P.cellsOf f1.type = 1 ∧ P.cellsOf f2.type = 1 ∧ P.cellsOf f3.type = 1 ∧ P.cellsOf f4.type = 1)
    (t0 : P.underlying f0.type = some (.int .u8)) (t1 : P.underlying f1.type = some (.int .u64)) (t2 : P.underlying f2.type = some (.int .i8)) (t3 : P.underlying f3.type = some (.int .u64)) (t4 : P.underlying f4.type = some .string)
    (h : DataW.Trod enc P w 0 spare held t (.slice a len cap) d ps) :
    ∃ l : List One, l.length = len ∧ OnesRd w.heap.size w a l ∧ (∀ x ∈ l, x.ok) ∧ len ≤ cap ∧ cap ≤ maxLen := by
  obtain ⟨hl, hm, hor⟩ := open_els ht (by rw [ce]; decide) h
  rcases hor with rfl | ⟨b, off, rfl, hb, hall⟩
  · exact ⟨[], rfl, .inl rfl, by simp, hl, hm⟩
  rw [ce] at hall
  have each : ∀ i, i < len → ∃ x : One, x.ok ∧ w.cell? ⟨b, off + i * 5, none⟩ = some (.int .u8 (x.deep : Int)) ∧ w.cell? ⟨b, off + i * 5 + 1, none⟩ = some (.int .u64 (x.tag : Int)) ∧ w.cell? ⟨b, off + i * 5 + 2, none⟩ = some (.int .i8 x.ty) ∧
      w.cell? ⟨b, off + i * 5 + 3, none⟩ = some (.int .u64 (x.num : Int)) ∧ w.cell? ⟨b, off + i * 5 + 4, none⟩ = some (.string x.text) := by
    intro i hi
    obtain ⟨cs, D, Pl, n, hlen, hcell, htr⟩ := hall i hi
    obtain ⟨v0, v1, v2, v3, v4, k, y0, y1, y2, y3, y4, rfl, g0, g1, g2, g3, g4⟩ := struct5 he ce o c htr
    obtain ⟨N0, h0, _, q0⟩ := DataW.trod_int t0 g0
    obtain ⟨N1, h1, _, q1⟩ := DataW.trod_int t1 g1
    obtain ⟨N2, h2, _, q2⟩ := DataW.trod_int t2 g2
    obtain ⟨N3, h3, _, q3⟩ := DataW.trod_int t3 g3
    obtain ⟨s, h4, _, q4⟩ := DataW.trod_string t4 g4
    simp only [List.cons.injEq, and_true] at h0 h1 h2 h3 h4
    subst h0 h1 h2 h3 h4
    have b0 := bounds_u8 q0
    have b1 := bounds_u64 q1
    have b2 := bounds_i8 q2
    have b3 := bounds_u64 q3
    obtain ⟨n0, rfl⟩ := Int.eq_ofNat_of_zero_le b0.1
    obtain ⟨n1, rfl⟩ := Int.eq_ofNat_of_zero_le b1.1
    obtain ⟨n3, rfl⟩ := Int.eq_ofNat_of_zero_le b3.1
    refine ⟨⟨n0, n1, N2, n3, s⟩, ⟨by show n0 < 256; omega, by show n1 < _; omega, b2, by show n3 < _; omega, by unfold maxLen at q4; exact q4⟩, ?_, ?_, ?_, ?_, ?_⟩
    · simpa using hcell 0 (by omega)
    · simpa using hcell 1 (by omega)
    · simpa using hcell 2 (by omega)
    · simpa using hcell 3 (by omega)
    · simpa using hcell 4 (by omega)
  obtain ⟨q, hq⟩ := choose_lt each
  refine ⟨(List.range len).map q, by simp, .inr ⟨b, off, rfl, hb, Nat.le_refl _, fun j x hj => ?_⟩, fun x hx => ?_, hl, hm⟩
  · rw [List.getElem?_map] at hj
    have hjl : j < len := by
      by_cases h : j < len
      · exact h
      · rw [List.getElem?_eq_none (by simp; omega)] at hj; simp at hj
    rw [List.getElem?_range hjl] at hj
    simp at hj
    have := hq j hjl
    rw [← hj]
    exact this.2
  · obtain ⟨i, hi, rfl⟩ := List.mem_map.1 hx
    exact (hq i (List.mem_range.1 hi)).1
end
end Go.PM
end
