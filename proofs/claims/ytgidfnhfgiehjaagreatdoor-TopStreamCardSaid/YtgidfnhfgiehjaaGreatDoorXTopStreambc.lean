/-
  Texts of the proof, joined: TopT Laid. Conditions: as each names.
-/
import Derived.Test.YtgidfnhfgiehjaaGreatDoorXTopStreambb
import Derived.Test.YtgidfnhfgiehjaaGreatDoorXTopStreamai
import Derived.Test.YtgidfnhfgiehjaaGreatDoorRows
import Derived.Test.YtgidfnhfgiehjaaGreatDoorXTopStreamaj
import Derived.PinnedBridge
import Derived.Lib.LaidIn
import Derived.Lib.LaidU8T
import Derived.Deep.DeepHandedRow
import Derived.Deep.DeepWitnessRowRef

section
namespace Go.Proofs.YtgidfnhfgiehjaaGreatDoor
open Go.RowKit Go.PM
set_option maxRecDepth 100000
set_option maxHeartbeats 4000000
/-- Behind the first bad frame nothing more. -/
theorem fof_more (s t : List UInt8) (h : (fof s).2.1 ≠ 0) : (fof (s ++ t)).1 = (fof s).1 ∧ (fof (s ++ t)).2.1 = (fof s).2.1 := by
  obtain ⟨h1, h2, h3, h4, h5⟩ := flong_all s
  have hg : (fparse (flong s).2).2.2 ≠ 1 := fun hg => h (by rw [h4, if_pos hg])
  have hm := fparse_more (flong s).2 t hg
  have e1 : fof (s ++ t) = ((flong s).1 ++ (fof ((flong s).2 ++ t)).1, (fof ((flong s).2 ++ t)).2) := by
    conv => lhs; rw [h1, List.append_assoc]
    exact fof_texts _ _ h5
  rw [e1, h4, if_neg hg, ← h3]
  rw [fof_bad (by rw [hm]; exact h2) (by rw [hm]; exact hg), hm]
  simp
theorem contains_mid (a b c : List UInt8) : Lib.contains (a ++ b ++ c) b = true := by
  have ho : Lib.occAt (a ++ b ++ c) b a.length = true := by
    unfold Lib.occAt
    rw [List.append_assoc, List.drop_left, List.isPrefixOf_iff_prefix]
    exact List.prefix_append _ _
  unfold Lib.contains
  rcases Lib.index_spec (a ++ b ++ c) b with ⟨_, h2⟩ | ⟨i, h1, _⟩
  · rw [h2 a.length (by simp)] at ho
    cases ho
  · rw [h1]; simp
theorem cell_pos {w : World} {v : Value} (h : w.cell? ⟨0, 0, none⟩ = some v) : 0 < w.heap.size := by
  rcases Nat.eq_zero_or_pos w.heap.size with h0 | h0
  · have : w.heap[0]? = none := Array.getElem?_eq_none (by omega)
    simp [World.cell?, this] at h
  · exact h0
theorem stream_walk (s : ByteArray) (A B : Option Addr) (c1 c2 : Nat) (l1 l2 : List Nat) (more : ByteArray) (m0 : Int) (w : World) (hT : Tabs w) (hm0 : w.cell? ⟨0, 0, none⟩ = some (.int .i64 m0)) (h0b : 0 < w.heap.size)
    (hs : s.size ≤ 9223372036854775807) (hmo : more.size ≤ 9223372036854775807) (hrA : Rd w A (cuts16 l1)) (hl1 : l1.length ≤ 9223372036854775807) (hm1 : ∀ x ∈ l1, x < 65536) (hrB : Rd w B (cuts16 l2)) (hl2 : l2.length ≤ 9223372036854775807) (hm2 : ∀ x ∈ l2, x < 65536) :
    Calls Tryz.prog 7 #[.string s, .slice A l1.length c1, .slice B l2.length c2, .string more] w fun e w' => e = .returned (.bool true) ∧ Below w.heap.size w w' := by
  have HA := Lib.hid (alive20 w hT)
  clear hT
  by_cases h1 : 6000 < s.size
  · have h1i : (6000 : Int) < (s.size : Int) := by omega
    clear hrA hrB hm1 hm2 hm0
    go_enter Tryz.func7, Tryz.ntmps7
    go_wp2_with fail
    refine HA.out.mono ?_
    rintro e w1 ⟨rfl, hb1⟩
    go_wp2
    go_ret
    exact ⟨rfl, hb1⟩
  have h1i : ¬ (6000 : Int) < (s.size : Int) := by omega
  by_cases h2 : 2000 < more.size
  · have h2i : (2000 : Int) < (more.size : Int) := by omega
    clear hrA hrB hm1 hm2 hm0
    go_enter Tryz.func7, Tryz.ntmps7
    go_wp2_with fail
    refine HA.out.mono ?_
    rintro e w1 ⟨rfl, hb1⟩
    go_wp2
    go_ret
    exact ⟨rfl, hb1⟩
  have h2i : ¬ (2000 : Int) < (more.size : Int) := by omega
  by_cases h3 : 60 < l1.length
  · have h3i : (60 : Int) < (l1.length : Int) := by omega
    clear hrA hrB hm1 hm2 hm0
    go_enter Tryz.func7, Tryz.ntmps7
    go_wp2_with fail
    refine HA.out.mono ?_
    rintro e w1 ⟨rfl, hb1⟩
    go_wp2
    go_ret
    exact ⟨rfl, hb1⟩
  have h3i : ¬ (60 : Int) < (l1.length : Int) := by omega
  by_cases h4 : 60 < l2.length
  · have h4i : (60 : Int) < (l2.length : Int) := by omega
    clear hrA hrB hm1 hm2 hm0
    go_enter Tryz.func7, Tryz.ntmps7
    go_wp2_with fail
    refine HA.out.mono ?_
    rintro e w1 ⟨rfl, hb1⟩
    go_wp2
    go_ret
    exact ⟨rfl, hb1⟩
  have h4i : ¬ (60 : Int) < (l2.length : Int) := by omega
  obtain ⟨q1, q2, q3, q4, q5⟩ := flong_all s.data.toList
  have q6 := flong_taken s.data.toList
  have q7 : (flong s.data.toList).2.length ≤ s.size := by
    have := congrArg List.length q1
    rw [List.length_append, len_list] at this
    omega
  have q8 := fof_len s.data.toList
  rw [len_list] at q6 q8
  obtain ⟨XS, hXS⟩ : ∃ XS, XS = (fof s.data.toList).1.map txt := ⟨_, rfl⟩
  have hXl : XS.length = (fof s.data.toList).1.length := by rw [hXS, List.length_map]
  have hXn : XS.length ≤ 6000 := by omega
  obtain ⟨RS, hRS⟩ : ∃ RS, RS = txt (flong s.data.toList).2 := ⟨_, rfl⟩
  have hRz : RS.size ≤ s.size := by rw [hRS, txt_size]; exact q7
  obtain ⟨TK, hTK⟩ : ∃ TK, TK = txt (ftexts (fof s.data.toList).1) := ⟨_, rfl⟩
  have hTKe : s.extract 0 (s.size - RS.size) = TK := by
    rw [hTK, ← q3, ← q6, hRS, txt_size]
    apply ByteArray.ext
    apply Array.ext'
    rw [ext_list]
    simp [txt]
  have hTz : TK.size < 4294967281 := by
    rw [← hTKe, ByteArray.size_extract]; omega
  obtain ⟨AL, hAL⟩ : ∃ AL : Nat → ByteArray, AL = fun i => txt (ftexts ((fof s.data.toList).1.take i)) := ⟨_, rfl⟩
  have hA0 : AL 0 = ⟨#[]⟩ := by rw [hAL]; simp [ftexts, txt]
  have hAN : AL XS.length = TK := by rw [hAL, hTK, hXl]; simp
  have hXp : ∀ i (h : i < XS.length), XS[i].data.toList = (fof s.data.toList).1[i]'(by omega) := fun i h => by
    simp only [hXS, List.getElem_map]; rfl
  have hPz : ∀ i (h : i < XS.length), XS[i].size ≤ 65536 := fun i h => by
    rw [← len_list, hXp i h]
    exact q5 _ (by rw [q3]; exact List.getElem_mem _)
  have hAt : ∀ i (h : i < XS.length), AL (i + 1) = AL i ++ txt (ftext XS[i].data.toList) := fun i h => by
    rw [hXp i h]
    simp only [hAL]
    rw [← List.take_append_getElem (show i < (fof s.data.toList).1.length by omega), ftexts_app]
    apply ByteArray.ext
    simp [txt, ByteArray.data_append, ftexts]
  have hAz : ∀ i, (AL i).size ≤ 10000 := fun i => by
    have e1 : ftexts (fof s.data.toList).1 = ftexts ((fof s.data.toList).1.take i) ++ ftexts ((fof s.data.toList).1.drop i) := by rw [← ftexts_app, List.take_append_drop]
    have e2 := congrArg List.length e1
    rw [List.length_append, ← q3, ← q6, List.length_take] at e2
    simp only [hAL]
    rw [txt_size, ← q3]
    omega
  have HADD : Hid (∀ i (h : i < XS.length) (x : World), (Op.stringOp .add (AL i) (txt (ftext XS[i].data.toList))).run Tryz.prog x = .ok (.string (AL (i + 1))) x) := fun i h x => by
    have h3 := hAz i
    have h4 := hAz (i + 1)
    rw [hAt i h, ByteArray.size_append] at h4
    rw [hAt i h]
    exact run_string_add_sum x _ _ (by omega)
  have HCN : Hid (∀ i (h : i < XS.length) (x : World), x.cell? ⟨0, 0, none⟩ = some (.int .i64 m0) → Calls Tryz.prog 26 #[.string TK, .string (txt (cput (csum XS[i].data.toList)))] x fun e w' => e = .returned (.bool true) ∧ w' = x) := fun i h x hx => by
    have hc : Lib.contains TK.data.toList (txt (cput (csum XS[i].data.toList))).data.toList = true := by
      obtain ⟨a, b, hab⟩ := ftexts_sum (fof s.data.toList).1 XS[i].data.toList (by rw [hXp i h]; exact List.getElem_mem _)
      rw [hTK, txt_list, txt_list, hab]
      exact contains_mid a _ b
    have := Tryz.strings_Contains TK (txt (cput (csum XS[i].data.toList))) m0 x hTz hx
    rw [hc] at this
    exact this
  have HTX : Hid (∀ i (h : i < XS.length) (x : World), Calls Tryz.prog 25 #[.string XS[i]] x fun e w' => e = .returned (.string (txt (ftext XS[i].data.toList))) ∧ Below x.heap.size x w') := fun i h x => rtext_any _ x (by have := hPz i h; omega)
  have HSU : Hid (∀ i (h : i < XS.length) (x : World), Calls Tryz.prog 28 #[.string XS[i]] x fun e w' => e = .returned (.int .u32 (csum XS[i].data.toList : Int)) ∧ Below x.heap.size x w') := fun i h x => rsum_any _ x (by have := hPz i h; omega)
  have HPU : Hid (∀ i (h : i < XS.length) (x : World), Calls Tryz.prog 27 #[.int .u32 (csum XS[i].data.toList : Int)] x fun e w' => e = .returned (.string (txt (cput (csum XS[i].data.toList)))) ∧ Below x.heap.size x w') := fun i h x => rcput_any _ x (csum_lt _)
  obtain ⟨EI, hEI⟩ : ∃ EI : Int, EI = ((fof s.data.toList).2.1 : Int) := ⟨_, rfl⟩
  obtain ⟨WI, hWI⟩ : ∃ WI : Int, WI = ((fof s.data.toList).2.2.length : Int) := ⟨_, rfl⟩
  obtain ⟨GI, hGI⟩ : ∃ GI : Int, GI = ((fparse RS.data.toList).2.2 : Int) := ⟨_, rfl⟩
  have hcase : (GI = 1 ∧ EI = 0) ∨ (¬ GI = 1 ∧ ¬ GI = 0 ∧ EI = GI) := by
    rw [hGI, hEI, hRS, txt_list, q4]
    by_cases hg : (fparse (flong s.data.toList).2).2.2 = 1
    · rw [if_pos hg, hg]; exact Or.inl ⟨rfl, rfl⟩
    · rw [if_neg hg]; exact Or.inr ⟨by omega, by omega, rfl⟩
  have HF1 : Hid (∀ x, Below w.heap.size w x → Calls Tryz.prog 17 #[.string s, .slice A l1.length c1] x fun e w' => ∃ A' c', e = .returned (.tuple #[.slice A' XS.length c', .int .i64 EI, .int .i64 WI]) ∧ Rd w' A' (strs XS) ∧ Below x.heap.size x w') := fun x hx =>
    (fed_any s A c1 l1 x (by omega) (hrA.below hx) (by omega) hm1).mono fun e w' ⟨A', c', h1, h2, _, h4⟩ => ⟨A', c', by rw [hXl, hEI, hWI]; exact h1, by rw [hXS]; exact h2, h4⟩
  have HF2 : Hid (∀ x, Below w.heap.size w x → Calls Tryz.prog 17 #[.string s, .slice B l2.length c2] x fun e w' => ∃ A' c', e = .returned (.tuple #[.slice A' XS.length c', .int .i64 EI, .int .i64 WI]) ∧ Rd w' A' (strs XS) ∧ Below x.heap.size x w') := fun x hx =>
    (fed_any s B c2 l2 x (by omega) (hrB.below hx) (by omega) hm2).mono fun e w' ⟨A', c', h1, h2, _, h4⟩ => ⟨A', c', by rw [hXl, hEI, hWI]; exact h1, by rw [hXS]; exact h2, h4⟩
  have HF3 : Hid (∀ x, Below w.heap.size w x → Calls Tryz.prog 17 #[.string (s ++ more), .slice A l1.length c1] x fun e w' => ∃ (A' : Option Addr) (k c' : Nat) (code n' : Int), e = .returned (.tuple #[.slice A' k c', .int .i64 code, .int .i64 n']) ∧ (¬ EI = 0 → k = XS.length ∧ code = EI ∧ Rd w' A' (strs XS)) ∧ Below x.heap.size x w') := fun x hx =>
    (fed_any (s ++ more) A c1 l1 x (by rw [ByteArray.size_append]; omega) (hrA.below hx) (by omega) hm1).mono fun e w' ⟨A', c', h1, h2, _, h4⟩ => ⟨A', _, c', _, _, h1, fun hE => by
      have e0 : (s ++ more).data.toList = s.data.toList ++ more.data.toList := by simp [ByteArray.data_append]
      obtain ⟨e1, e2⟩ := fof_more s.data.toList more.data.toList (by omega)
      rw [e0, e1] at h2
      rw [e0, e1, e2, hXl, hEI, hXS]
      exact ⟨rfl, rfl, h2⟩, h4⟩
  have HL : Hid (∀ x : World, Calls Tryz.prog 24 #[.string s] x fun e w' => ∃ A' c', e = .returned (.tuple #[.slice A' XS.length c', .string RS]) ∧ Rd w' A' (strs XS) ∧ Below x.heap.size x w') := fun x =>
    (longest_any s x (by omega)).mono fun e w' ⟨A', c', h1, h2, _, h4⟩ => ⟨A', c', by rw [hXl, hRS, ← q3]; exact h1, by rw [hXS, ← q3]; exact h2, h4⟩
  have HPA : Hid (∀ x : World, Calls Tryz.prog 29 #[.string RS] x fun e w' => ∃ (pp : ByteArray) (nn : Int), e = .returned (.tuple #[.string pp, .int .i64 nn, .int .i64 GI]) ∧ Below x.heap.size x w') := fun x =>
    (parse_any RS x (by omega)).mono fun e w' ⟨h1, h2⟩ => ⟨_, _, by rw [hGI]; exact h1, h2⟩
  have HEQ : Hid (∀ (x : World) (A1 A2 : Option Addr) (d1 d2 : Nat), Rd x A1 (strs XS) → Rd x A2 (strs XS) → Calls Tryz.prog 18 #[.slice A1 XS.length d1, .slice A2 XS.length d2] x fun e w' => e = .returned (.bool true) ∧ Below x.heap.size x w') := fun x A1 A2 d1 d2 g1 g2 => equstr A1 A2 d1 d2 XS x g1 g2 (by omega)
  have HSM : Hid (∀ x : World, (Op.stringOp .add s more).run Tryz.prog x = .ok (.string (s ++ more)) x) := fun x => run_string_add_sum x _ _ (by omega)
  obtain ⟨D, hD⟩ : ∃ D, D = s.size - RS.size := ⟨_, rfl⟩
  have hsub : (s.size : Int) - (RS.size : Int) = (D : Int) := by omega
  have hDs : (D : Int) ≤ (s.size : Int) := by omega
  rw [← hD] at hTKe
  have HA0 := Lib.hid hA0
  have HAN := Lib.hid hAN
  have HC := Lib.hid hcase
  have HTE := Lib.hid hTKe
  have HM0 := Lib.hid hm0
  clear hrA hrB hm1 hm2 hm0 q1 q2 q3 q4 q5 q6 q7 q8 hXS hXl hRS hTK hTKe hTz hAL hA0 hAN hXp hPz hAt hAz hEI hWI hGI hcase hD
  generalize s ++ more = SM at *
  go_enter Tryz.func7, Tryz.ntmps7
  go_wp2_with fail
  refine HA.out.mono ?_
  rintro e w1 ⟨rfl, hb1⟩
  have HB1 := Lib.hid hb1
  clear hb1 HA
  go_wp2_with fail
  refine (HF1.out _ HB1.out).mono ?_
  rintro e w2 ⟨A1, d1, rfl, hr1, hb2⟩
  have HB2 := Lib.hid (bb HB1.out hb2)
  have HR1 := Lib.hid hr1
  clear hr1 hb2 HB1 HF1
  go_wp2_with fail
  refine (HF2.out _ HB2.out).mono ?_
  rintro e w3 ⟨A2, d2, rfl, hr2, hb3⟩
  have HB3 := Lib.hid (bb HB2.out hb3)
  have HR1' := Lib.hid (HR1.out.below hb3)
  have HR2 := Lib.hid hr2
  clear hr2 hb3 HB2 HF2 HR1
  go_wp2_with fail
  refine (HL.out _).mono ?_
  rintro e w4 ⟨A3, d3, rfl, hr3, hb4⟩
  have HB4 := Lib.hid (bb HB3.out hb4)
  have HR1 := Lib.hid (HR1'.out.below hb4)
  have HE1 := Lib.hid (HEQ.out w4 A1 A2 d1 d2 HR1.out (HR2.out.below hb4))
  have HR3 := Lib.hid hr3
  clear hr3 hb4 HB3 HR1' HR2 HL
  go_wp2_with fail
  refine HE1.out.mono ?_
  rintro e w5 ⟨rfl, hb5⟩
  have HB5 := Lib.hid (bb HB4.out hb5)
  have HE2 := Lib.hid (HEQ.out w5 A1 A3 d1 d3 (HR1.out.below hb5) (HR3.out.below hb5))
  have HR1' := Lib.hid (HR1.out.below hb5)
  clear hb5 HB4 HR1 HR3 HE1
  go_wp2_with fail
  refine HE2.out.mono ?_
  rintro e w6 ⟨rfl, hb6⟩
  have HB6 := Lib.hid (bb HB5.out hb6)
  have HR1 := Lib.hid (HR1'.out.below hb6)
  clear hb6 HB5 HR1' HE2
  go_wp2_with fail
  rw [HTE.out]
  have HM6 := Lib.hid (HB6.out.cell (p := ⟨0, 0, none⟩) h0b |>.trans HM0.out)
  have h6b : 0 < w6.heap.size := Nat.lt_of_lt_of_le h0b HB6.out.size
  clear hsub hDs HTE HM0 hRz
  go_loopg [18, 95] XS.length (fun gk av ki wr => ∃ i : Nat, i ≤ XS.length ∧ XS.length - i ≤ gk ∧ ki = .int .i64 (i : Int) ∧ av = .string (AL i) ∧ Hid (Below w6.heap.size w6 wr))
  case atStart => exact ⟨0, Nat.zero_le _, by omega, rfl, by rw [HA0.out], b0⟩
  case round =>
    obtain ⟨i, hi, hgi, rfl, rfl, HW⟩ := hrel
    by_cases hlt : i < XS.length
    · obtain ⟨b, off, hAe, hbl, hc⟩ := (HR1.out.below HW.out).at_ (k := i) (by rw [strs_length]; exact hlt)
      subst hAe
      rw [strs_at XS i hlt] at hc
      have hadd := HADD.out i hlt
      have HCNi := Lib.hid (HCN.out i hlt)
      have HTXi := Lib.hid (HTX.out i hlt)
      have HSUi := Lib.hid (HSU.out i hlt)
      have HPUi := Lib.hid (HPU.out i hlt)
      have HMr := Lib.hid ((HW.out.cell (p := ⟨0, 0, none⟩) h6b).trans HM6.out)
      have hrb : 0 < wr.heap.size := Nat.lt_of_lt_of_le h6b HW.out.size
      generalize XS[i] = p at *
      generalize txt (ftext p.data.toList) = FT at *
      generalize txt (cput (csum p.data.toList)) = CT at *
      generalize csum p.data.toList = CS at *
      obtain ⟨AN, hAN1⟩ : ∃ AN, AN = AL (i + 1) := ⟨_, rfl⟩
      rw [← hAN1] at hadd
      have HAN1 := Lib.hid hAN1
      clear hAN1
      generalize AL i = SK at *
      go_wp2_with fail
      refine (HTXi.out _).mono ?_
      rintro e w7 ⟨rfl, hb7⟩
      have HB7 := Lib.hid hb7
      clear hb7 HTXi
      go_wp2_with fail
      refine (HSUi.out _).mono ?_
      rintro e w8 ⟨rfl, hb8⟩
      have HB8 := Lib.hid (bb HB7.out hb8)
      clear hb8 HSUi HB7
      go_wp2_with fail
      refine (HPUi.out _).mono ?_
      rintro e w9 ⟨rfl, hb9⟩
      have HB9 := Lib.hid (bb HB8.out hb9)
      have HC9 := Lib.hid (HCNi.out w9 ((HB9.out.cell (p := ⟨0, 0, none⟩) hrb).trans HMr.out))
      clear hb9 HPUi HB8 HCNi
      go_wp2_with fail
      refine HC9.out.mono ?_
      rintro e w10 ⟨rfl, hw10⟩
      subst hw10
      clear HC9
      go_wp2_with fail
      go_roundg (XS.length - (i + 1))
      case measure => omega
      case rel => exact ⟨i + 1, by omega, Nat.le_refl _, by go_num, by rw [HAN1.out], bb HW.out HB9.out⟩
    · obtain rfl : i = XS.length := by omega
      rw [HAN.out]
      have HBR := Lib.hid (bb HB6.out HW.out)
      have HRR := Lib.hid (HR1.out.below HW.out)
      clear HR1 HB6 HW HADD HCN HTX HSU HPU HA0 HAN HM6
      have hsm := HSM.out
      go_wp2_with fail
      refine (HPA.out _).mono ?_
      rintro e w7 ⟨pp, nn, rfl, hb7⟩
      have HB7 := Lib.hid (bb HBR.out hb7)
      have HRR7 := Lib.hid (HRR.out.below hb7)
      clear hb7 HPA HBR HRR
      rcases HC.out with ⟨hG, hE⟩ | ⟨hG1, hG0, hE⟩
      · subst hG hE
        clear HC
        go_wp2_with fail
        refine (HF3.out _ HB7.out).mono ?_
        rintro e w8 ⟨A9, k9, c9, co, n9, rfl, _, hb8⟩
        have HB8 := Lib.hid (bb HB7.out hb8)
        clear hb8 HF3 HB7
        go_wp2_with fail
        go_ret
        exact ⟨rfl, HB8.out⟩
      · subst hE
        clear HC
        have hz0' : (EI == 0) = false := by rw [beq_eq_false_iff_ne]; exact hG0
        have hz1' : (EI == 1) = false := by rw [beq_eq_false_iff_ne]; exact hG1
        go_wp2_with fail
        refine (HF3.out _ HB7.out).mono ?_
        rintro e w8 ⟨A9, k9, c9, co, n9, rfl, hif, hb8⟩
        obtain ⟨hk9, hco, hrd⟩ := hif hG0
        subst hk9 hco
        have HB8 := Lib.hid (bb HB7.out hb8)
        have HE9 := Lib.hid (HEQ.out w8 A9 _ c9 d1 hrd (HRR7.out.below hb8))
        clear hb8 HF3 HB7 hif hrd
        go_wp2_with fail
        refine HE9.out.mono ?_
        rintro e w9 ⟨rfl, hb9⟩
        have HB9 := Lib.hid (bb HB8.out hb9)
        clear hb9 HE9
        go_wp2_with fail
        go_ret
        exact ⟨rfl, HB9.out⟩
end Go.Proofs.YtgidfnhfgiehjaaGreatDoor
end

section
namespace Go.Proofs.YtgidfnhfgiehjaaGreatDoor
open Go.Lib
set_option maxRecDepth 100000
theorem accept_eq : (Rows.laid_unicode_utf8_acceptRanges : DataW Unit) = Lib.acceptData := by kernel_rfl
theorem tabs_of_laid {W : World} (h : laidMetH Tryz.prog [("unicode/utf8.acceptRanges", Rows.laid_unicode_utf8_acceptRanges), ("unicode/utf8.first", Rows.laid_unicode_utf8_first)] W) : Tabs W := by
  have h4 := Lib.laidMet.reads h (.head _)
  have h3 := Lib.laidMet.reads h (.tail _ (.head _))
  rw [accept_eq] at h4
  rw [show Rows.laid_unicode_utf8_first = Lib.firstData from Pinned.utf8First_eq] at h3
  exact utf8Tabs_of_readsT (U8Types.of196 Tryz.lays196) ⟨by kernel_rfl, by kernel_rfl, by kernel_rfl, by kernel_rfl, by kernel_rfl, by kernel_rfl, by kernel_rfl⟩ h3 h4
/-- The settled world, the two variables holding what their initialisers lay. -/
noncomputable def laidWorld (os : Os) : World :=
  let w0 := World.holding Tryz.prog os ⟨#[], #[], []⟩
  let put (h : Array Obj) (g : Nat) (cs : Array Value) : Array Obj := h.modify g fun
    | .cells _ t frozen => .cells cs t frozen
    | o => o
  let h1 := put w0.heap (Tryz.lays196_ren.g 3) (Lib.firstTab.map fun z => Value.int .u8 z).toArray
  let h2 := put h1 (Tryz.lays196_ren.g 4) ((List.range 16).flatMap fun i => [Value.int .u8 (Lib.accLo i), Value.int .u8 (Lib.accHi i)]).toArray
  { w0 with heap := h2 }
theorem laid_met (os : Os) (args : Array Value) : laidMet Tryz.prog [("unicode/utf8.acceptRanges", Rows.laid_unicode_utf8_acceptRanges), ("unicode/utf8.first", Rows.laid_unicode_utf8_first)] ((laidWorld os).forCall (fun _ _ => 0) ⟨#[], args, []⟩).memory :=
  (LaidIn.of_run (l := [("unicode/utf8.acceptRanges", Rows.laid_unicode_utf8_acceptRanges), ("unicode/utf8.first", Rows.laid_unicode_utf8_first)]) [Tryz.lays196_ren.g 4, Tryz.lays196_ren.g 3] 8 (by kernel_rfl) (by kernel_rfl) (by kernel_rfl) (by kernel_rfl)).met
theorem own : ownKnob Tryz.prog.godebug = none := by kernel_rfl
theorem laidOut : laidOutB Tryz.prog = true := by kernel_rfl
end Go.Proofs.YtgidfnhfgiehjaaGreatDoor
end
