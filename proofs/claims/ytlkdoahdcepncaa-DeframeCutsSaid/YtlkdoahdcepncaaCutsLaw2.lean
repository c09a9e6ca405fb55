/-
  The walk of DeframeCuts. Conditions: texts as they come in.
-/
import Derived.Test.YtlkdoahdcepncaaCutsLaw
namespace Go.Proofs.Ytlkdoahdcepncaa
open Go.RowKit Go.PM
set_option maxRecDepth 100000
set_option maxHeartbeats 2000000

theorem Fd.mono {B B' : Nat} {w : World} {d : Nat} {v : Value} {R : List UInt8} {need e count : Nat} (h : Fd B w d v R need e count) (hB : B' ≤ B) : Fd B' w d v R need e count :=
  ⟨h.1, h.2.1, Nat.le_trans hB h.2.2.1, fun g hg => Nat.le_trans hB (h.2.2.2 g hg)⟩
theorem feed_oneD (d : Nat) (v : Value) (R : List UInt8) (need e count : Nat) (x : ByteArray) (g : Nat) (w : World) (h : Dfr w d v R need e count) (hst : St R need e) (hg : BlkAt w g 9 #[.string x])
    (hn : R.length + x.size ≤ 1000000) (hcn : count ≤ 3000000000000000000) :
    Calls Try.prog 63 #[.pointer (some ⟨d, 0, none⟩), .slice (some ⟨g, 0, none⟩) 1 1] w (FedEnd w d v count (feedOf e R x.data.toList)) := by
  have := feed_any d v R need e count (some ⟨g, 0, none⟩) 1 [x] w h hst (.inr ⟨g, 0, rfl, hg.lt, fun j u hj => ?_⟩) (fun b off e => ?_) (by simpa [flat] using hn) (by simp) hcn
  · simpa [flat] using this
  · match j, hj with
    | 0, hj => rw [hg.cell]; simpa [strs] using hj
  · injection e with e
    injection e with e _
    subst e
    exact ⟨hg.apart h.1 (by decide), h.2.1.ne_blk hg (by decide)⟩
/-- Byte by byte: where the deframer c stands behind i bytes. -/
def Single (w8 : World) (c : Nat) (T : List UInt8) (v : Value) (w9 : World) : Prop :=
  ∃ vc need, Tch (· = c) w8 w9 ∧ Dfr w9 c vc (fof T).2.2 need (fof T).2.1 (fof T).1.length ∧ St (fof T).2.2 need (fof T).2.1 ∧ (∀ g, foot vc = some g → w8.heap.size ≤ g) ∧
    w9.ownsRow w8.heap.size 9 1 v (fof T).1.length (strs ((fof T).1.map txt))

theorem cuts_walk (s : ByteArray) (A : Option Addr) (cap : Nat) (l : List Nat) (w : World) (hs : s.size ≤ 9223372036854775807) (hr : Rd w A (u16s l)) (hl : l.length ≤ 9223372036854775807) (hm : ∀ x ∈ l, x < 65536) :
    Calls Try.prog 16 #[.string s, .slice A l.length cap] w fun e w' => e = .returned (.bool true) ∧ Below w.heap.size w w' := by
  by_cases h1 : 4000 < s.size
  · go_enter Try.func16, Try.ntmps16
    go_wp2_with fail
    refine (awake06 _).mono ?_
    rintro e w1 ⟨rfl, hb1⟩
    go_wp2
    go_ret
    exact ⟨rfl, hb1⟩
  by_cases h2 : 60 < l.length
  · go_enter Try.func16, Try.ntmps16
    go_wp2_with fail
    refine (awake06 _).mono ?_
    rintro e w1 ⟨rfl, hb1⟩
    go_wp2
    go_ret
    exact ⟨rfl, hb1⟩
  obtain ⟨i0, hi0, hz0, hz1, hz2⟩ := info_parts info_str
  obtain ⟨i1, hi1, hy0, hy1, hy2⟩ := info_parts info_int
  have HR := Lib.hid hr
  have HM := Lib.hid hm
  have hft := fof_len s.data.toList
  rw [len_list] at hft
  clear hr hm
  go_enter Try.func16, Try.ntmps16
  go_wp2_with fail
  refine (awake06 _).mono ?_
  rintro e w1 ⟨rfl, hb1⟩
  have hws1 := hb1.size
  go_wp2_with fail
  refine (new_B w1).mono ?_
  rintro e w2 ⟨a, rfl, ha1, hDa, hb2⟩
  go_wp2_with fail
  refine (new_B w2).mono ?_
  rintro e w3 ⟨b, rfl, hb3', hDb, hb3⟩
  go_wp2_with fail
  refine (new_B w3).mono ?_
  rintro e w4 ⟨c, rfl, hc1, hDc, hb4⟩
  have la := hDa.1.1.lt
  have lb := hDb.1.1.lt
  have hws3 := hb3.size
  have hws2 := hb2.size
  have HDa := Lib.hid ((hDa.below hb3).below hb4 |>.mono hws1)
  have HDb := Lib.hid (hDb.below hb4 |>.mono (Nat.le_trans hws1 hws2))
  have HDc := Lib.hid (hDc.mono (Nat.le_trans (Nat.le_trans hws1 hws2) hws3))
  have HB := Lib.hid (bb (bb (bb hb1 hb2) hb3) hb4)
  have hab : a < b := by omega
  have hbc : b < c := by omega
  clear hDa hDb hDc hb1 hb2 hb3 hb4 ha1 hb3' hc1 la lb hws1 hws2 hws3
  go_wp2_with fail
  have hm := BlkAt.made w4 9 #[.string s]
  have hb2 := ba (a := w4) b0 (.cells #[.string s] 9)
  generalize w4.alloc (.cells #[.string s] 9) = W at hm hb2 ⊢
  have HDa := Lib.hid (HDa.out.below hb2)
  have HDb := Lib.hid (HDb.out.below hb2)
  have HDc := Lib.hid (HDc.out.below hb2)
  have HB := Lib.hid (bb HB.out hb2)
  clear hb2
  refine (feed_one w.heap.size a _ [] 0 0 0 _ _ W HDa.out HB.out.size hm (by show 0 + s.size ≤ _; omega) (by decide)).mono ?_
  rw [feedOf_start]
  rintro e w5 ⟨want, va, needa, rfl, how, hta, hb2, hDa, hfa⟩
  obtain ⟨D, hD⟩ : ∃ D, D = (fof s.data.toList).1.map txt := ⟨_, rfl⟩
  have hDl : D.length = (fof s.data.toList).1.length := by rw [hD, List.length_map]
  have hDlen : D.length ≤ 1000000 := by omega
  rw [← hD, ← hDl] at how
  rw [Nat.zero_add, ← hDl] at hDa
  have hne : ∀ x, x ≠ a → ¬ (x = a ∨ foot (.slice none 0 0) = some x) := fun x hx e => by
    rcases e with e | e
    · exact hx e
    · simp [foot] at e
  have hDb5 : Fd w.heap.size w5 b (.slice none 0 0) [] 0 0 0 := ⟨HDb.out.1.tch hta (hne b (by omega)) (fun g hg => by simp [foot] at hg), HDb.out.2⟩
  have HDb := Lib.hid hDb5
  clear hDb5
  have hDc5 : Fd w.heap.size w5 c (.slice none 0 0) [] 0 0 0 := ⟨HDc.out.1.tch hta (hne c (by omega)) (fun g hg => by simp [foot] at hg), HDc.out.2⟩
  have HDc := Lib.hid hDc5
  clear hDc5
  have HB := Lib.hid (HB.out.trans hb2)
  have HDa := Lib.hid hDa
  have HWA := Lib.hid how
  have HF := Lib.hid (And.intro hD hDl)
  clear hDa how hta hb2 hne hm hfa hD hDl
  generalize hE1 : (fof s.data.toList).2.1 = e1 at *
  generalize hR1 : (fof s.data.toList).2.2 = R1 at *
  have HE := Lib.hid (And.intro hE1 hR1)
  clear hE1 hR1
  -- the places
  go_wp2
  go_loopw [9, 38] (fun v kk wr => ∃ (k : Nat) (al : List Nat), k ≤ l.length ∧ kk = .int .i64 (k : Int) ∧ al.length = k ∧ (∀ x ∈ al, x ≤ s.size) ∧ wr.ownsRow w5.heap.size 3 1 v k (ints al) ∧ Below w5.heap.size w5 wr) (fun _ kk _ => l.length - (intOf kk).toNat)
  case atStart => exact ⟨0, [], by omega, rfl, rfl, by simp, World.ownsRow_nil _ _ _ _, b0⟩
  case round =>
    obtain ⟨k, al, hk, rfl, hal, hax, hown, hbel⟩ := hrel
    by_cases hlt : k < l.length
    · obtain ⟨gA, off, rfl, _, hcl⟩ := (HR.out.below (bb HB.out hbel)).at_ (k := k) (by simpa [u16s] using hlt)
      have hn := HM.out l[k] (List.getElem_mem hlt)
      replace hcl : wr.cell? ⟨gA, off + k, none⟩ = some (.int .u16 (l[k] : Int)) := by simpa [u16s] using hcl
      generalize l[k] = n at hn hcl
      have hs5 := hbel.size
      have HBEL := Lib.hid hbel
      have HAL := Lib.hid (And.intro hal hax)
      have HOWN := Lib.hid hown
      clear hal hax hbel hown
      go_wp2_with (at_builtin; go_must (refine wpList_append_own _ rfl _ _ 111 rfl w5.heap.size 3 i1 (.int .i64 0) 1 8 Try.underlying111 hi1 hy0 hy1 hy2 rfl (by decide) _ _ _ rfl (HOWN.out.alloc _) ⟨wr.heap.size, 0, none⟩ 1 1 [.int .i64 ((n : Int) % ((s.size : Int) + 1))] rfl rfl (one_new _ _ _) (one_cell_int _ _) (by unfold maxLen; omega) (by omega) (by simp; omega) ?_); intro v1 w6 hown2 hg2 _; have HO2 := Lib.hid hown2; have HG2 := Lib.hid hg2; clear hown2 hg2)
      go_roundw
      case rel =>
        refine ⟨k + 1, al ++ [n % (s.size + 1)], by omega, by go_num, by simp [HAL.out.1], fun x hx => ?_, ?_, below_append (ba HBEL.out _) (HOWN.out.alloc _) HG2.out⟩
        · rcases List.mem_append.1 hx with h | h
          · exact HAL.out.2 x h
          · rw [List.mem_singleton.1 h]
            have := Nat.mod_lt n (y := s.size + 1) (by omega)
            omega
        · have := HO2.out
          simpa [ints] using this
      case measure => simp [intOf]; omega
    · obtain rfl : k = l.length := by omega
      have hal2 : al.length ≤ 60 := by omega
      rw [← hal] at hown
      have HBEL := Lib.hid hbel
      have HOWN := Lib.hid hown
      have HAX := Lib.hid hax
      have hs5 := hbel.size
      clear hbel hown hax hal
      go_wp2_with fail
      refine (sort_own w5.heap.size _ al _ HOWN.out (by omega)).mono ?_
      rintro e w6 ⟨rfl, Z0, hZl, hZm, hZp, hown6, hg6⟩
      have hb6 : Below w5.heap.size w5 w6 := below_append HBEL.out HOWN.out hg6
      have hs6 := hb6.size
      have HB6 := Lib.hid hb6
      have HO6 := Lib.hid hown6
      have hZx : ∀ x ∈ Z0, x ≤ s.size := fun x hx => HAX.out x (hZm x hx)
      have HZ := Lib.hid (And.intro hZx hZp)
      have hZl2 : Z0.length ≤ 60 := by omega
      clear hb6 hown6 hg6 hZm hZp hZx hZl
      go_wp2_with (at_builtin; go_must (refine wpList_append_own _ rfl _ _ 111 rfl w5.heap.size 3 i1 (.int .i64 0) 1 8 Try.underlying111 hi1 hy0 hy1 hy2 rfl (by decide) _ _ _ rfl (HO6.out.alloc _) ⟨w6.heap.size, 0, none⟩ 1 1 [.int .i64 (s.size : Int)] rfl rfl (one_new _ _ _) (one_cell_int _ _) (by unfold maxLen; omega) (by omega) (by simp; omega) ?_); intro vZ w7 hown7 hg7 _; have hbz := below_append (ba HB6.out _) (HO6.out.alloc _) hg7; have HB7 := Lib.hid hbz; obtain ⟨AZ, cZ, rfl, _, hcz, _⟩ := Rd.own hown7; have HO7 := Lib.hid hown7; clear hown7 hg7 hbz)
      -- the pieces
      have HC0 : Hid (Cutt s.data.toList (Z0 ++ [s.size]) 0 0 []) := Cutt.start _ _ (by simp)
      have HOZ : Hid (w7.ownsRow w5.heap.size 3 1 (.slice AZ (Z0.length + 1) cZ) (Z0.length + 1) (ints (Z0 ++ [s.size]))) := by
        show World.ownsRow _ _ _ _ _ _ _
        have := HO7.out
        simpa [ints] using this
      have HZ2 : Hid (∀ k (h : k < (Z0 ++ [s.size]).length) F pcs, Cutt s.data.toList (Z0 ++ [s.size]) k F pcs → F ≤ (Z0 ++ [s.size])[k] ∧ (Z0 ++ [s.size])[k] ≤ s.size ∧ Cutt s.data.toList (Z0 ++ [s.size]) (k + 1) (Z0 ++ [s.size])[k] (pcs ++ [s.extract F (Z0 ++ [s.size])[k]])) := by
        intro k h F pcs hc
        have hx : ∀ x ∈ Z0 ++ [s.size], x ≤ s.size := fun x hx => by
          rcases List.mem_append.1 hx with h | h
          · exact HZ.out.1 x h
          · rw [List.mem_singleton.1 h]; exact Nat.le_refl _
        refine ⟨hc.nx k h (Nat.le_refl _), hx _ (List.getElem_mem h), hc.step h hx ?_ fun _ => by simp⟩
        rw [List.pairwise_append]
        exact ⟨HZ.out.2, List.pairwise_singleton _ _, fun x hx y hy => by rw [List.mem_singleton.1 hy]; exact HZ.out.1 x hx⟩
      have hZn : (Z0 ++ [s.size]).length = Z0.length + 1 := by simp
      have HZN := Lib.hid hZn
      clear HO7 HO6 HB6 HZ HAX HOWN HBEL hZn hcz hs6 hs5
      generalize Z0 ++ [s.size] = Z at *
      go_loopw [12, 13, 60] (fun v fr kk wr => ∃ (k F : Nat) (pcs : List ByteArray), k ≤ Z.length ∧ kk = .int .i64 (k : Int) ∧ fr = .int .i64 (F : Int) ∧ Cutt s.data.toList Z k F pcs ∧ wr.ownsRow w5.heap.size 9 1 v k (strs pcs) ∧
        wr.ownsRow w5.heap.size 3 1 (.slice AZ (Z0.length + 1) cZ) (Z0.length + 1) (ints Z) ∧ Below w5.heap.size w5 wr) (fun _ _ kk _ => Z.length - (intOf kk).toNat)
      case atStart => exact ⟨0, 0, [], by omega, rfl, rfl, HC0.out, World.ownsRow_nil _ _ _ _, HOZ.out, HB7.out⟩
      case round =>
        obtain ⟨k, F, pcs, hk, rfl, rfl, hcut, hown, hoz, hbel⟩ := hrel
        clear HC0 HOZ HB7
        have hZn := HZN.out
        by_cases hlt : k < Z.length
        · obtain ⟨h1, h2, h3⟩ := HZ2.out k hlt F pcs hcut
          obtain ⟨AZ', cZ', hAZ, hrz, _, _⟩ := Rd.own hoz
          injection hAZ with hA1 hA2 hA3
          subst hA1 hA3
          obtain ⟨gZ, off, rfl, _, hcl⟩ := hrz.at_ (k := k) (by simpa [ints] using hlt)
          replace hcl : wr.cell? ⟨gZ, off + k, none⟩ = some (.int .i64 (Z[k] : Int)) := by simpa [ints] using hcl
          have H3 := Lib.hid h3
          generalize Z[k] = z at h1 h2 H3 hcl
          have hs5 := hbel.size
          have HBEL := Lib.hid hbel
          have HOWN := Lib.hid hown
          have HOZ := Lib.hid hoz
          have HCU := Lib.hid hcut
          have HZ9 := Lib.hid hZn
          clear hcut hown hoz hbel hrz h3 hA2 HZ2 HZN
          have hz0 : (z : Int) < (F : Int) ↔ False := ⟨fun h => by omega, False.elim⟩
          clear hz0
          go_wp2_with (at_builtin; go_must (refine wpList_append_own _ rfl _ _ 82 rfl w5.heap.size 9 i0 (.string ByteArray.empty) 1 16 Try.underlying82 hi0 hz0 hz1 hz2 rfl (by decide) _ _ _ rfl (HOWN.out.alloc _) ⟨wr.heap.size, 0, none⟩ 1 1 [.string (s.extract F z)] rfl rfl (one_new _ _ _) (one_cell_str _) (by unfold maxLen; omega) (by omega) (by simp; omega) ?_); intro v1 w6 hown2 hg2 _; have HO2 := Lib.hid hown2; have HG2 := Lib.hid hg2; clear hown2 hg2)
          go_roundw
          case rel =>
            refine ⟨k + 1, z, pcs ++ [s.extract F z], by omega, by go_num, rfl, H3.out, by simpa [strs] using HO2.out, ?_, below_append (ba HBEL.out _) (HOWN.out.alloc _) HG2.out⟩
            exact (HOZ.out.alloc _).kept HG2.out (.inr fun e => own_apart (HOZ.out.alloc (.cells #[.string (s.extract F z)] 9)) (HOWN.out.alloc _) (by decide) gZ rfl e.symm)
          case measure => simp [intOf]; omega
        · obtain rfl : k = Z.length := by omega
          have hzge : Z0.length + 1 ≤ Z.length := by omega
          have hF := hcut.fin rfl
          have hfl := hcut.fl
          have hpl := hcut.len
          rw [hF, List.take_of_length_le (Nat.le_refl _)] at hfl
          rw [← hpl] at hown
          have hpl2 : pcs.length ≤ 100 := by omega
          have HFL := Lib.hid hfl
          have HBEL := Lib.hid hbel
          have HDa := Lib.hid (HDa.out.below hbel)
          have HDb := Lib.hid (HDb.out.below hbel)
          have HDc := Lib.hid (HDc.out.below hbel)
          have HB := Lib.hid (bb HB.out hbel)
          have HWA := Lib.hid (own_below HWA.out hbel)
          obtain ⟨AP, cP, rfl, hrp, _, hAP⟩ := Rd.own hown
          have happ : ∀ b' off, AP = some ⟨b', off, none⟩ → b' ≠ b ∧ foot (.slice none 0 0) ≠ some b' := fun b' off e =>
            ⟨own_ne_blk hown HDb.out.1.1 (by decide) b' (hAP b' off e).1, by simp [foot]⟩
          have HRP := Lib.hid (And.intro hrp happ)
          clear hcut hown hoz hbel HZ2 HZN hZn hF hfl hpl hrp hAP happ
          go_wp2_with fail
          refine (feed_any b _ [] 0 0 0 AP cP pcs _ HDb.out.1 St.new HRP.out.1 HRP.out.2 (by rw [HFL.out]; show 0 + s.data.toList.length ≤ _; rw [len_list]; omega) (by omega) (by decide)).mono ?_
          rw [HFL.out, feedOf_start]
          rintro e w8 ⟨got, vb, needb, rfl, hog, htb, hDb, hstb, hfb⟩
          rw [← HF.out.1, ← HF.out.2] at hog
          rw [Nat.zero_add, ← HF.out.2, HE.out.1, HE.out.2] at hDb
          have htb2 : Tch (fun k => k = b) wr w8 := htb.imp fun g _ h => h.resolve_right (by simp [foot])
          have hDa8 : Fd w.heap.size w8 a va R1 needa e1 D.length := ⟨HDa.out.1.tch htb2 (by omega) (fun g hg e => HDa.out.1.2.1.ne_blk HDb.out.1.1 (by decide) (e ▸ hg)), HDa.out.2⟩
          have hDc8 : Fd w.heap.size w8 c (.slice none 0 0) [] 0 0 0 := ⟨HDc.out.1.tch htb2 (by omega) (fun g hg => by simp [foot] at hg), HDc.out.2⟩
          have hwa8 := own_tch HWA.out htb2 fun g hg => own_ne_blk HWA.out HDb.out.1.1 (by decide) g hg
          have hB8 : Below w.heap.size w w8 := HB.out.trans (htb2.toBelowB HB.out.size fun g hg e => by have := HDb.out.2.2.1; omega)
          have HDa := Lib.hid hDa8
          have HDb := Lib.hid hDb
          have HDc := Lib.hid hDc8
          have HWA := Lib.hid hwa8
          have HB := Lib.hid hB8
          have HOG := Lib.hid hog
          have hws8 := hB8.size
          clear hDa8 hDc8 hwa8 hB8 hog htb htb2 hstb hfb hDb HRP HFL HBEL
          have H0 : Hid (Single w8 c (s.data.toList.take 0) (.slice none 0 0) w8) := by
            show Single _ _ _ _ _
            have e0 : fof (s.data.toList.take 0) = ([], 0, []) := by rw [List.take_zero]; exact fof_short (by decide)
            unfold Single
            rw [e0]
            exact ⟨_, 0, Tch.refl _ _, HDc.out.1, St.new, fun g hg => by simp [foot] at hg, World.ownsRow_nil _ _ _ _⟩
          go_wp2
          go_loopw [17, 78] (fun v kk w9 => ∃ i : Nat, i ≤ s.size ∧ kk = .int .i64 (i : Int) ∧ Single w8 c (s.data.toList.take i) v w9) (fun _ kk _ => s.size - (intOf kk).toNat)
          case atStart => exact ⟨0, by omega, rfl, H0.out⟩
          case round =>
            obtain ⟨i, hi, rfl, hsing⟩ := hrel
            clear H0
            by_cases hlt : i < s.size
            · have hT1 : s.data.toList.take (i + 1) = s.data.toList.take i ++ (s.extract i (i + 1)).data.toList := by
                rw [ext_list, List.take_add, Nat.add_sub_cancel_left]
              have hff := fof_feed (s.data.toList.take i) (s.extract i (i + 1)).data.toList
              rw [← hT1] at hff
              have hfl := fof_len (s.data.toList.take i)
              have htl : (s.data.toList.take i).length ≤ 4000 := by rw [List.length_take, len_list]; omega
              have hps : (s.extract i (i + 1)).size ≤ 1 := by rw [ByteArray.size_extract]; omega
              have hlx := feedOf_len (e := (fof (s.data.toList.take i)).2.1) (R := (fof (s.data.toList.take i)).2.2) (t := (s.extract i (i + 1)).data.toList)
              rw [len_list] at hlx
              have HX : Hid (∀ v w9, Single w8 c (s.data.toList.take (i + 1)) v w9 → ∃ i' : Nat, i' ≤ s.size ∧ Value.int .i64 ((i : Int) + 1) = .int .i64 (i' : Int) ∧ Single w8 c (s.data.toList.take i') v w9) :=
                fun v w9 h => ⟨i + 1, by omega, by go_num, h⟩
              obtain ⟨vc, need, ht, hd, hst, hf, hown⟩ := hsing
              have HFF := Lib.hid hff
              clear hff hT1
              generalize s.data.toList.take (i + 1) = T1 at *
              generalize s.data.toList.take i = T0 at *
              generalize fof T0 = X0 at *
              obtain ⟨dn, e2, R2⟩ := X0
              simp only at hfl hlx ht hd hst hown
              have HT := Lib.hid ht
              have HD := Lib.hid hd
              have HST := Lib.hid hst
              have HFO := Lib.hid hf
              have HO := Lib.hid hown
              have HPS := Lib.hid hps
              have HLX := Lib.hid hlx
              clear ht hd hst hf hown hps hlx
              go_wp2_with fail
              have hm := BlkAt.made wr 9 #[.string (s.extract i (i + 1))]
              have hbo := ba (a := wr) b0 (.cells #[.string (s.extract i (i + 1))] 9)
              generalize wr.alloc (.cells #[.string (s.extract i (i + 1))] 9) = W3 at hm hbo ⊢
              refine (feed_oneD c vc R2 need e2 dn.length _ _ W3 (HD.out.below hbo) HST.out hm (by have := HPS.out; omega) (by omega)).mono ?_
              rintro e w10 ⟨r, v10, need10, rfl, hor, ht10, hd10, hst10, hf10⟩
              have hcW := HD.out.below hbo
              have hoW := own_below HO.out hbo
              have hou := own_tch hoW ht10 fun g hg e => by
                rcases e with e | e
                · exact own_ne_blk hoW hcW.1 (by decide) g hg e
                · exact hcW.2.1.ne_own hoW (by decide) g hg e
              have htt : Tch (fun k => k = c) w8 w10 := (HT.out.bel hbo).trans ht10 fun g hlt e => by
                rcases e with e | e
                · exact e
                · have := HFO.out g e; omega
              have hs8 := HT.out.size
              have hs10 := htt.size
              have hf10' : ∀ g, foot v10 = some g → w8.heap.size ≤ g := fun g hg => by
                rcases hf10 with h | h
                · exact HFO.out g (h ▸ hg)
                · exact Nat.le_trans (Nat.le_trans hs8 hbo.size) (h g hg)
              have hlx := HLX.out
              have hps := HPS.out
              clear hcW hoW ht10 hbo hm HLX HPS hf10
              generalize feedOf e2 R2 (s.extract i (i + 1)).data.toList = X at *
              obtain ⟨L, e3, R3⟩ := X
              simp only at hor hlx hd10 hst10
              have hff := HFF.out
              simp only at hff
              have hfin : ∀ v4 w11, w11.ownsRow w8.heap.size 9 1 v4 (dn.length + L.length) (strs (dn.map txt) ++ strs (L.map txt)) → w10.grownBy w11 u17.ownBlock → Single w8 c T1 v4 w11 := fun v4 w11 ho hg => by
                have hT := Tch.grown (S := fun g => u17.ownBlock = some g) hg fun g hg _ => hg
                unfold Single
                rw [hff]
                refine ⟨v10, need10, htt.trans hT fun g hlt e => ?_, ?_, hst10, hf10', ?_⟩
                · have := (hou.lt g e).1; omega
                · have := hd10.tch hT (fun e => own_ne_blk hou hd10.1 (by decide) c e rfl) fun g hg e => hd10.2.1.ne_own hou (by decide) g e hg
                  show Dfr _ _ _ _ _ _ (dn ++ L).length
                  rw [List.length_append]
                  exact this
                · show World.ownsRow _ _ _ _ _ (dn ++ L).length (strs ((dn ++ L).map txt))
                  rw [List.length_append, show strs ((dn ++ L).map txt) = strs (dn.map txt) ++ strs (L.map txt) by simp [strs]]
                  exact ho
              have HFIN := Lib.hid hfin
              have HOU := Lib.hid hou
              clear hfin hou hff hd10 hst10 hf10' htt hs8
              rcases own_cases hor with ⟨rfl, hn0, hxs⟩ | ⟨g, cp, rfl, hgb, hsrc⟩
              · have HXS := Lib.hid (And.intro hn0 hxs)
                clear hn0 hxs hor
                go_wp2_with (at_builtin; go_must (refine wpList_append_own_none rfl _ _ 82 rfl w8.heap.size 9 i0 1 Try.underlying82 hi0 _ _ _ rfl HOU.out rfl ?_))
                go_roundw
                case rel => exact HX.out _ _ (HFIN.out _ _ (by rw [HXS.out.1, HXS.out.2, List.append_nil]; exact HOU.out) (grown_refl _ _))
                case measure => simp [intOf]; omega
              · have HOR := Lib.hid hor
                have HSRC := Lib.hid hsrc
                clear hor hsrc
                go_wp2_with (at_builtin; go_must (refine wpList_append_own _ rfl _ _ 82 rfl w8.heap.size 9 i0 (.string ByteArray.empty) 1 16 Try.underlying82 hi0 hz0 hz1 hz2 rfl (by decide) _ _ _ rfl HOU.out ⟨g, 0, none⟩ L.length cp (strs (L.map txt)) rfl HOR.out.1 HSRC.out (strs_one _) (by unfold maxLen; omega) (by omega) hs10 ?_); intro v4 w11 hown4 hg4 _; have HO4 := Lib.hid hown4; have HG4 := Lib.hid hg4; clear hown4 hg4)
                go_roundw
                case rel => exact HX.out _ _ (HFIN.out _ _ HO4.out HG4.out)
                case measure => simp [intOf]; omega
            · obtain rfl : i = s.size := by omega
              rw [List.take_of_length_le (by rw [len_list]; omega)] at hsing
              obtain ⟨vc, need, ht, hd, hst, hf, hos⟩ := hsing
              rw [← HF.out.1, ← HF.out.2] at hos
              rw [HE.out.1, HE.out.2, ← HF.out.2] at hd
              have hcb := HDc.out.1.1
              have hda : Dfr wr a va R1 needa e1 D.length := HDa.out.1.tch ht (by omega) (fun g hg e => HDa.out.1.2.1.ne_blk hcb (by decide) (e ▸ hg))
              have hdb : Dfr wr b vb R1 needb e1 D.length := HDb.out.tch ht (by omega) (fun g hg e => HDb.out.2.1.ne_blk hcb (by decide) (e ▸ hg))
              have hwa := own_tch HWA.out ht fun g hg => own_ne_blk HWA.out hcb (by decide) g hg
              have hog := own_tch HOG.out ht fun g hg => own_ne_blk HOG.out hcb (by decide) g hg
              have hBw : Below w.heap.size w wr := HB.out.trans (ht.toBelowB hws8 fun g hg e => by have := HDc.out.2.2.1; omega)
              obtain ⟨Aw, cw, rfl, hrw, _, _⟩ := Rd.own hwa
              obtain ⟨Ag, cg, rfl, hrg, _, _⟩ := Rd.own hog
              obtain ⟨Ac, cc, rfl, hrc, _, _⟩ := Rd.own hos
              have HDa := Lib.hid hda
              have HDb := Lib.hid hdb
              have HDc := Lib.hid hd
              have HB := Lib.hid hBw
              have HRW := Lib.hid hrw
              have HRG := Lib.hid hrg
              have HRC := Lib.hid hrc
              clear hda hdb hd hBw hrw hrg hrc hwa hog hos ht hst hf hcb
              go_wp2_with fail
              refine (equstr Ag Aw cg cw D _ HRG.out HRW.out hDlen).mono ?_
              rintro e x1 ⟨rfl, hb2⟩
              have HRW := Lib.hid (HRW.out.below hb2)
              have HRC := Lib.hid (HRC.out.below hb2)
              have HDa := Lib.hid (HDa.out.below hb2)
              have HDb := Lib.hid (HDb.out.below hb2)
              have HDc := Lib.hid (HDc.out.below hb2)
              have HB := Lib.hid (bb HB.out hb2)
              clear hb2
              go_wp2_with fail
              refine (equstr Ac Aw cc cw D _ HRC.out HRW.out hDlen).mono ?_
              rintro e x2 ⟨rfl, hb2⟩
              have HDa := Lib.hid (HDa.out.below hb2)
              have HDb := Lib.hid (HDb.out.below hb2)
              have HDc := Lib.hid (HDc.out.below hb2)
              have HB := Lib.hid (bb HB.out hb2)
              clear hb2
              go_wp2_with fail
              refine (err_any _ _ _ _ _ _ _ HDa.out).mono ?_
              rintro e x3 ⟨rfl, hb2⟩
              have HDa := Lib.hid (HDa.out.below hb2)
              have HDb := Lib.hid (HDb.out.below hb2)
              have HDc := Lib.hid (HDc.out.below hb2)
              have HB := Lib.hid (bb HB.out hb2)
              clear hb2
              go_wp2_with fail
              refine (err_any _ _ _ _ _ _ _ HDb.out).mono ?_
              rintro e x4 ⟨rfl, hb2⟩
              have HDa := Lib.hid (HDa.out.below hb2)
              have HDb := Lib.hid (HDb.out.below hb2)
              have HDc := Lib.hid (HDc.out.below hb2)
              have HB := Lib.hid (bb HB.out hb2)
              clear hb2
              go_wp2_with fail
              refine (err_any _ _ _ _ _ _ _ HDa.out).mono ?_
              rintro e x5 ⟨rfl, hb2⟩
              have HDa := Lib.hid (HDa.out.below hb2)
              have HDb := Lib.hid (HDb.out.below hb2)
              have HDc := Lib.hid (HDc.out.below hb2)
              have HB := Lib.hid (bb HB.out hb2)
              clear hb2
              go_wp2_with fail
              refine (err_any _ _ _ _ _ _ _ HDc.out).mono ?_
              rintro e x6 ⟨rfl, hb2⟩
              have HDa := Lib.hid (HDa.out.below hb2)
              have HDb := Lib.hid (HDb.out.below hb2)
              have HDc := Lib.hid (HDc.out.below hb2)
              have HB := Lib.hid (bb HB.out hb2)
              clear hb2
              go_wp2_with fail
              refine (waits_any _ _ _ _ _ _ _ HDa.out).mono ?_
              rintro e x7 ⟨rfl, hb2⟩
              have HDa := Lib.hid (HDa.out.below hb2)
              have HDb := Lib.hid (HDb.out.below hb2)
              have HDc := Lib.hid (HDc.out.below hb2)
              have HB := Lib.hid (bb HB.out hb2)
              clear hb2
              go_wp2_with fail
              refine (waits_any _ _ _ _ _ _ _ HDb.out).mono ?_
              rintro e x8 ⟨rfl, hb2⟩
              have HDa := Lib.hid (HDa.out.below hb2)
              have HDb := Lib.hid (HDb.out.below hb2)
              have HDc := Lib.hid (HDc.out.below hb2)
              have HB := Lib.hid (bb HB.out hb2)
              clear hb2
              go_wp2_with fail
              refine (waits_any _ _ _ _ _ _ _ HDa.out).mono ?_
              rintro e x9 ⟨rfl, hb2⟩
              have HDa := Lib.hid (HDa.out.below hb2)
              have HDb := Lib.hid (HDb.out.below hb2)
              have HDc := Lib.hid (HDc.out.below hb2)
              have HB := Lib.hid (bb HB.out hb2)
              clear hb2
              go_wp2_with fail
              refine (waits_any _ _ _ _ _ _ _ HDc.out).mono ?_
              rintro e x10 ⟨rfl, hb2⟩
              have HDa := Lib.hid (HDa.out.below hb2)
              have HDb := Lib.hid (HDb.out.below hb2)
              have HDc := Lib.hid (HDc.out.below hb2)
              have HB := Lib.hid (bb HB.out hb2)
              clear hb2
              go_wp2_with fail
              refine (count_any _ _ _ _ _ _ _ HDa.out).mono ?_
              rintro e x11 ⟨rfl, hb2⟩
              have HDa := Lib.hid (HDa.out.below hb2)
              have HDb := Lib.hid (HDb.out.below hb2)
              have HDc := Lib.hid (HDc.out.below hb2)
              have HB := Lib.hid (bb HB.out hb2)
              clear hb2
              go_wp2_with fail
              refine (count_any _ _ _ _ _ _ _ HDc.out).mono ?_
              rintro e x12 ⟨rfl, hb2⟩
              have HDa := Lib.hid (HDa.out.below hb2)
              have HDb := Lib.hid (HDb.out.below hb2)
              have HDc := Lib.hid (HDc.out.below hb2)
              have HB := Lib.hid (bb HB.out hb2)
              clear hb2
              go_wp2
              go_ret
              exact ⟨rfl, HB.out⟩
end Go.Proofs.Ytlkdoahdcepncaa
