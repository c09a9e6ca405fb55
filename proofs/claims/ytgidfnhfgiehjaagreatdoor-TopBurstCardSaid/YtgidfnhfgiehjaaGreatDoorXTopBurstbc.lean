/-
  Texts of the proof, joined: TopG Laid. Conditions: as each names.
-/
import Derived.Test.YtgidfnhfgiehjaaGreatDoorXTopBurstbb
import Derived.Test.YtgidfnhfgiehjaaGreatDoorXTopBurstai
import Derived.Test.YtgidfnhfgiehjaaGreatDoorRows
import Derived.Test.YtgidfnhfgiehjaaGreatDoorXTopBurstaj
import Derived.PinnedBridge
import Derived.Lib.LaidIn
import Derived.Lib.LaidU8T
import Derived.Deep.DeepHandedRow
import Derived.Deep.DeepWitnessRowRef

section
namespace Go.Proofs.YtgidfnhfgiehjaaGreatDoor
open Go.RowKit Go.PM
set_option maxRecDepth 100000
set_option maxHeartbeats 4000000
theorem cturn_same (l : List UInt8) (F pat : Nat) : ∀ i, cturned (8 * l.length) F pat i = false → cturn l F pat i = l
  | 0, _ => rfl
  | i + 1, h => by
    rw [cturned] at h
    rw [cturn]
    split at h
    · cases h
    · rename_i hc
      rw [if_neg hc]
      exact cturn_same l F pat i h
/-- Frames one behind another, by their numbers. -/
def bk (fr : Nat → List UInt8) : Nat → List UInt8
  | 0 => []
  | k + 1 => bk fr k ++ fr k
/-- The frames of texts, the i-th one another text. -/
def bfr (Pl : List (List UInt8)) (wi : Nat) (T : List UInt8) (i : Nat) : List UInt8 := if i = wi then T else ftext (Pl.getD i [])
theorem bk_ahead (Pl : List (List UInt8)) (wi : Nat) (T : List UInt8) : ∀ k, k ≤ wi → k ≤ Pl.length → bk (bfr Pl wi T) k = ftexts (Pl.take k)
  | 0, _, _ => by simp [bk, ftexts]
  | k + 1, h1, h2 => by
    rw [bk, bk_ahead Pl wi T k (by omega) (by omega), bfr, if_neg (by omega), ← List.take_append_getElem (show k < Pl.length by omega), ftexts_app]
    congr 1
    rw [List.getD_eq_getElem?_getD, List.getElem?_eq_getElem (by omega)]
    simp [ftexts]
theorem bk_behind (Pl : List (List UInt8)) (wi : Nat) (T : List UInt8) : ∀ j, wi + 1 + j ≤ Pl.length → bk (bfr Pl wi T) (wi + 1 + j) = ftexts (Pl.take wi) ++ (T ++ ftexts ((Pl.drop (wi + 1)).take j))
  | 0, h => by
    rw [Nat.add_zero, bk, bk_ahead Pl wi T wi (Nat.le_refl _) (by omega), bfr, if_pos rfl]
    simp [ftexts]
  | j + 1, h => by
    rw [show wi + 1 + (j + 1) = (wi + 1 + j) + 1 by omega, bk, bk_behind Pl wi T j (by omega), bfr, if_neg (by omega), ← List.take_append_getElem (show j < (Pl.drop (wi + 1)).length by rw [List.length_drop]; omega), ftexts_app]
    rw [List.append_assoc, List.append_assoc]
    congr 3
    rw [List.getD_eq_getElem?_getD, List.getElem?_eq_getElem (by omega)]
    simp [ftexts]
theorem bk_all (Pl : List (List UInt8)) (wi : Nat) (T : List UInt8) (h : wi < Pl.length) : bk (bfr Pl wi T) Pl.length = ftexts (Pl.take wi) ++ (T ++ ftexts (Pl.drop (wi + 1))) := by
  have := bk_behind Pl wi T (Pl.length - (wi + 1)) (by omega)
  have e1 : (Pl.drop (wi + 1)).take (Pl.length - (wi + 1)) = Pl.drop (wi + 1) := List.take_of_length_le (by rw [List.length_drop]; exact Nat.le_refl _)
  rw [show wi + 1 + (Pl.length - (wi + 1)) = Pl.length by omega, e1] at this
  exact this
/-- What is delivered of frames one of which is turned. -/
theorem burst_fof (Pl : List (List UInt8)) (wi : Nat) (h : wi < Pl.length) (hP : ∀ p ∈ Pl, p.length ≤ 300) (first pat : Nat) (hf : first ≤ 8 * ((Pl.getD wi []).length + 4)) (hpat : pat < 4294967296) :
    fof (bk (bfr Pl wi (cturn (ftext (Pl.getD wi [])) (8 * (2 + vsz (Pl.getD wi []).length) + first) pat 32)) Pl.length) =
      if cturned (8 * fsize (Pl.getD wi []).length) (8 * (2 + vsz (Pl.getD wi []).length) + first) pat 32 then (Pl.take wi, 6, []) else (Pl, 0, []) := by
  have hp : (Pl.getD wi []).length ≤ 65536 := by
    rw [List.getD_eq_getElem?_getD, List.getElem?_eq_getElem h]
    have := hP _ (List.getElem_mem h)
    simp only [Option.getD_some]
    omega
  have hP' : ∀ p ∈ Pl, p.length ≤ 65536 := fun p hp => by have := hP p hp; omega
  rw [bk_all _ _ _ h]
  split
  · rename_i hc
    have hb := fparse_burst (Pl.getD wi []) (ftexts (Pl.drop (wi + 1))) hp first pat hf hpat
    rw [if_pos hc] at hb
    exact fof_burst _ _ (fun p hp => hP' p (List.mem_of_mem_take hp)) (by rw [hb])
  · rename_i hc
    rw [cturn_same _ _ _ _ (by rw [ftext_length]; simpa using hc)]
    have e : ftexts (Pl.take wi) ++ (ftext (Pl.getD wi []) ++ ftexts (Pl.drop (wi + 1))) = ftexts Pl := by
      have h1 : Pl = Pl.take wi ++ Pl.getD wi [] :: Pl.drop (wi + 1) := by
        rw [List.getD_eq_getElem?_getD, List.getElem?_eq_getElem h]
        simp
      conv => rhs; rw [h1]
      rw [ftexts_app]
      simp [ftexts]
    rw [e]
    exact fof_whole Pl hP'
theorem getD_pay {P : List ByteArray} {k : Nat} (h : k < P.length) : (P.map (·.data.toList)).getD k [] = P[k].data.toList := by
  rw [List.getD_eq_getElem?_getD, List.getElem?_eq_getElem (by rw [List.length_map]; exact h), List.getElem_map]
  rfl
/-- Where the loop of the frames stands. -/
def BuAt (P : List ByteArray) (w1 : World) (k : Nat) (wr : World) : Prop := (∀ i (h : i < P.length), i < k → P[i].size ≤ 300) ∧ Below w1.heap.size w1 wr
theorem burst_walk (A B : Option Addr) (cap cap2 : Nat) (P : List ByteArray) (wh a pat : Nat) (l : List Nat) (w : World) (hT : Tabs w) (hr : Rd w A (strs P)) (hPl : P.length ≤ 9223372036854775807) (hPs : ∀ p ∈ P, p.size ≤ 9223372036854775807) (hcp : P.length ≤ cap) (hcm : cap ≤ 9223372036854775807)
    (hwh : wh < 256) (ha : a < 65536) (hpat : pat < 4294967296) (hr2 : Rd w B (cuts16 l)) (hl : l.length ≤ 9223372036854775807) (hm : ∀ x ∈ l, x < 65536) :
    Calls Tryz.prog 4 #[.slice A P.length cap, .int .u8 (wh : Int), .int .u16 (a : Int), .int .u32 (pat : Int), .slice B l.length cap2] w fun e w' => e = .returned (.bool true) ∧ Below w.heap.size w w' := by
  have HA := Lib.hid (alive20 w hT)
  by_cases h0 : P.length < 1
  · have hlen0 : P.length = 0 := by omega
    rw [hlen0]
    clear h0 hr hPl hPs hcp hcm hr2 hm hlen0
    go_enter Tryz.func4, Tryz.ntmps4
    go_wp2_with fail
    refine HA.out.mono ?_
    rintro e w1 ⟨rfl, hb1⟩
    go_wp2
    go_ret
    exact ⟨rfl, hb1⟩
  by_cases h20 : 20 < P.length
  · have h20i : (20 : Int) < (P.length : Int) := by omega
    have h1i : ¬ (P.length : Int) < 1 := by omega
    clear hr hPs hr2 hm
    go_enter Tryz.func4, Tryz.ntmps4
    go_wp2_with fail
    refine HA.out.mono ?_
    rintro e w1 ⟨rfl, hb1⟩
    go_wp2
    go_ret
    exact ⟨rfl, hb1⟩
  by_cases h60 : 60 < l.length
  · have h20i : ¬ (20 : Int) < (P.length : Int) := by omega
    have h1i : ¬ (P.length : Int) < 1 := by omega
    have h60i : (60 : Int) < (l.length : Int) := by omega
    clear hr hPs hr2 hm
    go_enter Tryz.func4, Tryz.ntmps4
    go_wp2_with fail
    refine HA.out.mono ?_
    rintro e w1 ⟨rfl, hb1⟩
    go_wp2
    go_ret
    exact ⟨rfl, hb1⟩
  have h20i : ¬ (20 : Int) < (P.length : Int) := by omega
  have h1i : ¬ (P.length : Int) < 1 := by omega
  have h60i : ¬ (60 : Int) < (l.length : Int) := by omega
  have hww : IntKind.i64.wrap (wh : Int) = (wh : Int) := by rw [IntKind.wrap_i64]; omega
  have hwm : (wh : Int) % (P.length : Int) = ((wh % P.length : Nat) : Int) := by simp
  have hwi : wh % P.length < P.length := Nat.mod_lt _ (by omega)
  generalize wh % P.length = wi at *
  have hnz : ¬ (P.length : Int) = 0 := by omega
  obtain ⟨pw, hpw⟩ : ∃ pw, pw = (P.map (·.data.toList)).getD wi [] := ⟨_, rfl⟩
  have HR := Lib.hid hr
  have HR2 := Lib.hid hr2
  have HPS := Lib.hid hPs
  have HM := Lib.hid hm
  have HPW := Lib.hid hpw
  clear hr hr2 hPs hm hpw hT
  go_enter Tryz.func4, Tryz.ntmps4
  go_wp2_with fail
  refine HA.out.mono ?_
  rintro e w1 ⟨rfl, hb1⟩
  have HB1 := Lib.hid hb1
  have H0 : Hid (BuAt P w1 0 w1) := ⟨fun i _ h => absurd h (by omega), b0⟩
  clear hb1 HA
  obtain ⟨fr, hfr⟩ : ∃ fr, fr = bfr (P.map (·.data.toList)) wi (cturn (ftext pw) (8 * (2 + vsz pw.length) + a % (8 * (pw.length + 4))) pat 32) := ⟨_, rfl⟩
  have HFR := Lib.hid hfr
  clear hfr
  obtain ⟨TN, hTN⟩ : ∃ TN, TN = cturned (8 * fsize pw.length) (8 * (2 + vsz pw.length) + a % (8 * (pw.length + 4))) pat 32 := ⟨_, rfl⟩
  have HTN := Lib.hid hTN
  clear hTN
  go_wp2_with fail
  simp only [hwm]
  clear hwm
  go_loopg [12, 13, 48] P.length (fun gk sv tv ki wr => ∃ k : Nat, k ≤ P.length ∧ P.length - k ≤ gk ∧ ki = .int .i64 (k : Int) ∧ sv = .string (txt (bk fr k)) ∧ tv = .bool (decide (wi < k) && TN) ∧ (bk fr k).length ≤ 400 * k ∧ Hid (BuAt P w1 k wr))
  case atStart => exact ⟨0, Nat.zero_le _, by omega, rfl, rfl, by simp, Nat.le_refl _, H0⟩
  case round =>
    obtain ⟨k, hk, hgk, rfl, rfl, rfl, hbl, HS⟩ := hrel
    obtain ⟨hsm, hbel⟩ := HS.out
    by_cases hlt : k < P.length
    · obtain ⟨b, off, hAe, hb2, hc⟩ := (HR.out.below (bb HB1.out hbel)).at_ (k := k) (by rw [strs_length]; exact hlt)
      subst hAe
      rw [strs_at P k hlt] at hc
      have hpk := HPS.out P[k] (List.getElem_mem hlt)
      have HGK := Lib.hid (getD_pay hlt)
      have HSM := Lib.hid hsm
      have HBE := Lib.hid hbel
      have HNX : Hid (P[k].size ≤ 300 → ∀ i (h : i < P.length), i < k + 1 → P[i].size ≤ 300) := fun h i hi hik => by
        rcases Nat.lt_or_ge i k with h2 | h2
        · exact hsm i hi h2
        · obtain rfl : i = k := by omega
          exact h
      clear hsm hbel HS H0
      generalize hpe : P[k] = p at *
      clear hpe
      by_cases hbig : 65536 < p.size
      · have HW := Lib.hid (fun x => wrap_no p x hbig)
        generalize txt (bk fr k) = SK at *
        go_wp2_with fail
        refine (HW.out _).mono ?_
        rintro e w2 ⟨rfl, hb2'⟩
        have HB2 := Lib.hid (bb (bb HB1.out HBE.out) hb2')
        clear hb2' HW
        go_wp2_with fail
        go_ret
        exact ⟨rfl, HB2.out⟩
      · have HW := Lib.hid (fun x => wrap_any p x (by omega))
        by_cases h300 : 300 < p.size
        · have h3i : (300 : Int) < (p.size : Int) := by omega
          generalize txt (bk fr k) = SK at *
          generalize txt (ftext p.data.toList) = FT at *
          go_wp2_with fail
          refine (HW.out _).mono ?_
          rintro e w2 ⟨rfl, hb2'⟩
          have HB2 := Lib.hid (bb (bb HB1.out HBE.out) hb2')
          clear hb2' HW
          go_wp2_with fail
          go_ret
          exact ⟨rfl, HB2.out⟩
        · have h3i : ¬ (300 : Int) < (p.size : Int) := by omega
          have HN3 := Lib.hid (HNX.out (by omega))
          clear HNX HSM
          have hvl := vsz_le10 (n := p.size) (by omega)
          have hus : (txt (ftext p.data.toList)).size = fsize p.size := by rw [txt_size, ftext_length, len_list]
          have hfs : fsize p.size ≤ 400 := by unfold fsize; omega
          by_cases hkw : k = wi
          · have hd0 : (decide (wi < k) && TN) = false := by simp; omega
            rw [hd0]
            have hpe : pw = p.data.toList := by rw [HPW.out, ← hkw, HGK.out]
            have hpl : pw.length = p.size := by rw [hpe, len_list]
            have hfk : fr k = cturn (ftext p.data.toList) (8 * (2 + vsz p.size) + a % (8 * (p.size + 4))) pat 32 := by rw [HFR.out, bfr, if_pos hkw, hpl, hpe]
            have hTN : TN = cturned (8 * fsize p.size) (8 * (2 + vsz p.size) + a % (8 * (p.size + 4))) pat 32 := by rw [HTN.out, hpl]
            have hd1 : (decide (wi < k + 1) && TN) = cturned (8 * fsize p.size) (8 * (2 + vsz p.size) + a % (8 * (p.size + 4))) pat 32 := by rw [hTN]; simp; omega
            have hkb : ((k : Int) == (wi : Int)) = true := by rw [beq_iff_eq]; omega
            have hflen : (fr k).length = fsize p.size := by rw [hfk, cturn_length, ftext_length, len_list]
            have hbl2 : (bk fr (k + 1)).length ≤ 400 * (k + 1) := by
              rw [bk, List.length_append, hflen]
              omega
            have hadd : ∀ x : World, (Op.stringOp .add (txt (bk fr k)) (txt (fr k))).run Tryz.prog x = .ok (.string (txt (bk fr (k + 1)))) x := fun x => by
              have h1 : txt (bk fr (k + 1)) = txt (bk fr k) ++ txt (fr k) := by
                rw [bk]
                apply ByteArray.ext
                simp [txt, ByteArray.data_append]
              rw [h1]
              exact run_string_add_sum x _ _ (by rw [txt_size, txt_size, hflen]; omega)
            rw [hfk] at hadd
            have htl : (txt (ftext p.data.toList)).data.toList = ftext p.data.toList := rfl
            have hpu : p.size + 4 ≤ (txt (ftext p.data.toList)).size := by rw [hus]; unfold fsize; omega
            have hub : (txt (ftext p.data.toList)).size ≤ 5000 := by rw [hus]; unfold fsize; omega
            have hfr : 8 * (((txt (ftext p.data.toList)).size : Int) - (p.size : Int) - 4) = ((8 * (2 + vsz p.size) : Nat) : Int) := by rw [hus]; unfold fsize; omega
            have hat : (a : Int) % (8 * ((p.size : Int) + 4)) = ((a % (8 * (p.size + 4)) : Nat) : Int) := by simp
            have hal : a % (8 * (p.size + 4)) < 8 * (p.size + 4) := Nat.mod_lt _ (by omega)
            have hFl : 8 * (2 + vsz p.size) + a % (8 * (p.size + 4)) ≤ 40000 := by omega
            have hFu : 8 * (2 + vsz p.size) + 8 * (p.size + 4) = 8 * (txt (ftext p.data.toList)).size := by rw [hus]; unfold fsize; omega
            rw [← hus] at hd1
            rw [← htl] at hadd
            have HADD := Lib.hid hadd
            have HD1 := Lib.hid hd1
            clear hpe hpl hfk hTN hflen hadd hd1 hd0 hfs hvl HGK
            generalize txt (ftext p.data.toList) = u at hus HW htl hpu hub hfr hFu HADD HD1
            generalize a % (8 * (p.size + 4)) = A0 at hat hal hFl HADD HD1
            generalize 8 * (2 + vsz p.size) = F0 at hfr hFl hFu HADD HD1
            have hu0 : u.size ≠ 0 := by omega
            have hFF : (F0 : Int) + (A0 : Int) = ((F0 + A0 : Nat) : Int) := by omega
            have hfl : F0 + A0 < 8 * u.size := by omega
            generalize F0 + A0 = F at HADD HD1 hFl hFF hfl
            have hwa : IntKind.i64.wrap (a : Int) = (a : Int) := by rw [IntKind.wrap_i64]; omega
            obtain ⟨SK1, hS1⟩ : ∃ SK1, SK1 = txt (bk fr (k + 1)) := ⟨_, rfl⟩
            rw [← hS1] at HADD
            have HS1 := Lib.hid hS1
            generalize txt (bk fr k) = SK at *
            clear hus htl hS1 hkw
            go_wp2_with fail
            refine (HW.out _).mono ?_
            rintro e w4 ⟨rfl, hb4⟩
            have HBW := Lib.hid (bb HBE.out hb4)
            clear hb4 HW
            go_wp2_with fail
            have hcv := run_bytes_of_string (P := Tryz.prog) w4 9 42 5 u Tryz.underlying9 Tryz.underlying42 Tryz.underlying5
            have hrow := RowAt.made w4 5 u (grownCap w4 u.size 0 5)
            have hge := grownCap_ge w4 u.size 0 5
            have hwb : Below w4.heap.size w4 (w4.drew.alloc (.cells (bytesRow u (grownCap w4 u.size 0 5)) 5 ((bytesRow u (grownCap w4 u.size 0 5)).size, (bytesRow u (grownCap w4 u.size 0 5)).size + 1))) := ba (bd b0) _
            generalize grownCap w4 u.size 0 5 = cap at hcv hrow hge hwb
            generalize w4.drew.alloc (.cells (bytesRow u cap) 5 ((bytesRow u cap).size, (bytesRow u cap).size + 1)) = W at hcv hrow hwb
            have HROW := Lib.hid hrow
            have HWB := Lib.hid hwb
            have hul : u.data.toList.length = u.size := len_list u
            clear hrow hwb
            rw [hcv]
            clear hcv
            obtain ⟨G0, hG0⟩ : ∃ G0, G0 = gk := ⟨_, rfl⟩
            rw [← hG0] at hgk
            go_wp2_with fail
            go_loopg [13, 86] 32 (fun gk tt kk wr => ∃ i : Nat, i ≤ 32 ∧ 32 - i ≤ gk ∧ kk = .int .i64 (i : Int) ∧ tt = .bool (cturned (8 * u.size) F pat i) ∧ Hid (RowAt wr w4.heap.size (cturn u.data.toList F pat i)) ∧ Hid (Below w4.heap.size w4 wr))
            case atStart => exact ⟨0, by omega, by omega, rfl, rfl, HROW.out, HWB.out⟩
            case round =>
              obtain ⟨i, hi, hgi, rfl, rfl, HR, HW⟩ := hrel
              by_cases hi32 : i < 32
              · have hpd : (pat : Int) / 2 ^ i = ((pat / 2 ^ i : Nat) : Int) := by simp
                have hpl : pat / 2 ^ i < 4294967296 := Nat.lt_of_le_of_lt (Nat.div_le_self _ _) hpat
                have hand : bits .and .u32 ((pat : Int) / 2 ^ i) 1 = ((pat / 2 ^ i % 2 : Nat) : Int) := by rw [hpd, ← nat_mask1]; exact u32_and_nat _ 1 hpl (by omega)
                clear hpd hpl
                have hct : ∀ b, cturned (8 * u.size) F pat (i + 1) = b ↔ (if pat / 2 ^ i % 2 = 1 ∧ F + i < 8 * u.size then true else cturned (8 * u.size) F pat i) = b := fun _ => Iff.rfl
                have hcl : ∀ b, cturn u.data.toList F pat (i + 1) = b ↔ (if pat / 2 ^ i % 2 = 1 ∧ F + i < 8 * u.data.toList.length then cflip (cturn u.data.toList F pat i) (F + i) else cturn u.data.toList F pat i) = b := fun _ => Iff.rfl
                have HCT := Lib.hid hct
                have HCL := Lib.hid hcl
                clear hct hcl
                by_cases hbit : pat / 2 ^ i % 2 = 1
                · rw [hbit] at hand
                  have HBIT := Lib.hid hbit
                  clear hbit
                  by_cases hkk : F + i < 8 * u.size
                  · have hcl : (cturn u.data.toList F pat i).length = u.size := by rw [cturn_length, hul]
                    have hb := HR.out.at_ (j := (F + i) / 8) (by omega)
                    have hq8 : ((F : Int) + (i : Int)) / 8 = (((F + i) / 8 : Nat) : Int) := by omega
                    have hm8 : ((F : Int) + (i : Int)) % 8 = (((F + i) % 8 : Nat) : Int) := by omega
                    have hk8 : (F + i) / 8 < u.size := by omega
                    have hl8 : (F + i) % 8 < 8 := by omega
                    obtain ⟨hb1, hb2⟩ := hb
                    have hgl := HR.out.1
                    have hfl : cflip (cturn u.data.toList F pat i) (F + i) = (cturn u.data.toList F pat i).set ((F + i) / 8) ((cturn u.data.toList F pat i).getD ((F + i) / 8) 0 ^^^ UInt8.ofNat (2 ^ ((F + i) % 8))) := rfl
                    generalize (F + i) / 8 = K at hq8 hk8 hb1 hb2 hfl
                    generalize (F + i) % 8 = M at hm8 hl8 hfl
                    generalize (cturn u.data.toList F pat i).getD K 0 = By at hb1 hfl
                    have HX := Lib.hid (bit_flip By M hl8)
                    have HFL := Lib.hid hfl
                    have HCL2 := Lib.hid hcl
                    clear hfl hcl
                    go_wp2_with fail
                    go_region
                    go_wp2_with fail
                    go_roundg (32 - (i + 1))
                    case measure => omega
                    case rel =>
                      refine ⟨i + 1, by omega, Nat.le_refl _, by go_num, ?_, ?_, bd (bs HW.out (by simp) _)⟩
                      · rw [(HCT.out _).2 (if_pos ⟨HBIT.out, hkk⟩)]
                      · rw [(HCL.out _).2 (if_pos ⟨HBIT.out, by rw [hul]; exact hkk⟩), HFL.out, HX.out]
                        exact HR.out.set (by rw [HCL2.out]; exact hk8) _
                  · go_wp2_with fail
                    go_roundg (32 - (i + 1))
                    case measure => omega
                    case rel =>
                      refine ⟨i + 1, by omega, Nat.le_refl _, by go_num, ?_, ?_, HW⟩
                      · rw [(HCT.out _).2 (if_neg fun h => hkk h.2)]
                      · rw [(HCL.out _).2 (if_neg fun h => hkk (by rw [hul] at h; exact h.2))]
                        exact HR
                · rw [show pat / 2 ^ i % 2 = 0 by omega] at hand
                  have HBIT := Lib.hid hbit
                  clear hbit
                  go_wp2_with fail
                  go_roundg (32 - (i + 1))
                  case measure => omega
                  case rel =>
                    refine ⟨i + 1, by omega, Nat.le_refl _, by go_num, ?_, ?_, HW⟩
                    · rw [(HCT.out _).2 (if_neg fun h => HBIT.out h.1)]
                    · rw [(HCL.out _).2 (if_neg fun h => HBIT.out h.1)]
                      exact HR
              · obtain rfl : i = 32 := by omega
                have hl32 : (cturn u.data.toList F pat 32).length = u.size := by rw [cturn_length, hul]
                have hvs : (txt (cturn u.data.toList F pat 32)).size = u.size := by rw [txt_size, hl32]
                have c1 : (convert 42 9 (.slice (some ⟨w4.heap.size, 0, none⟩) u.size cap)).run Tryz.prog wr = .ok (.string (txt (cturn u.data.toList F pat 32))) wr := by
                  have := HR.out.back (P := Tryz.prog) 42 9 5 0 u.size cap Tryz.underlying42 Tryz.underlying5 Tryz.underlying9 (by omega)
                  rw [List.drop_zero, List.take_of_length_le (by omega)] at this
                  exact this
                have hadd := HADD.out
                have hd1 := HD1.out
                have HD2 := Lib.hid hd1
                have HB9 := Lib.hid (bb HBW.out HW.out)
                clear hl32 hvs hd1 HADD HD1
                generalize txt (cturn u.data.toList F pat 32) = V1 at c1 hadd
                generalize cturned (8 * u.size) F pat 32 = T at HD2 ⊢
                go_wp2_with fail
                go_roundg (P.length - (k + 1))
                case measure => omega
                case rel => exact ⟨k + 1, by omega, Nat.le_refl _, by go_num, by rw [HS1.out], by rw [HD2.out], hbl2, HN3.out, HB9.out⟩
          · have hkb : ((k : Int) == (wi : Int)) = false := by rw [beq_eq_false_iff_ne]; omega
            have hfk : fr k = ftext p.data.toList := by rw [HFR.out, bfr, if_neg hkw, HGK.out]
            have hadd : ∀ x : World, (Op.stringOp .add (txt (bk fr k)) (txt (ftext p.data.toList))).run Tryz.prog x = .ok (.string (txt (bk fr (k + 1)))) x := fun x => by
              have h1 : txt (bk fr (k + 1)) = txt (bk fr k) ++ txt (ftext p.data.toList) := by
                rw [bk, hfk]
                apply ByteArray.ext
                simp [txt, ByteArray.data_append]
              rw [h1]
              exact run_string_add_sum x _ _ (by rw [hus, txt_size]; omega)
            have hbl2 : (bk fr (k + 1)).length ≤ 400 * (k + 1) := by
              rw [bk, List.length_append, hfk, ftext_length, len_list]
              omega
            have hdec : (decide (wi < k + 1) && TN) = (decide (wi < k) && TN) := by
              congr 1
              rw [Bool.eq_iff_iff]
              simp
              omega
            have HDEC := Lib.hid hdec
            clear hfk hdec hus hfs hvl HGK hkw
            generalize txt (ftext p.data.toList) = FT at *
            obtain ⟨SK1, hS1⟩ : ∃ SK1, SK1 = txt (bk fr (k + 1)) := ⟨_, rfl⟩
            rw [← hS1] at hadd
            have HS1 := Lib.hid hS1
            clear hS1
            generalize txt (bk fr k) = SK at *
            go_wp2_with fail
            refine (HW.out _).mono ?_
            rintro e w2 ⟨rfl, hb2'⟩
            have HB2 := Lib.hid (bb HBE.out hb2')
            clear hb2' HW
            go_wp2_with fail
            go_roundg (P.length - (k + 1))
            case measure => omega
            case rel => exact ⟨k + 1, by omega, Nat.le_refl _, by go_num, by rw [HS1.out], by rw [HDEC.out], hbl2, HN3.out, HB2.out⟩
    · obtain rfl : k = P.length := by omega
      have hbr : Below w.heap.size w wr := bb HB1.out hbel
      have hPl' : ∀ q ∈ P.map (·.data.toList), q.length ≤ 300 := fun q hq => by
        obtain ⟨p, hp, rfl⟩ := List.mem_map.1 hq
        obtain ⟨i, hi, rfl⟩ := List.getElem_of_mem hp
        have := hsm i hi hi
        rw [len_list]
        exact this
      have hbf := burst_fof (P.map (·.data.toList)) wi (by rw [List.length_map]; exact hwi) hPl' (a % (8 * (pw.length + 4))) pat (by rw [← HPW.out]; exact Nat.le_of_lt (Nat.mod_lt _ (by omega))) hpat
      rw [← HPW.out, ← HFR.out, ← HTN.out, List.length_map] at hbf
      have hfe := fed_any (txt (bk fr P.length)) B cap2 l wr (by rw [txt_size]; omega) (HR2.out.below hbr) (by omega) HM.out
      rw [txt_list] at hfe
      unfold FeEnd at hfe
      rw [hbf] at hfe
      have HFE := Lib.hid hfe
      have HBR := Lib.hid hbr
      have HRW := Lib.hid (HR.out.below hbr)
      have hdd : (decide (wi < P.length) && TN) = TN := by simp [hwi]
      rw [hdd]
      have hmt : ∀ Q : List ByteArray, (Q.map (·.data.toList)).map txt = Q := fun Q => by
        rw [List.map_map]
        conv => rhs; rw [← List.map_id Q]
        apply List.map_congr_left
        intro b _
        exact txt_eta b
      have hwc : wi ≤ cap := by omega
      have hwci : (wi : Int) ≤ (cap : Int) := by omega
      clear hbf hfe hbr hbel hsm hPl' hdd HS H0 HR HR2 HPS HM HPW HFR HTN hbl
      generalize txt (bk fr P.length) = SK at *
      cases TN with
      | true =>
        simp only [if_true] at HFE
        have hlt2 : ((P.map (·.data.toList)).take wi).length = wi := by rw [List.length_take, List.length_map]; omega
        rw [hlt2, ← List.map_take, hmt] at HFE
        have hpl : (P.take wi).length = wi := by rw [List.length_take]; omega
        have HEQ : Hid (∀ x A9 c9, Rd x A9 (strs (P.take wi)) → Rd x A (strs P) → Calls Tryz.prog 18 #[.slice A9 wi c9, .slice A wi cap] x fun e w' => e = .returned (.bool true) ∧ Below x.heap.size x w') := fun x A9 c9 h1 h2 => by
          have h3 : Rd x A (strs (P.take wi)) := rd_left (ys := strs (P.drop wi)) (by
            have : strs P = strs (P.take wi) ++ strs (P.drop wi) := by rw [strs, strs, strs, ← List.map_append, List.take_append_drop]
            rw [← this]
            exact h2)
          have := equstr A9 A c9 cap (P.take wi) x h1 h3 (by omega)
          rw [hpl] at this
          exact this
        clear hlt2 hpl hmt
        go_wp2_with fail
        refine HFE.out.mono ?_
        rintro e w5 ⟨A9, c9, rfl, hrd, hc9, hb5⟩
        have HE2 := Lib.hid (HEQ.out w5 A9 c9 hrd (HRW.out.below hb5))
        have HB5 := Lib.hid (bb HBR.out hb5)
        clear hrd hb5 HEQ HFE
        go_wp2_with fail
        refine HE2.out.mono ?_
        rintro e w6 ⟨rfl, hb6⟩
        have HB6 := Lib.hid (bb HB5.out hb6)
        clear hb6 HE2
        go_wp2_with fail
        go_ret
        exact ⟨rfl, HB6.out⟩
      | false =>
        simp only [Bool.false_eq_true, if_false] at HFE
        rw [hmt, List.length_map] at HFE
        have HEQ : Hid (∀ x A9 c9, Rd x A9 (strs P) → Rd x A (strs P) → Calls Tryz.prog 18 #[.slice A9 P.length c9, .slice A P.length cap] x fun e w' => e = .returned (.bool true) ∧ Below x.heap.size x w') := fun x A9 c9 h1 h2 =>
          equstr A9 A c9 cap P x h1 h2 (by omega)
        clear hmt
        go_wp2_with fail
        refine HFE.out.mono ?_
        rintro e w5 ⟨A9, c9, rfl, hrd, hc9, hb5⟩
        have HE2 := Lib.hid (HEQ.out w5 A9 c9 hrd (HRW.out.below hb5))
        have HB5 := Lib.hid (bb HBR.out hb5)
        clear hrd hb5 HEQ HFE
        go_wp2_with fail
        refine HE2.out.mono ?_
        rintro e w6 ⟨rfl, hb6⟩
        have HB6 := Lib.hid (bb HB5.out hb6)
        clear hb6 HE2
        go_wp2_with fail
        go_ret
        exact ⟨rfl, HB6.out⟩
end Go.Proofs.YtgidfnhfgiehjaaGreatDoor
end

section
namespace Go.Proofs.YtgidfnhfgiehjaaGreatDoor
open Go.Lib
set_option maxRecDepth 100000
theorem accept_eq : (Rows.laid_unicode_utf8_acceptRanges : DataW Unit) = Lib.acceptData := by kernel_rfl
theorem tabs_of_laid {W : World} (h : laidMetH Tryz.prog [("unicode/utf8.acceptRanges", Rows.laid_unicode_utf8_acceptRanges), ("unicode/utf8.first", Rows.laid_unicode_utf8_first)] W) : Tabs W := by
  have h4 := Lib.laidMet.reads h (.head _)
  have h3 := Lib.laidMet.reads h (.tail _ (.head _))
  rw [accept_eq] at h4
  rw [show Rows.laid_unicode_utf8_first = Lib.firstData from Pinned.utf8First_eq] at h3
  exact utf8Tabs_of_readsT (U8Types.of196 Tryz.lays196) ⟨by kernel_rfl, by kernel_rfl, by kernel_rfl, by kernel_rfl, by kernel_rfl, by kernel_rfl, by kernel_rfl⟩ h3 h4
/-- The settled world, the two variables holding what their initialisers lay. -/
noncomputable def laidWorld (os : Os) : World :=
  let w0 := World.holding Tryz.prog os ⟨#[], #[], []⟩
  let put (h : Array Obj) (g : Nat) (cs : Array Value) : Array Obj := h.modify g fun
    | .cells _ t frozen => .cells cs t frozen
    | o => o
  let h1 := put w0.heap (Tryz.lays196_ren.g 3) (Lib.firstTab.map fun z => Value.int .u8 z).toArray
  let h2 := put h1 (Tryz.lays196_ren.g 4) ((List.range 16).flatMap fun i => [Value.int .u8 (Lib.accLo i), Value.int .u8 (Lib.accHi i)]).toArray
  { w0 with heap := h2 }
theorem laid_met (os : Os) (args : Array Value) : laidMet Tryz.prog [("unicode/utf8.acceptRanges", Rows.laid_unicode_utf8_acceptRanges), ("unicode/utf8.first", Rows.laid_unicode_utf8_first)] ((laidWorld os).forCall (fun _ _ => 0) ⟨#[], args, []⟩).memory :=
  (LaidIn.of_run (l := [("unicode/utf8.acceptRanges", Rows.laid_unicode_utf8_acceptRanges), ("unicode/utf8.first", Rows.laid_unicode_utf8_first)]) [Tryz.lays196_ren.g 4, Tryz.lays196_ren.g 3] 8 (by kernel_rfl) (by kernel_rfl) (by kernel_rfl) (by kernel_rfl)).met
theorem own : ownKnob Tryz.prog.godebug = none := by kernel_rfl
theorem laidOut : laidOutB Tryz.prog = true := by kernel_rfl
end Go.Proofs.YtgidfnhfgiehjaaGreatDoor
end
