/-
  Texts of the proof, joined: Frame Frame2 Ref05 Frame3 CursorLaw VarintLaw PlainMore VarintLaw2 Zigzag ZigzagLaw CrcLaw FrameLaw PlainTurn FrameBack Deframe Deframe2 PlainFeed. Conditions: as each names.
-/
import Derived.Test.YtgidfnhfgiehjaaGreatDoorXTopOneah
import Derived.Test.YtgidfnhfgiehjaaGreatDoorXTopOneaa
import Derived.Test.YtgidfnhfgiehjaaGreatDoorXTopOneac
import Derived.Test.YtgidfnhfgiehjaaGreatDoorXTopOneab

section
namespace Go.Proofs.YtgidfnhfgiehjaaGreatDoor
open Go.RowKit Go.PM
set_option maxRecDepth 100000
theorem fsize_yes (n : Nat) (w : World) (h : n ≤ 65536) :
    Calls Tryz.prog 74 #[.int .i64 (n : Int)] w fun e w' => e = .returned (.int .i64 (fsize n : Int)) ∧ Below w.heap.size w w' := by
  have h10 := vsz_le10 (n := n) (by omega)
  have hf : ((fsize n : Nat) : Int) = 2 + (vsz n : Int) + (n : Int) + 4 := by unfold fsize; omega
  have HF := Lib.hid hf
  clear hf
  go_enter Tryz.func74, Tryz.ntmps74
  go_wp2_with fail
  refine (size_any n _ (by unfold In64; omega)).mono ?_
  rintro e w1 ⟨rfl, rfl⟩
  go_wp2
  go_ret
  rw [HF.out]
  exact ⟨rfl, b0⟩
theorem wrap_any (p : ByteArray) (w : World) (h : p.size ≤ 65536) :
    Calls Tryz.prog 16 #[.string p] w fun e w' => e = .returned (.tuple #[.string (txt (ftext p.data.toList)), .int .i64 0]) ∧ Below w.heap.size w w' := by
  have h10 := vsz_le10 (n := p.size) (by omega)
  have hvs : (txt (vput p.size)).size = vsz p.size := by rw [txt_size, vput_length]
  have hP : ∀ x : World, Calls Tryz.prog 50 #[.int .u32 (csum p.data.toList : Int)] x fun e w' => e = .returned (.string (txt (cput (csum p.data.toList)))) ∧ Below x.heap.size x w' := fun x => cput_any _ x (csum_lt _)
  have hS : ∀ x : World, Calls Tryz.prog 51 #[.slice (some ⟨x.heap.size, 0, none⟩) 1 1] (x.alloc (.cells #[.string p] 9)) fun e w' => e = .returned (.int .u32 (csum p.data.toList : Int)) ∧ Below (x.alloc (.cells #[.string p] 9)).heap.size (x.alloc (.cells #[.string p] 9)) w' := fun x => sum_one p _ _ (BlkAt.made _ _ _) (by omega)
  have hcs : (txt (cput (csum p.data.toList))).size = 4 := rfl
  have hf : txt (ftext p.data.toList) = ByteArray.mk #[81, 70] ++ txt (vput p.size) ++ p ++ txt (cput (csum p.data.toList)) := by
    apply ByteArray.ext
    apply Array.toList_inj.1
    simp only [ByteArray.data_append, Array.toList_append, txt_list, ftext, len_list]
  rw [hf]
  generalize csum p.data.toList = C at hP hS hcs ⊢
  generalize txt (cput C) = Q at hP hcs ⊢
  have HP := Lib.hid hP
  have HS := Lib.hid hS
  clear hP hS hf
  have hV : ∀ x : World, Calls Tryz.prog 35 #[.int .u64 (p.size : Int)] x fun e w' => e = .returned (.string (txt (vput p.size))) ∧ Below x.heap.size x w' := fun x => put_any _ x (by unfold In64; omega)
  generalize txt (vput p.size) = V at hV hvs ⊢
  have HV := Lib.hid hV
  clear hV
  go_enter Tryz.func16, Tryz.ntmps16
  go_wp2_with fail
  refine (HV.out _).mono ?_
  rintro e w1 ⟨rfl, hb1⟩
  go_wp2_with fail
  refine (HS.out _).mono ?_
  rintro e w2 ⟨rfl, hb2⟩
  go_wp2_with fail
  refine (HP.out _).mono ?_
  rintro e w3 ⟨rfl, hb3⟩
  go_wp2
  go_ret2
  exact ⟨rfl, bb (bb (ba hb1 _) hb2) hb3⟩
def Mk (l : List UInt8) (i : Nat) : Prop := i = 0 ∨ (i = 1 ∧ 1 ≤ l.length ∧ l.getD 0 0 = 81) ∨ (i = 2 ∧ fmark l = 0)
theorem marked_any (s : ByteArray) (w : World) (hs : s.size ≤ 9223372036854775807) :
    Calls Tryz.prog 72 #[.string s] w fun e w' => e = .returned (.int .i64 (fmark s.data.toList : Int)) ∧ Below w.heap.size w w' := by
  have hk0 : ((ByteArray.mk #[81, 70])[0]'(by decide)).toNat = 81 := rfl
  have hk1 : ((ByteArray.mk #[81, 70])[1]'(by decide)).toNat = 70 := rfl
  go_enter Tryz.func72, Tryz.ntmps72
  go_wp2
  go_loopw [4] (fun k wr => ∃ i : Nat, k = .int .i64 (i : Int) ∧ Mk s.data.toList i ∧ Below w.heap.size w wr) (fun k _ => 2 - (intOf k).toNat)
  case atStart => exact ⟨0, rfl, .inl rfl, b0⟩
  case round =>
    obtain ⟨i, rfl, hm, hb⟩ := hrel
    have HB := Lib.hid hb
    clear hb
    rcases hm with rfl | ⟨rfl, h1, h0⟩ | ⟨rfl, h2⟩
    · by_cases hz : s.size = 0
      · have hz' : ((0 : Int) == (s.size : Int)) = true := by rw [beq_iff_eq]; omega
        have hfm : fmark s.data.toList = 1 := by unfold fmark; rw [if_pos (by rw [len_list]; exact hz)]
        clear hz
        go_wp2
        go_ret
        rw [hfm]
        exact ⟨rfl, HB.out⟩
      · have hp : 0 < s.size := by omega
        have hz' : ((0 : Int) == (s.size : Int)) = false := by rw [beq_eq_false_iff_ne]; omega
        have hg := getD_at s 0 hp
        by_cases h8 : s[0].toNat = 81
        · have hn : ((s[0].toNat : Int) != 81) = false := by rw [bne_eq_false_iff_eq]; omega
          have hmk : Mk s.data.toList 1 := .inr (.inl ⟨rfl, by rw [len_list]; omega, by rw [hg]; exact UInt8.toNat_inj.1 (by rw [h8]; rfl)⟩)
          have HM := Lib.hid hmk
          clear hmk hg
          go_wp2
          go_quiet (fail)
          go_wp2
          go_roundw
          case rel => exact ⟨1, by go_num, HM.out, bn HB.out _⟩
          case measure => simp [intOf]
        · have hn : ((s[0].toNat : Int) != 81) = true := by rw [bne_iff_ne]; omega
          have hfm : fmark s.data.toList = 5 := by
            unfold fmark
            rw [if_neg (by rw [len_list]; exact hz), if_pos (by rw [hg]; intro e; exact h8 (by rw [e]; rfl))]
          have HF := Lib.hid hfm
          clear hfm hg
          go_wp2
          go_quiet (fail)
          go_wp2
          go_ret
          rw [HF.out]
          exact ⟨rfl, bn HB.out _⟩
    · rw [len_list] at h1
      by_cases hz : s.size = 1
      · have hfm : fmark s.data.toList = 1 := by
          unfold fmark
          rw [if_neg (by rw [len_list]; omega), if_neg (by rw [h0]; simp), if_pos (by rw [len_list]; exact hz)]
        have HF := Lib.hid hfm
        have hz' : ((1 : Int) == (s.size : Int)) = true := by rw [beq_iff_eq]; omega
        clear hfm h0 hz
        go_wp2
        go_ret
        rw [HF.out]
        exact ⟨rfl, HB.out⟩
      · have hp : 1 < s.size := by omega
        have hz' : ((1 : Int) == (s.size : Int)) = false := by rw [beq_eq_false_iff_ne]; omega
        have hg := getD_at s 1 hp
        by_cases h8 : s[1].toNat = 70
        · have hn : ((s[1].toNat : Int) != 70) = false := by rw [bne_eq_false_iff_eq]; omega
          have hmk : Mk s.data.toList 2 := .inr (.inr ⟨rfl, by
            unfold fmark
            rw [if_neg (by rw [len_list]; omega), if_neg (by rw [h0]; simp), if_neg (by rw [len_list]; exact hz), if_neg (by rw [hg]; intro e; exact e (UInt8.toNat_inj.1 (by rw [h8]; rfl)))]⟩)
          have HM := Lib.hid hmk
          clear hmk hg h0 h1 hz
          go_wp2
          go_quiet (fail)
          go_wp2
          go_roundw
          case rel => exact ⟨2, by go_num, HM.out, bn HB.out _⟩
          case measure => simp [intOf]
        · have hn : ((s[1].toNat : Int) != 70) = true := by rw [bne_iff_ne]; omega
          have hfm : fmark s.data.toList = 5 := by
            unfold fmark
            rw [if_neg (by rw [len_list]; omega), if_neg (by rw [h0]; simp), if_neg (by rw [len_list]; exact hz), if_pos (by rw [hg]; intro e; exact h8 (by rw [e]; rfl))]
          have HF := Lib.hid hfm
          have hp2 : (1 : Int) < (s.size : Int) := by omega
          have hp3 : s.size ≠ 0 := by omega
          clear hfm hg h0 h1 hz
          go_wp2
          go_quiet (fail)
          go_wp2
          go_ret
          rw [HF.out]
          exact ⟨rfl, bn HB.out _⟩
    · have HF := Lib.hid h2
      clear h2
      go_wp2
      go_ret
      rw [HF.out]
      exact ⟨rfl, HB.out⟩
end Go.Proofs.YtgidfnhfgiehjaaGreatDoor
end

section
namespace Go.Proofs.YtgidfnhfgiehjaaGreatDoor
open Go.RowKit Go.PM
set_option maxRecDepth 100000
theorem fparse_mark {l : List UInt8} (h : fmark l ≠ 0) : fparse l = ([], 0, fmark l) := by unfold fparse; rw [if_pos h]
theorem fparse_body {l : List UInt8} (h : fmark l = 0) : fparse l = fbody l := by unfold fparse; rw [if_neg (by omega)]
theorem fmark_two {l : List UInt8} (h : fmark l = 0) : 2 ≤ l.length := by
  rcases fmark_cases l with ⟨_, r, rfl⟩ | ⟨h1, _⟩ | h1
  · simp
  · omega
  · omega
theorem vpos {l : List UInt8} (h : (vget l).2.2 = 0) : (vget l).2.1 = vsz (vget l).1 := by
  obtain ⟨_, k2, _, _, k5⟩ := vget_ok h
  rw [← vput_length, k5, List.length_take]
  omega
theorem fbody_of (l : List UInt8) (n k g : Nat) (hV : vget (l.drop 2) = (n, k, g)) : fbody l =
    if g ≠ 0 then ([], 0, g) else if 65536 < n then ([], 0, 4) else if (l.drop (2 + k)).length < n + 4 then ([], 0, 1)
    else if cget (((l.drop (2 + k)).drop n).take 4) ≠ csum ((l.drop (2 + k)).take n) then ([], 0, 6) else ((l.drop (2 + k)).take n, fsize n, 0) := by
  unfold fbody
  simp only [hV]
theorem parse_any (s : ByteArray) (w : World) (hs : s.size ≤ 9223372036854775807) :
    Calls Tryz.prog 29 #[.string s] w fun e w' =>
      e = .returned (.tuple #[.string (txt (fparse s.data.toList).1), .int .i64 ((fparse s.data.toList).2.1 : Int), .int .i64 ((fparse s.data.toList).2.2 : Int)]) ∧ Below w.heap.size w w' := by
  have HM : Hid (∀ x : World, Calls Tryz.prog 72 #[.string s] x fun e w' => e = .returned (.int .i64 (fmark s.data.toList : Int)) ∧ Below x.heap.size x w') := fun x => marked_any s x hs
  by_cases hm : fmark s.data.toList = 0
  · rw [fparse_body hm]
    rw [hm] at HM
    have h2 := fmark_two hm
    rw [len_list] at h2
    generalize hV : vget (s.data.toList.drop 2) = V
    obtain ⟨n, k, g⟩ := V
    have hbo := fbody_of _ n k g hV
    have HG : Hid (∀ x : World, Calls Tryz.prog 36 #[.string (s.extract 2 s.size)] x fun e w' => e = .returned (.tuple #[.int .u64 (n : Int), .int .i64 (k : Int), .int .i64 (g : Int)]) ∧ Below x.heap.size x w') := fun x => by
      have := get_any (s.extract 2 s.size) x (by simp; omega)
      rw [ext_rest, hV] at this
      exact this
    by_cases hg : g = 0
    · subst hg
      have hok := vget_ok (s := s.data.toList.drop 2) (by rw [hV])
      have hvp := vpos (l := s.data.toList.drop 2) (by rw [hV])
      rw [hV] at hok hvp
      obtain ⟨k1, k2, k3, k4, _⟩ := hok
      simp only at k1 k2 k3 k4 hvp
      rw [List.length_drop, len_list] at k2
      rw [if_neg (by omega)] at hbo
      clear hV hm
      by_cases hn : 65536 < n
      · rw [if_pos hn] at hbo
        rw [hbo]
        clear hbo hvp
        go_enter Tryz.func29, Tryz.ntmps29
        go_wp2_with fail
        refine (HM.out _).mono ?_
        rintro e w1 ⟨rfl, hb1⟩
        go_wp2_with fail
        refine (HG.out _).mono ?_
        rintro e w2 ⟨rfl, hb2⟩
        go_wp2
        go_ret3
        exact ⟨rfl, bb hb1 hb2⟩
      · rw [if_neg hn] at hbo
        have hbl : (s.data.toList.drop (2 + k)).length = s.size - (2 + k) := by rw [List.length_drop, len_list]
        have hks : 2 + k ≤ s.size := by omega
        clear k2 k3 k4
        by_cases hsh : s.size - (2 + k) < n + 4
        · rw [if_pos (by rw [hbl]; exact hsh)] at hbo
          rw [hbo]
          clear hbo hvp hbl
          go_enter Tryz.func29, Tryz.ntmps29
          go_wp2_with fail
          refine (HM.out _).mono ?_
          rintro e w1 ⟨rfl, hb1⟩
          go_wp2_with fail
          refine (HG.out _).mono ?_
          rintro e w2 ⟨rfl, hb2⟩
          go_wp2
          go_ret3
          exact ⟨rfl, bb hb1 hb2⟩
        · rw [if_neg (by rw [hbl]; exact hsh)] at hbo
          have hP : ((s.extract (2 + k) s.size).extract 0 n).data.toList = (s.data.toList.drop (2 + k)).take n := by rw [ext_list, ext_rest]; simp
          have hQ : ((s.extract (2 + k) s.size).extract n (n + 4)).data.toList = ((s.data.toList.drop (2 + k)).drop n).take 4 := by rw [ext_list, ext_rest]; simp
          rw [← hP, ← hQ] at hbo
          have hqs : ((s.extract (2 + k) s.size).extract n (n + 4)).size = 4 := by simp; omega
          have hps : ((s.extract (2 + k) s.size).extract 0 n).size ≤ 65536 := by simp; omega
          have hC : ∀ x : World, Calls Tryz.prog 73 #[.string ((s.extract (2 + k) s.size).extract 0 n), .string ((s.extract (2 + k) s.size).extract n (n + 4))] x fun e w' => e = .returned (.bool (decide (cget ((s.extract (2 + k) s.size).extract n (n + 4)).data.toList = csum ((s.extract (2 + k) s.size).extract 0 n).data.toList))) ∧ Below x.heap.size x w' := fun x => check_any _ _ x (by omega) hqs
          have HC := Lib.hid hC
          have HSZ : Hid (∀ x : World, Calls Tryz.prog 74 #[.int .i64 (n : Int)] x fun e w' => e = .returned (.int .i64 (fsize n : Int)) ∧ Below x.heap.size x w') := fun x => fsize_yes n x (by omega)
          clear hC hP hQ hvp hbl hqs hps
          by_cases hck : cget ((s.extract (2 + k) s.size).extract n (n + 4)).data.toList = csum ((s.extract (2 + k) s.size).extract 0 n).data.toList
          · rw [if_neg (by simp only [ne_eq, Decidable.not_not]; exact hck)] at hbo
            rw [hbo]
            rw [decide_eq_true hck] at HC
            have HX := Lib.hid (txt_of ((s.extract (2 + k) s.size).extract 0 n))
            clear hbo hck
            go_enter Tryz.func29, Tryz.ntmps29
            go_wp2_with fail
            refine (HM.out _).mono ?_
            rintro e w1 ⟨rfl, hb1⟩
            go_wp2_with fail
            refine (HG.out _).mono ?_
            rintro e w2 ⟨rfl, hb2⟩
            go_wp2_with fail
            refine (HC.out _).mono ?_
            rintro e w3 ⟨rfl, hb3⟩
            go_wp2_with fail
            refine (HSZ.out _).mono ?_
            rintro e w4 ⟨rfl, hb4⟩
            go_wp2
            go_ret3
            rw [HX.out]
            exact ⟨rfl, bb (bb (bb hb1 hb2) hb3) hb4⟩
          · rw [if_pos hck] at hbo
            rw [hbo]
            rw [decide_eq_false hck] at HC
            clear hbo hck
            go_enter Tryz.func29, Tryz.ntmps29
            go_wp2_with fail
            refine (HM.out _).mono ?_
            rintro e w1 ⟨rfl, hb1⟩
            go_wp2_with fail
            refine (HG.out _).mono ?_
            rintro e w2 ⟨rfl, hb2⟩
            go_wp2_with fail
            refine (HC.out _).mono ?_
            rintro e w3 ⟨rfl, hb3⟩
            go_wp2
            go_ret3
            exact ⟨rfl, bb (bb hb1 hb2) hb3⟩
    · rw [if_pos hg] at hbo
      rw [hbo]
      have hgb : ((g : Int) != 0) = true := by rw [bne_iff_ne]; omega
      clear hbo hV hm hg
      go_enter Tryz.func29, Tryz.ntmps29
      go_wp2_with fail
      refine (HM.out _).mono ?_
      rintro e w1 ⟨rfl, hb1⟩
      go_wp2_with fail
      refine (HG.out _).mono ?_
      rintro e w2 ⟨rfl, hb2⟩
      go_wp2
      go_ret3
      exact ⟨rfl, bb hb1 hb2⟩
  · rw [fparse_mark hm]
    generalize fmark s.data.toList = m at hm HM
    have hmb : ((m : Int) != 0) = true := by rw [bne_iff_ne]; omega
    clear hm
    go_enter Tryz.func29, Tryz.ntmps29
    go_wp2_with fail
    refine (HM.out _).mono ?_
    rintro e w1 ⟨rfl, hb1⟩
    go_wp2
    go_ret3
    exact ⟨rfl, hb1⟩
end Go.Proofs.YtgidfnhfgiehjaaGreatDoor
end

section
namespace Go.Proofs.YtgidfnhfgiehjaaGreatDoor
open Go.RowKit Go.PM
set_option maxRecDepth 100000
set_option maxHeartbeats 4000000
theorem str_same {a b : ByteArray} (h : a = b) : (a.toList == b.toList) = true := by rw [h]; simp
theorem str_else {a b : ByteArray} (h : a ≠ b) : (a.toList == b.toList) = false := by
  rw [beq_eq_false_iff_ne, ByteArray.toList_eq, ByteArray.toList_eq]
  intro e
  exact h (ByteArray.ext (Array.toList_inj.1 e))
end Go.Proofs.YtgidfnhfgiehjaaGreatDoor
end

section
namespace Go.Proofs.YtgidfnhfgiehjaaGreatDoor
open Go.RowKit Go.PM
set_option maxRecDepth 100000
set_option maxHeartbeats 4000000
theorem info_str : (Tryz.prog.info? 9).map (fun i => (i.zero, i.size, i.bytes)) = some (some (.string ByteArray.empty), 1, 16) := by kernel_rfl
def FallOf (S done : List ByteArray) (c : Nat) (R : List UInt8) : Prop := (if (fall R).2 = 0 then (done ++ (fall R).1.map txt, 0) else ([], (fall R).2)) = (S, c)
theorem fall_eq (R : List UInt8) : fall R = if R.length = 0 then ([], 0) else if (fparse R).2.2 = 0 then
    (if (fall (R.drop (fparse R).2.1)).2 = 0 then ((fparse R).1 :: (fall (R.drop (fparse R).2.1)).1, 0) else ([], (fall (R.drop (fparse R).2.1)).2)) else ([], (fparse R).2.2) := by
  rw [fall]
  split
  · rfl
  · split <;> rfl
theorem FallOf.start (l : List UInt8) : FallOf ((fall l).1.map txt) [] (fall l).2 l := by
  unfold FallOf
  split
  · rename_i h; rw [h]; rfl
  · rename_i h
    have : (fall l).1 = [] := by
      rw [fall_eq] at h ⊢
      split
      · rfl
      · rename_i h1; rw [if_neg h1] at h
        split
        · rename_i h2; rw [if_pos h2] at h
          split
          · rename_i h3; rw [if_pos h3] at h; simp at h
          · rfl
        · rfl
    rw [this]
    rfl
theorem FallOf.stop {S done : List ByteArray} {c : Nat} (h : FallOf S done c []) : S = done ∧ c = 0 := by
  unfold FallOf at h
  rw [fall_eq] at h
  simp at h
  exact ⟨h.1.symm, h.2.symm⟩
theorem FallOf.err {S done : List ByteArray} {c : Nat} {R : List UInt8} (h : FallOf S done c R) (hR : R.length ≠ 0) (hv : (fparse R).2.2 ≠ 0) : S = [] ∧ c = (fparse R).2.2 := by
  unfold FallOf at h
  rw [fall_eq, if_neg hR, if_neg hv] at h
  simp [hv] at h
  exact ⟨h.1, h.2.symm⟩
theorem FallOf.next {S done : List ByteArray} {c : Nat} {R : List UInt8} (h : FallOf S done c R) (hR : R.length ≠ 0) (hv : (fparse R).2.2 = 0) : FallOf S (done ++ [txt (fparse R).1]) c (R.drop (fparse R).2.1) := by
  unfold FallOf at h ⊢
  rw [fall_eq, if_neg hR, if_pos hv] at h
  rw [← h]
  split <;> simp
end Go.Proofs.YtgidfnhfgiehjaaGreatDoor
end

section
namespace Go.Proofs.YtgidfnhfgiehjaaGreatDoor
open Go.RowKit Go.PM
theorem awake01 (w : World) : Calls Tryz.prog 330 #[] w fun e w' => e = .returned (.bool true) ∧ Below w.heap.size w w' := by
  go_enter Tryz.func330, Tryz.ntmps330
  go_wp2_with fail
  refine (cur_over _ _).mono ?_
  rintro e w1 ⟨rfl, rfl⟩
  have hc0 : Cur (w.alloc (.cells #[.string ⟨#[97, 98]⟩, .int .i64 0] 228)) w.heap.size ⟨#[97, 98]⟩ 0 := ⟨BlkAt.made _ _ _, Nat.zero_le _, by decide⟩
  have H0 := Lib.hid hc0
  clear hc0
  go_wp2_with fail
  refine (cur_byte_yes _ _ _ _ H0.out (by decide)).mono ?_
  rintro e w1 ⟨rfl, hc1, hg1⟩
  have e1 : ((ByteArray.mk #[97, 98])[0]'(by decide)).toNat = 97 := rfl
  have H1 := Lib.hid hc1
  clear hc1
  rw [e1]
  clear e1
  go_wp2_with fail
  refine (cur_byte_yes _ _ _ _ H1.out (by decide)).mono ?_
  rintro e w2 ⟨rfl, hc2, hg2⟩
  have e1 : ((ByteArray.mk #[97, 98])[0 + 1]'(by decide)).toNat = 98 := rfl
  have H2 := Lib.hid hc2
  clear hc2
  rw [e1]
  clear e1
  go_wp2_with fail
  refine (cur_byte_no _ _ _ _ H2.out (by decide)).mono ?_
  rintro e w3 ⟨rfl, hb3⟩
  go_wp2_with fail
  go_ret
  exact ⟨rfl, bb (bg (bg (ba b0 _) hg1 (Nat.le_refl _)) hg2 (Nat.le_refl _)) hb3⟩
end Go.Proofs.YtgidfnhfgiehjaaGreatDoor
end

section
namespace Go.Proofs.YtgidfnhfgiehjaaGreatDoor
open Go.RowKit Go.PM
set_option maxRecDepth 100000
theorem awakeE01 (w : World) : Calls Tryz.prog 329 #[] w fun e w' => e = .returned (.bool true) ∧ Below w.heap.size w w' := by
  go_enter Tryz.func329, Tryz.ntmps329
  go_wp2_with (go_at_call 330; refine (awake01 _).mono ?_; rintro e w' ⟨rfl, hb⟩)
  go_ret
  exact ⟨rfl, hb⟩
theorem vput300 : vput 300 = [172, 2] := by
  rw [vput_big (by omega), vput_small (by omega)]; rfl
theorem awake02 (w : World) : Calls Tryz.prog 328 #[] w fun e w' => e = .returned (.bool true) ∧ Below w.heap.size w w' := by
  have e1 : vget [172, 130, 0] = (0, 0, 2) := by decide
  go_enter Tryz.func328, Tryz.ntmps328
  go_wp2_with fail
  refine (get_any _ _ (by decide)).mono ?_
  rintro e w1 ⟨rfl, hb1⟩
  simp only [e1]
  go_wp2_with fail
  refine (awakeE01 _).mono ?_
  rintro e w2 ⟨rfl, hb2⟩
  go_wp2_with fail
  refine (put_any 300 _ (by unfold In64; omega)).mono ?_
  rintro e w3 ⟨rfl, hb3⟩
  rw [vput300]
  go_wp2_with fail
  go_ret
  exact ⟨rfl, bb (bb hb1 hb2) hb3⟩
theorem awakeE02 (w : World) : Calls Tryz.prog 327 #[] w fun e w' => e = .returned (.bool true) ∧ Below w.heap.size w w' := by
  go_enter Tryz.func327, Tryz.ntmps327
  go_wp2_with (go_at_call 328; refine (awake02 _).mono ?_; rintro e w' ⟨rfl, hb⟩)
  go_ret
  exact ⟨rfl, hb⟩
end Go.Proofs.YtgidfnhfgiehjaaGreatDoor
end

section
namespace Go.PM
end Go.PM
end

section
namespace Go.Proofs.YtgidfnhfgiehjaaGreatDoor
open Go.RowKit Go.PM
set_option maxRecDepth 100000
end Go.Proofs.YtgidfnhfgiehjaaGreatDoor
end

section
namespace Go.Proofs.YtgidfnhfgiehjaaGreatDoor
open Go.RowKit Go.PM
set_option maxRecDepth 100000
def zmap (n : Int) : Nat := if 0 ≤ n then (2 * n).toNat else (-2 * n - 1).toNat
def zback (z : Nat) : Int := if z % 2 = 0 then ((z / 2 : Nat) : Int) else -((z / 2 : Nat) : Int) - 1
theorem zmap_64 {n : Int} (h : InI64 n) : In64 (zmap n) := by unfold zmap In64; unfold InI64 at h; split <;> omega
theorem zback_64 {z : Nat} (h : In64 z) : InI64 (zback z) := by unfold zback InI64; unfold In64 at h; split <;> omega
theorem xor_ones (a : Nat) (h : a < 18446744073709551616) : a ^^^ 18446744073709551615 = 18446744073709551615 - a := by
  have e : (BitVec.ofNat 64 a ^^^ BitVec.allOnes 64).toNat = (~~~BitVec.ofNat 64 a).toNat := by rw [BitVec.xor_allOnes]
  rw [BitVec.toNat_xor, BitVec.toNat_not, BitVec.toNat_ofNat, BitVec.toNat_allOnes] at e
  rw [Nat.mod_eq_of_lt (by omega)] at e
  omega
theorem map_eq (n : Int) (h : InI64 n) : bits .xor .u64 (IntKind.u64.wrap (IntKind.u64.wrap n * 2)) (IntKind.u64.wrap (n / 9223372036854775808)) = (zmap n : Int) := by
  unfold InI64 at h
  unfold zmap
  rw [IntKind.wrap_u64, IntKind.wrap_u64, IntKind.wrap_u64]
  by_cases h0 : 0 ≤ n
  · rw [if_pos h0]
    have e1 : n % 18446744073709551616 * 2 % 18446744073709551616 = ((2 * n).toNat : Int) := by omega
    have e2 : n / 9223372036854775808 % 18446744073709551616 = ((0 : Nat) : Int) := by omega
    rw [e1, e2, bits_xor_u64_nat _ _ (by omega) (by omega), Nat.xor_zero]
  · rw [if_neg h0]
    have e1 : n % 18446744073709551616 * 2 % 18446744073709551616 = ((18446744073709551616 + 2 * n).toNat : Int) := by omega
    have e2 : n / 9223372036854775808 % 18446744073709551616 = ((18446744073709551615 : Nat) : Int) := by omega
    rw [e1, e2, bits_xor_u64_nat _ _ (by omega) (by omega), xor_ones _ (by omega)]
    omega
theorem and_one (z : Nat) (h : In64 z) : bits .and .u64 (z : Int) 1 = (z : Int) % 2 := by
  have := bits_and_u64_nat z 1 h.out (by omega)
  rw [Nat.and_one_is_mod] at this
  simpa using this
theorem back_eq (z : Nat) (h : In64 z) : bits .xor .i64 (wrap64 ((z : Int) / 2)) (wrap64 (-wrap64 (bits .and .u64 (z : Int) 1))) = zback z := by
  rw [and_one z h]
  unfold In64 at h
  unfold zback
  have e1 : wrap64 ((z : Int) / 2) = ((z / 2 : Nat) : Int) := by unfold wrap64; omega
  have o : ∀ a : Nat, a < 9223372036854775808 → (BitVec.ofInt 64 (a : Int)).toNat = a := fun a ha => by
    rw [BitVec.ofInt_natCast, BitVec.toNat_ofNat]; exact Nat.mod_eq_of_lt (by omega)
  have ho := o (z / 2) (by omega)
  by_cases h0 : z % 2 = 0
  · rw [if_pos h0, e1]
    have e2 : wrap64 (-wrap64 ((z : Int) % 2)) = ((0 : Nat) : Int) := by unfold wrap64; omega
    rw [e2]
    show IntKind.i64.wrap ((BitVec.ofInt 64 ((z / 2 : Nat) : Int) ^^^ BitVec.ofInt 64 ((0 : Nat) : Int)).toNat : Int) = _
    rw [BitVec.toNat_xor, ho, o 0 (by omega), Nat.xor_zero, IntKind.wrap_i64]
    omega
  · rw [if_neg h0, e1]
    have e2 : wrap64 (-wrap64 ((z : Int) % 2)) = -1 := by unfold wrap64; omega
    rw [e2]
    show IntKind.i64.wrap ((BitVec.ofInt 64 ((z / 2 : Nat) : Int) ^^^ BitVec.ofInt 64 (-1)).toNat : Int) = _
    have e3 : BitVec.ofInt 64 (-1) = BitVec.allOnes 64 := by decide
    rw [e3, BitVec.xor_allOnes, BitVec.toNat_not, ho, IntKind.wrap_i64]
    omega
theorem map_any (n : Int) (w : World) (hn : InI64 n) : Calls Tryz.prog 88 #[.int .i64 n] w fun e w' => e = .returned (.int .u64 (zmap n : Int)) ∧ Below w.heap.size w w' := by
  have HE := Lib.hid (map_eq n hn)
  clear hn
  go_enter Tryz.func88, Tryz.ntmps88
  go_wp2
  go_ret
  rw [← HE.out]
  exact ⟨rfl, b0⟩
theorem back_any (z : Nat) (w : World) (hz : In64 z) : Calls Tryz.prog 140 #[.int .u64 (z : Int)] w fun e w' => e = .returned (.int .i64 (zback z)) ∧ Below w.heap.size w w' := by
  have HE := Lib.hid (back_eq z hz)
  clear hz
  go_enter Tryz.func140, Tryz.ntmps140
  go_wp2
  go_ret
  rw [← HE.out]
  exact ⟨rfl, b0⟩
end Go.Proofs.YtgidfnhfgiehjaaGreatDoor
end

section
namespace Go.Proofs.YtgidfnhfgiehjaaGreatDoor
open Go.RowKit Go.PM
set_option maxRecDepth 100000
theorem awake03 (w : World) : Calls Tryz.prog 326 #[] w fun e w' => e = .returned (.bool true) ∧ Below w.heap.size w w' := by
  go_enter Tryz.func326, Tryz.ntmps326
  go_wp2_with fail
  refine (awakeE02 _).mono ?_
  rintro e w1 ⟨rfl, hb1⟩
  go_wp2_with fail
  refine (map_any (-3) _ (by unfold InI64; omega)).mono ?_
  rintro e w2 ⟨rfl, hb2⟩
  rw [show zmap (-3) = 5 from by decide]
  go_wp2_with fail
  refine (back_any 5 _ (by unfold In64; omega)).mono ?_
  rintro e w3 ⟨rfl, hb3⟩
  rw [show zback 5 = -3 from by decide]
  go_wp2
  go_ret
  exact ⟨rfl, bb (bb hb1 hb2) hb3⟩
theorem awakeE03 (w : World) : Calls Tryz.prog 325 #[] w fun e w' => e = .returned (.bool true) ∧ Below w.heap.size w w' := by
  go_enter Tryz.func325, Tryz.ntmps325
  go_wp2_with (go_at_call 326; refine (awake03 _).mono ?_; rintro e w' ⟨rfl, hb⟩)
  go_ret
  exact ⟨rfl, hb⟩
end Go.Proofs.YtgidfnhfgiehjaaGreatDoor
end

section
namespace Go.Proofs.YtgidfnhfgiehjaaGreatDoor
open Go.RowKit Go.PM
set_option maxRecDepth 100000
theorem awake04 (w : World) :
    Calls Tryz.prog 324 #[] w fun e w' => e = .returned (.bool true) ∧ Below w.heap.size w w' := by
  go_enter Tryz.func324, Tryz.ntmps324
  go_wp2_with fail
  refine (awakeE03 _).mono ?_
  rintro e w1 ⟨rfl, hb1⟩
  go_wp2_with fail
  refine (sum_one _ _ _ (BlkAt.made _ _ _) (by decide)).mono ?_
  rintro e w2 ⟨rfl, hb2⟩
  rw [show csum (ByteArray.mk #[49, 50, 51, 52, 53, 54, 55, 56, 57]).data.toList = 3421780262 by decide +kernel]
  go_wp2
  go_ret
  exact ⟨rfl, bb (ba hb1 _) hb2⟩
theorem awakeE04 (w : World) : Calls Tryz.prog 323 #[] w fun e w' => e = .returned (.bool true) ∧ Below w.heap.size w w' := by
  go_enter Tryz.func323, Tryz.ntmps323
  go_wp2_with (go_at_call 324; refine (awake04 _).mono ?_; rintro e w' ⟨rfl, hb⟩)
  go_ret
  exact ⟨rfl, hb⟩
end Go.Proofs.YtgidfnhfgiehjaaGreatDoor
end

section
namespace Go.Proofs.YtgidfnhfgiehjaaGreatDoor
open Go.RowKit Go.PM
set_option maxRecDepth 100000
set_option maxHeartbeats 1000000
theorem awake05 (w : World) :
    Calls Tryz.prog 322 #[] w fun e w' => e = .returned (.bool true) ∧ Below w.heap.size w w' := by
  go_enter Tryz.func322, Tryz.ntmps322
  go_wp2_with fail
  refine (wrap_any _ _ (by decide)).mono ?_
  rintro e w1 ⟨rfl, hb1⟩
  rw [show txt (ftext (ByteArray.mk #[]).data.toList) = ByteArray.mk #[81, 70, 0, 0, 0, 0, 0] by decide +kernel]
  go_wp2_with fail
  refine (awakeE04 _).mono ?_
  rintro e w2 ⟨rfl, hb2⟩
  go_wp2
  go_ret
  exact ⟨rfl, bb hb1 hb2⟩
theorem awakeE05 (w : World) : Calls Tryz.prog 321 #[] w fun e w' => e = .returned (.bool true) ∧ Below w.heap.size w w' := by
  go_enter Tryz.func321, Tryz.ntmps321
  go_wp2_with (go_at_call 322; refine (awake05 _).mono ?_; rintro e w' ⟨rfl, hb⟩)
  go_ret
  exact ⟨rfl, hb⟩
def Cs (n x z : Nat) : Prop := z + vsz x = fsize n + 1 ∧ x ≤ 65536
theorem Cs.start (n : Nat) (h : n ≤ 65536) : Cs n n (7 + n) := by unfold Cs fsize; omega
theorem Cs.next {n x z : Nat} (h : Cs n x z) (hx : 127 < x) : Cs n (x / 128) (z + 1) := by
  obtain ⟨h1, h2⟩ := h
  rw [vsz, if_neg (by omega)] at h1
  exact ⟨by omega, by omega⟩
theorem Cs.stop {n x z : Nat} (h : Cs n x z) (hx : ¬ 127 < x) : z = fsize n := by
  obtain ⟨h1, _⟩ := h
  rw [vsz, if_pos (by omega)] at h1
  omega
end Go.Proofs.YtgidfnhfgiehjaaGreatDoor
end

section
namespace Go.PM
end Go.PM
end

section
namespace Go.Proofs.YtgidfnhfgiehjaaGreatDoor
open Go.RowKit Go.PM
set_option maxRecDepth 100000
set_option maxHeartbeats 1000000
end Go.Proofs.YtgidfnhfgiehjaaGreatDoor
end

section
namespace Go.Proofs.YtgidfnhfgiehjaaGreatDoor
open Go.RowKit Go.PM
set_option maxRecDepth 100000
set_option maxHeartbeats 1000000
theorem short_cases {l : List UInt8} (h : (fparse l).2.2 = 1) (h2 : 2 ≤ l.length) : ((vget (l.drop 2)).2.2 = 1 ∧ fneed l = 0) ∨ ((vget (l.drop 2)).2.2 = 0 ∧ (vget (l.drop 2)).1 ≤ 65536 ∧ fneed l = fsize (vget (l.drop 2)).1) := by
  have hm : fmark l = 0 := by
    by_cases hm : fmark l = 0
    · exact hm
    · rw [fparse_mark hm] at h
      rcases fmark_cases l with ⟨h1, _⟩ | ⟨_, h1⟩ | h1
      · exact h1
      · omega
      · simp only at h; omega
  rw [fparse_body hm] at h
  unfold fneed
  rw [if_neg (by omega)]
  generalize hV : vget (l.drop 2) = V at *
  obtain ⟨n, k, g⟩ := V
  rw [fbody_of l n k g hV] at h
  simp only
  by_cases hg : g = 0
  · subst hg
    rw [if_neg (by simp)] at h
    right
    by_cases hn : 65536 < n
    · rw [if_pos hn] at h; simp at h
    · exact ⟨rfl, by omega, by simp⟩
  · rw [if_pos hg] at h
    left
    exact ⟨h, by rw [if_neg hg]⟩
theorem whole_any (s : ByteArray) (w : World) (hs : s.size ≤ 1000000) (hp : (fparse s.data.toList).2.2 = 1) :
    Calls Tryz.prog 153 #[.string s] w fun e w' => e = .returned (.int .i64 (fneed s.data.toList : Int)) ∧ Below w.heap.size w w' := by
  by_cases h2 : s.size < 2
  · have hn : fneed s.data.toList = 0 := by unfold fneed; rw [if_pos (by rw [len_list]; exact h2)]
    rw [hn]
    clear hn hp
    go_enter Tryz.func153, Tryz.ntmps153
    go_wp2
    go_loop [4] (fun k => k = .int .i64 2) (fun _ => 0)
    case atStart => rfl
    case round =>
      subst hrel
      go_wp2
      go_ret
      exact ⟨rfl, b0⟩
  have hsc := short_cases hp (by rw [len_list]; omega)
  have hl2 : (s.data.toList.drop 2).length = s.size - 2 := by rw [List.length_drop, len_list]
  generalize hV : vget (s.data.toList.drop 2) = V at hsc
  obtain ⟨n, k, g⟩ := V
  simp only at hsc
  generalize fneed s.data.toList = N at hsc ⊢
  have HSC := Lib.hid hsc
  have HV := Lib.hid hV
  clear hsc hV hp
  go_enter Tryz.func153, Tryz.ntmps153
  go_wp2
  go_loop [3, 4] (fun nn kk => ∃ i acc : Nat, i ≤ 10 ∧ i ≤ s.size - 2 ∧ kk = .int .i64 ((i : Int) + 2) ∧ nn = .int .u64 (acc : Int) ∧ Gt (s.data.toList.drop 2) i acc) (fun _ k => s.size - (intOf k).toNat)
  case atStart => exact ⟨0, 0, by omega, by omega, rfl, rfl, by unfold In64; omega, fun _ => ⟨by decide, rfl⟩, fun h => by omega⟩
  case round =>
    obtain ⟨i, acc, hi, his, rfl, rfl, hg⟩ := hrel
    have HG := Lib.hid hg
    clear hg
    have hi10 : i < 10 := by
      by_cases e : i = 10
      · have h3 := HG.out.2.2 e
        rw [HV.out] at h3
        injection h3 with _ h3
        injection h3 with _ h3
        rcases HSC.out with ⟨h, _⟩ | ⟨h, _⟩ <;> omega
      · omega
    by_cases hlt : i + 2 < s.size
    · have em := mask127 s[i + 2]
      obtain ⟨X, hX, hX64, hXv⟩ := or_any acc s[i + 2].toNat i HG.out.1
      have HX := Lib.hid (And.intro hX64 hXv)
      have hd : (s.data.toList.drop 2).drop i = s[i + 2] :: (s.data.toList.drop 2).drop (i + 1) := by
        rw [List.drop_drop, List.drop_drop, Nat.add_comm 2 i, drop_at s (i + 2) hlt]
        congr 2
        omega
      have HD := Lib.hid hd
      clear hX64 hXv hd
      by_cases h1 : 128 ≤ s[i + 2].toNat
      · have hn := HG.out.next hi10 HD.out rfl h1 HX.out.1 HX.out.2
        have HNx := Lib.hid hn
        clear hn
        go_wp2
        go_round
        case rel => exact ⟨i + 1, X, by omega, by omega, by go_num, rfl, HNx.out⟩
        case measure => simp [intOf]; omega
      · have hst := HG.out.stop hi10 HD.out h1
        rw [HV.out] at hst
        have hnX : n = X ∧ g = 0 := by
          by_cases h9 : i = 9 ∧ 1 < s[i + 2].toNat
          · rw [if_pos h9] at hst
            injection hst with _ h3
            injection h3 with _ h3
            rcases HSC.out with ⟨h, _⟩ | ⟨h, _⟩ <;> omega
          · rw [if_neg h9] at hst
            by_cases h0 : 0 < i ∧ s[i + 2].toNat = 0
            · rw [if_pos h0] at hst
              injection hst with _ h3
              injection h3 with _ h3
              rcases HSC.out with ⟨h, _⟩ | ⟨h, _⟩ <;> omega
            · rw [if_neg h0] at hst
              injection hst with h1' h3
              injection h3 with _ h3
              refine ⟨?_, h3⟩
              rw [HX.out.2 (HG.out.2.1 hi10).1 hi10 (fun h => by omega), Nat.mod_eq_of_lt (by omega)]
              exact h1'
        obtain ⟨rfl, hg0⟩ := hnX
        have hnn : n ≤ 65536 ∧ N = fsize n := by
          rcases HSC.out with ⟨h, _⟩ | ⟨_, h, h'⟩
          · omega
          · exact ⟨h, h'⟩
        obtain ⟨hnl, rfl⟩ := hnn
        clear hst
        go_wp2_with fail
        refine (fsize_yes n _ hnl).mono ?_
        rintro e w1 ⟨rfl, hb1⟩
        go_wp2
        go_ret
        exact ⟨rfl, hb1⟩
    · have hN : N = 0 := by
        have h4 := (HG.out.2.1 hi10).2
        rw [HV.out, show List.drop i (List.drop 2 s.data.toList) = [] from List.drop_eq_nil_of_le (by rw [hl2]; omega), vgetL, if_neg (by omega)] at h4
        injection h4 with _ h3
        injection h3 with _ h3
        rcases HSC.out with ⟨_, h⟩ | ⟨h, _⟩
        · exact h
        · omega
      subst hN
      go_wp2
      go_ret
      exact ⟨rfl, b0⟩
def Dfr (w : World) (d : Nat) (v : Value) (rest : List UInt8) (need err count : Nat) : Prop :=
  BlkAt w d 178 #[v, .int .i64 (need : Int), .int .i64 (err : Int), .int .i64 (count : Int)] ∧ Buf w 5 v rest ∧ foot v ≠ some d
theorem Dfr.tch {S : Nat → Prop} {w w' : World} {d : Nat} {v : Value} {rest : List UInt8} {need err count : Nat} (h : Dfr w d v rest need err count) (hg : Tch S w w') (hd : ¬ S d) (hf : ∀ g, foot v = some g → ¬ S g) : Dfr w' d v rest need err count :=
  ⟨h.1.tch hg hd, h.2.1.tch hg hf, h.2.2⟩
theorem Dfr.below {w w' : World} {d : Nat} {v : Value} {rest : List UInt8} {need err count : Nat} (h : Dfr w d v rest need err count) (hb : Below w.heap.size w w') : Dfr w' d v rest need err count :=
  h.tch (S := fun _ => False) (Tch.below hb) id fun _ _ => id
theorem new_any (w : World) :
    Calls Tryz.prog 52 #[] w fun e w' => ∃ d, e = .returned (.pointer (some ⟨d, 0, none⟩)) ∧ w.heap.size ≤ d ∧ Dfr w' d (.slice none 0 0) [] 0 0 0 ∧ Below w.heap.size w w' := by
  go_enter Tryz.func52, Tryz.ntmps52
  go_wp2
  go_ret
  exact ⟨_, rfl, Nat.le_refl _, ⟨BlkAt.made _ _ _, Buf.nil _ _, by simp [foot]⟩, ba b0 _⟩
end Go.Proofs.YtgidfnhfgiehjaaGreatDoor
end

section
namespace Go.Proofs.YtgidfnhfgiehjaaGreatDoor
open Go.RowKit Go.PM
set_option maxRecDepth 100000
set_option maxHeartbeats 1000000
theorem err_any (d : Nat) (v : Value) (R : List UInt8) (need err count : Nat) (w : World) (h : Dfr w d v R need err count) :
    Calls Tryz.prog 55 #[.pointer (some ⟨d, 0, none⟩)] w fun e w' => e = .returned (.int .i64 (err : Int)) ∧ Below w.heap.size w w' := by
  obtain ⟨hd, _, _⟩ := h
  have c2 := hd.cell 2
  simp at c2
  clear hd
  go_enter Tryz.func55, Tryz.ntmps55
  go_wp2
  go_ret
  exact ⟨rfl, b0⟩
def FofOf (S done : List ByteArray) (E : Nat) (Rest : List UInt8) (t : List UInt8) : Prop := S = done ++ (fof t).1.map txt ∧ E = (fof t).2.1 ∧ Rest = (fof t).2.2
theorem FofOf.next {S done : List ByteArray} {E : Nat} {Rest t : List UInt8} (h : FofOf S done E Rest t) (h0 : (fparse t).2.2 = 0) : FofOf S (done ++ [txt (fparse t).1]) E Rest (t.drop (fparse t).2.1) := by
  obtain ⟨h1, h2, h3⟩ := h
  rw [fof_ok h0] at h1 h2 h3
  exact ⟨by rw [h1]; simp, h2, h3⟩
theorem FofOf.short {S done : List ByteArray} {E : Nat} {Rest t : List UInt8} (h : FofOf S done E Rest t) (h0 : (fparse t).2.2 = 1) : S = done ∧ E = 0 ∧ Rest = t := by
  obtain ⟨h1, h2, h3⟩ := h
  rw [fof_short h0] at h1 h2 h3
  exact ⟨by simpa using h1, h2, h3⟩
theorem FofOf.bad {S done : List ByteArray} {E : Nat} {Rest t : List UInt8} (h : FofOf S done E Rest t) (h0 : (fparse t).2.2 ≠ 0) (h1' : (fparse t).2.2 ≠ 1) : S = done ∧ E = (fparse t).2.2 ∧ Rest = [] := by
  obtain ⟨h1, h2, h3⟩ := h
  rw [fof_bad h0 h1'] at h1 h2 h3
  exact ⟨by simpa using h1, h2, h3⟩
def Deliv (w : World) (d : Nat) (S : List ByteArray) (Rest : List UInt8) (E count : Nat) (e : Ending) (w' : World) : Prop :=
  ∃ r v', e = .returned r ∧ w'.ownsRow w.heap.size 9 1 r S.length (strs S) ∧ Tch (· = d) w w' ∧ Dfr w' d v' Rest (if E = 0 then fneed Rest else 0) E (count + S.length) ∧ ∀ g, foot v' = some g → w.heap.size ≤ g
theorem deliver_any (d : Nat) (v : Value) (R : List UInt8) (need count : Nat) (w : World) (h : Dfr w d v R need 0 count) (hR : R.length ≤ 1000000) (hcn : count ≤ 4000000000000000000) :
    Calls Tryz.prog 97 #[.pointer (some ⟨d, 0, none⟩)] w (Deliv w d ((fof R).1.map txt) (fof R).2.2 (fof R).2.1 count) := by
  have hst : FofOf ((fof R).1.map txt) [] (fof R).2.1 (fof R).2.2 R := ⟨rfl, rfl, rfl⟩
  generalize (fof R).1.map txt = S at hst ⊢
  generalize (fof R).2.1 = E at hst ⊢
  generalize (fof R).2.2 = Rest at hst ⊢
  have HST := Lib.hid hst
  clear hst
  obtain ⟨hd, hb, hv⟩ := h
  have hcv := hb.back (P := Tryz.prog) 42 9 Tryz.underlying42 Tryz.underlying5 Tryz.underlying9
  obtain ⟨A, c, rfl⟩ := hb.len
  have c0 := hd.cell 0
  simp at c0
  have hdl := hd.lt
  have HD := Lib.hid hd
  obtain ⟨i0, hi0, hz0, hz1, hz2⟩ := info_parts info_str
  clear hd hb hv
  go_enter Tryz.func97, Tryz.ntmps97
  go_wp2
  go_loopw [3, 4] (fun v sl wr => ∃ (t : ByteArray) (done : List ByteArray), sl = .string t ∧ FofOf S done E Rest t.data.toList ∧ done.length + t.size ≤ R.length ∧ wr.ownsRow w.heap.size 9 1 v done.length (strs done) ∧
    BlkAt wr d 178 #[.slice A R.length c, .int .i64 (need : Int), .int .i64 ((0 : Nat) : Int), .int .i64 ((count + done.length : Nat) : Int)] ∧ Tch (· = d) w wr) (fun _ sl _ => strLen sl)
  case atStart => exact ⟨txt R, [], rfl, HST.out, by simp [txt_size], World.ownsRow_nil _ _ _ _, HD.out, Tch.refl _ _⟩
  case round =>
    obtain ⟨t, done, rfl, hfo, hlen, hown, hd, htch⟩ := hrel
    have HF := Lib.hid hfo
    have HO := Lib.hid hown
    have HD2 := Lib.hid hd
    have HW := Lib.hid htch
    clear hfo hown hd htch
    go_wp2_with fail
    refine (parse_any t _ (by omega)).mono ?_
    rintro e w1 ⟨rfl, hb1⟩
    have hnx := fun h => HF.out.next h
    have hsh := fun h => HF.out.short h
    have hbd := fun h h' => HF.out.bad h h'
    have hok := fun h => fparse_ok (s := t.data.toList) h
    generalize hV : fparse t.data.toList = V at hnx hsh hbd hok
    obtain ⟨q, k, g⟩ := V
    simp only at hnx hsh hbd hok
    have hd1 := HD2.out.below hb1 HD2.out.lt
    have hdl1 := hd1.lt
    have hs1 := Nat.le_trans HW.out.size hb1.size
    have e0 := hd1.cell 0
    have e1 := hd1.cell 1
    have e2 := hd1.cell 2
    have e3 := hd1.cell 3
    have f0 := hd1.free 0
    have f1 := hd1.free 1
    have f2 := hd1.free 2
    have f3 := hd1.free 3
    simp at e0 e1 e2 e3
    have HD3 := Lib.hid hd1
    have HO3 := Lib.hid (own_below HO.out hb1)
    have HW3 := Lib.hid (HW.out.bel hb1)
    clear hd1 hb1
    have HNX := Lib.hid hnx
    have HSH := Lib.hid hsh
    have HBD := Lib.hid hbd
    have HOK := Lib.hid hok
    have HV := Lib.hid hV
    clear hnx hsh hbd hok hV
    by_cases h1 : g = 1
    · subst h1
      obtain ⟨rfl, rfl, rfl⟩ := HSH.out rfl
      have hcv2 := run_bytes_of_string (P := Tryz.prog) w1 9 42 5 t Tryz.underlying9 Tryz.underlying42 Tryz.underlying5
      have hge := grownCap_ge w1 t.size 0 5
      generalize grownCap w1 t.size 0 5 = cap at hcv2 hge
      go_wp2_with fail
      have hwq : BlkAt ((w1.setCell ⟨d, 0, none⟩ (.slice (some ⟨w1.heap.size, 0, none⟩) t.size cap)).alloc (.cells (bytesRow t cap) 5 ((bytesRow t cap).size, (bytesRow t cap).size + 1))).drew d 178
          #[.slice (some ⟨w1.heap.size, 0, none⟩) t.size cap, .int .i64 (need : Int), .int .i64 ((0 : Nat) : Int), .int .i64 ((count + S.length : Nat) : Int)] := (((HD3.out.put 0 _).more _).dr)
      have hbq : Buf ((w1.setCell ⟨d, 0, none⟩ (.slice (some ⟨w1.heap.size, 0, none⟩) t.size cap)).alloc (.cells (bytesRow t cap) 5 ((bytesRow t cap).size, (bytesRow t cap).size + 1))).drew 5 (.slice (some ⟨w1.heap.size, 0, none⟩) t.size cap) t.data.toList :=
        Buf.at_heap (by have := heap_alloc_new (w1.setCell ⟨d, 0, none⟩ (.slice (some ⟨w1.heap.size, 0, none⟩) t.size cap)) (.cells (bytesRow t cap) 5 ((bytesRow t cap).size, (bytesRow t cap).size + 1)); rwa [show (w1.setCell ⟨d, 0, none⟩ (.slice (some ⟨w1.heap.size, 0, none⟩) t.size cap)).heap.size = w1.heap.size by simp [World.setCell]] at this) hge
      have hgw : Tch (fun k => k = d) w1 ((w1.setCell ⟨d, 0, none⟩ (.slice (some ⟨w1.heap.size, 0, none⟩) t.size cap)).alloc (.cells (bytesRow t cap) 5 ((bytesRow t cap).size, (bytesRow t cap).size + 1))).drew := ((((Tch.refl (fun k => k = d) w1).put (p := ⟨d, 0, none⟩) (fun _ => rfl) _).more _).dr)
      generalize ((w1.setCell ⟨d, 0, none⟩ (.slice (some ⟨w1.heap.size, 0, none⟩) t.size cap)).alloc (.cells (bytesRow t cap) 5 ((bytesRow t cap).size, (bytesRow t cap).size + 1))).drew = W at hwq hbq hgw ⊢
      refine (whole_any t W (by omega) (by rw [HV.out])).mono ?_
      rintro e w2 ⟨rfl, hb2⟩
      have hwq2 := hwq.below hb2 hwq.lt
      have g1 := hwq2.cell 1
      have k1 := hwq2.free 1
      simp at g1
      go_wp2_with fail
      go_ret
      have hT : Tch (· = d) w1 (w2.setCell ⟨d, 1, none⟩ (.int .i64 (fneed t.data.toList : Int))) := (hgw.bel hb2).put (p := ⟨d, 1, none⟩) (fun _ => rfl) _
      have hfne : ∀ g, foot (.slice (some ⟨w1.heap.size, 0, none⟩) t.size cap) = some g → g = w1.heap.size := fun g hg => by
        simp only [foot] at hg
        split at hg
        · cases hg
        · injection hg with hg; exact hg.symm
      refine ⟨_, _, rfl, ?_, ?_, ⟨hwq2.put 1 _, ?_, ?_⟩, ?_⟩
      · exact own_tch HO3.out hT fun g hg e => by have := (HO3.out.lt g hg).1; omega
      · exact HW3.out.trans hT fun _ _ e => e
      · exact (hbq.below hb2).tch ((Tch.refl (fun k => k = d) _).put (p := ⟨d, 1, none⟩) (fun _ => rfl) _) fun g hg e => by have := hfne g hg; omega
      · intro e; have := hfne d e; omega
      · intro g hg; have := hfne g hg; omega
    · by_cases h0 : g = 0
      · subst h0
        have HNXT := Lib.hid (HNX.out rfl)
        obtain ⟨k1, k2, j1, j2, j3⟩ := HOK.out rfl
        rw [len_list] at k2
        clear j1 j2 j3 e0 e1 e2 e3 f0 f1 f2 f3
        have hown := HO3.out
        go_wp2_with (at_builtin; go_must (refine wpList_append_own _ rfl _ _ 50 rfl w.heap.size 9 i0 (.string ByteArray.empty) 1 16 Tryz.underlying50 hi0 hz0 hz1 hz2 rfl (by decide) _ _ _ rfl (hown.alloc _) ⟨w1.heap.size, 0, none⟩ 1 1 [.string (txt q)] rfl rfl (one_new _ _ _) (one_cell_str _) (by unfold maxLen; omega) (by omega) (by simp; omega) ?_); intro v1 w2 hown2 hg2 _; have hTa : Tch (· = d) w w2 := (HW3.out.more _).trans (Tch.grown (S := fun g => u3.ownBlock = some g) hg2 (fun g hg _ => hg)) (fun g _ hg => by have := (HO3.out.lt g hg).1; omega); have hd2 := (HD3.out.more (.cells #[.string (txt q)] 9)).step hg2 (by intro e; have := (HO3.out.lt d e.symm).1; omega); have e3 := hd2.cell 3; have f3 := hd2.free 3; simp at e3; have HTA := Lib.hid hTa; have HD4 := Lib.hid hd2; have HO4 := Lib.hid hown2; clear hTa hd2 hown2 hg2 hown)
        go_roundw
        case rel =>
          have hT : Tch (fun k => k = d) w2 (w2.setCell ⟨d, 3, none⟩ (.int .i64 ((count : Int) + (done.length : Int) + 1))) := (Tch.refl (fun k => k = d) w2).put (p := ⟨d, 3, none⟩) (fun _ => rfl) _
          refine ⟨_, done ++ [txt q], rfl, by rw [ext_rest]; exact HNXT.out, ?_, ?_, ?_, HTA.out.trans hT fun _ _ e => e⟩
          · simp
            omega
          · refine own_tch (v := v1) ?_ hT fun g hg e => ?_
            · simpa [strs] using HO4.out
            · have := (HO4.out.lt g hg).1
              omega
          · have := HD4.out.put 3 (.int .i64 ((count : Int) + (done.length : Int) + 1))
            simp at this ⊢
            rw [Int.add_assoc] at this
            exact this
        case measure =>
          simp [strLen]
          omega
      · obtain ⟨rfl, rfl, rfl⟩ := HBD.out h0 h1
        have n1 : ((E : Int) == 1) = false := by rw [beq_eq_false_iff_ne]; omega
        have n0 : ((E : Int) != 0) = true := by rw [bne_iff_ne]; omega
        go_wp2_with fail
        go_ret
        have hT : Tch (· = d) w1 (((w1.setCell ⟨d, 0, none⟩ (.slice none 0 0)).setCell ⟨d, 1, none⟩ (.int .i64 0)).setCell ⟨d, 2, none⟩ (.int .i64 (E : Int))) := (((Tch.refl (fun k => k = d) w1).put (p := ⟨d, 0, none⟩) (fun _ => rfl) _).put (p := ⟨d, 1, none⟩) (fun _ => rfl) _).put (p := ⟨d, 2, none⟩) (fun _ => rfl) _
        exact ⟨_, _, rfl, own_tch HO3.out hT fun g hg e => by have := (HO3.out.lt g hg).1; omega, HW3.out.trans hT fun _ _ e => e, ⟨by rw [if_neg h0]; exact ((HD3.out.put 0 _).put 1 _).put 2 _, Buf.nil _ _, by simp [foot]⟩, fun g hg => by simp [foot] at hg⟩
end Go.Proofs.YtgidfnhfgiehjaaGreatDoor
end

section
namespace Go.PM
def feedOf (e : Nat) (R t : List UInt8) : List (List UInt8) × Nat × List UInt8 := if e = 0 then fof (R ++ t) else ([], e, R)
def NeedOk (R : List UInt8) (need : Nat) : Prop := ∀ b, (R ++ b).length < need → (fparse (R ++ b)).2.2 = 1
def St (R : List UInt8) (need e : Nat) : Prop := e = 0 → (fparse R).2.2 = 1 ∧ NeedOk R need
theorem St.new : St [] 0 0 := fun _ => ⟨rfl, fun b h => by omega⟩
theorem feedOf_nil {R : List UInt8} {need e : Nat} (h : St R need e) : feedOf e R [] = ([], e, R) := by
  unfold feedOf
  by_cases h0 : e = 0
  · rw [if_pos h0, List.append_nil, fof_short (h h0).1, h0]
  · rw [if_neg h0]
theorem feedOf_more (e : Nat) (R t p : List UInt8) : feedOf e R (t ++ p) =
    if (feedOf e R t).2.1 = 0 then ((feedOf e R t).1 ++ (fof ((feedOf e R t).2.2 ++ p)).1, (fof ((feedOf e R t).2.2 ++ p)).2) else feedOf e R t := by
  unfold feedOf
  by_cases h0 : e = 0
  · simp only [if_pos h0]
    rw [← List.append_assoc, fof_append p (R ++ t)]
  · simp only [if_neg h0]
theorem feedOf_start (t : List UInt8) : feedOf 0 [] t = fof t := by unfold feedOf; rw [if_pos rfl, List.nil_append]
theorem St.keep {R p : List UInt8} {need : Nat} (h : St R need 0) (hl : (R ++ p).length < need) : St (R ++ p) need 0 ∧ fof (R ++ p) = ([], 0, R ++ p) := by
  have h1 := (h rfl).2 p hl
  refine ⟨fun _ => ⟨h1, fun b hb => ?_⟩, fof_short h1⟩
  rw [List.append_assoc] at hb ⊢
  exact (h rfl).2 _ hb
theorem St.fof (s : List UInt8) : St (Go.PM.fof s).2.2 (if (Go.PM.fof s).2.1 = 0 then fneed (Go.PM.fof s).2.2 else 0) (Go.PM.fof s).2.1 := by
  intro h0
  rw [if_pos h0]
  rcases fof_rest s with ⟨_, h⟩ | ⟨h, _⟩
  · exact ⟨h, fun b hb => fneed_ok _ b h hb⟩
  · exact absurd h0 h
theorem fof_len : ∀ s, (Go.PM.fof s).1.length + (Go.PM.fof s).2.2.length ≤ s.length := by
  refine fof_ind ?_ ?_ ?_
  · intro s h; rw [fof_short h]; simp
  · intro s h ih
    have hk := fparse_ok h
    rw [fof_ok h]
    simp only [List.length_cons]
    rw [List.length_drop] at ih
    omega
  · intro s h h1; rw [fof_bad h h1]; simp
def flat (l : List ByteArray) : List UInt8 := l.flatMap fun x => x.data.toList
theorem flat_take {l : List ByteArray} {k : Nat} (h : k < l.length) : flat (l.take (k + 1)) = flat (l.take k) ++ l[k].data.toList := by
  unfold flat
  rw [← List.take_append_getElem h, List.flatMap_append]
  simp
theorem flat_le (l : List ByteArray) (k : Nat) : (flat (l.take k)).length ≤ (flat l).length := by
  unfold flat
  conv => rhs; rw [← List.take_append_drop k l]
  rw [List.flatMap_append, List.length_append]
  omega
end Go.PM
end
