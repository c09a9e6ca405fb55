/-
  Contracts of layer 5 (bytes with a mark, a length and a sum). Conditions: texts within int.
-/
import Derived.Test.YtmlijflappjfoaaDoorCrc3
import Derived.Test.YtmlijflappjfoaaDoorPlainStream
namespace Go.Proofs.YtmlijflappjfoaaDoor
open Go.RowKit Go.PM
set_option maxRecDepth 100000

theorem fsize_yes (n : Nat) (w : World) (h : n ≤ 65536) :
    Calls Tryd.prog 96 #[.int .i64 (n : Int)] w fun e w' => e = .returned (.int .i64 (fsize n : Int)) ∧ Below w.heap.size w w' := by
  have h10 := vsz_le10 (n := n) (by omega)
  have hf : ((fsize n : Nat) : Int) = 2 + (vsz n : Int) + (n : Int) + 4 := by unfold fsize; omega
  have HF := Lib.hid hf
  clear hf
  go_enter Tryd.func96, Tryd.ntmps96
  go_wp2_with fail
  refine (size_any n _ (by unfold In64; omega)).mono ?_
  rintro e w1 ⟨rfl, rfl⟩
  go_wp2
  go_ret
  rw [HF.out]
  exact ⟨rfl, b0⟩
theorem fsize_no (n : Int) (w : World) (h : n < 0 ∨ 65536 < n) :
    Calls Tryd.prog 96 #[.int .i64 n] w fun e w' => e = .returned (.int .i64 0) ∧ Below w.heap.size w w' := by
  rcases h with h | h
  all_goals
    go_enter Tryd.func96, Tryd.ntmps96
    go_wp2
    go_ret
    exact ⟨rfl, b0⟩
theorem wrap_no (p : ByteArray) (w : World) (h : 65536 < p.size) :
    Calls Tryd.prog 92 #[.string p] w fun e w' => e = .returned (.tuple #[.string ByteArray.empty, .int .i64 4]) ∧ Below w.heap.size w w' := by
  go_enter Tryd.func92, Tryd.ntmps92
  go_wp2
  go_ret2
  exact ⟨rfl, b0⟩
theorem wrap_any (p : ByteArray) (w : World) (h : p.size ≤ 65536) :
    Calls Tryd.prog 92 #[.string p] w fun e w' => e = .returned (.tuple #[.string (txt (ftext p.data.toList)), .int .i64 0]) ∧ Below w.heap.size w w' := by
  have h10 := vsz_le10 (n := p.size) (by omega)
  have hvs : (txt (vput p.size)).size = vsz p.size := by rw [txt_size, vput_length]
  have hP : ∀ x : World, Calls Tryd.prog 97 #[.int .u32 (csum p.data.toList : Int)] x fun e w' => e = .returned (.string (txt (cput (csum p.data.toList)))) ∧ Below x.heap.size x w' := fun x => cput_any _ x (csum_lt _)
  have hS : ∀ x : World, Calls Tryd.prog 98 #[.slice (some ⟨x.heap.size, 0, none⟩) 1 1] (x.alloc (.cells #[.string p] 9)) fun e w' => e = .returned (.int .u32 (csum p.data.toList : Int)) ∧ Below (x.alloc (.cells #[.string p] 9)).heap.size (x.alloc (.cells #[.string p] 9)) w' := fun x => sum_one p _ _ (BlkAt.made _ _ _) (by omega)
  have hcs : (txt (cput (csum p.data.toList))).size = 4 := rfl
  have hf : txt (ftext p.data.toList) = ByteArray.mk #[81, 70] ++ txt (vput p.size) ++ p ++ txt (cput (csum p.data.toList)) := by
    apply ByteArray.ext
    apply Array.toList_inj.1
    simp only [ByteArray.data_append, Array.toList_append, txt_list, ftext, len_list]
  rw [hf]
  generalize csum p.data.toList = C at hP hS hcs ⊢
  generalize txt (cput C) = Q at hP hcs ⊢
  have HP := Lib.hid hP
  have HS := Lib.hid hS
  clear hP hS hf
  have hV : ∀ x : World, Calls Tryd.prog 72 #[.int .u64 (p.size : Int)] x fun e w' => e = .returned (.string (txt (vput p.size))) ∧ Below x.heap.size x w' := fun x => put_any _ x (by unfold In64; omega)
  generalize txt (vput p.size) = V at hV hvs ⊢
  have HV := Lib.hid hV
  clear hV
  go_enter Tryd.func92, Tryd.ntmps92
  go_wp2_with fail
  refine (HV.out _).mono ?_
  rintro e w1 ⟨rfl, hb1⟩
  go_wp2_with fail
  refine (HS.out _).mono ?_
  rintro e w2 ⟨rfl, hb2⟩
  go_wp2_with fail
  refine (HP.out _).mono ?_
  rintro e w3 ⟨rfl, hb3⟩
  go_wp2
  go_ret2
  exact ⟨rfl, bb (bb (ba hb1 _) hb2) hb3⟩
def Mk (l : List UInt8) (i : Nat) : Prop := i = 0 ∨ (i = 1 ∧ 1 ≤ l.length ∧ l.getD 0 0 = 81) ∨ (i = 2 ∧ fmark l = 0)
theorem marked_any (s : ByteArray) (w : World) (hs : s.size ≤ 9223372036854775807) :
    Calls Tryd.prog 94 #[.string s] w fun e w' => e = .returned (.int .i64 (fmark s.data.toList : Int)) ∧ Below w.heap.size w w' := by
  have hk0 : ((ByteArray.mk #[81, 70])[0]'(by decide)).toNat = 81 := rfl
  have hk1 : ((ByteArray.mk #[81, 70])[1]'(by decide)).toNat = 70 := rfl
  go_enter Tryd.func94, Tryd.ntmps94
  go_wp2
  go_loopw [4] (fun k wr => ∃ i : Nat, k = .int .i64 (i : Int) ∧ Mk s.data.toList i ∧ Below w.heap.size w wr) (fun k _ => 2 - (intOf k).toNat)
  case atStart => exact ⟨0, rfl, .inl rfl, b0⟩
  case round =>
    obtain ⟨i, rfl, hm, hb⟩ := hrel
    have HB := Lib.hid hb
    clear hb
    rcases hm with rfl | ⟨rfl, h1, h0⟩ | ⟨rfl, h2⟩
    · by_cases hz : s.size = 0
      · have hz' : ((0 : Int) == (s.size : Int)) = true := by rw [beq_iff_eq]; omega
        have hfm : fmark s.data.toList = 1 := by unfold fmark; rw [if_pos (by rw [len_list]; exact hz)]
        clear hz
        go_wp2
        go_ret
        rw [hfm]
        exact ⟨rfl, HB.out⟩
      · have hp : 0 < s.size := by omega
        have hz' : ((0 : Int) == (s.size : Int)) = false := by rw [beq_eq_false_iff_ne]; omega
        have hg := getD_at s 0 hp
        by_cases h8 : s[0].toNat = 81
        · have hn : ((s[0].toNat : Int) != 81) = false := by rw [bne_eq_false_iff_eq]; omega
          have hmk : Mk s.data.toList 1 := .inr (.inl ⟨rfl, by rw [len_list]; omega, by rw [hg]; exact UInt8.toNat_inj.1 (by rw [h8]; rfl)⟩)
          have HM := Lib.hid hmk
          clear hmk hg
          go_wp2
          go_quiet (fail)
          go_wp2
          go_roundw
          case rel => exact ⟨1, by go_num, HM.out, bn HB.out _⟩
          case measure => simp [intOf]
        · have hn : ((s[0].toNat : Int) != 81) = true := by rw [bne_iff_ne]; omega
          have hfm : fmark s.data.toList = 5 := by
            unfold fmark
            rw [if_neg (by rw [len_list]; exact hz), if_pos (by rw [hg]; intro e; exact h8 (by rw [e]; rfl))]
          have HF := Lib.hid hfm
          clear hfm hg
          go_wp2
          go_quiet (fail)
          go_wp2
          go_ret
          rw [HF.out]
          exact ⟨rfl, bn HB.out _⟩
    · rw [len_list] at h1
      by_cases hz : s.size = 1
      · have hfm : fmark s.data.toList = 1 := by
          unfold fmark
          rw [if_neg (by rw [len_list]; omega), if_neg (by rw [h0]; simp), if_pos (by rw [len_list]; exact hz)]
        have HF := Lib.hid hfm
        have hz' : ((1 : Int) == (s.size : Int)) = true := by rw [beq_iff_eq]; omega
        clear hfm h0 hz
        go_wp2
        go_ret
        rw [HF.out]
        exact ⟨rfl, HB.out⟩
      · have hp : 1 < s.size := by omega
        have hz' : ((1 : Int) == (s.size : Int)) = false := by rw [beq_eq_false_iff_ne]; omega
        have hg := getD_at s 1 hp
        by_cases h8 : s[1].toNat = 70
        · have hn : ((s[1].toNat : Int) != 70) = false := by rw [bne_eq_false_iff_eq]; omega
          have hmk : Mk s.data.toList 2 := .inr (.inr ⟨rfl, by
            unfold fmark
            rw [if_neg (by rw [len_list]; omega), if_neg (by rw [h0]; simp), if_neg (by rw [len_list]; exact hz), if_neg (by rw [hg]; intro e; exact e (UInt8.toNat_inj.1 (by rw [h8]; rfl)))]⟩)
          have HM := Lib.hid hmk
          clear hmk hg h0 h1 hz
          go_wp2
          go_quiet (fail)
          go_wp2
          go_roundw
          case rel => exact ⟨2, by go_num, HM.out, bn HB.out _⟩
          case measure => simp [intOf]
        · have hn : ((s[1].toNat : Int) != 70) = true := by rw [bne_iff_ne]; omega
          have hfm : fmark s.data.toList = 5 := by
            unfold fmark
            rw [if_neg (by rw [len_list]; omega), if_neg (by rw [h0]; simp), if_neg (by rw [len_list]; exact hz), if_pos (by rw [hg]; intro e; exact h8 (by rw [e]; rfl))]
          have HF := Lib.hid hfm
          have hp2 : (1 : Int) < (s.size : Int) := by omega
          have hp3 : s.size ≠ 0 := by omega
          clear hfm hg h0 h1 hz
          go_wp2
          go_quiet (fail)
          go_wp2
          go_ret
          rw [HF.out]
          exact ⟨rfl, bn HB.out _⟩
    · have HF := Lib.hid h2
      clear h2
      go_wp2
      go_ret
      rw [HF.out]
      exact ⟨rfl, HB.out⟩
end Go.Proofs.YtmlijflappjfoaaDoor
