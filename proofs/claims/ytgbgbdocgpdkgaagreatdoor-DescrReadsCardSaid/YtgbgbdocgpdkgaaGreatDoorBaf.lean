/-
  Texts of the proof, joined: Frame2 Ref05 Descr1 EntEq Descr2 Frame3 CursorLaw VarintLaw PlainMore VarintLaw2 Zigzag ZigzagLaw CrcLaw FrameLaw PlainTurn FrameBack Deframe. Conditions: as each names.
-/
import Derived.Test.YtgbgbdocgpdkgaaGreatDoorBae
import Derived.Test.YtgbgbdocgpdkgaaGreatDoorBad
import Derived.Test.YtgbgbdocgpdkgaaGreatDoorBac
import Derived.Laws.StructEq
import Derived.Shelf.SlicesE.Kit
import Derived.Test.YtgbgbdocgpdkgaaGreatDoorBaa
import Derived.Test.YtgbgbdocgpdkgaaGreatDoorBab

section
/-
  Contracts of layer 5: a frame read. Conditions: texts within int.
-/
namespace Go.Proofs.YtgbgbdocgpdkgaaGreatDoor
open Go.RowKit Go.PM
set_option maxRecDepth 100000

theorem fparse_mark {l : List UInt8} (h : fmark l ≠ 0) : fparse l = ([], 0, fmark l) := by unfold fparse; rw [if_pos h]
theorem fparse_body {l : List UInt8} (h : fmark l = 0) : fparse l = fbody l := by unfold fparse; rw [if_neg (by omega)]
theorem fmark_two {l : List UInt8} (h : fmark l = 0) : 2 ≤ l.length := by
  rcases fmark_cases l with ⟨_, r, rfl⟩ | ⟨h1, _⟩ | h1
  · simp
  · omega
  · omega
theorem vpos {l : List UInt8} (h : (vget l).2.2 = 0) : (vget l).2.1 = vsz (vget l).1 := by
  obtain ⟨_, k2, _, _, k5⟩ := vget_ok h
  rw [← vput_length, k5, List.length_take]
  omega
theorem fbody_of (l : List UInt8) (n k g : Nat) (hV : vget (l.drop 2) = (n, k, g)) : fbody l =
    if g ≠ 0 then ([], 0, g) else if 65536 < n then ([], 0, 4) else if (l.drop (2 + k)).length < n + 4 then ([], 0, 1)
    else if cget (((l.drop (2 + k)).drop n).take 4) ≠ csum ((l.drop (2 + k)).take n) then ([], 0, 6) else ((l.drop (2 + k)).take n, fsize n, 0) := by
  unfold fbody
  simp only [hV]

theorem parse_any (s : ByteArray) (w : World) (hs : s.size ≤ 9223372036854775807) :
    Calls Tryz.prog 132 #[.string s] w fun e w' =>
      e = .returned (.tuple #[.string (txt (fparse s.data.toList).1), .int .i64 ((fparse s.data.toList).2.1 : Int), .int .i64 ((fparse s.data.toList).2.2 : Int)]) ∧ Below w.heap.size w w' := by
  have HM : Hid (∀ x : World, Calls Tryz.prog 136 #[.string s] x fun e w' => e = .returned (.int .i64 (fmark s.data.toList : Int)) ∧ Below x.heap.size x w') := fun x => marked_any s x hs
  by_cases hm : fmark s.data.toList = 0
  · rw [fparse_body hm]
    rw [hm] at HM
    have h2 := fmark_two hm
    rw [len_list] at h2
    generalize hV : vget (s.data.toList.drop 2) = V
    obtain ⟨n, k, g⟩ := V
    have hbo := fbody_of _ n k g hV
    have HG : Hid (∀ x : World, Calls Tryz.prog 59 #[.string (s.extract 2 s.size)] x fun e w' => e = .returned (.tuple #[.int .u64 (n : Int), .int .i64 (k : Int), .int .i64 (g : Int)]) ∧ Below x.heap.size x w') := fun x => by
      have := get_any (s.extract 2 s.size) x (by simp; omega)
      rw [ext_rest, hV] at this
      exact this
    by_cases hg : g = 0
    · subst hg
      have hok := vget_ok (s := s.data.toList.drop 2) (by rw [hV])
      have hvp := vpos (l := s.data.toList.drop 2) (by rw [hV])
      rw [hV] at hok hvp
      obtain ⟨k1, k2, k3, k4, _⟩ := hok
      simp only at k1 k2 k3 k4 hvp
      rw [List.length_drop, len_list] at k2
      rw [if_neg (by omega)] at hbo
      clear hV hm
      by_cases hn : 65536 < n
      · rw [if_pos hn] at hbo
        rw [hbo]
        clear hbo hvp
        go_enter Tryz.func132, Tryz.ntmps132
        go_wp2_with fail
        refine (HM.out _).mono ?_
        rintro e w1 ⟨rfl, hb1⟩
        go_wp2_with fail
        refine (HG.out _).mono ?_
        rintro e w2 ⟨rfl, hb2⟩
        go_wp2
        go_ret3
        exact ⟨rfl, bb hb1 hb2⟩
      · rw [if_neg hn] at hbo
        have hbl : (s.data.toList.drop (2 + k)).length = s.size - (2 + k) := by rw [List.length_drop, len_list]
        have hks : 2 + k ≤ s.size := by omega
        clear k2 k3 k4
        by_cases hsh : s.size - (2 + k) < n + 4
        · rw [if_pos (by rw [hbl]; exact hsh)] at hbo
          rw [hbo]
          clear hbo hvp hbl
          go_enter Tryz.func132, Tryz.ntmps132
          go_wp2_with fail
          refine (HM.out _).mono ?_
          rintro e w1 ⟨rfl, hb1⟩
          go_wp2_with fail
          refine (HG.out _).mono ?_
          rintro e w2 ⟨rfl, hb2⟩
          go_wp2
          go_ret3
          exact ⟨rfl, bb hb1 hb2⟩
        · rw [if_neg (by rw [hbl]; exact hsh)] at hbo
          have hP : ((s.extract (2 + k) s.size).extract 0 n).data.toList = (s.data.toList.drop (2 + k)).take n := by rw [ext_list, ext_rest]; simp
          have hQ : ((s.extract (2 + k) s.size).extract n (n + 4)).data.toList = ((s.data.toList.drop (2 + k)).drop n).take 4 := by rw [ext_list, ext_rest]; simp
          rw [← hP, ← hQ] at hbo
          have hqs : ((s.extract (2 + k) s.size).extract n (n + 4)).size = 4 := by simp; omega
          have hps : ((s.extract (2 + k) s.size).extract 0 n).size ≤ 65536 := by simp; omega
          have hC : ∀ x : World, Calls Tryz.prog 137 #[.string ((s.extract (2 + k) s.size).extract 0 n), .string ((s.extract (2 + k) s.size).extract n (n + 4))] x fun e w' => e = .returned (.bool (decide (cget ((s.extract (2 + k) s.size).extract n (n + 4)).data.toList = csum ((s.extract (2 + k) s.size).extract 0 n).data.toList))) ∧ Below x.heap.size x w' := fun x => check_any _ _ x (by omega) hqs
          have HC := Lib.hid hC
          have HSZ : Hid (∀ x : World, Calls Tryz.prog 138 #[.int .i64 (n : Int)] x fun e w' => e = .returned (.int .i64 (fsize n : Int)) ∧ Below x.heap.size x w') := fun x => fsize_yes n x (by omega)
          clear hC hP hQ hvp hbl hqs hps
          by_cases hck : cget ((s.extract (2 + k) s.size).extract n (n + 4)).data.toList = csum ((s.extract (2 + k) s.size).extract 0 n).data.toList
          · rw [if_neg (by simp only [ne_eq, Decidable.not_not]; exact hck)] at hbo
            rw [hbo]
            rw [decide_eq_true hck] at HC
            have HX := Lib.hid (txt_of ((s.extract (2 + k) s.size).extract 0 n))
            clear hbo hck
            go_enter Tryz.func132, Tryz.ntmps132
            go_wp2_with fail
            refine (HM.out _).mono ?_
            rintro e w1 ⟨rfl, hb1⟩
            go_wp2_with fail
            refine (HG.out _).mono ?_
            rintro e w2 ⟨rfl, hb2⟩
            go_wp2_with fail
            refine (HC.out _).mono ?_
            rintro e w3 ⟨rfl, hb3⟩
            go_wp2_with fail
            refine (HSZ.out _).mono ?_
            rintro e w4 ⟨rfl, hb4⟩
            go_wp2
            go_ret3
            rw [HX.out]
            exact ⟨rfl, bb (bb (bb hb1 hb2) hb3) hb4⟩
          · rw [if_pos hck] at hbo
            rw [hbo]
            rw [decide_eq_false hck] at HC
            clear hbo hck
            go_enter Tryz.func132, Tryz.ntmps132
            go_wp2_with fail
            refine (HM.out _).mono ?_
            rintro e w1 ⟨rfl, hb1⟩
            go_wp2_with fail
            refine (HG.out _).mono ?_
            rintro e w2 ⟨rfl, hb2⟩
            go_wp2_with fail
            refine (HC.out _).mono ?_
            rintro e w3 ⟨rfl, hb3⟩
            go_wp2
            go_ret3
            exact ⟨rfl, bb (bb hb1 hb2) hb3⟩
    · rw [if_pos hg] at hbo
      rw [hbo]
      have hgb : ((g : Int) != 0) = true := by rw [bne_iff_ne]; omega
      clear hbo hV hm hg
      go_enter Tryz.func132, Tryz.ntmps132
      go_wp2_with fail
      refine (HM.out _).mono ?_
      rintro e w1 ⟨rfl, hb1⟩
      go_wp2_with fail
      refine (HG.out _).mono ?_
      rintro e w2 ⟨rfl, hb2⟩
      go_wp2
      go_ret3
      exact ⟨rfl, bb hb1 hb2⟩
  · rw [fparse_mark hm]
    generalize fmark s.data.toList = m at hm HM
    have hmb : ((m : Int) != 0) = true := by rw [bne_iff_ne]; omega
    clear hm
    go_enter Tryz.func132, Tryz.ntmps132
    go_wp2_with fail
    refine (HM.out _).mono ?_
    rintro e w1 ⟨rfl, hb1⟩
    go_wp2
    go_ret3
    exact ⟨rfl, hb1⟩
end Go.Proofs.YtgbgbdocgpdkgaaGreatDoor
end

section
/-
  Contracts of the document's answer for layer 5. Conditions: texts of at most a million bytes.
-/
namespace Go.Proofs.YtgbgbdocgpdkgaaGreatDoor
open Go.RowKit Go.PM
set_option maxRecDepth 100000
set_option maxHeartbeats 4000000


theorem str_same {a b : ByteArray} (h : a = b) : (a.toList == b.toList) = true := by rw [h]; simp
theorem str_else {a b : ByteArray} (h : a ≠ b) : (a.toList == b.toList) = false := by
  rw [beq_eq_false_iff_ne, ByteArray.toList_eq, ByteArray.toList_eq]
  intro e
  exact h (ByteArray.ext (Array.toList_inj.1 e))
/-- A frame, as the document holds it against a text. -/
theorem text_iff (l : List UInt8) (n k : Nat) (hm : fmark l = 0) (hv : vput n = (l.drop 2).take k) (hk : k ≤ l.length - 2) (hlen : ¬ l.length - (2 + k) < n + 4) :
    ftext ((l.drop (2 + k)).take n) = l.take (2 + k + n + 4) ↔ cget (((l.drop (2 + k)).drop n).take 4) = csum ((l.drop (2 + k)).take n) := by
  rcases fmark_cases l with ⟨_, r, rfl⟩ | ⟨h1, _⟩ | h1
  · have hpl : ((List.drop (2 + k) (81 :: 70 :: r)).take n).length = n := by simp at hlen ⊢; omega
    unfold ftext
    rw [hpl, hv]
    have hd : List.drop (2 + k) (81 :: 70 :: r) = r.drop k := by rw [Nat.add_comm]; rfl
    rw [hd]
    have ht : List.take (2 + k + n + 4) (81 :: 70 :: r) = [81, 70] ++ r.take k ++ (r.drop k).take n ++ ((r.drop k).drop n).take 4 := by
      rw [show 2 + k + n + 4 = (k + (n + 4)) + 2 by omega]
      rw [List.take_succ_cons, List.take_succ_cons, List.take_add, List.take_add]
      simp
    rw [ht]
    show [81, 70] ++ r.take k ++ _ ++ _ = _ ↔ _
    rw [List.append_cancel_left_eq]
    have hql : (((r.drop k).drop n).take 4).length = 4 := by simp at hlen ⊢; omega
    constructor
    · intro e
      rw [← e, cput_get _ (csum_lt _)]
    · intro e
      rw [← e, cget_put _ hql]
  · omega
  · omega

end Go.Proofs.YtgbgbdocgpdkgaaGreatDoor
end

section
/-
  Layer 12: how many entries, one behind another, few of them, as the document's, two lists compared. Conditions: texts within int.
-/
namespace Go.Proofs.YtgbgbdocgpdkgaaGreatDoor
open Go.RowKit Go.PM
set_option maxRecDepth 100000
set_option maxHeartbeats 1000000
attribute [local go_sem ↓] Go.wp_at_zero Go.wp_at_succ

theorem many_any (n : Nat) (w : World) : Calls Tryz.prog 29 #[.int .u64 (n : Int)] w fun e w' => e = .returned (.int .i64 (dmany n)) ∧ w' = w := by
  unfold dmany
  by_cases h0 : n = 0
  · subst h0
    rw [if_pos rfl]
    go_enter Tryz.func29, Tryz.ntmps29
    go_wp2
    go_ret
    exact ⟨rfl, rfl⟩
  · rw [if_neg h0]
    have i0 : ((n : Int) == 0) = false := by rw [beq_eq_false_iff_ne]; omega
    by_cases h1 : 16 < n
    · rw [if_pos h1]
      have i1 : (16 : Int) < (n : Int) := by omega
      go_enter Tryz.func29, Tryz.ntmps29
      go_wp2
      go_ret
      exact ⟨rfl, rfl⟩
    · rw [if_neg h1]
      have i1 : ¬ (16 : Int) < (n : Int) := by omega
      go_enter Tryz.func29, Tryz.ntmps29
      go_wp2
      go_ret
      exact ⟨rfl, rfl⟩
theorem count_any12 (n : Nat) (w : World) : Calls Tryz.prog 38 #[.int .u64 (n : Int)] w fun e w' => e = .returned (.int .i64 (dmany n)) ∧ w' = w := by
  unfold dmany
  by_cases h0 : n = 0
  · subst h0
    rw [if_pos rfl]
    go_enter Tryz.func38, Tryz.ntmps38
    go_wp2
    go_ret
    exact ⟨rfl, rfl⟩
  · rw [if_neg h0]
    have i0 : ((n : Int) == 0) = false := by rw [beq_eq_false_iff_ne]; omega
    by_cases h1 : 16 < n
    · rw [if_pos h1]
      have i1 : (16 : Int) < (n : Int) := by omega
      go_enter Tryz.func38, Tryz.ntmps38
      go_wp2
      go_ret
      exact ⟨rfl, rfl⟩
    · rw [if_neg h1]
      have i1 : ¬ (16 : Int) < (n : Int) := by omega
      go_enter Tryz.func38, Tryz.ntmps38
      go_wp2
      go_ret
      exact ⟨rfl, rfl⟩
theorem behind_any (a k : ByteArray) (w : World) : Calls Tryz.prog 43 #[.string a, .string k] w fun e w' => e = .returned (.int .i64 (dbeh a.data.toList k.data.toList)) ∧ w' = w := by
  unfold dbeh
  have hl := less_cmp k.data.toList a.data.toList
  rw [← ByteArray.toList_eq, ← ByteArray.toList_eq] at hl
  rw [← ByteArray.toList_eq, ← ByteArray.toList_eq]
  by_cases h0 : k.toList = a.toList
  · rw [if_pos h0]
    have i0 : (k.toList == a.toList) = true := by rw [beq_iff_eq]; exact h0
    clear h0 hl
    go_enter Tryz.func43, Tryz.ntmps43
    go_wp2
    go_ret
    exact ⟨rfl, rfl⟩
  · rw [if_neg h0]
    have i0 : (k.toList == a.toList) = false := by rw [beq_eq_false_iff_ne]; exact h0
    clear h0
    by_cases h1 : Lib.compareBytes k.toList a.toList < 0
    · rw [if_pos h1]
      rw [decide_eq_true h1] at hl
      clear h1
      go_enter Tryz.func43, Tryz.ntmps43
      go_wp2
      go_ret
      exact ⟨rfl, rfl⟩
    · rw [if_neg h1]
      rw [decide_eq_false h1] at hl
      clear h1
      go_enter Tryz.func43, Tryz.ntmps43
      go_wp2
      go_ret
      exact ⟨rfl, rfl⟩
/-- At most 40, of 600 bytes each. -/
def efew (l : List Ent) : Bool := l.all (fun e => decide (e.1.length + e.2.length ≤ 600)) && decide (l.length ≤ 40)
/-- Texts that a machine can hold. -/
def ESz (l : List Ent) : Prop := ∀ e ∈ l, e.1.length ≤ 140737488351232 ∧ e.2.length ≤ 140737488351232
theorem efew_any (A : Option Addr) (cap : Nat) (l : List Ent) (w : World) (hr : Rd w A (ents l)) (hz : ESz l) (hl : l.length ≤ 9223372036854775807) :
    Calls Tryz.prog 8 #[.slice A l.length cap] w fun e w' => e = .returned (.bool (efew l)) ∧ Below w.heap.size w w' := by
  have HR := Lib.hid hr
  have HZ := Lib.hid hz
  have H0 : Hid (efew l = ((l.drop 0).all (fun e => decide (e.1.length + e.2.length ≤ 600)) && decide (l.length ≤ 40))) := rfl
  generalize hF : efew l = F at H0 ⊢
  clear hr hz hF
  go_enter Tryz.func8, Tryz.ntmps8
  go_wp2_with fail
  go_loopg [7] l.length (fun gk ki wr => ∃ k : Nat, k ≤ l.length ∧ l.length - k ≤ gk ∧ ki = .int .i64 (k : Int) ∧ Hid (F = ((l.drop k).all (fun e => decide (e.1.length + e.2.length ≤ 600)) && decide (l.length ≤ 40))) ∧ Below w.heap.size w wr)
  case atStart => exact ⟨0, Nat.zero_le _, by omega, rfl, H0, b0⟩
  case round =>
    obtain ⟨k, hk, hgk, rfl, HM, hbel⟩ := hrel
    have HB := Lib.hid hbel
    by_cases hlt : k < l.length
    · obtain ⟨b, off, rfl, hbl, c0, c1⟩ := (HR.out.below hbel).ent hlt
      obtain ⟨z0, z1⟩ := HZ.out _ (List.getElem_mem hlt)
      have hm := HM.out
      rw [List.drop_eq_getElem_cons hlt, List.all_cons] at hm
      have HM2 := Lib.hid hm
      clear hm HM hbel H0
      generalize l[k] = x at *
      obtain ⟨x0, x1⟩ := x
      simp only at c0 c1 z0 z1
      have s0 := txt_size x0
      have s1 := txt_size x1
      by_cases hbig : 600 < x0.length + x1.length
      · have hm := HM2.out
        simp only [show decide (x0.length + x1.length ≤ 600) = false from decide_eq_false (by omega), Bool.false_and] at hm
        subst hm
        have hi : (600 : Int) < ((txt x0).size : Int) + ((txt x1).size : Int) := by rw [s0, s1]; omega
        rw [← s0] at z0
        rw [← s1] at z1
        clear HM2 s0 s1 hbig
        go_wp2_with fail
        go_ret
        exact ⟨rfl, ba HB.out _⟩
      · have hm := HM2.out
        simp only [show decide (x0.length + x1.length ≤ 600) = true from decide_eq_true (by omega), Bool.true_and] at hm
        have HM3 := Lib.hid hm
        have hi : ¬ (600 : Int) < ((txt x0).size : Int) + ((txt x1).size : Int) := by rw [s0, s1]; omega
        rw [← s0] at z0
        rw [← s1] at z1
        clear HM2 s0 s1 hbig hm
        go_wp2_with fail
        go_roundg (l.length - (k + 1))
        case measure => omega
        case rel => exact ⟨k + 1, by omega, Nat.le_refl _, by go_num, HM3, ba HB.out _⟩
    · obtain rfl : k = l.length := by omega
      have hm := HM.out
      rw [List.drop_of_length_le (Nat.le_refl _), List.all_nil, Bool.true_and] at hm
      have hd : decide ((l.length : Int) ≤ 40) = F := by rw [hm, decide_eq_decide]; omega
      clear hbel hm HM H0
      go_wp2_with fail
      go_ret
      exact ⟨rfl, HB.out⟩
/-- A slice of entries. -/
def SlE (w : World) (v : Value) (l : List Ent) : Prop := ∃ A c, v = .slice A l.length c ∧ Rd w A (ents l) ∧ l.length ≤ c
/-- Where the loop of To stands. -/
def ToAt (T : TypeId) (w : World) (l : List Ent) (out : Value) (wr : World) : Prop := wr.ownsRow w.heap.size T 2 out l.length (ents l) ∧ Below w.heap.size w wr
theorem info_ent : (Tryz.prog.info? 32).map (fun i => (i.zero, i.size, i.bytes)) = some (some zent, 2, 32) := by kernel_rfl
theorem info_rent : (Tryz.prog.info? 44).map (fun i => (i.zero, i.size, i.bytes)) = some (some zent, 2, 32) := by kernel_rfl
theorem to_any (A : Option Addr) (cap : Nat) (l : List Ent) (w : World) (hr : Rd w A (ents l)) (hl : l.length ≤ 100000) :
    Calls Tryz.prog 14 #[.slice A l.length cap] w fun e w' => ∃ v, e = .returned v ∧ SlE w' v l ∧ Below w.heap.size w w' := by
  have HR := Lib.hid hr
  have H0 : Hid (ToAt 44 w (l.take 0) (.slice none 0 0) w) := ⟨World.ownsRow_nil _ _ _ _, b0⟩
  obtain ⟨i0, hi0, hz0, hz1, hz2⟩ := info_parts info_rent
  clear hr
  go_enter Tryz.func14, Tryz.ntmps14
  go_wp2_with fail
  go_loopg [3, 8] l.length (fun gk out ki wr => ∃ k : Nat, k ≤ l.length ∧ l.length - k ≤ gk ∧ ki = .int .i64 (k : Int) ∧ Hid (ToAt 44 w (l.take k) out wr))
  case atStart => exact ⟨0, Nat.zero_le _, by omega, rfl, H0⟩
  case round =>
    obtain ⟨k, hk, hgk, rfl, HM⟩ := hrel
    by_cases hlt : k < l.length
    · obtain ⟨hown, hbel⟩ := HM.out
      obtain ⟨b, off, rfl, hbl, c0, c1⟩ := (HR.out.below hbel).ent hlt
      have htk : l.take (k + 1) = l.take k ++ [l[k]] := (List.take_append_getElem hlt).symm
      have HTK := Lib.hid htk
      have htl : (l.take k).length = k := by rw [List.length_take]; omega
      obtain ⟨A1, c1', rfl, _⟩ := Rd.own hown
      generalize hL : l.take k = L at *
      generalize l[k] = x at *
      have hy := World.news_of_block (cs := #[.string (txt x.1), .string (txt x.2)]) (t := 44) (fr := (0, 0)) (heap_alloc_new (wr.alloc (.cells #[.string (txt x.1), .string (txt x.2)] 32)) (.cells #[.string (txt x.1), .string (txt x.2)] 44))
      have hbo : Below wr.heap.size wr ((wr.alloc (.cells #[.string (txt x.1), .string (txt x.2)] 32)).alloc (.cells #[.string (txt x.1), .string (txt x.2)] 44)) := ba (ba b0 _) _
      have hrd : Rd ((wr.alloc (.cells #[.string (txt x.1), .string (txt x.2)] 32)).alloc (.cells #[.string (txt x.1), .string (txt x.2)] 44)) (some ⟨(wr.alloc (.cells #[.string (txt x.1), .string (txt x.2)] 32)).heap.size, 0, none⟩) (ents [x]) := by
        refine .inr ⟨_, _, rfl, by simp, fun j u hj => ?_⟩
        have := hy j u hj
        rwa [add_at, ← Nat.zero_add j] at this
      obtain ⟨A2, c2, w3, hrun, hown3, hgr, hat⟩ := eapp_run 35 35 44 i0 Tryz.underlying35 hi0 hz0 hz1 hz2 (d := 1) (own_below hown hbo) hrd (by simp only [List.length_singleton]; omega) (Nat.le_trans hbel.size hbo.size)
      have hbN : Below w.heap.size w w3 := below_append (a := w) (e := 44) (bb hbel hbo) (own_below hown hbo) hgr
      have hn1 : L.length + [x].length = k + 1 := by rw [htl]; rfl
      have HN : Hid (ToAt 44 w (l.take (k + 1)) (.slice A2 (k + 1) c2) w3) := by
        unfold ToAt
        rw [HTK.out]
        rw [hn1] at hown3
        refine ⟨?_, hbN⟩
        rw [List.length_append, hn1]
        exact hown3
      rw [hn1] at hrun
      rw [htl] at hrun
      simp only [World.size_alloc] at hrun
      have HRUN := Lib.hid hrun
      clear hown hbel htk hy hbo hrd hown3 hgr hat hbN HTK HM H0 hrun hn1 hL
      rw [htl]
      clear htl
      go_wp2_with (at_builtin; (refine wpList_append_run rfl _ _ _ _ rfl _ _ _ rfl rfl HRUN.out ?_))
      go_roundg (l.length - (k + 1))
      case measure => omega
      case rel => exact ⟨k + 1, by omega, Nat.le_refl _, by go_num, HN⟩
    · obtain rfl : k = l.length := by omega
      obtain ⟨hown, hbel⟩ := HM.out
      rw [List.take_of_length_le (Nat.le_refl _)] at hown
      obtain ⟨A1, c1', rfl, hrd, hc, _⟩ := Rd.own hown
      have HE : Hid (SlE wr (.slice A1 l.length c1') l ∧ Below w.heap.size w wr) := ⟨⟨A1, c1', rfl, hrd, hc⟩, hbel⟩
      clear hown hbel hrd HM H0
      go_wp2_with fail
      go_ret
      exact ⟨_, rfl, HE.out⟩
end Go.Proofs.YtgbgbdocgpdkgaaGreatDoor
end

section
/-
  Entries compared by '==' and '!='. Plain theorems, over the program.
-/
namespace Go.Proofs.YtgbgbdocgpdkgaaGreatDoor
open Go.RowKit Go.PM
set_option maxRecDepth 100000
set_option maxHeartbeats 1000000

theorem ent_eql (x y x' y' : ByteArray) (w : World) : (binOp .eql 32 (.agg #[.string x, .string y]) (.agg #[.string x', .string y'])).run Tryz.prog w = .ok (.bool (decide (x = x' ∧ y = y'))) w := by
  have u9 := Tryz.underlying9
  have a9 := Tryz.isAgg9
  have z9 := Tryz.sizeOf9
  have hS : Tryz.prog.underlying 32 = some (.struct (Tryz.prog.fieldsOf 32)) := by kernel_rfl
  have hp : Tryz.prog.stoodInHeld 32 = false := by kernel_rfl
  have e1 : (x.data = x'.data) = (x = x') := propext ⟨ByteArray.ext, congrArg _⟩
  have e2 : (y.data = y'.data) = (y = y') := propext ⟨ByteArray.ext, congrArg _⟩
  rw [run_eql_struct, show (10000 : Nat) = 9999 + 1 from rfl, run_equalIn_agg w 9999 _ _ _ hS hp]
  simp only [Program.fieldsOf, Tryz.underlying32]
  go_simp
  by_cases h1 : x = x' <;> by_cases h2 : y = y' <;> simp [h1, h2, ByteArray.toList_eq, e1, e2]
theorem ent_neq (x y x' y' : ByteArray) (w : World) : (binOp .neq 32 (.agg #[.string x, .string y]) (.agg #[.string x', .string y'])).run Tryz.prog w = .ok (.bool (!decide (x = x' ∧ y = y'))) w := by
  have u9 := Tryz.underlying9
  have a9 := Tryz.isAgg9
  have z9 := Tryz.sizeOf9
  have hS : Tryz.prog.underlying 32 = some (.struct (Tryz.prog.fieldsOf 32)) := by kernel_rfl
  have hp : Tryz.prog.stoodInHeld 32 = false := by kernel_rfl
  have e1 : (x.data = x'.data) = (x = x') := propext ⟨ByteArray.ext, congrArg _⟩
  have e2 : (y.data = y'.data) = (y = y') := propext ⟨ByteArray.ext, congrArg _⟩
  rw [run_neq_struct, show (10000 : Nat) = 9999 + 1 from rfl, run_equalIn_agg w 9999 _ _ _ hS hp]
  simp only [Program.fieldsOf, Tryz.underlying32]
  go_simp
  by_cases h1 : x = x' <;> by_cases h2 : y = y' <;> simp [h1, h2, ByteArray.toList_eq, e1, e2]
theorem ent_guard : Tryz.prog.eqGuardType Tryz.prog.depth 32 = false := by kernel_rfl
theorem rent_eql (x y x' y' : ByteArray) (w : World) : (binOp .eql 44 (.agg #[.string x, .string y]) (.agg #[.string x', .string y'])).run Tryz.prog w = .ok (.bool (decide (x = x' ∧ y = y'))) w := by
  have u9 := Tryz.underlying9
  have a9 := Tryz.isAgg9
  have z9 := Tryz.sizeOf9
  have hS : Tryz.prog.underlying 44 = some (.struct (Tryz.prog.fieldsOf 44)) := by kernel_rfl
  have hp : Tryz.prog.stoodInHeld 44 = false := by kernel_rfl
  have e1 : (x.data = x'.data) = (x = x') := propext ⟨ByteArray.ext, congrArg _⟩
  have e2 : (y.data = y'.data) = (y = y') := propext ⟨ByteArray.ext, congrArg _⟩
  rw [run_eql_struct, show (10000 : Nat) = 9999 + 1 from rfl, run_equalIn_agg w 9999 _ _ _ hS hp]
  simp only [Program.fieldsOf, Tryz.underlying44]
  go_simp
  by_cases h1 : x = x' <;> by_cases h2 : y = y' <;> simp [h1, h2, ByteArray.toList_eq, e1, e2]
theorem rent_neq (x y x' y' : ByteArray) (w : World) : (binOp .neq 44 (.agg #[.string x, .string y]) (.agg #[.string x', .string y'])).run Tryz.prog w = .ok (.bool (!decide (x = x' ∧ y = y'))) w := by
  have u9 := Tryz.underlying9
  have a9 := Tryz.isAgg9
  have z9 := Tryz.sizeOf9
  have hS : Tryz.prog.underlying 44 = some (.struct (Tryz.prog.fieldsOf 44)) := by kernel_rfl
  have hp : Tryz.prog.stoodInHeld 44 = false := by kernel_rfl
  have e1 : (x.data = x'.data) = (x = x') := propext ⟨ByteArray.ext, congrArg _⟩
  have e2 : (y.data = y'.data) = (y = y') := propext ⟨ByteArray.ext, congrArg _⟩
  rw [run_neq_struct, show (10000 : Nat) = 9999 + 1 from rfl, run_equalIn_agg w 9999 _ _ _ hS hp]
  simp only [Program.fieldsOf, Tryz.underlying44]
  go_simp
  by_cases h1 : x = x' <;> by_cases h2 : y = y' <;> simp [h1, h2, ByteArray.toList_eq, e1, e2]
theorem rent_guard : Tryz.prog.eqGuardType Tryz.prog.depth 44 = false := by kernel_rfl
end Go.Proofs.YtgbgbdocgpdkgaaGreatDoor
end

section
/-
  Layer 12: two lists of entries compared; the value of a key. Conditions: lists within int.
-/
namespace Go.Proofs.YtgbgbdocgpdkgaaGreatDoor
open Go.RowKit Go.PM
set_option maxRecDepth 100000
set_option maxHeartbeats 1000000
attribute [local go_sem ↓] Go.wp_at_zero Go.wp_at_succ

theorem txt_inj {a b : List UInt8} : txt a = txt b ↔ a = b := ⟨fun h => by have := congrArg (fun s : ByteArray => s.data.toList) h; exact this, fun h => by rw [h]⟩
theorem eequ_any (A B : Option Addr) (c d : Nat) (l m : List Ent) (w : World) (hr : Rd w A (ents l)) (hs : Rd w B (ents m)) (hl : l.length ≤ 9223372036854775807) :
    Calls Tryz.prog 11 #[.slice A l.length c, .slice B m.length d] w fun e w' => e = .returned (.bool (decide (l = m))) ∧ Below w.heap.size w w' := by
  have HR := Lib.hid hr
  have HS := Lib.hid hs
  have hneq := fun x y x' y' => ent_neq x y x' y'
  have hgd := ent_guard
  clear hr hs
  generalize hF : decide (l = m) = F
  by_cases hlm : l.length = m.length
  · have H0 : Hid (F = decide (l.drop 0 = m.drop 0)) := hF.symm
    clear hF
    go_enter Tryz.func11, Tryz.ntmps11
    have hnm : (((l.length : Nat) : Int) != ((m.length : Nat) : Int)) = false := by rw [hlm]; simp
    have HLM := Lib.hid hlm
    clear hlm
    go_wp2_with fail
    go_loopg [13] l.length (fun gk ki wr => ∃ k : Nat, k ≤ l.length ∧ l.length - k ≤ gk ∧ ki = .int .i64 (k : Int) ∧ Hid (F = decide (l.drop k = m.drop k)) ∧ Below w.heap.size w wr)
    case atStart => exact ⟨0, Nat.zero_le _, by omega, rfl, H0, b0⟩
    case round =>
      obtain ⟨k, hk, hgk, rfl, HM, hbel⟩ := hrel
      have HB := Lib.hid hbel
      by_cases hlt : k < l.length
      · have hlt2 : k < m.length := by have := HLM.out; omega
        obtain ⟨b, off, rfl, hbl, c0, c1⟩ := (HR.out.below hbel).ent hlt
        obtain ⟨b', off', rfl, hbl', d0, d1⟩ := (HS.out.below hbel).ent hlt2
        have hm := HM.out
        rw [List.drop_eq_getElem_cons hlt, List.drop_eq_getElem_cons hlt2] at hm
        have HM2 := Lib.hid hm
        clear hm HM hbel H0
        generalize l[k] = x at *
        generalize m[k] = y at *
        obtain ⟨x0, x1⟩ := x
        obtain ⟨y0, y1⟩ := y
        simp only at c0 c1 d0 d1
        have hd : decide (txt x0 = txt y0 ∧ txt x1 = txt y1) = decide ((x0, x1) = (y0, y1)) := by
          rw [decide_eq_decide, txt_inj, txt_inj, Prod.mk.injEq]
        by_cases he : (x0, x1) = (y0, y1)
        · have HN : Hid (F = decide (l.drop (k + 1) = m.drop (k + 1))) := by
            show _ = _
            rw [HM2.out, he]
            simp
          rw [decide_eq_true he] at hd
          clear HM2 he
          go_wp2_with fail
          go_quiet (fail)
          go_wp2_with fail
          go_roundg (l.length - (k + 1))
          case measure => omega
          case rel => exact ⟨k + 1, by omega, Nat.le_refl _, by go_num, HN, bn HB.out _⟩
        · have HN : F = false := by
            rw [HM2.out, decide_eq_false]
            intro e
            injection e with e _
            exact he e
          subst HN
          rw [decide_eq_false he] at hd
          clear HM2 he
          go_wp2_with fail
          go_quiet (fail)
          go_wp2_with fail
          go_ret
          exact ⟨rfl, bn HB.out _⟩
      · obtain rfl : k = l.length := by omega
        have hm := HM.out
        rw [List.drop_of_length_le (Nat.le_refl _), HLM.out, List.drop_of_length_le (Nat.le_refl _)] at hm
        have hF : F = true := by rw [hm]; rfl
        subst hF
        clear hbel hm HM H0
        go_wp2_with fail
        go_ret
        exact ⟨rfl, HB.out⟩
  · have hFf : F = false := by rw [← hF]; exact decide_eq_false fun e => hlm (by rw [e])
    subst hFf
    have hnm : (((l.length : Nat) : Int) != ((m.length : Nat) : Int)) = true := by rw [bne_iff_ne]; omega
    clear hlm hF
    go_enter Tryz.func11, Tryz.ntmps11
    go_wp2_with fail
    go_ret
    exact ⟨rfl, b0⟩
theorem requ_any (A B : Option Addr) (c d : Nat) (l m : List Ent) (w : World) (hr : Rd w A (ents l)) (hs : Rd w B (ents m)) (hl : l.length ≤ 9223372036854775807) :
    Calls Tryz.prog 18 #[.slice A l.length c, .slice B m.length d] w fun e w' => e = .returned (.bool (decide (l = m))) ∧ Below w.heap.size w w' := by
  have HR := Lib.hid hr
  have HS := Lib.hid hs
  have hneq := fun x y x' y' => rent_neq x y x' y'
  have hgd := rent_guard
  clear hr hs
  generalize hF : decide (l = m) = F
  by_cases hlm : l.length = m.length
  · have H0 : Hid (F = decide (l.drop 0 = m.drop 0)) := hF.symm
    clear hF
    go_enter Tryz.func18, Tryz.ntmps18
    have hnm : (((l.length : Nat) : Int) != ((m.length : Nat) : Int)) = false := by rw [hlm]; simp
    have HLM := Lib.hid hlm
    clear hlm
    go_wp2_with fail
    go_loopg [13] l.length (fun gk ki wr => ∃ k : Nat, k ≤ l.length ∧ l.length - k ≤ gk ∧ ki = .int .i64 (k : Int) ∧ Hid (F = decide (l.drop k = m.drop k)) ∧ Below w.heap.size w wr)
    case atStart => exact ⟨0, Nat.zero_le _, by omega, rfl, H0, b0⟩
    case round =>
      obtain ⟨k, hk, hgk, rfl, HM, hbel⟩ := hrel
      have HB := Lib.hid hbel
      by_cases hlt : k < l.length
      · have hlt2 : k < m.length := by have := HLM.out; omega
        obtain ⟨b, off, rfl, hbl, c0, c1⟩ := (HR.out.below hbel).ent hlt
        obtain ⟨b', off', rfl, hbl', d0, d1⟩ := (HS.out.below hbel).ent hlt2
        have hm := HM.out
        rw [List.drop_eq_getElem_cons hlt, List.drop_eq_getElem_cons hlt2] at hm
        have HM2 := Lib.hid hm
        clear hm HM hbel H0
        generalize l[k] = x at *
        generalize m[k] = y at *
        obtain ⟨x0, x1⟩ := x
        obtain ⟨y0, y1⟩ := y
        simp only at c0 c1 d0 d1
        have hd : decide (txt x0 = txt y0 ∧ txt x1 = txt y1) = decide ((x0, x1) = (y0, y1)) := by
          rw [decide_eq_decide, txt_inj, txt_inj, Prod.mk.injEq]
        by_cases he : (x0, x1) = (y0, y1)
        · have HN : Hid (F = decide (l.drop (k + 1) = m.drop (k + 1))) := by
            show _ = _
            rw [HM2.out, he]
            simp
          rw [decide_eq_true he] at hd
          clear HM2 he
          go_wp2_with fail
          go_quiet (fail)
          go_wp2_with fail
          go_roundg (l.length - (k + 1))
          case measure => omega
          case rel => exact ⟨k + 1, by omega, Nat.le_refl _, by go_num, HN, bn HB.out _⟩
        · have HN : F = false := by
            rw [HM2.out, decide_eq_false]
            intro e
            injection e with e _
            exact he e
          subst HN
          rw [decide_eq_false he] at hd
          clear HM2 he
          go_wp2_with fail
          go_quiet (fail)
          go_wp2_with fail
          go_ret
          exact ⟨rfl, bn HB.out _⟩
      · obtain rfl : k = l.length := by omega
        have hm := HM.out
        rw [List.drop_of_length_le (Nat.le_refl _), HLM.out, List.drop_of_length_le (Nat.le_refl _)] at hm
        have hF : F = true := by rw [hm]; rfl
        subst hF
        clear hbel hm HM H0
        go_wp2_with fail
        go_ret
        exact ⟨rfl, HB.out⟩
  · have hFf : F = false := by rw [← hF]; exact decide_eq_false fun e => hlm (by rw [e])
    subst hFf
    have hnm : (((l.length : Nat) : Int) != ((m.length : Nat) : Int)) = true := by rw [bne_iff_ne]; omega
    clear hlm hF
    go_enter Tryz.func18, Tryz.ntmps18
    go_wp2_with fail
    go_ret
    exact ⟨rfl, b0⟩
/-- The value of the first entry of a key. -/
def dget (key : List UInt8) : List Ent → List UInt8 × Bool
  | [] => ([], false)
  | e :: r => if e.1 = key then (e.2, true) else dget key r
theorem get12_any (A : Option Addr) (c : Nat) (l : List Ent) (key : ByteArray) (w : World) (hr : Rd w A (ents l)) (hl : l.length ≤ 9223372036854775807) :
    Calls Tryz.prog 15 #[.slice A l.length c, .string key] w fun e w' => e = .returned (.tuple #[.string (txt (dget key.data.toList l).1), .bool (dget key.data.toList l).2]) ∧ Below w.heap.size w w' := by
  have HR := Lib.hid hr
  clear hr
  have H0 : Hid (dget key.data.toList l = dget key.data.toList (l.drop 0)) := rfl
  generalize dget key.data.toList l = F at H0 ⊢
  go_enter Tryz.func15, Tryz.ntmps15
  go_wp2_with fail
  go_loopg [10] l.length (fun gk ki wr => ∃ k : Nat, k ≤ l.length ∧ l.length - k ≤ gk ∧ ki = .int .i64 (k : Int) ∧ Hid (F = dget key.data.toList (l.drop k)) ∧ Below w.heap.size w wr)
  case atStart => exact ⟨0, Nat.zero_le _, by omega, rfl, H0, b0⟩
  case round =>
    obtain ⟨k, hk, hgk, rfl, HM, hbel⟩ := hrel
    have HB := Lib.hid hbel
    by_cases hlt : k < l.length
    · obtain ⟨b, off, rfl, hbl, c0, c1⟩ := (HR.out.below hbel).ent hlt
      have hm := HM.out
      rw [List.drop_eq_getElem_cons hlt, dget] at hm
      have HM2 := Lib.hid hm
      clear hm HM hbel H0
      generalize l[k] = x at *
      obtain ⟨x0, x1⟩ := x
      simp only at c0 c1 HM2
      by_cases he : x0 = key.data.toList
      · have hm := HM2.out
        rw [if_pos he] at hm
        have hs : ((txt x0).toList == key.toList) = true := str_same (by rw [he]; rfl)
        subst hm
        clear HM2 he
        go_wp2_with fail
        go_ret2
        exact ⟨rfl, ba HB.out _⟩
      · have hm := HM2.out
        rw [if_neg he] at hm
        have hs : ((txt x0).toList == key.toList) = false := str_else fun e => he (by rw [← e]; rfl)
        have HN := Lib.hid hm
        clear HM2 he hm
        go_wp2_with fail
        go_roundg (l.length - (k + 1))
        case measure => omega
        case rel => exact ⟨k + 1, by omega, Nat.le_refl _, by go_num, HN, ba HB.out _⟩
    · obtain rfl : k = l.length := by omega
      have hm := HM.out
      rw [List.drop_of_length_le (Nat.le_refl _)] at hm
      subst hm
      clear hbel HM H0
      go_wp2_with fail
      go_ret2
      exact ⟨rfl, HB.out⟩
end Go.Proofs.YtgbgbdocgpdkgaaGreatDoor
end

section
/-
  Contracts of layer 5: all frames of a text; two lists of texts held against each other. Conditions: texts of at most a million bytes.
-/
namespace Go.Proofs.YtgbgbdocgpdkgaaGreatDoor
open Go.RowKit Go.PM
set_option maxRecDepth 100000
set_option maxHeartbeats 4000000

theorem info_str : (Tryz.prog.info? 9).map (fun i => (i.zero, i.size, i.bytes)) = some (some (.string ByteArray.empty), 1, 16) := by kernel_rfl

/-- All frames, on the way. -/
def FallOf (S done : List ByteArray) (c : Nat) (R : List UInt8) : Prop := (if (fall R).2 = 0 then (done ++ (fall R).1.map txt, 0) else ([], (fall R).2)) = (S, c)
theorem fall_eq (R : List UInt8) : fall R = if R.length = 0 then ([], 0) else if (fparse R).2.2 = 0 then
    (if (fall (R.drop (fparse R).2.1)).2 = 0 then ((fparse R).1 :: (fall (R.drop (fparse R).2.1)).1, 0) else ([], (fall (R.drop (fparse R).2.1)).2)) else ([], (fparse R).2.2) := by
  rw [fall]
  split
  · rfl
  · split <;> rfl
theorem FallOf.start (l : List UInt8) : FallOf ((fall l).1.map txt) [] (fall l).2 l := by
  unfold FallOf
  split
  · rename_i h; rw [h]; rfl
  · rename_i h
    have : (fall l).1 = [] := by
      rw [fall_eq] at h ⊢
      split
      · rfl
      · rename_i h1; rw [if_neg h1] at h
        split
        · rename_i h2; rw [if_pos h2] at h
          split
          · rename_i h3; rw [if_pos h3] at h; simp at h
          · rfl
        · rfl
    rw [this]
    rfl
theorem FallOf.stop {S done : List ByteArray} {c : Nat} (h : FallOf S done c []) : S = done ∧ c = 0 := by
  unfold FallOf at h
  rw [fall_eq] at h
  simp at h
  exact ⟨h.1.symm, h.2.symm⟩
theorem FallOf.err {S done : List ByteArray} {c : Nat} {R : List UInt8} (h : FallOf S done c R) (hR : R.length ≠ 0) (hv : (fparse R).2.2 ≠ 0) : S = [] ∧ c = (fparse R).2.2 := by
  unfold FallOf at h
  rw [fall_eq, if_neg hR, if_neg hv] at h
  simp [hv] at h
  exact ⟨h.1, h.2.symm⟩
theorem FallOf.next {S done : List ByteArray} {c : Nat} {R : List UInt8} (h : FallOf S done c R) (hR : R.length ≠ 0) (hv : (fparse R).2.2 = 0) : FallOf S (done ++ [txt (fparse R).1]) c (R.drop (fparse R).2.1) := by
  unfold FallOf at h ⊢
  rw [fall_eq, if_neg hR, if_pos hv] at h
  rw [← h]
  split <;> simp


end Go.Proofs.YtgbgbdocgpdkgaaGreatDoor
end

section
/-
  The walks of the statements CursorNone and CursorTakes (layer 1): they answer true. Conditions: the text and the acts as they come in.
-/
namespace Go.Proofs.YtgbgbdocgpdkgaaGreatDoor
open Go.RowKit Go.PM

/-- The chapter's example. -/
theorem awake01 (w : World) : Calls Tryz.prog 153 #[] w fun e w' => e = .returned (.bool true) ∧ Below w.heap.size w w' := by
  go_enter Tryz.func153, Tryz.ntmps153
  go_wp2_with fail
  refine (cur_over _ _).mono ?_
  rintro e w1 ⟨rfl, rfl⟩
  have hc0 : Cur (w.alloc (.cells #[.string ⟨#[97, 98]⟩, .int .i64 0] 79)) w.heap.size ⟨#[97, 98]⟩ 0 := ⟨BlkAt.made _ _ _, Nat.zero_le _, by decide⟩
  have H0 := Lib.hid hc0
  clear hc0
  go_wp2_with fail
  refine (cur_byte_yes _ _ _ _ H0.out (by decide)).mono ?_
  rintro e w1 ⟨rfl, hc1, hg1⟩
  have e1 : ((ByteArray.mk #[97, 98])[0]'(by decide)).toNat = 97 := rfl
  have H1 := Lib.hid hc1
  clear hc1
  rw [e1]
  clear e1
  go_wp2_with fail
  refine (cur_byte_yes _ _ _ _ H1.out (by decide)).mono ?_
  rintro e w2 ⟨rfl, hc2, hg2⟩
  have e1 : ((ByteArray.mk #[97, 98])[0 + 1]'(by decide)).toNat = 98 := rfl
  have H2 := Lib.hid hc2
  clear hc2
  rw [e1]
  clear e1
  go_wp2_with fail
  refine (cur_byte_no _ _ _ _ H2.out (by decide)).mono ?_
  rintro e w3 ⟨rfl, hb3⟩
  go_wp2_with fail
  go_ret
  exact ⟨rfl, bb (bg (bg (ba b0 _) hg1 (Nat.le_refl _)) hg2 (Nat.le_refl _)) hb3⟩

end Go.Proofs.YtgbgbdocgpdkgaaGreatDoor
end

section
/-
  The walks of layer 2's example and of the statement VarintBack: they answer true. Conditions: numbers within uint64, texts within int.
-/
namespace Go.Proofs.YtgbgbdocgpdkgaaGreatDoor
open Go.RowKit Go.PM
set_option maxRecDepth 100000

theorem awakeE01 (w : World) : Calls Tryz.prog 152 #[] w fun e w' => e = .returned (.bool true) ∧ Below w.heap.size w w' := by
  go_enter Tryz.func152, Tryz.ntmps152
  go_wp2_with (go_at_call 153; refine (awake01 _).mono ?_; rintro e w' ⟨rfl, hb⟩)
  go_ret
  exact ⟨rfl, hb⟩

theorem vput300 : vput 300 = [172, 2] := by
  rw [vput_big (by omega), vput_small (by omega)]; rfl

theorem awake02 (w : World) : Calls Tryz.prog 151 #[] w fun e w' => e = .returned (.bool true) ∧ Below w.heap.size w w' := by
  have e1 : vget [172, 130, 0] = (0, 0, 2) := by decide
  go_enter Tryz.func151, Tryz.ntmps151
  go_wp2_with fail
  refine (get_any _ _ (by decide)).mono ?_
  rintro e w1 ⟨rfl, hb1⟩
  simp only [e1]
  go_wp2_with fail
  refine (awakeE01 _).mono ?_
  rintro e w2 ⟨rfl, hb2⟩
  go_wp2_with fail
  refine (put_any 300 _ (by unfold In64; omega)).mono ?_
  rintro e w3 ⟨rfl, hb3⟩
  rw [vput300]
  go_wp2_with fail
  go_ret
  exact ⟨rfl, bb (bb hb1 hb2) hb3⟩
theorem awakeE02 (w : World) : Calls Tryz.prog 148 #[] w fun e w' => e = .returned (.bool true) ∧ Below w.heap.size w w' := by
  go_enter Tryz.func148, Tryz.ntmps148
  go_wp2_with (go_at_call 151; refine (awake02 _).mono ?_; rintro e w' ⟨rfl, hb⟩)
  go_ret
  exact ⟨rfl, hb⟩

end Go.Proofs.YtgbgbdocgpdkgaaGreatDoor
end

section
/-
  Plain laws, more: how long lists of numbers and of payloads are; no program in sight.
-/
namespace Go.PM
theorem vall_length : ∀ s : List UInt8, (vall s).1.length ≤ s.length := by
  intro s
  induction hn : s.length using Nat.strongRecOn generalizing s with
  | _ n ih =>
    rw [vall]
    by_cases h0 : s.length = 0
    · rw [if_pos h0]; simp
    rw [if_neg h0]
    by_cases hv : (vget s).2.2 = 0
    · rw [dif_pos hv]
      have hk := vget_ok hv
      have := ih (s.drop (vget s).2.1).length (by simp; omega) _ rfl
      simp only
      split
      · simp at this ⊢; omega
      · simp
    · rw [dif_neg hv]; simp
end Go.PM
end

section
/-
  The walks of the statements VarintReads and VarintTakes (layer 2): they answer true. Conditions: numbers within uint64, texts within int.
-/
namespace Go.Proofs.YtgbgbdocgpdkgaaGreatDoor
open Go.RowKit Go.PM
set_option maxRecDepth 100000

end Go.Proofs.YtgbgbdocgpdkgaaGreatDoor
end

section
/-
  Contracts of layer 3 (zigzag) and of the document's answer. Conditions: numbers within int64, uint64, texts within int.
-/
namespace Go.Proofs.YtgbgbdocgpdkgaaGreatDoor
open Go.RowKit Go.PM
set_option maxRecDepth 100000

/-- A number's zigzag, and back. -/
def zmap (n : Int) : Nat := if 0 ≤ n then (2 * n).toNat else (-2 * n - 1).toNat
def zback (z : Nat) : Int := if z % 2 = 0 then ((z / 2 : Nat) : Int) else -((z / 2 : Nat) : Int) - 1
theorem zmap_64 {n : Int} (h : InI64 n) : In64 (zmap n) := by unfold zmap In64; unfold InI64 at h; split <;> omega
theorem zback_64 {z : Nat} (h : In64 z) : InI64 (zback z) := by unfold zback InI64; unfold In64 at h; split <;> omega

theorem xor_ones (a : Nat) (h : a < 18446744073709551616) : a ^^^ 18446744073709551615 = 18446744073709551615 - a := by
  have e : (BitVec.ofNat 64 a ^^^ BitVec.allOnes 64).toNat = (~~~BitVec.ofNat 64 a).toNat := by rw [BitVec.xor_allOnes]
  rw [BitVec.toNat_xor, BitVec.toNat_not, BitVec.toNat_ofNat, BitVec.toNat_allOnes] at e
  rw [Nat.mod_eq_of_lt (by omega)] at e
  omega
theorem map_eq (n : Int) (h : InI64 n) : bits .xor .u64 (IntKind.u64.wrap (IntKind.u64.wrap n * 2)) (IntKind.u64.wrap (n / 9223372036854775808)) = (zmap n : Int) := by
  unfold InI64 at h
  unfold zmap
  rw [IntKind.wrap_u64, IntKind.wrap_u64, IntKind.wrap_u64]
  by_cases h0 : 0 ≤ n
  · rw [if_pos h0]
    have e1 : n % 18446744073709551616 * 2 % 18446744073709551616 = ((2 * n).toNat : Int) := by omega
    have e2 : n / 9223372036854775808 % 18446744073709551616 = ((0 : Nat) : Int) := by omega
    rw [e1, e2, bits_xor_u64_nat _ _ (by omega) (by omega), Nat.xor_zero]
  · rw [if_neg h0]
    have e1 : n % 18446744073709551616 * 2 % 18446744073709551616 = ((18446744073709551616 + 2 * n).toNat : Int) := by omega
    have e2 : n / 9223372036854775808 % 18446744073709551616 = ((18446744073709551615 : Nat) : Int) := by omega
    rw [e1, e2, bits_xor_u64_nat _ _ (by omega) (by omega), xor_ones _ (by omega)]
    omega
theorem and_one (z : Nat) (h : In64 z) : bits .and .u64 (z : Int) 1 = (z : Int) % 2 := by
  have := bits_and_u64_nat z 1 h.out (by omega)
  rw [Nat.and_one_is_mod] at this
  simpa using this
theorem back_eq (z : Nat) (h : In64 z) : bits .xor .i64 (wrap64 ((z : Int) / 2)) (wrap64 (-wrap64 (bits .and .u64 (z : Int) 1))) = zback z := by
  rw [and_one z h]
  unfold In64 at h
  unfold zback
  have e1 : wrap64 ((z : Int) / 2) = ((z / 2 : Nat) : Int) := by unfold wrap64; omega
  have o : ∀ a : Nat, a < 9223372036854775808 → (BitVec.ofInt 64 (a : Int)).toNat = a := fun a ha => by
    rw [BitVec.ofInt_natCast, BitVec.toNat_ofNat]; exact Nat.mod_eq_of_lt (by omega)
  have ho := o (z / 2) (by omega)
  by_cases h0 : z % 2 = 0
  · rw [if_pos h0, e1]
    have e2 : wrap64 (-wrap64 ((z : Int) % 2)) = ((0 : Nat) : Int) := by unfold wrap64; omega
    rw [e2]
    show IntKind.i64.wrap ((BitVec.ofInt 64 ((z / 2 : Nat) : Int) ^^^ BitVec.ofInt 64 ((0 : Nat) : Int)).toNat : Int) = _
    rw [BitVec.toNat_xor, ho, o 0 (by omega), Nat.xor_zero, IntKind.wrap_i64]
    omega
  · rw [if_neg h0, e1]
    have e2 : wrap64 (-wrap64 ((z : Int) % 2)) = -1 := by unfold wrap64; omega
    rw [e2]
    show IntKind.i64.wrap ((BitVec.ofInt 64 ((z / 2 : Nat) : Int) ^^^ BitVec.ofInt 64 (-1)).toNat : Int) = _
    have e3 : BitVec.ofInt 64 (-1) = BitVec.allOnes 64 := by decide
    rw [e3, BitVec.xor_allOnes, BitVec.toNat_not, ho, IntKind.wrap_i64]
    omega

theorem map_any (n : Int) (w : World) (hn : InI64 n) : Calls Tryz.prog 149 #[.int .i64 n] w fun e w' => e = .returned (.int .u64 (zmap n : Int)) ∧ Below w.heap.size w w' := by
  have HE := Lib.hid (map_eq n hn)
  clear hn
  go_enter Tryz.func149, Tryz.ntmps149
  go_wp2
  go_ret
  rw [← HE.out]
  exact ⟨rfl, b0⟩
theorem back_any (z : Nat) (w : World) (hz : In64 z) : Calls Tryz.prog 150 #[.int .u64 (z : Int)] w fun e w' => e = .returned (.int .i64 (zback z)) ∧ Below w.heap.size w w' := by
  have HE := Lib.hid (back_eq z hz)
  clear hz
  go_enter Tryz.func150, Tryz.ntmps150
  go_wp2
  go_ret
  rw [← HE.out]
  exact ⟨rfl, b0⟩


/-- The number whose zigzag a text begins with. -/
def zget (l : List UInt8) : Int × Nat × Nat := if (vget l).2.2 = 0 then (zback (vget l).1, (vget l).2.1, 0) else (0, 0, (vget l).2.2)


end Go.Proofs.YtgbgbdocgpdkgaaGreatDoor
end

section
/-
  The walks of layer 3's example and of the statement ZigzagReads: they answer true. Conditions: numbers within int64 and uint64, texts within int.
-/
namespace Go.Proofs.YtgbgbdocgpdkgaaGreatDoor
open Go.RowKit Go.PM
set_option maxRecDepth 100000

theorem awake03 (w : World) : Calls Tryz.prog 146 #[] w fun e w' => e = .returned (.bool true) ∧ Below w.heap.size w w' := by
  go_enter Tryz.func146, Tryz.ntmps146
  go_wp2_with fail
  refine (awakeE02 _).mono ?_
  rintro e w1 ⟨rfl, hb1⟩
  go_wp2_with fail
  refine (map_any (-3) _ (by unfold InI64; omega)).mono ?_
  rintro e w2 ⟨rfl, hb2⟩
  rw [show zmap (-3) = 5 from by decide]
  go_wp2_with fail
  refine (back_any 5 _ (by unfold In64; omega)).mono ?_
  rintro e w3 ⟨rfl, hb3⟩
  rw [show zback 5 = -3 from by decide]
  go_wp2
  go_ret
  exact ⟨rfl, bb (bb hb1 hb2) hb3⟩
theorem awakeE03 (w : World) : Calls Tryz.prog 144 #[] w fun e w' => e = .returned (.bool true) ∧ Below w.heap.size w w' := by
  go_enter Tryz.func144, Tryz.ntmps144
  go_wp2_with (go_at_call 146; refine (awake03 _).mono ?_; rintro e w' ⟨rfl, hb⟩)
  go_ret
  exact ⟨rfl, hb⟩

end Go.Proofs.YtgbgbdocgpdkgaaGreatDoor
end

section
/-
  The walks of the statements of layer 4. Conditions: texts as they come in.
-/
namespace Go.Proofs.YtgbgbdocgpdkgaaGreatDoor
open Go.RowKit Go.PM
set_option maxRecDepth 100000

theorem awake04 (w : World) :
    Calls Tryz.prog 141 #[] w fun e w' => e = .returned (.bool true) ∧ Below w.heap.size w w' := by
  go_enter Tryz.func141, Tryz.ntmps141
  go_wp2_with fail
  refine (awakeE03 _).mono ?_
  rintro e w1 ⟨rfl, hb1⟩
  go_wp2_with fail
  refine (sum_one _ _ _ (BlkAt.made _ _ _) (by decide)).mono ?_
  rintro e w2 ⟨rfl, hb2⟩
  rw [show csum (ByteArray.mk #[49, 50, 51, 52, 53, 54, 55, 56, 57]).data.toList = 3421780262 by decide +kernel]
  go_wp2
  go_ret
  exact ⟨rfl, bb (ba hb1 _) hb2⟩
theorem awakeE04 (w : World) : Calls Tryz.prog 135 #[] w fun e w' => e = .returned (.bool true) ∧ Below w.heap.size w w' := by
  go_enter Tryz.func135, Tryz.ntmps135
  go_wp2_with (go_at_call 141; refine (awake04 _).mono ?_; rintro e w' ⟨rfl, hb⟩)
  go_ret
  exact ⟨rfl, hb⟩

theorem bit_flip (B : UInt8) (M : Nat) (h : M < 8) : bits .xor .u8 (B.toNat : Int) (2 ^ M % 256) = ((B ^^^ UInt8.ofNat (2 ^ M)).toNat : Int) := by
  have hp : 2 ^ M < 256 := by
    have : 2 ^ M < 2 ^ 8 := Nat.pow_lt_pow_right (by omega) h
    omega
  have e : ((2 : Int) ^ M % 256) = ((2 ^ M : Nat) : Int) := (by decide : ∀ M, M < 8 → ((2 : Int) ^ M % 256) = ((2 ^ M : Nat) : Int)) M h
  rw [e, u8_xor_nat _ _ B.toNat_lt hp, UInt8.toNat_xor]
  have : (UInt8.ofNat (2 ^ M)).toNat = 2 ^ M := by simp; omega
  rw [this]
end Go.Proofs.YtgbgbdocgpdkgaaGreatDoor
end

section
/-
  The walks of the statements of layer 5. Conditions: texts as they come in.
-/
namespace Go.Proofs.YtgbgbdocgpdkgaaGreatDoor
open Go.RowKit Go.PM
set_option maxRecDepth 100000
set_option maxHeartbeats 1000000

theorem awake05 (w : World) :
    Calls Tryz.prog 131 #[] w fun e w' => e = .returned (.bool true) ∧ Below w.heap.size w w' := by
  go_enter Tryz.func131, Tryz.ntmps131
  go_wp2_with fail
  refine (wrap_any _ _ (by decide)).mono ?_
  rintro e w1 ⟨rfl, hb1⟩
  rw [show txt (ftext (ByteArray.mk #[]).data.toList) = ByteArray.mk #[81, 70, 0, 0, 0, 0, 0] by decide +kernel]
  go_wp2_with fail
  refine (awakeE04 _).mono ?_
  rintro e w2 ⟨rfl, hb2⟩
  go_wp2
  go_ret
  exact ⟨rfl, bb hb1 hb2⟩
theorem awakeE05 (w : World) : Calls Tryz.prog 129 #[] w fun e w' => e = .returned (.bool true) ∧ Below w.heap.size w w' := by
  go_enter Tryz.func129, Tryz.ntmps129
  go_wp2_with (go_at_call 131; refine (awake05 _).mono ?_; rintro e w' ⟨rfl, hb⟩)
  go_ret
  exact ⟨rfl, hb⟩

/-- A number's bytes, counted by hand. -/
def Cs (n x z : Nat) : Prop := z + vsz x = fsize n + 1 ∧ x ≤ 65536
theorem Cs.start (n : Nat) (h : n ≤ 65536) : Cs n n (7 + n) := by unfold Cs fsize; omega
theorem Cs.next {n x z : Nat} (h : Cs n x z) (hx : 127 < x) : Cs n (x / 128) (z + 1) := by
  obtain ⟨h1, h2⟩ := h
  rw [vsz, if_neg (by omega)] at h1
  exact ⟨by omega, by omega⟩
theorem Cs.stop {n x z : Nat} (h : Cs n x z) (hx : ¬ 127 < x) : z = fsize n := by
  obtain ⟨h1, _⟩ := h
  rw [vsz, if_pos (by omega)] at h1
  omega

theorem fall_length (l : List UInt8) : (fall l).1.length ≤ l.length := by
  induction hn : l.length using Nat.strongRecOn generalizing l with
  | _ n ih =>
    rw [fall_eq]
    by_cases h0 : l.length = 0
    · rw [if_pos h0]; simp
    · rw [if_neg h0]
      by_cases hv : (fparse l).2.2 = 0
      · rw [if_pos hv]
        obtain ⟨k1, k2, _, _, _⟩ := fparse_ok hv
        have := ih (l.drop (fparse l).2.1).length (by rw [List.length_drop]; omega) _ rfl
        rw [List.length_drop] at this
        split
        · simp only [List.length_cons]; omega
        · simp
      · rw [if_neg hv]; simp
end Go.Proofs.YtgbgbdocgpdkgaaGreatDoor
end

section
/-
  Plain laws of layers 4 and 5, more: bits turned in the hind part of a text. No program in sight.
-/
namespace Go.PM
theorem cflip_behind (pre body : List UInt8) (k : Nat) : cflip (pre ++ body) (8 * pre.length + k) = pre ++ cflip body k := by
  have e1 : (8 * pre.length + k) / 8 = pre.length + k / 8 := by omega
  have e2 : (8 * pre.length + k) % 8 = k % 8 := by omega
  unfold cflip
  rw [e1, e2, List.set_append_right _ _ (by omega), Nat.add_sub_cancel_left]
  congr 2
  simp [List.getD_eq_getElem?_getD, List.getElem?_append_right]
theorem cturn_behind (pre body : List UInt8) (first pattern : Nat) : ∀ i, cturn (pre ++ body) (8 * pre.length + first) pattern i = pre ++ cturn body first pattern i
  | 0 => rfl
  | i + 1 => by
    have ih := cturn_behind pre body first pattern i
    rw [cturn, cturn, ih, List.length_append]
    by_cases h : pattern / 2 ^ i % 2 = 1 ∧ first + i < 8 * body.length
    · rw [if_pos h, if_pos ⟨h.1, by omega⟩, Nat.add_assoc, cflip_behind]
    · rw [if_neg h, if_neg fun x => h ⟨x.1, by omega⟩]
theorem cturned_behind (m N first pattern : Nat) : ∀ i, cturned (8 * m + N) (8 * m + first) pattern i = cturned N first pattern i
  | 0 => rfl
  | i + 1 => by
    rw [cturned, cturned, cturned_behind m N first pattern i]
    by_cases h : pattern / 2 ^ i % 2 = 1 ∧ first + i < N
    · rw [if_pos h, if_pos ⟨h.1, by omega⟩]
    · rw [if_neg h, if_neg fun x => h ⟨x.1, by omega⟩]
/-- A frame of which bits behind its head are turned: how it reads. -/
theorem fparse_burst (p r : List UInt8) (hp : p.length ≤ 65536) (first pattern : Nat) (hf : first ≤ 8 * (p.length + 4)) (hpat : pattern < 4294967296) :
    fparse (cturn (ftext p) (8 * (2 + vsz p.length) + first) pattern 32 ++ r) =
      if cturned (8 * fsize p.length) (8 * (2 + vsz p.length) + first) pattern 32 then ([], 0, 6) else (p, fsize p.length, 0) := by
  have hh : ([81, 70] ++ vput p.length : List UInt8).length = 2 + vsz p.length := by simp [vput_length]; omega
  have e : ftext p = ([81, 70] ++ vput p.length) ++ (p ++ cput (csum p)) := by simp [ftext]
  rw [e, ← hh, cturn_behind, show 8 * fsize p.length = 8 * ([81, 70] ++ vput p.length : List UInt8).length + 8 * (p.length + 4) by rw [hh]; unfold fsize; omega, cturned_behind]
  exact fparse_turn p r hp first pattern 32 (by omega) hf hpat
end Go.PM
end

section
/-
  The walk of the statement FrameBack (layer 5's theorem). Conditions: texts as they come in.
-/
namespace Go.Proofs.YtgbgbdocgpdkgaaGreatDoor
open Go.RowKit Go.PM
set_option maxRecDepth 100000
set_option maxHeartbeats 1000000

end Go.Proofs.YtgbgbdocgpdkgaaGreatDoor
end

section
/-
  Contracts of layer 6 (frames out of a stream). Conditions: texts within int.
-/
namespace Go.Proofs.YtgbgbdocgpdkgaaGreatDoor
open Go.RowKit Go.PM
set_option maxRecDepth 100000
set_option maxHeartbeats 1000000

/-- What is known of the length, where a frame is too short. -/
theorem short_cases {l : List UInt8} (h : (fparse l).2.2 = 1) (h2 : 2 ≤ l.length) : ((vget (l.drop 2)).2.2 = 1 ∧ fneed l = 0) ∨ ((vget (l.drop 2)).2.2 = 0 ∧ (vget (l.drop 2)).1 ≤ 65536 ∧ fneed l = fsize (vget (l.drop 2)).1) := by
  have hm : fmark l = 0 := by
    by_cases hm : fmark l = 0
    · exact hm
    · rw [fparse_mark hm] at h
      rcases fmark_cases l with ⟨h1, _⟩ | ⟨_, h1⟩ | h1
      · exact h1
      · omega
      · simp only at h; omega
  rw [fparse_body hm] at h
  unfold fneed
  rw [if_neg (by omega)]
  generalize hV : vget (l.drop 2) = V at *
  obtain ⟨n, k, g⟩ := V
  rw [fbody_of l n k g hV] at h
  simp only
  by_cases hg : g = 0
  · subst hg
    rw [if_neg (by simp)] at h
    right
    by_cases hn : 65536 < n
    · rw [if_pos hn] at h; simp at h
    · exact ⟨rfl, by omega, by simp⟩
  · rw [if_pos hg] at h
    left
    exact ⟨h, by rw [if_neg hg]⟩

theorem whole_any (s : ByteArray) (w : World) (hs : s.size ≤ 1000000) (hp : (fparse s.data.toList).2.2 = 1) :
    Calls Tryz.prog 133 #[.string s] w fun e w' => e = .returned (.int .i64 (fneed s.data.toList : Int)) ∧ Below w.heap.size w w' := by
  by_cases h2 : s.size < 2
  · have hn : fneed s.data.toList = 0 := by unfold fneed; rw [if_pos (by rw [len_list]; exact h2)]
    rw [hn]
    clear hn hp
    go_enter Tryz.func133, Tryz.ntmps133
    go_wp2
    go_loop [4] (fun k => k = .int .i64 2) (fun _ => 0)
    case atStart => rfl
    case round =>
      subst hrel
      go_wp2
      go_ret
      exact ⟨rfl, b0⟩
  have hsc := short_cases hp (by rw [len_list]; omega)
  have hl2 : (s.data.toList.drop 2).length = s.size - 2 := by rw [List.length_drop, len_list]
  generalize hV : vget (s.data.toList.drop 2) = V at hsc
  obtain ⟨n, k, g⟩ := V
  simp only at hsc
  generalize fneed s.data.toList = N at hsc ⊢
  have HSC := Lib.hid hsc
  have HV := Lib.hid hV
  clear hsc hV hp
  go_enter Tryz.func133, Tryz.ntmps133
  go_wp2
  go_loop [3, 4] (fun nn kk => ∃ i acc : Nat, i ≤ 10 ∧ i ≤ s.size - 2 ∧ kk = .int .i64 ((i : Int) + 2) ∧ nn = .int .u64 (acc : Int) ∧ Gt (s.data.toList.drop 2) i acc) (fun _ k => s.size - (intOf k).toNat)
  case atStart => exact ⟨0, 0, by omega, by omega, rfl, rfl, by unfold In64; omega, fun _ => ⟨by decide, rfl⟩, fun h => by omega⟩
  case round =>
    obtain ⟨i, acc, hi, his, rfl, rfl, hg⟩ := hrel
    have HG := Lib.hid hg
    clear hg
    have hi10 : i < 10 := by
      by_cases e : i = 10
      · have h3 := HG.out.2.2 e
        rw [HV.out] at h3
        injection h3 with _ h3
        injection h3 with _ h3
        rcases HSC.out with ⟨h, _⟩ | ⟨h, _⟩ <;> omega
      · omega
    by_cases hlt : i + 2 < s.size
    · have em := mask127 s[i + 2]
      obtain ⟨X, hX, hX64, hXv⟩ := or_any acc s[i + 2].toNat i HG.out.1
      have HX := Lib.hid (And.intro hX64 hXv)
      have hd : (s.data.toList.drop 2).drop i = s[i + 2] :: (s.data.toList.drop 2).drop (i + 1) := by
        rw [List.drop_drop, List.drop_drop, Nat.add_comm 2 i, drop_at s (i + 2) hlt]
        congr 2
        omega
      have HD := Lib.hid hd
      clear hX64 hXv hd
      by_cases h1 : 128 ≤ s[i + 2].toNat
      · have hn := HG.out.next hi10 HD.out rfl h1 HX.out.1 HX.out.2
        have HNx := Lib.hid hn
        clear hn
        go_wp2
        go_round
        case rel => exact ⟨i + 1, X, by omega, by omega, by go_num, rfl, HNx.out⟩
        case measure => simp [intOf]; omega
      · have hst := HG.out.stop hi10 HD.out h1
        rw [HV.out] at hst
        have hnX : n = X ∧ g = 0 := by
          by_cases h9 : i = 9 ∧ 1 < s[i + 2].toNat
          · rw [if_pos h9] at hst
            injection hst with _ h3
            injection h3 with _ h3
            rcases HSC.out with ⟨h, _⟩ | ⟨h, _⟩ <;> omega
          · rw [if_neg h9] at hst
            by_cases h0 : 0 < i ∧ s[i + 2].toNat = 0
            · rw [if_pos h0] at hst
              injection hst with _ h3
              injection h3 with _ h3
              rcases HSC.out with ⟨h, _⟩ | ⟨h, _⟩ <;> omega
            · rw [if_neg h0] at hst
              injection hst with h1' h3
              injection h3 with _ h3
              refine ⟨?_, h3⟩
              rw [HX.out.2 (HG.out.2.1 hi10).1 hi10 (fun h => by omega), Nat.mod_eq_of_lt (by omega)]
              exact h1'
        obtain ⟨rfl, hg0⟩ := hnX
        have hnn : n ≤ 65536 ∧ N = fsize n := by
          rcases HSC.out with ⟨h, _⟩ | ⟨_, h, h'⟩
          · omega
          · exact ⟨h, h'⟩
        obtain ⟨hnl, rfl⟩ := hnn
        clear hst
        go_wp2_with fail
        refine (fsize_yes n _ hnl).mono ?_
        rintro e w1 ⟨rfl, hb1⟩
        go_wp2
        go_ret
        exact ⟨rfl, hb1⟩
    · have hN : N = 0 := by
        have h4 := (HG.out.2.1 hi10).2
        rw [HV.out, show List.drop i (List.drop 2 s.data.toList) = [] from List.drop_eq_nil_of_le (by rw [hl2]; omega), vgetL, if_neg (by omega)] at h4
        injection h4 with _ h3
        injection h3 with _ h3
        rcases HSC.out with ⟨_, h⟩ | ⟨h, _⟩
        · exact h
        · omega
      subst hN
      go_wp2
      go_ret
      exact ⟨rfl, b0⟩

/-- A deframer: what waits, how many bytes it needs, its error, how many frames were delivered. -/
def Dfr (w : World) (d : Nat) (v : Value) (rest : List UInt8) (need err count : Nat) : Prop :=
  BlkAt w d 165 #[v, .int .i64 (need : Int), .int .i64 (err : Int), .int .i64 (count : Int)] ∧ Buf w 5 v rest ∧ foot v ≠ some d
theorem Dfr.tch {S : Nat → Prop} {w w' : World} {d : Nat} {v : Value} {rest : List UInt8} {need err count : Nat} (h : Dfr w d v rest need err count) (hg : Tch S w w') (hd : ¬ S d) (hf : ∀ g, foot v = some g → ¬ S g) : Dfr w' d v rest need err count :=
  ⟨h.1.tch hg hd, h.2.1.tch hg hf, h.2.2⟩
theorem Dfr.below {w w' : World} {d : Nat} {v : Value} {rest : List UInt8} {need err count : Nat} (h : Dfr w d v rest need err count) (hb : Below w.heap.size w w') : Dfr w' d v rest need err count :=
  h.tch (S := fun _ => False) (Tch.below hb) id fun _ _ => id
theorem new_any (w : World) :
    Calls Tryz.prog 126 #[] w fun e w' => ∃ d, e = .returned (.pointer (some ⟨d, 0, none⟩)) ∧ w.heap.size ≤ d ∧ Dfr w' d (.slice none 0 0) [] 0 0 0 ∧ Below w.heap.size w w' := by
  go_enter Tryz.func126, Tryz.ntmps126
  go_wp2
  go_ret
  exact ⟨_, rfl, Nat.le_refl _, ⟨BlkAt.made _ _ _, Buf.nil _ _, by simp [foot]⟩, ba b0 _⟩
end Go.Proofs.YtgbgbdocgpdkgaaGreatDoor
end
