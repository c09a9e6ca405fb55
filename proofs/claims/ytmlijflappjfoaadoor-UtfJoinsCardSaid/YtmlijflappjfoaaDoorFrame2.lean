/-
  Contracts of layer 5: a frame read. Conditions: texts within int.
-/
import Derived.Test.YtmlijflappjfoaaDoorFrame
namespace Go.Proofs.YtmlijflappjfoaaDoor
open Go.RowKit Go.PM
set_option maxRecDepth 100000

theorem fparse_mark {l : List UInt8} (h : fmark l ≠ 0) : fparse l = ([], 0, fmark l) := by unfold fparse; rw [if_pos h]
theorem fparse_body {l : List UInt8} (h : fmark l = 0) : fparse l = fbody l := by unfold fparse; rw [if_neg (by omega)]
theorem fmark_two {l : List UInt8} (h : fmark l = 0) : 2 ≤ l.length := by
  rcases fmark_cases l with ⟨_, r, rfl⟩ | ⟨h1, _⟩ | h1
  · simp
  · omega
  · omega
theorem vpos {l : List UInt8} (h : (vget l).2.2 = 0) : (vget l).2.1 = vsz (vget l).1 := by
  obtain ⟨_, k2, _, _, k5⟩ := vget_ok h
  rw [← vput_length, k5, List.length_take]
  omega
theorem fbody_of (l : List UInt8) (n k g : Nat) (hV : vget (l.drop 2) = (n, k, g)) : fbody l =
    if g ≠ 0 then ([], 0, g) else if 65536 < n then ([], 0, 4) else if (l.drop (2 + k)).length < n + 4 then ([], 0, 1)
    else if cget (((l.drop (2 + k)).drop n).take 4) ≠ csum ((l.drop (2 + k)).take n) then ([], 0, 6) else ((l.drop (2 + k)).take n, fsize n, 0) := by
  unfold fbody
  simp only [hV]

theorem parse_any (s : ByteArray) (w : World) (hs : s.size ≤ 9223372036854775807) :
    Calls Tryd.prog 90 #[.string s] w fun e w' =>
      e = .returned (.tuple #[.string (txt (fparse s.data.toList).1), .int .i64 ((fparse s.data.toList).2.1 : Int), .int .i64 ((fparse s.data.toList).2.2 : Int)]) ∧ Below w.heap.size w w' := by
  have HM : Hid (∀ x : World, Calls Tryd.prog 94 #[.string s] x fun e w' => e = .returned (.int .i64 (fmark s.data.toList : Int)) ∧ Below x.heap.size x w') := fun x => marked_any s x hs
  by_cases hm : fmark s.data.toList = 0
  · rw [fparse_body hm]
    rw [hm] at HM
    have h2 := fmark_two hm
    rw [len_list] at h2
    generalize hV : vget (s.data.toList.drop 2) = V
    obtain ⟨n, k, g⟩ := V
    have hbo := fbody_of _ n k g hV
    have HG : Hid (∀ x : World, Calls Tryd.prog 84 #[.string (s.extract 2 s.size)] x fun e w' => e = .returned (.tuple #[.int .u64 (n : Int), .int .i64 (k : Int), .int .i64 (g : Int)]) ∧ Below x.heap.size x w') := fun x => by
      have := get_any (s.extract 2 s.size) x (by simp; omega)
      rw [ext_rest, hV] at this
      exact this
    by_cases hg : g = 0
    · subst hg
      have hok := vget_ok (s := s.data.toList.drop 2) (by rw [hV])
      have hvp := vpos (l := s.data.toList.drop 2) (by rw [hV])
      rw [hV] at hok hvp
      obtain ⟨k1, k2, k3, k4, _⟩ := hok
      simp only at k1 k2 k3 k4 hvp
      rw [List.length_drop, len_list] at k2
      rw [if_neg (by omega)] at hbo
      clear hV hm
      by_cases hn : 65536 < n
      · rw [if_pos hn] at hbo
        rw [hbo]
        clear hbo hvp
        go_enter Tryd.func90, Tryd.ntmps90
        go_wp2_with fail
        refine (HM.out _).mono ?_
        rintro e w1 ⟨rfl, hb1⟩
        go_wp2_with fail
        refine (HG.out _).mono ?_
        rintro e w2 ⟨rfl, hb2⟩
        go_wp2
        go_ret3
        exact ⟨rfl, bb hb1 hb2⟩
      · rw [if_neg hn] at hbo
        have hbl : (s.data.toList.drop (2 + k)).length = s.size - (2 + k) := by rw [List.length_drop, len_list]
        have hks : 2 + k ≤ s.size := by omega
        clear k2 k3 k4
        by_cases hsh : s.size - (2 + k) < n + 4
        · rw [if_pos (by rw [hbl]; exact hsh)] at hbo
          rw [hbo]
          clear hbo hvp hbl
          go_enter Tryd.func90, Tryd.ntmps90
          go_wp2_with fail
          refine (HM.out _).mono ?_
          rintro e w1 ⟨rfl, hb1⟩
          go_wp2_with fail
          refine (HG.out _).mono ?_
          rintro e w2 ⟨rfl, hb2⟩
          go_wp2
          go_ret3
          exact ⟨rfl, bb hb1 hb2⟩
        · rw [if_neg (by rw [hbl]; exact hsh)] at hbo
          have hP : ((s.extract (2 + k) s.size).extract 0 n).data.toList = (s.data.toList.drop (2 + k)).take n := by rw [ext_list, ext_rest]; simp
          have hQ : ((s.extract (2 + k) s.size).extract n (n + 4)).data.toList = ((s.data.toList.drop (2 + k)).drop n).take 4 := by rw [ext_list, ext_rest]; simp
          rw [← hP, ← hQ] at hbo
          have hqs : ((s.extract (2 + k) s.size).extract n (n + 4)).size = 4 := by simp; omega
          have hps : ((s.extract (2 + k) s.size).extract 0 n).size ≤ 65536 := by simp; omega
          have hC : ∀ x : World, Calls Tryd.prog 95 #[.string ((s.extract (2 + k) s.size).extract 0 n), .string ((s.extract (2 + k) s.size).extract n (n + 4))] x fun e w' => e = .returned (.bool (decide (cget ((s.extract (2 + k) s.size).extract n (n + 4)).data.toList = csum ((s.extract (2 + k) s.size).extract 0 n).data.toList))) ∧ Below x.heap.size x w' := fun x => check_any _ _ x (by omega) hqs
          have HC := Lib.hid hC
          have HSZ : Hid (∀ x : World, Calls Tryd.prog 96 #[.int .i64 (n : Int)] x fun e w' => e = .returned (.int .i64 (fsize n : Int)) ∧ Below x.heap.size x w') := fun x => fsize_yes n x (by omega)
          clear hC hP hQ hvp hbl hqs hps
          by_cases hck : cget ((s.extract (2 + k) s.size).extract n (n + 4)).data.toList = csum ((s.extract (2 + k) s.size).extract 0 n).data.toList
          · rw [if_neg (by simp only [ne_eq, Decidable.not_not]; exact hck)] at hbo
            rw [hbo]
            rw [decide_eq_true hck] at HC
            have HX := Lib.hid (txt_of ((s.extract (2 + k) s.size).extract 0 n))
            clear hbo hck
            go_enter Tryd.func90, Tryd.ntmps90
            go_wp2_with fail
            refine (HM.out _).mono ?_
            rintro e w1 ⟨rfl, hb1⟩
            go_wp2_with fail
            refine (HG.out _).mono ?_
            rintro e w2 ⟨rfl, hb2⟩
            go_wp2_with fail
            refine (HC.out _).mono ?_
            rintro e w3 ⟨rfl, hb3⟩
            go_wp2_with fail
            refine (HSZ.out _).mono ?_
            rintro e w4 ⟨rfl, hb4⟩
            go_wp2
            go_ret3
            rw [HX.out]
            exact ⟨rfl, bb (bb (bb hb1 hb2) hb3) hb4⟩
          · rw [if_pos hck] at hbo
            rw [hbo]
            rw [decide_eq_false hck] at HC
            clear hbo hck
            go_enter Tryd.func90, Tryd.ntmps90
            go_wp2_with fail
            refine (HM.out _).mono ?_
            rintro e w1 ⟨rfl, hb1⟩
            go_wp2_with fail
            refine (HG.out _).mono ?_
            rintro e w2 ⟨rfl, hb2⟩
            go_wp2_with fail
            refine (HC.out _).mono ?_
            rintro e w3 ⟨rfl, hb3⟩
            go_wp2
            go_ret3
            exact ⟨rfl, bb (bb hb1 hb2) hb3⟩
    · rw [if_pos hg] at hbo
      rw [hbo]
      have hgb : ((g : Int) != 0) = true := by rw [bne_iff_ne]; omega
      clear hbo hV hm hg
      go_enter Tryd.func90, Tryd.ntmps90
      go_wp2_with fail
      refine (HM.out _).mono ?_
      rintro e w1 ⟨rfl, hb1⟩
      go_wp2_with fail
      refine (HG.out _).mono ?_
      rintro e w2 ⟨rfl, hb2⟩
      go_wp2
      go_ret3
      exact ⟨rfl, bb hb1 hb2⟩
  · rw [fparse_mark hm]
    generalize fmark s.data.toList = m at hm HM
    have hmb : ((m : Int) != 0) = true := by rw [bne_iff_ne]; omega
    clear hm
    go_enter Tryd.func90, Tryd.ntmps90
    go_wp2_with fail
    refine (HM.out _).mono ?_
    rintro e w1 ⟨rfl, hb1⟩
    go_wp2
    go_ret3
    exact ⟨rfl, hb1⟩
end Go.Proofs.YtmlijflappjfoaaDoor
