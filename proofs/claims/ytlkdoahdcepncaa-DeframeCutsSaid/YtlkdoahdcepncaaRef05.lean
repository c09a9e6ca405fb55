/-
  Contracts of the document's answer for layer 5. Conditions: texts of at most a million bytes.
-/
import Derived.Test.YtlkdoahdcepncaaFrame2
import Derived.Test.YtlkdoahdcepncaaRef02b
namespace Go.Proofs.Ytlkdoahdcepncaa
open Go.RowKit Go.PM
set_option maxRecDepth 100000
set_option maxHeartbeats 4000000

theorem rtext_any (p : ByteArray) (w : World) (h : p.size ≤ 1000000) :
    Calls Try.prog 82 #[.string p] w fun e w' => e = .returned (.string (txt (ftext p.data.toList))) ∧ Below w.heap.size w w' := by
  have h10 := vsz_le10 (n := p.size) (by omega)
  have hvs : (txt (vput p.size)).size = vsz p.size := by rw [txt_size, vput_length]
  have hP : ∀ x : World, Calls Try.prog 54 #[.int .u32 (csum p.data.toList : Int)] x fun e w' => e = .returned (.string (txt (cput (csum p.data.toList)))) ∧ Below x.heap.size x w' := fun x => rcput_any _ x (csum_lt _)
  have hS : ∀ x : World, Calls Try.prog 55 #[.string p] x fun e w' => e = .returned (.int .u32 (csum p.data.toList : Int)) ∧ Below x.heap.size x w' := fun x => rsum_any p x (by omega)
  have hcs : (txt (cput (csum p.data.toList))).size = 4 := rfl
  have hf : txt (ftext p.data.toList) = ByteArray.mk #[81, 70] ++ txt (vput p.size) ++ p ++ txt (cput (csum p.data.toList)) := by
    apply ByteArray.ext
    apply Array.toList_inj.1
    simp only [ByteArray.data_append, Array.toList_append, txt_list, ftext, len_list]
  rw [hf]
  generalize csum p.data.toList = C at hP hS hcs ⊢
  generalize txt (cput C) = Q at hP hcs ⊢
  have HP := Lib.hid hP
  have HS := Lib.hid hS
  clear hP hS hf
  have hV : ∀ x : World, Calls Try.prog 33 #[.int .u64 (p.size : Int)] x fun e w' => e = .returned (.string (txt (vput p.size))) ∧ Below x.heap.size x w' := fun x => rput_any _ x (by unfold In64; omega)
  generalize txt (vput p.size) = V at hV hvs ⊢
  have HV := Lib.hid hV
  clear hV
  go_enter Try.func82, Try.ntmps82
  go_wp2_with (first
    | (go_at_call 33; refine (HV.out _).mono ?_; rintro e w1 ⟨rfl, hb1⟩)
    | (go_at_call 55; refine (HS.out _).mono ?_; rintro e w2 ⟨rfl, hb2⟩)
    | (go_at_call 54; refine (HP.out _).mono ?_; rintro e w3 ⟨rfl, hb3⟩))
  go_ret
  exact ⟨rfl, bb (bb hb1 hb2) hb3⟩
theorem rwrap_no (p : ByteArray) (w : World) (h : 65536 < p.size) :
    Calls Try.prog 57 #[.string p] w fun e w' => e = .returned (.tuple #[.string ByteArray.empty, .int .i64 4]) ∧ Below w.heap.size w w' := by
  go_enter Try.func57, Try.ntmps57
  go_wp2
  go_ret2
  exact ⟨rfl, b0⟩
theorem rwrap_any (p : ByteArray) (w : World) (h : p.size ≤ 65536) :
    Calls Try.prog 57 #[.string p] w fun e w' => e = .returned (.tuple #[.string (txt (ftext p.data.toList)), .int .i64 0]) ∧ Below w.heap.size w w' := by
  go_enter Try.func57, Try.ntmps57
  go_wp2_with fail
  refine (rtext_any p _ (by omega)).mono ?_
  rintro e w1 ⟨rfl, hb1⟩
  go_wp2
  go_ret2
  exact ⟨rfl, hb1⟩

theorem str_same {a b : ByteArray} (h : a = b) : (a.toList == b.toList) = true := by rw [h]; simp
theorem str_else {a b : ByteArray} (h : a ≠ b) : (a.toList == b.toList) = false := by
  rw [beq_eq_false_iff_ne, ByteArray.toList_eq, ByteArray.toList_eq]
  intro e
  exact h (ByteArray.ext (Array.toList_inj.1 e))
/-- A frame, as the document holds it against a text. -/
theorem text_iff (l : List UInt8) (n k : Nat) (hm : fmark l = 0) (hv : vput n = (l.drop 2).take k) (hk : k ≤ l.length - 2) (hlen : ¬ l.length - (2 + k) < n + 4) :
    ftext ((l.drop (2 + k)).take n) = l.take (2 + k + n + 4) ↔ cget (((l.drop (2 + k)).drop n).take 4) = csum ((l.drop (2 + k)).take n) := by
  rcases fmark_cases l with ⟨_, r, rfl⟩ | ⟨h1, _⟩ | h1
  · have hpl : ((List.drop (2 + k) (81 :: 70 :: r)).take n).length = n := by simp at hlen ⊢; omega
    unfold ftext
    rw [hpl, hv]
    have hd : List.drop (2 + k) (81 :: 70 :: r) = r.drop k := by rw [Nat.add_comm]; rfl
    rw [hd]
    have ht : List.take (2 + k + n + 4) (81 :: 70 :: r) = [81, 70] ++ r.take k ++ (r.drop k).take n ++ ((r.drop k).drop n).take 4 := by
      rw [show 2 + k + n + 4 = (k + (n + 4)) + 2 by omega]
      rw [List.take_succ_cons, List.take_succ_cons, List.take_add, List.take_add]
      simp
    rw [ht]
    show [81, 70] ++ r.take k ++ _ ++ _ = _ ↔ _
    rw [List.append_cancel_left_eq]
    have hql : (((r.drop k).drop n).take 4).length = 4 := by simp at hlen ⊢; omega
    constructor
    · intro e
      rw [← e, cput_get _ (csum_lt _)]
    · intro e
      rw [← e, cget_put _ hql]
  · omega
  · omega

theorem rparse_any (s : ByteArray) (w : World) (hs : s.size ≤ 1000000) :
    Calls Try.prog 58 #[.string s] w fun e w' =>
      e = .returned (.tuple #[.string (txt (fparse s.data.toList).1), .int .i64 ((fparse s.data.toList).2.1 : Int), .int .i64 ((fparse s.data.toList).2.2 : Int)]) ∧ Below w.heap.size w w' := by
  by_cases hz : s.size = 0
  · have hfp : fparse s.data.toList = ([], 0, 1) := by
      have hfm : fmark s.data.toList = 1 := by unfold fmark; rw [if_pos (by rw [len_list]; exact hz)]
      rw [fparse_mark (by omega), hfm]
    rw [hfp]
    clear hfp
    go_enter Try.func58, Try.ntmps58
    go_wp2
    go_ret3
    exact ⟨rfl, b0⟩
  have hp : 0 < s.size := by omega
  have hg := getD_at s 0 hp
  by_cases h8 : s[0].toNat = 81
  · have hn0 : ((s[0].toNat : Int) != 81) = false := by rw [bne_eq_false_iff_eq]; omega
    have hg0 : s.data.toList.getD 0 0 = 81 := by rw [hg]; exact UInt8.toNat_inj.1 (by rw [h8]; rfl)
    clear hg
    by_cases hz1 : s.size = 1
    · have hfp : fparse s.data.toList = ([], 0, 1) := by
        have hfm : fmark s.data.toList = 1 := by
          unfold fmark
          rw [if_neg (by rw [len_list]; omega), if_neg (by rw [hg0]; simp), if_pos (by rw [len_list]; exact hz1)]
        rw [fparse_mark (by omega), hfm]
      rw [hfp]
      clear hfp hg0 hz h8
      go_enter Try.func58, Try.ntmps58
      go_wp2
      go_ret3
      exact ⟨rfl, b0⟩
    have hp1 : 1 < s.size := by omega
    have hg1 := getD_at s 1 hp1
    by_cases h9 : s[1].toNat = 70
    · have hn1 : ((s[1].toNat : Int) != 70) = false := by rw [bne_eq_false_iff_eq]; omega
      have hm : fmark s.data.toList = 0 := by
        unfold fmark
        rw [if_neg (by rw [len_list]; omega), if_neg (by rw [hg0]; simp), if_neg (by rw [len_list]; exact hz1), if_neg (by rw [hg1]; intro e; exact e (UInt8.toNat_inj.1 (by rw [h9]; rfl)))]
      rw [fparse_body hm]
      generalize hV : vget (s.data.toList.drop 2) = V
      obtain ⟨n, k, g⟩ := V
      have hbo := fbody_of _ n k g hV
      have HG : Hid (∀ x : World, Calls Try.prog 30 #[.string (s.extract 2 s.size)] x fun e w' => e = .returned (.tuple #[.int .u64 (n : Int), .int .i64 (k : Int), .int .i64 (g : Int)]) ∧ Below x.heap.size x w') := fun x => by
        have := rget_any (s.extract 2 s.size) x (by simp; omega)
        rw [ext_rest, hV] at this
        exact this
      clear hg1 hg0 hz hz1 h8 h9
      by_cases hg : g = 0
      · subst hg
        have hok := vget_ok (s := s.data.toList.drop 2) (by rw [hV])
        have hvp := vpos (l := s.data.toList.drop 2) (by rw [hV])
        rw [hV] at hok hvp
        obtain ⟨k1, k2, k3, k4, k5⟩ := hok
        simp only at k1 k2 k3 k4 k5 hvp
        have HVP := Lib.hid hvp
        clear hvp
        rw [List.length_drop, len_list] at k2
        rw [if_neg (by omega)] at hbo
        have hti := text_iff s.data.toList n k hm k5 (by rw [len_list]; exact k2)
        clear hV hm k5
        by_cases hn : 65536 < n
        · rw [if_pos hn] at hbo
          rw [hbo]
          clear hbo hti
          go_enter Try.func58, Try.ntmps58
          go_wp2_with fail
          refine (HG.out _).mono ?_
          rintro e w2 ⟨rfl, hb2⟩
          go_wp2
          go_ret3
          exact ⟨rfl, hb2⟩
        · rw [if_neg hn] at hbo
          have hbl : (s.data.toList.drop (2 + k)).length = s.size - (2 + k) := by rw [List.length_drop, len_list]
          have hks : 2 + k ≤ s.size := by omega
          clear k2 k3 k4
          by_cases hsh : s.size - (2 + k) < n + 4
          · rw [if_pos (by rw [hbl]; exact hsh)] at hbo
            rw [hbo]
            clear hbo hti hbl
            go_enter Try.func58, Try.ntmps58
            go_wp2_with fail
            refine (HG.out _).mono ?_
            rintro e w2 ⟨rfl, hb2⟩
            go_wp2
            go_ret3
            exact ⟨rfl, hb2⟩
          · rw [if_neg (by rw [hbl]; exact hsh)] at hbo
            have hti := hti (by rw [len_list]; exact hsh)
            obtain ⟨x, hx⟩ : ∃ x, x = s.extract (2 + k) (2 + k + n) := ⟨_, rfl⟩
            have hP : x.data.toList = (s.data.toList.drop (2 + k)).take n := by rw [hx, ext_list]; simp
            have hQ : (s.extract 0 (2 + k + n + 4)).data.toList = s.data.toList.take (2 + k + n + 4) := by rw [ext_list]; simp
            have hps : x.size ≤ 1000000 := by rw [hx]; simp; omega
            have hC : ∀ y : World, Calls Try.prog 82 #[.string x] y fun e w' => e = .returned (.string (txt (ftext x.data.toList))) ∧ Below y.heap.size y w' := fun y => rtext_any x y hps
            rw [← hP] at hti hbo
            have HT : Hid (s.extract 0 (2 + k + n + 4) = txt (ftext x.data.toList) ↔ cget (((s.data.toList.drop (2 + k)).drop n).take 4) = csum x.data.toList) := by
              show _ ↔ _
              rw [← hti, ← hQ]
              constructor
              · intro e; rw [e]; rfl
              · intro e; rw [e]; rfl
            rw [hx] at hC HT hbo hps
            have HC := Lib.hid hC
            clear hC hP hQ hbl hti hx
            generalize txt (ftext (s.extract (2 + k) (2 + k + n)).data.toList) = F at HC HT
            by_cases hck : cget (((s.data.toList.drop (2 + k)).drop n).take 4) = csum (s.extract (2 + k) (2 + k + n)).data.toList
            · rw [if_neg (by simp only [ne_eq, Decidable.not_not]; exact hck)] at hbo
              rw [hbo]
              have hF : (F.toList == (s.extract 0 (2 + k + n + 4)).toList) = true := str_same (HT.out.2 hck).symm
              have HX := Lib.hid (txt_of (s.extract (2 + k) (2 + k + n)))
              have hfs : ((fsize n : Nat) : Int) = 2 + (k : Int) + (n : Int) + 4 := by unfold fsize; rw [← HVP.out]; omega
              have HFS := Lib.hid hfs
              clear hbo hck hfs
              go_enter Try.func58, Try.ntmps58
              go_wp2_with fail
              refine (HG.out _).mono ?_
              rintro e w2 ⟨rfl, hb2⟩
              go_wp2
              refine wp_region_below_lit (by kernel_rfl) (by kernel_rfl) ?_
              repeat (first | go_big_quiet_skip | (go_big_quiet_want; go_big_quiet_op; first | go_big_quiet_on | (apply Exists.intro; refine ⟨fun nq => ?_, ?_⟩; (go_at_call 82; exact below_of (HC.out _)); go_big_quiet_on)))
              refine wpQuiet_nil ?_
              intro wq hnq
              obtain ⟨nq, rfl⟩ := hnq
              have hq := nq.bel
              generalize nq.wld = wq at hq ⊢
              clear nq
              go_wp2
              go_ret3
              rw [HX.out, HFS.out]
              exact ⟨rfl, bb hb2 hq⟩
            · rw [if_pos hck] at hbo
              rw [hbo]
              have hF : (F.toList == (s.extract 0 (2 + k + n + 4)).toList) = false := str_else fun e => hck (HT.out.1 e.symm)
              clear hbo hck
              go_enter Try.func58, Try.ntmps58
              go_wp2_with fail
              refine (HG.out _).mono ?_
              rintro e w2 ⟨rfl, hb2⟩
              go_wp2
              refine wp_region_below_lit (by kernel_rfl) (by kernel_rfl) ?_
              repeat (first | go_big_quiet_skip | (go_big_quiet_want; go_big_quiet_op; first | go_big_quiet_on | (apply Exists.intro; refine ⟨fun nq => ?_, ?_⟩; (go_at_call 82; exact below_of (HC.out _)); go_big_quiet_on)))
              refine wpQuiet_nil ?_
              intro wq hnq
              obtain ⟨nq, rfl⟩ := hnq
              have hq := nq.bel
              generalize nq.wld = wq at hq ⊢
              clear nq
              go_wp2
              go_ret3
              exact ⟨rfl, bb hb2 hq⟩
      · rw [if_pos hg] at hbo
        rw [hbo]
        have hgb : ((g : Int) != 0) = true := by rw [bne_iff_ne]; omega
        clear hbo hV hm hg
        go_enter Try.func58, Try.ntmps58
        go_wp2_with fail
        refine (HG.out _).mono ?_
        rintro e w2 ⟨rfl, hb2⟩
        go_wp2
        go_ret3
        exact ⟨rfl, hb2⟩
    · have hn1 : ((s[1].toNat : Int) != 70) = true := by rw [bne_iff_ne]; omega
      have hfp : fparse s.data.toList = ([], 0, 5) := by
        have hfm : fmark s.data.toList = 5 := by
          unfold fmark
          rw [if_neg (by rw [len_list]; exact hz), if_neg (by rw [hg0]; simp), if_neg (by rw [len_list]; exact hz1), if_pos (by rw [hg1]; intro e; exact h9 (by rw [e]; rfl))]
        rw [fparse_mark (by omega), hfm]
      rw [hfp]
      clear hfp hg0 hg1 hz hz1
      go_enter Try.func58, Try.ntmps58
      go_wp2
      go_ret3
      exact ⟨rfl, b0⟩
  · have hn : ((s[0].toNat : Int) != 81) = true := by rw [bne_iff_ne]; omega
    have hfp : fparse s.data.toList = ([], 0, 5) := by
      have hfm : fmark s.data.toList = 5 := by
        unfold fmark
        rw [if_neg (by rw [len_list]; exact hz), if_pos (by rw [hg]; intro e; exact h8 (by rw [e]; rfl))]
      rw [fparse_mark (by omega), hfm]
    rw [hfp]
    clear hfp hg
    go_enter Try.func58, Try.ntmps58
    go_wp2
    go_ret3
    exact ⟨rfl, b0⟩
end Go.Proofs.Ytlkdoahdcepncaa
