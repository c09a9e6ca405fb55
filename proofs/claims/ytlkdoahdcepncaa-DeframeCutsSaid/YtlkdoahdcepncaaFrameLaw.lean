/-
  The walks of the statements of layer 5. Conditions: texts as they come in.
-/
import Derived.Test.YtlkdoahdcepncaaFrame3
import Derived.Test.YtlkdoahdcepncaaCrcLaw
namespace Go.Proofs.Ytlkdoahdcepncaa
open Go.RowKit Go.PM
set_option maxRecDepth 100000
set_option maxHeartbeats 1000000

theorem awake05 (w : World) :
    Calls Try.prog 49 #[] w fun e w' => e = .returned (.bool true) ∧ Below w.heap.size w w' := by
  go_enter Try.func49, Try.ntmps49
  go_wp2_with fail
  refine (wrap_any _ _ (by decide)).mono ?_
  rintro e w1 ⟨rfl, hb1⟩
  rw [show txt (ftext (ByteArray.mk #[]).data.toList) = ByteArray.mk #[81, 70, 0, 0, 0, 0, 0] by decide +kernel]
  go_wp2_with fail
  refine (awakeE04 _).mono ?_
  rintro e w2 ⟨rfl, hb2⟩
  go_wp2
  go_ret
  exact ⟨rfl, bb hb1 hb2⟩
theorem awakeE05 (w : World) : Calls Try.prog 84 #[] w fun e w' => e = .returned (.bool true) ∧ Below w.heap.size w w' := by
  go_enter Try.func84, Try.ntmps84
  go_wp2_with (go_at_call 49; refine (awake05 _).mono ?_; rintro e w' ⟨rfl, hb⟩)
  go_ret
  exact ⟨rfl, hb⟩

/-- A number's bytes, counted by hand. -/
def Cs (n x z : Nat) : Prop := z + vsz x = fsize n + 1 ∧ x ≤ 65536
theorem Cs.start (n : Nat) (h : n ≤ 65536) : Cs n n (7 + n) := by unfold Cs fsize; omega
theorem Cs.next {n x z : Nat} (h : Cs n x z) (hx : 127 < x) : Cs n (x / 128) (z + 1) := by
  obtain ⟨h1, h2⟩ := h
  rw [vsz, if_neg (by omega)] at h1
  exact ⟨by omega, by omega⟩
theorem Cs.stop {n x z : Nat} (h : Cs n x z) (hx : ¬ 127 < x) : z = fsize n := by
  obtain ⟨h1, _⟩ := h
  rw [vsz, if_pos (by omega)] at h1
  omega

theorem fall_length (l : List UInt8) : (fall l).1.length ≤ l.length := by
  induction hn : l.length using Nat.strongRecOn generalizing l with
  | _ n ih =>
    rw [fall_eq]
    by_cases h0 : l.length = 0
    · rw [if_pos h0]; simp
    · rw [if_neg h0]
      by_cases hv : (fparse l).2.2 = 0
      · rw [if_pos hv]
        obtain ⟨k1, k2, _, _, _⟩ := fparse_ok hv
        have := ih (l.drop (fparse l).2.1).length (by rw [List.length_drop]; omega) _ rfl
        rw [List.length_drop] at this
        split
        · simp only [List.length_cons]; omega
        · simp
      · rw [if_neg hv]; simp
theorem freads_walk (p s : ByteArray) (n : Int) (w : World) (hn : InI64 n) (hp : p.size ≤ 9223372036854775807) (hs : s.size ≤ 9223372036854775807) :
    Calls Try.prog 12 #[.string p, .string s, .int .i64 n] w fun e w' => e = .returned (.bool true) ∧ Below w.heap.size w w' := by
  by_cases hlen : 4000 < p.size
  · go_enter Try.func12, Try.ntmps12
    go_wp2_with (go_at_call 49; refine (awake05 _).mono ?_; rintro e w1 ⟨rfl, hb1⟩)
    go_ret
    exact ⟨rfl, hb1⟩
  by_cases hlen2 : 4000 < s.size
  · go_enter Try.func12, Try.ntmps12
    go_wp2_with (go_at_call 49; refine (awake05 _).mono ?_; rintro e w1 ⟨rfl, hb1⟩)
    go_ret
    exact ⟨rfl, hb1⟩
  have HN := Lib.hid hn
  have hvl := vsz_le10 (n := p.size) (by omega)
  have HWS : Hid ((txt (ftext p.data.toList)).size = fsize p.size) := by show _ = _; rw [txt_size, ftext_length, len_list]
  have HW1 : Hid (∀ x : World, Calls Try.prog 50 #[.string p] x fun e w' => e = .returned (.tuple #[.string (txt (ftext p.data.toList)), .int .i64 0]) ∧ Below x.heap.size x w') := fun x => wrap_any p x (by omega)
  have HW2 : Hid (∀ x : World, Calls Try.prog 57 #[.string p] x fun e w' => e = .returned (.tuple #[.string (txt (ftext p.data.toList)), .int .i64 0]) ∧ Below x.heap.size x w') := fun x => rwrap_any p x (by omega)
  generalize txt (ftext p.data.toList) = T at HWS HW1 HW2
  have HP1 : Hid (∀ x : World, Calls Try.prog 51 #[.string s] x fun e w' => e = .returned (.tuple #[.string (txt (fparse s.data.toList).1), .int .i64 ((fparse s.data.toList).2.1 : Int), .int .i64 ((fparse s.data.toList).2.2 : Int)]) ∧ Below x.heap.size x w') := fun x => parse_any s x (by omega)
  have HP2 : Hid (∀ x : World, Calls Try.prog 58 #[.string s] x fun e w' => e = .returned (.tuple #[.string (txt (fparse s.data.toList).1), .int .i64 ((fparse s.data.toList).2.1 : Int), .int .i64 ((fparse s.data.toList).2.2 : Int)]) ∧ Below x.heap.size x w') := fun x => rparse_any s x (by omega)
  generalize fparse s.data.toList = V at HP1 HP2
  obtain ⟨q, k, g⟩ := V
  simp only at HP1 HP2
  generalize txt q = q' at HP1 HP2
  have HA1 : Hid (∀ x : World, Calls Try.prog 59 #[.string s] x fun e w' => ∃ v, e = .returned (.tuple #[v, .int .i64 ((fall s.data.toList).2 : Int)]) ∧
      w'.ownsRow x.heap.size 9 1 v ((fall s.data.toList).1.map txt).length (strs ((fall s.data.toList).1.map txt)) ∧ Below x.heap.size x w') := fun x => fall_any s x (by omega)
  have HA2 : Hid (∀ x : World, Calls Try.prog 60 #[.string s] x fun e w' => ∃ v, e = .returned (.tuple #[v, .int .i64 ((fall s.data.toList).2 : Int)]) ∧
      w'.ownsRow x.heap.size 9 1 v ((fall s.data.toList).1.map txt).length (strs ((fall s.data.toList).1.map txt)) ∧ Below x.heap.size x w') := fun x => rfall_any s x (by omega)
  have hL : ((fall s.data.toList).1.map txt).length ≤ 1000000 := by
    have := fall_length s.data.toList
    rw [len_list] at this
    rw [List.length_map]
    omega
  generalize (fall s.data.toList).1.map txt = L at HA1 HA2 hL
  generalize (fall s.data.toList).2 = c at HA1 HA2
  have HSP : Hid (∀ x : World, Calls Try.prog 62 #[.int .i64 (p.size : Int)] x fun e w' => e = .returned (.int .i64 (fsize p.size : Int)) ∧ Below x.heap.size x w') := fun x => fsize_yes p.size x (by omega)
  clear hn
  go_enter Try.func12, Try.ntmps12
  go_wp2_with (go_at_call 49; refine (awake05 _).mono ?_; rintro e w1 ⟨rfl, hb1⟩)
  refine (HW1.out _).mono ?_
  rintro e w2 ⟨rfl, hb2⟩
  replace hb1 := bb hb1 hb2
  clear hb2
  go_wp2_with fail
  refine (HW2.out _).mono ?_
  rintro e w3 ⟨rfl, hb2⟩
  replace hb1 := bb hb1 hb2
  clear hb2
  go_wp2_with fail
  refine (HP1.out _).mono ?_
  rintro e w4 ⟨rfl, hb2⟩
  replace hb1 := bb hb1 hb2
  clear hb2
  go_wp2_with fail
  refine (HP2.out _).mono ?_
  rintro e w5 ⟨rfl, hb2⟩
  replace hb1 := bb hb1 hb2
  clear hb2
  go_wp2_with fail
  refine (HA1.out _).mono ?_
  rintro e w6 ⟨v1, rfl, ho1, hb2⟩
  replace hb1 := bb hb1 hb2
  clear hb2
  go_wp2_with fail
  refine (HA2.out _).mono ?_
  rintro e w7 ⟨v2, rfl, ho2, hb2⟩
  replace hb1 := bb hb1 hb2
  obtain ⟨A1, c1, rfl, hr1, _, _⟩ := Rd.own (own_below ho1 hb2)
  obtain ⟨A2, c2, rfl, hr2, _, _⟩ := Rd.own ho2
  clear ho1 ho2 hb2
  have HR1 := Lib.hid hr1
  have HR2 := Lib.hid hr2
  have HB1 := Lib.hid hb1
  clear hr1 hr2 hb1
  by_cases hin : 0 ≤ n ∧ n ≤ 65536
  · obtain ⟨h0, h1⟩ := hin
    obtain ⟨m, rfl⟩ := Int.eq_ofNat_of_zero_le h0
    have HSZ : Hid (∀ x : World, Calls Try.prog 62 #[.int .i64 (m : Int)] x fun e w' => e = .returned (.int .i64 (fsize m : Int)) ∧ Below x.heap.size x w') := fun x => fsize_yes m x (by omega)
    have HCS : Hid (Cs m m (7 + m)) := Cs.start m (by omega)
    go_wp2
    go_loop [21, 22] (fun zz xx => ∃ z x : Nat, zz = .int .i64 (z : Int) ∧ xx = .int .i64 (x : Int) ∧ Cs m x z ∧ z ≤ 100000 ∧ x ≤ 65536) (fun _ x => (intOf x).toNat)
    case atStart => exact ⟨7 + m, m, by rw [show (3 + (m : Int) + 4) = ((7 + m : Nat) : Int) by omega], rfl, HCS.out, by omega, by omega⟩
    case round =>
      obtain ⟨z, x, rfl, rfl, hcs, hz, hx⟩ := hrel
      have HC := Lib.hid hcs
      clear hcs
      by_cases hbig : 127 < x
      · have hnx := HC.out.next hbig
        have hzb : z + 1 ≤ 100000 := by
          have e := HC.out.1
          have v := vsz_le10 (n := m) (by omega)
          unfold fsize at e
          omega
        have HNX := Lib.hid hnx
        clear hnx
        go_wp2
        go_round
        case rel => exact ⟨z + 1, x / 128, by go_num, by go_num, HNX.out, hzb, by omega⟩
        case measure => simp [intOf]; omega
      · have hzz := HC.out.stop hbig
        subst hzz
        go_wp2_with fail
        refine (equstr A1 A2 c1 c2 L _ HR1.out HR2.out hL).mono ?_
        rintro e w8 ⟨rfl, hb8⟩
        go_wp2_with fail
        refine (HSZ.out _).mono ?_
        rintro e w9 ⟨rfl, hb9⟩
        go_wp2_with fail
        refine (HSP.out _).mono ?_
        rintro e w10 ⟨rfl, hb10⟩
        rw [← HWS.out]
        go_wp2
        go_ret
        exact ⟨rfl, bb (bb (bb HB1.out hb8) hb9) hb10⟩
  · have HSZ : Hid (∀ x : World, Calls Try.prog 62 #[.int .i64 n] x fun e w' => e = .returned (.int .i64 0) ∧ Below x.heap.size x w') := fun x => fsize_no n x (by omega)
    rcases (show n < 0 ∨ 65536 < n by omega) with hlo | hhi
    · go_wp2_with fail
      refine (equstr A1 A2 c1 c2 L _ HR1.out HR2.out hL).mono ?_
      rintro e w8 ⟨rfl, hb8⟩
      go_wp2_with fail
      refine (HSZ.out _).mono ?_
      rintro e w9 ⟨rfl, hb9⟩
      go_wp2_with fail
      refine (HSP.out _).mono ?_
      rintro e w10 ⟨rfl, hb10⟩
      rw [← HWS.out]
      go_wp2
      go_ret
      exact ⟨rfl, bb (bb (bb HB1.out hb8) hb9) hb10⟩
    · go_wp2_with fail
      refine (equstr A1 A2 c1 c2 L _ HR1.out HR2.out hL).mono ?_
      rintro e w8 ⟨rfl, hb8⟩
      go_wp2_with fail
      refine (HSZ.out _).mono ?_
      rintro e w9 ⟨rfl, hb9⟩
      go_wp2_with fail
      refine (HSP.out _).mono ?_
      rintro e w10 ⟨rfl, hb10⟩
      rw [← HWS.out]
      go_wp2
      go_ret
      exact ⟨rfl, bb (bb (bb HB1.out hb8) hb9) hb10⟩
end Go.Proofs.Ytlkdoahdcepncaa
