/-
  Contracts of layer 7 (utf). Conditions: texts within int; Go's two tables of UTF-8 lie in memory as its text lays them.
-/
import Derived.Test.YtmlijflappjfoaaDoorDefLaw
import Derived.Test.YtmlijflappjfoaaDoorPlainUtf2
import Derived.Test.YtmlijflappjfoaaDoorShelf
namespace Go.Proofs.YtmlijflappjfoaaDoor
open Go.RowKit Go.PM
set_option maxRecDepth 100000
set_option maxHeartbeats 1000000

/-- Go's tables of UTF-8. -/
def Tabs (w : World) : Prop := Lib.Utf8Tabs (Tryd.lays196_ren.g 3) (Tryd.lays196_ren.g 4) w
theorem Tabs.below {w w' : World} (h : Tabs w) (hb : Below w.heap.size w w') : Tabs w' := by
  refine ⟨fun c hc => ?_, fun i hi => ?_⟩
  · have := h.1 c hc
    exact (hb.cell (p := ⟨_, c, none⟩) (World.block_lt_of_cell? w _ this)).trans this
  · have h1 := (h.2 i hi).1
    have h2 := (h.2 i hi).2
    exact ⟨(hb.cell (p := ⟨_, 2 * i, none⟩) (World.block_lt_of_cell? w _ h1)).trans h1, (hb.cell (p := ⟨_, 2 * i + 1, none⟩) (World.block_lt_of_cell? w _ h2)).trans h2⟩
theorem good_any (s : ByteArray) (w : World) (hs : s.size ≤ 9223372036854775807) (hT : Tabs w) :
    Calls Tryd.prog 13 #[.string s] w fun e w' => e = .returned (.bool (ugood s.data.toList)) ∧ Below w.heap.size w w' := by
  have HV : Hid (Calls Tryd.prog 46 #[.string s] w fun e w' => e = .returned (.bool (ugood s.data.toList)) ∧ Below w.heap.size w w') := by
    show Calls _ _ _ _ _
    have := Any.utf8_ValidString Tryd.lays196 s w hs hT
    rw [valid_good] at this
    exact this
  generalize ugood s.data.toList = g at HV ⊢
  clear hT
  go_enter Tryd.func13, Tryd.ntmps13
  go_wp2_with fail
  refine HV.out.mono ?_
  rintro e w1 ⟨rfl, hb⟩
  go_wp2
  go_ret
  exact ⟨rfl, hb⟩
theorem count_any7 (s : ByteArray) (w : World) (hs : s.size < 9223372036854775807) :
    Calls Tryd.prog 14 #[.string s] w fun e w' => e = .returned (.int .i64 (ucount s.data.toList : Int)) ∧ Below w.heap.size w w' := by
  have HV : Hid (Calls Tryd.prog 47 #[.string s] w fun e w' => e = .returned (.int .i64 (ucount s.data.toList : Int)) ∧ Below w.heap.size w w') := by
    show Calls _ _ _ _ _
    have := Tryd.utf8_RuneCountInString s w hs
    rw [rune_count] at this
    exact this.mono fun e w' ⟨he, pos, hw⟩ => ⟨he, hw ▸ ba b0 _⟩
  generalize ucount s.data.toList = g at HV ⊢
  go_enter Tryd.func14, Tryd.ntmps14
  go_wp2_with fail
  refine HV.out.mono ?_
  rintro e w1 ⟨rfl, hb⟩
  go_wp2
  go_ret
  exact ⟨rfl, hb⟩
/-- Where the program cuts. -/
def pcut (l : List UInt8) (most : Int) : Nat := if most < 0 then 0 else if (l.length : Int) ≤ most then l.length else ptrim l most.toNat
theorem rune_start (b : UInt8) : Lib.runeStart (b.toNat : Int) = !ucont b := by
  unfold Lib.runeStart ucont
  rw [Bool.eq_iff_iff]
  simp
  omega
theorem trim_any (s : ByteArray) (most : Int) (w : World) (hs : s.size ≤ 9223372036854775807) (hm : InI64 most) :
    Calls Tryd.prog 15 #[.string s, .int .i64 most] w fun e w' => e = .returned (.string (txt (s.data.toList.take (pcut s.data.toList most)))) ∧ Below w.heap.size w w' := by
  unfold pcut
  rw [len_list]
  by_cases h0 : most < 0
  · rw [if_pos h0]
    go_enter Tryd.func15, Tryd.ntmps15
    go_wp2
    go_ret
    exact ⟨rfl, b0⟩
  · rw [if_neg h0]
    by_cases h1 : (s.size : Int) ≤ most
    · rw [if_pos h1, List.take_of_length_le (by rw [len_list]; omega), txt_of]
      go_enter Tryd.func15, Tryd.ntmps15
      go_wp2
      go_ret
      exact ⟨rfl, b0⟩
    · rw [if_neg h1]
      obtain ⟨m0, rfl⟩ := Int.eq_ofNat_of_zero_le (show 0 ≤ most by omega)
      rw [Int.toNat_natCast]
      generalize hP : ptrim s.data.toList m0 = P
      have HP := Lib.hid hP
      clear hP hm
      go_enter Tryd.func15, Tryd.ntmps15
      go_wp2
      go_loop [1] (fun mm => ∃ m : Nat, m ≤ m0 ∧ mm = .int .i64 (m : Int) ∧ Hid (ptrim s.data.toList m = P)) (fun mm => (intOf mm).toNat)
      case atStart => exact ⟨m0, by omega, rfl, HP.out⟩
      case round =>
        obtain ⟨m, hm, rfl, hp⟩ := hrel
        by_cases hz : m = 0
        · subst hz
          have hP0 := hp.out
          rw [ptrim] at hP0
          subst hP0
          go_wp2
          go_ret
          exact ⟨rfl, b0⟩
        · obtain ⟨k, rfl⟩ : ∃ k, m = k + 1 := ⟨m - 1, by omega⟩
          have hlt : k + 1 < s.size := by omega
          have hp2 := hp.out
          have hg : s.data.toList.getD (k + 1) 0 = s[k + 1] := by
            rw [List.getD_eq_getElem?_getD, List.getElem?_eq_getElem (by rw [len_list]; exact hlt)]
            rfl
          rw [ptrim, hg] at hp2
          have hrs := rune_start s[k + 1]
          have hlo : (0 : Int) ≤ s[k + 1].toNat := by omega
          have hhi : (s[k + 1].toNat : Int) < 256 := by have := s[k + 1].toNat_lt; omega
          have HRS : Hid (∀ x : World, Calls Tryd.prog 48 #[.int .u8 (s[k + 1].toNat : Int)] x fun e w' => e = .returned (.bool (!ucont s[k + 1])) ∧ x = w') := fun x => by
            have := Tryd.utf8_RuneStart (s[k + 1].toNat : Int) x hlo hhi
            rw [hrs] at this
            exact this.mono fun e w' ⟨he, hw⟩ => ⟨he, hw.symm⟩
          clear hrs hlo hhi hg hp
          cases hc : ucont s[k + 1] with
          | true =>
            rw [hc] at hp2 HRS
            rw [if_pos rfl] at hp2
            have HP2 := Lib.hid hp2
            clear hc hp2
            go_wp2_with (go_at_call 48; refine (HRS.out _).mono ?_; rintro e w' ⟨rfl, rfl⟩)
            go_round
            case rel => exact ⟨k, by omega, rfl, HP2⟩
            case measure => simp [intOf]
          | false =>
            rw [hc] at hp2 HRS
            rw [if_neg (by simp)] at hp2
            subst hp2
            clear hc
            go_wp2_with (go_at_call 48; refine (HRS.out _).mono ?_; rintro e w' ⟨rfl, rfl⟩)
            go_ret
            refine ⟨?_, b0⟩
            have e : s.extract 0 (k + 1) = txt (s.data.toList.take (k + 1)) := txt_eq (by rw [ext_list, List.drop_zero, Nat.sub_zero])
            rw [← e]
            rfl

/-- What a text may be. -/
def uchk (l : List UInt8) (least most : Int) : Int := if (l.length : Int) < least ∨ most < l.length then 13 else if ugood l then 0 else 11
theorem ucheck_any (s : ByteArray) (least most : Int) (w : World) (hs : s.size ≤ 9223372036854775807) (hT : Tabs w) :
    Calls Tryd.prog 19 #[.string s, .int .i64 least, .int .i64 most] w fun e w' => e = .returned (.int .i64 (uchk s.data.toList least most)) ∧ Below w.heap.size w w' := by
  unfold uchk
  rw [len_list]
  have HG : Hid (Calls Tryd.prog 13 #[.string s] w fun e w' => e = .returned (.bool (ugood s.data.toList)) ∧ Below w.heap.size w w') := good_any s w hs hT
  clear hT
  by_cases h1 : (s.size : Int) < least
  · rw [if_pos (.inl h1)]
    go_enter Tryd.func19, Tryd.ntmps19
    go_wp2
    go_ret
    exact ⟨rfl, b0⟩
  · by_cases h2 : most < (s.size : Int)
    · rw [if_pos (.inr h2)]
      go_enter Tryd.func19, Tryd.ntmps19
      go_wp2
      go_ret
      exact ⟨rfl, b0⟩
    · rw [if_neg (by omega)]
      cases hg : ugood s.data.toList with
      | true =>
        rw [hg] at HG
        clear hg
        go_enter Tryd.func19, Tryd.ntmps19
        go_wp2_with fail
        refine HG.out.mono ?_
        rintro e w1 ⟨rfl, hb⟩
        go_wp2
        go_ret
        exact ⟨rfl, hb⟩
      | false =>
        rw [hg] at HG
        clear hg
        go_enter Tryd.func19, Tryd.ntmps19
        go_wp2_with fail
        refine HG.out.mono ?_
        rintro e w1 ⟨rfl, hb⟩
        go_wp2
        go_ret
        exact ⟨rfl, hb⟩

/-! ### The document's answer -/
/-- So great is the number behind k bytes, at most. -/
def ub : Nat → Nat
  | 1 => 31
  | 2 => 2047
  | 3 => 131071
  | _ => 8388607
theorem ub_step {k m d : Nat} (h1 : 1 ≤ k) (h2 : k < 4) (hm : m ≤ ub k) (hd : d < 64) : 64 * m + d ≤ ub (k + 1) := by
  match k, h1, h2, hm with
  | 1, _, _, hm => simp [ub] at hm ⊢; omega
  | 2, _, _, hm => simp [ub] at hm ⊢; omega
  | 3, _, _, hm => simp [ub] at hm ⊢; omega
theorem ub_le (k : Nat) : ub k ≤ 8388607 := by
  unfold ub
  split <;> omega
/-- On the way through a code point's bytes. -/
def Ua (l : List UInt8) (size n0 k m : Nat) : Prop := 1 ≤ k ∧ k ≤ size ∧ m ≤ ub k ∧ uacc m (size - k) (l.drop k) = uacc n0 (size - 1) (l.drop 1)
theorem Ua.no {l : List UInt8} {size n0 k m : Nat} (h : Ua l size n0 k m) (hk : k < size) (hl : k < l.length) (hc : ucont l[k] = false) : uacc n0 (size - 1) (l.drop 1) = none := by
  rw [← h.2.2.2, show size - k = (size - k - 1) + 1 by omega, List.drop_eq_getElem_cons hl, uacc, if_neg (by rw [hc]; simp)]
theorem Ua.next {l : List UInt8} {size n0 k m : Nat} (h : Ua l size n0 k m) (hs : size ≤ 4) (hk : k < size) (hl : k < l.length) (hc : ucont l[k] = true) : Ua l size n0 (k + 1) (64 * m + (l[k].toNat - 128)) := by
  refine ⟨by omega, by omega, ub_step h.1 (by omega) h.2.2.1 ?_, ?_⟩
  · unfold ucont at hc
    simp at hc
    omega
  · rw [← h.2.2.2, show size - k = (size - k - 1) + 1 by omega, List.drop_eq_getElem_cons hl, uacc, if_pos hc, show size - (k + 1) = size - k - 1 by omega]
theorem Ua.end_ {l : List UInt8} {size n0 m : Nat} (h : Ua l size n0 size m) : uacc n0 (size - 1) (l.drop 1) = some m := by
  rw [← h.2.2.2, Nat.sub_self]
  cases l.drop size <;> rfl
end Go.Proofs.YtmlijflappjfoaaDoor
