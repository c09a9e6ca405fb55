/-
  Contracts of layer 6 (frames out of a stream). Conditions: texts within int.
-/
import Derived.Test.YtmlijflappjfoaaDoorFrameBack
import Derived.Test.YtmlijflappjfoaaDoorBuf
namespace Go.Proofs.YtmlijflappjfoaaDoor
open Go.RowKit Go.PM
set_option maxRecDepth 100000
set_option maxHeartbeats 1000000

/-- What is known of the length, where a frame is too short. -/
theorem short_cases {l : List UInt8} (h : (fparse l).2.2 = 1) (h2 : 2 ≤ l.length) : ((vget (l.drop 2)).2.2 = 1 ∧ fneed l = 0) ∨ ((vget (l.drop 2)).2.2 = 0 ∧ (vget (l.drop 2)).1 ≤ 65536 ∧ fneed l = fsize (vget (l.drop 2)).1) := by
  have hm : fmark l = 0 := by
    by_cases hm : fmark l = 0
    · exact hm
    · rw [fparse_mark hm] at h
      rcases fmark_cases l with ⟨h1, _⟩ | ⟨_, h1⟩ | h1
      · exact h1
      · omega
      · simp only at h; omega
  rw [fparse_body hm] at h
  unfold fneed
  rw [if_neg (by omega)]
  generalize hV : vget (l.drop 2) = V at *
  obtain ⟨n, k, g⟩ := V
  rw [fbody_of l n k g hV] at h
  simp only
  by_cases hg : g = 0
  · subst hg
    rw [if_neg (by simp)] at h
    right
    by_cases hn : 65536 < n
    · rw [if_pos hn] at h; simp at h
    · exact ⟨rfl, by omega, by simp⟩
  · rw [if_pos hg] at h
    left
    exact ⟨h, by rw [if_neg hg]⟩

theorem whole_any (s : ByteArray) (w : World) (hs : s.size ≤ 1000000) (hp : (fparse s.data.toList).2.2 = 1) :
    Calls Tryd.prog 91 #[.string s] w fun e w' => e = .returned (.int .i64 (fneed s.data.toList : Int)) ∧ Below w.heap.size w w' := by
  by_cases h2 : s.size < 2
  · have hn : fneed s.data.toList = 0 := by unfold fneed; rw [if_pos (by rw [len_list]; exact h2)]
    rw [hn]
    clear hn hp
    go_enter Tryd.func91, Tryd.ntmps91
    go_wp2
    go_loop [4] (fun k => k = .int .i64 2) (fun _ => 0)
    case atStart => rfl
    case round =>
      subst hrel
      go_wp2
      go_ret
      exact ⟨rfl, b0⟩
  have hsc := short_cases hp (by rw [len_list]; omega)
  have hl2 : (s.data.toList.drop 2).length = s.size - 2 := by rw [List.length_drop, len_list]
  generalize hV : vget (s.data.toList.drop 2) = V at hsc
  obtain ⟨n, k, g⟩ := V
  simp only at hsc
  generalize fneed s.data.toList = N at hsc ⊢
  have HSC := Lib.hid hsc
  have HV := Lib.hid hV
  clear hsc hV hp
  go_enter Tryd.func91, Tryd.ntmps91
  go_wp2
  go_loop [3, 4] (fun nn kk => ∃ i acc : Nat, i ≤ 10 ∧ i ≤ s.size - 2 ∧ kk = .int .i64 ((i : Int) + 2) ∧ nn = .int .u64 (acc : Int) ∧ Gt (s.data.toList.drop 2) i acc) (fun _ k => s.size - (intOf k).toNat)
  case atStart => exact ⟨0, 0, by omega, by omega, rfl, rfl, by unfold In64; omega, fun _ => ⟨by decide, rfl⟩, fun h => by omega⟩
  case round =>
    obtain ⟨i, acc, hi, his, rfl, rfl, hg⟩ := hrel
    have HG := Lib.hid hg
    clear hg
    have hi10 : i < 10 := by
      by_cases e : i = 10
      · have h3 := HG.out.2.2 e
        rw [HV.out] at h3
        injection h3 with _ h3
        injection h3 with _ h3
        rcases HSC.out with ⟨h, _⟩ | ⟨h, _⟩ <;> omega
      · omega
    by_cases hlt : i + 2 < s.size
    · have em := mask127 s[i + 2]
      obtain ⟨X, hX, hX64, hXv⟩ := or_any acc s[i + 2].toNat i HG.out.1
      have HX := Lib.hid (And.intro hX64 hXv)
      have hd : (s.data.toList.drop 2).drop i = s[i + 2] :: (s.data.toList.drop 2).drop (i + 1) := by
        rw [List.drop_drop, List.drop_drop, Nat.add_comm 2 i, drop_at s (i + 2) hlt]
        congr 2
        omega
      have HD := Lib.hid hd
      clear hX64 hXv hd
      by_cases h1 : 128 ≤ s[i + 2].toNat
      · have hn := HG.out.next hi10 HD.out rfl h1 HX.out.1 HX.out.2
        have HNx := Lib.hid hn
        clear hn
        go_wp2
        go_round
        case rel => exact ⟨i + 1, X, by omega, by omega, by go_num, rfl, HNx.out⟩
        case measure => simp [intOf]; omega
      · have hst := HG.out.stop hi10 HD.out h1
        rw [HV.out] at hst
        have hnX : n = X ∧ g = 0 := by
          by_cases h9 : i = 9 ∧ 1 < s[i + 2].toNat
          · rw [if_pos h9] at hst
            injection hst with _ h3
            injection h3 with _ h3
            rcases HSC.out with ⟨h, _⟩ | ⟨h, _⟩ <;> omega
          · rw [if_neg h9] at hst
            by_cases h0 : 0 < i ∧ s[i + 2].toNat = 0
            · rw [if_pos h0] at hst
              injection hst with _ h3
              injection h3 with _ h3
              rcases HSC.out with ⟨h, _⟩ | ⟨h, _⟩ <;> omega
            · rw [if_neg h0] at hst
              injection hst with h1' h3
              injection h3 with _ h3
              refine ⟨?_, h3⟩
              rw [HX.out.2 (HG.out.2.1 hi10).1 hi10 (fun h => by omega), Nat.mod_eq_of_lt (by omega)]
              exact h1'
        obtain ⟨rfl, hg0⟩ := hnX
        have hnn : n ≤ 65536 ∧ N = fsize n := by
          rcases HSC.out with ⟨h, _⟩ | ⟨_, h, h'⟩
          · omega
          · exact ⟨h, h'⟩
        obtain ⟨hnl, rfl⟩ := hnn
        clear hst
        go_wp2_with fail
        refine (fsize_yes n _ hnl).mono ?_
        rintro e w1 ⟨rfl, hb1⟩
        go_wp2
        go_ret
        exact ⟨rfl, hb1⟩
    · have hN : N = 0 := by
        have h4 := (HG.out.2.1 hi10).2
        rw [HV.out, show List.drop i (List.drop 2 s.data.toList) = [] from List.drop_eq_nil_of_le (by rw [hl2]; omega), vgetL, if_neg (by omega)] at h4
        injection h4 with _ h3
        injection h3 with _ h3
        rcases HSC.out with ⟨_, h⟩ | ⟨h, _⟩
        · exact h
        · omega
      subst hN
      go_wp2
      go_ret
      exact ⟨rfl, b0⟩

/-- A deframer: what waits, how many bytes it needs, its error, how many frames were delivered. -/
def Dfr (w : World) (d : Nat) (v : Value) (rest : List UInt8) (need err count : Nat) : Prop :=
  BlkAt w d 129 #[v, .int .i64 (need : Int), .int .i64 (err : Int), .int .i64 (count : Int)] ∧ Buf w 5 v rest ∧ foot v ≠ some d
theorem Dfr.tch {S : Nat → Prop} {w w' : World} {d : Nat} {v : Value} {rest : List UInt8} {need err count : Nat} (h : Dfr w d v rest need err count) (hg : Tch S w w') (hd : ¬ S d) (hf : ∀ g, foot v = some g → ¬ S g) : Dfr w' d v rest need err count :=
  ⟨h.1.tch hg hd, h.2.1.tch hg hf, h.2.2⟩
theorem Dfr.below {w w' : World} {d : Nat} {v : Value} {rest : List UInt8} {need err count : Nat} (h : Dfr w d v rest need err count) (hb : Below w.heap.size w w') : Dfr w' d v rest need err count :=
  h.tch (S := fun _ => False) (Tch.below hb) id fun _ _ => id
theorem new_any (w : World) :
    Calls Tryd.prog 80 #[] w fun e w' => ∃ d, e = .returned (.pointer (some ⟨d, 0, none⟩)) ∧ w.heap.size ≤ d ∧ Dfr w' d (.slice none 0 0) [] 0 0 0 ∧ Below w.heap.size w w' := by
  go_enter Tryd.func80, Tryd.ntmps80
  go_wp2
  go_ret
  exact ⟨_, rfl, Nat.le_refl _, ⟨BlkAt.made _ _ _, Buf.nil _ _, by simp [foot]⟩, ba b0 _⟩
end Go.Proofs.YtmlijflappjfoaaDoor
