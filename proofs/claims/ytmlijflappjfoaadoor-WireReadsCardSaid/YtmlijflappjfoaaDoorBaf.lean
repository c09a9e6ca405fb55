/-
  Texts of the proof, joined: FCount RefFld RefFld2 RefWire. Conditions: as each names.
-/
import Derived.Test.YtmlijflappjfoaaDoorBae
import Derived.Test.YtmlijflappjfoaaDoorBac
import Derived.Deep.LoopGhost

section
/-
  Contracts of layer 8: how many fields there are.
-/
namespace Go.Proofs.YtmlijflappjfoaaDoor
open Go.RowKit Go.PM
set_option maxRecDepth 100000
set_option maxHeartbeats 1000000

theorem info_fields : (Tryd.prog.info? 35).map (fun i => (i.zero, i.size, i.bytes)) = some (some (.slice none 0 0), 1, 24) := by kernel_rfl
/-- Where a walk over a work list stands. -/
def WkAt (w : World) (I : Nat → Prop) (v : Value) (L : List Fs) (wr : World) : Prop :=
  ∃ (g cap : Nat) (xs : List Value), v = .slice (some ⟨g, 0, none⟩) L.length cap ∧ wr.ownsRow w.heap.size 35 1 v L.length xs ∧ WL w I xs L ∧ Below w.heap.size w wr
theorem count_of (v : Value) (f : Fs) (I : Nat → Prop) (w : World) (hr : SlV w I v f) (h60 : f.count ≤ 1000000) :
    Calls Tryd.prog 38 #[v] w fun e w' => e = .returned (.int .i64 (f.count : Int)) ∧ Below w.heap.size w w' := by
  have HR := Lib.hid hr
  obtain ⟨A, c, rfl, hr'⟩ := hr
  clear hr'
  generalize hT : f.count = T at h60 ⊢
  have HT := Lib.hid hT
  obtain ⟨i0, hi0, hz0, hz1, hz2⟩ := info_parts info_fields
  clear hT
  go_enter Tryd.func38, Tryd.ntmps38
  go_wp2_with fail
  go_loopg [3, 4] (2 * T + 1) (fun gk nn vv wr => ∃ (n : Nat) (L : List Fs), nn = .int .i64 (n : Int) ∧ Hid (n + lsum L = T ∧ 2 * lsum L + L.length ≤ gk ∧ gk ≤ 2 * T + 1) ∧ WkAt w I vv L wr)
  case atStart =>
    refine ⟨0, [f], rfl, ⟨by simp [lsum, HT.out], by simp [lsum, HT.out], Nat.le_refl _⟩, w.heap.size, 1, [.slice A f.len c], rfl, World.ownsRow_lit w #[.slice A f.len c] 1 (Nat.le_refl _) (by decide) rfl, ?_, ba b0 _⟩
    exact WL.push (xs := []) (L := []) WL.nil HR.out
  case round =>
    obtain ⟨n, L, rfl, hn, g, cap, xs, rfl, hown, hwl, hbel⟩ := hrel
    cases hL : L.length with
    | zero =>
      obtain rfl : L = [] := List.eq_nil_of_length_eq_zero hL
      have e : n = T := by have := hn.out.1; simpa [lsum] using this
      subst e
      clear hn
      have HB := Lib.hid hbel
      clear hown hwl hbel hL
      go_wp2_with fail
      go_ret
      exact ⟨rfl, HB.out⟩
    | succ m =>
      obtain ⟨L', f1, x, rfl, hL', hx, hsx, hwl'⟩ := hwl.pop hL
      have hsx' := hsx.below hbel
      obtain ⟨A1, c1, rfl, hc1, hor⟩ := hsx'
      have hcell := hown.cellAt m (by rw [hL]; omega)
      rw [hx] at hcell
      rw [hL] at hown
      have HO := Lib.hid (own_pop hown)
      obtain ⟨hmc, hcap⟩ := own_cap hown
      have hmi : (m : Int) ≤ (cap : Int) := by omega
      have HWL := Lib.hid hwl'
      have HBEL := Lib.hid hbel
      have HSX := Lib.hid hsx
      obtain ⟨hn1, hn2, hgT⟩ := hn.out
      rw [lsum_app] at hn1 hn2
      simp only [lsum, List.length_append, List.length_cons, List.length_nil] at hn1 hn2
      have hfc := f1.count_in
      have H0 : Hid (n + f1.len + lsum L' + f1.icount = T ∧ 2 * lsum L' + L'.length + 2 * f1.icount + f1.len + 1 ≤ gk ∧ f1.len ≤ 1000000) := ⟨by omega, by omega, by omega⟩
      have hnf : n + f1.len ≤ 1000000 ∧ f1.len ≤ 1000000 := by have := H0.out; omega
      obtain ⟨hnf, hfl⟩ := hnf
      have HM := Lib.hid hL'
      obtain ⟨G, hG⟩ : ∃ G, G = gk := ⟨gk, rfl⟩
      rw [← hG] at H0 hgT
      have HG := Lib.hid hG
      clear hG
      clear hn hn1 hn2 hfc hown hwl hbel hsx hx hor hL hL' hwl'
      go_wp2_with fail
      go_loopg [4, 29] f1.len (fun gj vv kk w2 => ∃ (k : Nat) (L2 : List Fs), k + gj = f1.len ∧ kk = .int .i64 (k : Int) ∧ Hid (n + f1.len + lsum L2 + (f1.drop k).icount = T ∧ 2 * lsum L2 + L2.length + 2 * (f1.drop k).icount + (f1.drop k).len + 1 ≤ G) ∧ WkAt w I vv L2 w2)
      case atStart =>
        refine ⟨0, L', by omega, rfl, ?_, g, cap, _, by rw [HM.out], by rw [HM.out]; exact HO.out, by rw [Nat.mul_one]; exact HWL.out, HBEL.out⟩
        have : f1.drop 0 = f1 := by cases f1 <;> rfl
        rw [this]
        exact ⟨H0.out.1, H0.out.2.1⟩
      case round =>
        obtain ⟨k, L2, hkj, rfl, hn2, g2, cap2, xs2, rfl, hown2, hwl2, hbel2⟩ := hrel
        by_cases hlt : k < f1.len
        · obtain ⟨t, y, n', s, i, hdc, _⟩ := f1.drop_cons k hlt
          have hsx := HSX.out
          obtain ⟨A0, c0, hv, hc0, hor⟩ := hsx
          injection hv with hv1 hv2 hv3
          subst hv1 hv3
          rcases hor with h0 | ⟨b, o, rfl, hIb, hbl, hat⟩
          · omega
          have hak := hat.drop k
          rw [hdc] at hak
          obtain ⟨_, _, _, _, ⟨Ai, ci, d4w, hci, hin⟩, _⟩ := hak
          have d4 := (World.cell?_of_block (hbel2.block b hbl)).trans d4w
          clear d4w
          have hn3 := hn2.out
          rw [hdc] at hn3
          simp only [Fs.icount, Fs.len] at hn3
          have hic := i.count_in
          have HW : Hid (WkAt w I (.slice (some ⟨g2, 0, none⟩) L2.length cap2) L2 wr) := ⟨g2, cap2, xs2, rfl, hown2, hwl2, hbel2⟩
          clear hdc hat hv2 hn2
          have hkl : (k : Int) < (f1.len : Int) := by omega
          by_cases hi0' : i.len = 0
          · have : i = .nil := Fs.len_zero hi0'
            subst this
            simp only [Fs.count, Nat.zero_add] at hn3
            have HN : Hid (n + f1.len + lsum L2 + (f1.drop (k + 1)).icount = T ∧ 2 * lsum L2 + L2.length + 2 * (f1.drop (k + 1)).icount + (f1.drop (k + 1)).len + 1 ≤ G) := ⟨by omega, by omega⟩
            clear hn3 hown2 hwl2 hbel2 hin hic hi0'
            go_wp2_with fail
            go_roundg (f1.len - (k + 1))
            case measure => omega
            case rel => exact ⟨k + 1, L2, by omega, by go_num, HN.out, HW.out⟩
          · have hip : (0 : Int) < (i.len : Int) := by omega
            have HSI : Hid (SlV w I (.slice Ai i.len ci) i) := ⟨Ai, ci, rfl, hci, hin⟩
            have HN : Hid (n + f1.len + lsum (L2 ++ [i]) + (f1.drop (k + 1)).icount = T ∧ 2 * lsum (L2 ++ [i]) + (L2 ++ [i]).length + 2 * (f1.drop (k + 1)).icount + (f1.drop (k + 1)).len + 1 ≤ G) := by
              rw [lsum_app]
              simp only [lsum, List.length_append, List.length_cons, List.length_nil]
              exact ⟨by omega, by omega⟩
            have hL2 : L2.length ≤ 3000000 := by omega
            have HO2 := Lib.hid hown2
            have HW2 := Lib.hid hwl2
            have HB2 := Lib.hid hbel2
            have hwz := hbel2.size
            clear hn3 hown2 hwl2 hbel2 hin hic hi0'
            generalize hM2 : L2.length = M2 at *
            have HM2 := Lib.hid hM2
            clear hM2
            go_wp2_with (at_builtin; go_must (refine wpList_append_lies _ rfl _ _ 75 rfl w.heap.size 35 i0 _ 1 24 Tryd.underlying75 hi0 hz0 hz1 hz2 rfl (by decide) _ M2 xs2 rfl (HO2.out.alloc _) ⟨wr.heap.size, 0, none⟩ 1 1 [.slice Ai i.len ci] rfl rfl (World.news_of_block (cs := #[.slice Ai i.len ci]) (t := 35) (fr := (0, 0)) (heap_alloc_new wr _)) (by simp [Value.oneCell']) (by decide) (by unfold maxLen; omega) (by omega) (by simp; omega) (wr.heap.size + 1) (by simp) ?_); intro g3 cap3 w3 hown3 hg3 hat3 hlt3; have HO3 := Lib.hid hown3; have HG3 := Lib.hid hg3; clear hown3 hg3 hat3 hlt3)
            go_roundg (f1.len - (k + 1))
            case measure => omega
            case rel =>
              refine ⟨k + 1, L2 ++ [i], by omega, by go_num, HN.out, g3, cap3, _, by simp [HM2.out], by simp only [List.length_append, List.length_cons, List.length_nil, HM2.out]; exact HO3.out, HW2.out.push HSI.out, ?_⟩
              have hb1 := ba (a := wr) b0 (.cells #[.slice Ai i.len ci] 35)
              exact (HB2.out.trans (hb1.mono hwz)).trans (Tch.grown (S := fun k => some g2 = some k) HG3.out (fun k hk _ => hk) |>.toBelowB (Nat.le_trans hwz hb1.size) fun k hk e => by have := (HO2.out.lt k e).1; omega)
        · obtain rfl : k = f1.len := by omega
          have hlr : f1.drop f1.len = .nil := Fs.len_zero (by rw [Fs.drop_len]; omega)
          rw [hlr] at hn2
          have HE : Hid (n + f1.len + lsum L2 = T ∧ 2 * lsum L2 + L2.length < G) := by have := hn2.out; simp only [Fs.icount, Fs.len] at this; exact ⟨by omega, by omega⟩
          have HW : Hid (WkAt w I (.slice (some ⟨g2, 0, none⟩) L2.length cap2) L2 wr) := ⟨g2, cap2, xs2, rfl, hown2, hwl2, hbel2⟩
          clear hn2 hown2 hwl2 hbel2 hlr
          go_wp2_with fail
          go_roundg (2 * lsum L2 + L2.length)
          case measure => rw [← HG.out]; exact HE.out.2
          case rel => exact ⟨n + f1.len, L2, by go_num, ⟨HE.out.1, Nat.le_refl _, by have := HE.out.2; omega⟩, HW.out⟩
end Go.Proofs.YtmlijflappjfoaaDoor
end

section
/-
  Contracts of the document's answers for layer 8: how many fields; whether they may be.
-/
namespace Go.Proofs.YtmlijflappjfoaaDoor
open Go.RowKit Go.PM
set_option maxRecDepth 100000
set_option maxHeartbeats 1000000
attribute [local go_sem ↓] Go.wp_at_zero Go.wp_at_succ

theorem rcount_any8 (N : Nat) : ∀ (A : Option Addr) (c : Nat) (f : Fs) (I : Nat → Prop) (w : World), f.count ≤ N → SlV w I (.slice A f.len c) f → f.count ≤ 1000000 →
    Calls Tryd.prog 39 #[.slice A f.len c] w fun e w' => e = .returned (.int .i64 (f.count : Int)) ∧ Below w.heap.size w w' := by
  induction N with
  | zero =>
    intro A c f I w hN hr h60
    have : f = .nil := Fs.len_zero (by have := f.len_count; omega)
    subst this
    go_enter Tryd.func39, Tryd.ntmps39
    go_wp2_with fail
    go_loopw [3, 8] (fun nn kk wr => nn = .int .i64 0 ∧ kk = .int .i64 0 ∧ wr = w) (fun _ _ _ => 0)
    case atStart => exact ⟨rfl, rfl, rfl⟩
    case round =>
      obtain ⟨rfl, rfl, rfl⟩ := hrel
      go_wp2_with fail
      go_ret
      exact ⟨rfl, b0⟩
  | succ N ih =>
    intro A c f I w hN hr h60
    have IH := Lib.hid ih
    have HR := Lib.hid hr
    clear ih hr
    have hfl := f.len_count
    have H0 : Hid ((f.take 0).count = 0) := by cases f <;> rfl
    have HC : Hid (f.count ≤ 1000000 ∧ f.count ≤ N + 1) := ⟨h60, hN⟩
    generalize hT : f.count = T at *
    have HT := Lib.hid hT
    clear hT
    go_enter Tryd.func39, Tryd.ntmps39
    go_wp2_with fail
    go_loopw [3, 8] (fun nn kk wr => ∃ k n : Nat, k ≤ f.len ∧ kk = .int .i64 (k : Int) ∧ nn = .int .i64 (n : Int) ∧ n ≤ 1000000 ∧ Hid ((f.take k).count = n) ∧ Below w.heap.size w wr) (fun _ kk _ => f.len - (intOf kk).toNat)
    case atStart => exact ⟨0, 0, by omega, rfl, rfl, by omega, H0, b0⟩
    case round =>
      obtain ⟨k, n, hk, rfl, rfl, hn, hnt, hbel⟩ := hrel
      by_cases hlt : k < f.len
      · obtain ⟨t, y, n', s, i, hdc, htk⟩ := f.drop_cons k hlt
        obtain ⟨A0, c0, hv, hc0, hor⟩ := HR.out.below hbel
        injection hv with hv1 hv2 hv3
        subst hv1 hv3
        rcases hor with h0 | ⟨b, o, rfl, hIb, hbl, hat⟩
        · omega
        have hak := hat.drop k
        rw [hdc] at hak
        obtain ⟨d0, d1, d2, d3, ⟨Ai, ci, d4, hci, hin⟩, _⟩ := hak
        have htc := f.take_count (k + 1)
        rw [htk, Fs.app_count] at htc
        simp only [Fs.count] at htc
        have htn := hnt.out
        rw [htn, HT.out] at htc
        have hic : i.count ≤ N ∧ i.count ≤ 1000000 ∧ n + 1 + i.count ≤ 1000000 := by omega
        have HN : Hid ((f.take (k + 1)).count = n + 1 + i.count) := by
          show _ = _
          rw [htk, Fs.app_count]
          simp only [Fs.count]
          omega
        have HSI : Hid (SlV wr I (.slice Ai i.len ci) i) := ⟨Ai, ci, rfl, hci, hin⟩
        have HBEL := Lib.hid hbel
        have HCA : Hid (∀ x : World, Below wr.heap.size wr x → Calls Tryd.prog 39 #[.slice Ai i.len ci] x fun e w' => e = .returned (.int .i64 (i.count : Int)) ∧ Below x.heap.size x w') := fun x hx =>
          IH.out Ai ci i I x hic.1 (HSI.out.below hx) hic.2.1
        obtain ⟨_, h2, h3⟩ := hic
        clear htc htn hdc htk hat hin hbel hv2 hnt
        have hm5 := BlkAt.made wr 65 #[.int .u64 (t : Int), .int .i64 y, .int .u64 (n' : Int), .string s, .slice Ai i.len ci]
        have e4 := hm5.cell 4
        simp at e4
        clear hm5
        go_wp2_with (go_at_call 39; refine (HCA.out _ (by first | exact ba b0 _ | exact bd (ba b0 _))).mono ?_; rintro e' W1 ⟨rfl, hb1⟩)
        go_roundw
        case rel => exact ⟨k + 1, n + 1 + i.count, by omega, by go_num, by go_num, by omega, HN, HBEL.out.trans ((bb (ba b0 _) hb1).mono HBEL.out.size)⟩
        case measure => simp [intOf]; omega
      · obtain rfl : k = f.len := by omega
        have e : n = T := by have := hnt.out; rw [f.take_all _ (Nat.le_refl _), HT.out] at this; exact this.symm
        subst e
        have HB := Lib.hid hbel
        clear hnt hbel HT
        go_wp2_with fail
        go_ret
        exact ⟨rfl, HB.out⟩
end Go.Proofs.YtmlijflappjfoaaDoor
end

section
/-
  Contracts of the document's answers for layer 8: whether fields may be.
-/
namespace Go.Proofs.YtmlijflappjfoaaDoor
open Go.RowKit Go.PM
set_option maxRecDepth 100000
set_option maxHeartbeats 8000000
attribute [local go_sem ↓] Go.wp_at_zero Go.wp_at_succ

theorem rcheck_any8 (N : Nat) : ∀ (A : Option Addr) (c : Nat) (f : Fs) (I : Nat → Prop) (deep : Nat) (w : World), f.count ≤ N → SlV w I (.slice A f.len c) f → f.All FKd → f.count ≤ 1000000 → (deep ≤ 8 ∨ deep = 9 ∧ f = .nil) →
    Calls Tryd.prog 36 #[.slice A f.len c, .int .i64 (deep : Int)] w fun e w' => e = .returned (.int .i64 (fcheck f 0 deep : Int)) ∧ Below w.heap.size w w' := by
  induction N with
  | zero =>
    intro A c f I deep w hN hr hk h60 hw
    have : f = .nil := Fs.len_zero (by have := f.len_count; omega)
    subst this
    go_enter Tryd.func36, Tryd.ntmps36
    go_wp2_with fail
    go_loopw [10] (fun kk wr => kk = .int .i64 0 ∧ wr = w) (fun _ _ => 0)
    case atStart => exact ⟨rfl, rfl⟩
    case round =>
      obtain ⟨rfl, rfl⟩ := hrel
      go_wp2_with fail
      go_ret
      exact ⟨rfl, b0⟩
  | succ N ih =>
    intro A c f I deep w hN hr hk h60 hw
    have IH := Lib.hid ih
    have HR := Lib.hid hr
    have HK := Lib.hid hk
    have HW := Lib.hid hw
    have hfl := f.len_count
    generalize hRR : fcheck f 0 deep = R
    have H0 : Hid (fcheck (f.drop 0) 0 deep = R) := by show _ = _; rw [← hRR]; cases f <;> rfl
    have hd9 : deep ≤ 9 := by omega
    clear hRR ih hr hk hw
    go_enter Tryd.func36, Tryd.ntmps36
    go_wp2_with fail
    go_loopw [10] (fun kk wr => ∃ k ahead : Nat, k ≤ f.len ∧ kk = .int .i64 (k : Int) ∧ Hid (k = 0 ∧ ahead = 0 ∨ ∃ j y n s i r, k = j + 1 ∧ f.drop j = .cons ahead y n s i r) ∧ Hid (fcheck (f.drop k) ahead deep = R) ∧ Below w.heap.size w wr) (fun kk _ => f.len - (intOf kk).toNat)
    case atStart => exact ⟨0, 0, by omega, rfl, .inl ⟨rfl, rfl⟩, H0, b0⟩
    case round =>
      obtain ⟨k, ahead, hk, rfl, hah, hR', hbel⟩ := hrel
      have HBEL := Lib.hid hbel
      have hR := hR'.out
      by_cases hlt : k < f.len
      · obtain ⟨t, y, n, s, i, hdc, _⟩ := f.drop_cons k hlt
        have hd8 : deep ≤ 8 := by
          rcases HW.out with h | ⟨_, h⟩
          · exact h
          · rw [h] at hlt; simp [Fs.len] at hlt
        obtain ⟨A0, c0, hv, hc0, hor⟩ := HR.out.below hbel
        injection hv with hv1 hv2 hv3
        subst hv1 hv3
        rcases hor with h0 | ⟨b, o, rfl, hIb, hbl, hat⟩
        · omega
        have hak := hat.drop k
        have hkk := HK.out.drop k
        have hcc := f.drop_count k
        have HAT := Lib.hid hat
        rw [hdc] at hak hkk hR hcc
        obtain ⟨d0, d1, d2, d3, ⟨Ai, ci, d4, hin⟩, _⟩ := hak
        obtain ⟨⟨ht64, hy64, hn64, hs63⟩, hki, _⟩ := hkk
        have hic : i.count ≤ N ∧ i.count ≤ 1000000 ∧ i.len ≤ 1000000 := by
          have := i.len_count
          simp only [Fs.count] at hcc
          omega
        have HSI : Hid (SlV wr I (.slice Ai i.len ci) i) := ⟨Ai, ci, rfl, hin⟩
        have HKI := Lib.hid hki
        have HT64 := Lib.hid ht64
        have HDC := Lib.hid hdc
        clear hdc hat hin hki hbel hv2 hn64 hR' ht64 hcc H0
        rw [fcheck] at hR
        have hkf : (k : Int) < (f.len : Int) := by omega
        by_cases ht0 : t = 0
        · subst ht0
          rw [if_pos (.inl rfl)] at hR
          clear hah
          subst hR
          go_wp2_with fail
          go_ret
          exact ⟨rfl, HBEL.out.trans ((ba b0 _ : Below wr.heap.size wr _).mono HBEL.out.size)⟩
        have hti : ((t : Int) == 0) = false := by rw [beq_eq_false_iff_ne]; omega
        by_cases ht1 : 4294967296 < t
        · rw [if_pos (.inr ht1)] at hR
          clear hah
          subst hR
          go_wp2_with fail
          go_ret
          exact ⟨rfl, HBEL.out.trans ((ba b0 _ : Below wr.heap.size wr _).mono HBEL.out.size)⟩
        rw [if_neg (by omega)] at hR
        have htd : decide ((4294967296 : Int) < (t : Int)) = false := by simp; omega
        have HCA : Hid ((deep + 1 ≤ 8 ∨ deep + 1 = 9 ∧ i = .nil) → ∀ x : World, Below wr.heap.size wr x → Calls Tryd.prog 36 #[.slice Ai i.len ci, .int .i64 ((deep : Int) + 1)] x fun e w' => e = .returned (.int .i64 (fcheck i 0 (deep + 1) : Int)) ∧ Below x.heap.size x w') := fun hh x hx => IH.out Ai ci i I (deep + 1) x hic.1 (HSI.out.below hx) HKI.out hic.2.1 hh
        rcases hah.out with ⟨rfl, rfl⟩ | ⟨j, py, pn, ps, pi, pr, rfl, hdj⟩
        · rw [if_neg (by omega)] at hR
          clear hah
          simp only [Nat.zero_mul, Nat.add_zero] at d0 d1 d2 d3 d4
          cases hty : ftyped y n s i.len with
          | false =>
            rw [if_pos hty] at hR
            clear HCA
            by_cases y0 : y = 0
            · subst y0
              unfold ftyped at hty
              rw [if_pos rfl] at hty
              by_cases hs : s.size = 0
              · obtain rfl := size_zero hs
                have hz : i.len ≠ 0 := fun h => by rw [h] at hty; revert hty; decide
                have hi : (0 : Int) < (i.len : Int) := by omega
                clear hz
                clear hty
                subst hR
                go_wp2_with fail
                go_quiet (fail)
                go_wp2_with fail
                go_ret
                exact ⟨rfl, HBEL.out.trans ((bn (ba b0 _) _ : Below wr.heap.size wr _).mono HBEL.out.size)⟩
              · obtain ⟨e1, e2⟩ := size_some hs
                clear hty
                subst hR
                go_wp2_with fail
                go_quiet (fail)
                go_wp2_with fail
                go_ret
                exact ⟨rfl, HBEL.out.trans ((bn (ba b0 _) _ : Below wr.heap.size wr _).mono HBEL.out.size)⟩
            by_cases y1 : y = 1
            · subst y1
              unfold ftyped at hty
              rw [if_neg (by simp), if_pos rfl] at hty
              by_cases hn : n = 0
              · subst hn
                have hz : i.len ≠ 0 := fun h => by rw [h] at hty; revert hty; decide
                have hi : (0 : Int) < (i.len : Int) := by omega
                clear hz
                clear hty
                subst hR
                go_wp2_with fail
                go_quiet (fail)
                go_wp2_with fail
                go_ret
                exact ⟨rfl, HBEL.out.trans ((bn (ba b0 _) _ : Below wr.heap.size wr _).mono HBEL.out.size)⟩
              · have hi : ((n : Int) != 0) = true := by rw [bne_iff_ne]; omega
                clear hty
                subst hR
                go_wp2_with fail
                go_quiet (fail)
                go_wp2_with fail
                go_ret
                exact ⟨rfl, HBEL.out.trans ((bn (ba b0 _) _ : Below wr.heap.size wr _).mono HBEL.out.size)⟩
            by_cases y2 : y = 2
            · subst y2
              unfold ftyped at hty
              rw [if_neg (by simp), if_neg (by simp), if_pos rfl] at hty
              by_cases hn : n = 0
              · subst hn
                have hs : s.size ≠ 0 := by simpa using hty
                obtain ⟨e1, e2⟩ := size_some hs
                clear hty
                subst hR
                go_wp2_with fail
                go_quiet (fail)
                go_wp2_with fail
                go_ret
                exact ⟨rfl, HBEL.out.trans ((bn (ba b0 _) _ : Below wr.heap.size wr _).mono HBEL.out.size)⟩
              · have hi : ((n : Int) != 0) = true := by rw [bne_iff_ne]; omega
                clear hty
                subst hR
                go_wp2_with fail
                go_quiet (fail)
                go_wp2_with fail
                go_ret
                exact ⟨rfl, HBEL.out.trans ((bn (ba b0 _) _ : Below wr.heap.size wr _).mono HBEL.out.size)⟩
            clear hty
            by_cases yn : y < 0
            · clear y0 y1 y2
              subst hR
              go_wp2_with fail
              go_quiet (fail)
              go_wp2_with fail
              go_ret
              exact ⟨rfl, HBEL.out.trans ((bn (ba b0 _) _ : Below wr.heap.size wr _).mono HBEL.out.size)⟩
            · have yp : 2 < y := by omega
              have yd : decide (y < 0) = false := by simp; omega
              clear y0 y1 y2 yn
              subst hR
              go_wp2_with fail
              go_quiet (fail)
              go_wp2_with fail
              go_ret
              exact ⟨rfl, HBEL.out.trans ((bn (ba b0 _) _ : Below wr.heap.size wr _).mono HBEL.out.size)⟩
          | true =>
            rw [if_neg (by rw [hty]; simp)] at hR
            unfold ftyped at hty
            by_cases y0 : y = 0
            · subst y0
              rw [if_pos rfl] at hty
              simp only [Bool.and_eq_true, decide_eq_true_eq] at hty
              obtain ⟨hs, h0⟩ := hty
              obtain rfl := size_zero hs
              have : i = .nil := Fs.len_zero h0
              subst this
              rw [if_pos (by simp)] at hR
              rw [show fcheck .nil 0 (deep + 1) = 0 from rfl] at HCA
              have hdi : deep + 1 ≤ 8 ∨ deep + 1 = 9 ∧ Fs.nil = Fs.nil := by
                rcases Nat.lt_or_ge deep 8 with h | h
                · exact .inl h
                · exact .inr ⟨by omega, rfl⟩
              have HDI := Lib.hid hdi
              clear hs h0 hdi
              have HR2 := Lib.hid hR
              clear hR
              go_wp2_with fail
              go_quiet (fail)
              go_wp2_with (go_at_call 36; refine (HCA.out HDI.out _ (by first | exact bn (ba b0 _) _ | exact bd (bn (ba b0 _) _))).mono ?_; rintro e' W1 ⟨rfl, hb1⟩)
              go_roundw
              case rel => exact ⟨0 + 1, t, by omega, by go_num, .inr ⟨0, _, _, _, _, _, rfl, HDC.out⟩, HR2, HBEL.out.trans ((bb (bn (ba b0 _) _) hb1).mono HBEL.out.size)⟩
              case measure => simp [intOf]; omega
            rw [if_neg y0] at hty
            by_cases y1 : y = 1
            · subst y1
              rw [if_pos rfl] at hty
              simp only [Bool.and_eq_true, decide_eq_true_eq] at hty
              obtain ⟨hs, h0⟩ := hty
              subst hs
              have : i = .nil := Fs.len_zero h0
              subst this
              rw [if_pos (by simp)] at hR
              rw [show fcheck .nil 0 (deep + 1) = 0 from rfl] at HCA
              have hdi : deep + 1 ≤ 8 ∨ deep + 1 = 9 ∧ Fs.nil = Fs.nil := by
                rcases Nat.lt_or_ge deep 8 with h | h
                · exact .inl h
                · exact .inr ⟨by omega, rfl⟩
              have HDI := Lib.hid hdi
              clear y0 h0 hdi
              have HR2 := Lib.hid hR
              clear hR
              go_wp2_with fail
              go_quiet (fail)
              go_wp2_with (go_at_call 36; refine (HCA.out HDI.out _ (by first | exact bn (ba b0 _) _ | exact bd (bn (ba b0 _) _))).mono ?_; rintro e' W1 ⟨rfl, hb1⟩)
              go_roundw
              case rel => exact ⟨0 + 1, t, by omega, by go_num, .inr ⟨0, _, _, _, _, _, rfl, HDC.out⟩, HR2, HBEL.out.trans ((bb (bn (ba b0 _) _) hb1).mono HBEL.out.size)⟩
              case measure => simp [intOf]; omega
            rw [if_neg y1] at hty
            by_cases y2 : y = 2
            · subst y2
              rw [if_pos rfl] at hty
              simp only [Bool.and_eq_true, decide_eq_true_eq] at hty
              obtain ⟨hn, hs⟩ := hty
              subst hn
              obtain rfl := size_zero hs
              rw [if_neg (by simp)] at hR
              clear y0 y1 hs
              by_cases hde : 8 ≤ deep
              · rw [if_pos hde] at hR
                obtain rfl : deep = 8 := by omega
                clear HCA
                subst hR
                go_wp2_with fail
                go_quiet (fail)
                go_wp2_with fail
                go_ret
                exact ⟨rfl, HBEL.out.trans ((bn (ba b0 _) _ : Below wr.heap.size wr _).mono HBEL.out.size)⟩
              · rw [if_neg hde] at hR
                have hdd : ((deep : Int) == 8) = false := by rw [beq_eq_false_iff_ne]; omega
                have HDI : Hid (deep + 1 ≤ 8 ∨ deep + 1 = 9 ∧ i = .nil) := .inl (by omega)
                generalize hE : fcheck i 0 (deep + 1) = E at hR HCA
                clear hE
                by_cases he : E = 0
                · subst he
                  rw [if_neg (by simp)] at hR
                  have HR2 := Lib.hid hR
                  clear hR
                  go_wp2_with fail
                  go_quiet (fail)
                  go_wp2_with (go_at_call 36; refine (HCA.out HDI.out _ (by first | exact bn (ba b0 _) _ | exact bd (bn (ba b0 _) _))).mono ?_; rintro e' W1 ⟨rfl, hb1⟩)
                  go_roundw
                  case rel => exact ⟨0 + 1, t, by omega, by go_num, .inr ⟨0, _, _, _, _, _, rfl, HDC.out⟩, HR2, HBEL.out.trans ((bb (bn (ba b0 _) _) hb1).mono HBEL.out.size)⟩
                  case measure => simp [intOf]; omega
                · rw [if_pos he] at hR
                  have hei : ((E : Int) != 0) = true := by rw [bne_iff_ne]; omega
                  subst hR
                  go_wp2_with fail
                  go_quiet (fail)
                  go_wp2_with (go_at_call 36; refine (HCA.out HDI.out _ (by first | exact bn (ba b0 _) _ | exact bd (bn (ba b0 _) _))).mono ?_; rintro e' W1 ⟨rfl, hb1⟩)
                  go_ret
                  exact ⟨rfl, HBEL.out.trans ((bb (bn (ba b0 _) _) hb1).mono HBEL.out.size)⟩
            · rw [if_neg y2] at hty
              cases hty
        · have hpk := HAT.out.drop j
          rw [hdj] at hpk
          obtain ⟨p0, _⟩ := hpk
          clear hah hdj
          by_cases hta : t ≤ ahead
          · rw [if_pos hta] at hR
            clear HCA
            subst hR
            go_wp2_with fail
            go_quiet (fail)
            go_wp2_with fail
            go_ret
            exact ⟨rfl, HBEL.out.trans ((bn (ba b0 _) _ : Below wr.heap.size wr _).mono HBEL.out.size)⟩
          · rw [if_neg hta] at hR
            have hta' : decide ((t : Int) ≤ (ahead : Int)) = false := by simp; omega
            cases hty : ftyped y n s i.len with
            | false =>
              rw [if_pos hty] at hR
              clear HCA
              by_cases y0 : y = 0
              · subst y0
                unfold ftyped at hty
                rw [if_pos rfl] at hty
                by_cases hs : s.size = 0
                · obtain rfl := size_zero hs
                  have hz : i.len ≠ 0 := fun h => by rw [h] at hty; revert hty; decide
                  have hi : (0 : Int) < (i.len : Int) := by omega
                  clear hz
                  clear hty
                  subst hR
                  go_wp2_with fail
                  go_quiet (fail)
                  go_wp2_with fail
                  go_ret
                  exact ⟨rfl, HBEL.out.trans ((bn (ba b0 _) _ : Below wr.heap.size wr _).mono HBEL.out.size)⟩
                · obtain ⟨e1, e2⟩ := size_some hs
                  clear hty
                  subst hR
                  go_wp2_with fail
                  go_quiet (fail)
                  go_wp2_with fail
                  go_ret
                  exact ⟨rfl, HBEL.out.trans ((bn (ba b0 _) _ : Below wr.heap.size wr _).mono HBEL.out.size)⟩
              by_cases y1 : y = 1
              · subst y1
                unfold ftyped at hty
                rw [if_neg (by simp), if_pos rfl] at hty
                by_cases hn : n = 0
                · subst hn
                  have hz : i.len ≠ 0 := fun h => by rw [h] at hty; revert hty; decide
                  have hi : (0 : Int) < (i.len : Int) := by omega
                  clear hz
                  clear hty
                  subst hR
                  go_wp2_with fail
                  go_quiet (fail)
                  go_wp2_with fail
                  go_ret
                  exact ⟨rfl, HBEL.out.trans ((bn (ba b0 _) _ : Below wr.heap.size wr _).mono HBEL.out.size)⟩
                · have hi : ((n : Int) != 0) = true := by rw [bne_iff_ne]; omega
                  clear hty
                  subst hR
                  go_wp2_with fail
                  go_quiet (fail)
                  go_wp2_with fail
                  go_ret
                  exact ⟨rfl, HBEL.out.trans ((bn (ba b0 _) _ : Below wr.heap.size wr _).mono HBEL.out.size)⟩
              by_cases y2 : y = 2
              · subst y2
                unfold ftyped at hty
                rw [if_neg (by simp), if_neg (by simp), if_pos rfl] at hty
                by_cases hn : n = 0
                · subst hn
                  have hs : s.size ≠ 0 := by simpa using hty
                  obtain ⟨e1, e2⟩ := size_some hs
                  clear hty
                  subst hR
                  go_wp2_with fail
                  go_quiet (fail)
                  go_wp2_with fail
                  go_ret
                  exact ⟨rfl, HBEL.out.trans ((bn (ba b0 _) _ : Below wr.heap.size wr _).mono HBEL.out.size)⟩
                · have hi : ((n : Int) != 0) = true := by rw [bne_iff_ne]; omega
                  clear hty
                  subst hR
                  go_wp2_with fail
                  go_quiet (fail)
                  go_wp2_with fail
                  go_ret
                  exact ⟨rfl, HBEL.out.trans ((bn (ba b0 _) _ : Below wr.heap.size wr _).mono HBEL.out.size)⟩
              clear hty
              by_cases yn : y < 0
              · clear y0 y1 y2
                subst hR
                go_wp2_with fail
                go_quiet (fail)
                go_wp2_with fail
                go_ret
                exact ⟨rfl, HBEL.out.trans ((bn (ba b0 _) _ : Below wr.heap.size wr _).mono HBEL.out.size)⟩
              · have yp : 2 < y := by omega
                have yd : decide (y < 0) = false := by simp; omega
                clear y0 y1 y2 yn
                subst hR
                go_wp2_with fail
                go_quiet (fail)
                go_wp2_with fail
                go_ret
                exact ⟨rfl, HBEL.out.trans ((bn (ba b0 _) _ : Below wr.heap.size wr _).mono HBEL.out.size)⟩
            | true =>
              rw [if_neg (by rw [hty]; simp)] at hR
              unfold ftyped at hty
              by_cases y0 : y = 0
              · subst y0
                rw [if_pos rfl] at hty
                simp only [Bool.and_eq_true, decide_eq_true_eq] at hty
                obtain ⟨hs, h0⟩ := hty
                obtain rfl := size_zero hs
                have : i = .nil := Fs.len_zero h0
                subst this
                rw [if_pos (by simp)] at hR
                rw [show fcheck .nil 0 (deep + 1) = 0 from rfl] at HCA
                have hdi : deep + 1 ≤ 8 ∨ deep + 1 = 9 ∧ Fs.nil = Fs.nil := by
                  rcases Nat.lt_or_ge deep 8 with h | h
                  · exact .inl h
                  · exact .inr ⟨by omega, rfl⟩
                have HDI := Lib.hid hdi
                clear hs h0 hdi
                have HR2 := Lib.hid hR
                clear hR
                go_wp2_with fail
                go_quiet (fail)
                go_wp2_with (go_at_call 36; refine (HCA.out HDI.out _ (by first | exact bn (ba b0 _) _ | exact bd (bn (ba b0 _) _))).mono ?_; rintro e' W1 ⟨rfl, hb1⟩)
                go_roundw
                case rel => exact ⟨(j+1) + 1, t, by omega, by go_num, .inr ⟨(j+1), _, _, _, _, _, rfl, HDC.out⟩, HR2, HBEL.out.trans ((bb (bn (ba b0 _) _) hb1).mono HBEL.out.size)⟩
                case measure => simp [intOf]; omega
              rw [if_neg y0] at hty
              by_cases y1 : y = 1
              · subst y1
                rw [if_pos rfl] at hty
                simp only [Bool.and_eq_true, decide_eq_true_eq] at hty
                obtain ⟨hs, h0⟩ := hty
                subst hs
                have : i = .nil := Fs.len_zero h0
                subst this
                rw [if_pos (by simp)] at hR
                rw [show fcheck .nil 0 (deep + 1) = 0 from rfl] at HCA
                have hdi : deep + 1 ≤ 8 ∨ deep + 1 = 9 ∧ Fs.nil = Fs.nil := by
                  rcases Nat.lt_or_ge deep 8 with h | h
                  · exact .inl h
                  · exact .inr ⟨by omega, rfl⟩
                have HDI := Lib.hid hdi
                clear y0 h0 hdi
                have HR2 := Lib.hid hR
                clear hR
                go_wp2_with fail
                go_quiet (fail)
                go_wp2_with (go_at_call 36; refine (HCA.out HDI.out _ (by first | exact bn (ba b0 _) _ | exact bd (bn (ba b0 _) _))).mono ?_; rintro e' W1 ⟨rfl, hb1⟩)
                go_roundw
                case rel => exact ⟨(j+1) + 1, t, by omega, by go_num, .inr ⟨(j+1), _, _, _, _, _, rfl, HDC.out⟩, HR2, HBEL.out.trans ((bb (bn (ba b0 _) _) hb1).mono HBEL.out.size)⟩
                case measure => simp [intOf]; omega
              rw [if_neg y1] at hty
              by_cases y2 : y = 2
              · subst y2
                rw [if_pos rfl] at hty
                simp only [Bool.and_eq_true, decide_eq_true_eq] at hty
                obtain ⟨hn, hs⟩ := hty
                subst hn
                obtain rfl := size_zero hs
                rw [if_neg (by simp)] at hR
                clear y0 y1 hs
                by_cases hde : 8 ≤ deep
                · rw [if_pos hde] at hR
                  obtain rfl : deep = 8 := by omega
                  clear HCA
                  subst hR
                  go_wp2_with fail
                  go_quiet (fail)
                  go_wp2_with fail
                  go_ret
                  exact ⟨rfl, HBEL.out.trans ((bn (ba b0 _) _ : Below wr.heap.size wr _).mono HBEL.out.size)⟩
                · rw [if_neg hde] at hR
                  have hdd : ((deep : Int) == 8) = false := by rw [beq_eq_false_iff_ne]; omega
                  have HDI : Hid (deep + 1 ≤ 8 ∨ deep + 1 = 9 ∧ i = .nil) := .inl (by omega)
                  generalize hE : fcheck i 0 (deep + 1) = E at hR HCA
                  clear hE
                  by_cases he : E = 0
                  · subst he
                    rw [if_neg (by simp)] at hR
                    have HR2 := Lib.hid hR
                    clear hR
                    go_wp2_with fail
                    go_quiet (fail)
                    go_wp2_with (go_at_call 36; refine (HCA.out HDI.out _ (by first | exact bn (ba b0 _) _ | exact bd (bn (ba b0 _) _))).mono ?_; rintro e' W1 ⟨rfl, hb1⟩)
                    go_roundw
                    case rel => exact ⟨(j+1) + 1, t, by omega, by go_num, .inr ⟨(j+1), _, _, _, _, _, rfl, HDC.out⟩, HR2, HBEL.out.trans ((bb (bn (ba b0 _) _) hb1).mono HBEL.out.size)⟩
                    case measure => simp [intOf]; omega
                  · rw [if_pos he] at hR
                    have hei : ((E : Int) != 0) = true := by rw [bne_iff_ne]; omega
                    subst hR
                    go_wp2_with fail
                    go_quiet (fail)
                    go_wp2_with (go_at_call 36; refine (HCA.out HDI.out _ (by first | exact bn (ba b0 _) _ | exact bd (bn (ba b0 _) _))).mono ?_; rintro e' W1 ⟨rfl, hb1⟩)
                    go_ret
                    exact ⟨rfl, HBEL.out.trans ((bb (bn (ba b0 _) _) hb1).mono HBEL.out.size)⟩
              · rw [if_neg y2] at hty
                cases hty
      · obtain rfl : k = f.len := by omega
        have hn : f.drop f.len = .nil := Fs.len_zero (by rw [Fs.drop_len]; omega)
        rw [hn, fcheck] at hR
        subst hR
        clear hR' hbel H0 hah
        go_wp2_with fail
        go_ret
        exact ⟨rfl, HBEL.out⟩
end Go.Proofs.YtmlijflappjfoaaDoor
end

section
/-
  Contracts of the document's answer for layer 9: fields as they are written. Conditions: fields that may be, of texts of bounded length.
-/
namespace Go.Proofs.YtmlijflappjfoaaDoor
open Go.RowKit Go.PM
set_option maxRecDepth 100000
set_option maxHeartbeats 1500000
attribute [local go_sem ↓] Go.wp_at_zero Go.wp_at_succ

theorem app_list (a b : ByteArray) : (a ++ b).data.toList = a.data.toList ++ b.data.toList := by rw [ByteArray.data_append, Array.toList_append]
theorem rtxt_any (N : Nat) : ∀ (A : Option Addr) (c : Nat) (f : Fs) (I : Nat → Prop) (a d : Nat) (w : World), f.count ≤ N → SlV w I (.slice A f.len c) f → fcheckP f a d → f.count ≤ 1000000 → (ftx f).length ≤ 1000000000000 →
    Calls Tryd.prog 59 #[.slice A f.len c] w fun e w' => e = .returned (.string (txt (ftx f))) ∧ Below w.heap.size w w' := by
  induction N with
  | zero =>
    intro A c f I a d w hN hr hP h60 hL
    have : f = .nil := Fs.len_zero (by have := f.len_count; omega)
    subst this
    go_enter Tryd.func59, Tryd.ntmps59
    go_wp2_with fail
    go_loopw [3, 9] (fun nn kk wr => nn = .string ⟨#[]⟩ ∧ kk = .int .i64 0 ∧ wr = w) (fun _ _ _ => 0)
    case atStart => exact ⟨rfl, rfl, rfl⟩
    case round =>
      obtain ⟨rfl, rfl, rfl⟩ := hrel
      go_wp2_with fail
      go_ret
      exact ⟨rfl, b0⟩
  | succ N ih =>
    intro A c f I a d w hN hr hP h60 hL
    have IH := Lib.hid ih
    have HR := Lib.hid hr
    have HP := Lib.hid hP
    have H60 : Hid (f.count ≤ 1000000 ∧ f.count ≤ N + 1) := ⟨h60, hN⟩
    have hfl := Nat.le_trans f.len_count h60
    have HL := Lib.hid hL
    clear ih hr hP h60 hN hL
    have H0 : Hid ((⟨#[]⟩ : ByteArray).data.toList = ftx (f.take 0)) := by cases f <;> rfl
    generalize hT : txt (ftx f) = T at *
    have HT := Lib.hid hT
    clear hT
    go_enter Tryd.func59, Tryd.ntmps59
    go_wp2_with fail
    go_loopw [3, 9] (fun nn kk wr => ∃ (k : Nat) (S : ByteArray), k ≤ f.len ∧ kk = .int .i64 (k : Int) ∧ nn = .string S ∧ S.size ≤ 1000000000000 ∧ Hid (S.data.toList = ftx (f.take k)) ∧ Below w.heap.size w wr) (fun _ kk _ => f.len - (intOf kk).toNat)
    case atStart => exact ⟨0, ⟨#[]⟩, by omega, rfl, rfl, by decide, H0, b0⟩
    case round =>
      obtain ⟨k, S, hk, rfl, rfl, hS, HSL, hbel⟩ := hrel
      by_cases hlt : k < f.len
      · obtain ⟨t, y, n, s, i, hdc, htk⟩ := f.drop_cons k hlt
        obtain ⟨A0, c0, hv, hc0, hor⟩ := HR.out.below hbel
        injection hv with hv1 hv2 hv3
        subst hv1 hv3
        rcases hor with h0 | ⟨b, o, rfl, hIb, hbl, hat⟩
        · omega
        have hak := hat.drop k
        rw [hdc] at hak
        obtain ⟨c0, c1, c2, c3, ⟨Ai, ci, c4, hci, hin⟩, _⟩ := hak
        obtain ⟨a', hPk⟩ := fcheckP_drop k HP.out
        rw [hdc] at hPk
        obtain ⟨⟨_, ht0, ht32, hn64, hcase⟩, _⟩ := hPk
        have hcc := f.drop_count k
        rw [hdc] at hcc
        simp only [Fs.count] at hcc
        have hstep := ftx_take htk
        have hle := ftx_take_le f (k + 1)
        have hlen := HL.out
        have HLEN : Hid ((ftx (f.take (k + 1))).length ≤ 1000000000000) := by show _ ≤ _; omega
        have htl : ftx (.cons t y n s i .nil) = vput (4 * t + y.toNat) ++ (if y = 0 then vput n else if y = 1 then vput s.size ++ s.data.toList else vput (ftx i).length ++ ftx i) := by simp only [ftx, List.append_nil]
        rw [htl] at hstep
        rw [hstep] at hle
        simp only [List.length_append] at hle
        have HSI : Hid (SlV wr I (.slice Ai i.len ci) i) := ⟨Ai, ci, rfl, hci, hin⟩
        have HBEL := Lib.hid hbel
        have hkf : (k : Int) < (f.len : Int) := by omega
        have hic : i.count ≤ N ∧ i.count ≤ 1000000 := by have := H60.out; omega
        have hm5 := BlkAt.made wr 65 #[.int .u64 (t : Int), .int .i64 y, .int .u64 (n : Int), .string s, .slice Ai i.len ci]
        have hbo := ba (a := wr) b0 (.cells #[.int .u64 (t : Int), .int .i64 y, .int .u64 (n : Int), .string s, .slice Ai i.len ci] 65)
        have HM5 := Lib.hid hm5
        have HBO := Lib.hid hbo
        clear htl hdc htk hat hin hv2 hbel hm5 hbo
        have hti : (t : Int) ≤ 4294967296 := by omega
        rcases hcase with ⟨rfl, rfl, rfl⟩ | ⟨rfl, rfl, rfl, hs63⟩ | ⟨rfl, rfl, rfl, hd8, hPi⟩
        · rw [if_pos rfl] at hstep
          have HST := Lib.hid hstep
          obtain ⟨V1, hV1⟩ : ∃ V, V = txt (vput (4 * t + Int.toNat 0)) := ⟨_, rfl⟩
          obtain ⟨V2, hV2⟩ : ∃ V, V = txt (vput n) := ⟨_, rfl⟩
          have HP1 : Hid (∀ x : World, Calls Tryd.prog 73 #[.int .u64 (4 * (t : Int))] x fun e w' => e = .returned (.string V1) ∧ Below x.heap.size x w') := fun x => by rw [hV1]; exact rput_any (4 * t + Int.toNat 0) x (by show 4 * t + 0 < 18446744073709551616; omega)
          have HP2 : Hid (∀ x : World, Calls Tryd.prog 73 #[.int .u64 (n : Int)] x fun e w' => e = .returned (.string V2) ∧ Below x.heap.size x w') := fun x => by rw [hV2]; exact rput_any n x hn64
          have hz1 : V1.size ≤ 10 := by rw [hV1, txt_size, vput_length]; exact vsz_le10 (by show 4 * t + 0 < 18446744073709551616; omega)
          have hz2 : V2.size ≤ 10 := by rw [hV2, txt_size, vput_length]; exact vsz_le10 hn64
          have HV1 : Hid (V1.data.toList = vput (4 * t + Int.toNat 0)) := by show _ = _; rw [hV1, txt_list]
          have HV2 : Hid (V2.data.toList = vput n) := by show _ = _; rw [hV2, txt_list]
          clear hV1 hV2 hstep hn64 hle hlen
          go_wp2_with fail
          refine (HP1.out _).mono ?_
          rintro e1 W1 ⟨rfl, hb1⟩
          have hm1 := HM5.out.below hb1 HM5.out.lt
          have e1' := hm1.cell 1
          have e2' := hm1.cell 2
          have e3' := hm1.cell 3
          have e4' := hm1.cell 4
          simp at e1' e2' e3' e4'
          have HB1 := Lib.hid (bb HBO.out hb1)
          clear hm1 hb1
          go_wp2_with fail
          refine (HP2.out _).mono ?_
          rintro e3 W3 ⟨rfl, hb3⟩
          go_wp2_with fail
          go_roundw
          case rel =>
            refine ⟨k + 1, _, by omega, by go_num, rfl, ?_, ?_, HBEL.out.trans ((bb HB1.out hb3).mono HBEL.out.size)⟩
            · have h1 := HST.out
              have h2 : (S ++ V1 ++ V2).data.toList = ftx (f.take (k + 1)) := by rw [h1]; simp only [app_list, HSL.out, HV1.out, HV2.out, List.append_assoc]
              have h3 := congrArg List.length h2
              rw [len_list] at h3
              have := HLEN.out
              omega
            · show (S ++ V1 ++ V2).data.toList = ftx (f.take (k + 1))
              rw [HST.out]; simp only [app_list, HSL.out, HV1.out, HV2.out, List.append_assoc]
          case measure => simp [intOf]; omega
        · rw [if_neg (by decide), if_pos rfl] at hstep
          have HST := Lib.hid hstep
          obtain ⟨V1, hV1⟩ : ∃ V, V = txt (vput (4 * t + Int.toNat 1)) := ⟨_, rfl⟩
          have hle2 := hle
          rw [if_neg (by decide), if_pos rfl, List.length_append] at hle2
          have hzs : s.size ≤ 1000000000000 := by rw [len_list] at hle2; omega
          have hz64 : In64 (s.size) := by show s.size < 18446744073709551616; omega
          obtain ⟨V2, hV2⟩ : ∃ V, V = txt (vput (s.size)) := ⟨_, rfl⟩
          have HP1 : Hid (∀ x : World, Calls Tryd.prog 73 #[.int .u64 (4 * (t : Int) + 1)] x fun e w' => e = .returned (.string V1) ∧ Below x.heap.size x w') := fun x => by rw [hV1]; exact rput_any (4 * t + Int.toNat 1) x (by show 4 * t + 1 < 18446744073709551616; omega)
          have HP2 : Hid (∀ x : World, Calls Tryd.prog 73 #[.int .u64 ((s.size : Nat) : Int)] x fun e w' => e = .returned (.string V2) ∧ Below x.heap.size x w') := fun x => by rw [hV2]; exact rput_any (s.size) x hz64
          have hz1 : V1.size ≤ 10 := by rw [hV1, txt_size, vput_length]; exact vsz_le10 (by show 4 * t + 1 < 18446744073709551616; omega)
          have hz2 : V2.size ≤ 10 := by rw [hV2, txt_size, vput_length]; exact vsz_le10 hz64
          have HV1 : Hid (V1.data.toList = vput (4 * t + Int.toNat 1)) := by show _ = _; rw [hV1, txt_list]
          have HV2 : Hid (V2.data.toList = vput (s.size)) := by show _ = _; rw [hV2, txt_list]
          clear hV1 hV2 hstep hn64 hle hle2 hlen hz64
          go_wp2_with fail
          refine (HP1.out _).mono ?_
          rintro e1 W1 ⟨rfl, hb1⟩
          have hm1 := HM5.out.below hb1 HM5.out.lt
          have e1' := hm1.cell 1
          have e2' := hm1.cell 2
          have e3' := hm1.cell 3
          have e4' := hm1.cell 4
          simp at e1' e2' e3' e4'
          have HB1 := Lib.hid (bb HBO.out hb1)
          clear hm1 hb1
          go_wp2_with fail
          refine (HP2.out _).mono ?_
          rintro e3 W3 ⟨rfl, hb3⟩
          go_wp2_with fail
          go_roundw
          case rel =>
            refine ⟨k + 1, _, by omega, by go_num, rfl, ?_, ?_, HBEL.out.trans ((bb HB1.out hb3).mono HBEL.out.size)⟩
            · have h1 := HST.out
              have h2 : (S ++ V1 ++ V2 ++ s).data.toList = ftx (f.take (k + 1)) := by rw [h1]; simp only [app_list, HSL.out, HV1.out, HV2.out, List.append_assoc]
              have h3 := congrArg List.length h2
              rw [len_list] at h3
              have := HLEN.out
              omega
            · show (S ++ V1 ++ V2 ++ s).data.toList = ftx (f.take (k + 1))
              rw [HST.out]; simp only [app_list, HSL.out, HV1.out, HV2.out, List.append_assoc]
          case measure => simp [intOf]; omega
        · rw [if_neg (by decide), if_neg (by decide)] at hstep
          have HST := Lib.hid hstep
          obtain ⟨V1, hV1⟩ : ∃ V, V = txt (vput (4 * t + Int.toNat 2)) := ⟨_, rfl⟩
          have hle2 := hle
          rw [if_neg (by decide), if_neg (by decide), List.length_append] at hle2
          obtain ⟨Z, hZ⟩ : ∃ Z, Z = txt (ftx i) := ⟨_, rfl⟩
          have hZl : (ftx i).length = Z.size := by rw [hZ, txt_size]
          have hzs : Z.size ≤ 1000000000000 := by rw [← hZl]; omega
          have HZ : Hid (ftx i = Z.data.toList) := by show _ = _; rw [hZ, txt_list]
          have HIT : Hid (∀ x : World, Below wr.heap.size wr x → Calls Tryd.prog 59 #[.slice Ai i.len ci] x fun e w' => e = .returned (.string Z) ∧ Below x.heap.size x w') := fun x hx => by
            rw [hZ]
            exact IH.out Ai ci i I 0 (d + 1) x hic.1 (HSI.out.below hx) hPi hic.2 (by rw [hZl]; exact hzs)
          have HZL := Lib.hid hZl
          rw [hZl] at HST
          clear hZ hZl hPi
          have hz64 : In64 (Z.size) := by show Z.size < 18446744073709551616; omega
          obtain ⟨V2, hV2⟩ : ∃ V, V = txt (vput (Z.size)) := ⟨_, rfl⟩
          have HP1 : Hid (∀ x : World, Calls Tryd.prog 73 #[.int .u64 (4 * (t : Int) + 2)] x fun e w' => e = .returned (.string V1) ∧ Below x.heap.size x w') := fun x => by rw [hV1]; exact rput_any (4 * t + Int.toNat 2) x (by show 4 * t + 2 < 18446744073709551616; omega)
          have HP2 : Hid (∀ x : World, Calls Tryd.prog 73 #[.int .u64 ((Z.size : Nat) : Int)] x fun e w' => e = .returned (.string V2) ∧ Below x.heap.size x w') := fun x => by rw [hV2]; exact rput_any (Z.size) x hz64
          have hz1 : V1.size ≤ 10 := by rw [hV1, txt_size, vput_length]; exact vsz_le10 (by show 4 * t + 2 < 18446744073709551616; omega)
          have hz2 : V2.size ≤ 10 := by rw [hV2, txt_size, vput_length]; exact vsz_le10 hz64
          have HV1 : Hid (V1.data.toList = vput (4 * t + Int.toNat 2)) := by show _ = _; rw [hV1, txt_list]
          have HV2 : Hid (V2.data.toList = vput (Z.size)) := by show _ = _; rw [hV2, txt_list]
          clear hV1 hV2 hstep hn64 hle hle2 hlen hz64
          go_wp2_with fail
          refine (HP1.out _).mono ?_
          rintro e1 W1 ⟨rfl, hb1⟩
          have hm1 := HM5.out.below hb1 HM5.out.lt
          have e1' := hm1.cell 1
          have e2' := hm1.cell 2
          have e3' := hm1.cell 3
          have e4' := hm1.cell 4
          simp at e1' e2' e3' e4'
          have HB1 := Lib.hid (bb HBO.out hb1)
          clear hm1 hb1
          go_wp2_with fail
          refine (HIT.out _ HB1.out).mono ?_
          rintro e2 W2 ⟨rfl, hb2⟩
          go_wp2_with fail
          refine (HP2.out _).mono ?_
          rintro e3 W3 ⟨rfl, hb3⟩
          go_wp2_with fail
          go_roundw
          case rel =>
            refine ⟨k + 1, _, by omega, by go_num, rfl, ?_, ?_, HBEL.out.trans ((bb (bb HB1.out hb2) hb3).mono HBEL.out.size)⟩
            · have h1 := HST.out
              have h2 : (S ++ V1 ++ V2 ++ Z).data.toList = ftx (f.take (k + 1)) := by rw [h1]; simp only [app_list, HSL.out, HZ.out, HV1.out, HV2.out, List.append_assoc]
              have h3 := congrArg List.length h2
              rw [len_list] at h3
              have := HLEN.out
              omega
            · show (S ++ V1 ++ V2 ++ Z).data.toList = ftx (f.take (k + 1))
              rw [HST.out]; simp only [app_list, HSL.out, HZ.out, HV1.out, HV2.out, List.append_assoc]
          case measure => simp [intOf]; omega
      · obtain rfl : k = f.len := by omega
        have e : S = T := by
          have := HSL.out
          rw [f.take_all _ (Nat.le_refl _)] at this
          rw [← HT.out]
          exact txt_eq this
        subst e
        have HB := Lib.hid hbel
        clear HSL hbel HT
        go_wp2_with fail
        go_ret
        exact ⟨rfl, HB.out⟩
end Go.Proofs.YtmlijflappjfoaaDoor
end
