/-
  Texts of the proof, joined: WireLaw3. Conditions: as each names.
-/
import Derived.Test.YtmlijflappjfoaaDoorBao
import Derived.Test.YtmlijflappjfoaaDoorBal

section
/-
  The walk of the statement of layer 9 about lists joined. Conditions: numbers within their kinds; Go's tables of UTF-8 lie in memory.
-/
namespace Go.Proofs.YtmlijflappjfoaaDoor
open Go.RowKit Go.PM
set_option maxRecDepth 100000
set_option maxHeartbeats 2000000
attribute [local go_sem ↓] Go.wp_at_zero Go.wp_at_succ

theorem fcheck_head {t n : Nat} {y : Int} {s : ByteArray} {i r : Fs} {a w : Nat} (h : fcheckP (.cons t y n s i r) a w) (hk : i.All FKd) (hw : w ≤ 8) (r' : Fs) : fcheck (.cons t y n s i r') a w = fcheck r' t w := by
  obtain ⟨⟨h1, h2, h3, h4, h5⟩, _⟩ := h
  rw [fcheck, if_neg (by omega), if_neg (by omega)]
  rcases h5 with ⟨rfl, rfl, rfl⟩ | ⟨rfl, rfl, rfl, h7⟩ | ⟨rfl, rfl, rfl, h8, h9⟩
  · rw [if_neg (by rw [ftyped_iff.2 (.inl ⟨rfl, rfl, rfl⟩)]; simp), if_pos (by decide)]
  · rw [if_neg (by rw [ftyped_iff.2 (.inr (.inl ⟨rfl, rfl, rfl⟩))]; simp), if_pos (by decide)]
  · have := (fcheck_iff i 0 (w + 1) hk (by omega)).2 h9
    rw [if_neg (by rw [ftyped_iff.2 (.inr (.inr ⟨rfl, rfl, rfl⟩))]; simp), if_neg (by decide), if_neg (by omega), if_neg (by rw [this]; simp)]
/-- A list behind which no other may stand. -/
theorem fcheck_order {t n : Nat} {y : Int} {s : ByteArray} {i r : Fs} (h0 : 0 < t ∧ t ≤ 4294967296) : ∀ {f : Fs} {a w : Nat}, f.All FKd → w ≤ 8 → fcheckP f a w → t ≤ f.last a → fcheck (f.app (.cons t y n s i r)) a w = 7
  | .nil, a, w, _, _, _, h => by
    show fcheck (.cons t y n s i r) a w = 7
    rw [fcheck, if_neg (by omega), if_pos (show t ≤ a from h)]
  | .cons t' y' n' s' i' r', a, w, hk, hw, hf, h => by
    show fcheck (.cons t' y' n' s' i' (r'.app _)) a w = 7
    rw [fcheck_head hf hk.2.1 hw]
    exact fcheck_order h0 hk.2.2 hw hf.2 h
theorem last_drop : ∀ (f : Fs) (k a : Nat), f.len = k + 1 → ∃ y n s i, f.drop k = .cons (f.last a) y n s i .nil
  | .cons t y n s i .nil, 0, a, h => ⟨y, n, s, i, rfl⟩
  | .cons t y n s i (.cons ..), 0, a, h => by simp [Fs.len] at h
  | .cons t y n s i r, k + 1, a, h => last_drop r k t (by simpa [Fs.len] using h)
  | .nil, _, _, h => by simp [Fs.len] at h

theorem wjoins_walk (A A' : Option Addr) (cap cap' : Nat) (l l' : List One) (w : World) (hT : Tabs w) (hr : OnesRd w.heap.size w A l) (hr' : OnesRd w.heap.size w A' l') (hok : ∀ x ∈ l, x.ok) (hok' : ∀ x ∈ l', x.ok)
    (hl : l.length ≤ cap) (hl' : l'.length ≤ cap') (hc : cap ≤ 9223372036854775807) (hc' : cap' ≤ 9223372036854775807) :
    Calls Tryd.prog 11 #[.slice A l.length cap, .slice A' l'.length cap'] w fun e w' => e = .returned (.bool true) ∧ Below w.heap.size w w' := by
  have HA := Lib.hid (awake09 w hT)
  have hb1 : Below w.heap.size w w := b0
  have HF : Hid (∀ x : World, Below w.heap.size w x → Calls Tryd.prog 23 #[.slice A l.length cap] x fun e w' => e = .returned (.bool (few l)) ∧ Below x.heap.size x w') := fun x hx => few_any w.heap.size A cap l x (hr.belowB hx) hok (by omega)
  have HF' : Hid (∀ x : World, Below w.heap.size w x → Calls Tryd.prog 23 #[.slice A' l'.length cap'] x fun e w' => e = .returned (.bool (few l')) ∧ Below x.heap.size x w') := fun x hx => few_any w.heap.size A' cap' l' x (hr'.belowB hx) hok' (by omega)
  have HR := Lib.hid hr
  have HR' := Lib.hid hr'
  have HOK := Lib.hid hok
  have HOK' := Lib.hid hok'
  have HL : Hid (l.length ≤ cap ∧ l'.length ≤ cap' ∧ cap ≤ 9223372036854775807 ∧ cap' ≤ 9223372036854775807) := ⟨hl, hl', hc, hc'⟩
  clear hT hr hr' hok hok'
  generalize hfa : few l = fa at HF
  have HFA := Lib.hid hfa
  clear hfa
  generalize hfb : few l' = fb at HF'
  have HFB := Lib.hid hfb
  clear hfb
  cases fa with
  | false =>
    go_enter Tryd.func11, Tryd.ntmps11
    go_wp2_with fail
    refine (HA.out).mono ?_
    rintro e w1 ⟨rfl, hb2⟩
    replace hb1 := bb hb1 hb2
    clear hb2
    go_wp2_with fail
    refine (HF.out _ hb1).mono ?_
    rintro e w2 ⟨rfl, hb2⟩
    replace hb1 := bb hb1 hb2
    clear hb2
    go_wp2
    go_ret
    exact ⟨rfl, hb1⟩
  | true =>
  cases fb with
  | false =>
    go_enter Tryd.func11, Tryd.ntmps11
    go_wp2_with fail
    refine (HA.out).mono ?_
    rintro e w1 ⟨rfl, hb2⟩
    replace hb1 := bb hb1 hb2
    clear hb2
    go_wp2_with fail
    refine (HF.out _ hb1).mono ?_
    rintro e w2 ⟨rfl, hb2⟩
    replace hb1 := bb hb1 hb2
    clear hb2
    go_wp2_with fail
    refine (HF'.out _ hb1).mono ?_
    rintro e w3 ⟨rfl, hb2⟩
    replace hb1 := bb hb1 hb2
    clear hb2
    go_wp2
    go_ret
    exact ⟨rfl, hb1⟩
  | true =>
    obtain ⟨ht3, h60⟩ := few_ok HFA.out
    obtain ⟨ht3', h60'⟩ := few_ok HFB.out
    have HM : Hid (∀ x : World, Below w.heap.size w x → Calls Tryd.prog 24 #[.slice A l.length cap] x (MakeEnd x l.length)) := fun x hx => make_any w.heap.size A cap l x hx.size (HR.out.belowB hx) (fun x hx => ⟨HOK.out x hx, ht3 x hx⟩) h60 HL.out.1 HL.out.2.2.1
    have HM' : Hid (∀ x : World, Below w.heap.size w x → Calls Tryd.prog 24 #[.slice A' l'.length cap'] x (MakeEnd x l'.length)) := fun x hx => make_any w.heap.size A' cap' l' x hx.size (HR'.out.belowB hx) (fun x hx => ⟨HOK'.out x hx, ht3' x hx⟩) h60' HL.out.2.1 HL.out.2.2.2
    clear ht3 ht3'
    go_enter Tryd.func11, Tryd.ntmps11
    go_wp2_with fail
    refine (HA.out).mono ?_
    rintro e w1 ⟨rfl, hb2⟩
    replace hb1 := bb hb1 hb2
    clear hb2
    go_wp2_with fail
    refine (HF.out _ hb1).mono ?_
    rintro e w2 ⟨rfl, hb2⟩
    replace hb1 := bb hb1 hb2
    clear hb2
    go_wp2_with fail
    refine (HF'.out _ hb1).mono ?_
    rintro e w3 ⟨rfl, hb2⟩
    replace hb1 := bb hb1 hb2
    clear hb2
    go_wp2_with fail
    refine (HM.out _ hb1).mono ?_
    rintro e w4 ⟨f, Af, cf, rfl, hfc, hfk, hfs, hb2⟩
    replace hb1 := bb hb1 hb2
    have hf60 : f.count ≤ 60 := by omega
    have hflen := ftx_le hfk (by omega)
    have HFC : Hid (f.count ≤ 60) := hf60
    have HLN : Hid ((ftx f).length ≤ 20000) := by show _ ≤ _; omega
    have HFK : Hid (f.All FKd) := hfk.imp fun _ _ _ _ h => h.kd
    have HFS : Hid (SlV w4 (fun _ => True) (.slice Af f.len cf) f) := hfs.imp fun _ _ => trivial
    have hx : Below w4.heap.size w4 w4 := b0
    have hfl := Nat.le_trans f.len_count hf60
    clear hb2 hfc hfk hfs hf60 hflen
    go_wp2_with fail
    refine (HM'.out _ hb1).mono ?_
    rintro e w5 ⟨g, Ag, cg, rfl, hgc, hgk, hgs, hb2⟩
    replace hb1 := bb hb1 hb2
    replace hx := bb hx hb2
    have hg60 : g.count ≤ 60 := by omega
    have hglen := ftx_le hgk (by omega)
    have HGC : Hid (g.count ≤ 60) := hg60
    have HLG : Hid ((ftx g).length ≤ 20000) := by show _ ≤ _; omega
    have HGK : Hid (g.All FKd) := hgk.imp fun _ _ _ _ h => h.kd
    have HGS : Hid (SlV w5 (fun _ => True) (.slice Ag g.len cg) g) := hgs.imp fun _ _ => trivial
    have hy : Below w5.heap.size w5 w5 := b0
    have hgl := Nat.le_trans g.len_count hg60
    clear hb2 hgc hgk hgs hg60 hglen
    have HP1 : Hid (∀ x : World, Below w4.heap.size w4 x → Calls Tryd.prog 33 #[.slice Af f.len cf] x fun e w' => e = .returned (.tuple #[.string (txt (fput f).1), .int .i64 ((fput f).2 : Int)]) ∧ Below x.heap.size x w') := fun x hx => wput_of _ f _ x (HFS.out.below hx) HFK.out (Nat.le_trans HFC.out (by decide)) (Nat.le_trans HLN.out (by decide))
    have HP2 : Hid (∀ x : World, Below w5.heap.size w5 x → Calls Tryd.prog 33 #[.slice Ag g.len cg] x fun e w' => e = .returned (.tuple #[.string (txt (fput g).1), .int .i64 ((fput g).2 : Int)]) ∧ Below x.heap.size x w') := fun x hx => wput_of _ g _ x (HGS.out.below hx) HGK.out (Nat.le_trans HGC.out (by decide)) (Nat.le_trans HLG.out (by decide))
    by_cases hE : fcheck f 0 0 ≠ 0
    · have he0 : fput f = ([], fcheck f 0 0) := by unfold fput; rw [if_pos hE]
      rw [he0] at HP1
      clear he0
      generalize fcheck f 0 0 = E at *
      generalize txt (fput g).1 = ZG at *
      generalize (fput g).2 = EG at *
      have hei : ((E : Int) != 0) = true := by rw [bne_iff_ne]; omega
      go_wp2_with fail
      refine (HP1.out _ hx).mono ?_
      rintro e w6 ⟨rfl, hb2⟩
      replace hb1 := bb hb1 hb2
      replace hy := bb hy hb2
      clear hb2
      go_wp2_with fail
      refine (HP2.out _ hy).mono ?_
      rintro e w7 ⟨rfl, hb2⟩
      replace hb1 := bb hb1 hb2
      clear hb2
      go_wp2
      go_ret
      exact ⟨rfl, hb1⟩
    have hE0 : fcheck f 0 0 = 0 := Classical.not_not.1 hE
    clear hE
    rw [fput_yes hE0 (Nat.le_trans HLN.out (by decide))] at HP1
    have hz : (txt (ftx f)).size ≤ 20000 := HLN.out
    by_cases hE : fcheck g 0 0 ≠ 0
    · have he0 : fput g = ([], fcheck g 0 0) := by unfold fput; rw [if_pos hE]
      rw [he0] at HP2
      clear he0 hE0
      generalize fcheck g 0 0 = E at *
      generalize txt (ftx f) = ZG at *
      have hei : ((E : Int) != 0) = true := by rw [bne_iff_ne]; omega
      go_wp2_with fail
      refine (HP1.out _ hx).mono ?_
      rintro e w6 ⟨rfl, hb2⟩
      replace hb1 := bb hb1 hb2
      replace hy := bb hy hb2
      clear hb2
      go_wp2_with fail
      refine (HP2.out _ hy).mono ?_
      rintro e w7 ⟨rfl, hb2⟩
      replace hb1 := bb hb1 hb2
      clear hb2
      go_wp2
      go_ret
      exact ⟨rfl, hb1⟩
    have hG0 : fcheck g 0 0 = 0 := Classical.not_not.1 hE
    clear hE
    rw [fput_yes hG0 (Nat.le_trans HLG.out (by decide))] at HP2
    have hz' : (txt (ftx g)).size ≤ 20000 := HLG.out
    have hPf := (fcheck_iff f 0 0 HFK.out (by omega)).1 hE0
    have hPg := (fcheck_iff g 0 0 HGK.out (by omega)).1 hG0
    clear hE0 hG0
    have hJk : (f.app g).All FKd := HFK.out.app HGK.out
    have hJc : (f.app g).count ≤ 1000000 := by
      rw [Fs.app_count]
      have := HFC.out
      have := HGC.out
      omega
    have hJx : (ftx (f.app g)).length ≤ 65000 := by
      rw [ftx_app, List.length_append]
      have h1 := HLN.out
      have h2 := HLG.out
      omega
    have HJ : Hid ((f.app g).All FKd ∧ (f.app g).count ≤ 1000000 ∧ (ftx (f.app g)).length ≤ 65000) := ⟨hJk, hJc, hJx⟩
    -- what the joined list is written as
    have HOUT : Hid ((fcheckP g (f.last 0) 0 ∧ (txt (fput (f.app g)).1 = txt (ftx f) ++ txt (ftx g) ∧ (fput (f.app g)).2 = 0 ∧ fgets (txt (ftx f) ++ txt (ftx g)).data.toList = (f.app g, 0))) ∨ (0 < g.len ∧ g.tag ≤ f.last 0 ∧ fput (f.app g) = ([], 7))) := by
      by_cases hq : fcheckP g (f.last 0) 0
      · left
        have h1 := (fcheck_iff _ 0 0 hJk (by omega)).2 (fcheckP_app.2 ⟨hPf, hq⟩)
        refine ⟨hq, ?_, ?_, ?_⟩
        · rw [fput_yes h1 (by omega), ftx_app]
          apply ByteArray.ext
          rw [ByteArray.data_append]
          simp [txt]
        · rw [fput_yes h1 (by omega)]
        · rw [ByteArray.data_append, Array.toList_append, txt_list, txt_list, ← ftx_app]
          exact fgets_text hJk h1 (by omega)
      · right
        cases g with
        | nil => exact absurd trivial hq
        | cons t y n s i r =>
          have ht : t ≤ f.last 0 := by
            refine Nat.not_lt.1 fun h => hq ⟨⟨h, hPg.1.2⟩, hPg.2⟩
          have := fcheck_order (n := n) (y := y) (s := s) (i := i) (r := r) ⟨hPg.1.2.1, hPg.1.2.2.1⟩ HFK.out (by omega) hPf ht
          refine ⟨by simp [Fs.len], ht, ?_⟩
          unfold fput
          rw [this]
          simp
    have HG2 : Hid (fgets (txt (ftx f) ++ txt (ftx g)).data.toList = (f.app g, 0) → ∀ x : World, Calls Tryd.prog 41 #[.string (txt (ftx f) ++ txt (ftx g))] x fun e w' => ∃ (A : Option Addr) (c : Nat), e = .returned (.tuple #[.slice A (f.len + g.len) c, .int .i64 0]) ∧ Below x.heap.size x w') := fun h x => by
      refine (wget_of h (by rw [ByteArray.size_append]; omega) x).mono ?_
      rintro e w' ⟨A9, c9, rfl, _, h2⟩
      exact ⟨A9, c9, by rw [Fs.app_len]; rfl, h2⟩
    have HTG : Hid (0 < g.len → ¬ g.tag ≤ 0) := fun h1 h2 => by
      cases g with
      | nil => simp [Fs.len] at h1
      | cons t y n s i r => have := hPg.1.2.1; simp only [Fs.tag] at h2; omega
    clear hPf hPg hJk hJc hJx
    generalize txt (ftx f) = Z at *
    generalize txt (ftx g) = Y at *
    obtain ⟨J, hJ⟩ : ∃ J, f.len + g.len = J := ⟨_, rfl⟩
    have HJL := Lib.hid hJ
    have hJi : (f.len : Int) + (g.len : Int) = (J : Int) := by omega
    have hJb : J ≤ 120 := by omega
    rw [hJ] at HG2
    clear hJ
    have hzs : (Z ++ Y).size ≤ 40000 := by rw [ByteArray.size_append]; omega
    go_wp2_with fail
    refine (HP1.out _ hx).mono ?_
    rintro e w6 ⟨rfl, hb2⟩
    replace hb1 := bb hb1 hb2
    replace hx := bb hx hb2
    replace hy := bb hy hb2
    clear hb2
    go_wp2_with fail
    refine (HP2.out _ hy).mono ?_
    rintro e w7 ⟨rfl, hb2⟩
    replace hb1 := bb hb1 hb2
    replace hx := bb hx hb2
    replace hy := bb hy hb2
    clear hb2
    go_wp2_with fail
    refine (clone_of _ f _ w7 (HFS.out.below hx) (Nat.le_trans HFC.out (by decide))).mono ?_
    rintro e w8 ⟨Ac, cc, g0, xs, rfl, hcc, hown, hcls, hg0, howng, hb2⟩
    obtain ⟨i0, hi0, hz0, hz1, hz2⟩ := info_parts info_field
    have hgs8 : SlV w8 (fun q => q < w7.heap.size) (.slice Ag g.len cg) g := ((HGS.out.lt.below hy).below hb2).imp fun q hq => Nat.lt_of_lt_of_le hq.2 hy.size
    obtain ⟨A2, c2, w9, xs2, hrun, hown2, hcls2, hgr, _⟩ := fapp_run (P := Tryd.prog) 35 35 41 i0 Tryd.underlying35 hi0 hz0 hz1 hz2 hown hcls (fun q hq hh => by have h1 := (howng q hh).1; omega) hgs8 (fun q hq hh => by have h1 := (howng q hh).1; omega) (by omega) hb2.size
    have HRUN := Lib.hid hrun
    have hb9 : Below w7.heap.size w7 w9 := hb2.trans (Tch.grown (S := fun q => (Value.slice Ac f.len cc).ownBlock = some q) hgr (fun q hq _ => hq) |>.toBelowB hb2.size fun q hq hh => by have h1 := (howng q hh).1; omega)
    have HPJ : Hid (Calls Tryd.prog 33 #[.slice A2 (f.app g).len c2] w9 fun e w' => e = .returned (.tuple #[.string (txt (fput (f.app g)).1), .int .i64 ((fput (f.app g)).2 : Int)]) ∧ Below w9.heap.size w9 w') := by
      obtain ⟨A9, c9, hv9, hs9⟩ := own_slv2 hown2 hcls2
      have := wput_of _ _ _ w9 hs9 HJ.out.1 HJ.out.2.1 (Nat.le_trans HJ.out.2.2 (by decide))
      rw [← hv9] at this
      exact this
    replace hb1 := bb hb1 hb9
    replace hx := bb hx hb9
    replace hy := bb hy hb9
    clear hrun hgr hown2 hcls2 hown hcls hcc hg0 howng hb2 hgs8 hb9 hi0 hz0 hz1 hz2
    go_wp2_with (at_builtin; (refine wpList_append_run rfl _ _ _ _ rfl _ _ _ rfl rfl HRUN.out ?_))
    clear HRUN
    refine HPJ.out.mono ?_
    rintro e wa ⟨rfl, hb2⟩
    replace hb1 := bb hb1 hb2
    replace hx := bb hx hb2
    replace hy := bb hy hb2
    clear hb2 HPJ HP1 HP2 HF HF' HM HM' HA HR HR' HFA HFB HOK HOK'
    by_cases hf0 : f.len = 0
    · have hd1 : decide ((0 : Int) < (f.len : Int)) = false := decide_eq_false (by omega)
      have hd1n : decide (0 < f.len) = false := decide_eq_false (by omega)
      have hlast : f.last 0 = 0 := by rw [Fs.len_zero hf0]; rfl
      rcases HOUT.out with ⟨_, h1, h2, hG3⟩ | ⟨h1, h2, _⟩
      · rw [h1, h2]
        clear h1 h2 hf0 hlast
        go_wp2_with fail
        go_quiet (fail)
        go_wp2_with fail
        refine (HG2.out hG3 _).mono ?_
        rintro e wc ⟨A10, c10, rfl, hb2⟩
        replace hb1 := bb (bn hb1 _) hb2
        clear hb2
        go_wp2
        go_ret
        exact ⟨rfl, hb1⟩
      · exfalso
        have hg1 : 0 < g.len := h1
        rw [hlast] at h2
        exact HTG.out hg1 h2
    by_cases hg0 : g.len = 0
    · have hd1 : decide ((0 : Int) < (f.len : Int)) = true := decide_eq_true (by omega)
      have hd1n : decide (0 < f.len) = true := decide_eq_true (by omega)
      have hd3 : (0 : Int) < (f.len : Int) := by omega
      have hd2 : decide ((0 : Int) < (g.len : Int)) = false := decide_eq_false (by omega)
      have hd2n : decide (0 < g.len) = false := decide_eq_false (by omega)
      rcases HOUT.out with ⟨_, h1, h2, hG3⟩ | ⟨h1, h2, _⟩
      · rw [h1, h2]
        clear h1 h2 hf0 hg0
        go_wp2_with fail
        go_quiet (fail)
        go_wp2_with fail
        refine (HG2.out hG3 _).mono ?_
        rintro e wc ⟨A10, c10, rfl, hb2⟩
        replace hb1 := bb (bn hb1 _) hb2
        clear hb2
        go_wp2
        go_ret
        exact ⟨rfl, hb1⟩
      · exact absurd h1 (by omega)
    obtain ⟨k, hk⟩ : ∃ k, f.len = k + 1 := ⟨f.len - 1, by omega⟩
    obtain ⟨y1, n1, s1, i1, hdk⟩ := last_drop f k 0 hk
    obtain ⟨A0, c0, hv, hcf, hor⟩ := HFS.out
    injection hv with e1 e2 e3
    subst e1 e3
    rcases hor with h | ⟨b, o, rfl, _, hbl, hat⟩
    · omega
    obtain ⟨A0', c0', hv', hcg, hor'⟩ := HGS.out
    injection hv' with e1' e2' e3'
    subst e1' e3'
    rcases hor' with h | ⟨b', o', rfl, _, hbl', hat'⟩
    · omega
    have hak := hat.drop k
    rw [hdk] at hak
    have q0 : wa.cell? ⟨b, o + k * 5, none⟩ = some (.int .u64 (f.last 0 : Int)) := (World.cell?_of_block (hx.block b hbl)).trans hak.1
    have q1 : wa.cell? ⟨b', o', none⟩ = some (.int .u64 (g.tag : Int)) := by
      cases g with
      | nil => exact absurd rfl hg0
      | cons t y n s i r => exact (World.cell?_of_block (hy.block b' hbl')).trans hat'.1
    have hd3 : (0 : Int) < (f.len : Int) := by omega
    have hd4 : (0 : Int) < (g.len : Int) := by omega
    have hd5 : 0 < f.len := by omega
    have hd6 : 0 < g.len := by omega
    have hd1 : decide ((0 : Int) < (f.len : Int)) = true := decide_eq_true hd3
    have hd1n : decide (0 < f.len) = true := decide_eq_true (by omega)
    have hd2 : decide ((0 : Int) < (g.len : Int)) = true := decide_eq_true hd4
    have hd2n : decide (0 < g.len) = true := decide_eq_true (by omega)
    have hkl : k < f.len := by omega
    have hsub : (f.len : Int) - 1 = (k : Int) := by omega
    have hcfi : (f.len : Int) ≤ (cf : Int) := by omega
    rcases HOUT.out with ⟨hq, h1, h2, hG3⟩ | ⟨_, ht, h7⟩
    · rw [h1, h2]
      have hlt : (f.last 0 : Int) < (g.tag : Int) := by
        cases g with
        | nil => exact absurd rfl hg0
        | cons t y n s i r => have := hq.1.1; simp only [Fs.tag]; omega
      generalize f.last 0 = T at *
      generalize g.tag = T' at *
      clear h1 h2 hf0 hg0 hk hq hak hat hat' hdk
      go_wp2_with fail
      go_quiet (fail)
      go_wp2_with fail
      refine (HG2.out hG3 _).mono ?_
      rintro e wc ⟨A10, c10, rfl, hb2⟩
      replace hb1 := bb (bn hb1 _) hb2
      clear hb2
      go_wp2
      go_ret
      exact ⟨rfl, hb1⟩
    · rw [h7]
      rw [show txt [] = (⟨#[]⟩ : ByteArray) from rfl]
      have hge : (g.tag : Int) ≤ (f.last 0 : Int) := by omega
      generalize f.last 0 = T at *
      generalize g.tag = T' at *
      clear h7 hf0 hg0 hk hak hat hat' hdk ht
      go_wp2_with fail
      go_quiet (fail)
      go_wp2
      go_ret
      exact ⟨rfl, bn hb1 _⟩
end Go.Proofs.YtmlijflappjfoaaDoor
end
