/-
  Texts of the proof, joined: Wire2 Wire3 Cursor Varint2 Ref02 Work. Conditions: as each names.
-/
import Derived.Test.YtmlijflappjfoaaDoorBad
import Derived.OwnWalk
import Derived.Test.YtmlijflappjfoaaDoorProg
import Derived.Test.YtmlijflappjfoaaDoorBaa
import Derived.WalkSpells
import Derived.WalkLawsBesides
import Derived.Deep.QuietTactic
import Derived.BigQuiet
import Derived.Lib.Hide
import Derived.Test.YtmlijflappjfoaaDoorBab

section
/-
  Contracts of layer 9: fields put behind a buffer's bytes. Conditions: fields that may be; at most 1,000,000 bytes.
-/
namespace Go.Proofs.YtmlijflappjfoaaDoor
open Go.RowKit Go.PM
set_option maxRecDepth 100000
set_option maxHeartbeats 1500000
attribute [local go_sem ↓] Go.wp_at_zero Go.wp_at_succ

/-- A buffer that began as v0: its bytes now; what may have turned since. -/
def BS (w : World) (v0 : Value) (v : Value) (l : List UInt8) (x : World) : Prop :=
  Buf x 5 v l ∧ Tch (fun k => foot v0 = some k) w x ∧ ∀ g, foot v = some g → foot v0 = some g ∨ w.heap.size ≤ g
theorem BS.start {w : World} {v : Value} {l : List UInt8} (h : Buf w 5 v l) : BS w v v l w := ⟨h, Tch.refl _ _, fun _ h => .inl h⟩
theorem BS.bel {w x y : World} {v0 v : Value} {l : List UInt8} (h : BS w v0 v l x) (hb : Below x.heap.size x y) : BS w v0 v l y := ⟨h.1.below hb, h.2.1.bel hb, h.2.2⟩
theorem BS.tch {w x y : World} {v0 v : Value} {l : List UInt8} (h : BS w v0 v l x) (v' : Value) (l' : List UInt8) (hb : Buf y 5 v' l') (ht : Tch (fun k => foot v = some k) x y) (hf : ∀ g, foot v' = some g → foot v = some g ∨ x.heap.size ≤ g) : BS w v0 v' l' y := by
  refine ⟨hb, h.2.1.trans ht fun g hg e => ?_, fun g hg => ?_⟩
  · rcases h.2.2 g e with h1 | h1
    · exact h1
    · omega
  · rcases hf g hg with h1 | h1
    · exact h.2.2 g h1
    · exact .inr (Nat.le_trans h.2.1.size h1)
theorem BS.app {w x : World} {v0 v : Value} {l : List UInt8} (h : BS w v0 v l x) (s : ByteArray) (hn : l.length + s.size ≤ 1000000) :
    ∃ v' y, (Builtin.append_ #[79, 9] 79 #[v, .string s]).run Tryd.prog x = .ok v' y ∧ BS w v0 v' (l ++ s.data.toList) y := by
  obtain ⟨i0, hi0, hz0, hz1, hz2⟩ := info_parts info_u8
  obtain ⟨v', y, hr, hb, ht, hf⟩ := buf_append (P := Tryd.prog) h.1 s 79 9 79 i0 Tryd.underlying79 Tryd.underlying9 hi0 hz0 hz1 hz2 hn
  refine ⟨v', y, hr, h.tch v' _ hb ht fun g hg => ?_⟩
  rcases hf with h1 | h1
  · exact .inl (h1 ▸ hg)
  · exact .inr (h1 g hg)
def WriteEnd (w : World) (v0 : Value) (l : List UInt8) (e : Ending) (w' : World) : Prop := ∃ v', e = .returned v' ∧ BS w v0 v' l w'
theorem write_any (N : Nat) : ∀ (v0 : Value) (L : List UInt8) (A : Option Addr) (c : Nat) (f : Fs) (I : Nat → Prop) (a d : Nat) (w : World), f.count ≤ N → Buf w 5 v0 L → SlV w I (.slice A f.len c) f → (∀ k, I k → foot v0 ≠ some k) → fcheckP f a d → f.count ≤ 1000000 → L.length + (ftx f).length ≤ 1000000 →
    Calls Tryd.prog 58 #[v0, .slice A f.len c] w (WriteEnd w v0 (L ++ ftx f)) := by
  induction N with
  | zero =>
    intro v0 L A c f I a d w hN hb hr hI hP h60 hL
    have : f = .nil := Fs.len_zero (by have := f.len_count; omega)
    subst this
    have HE : Hid (WriteEnd w v0 (L ++ ftx .nil) (.returned v0) w) := ⟨v0, rfl, by rw [show ftx .nil = [] from rfl, List.append_nil]; exact BS.start hb⟩
    go_enter Tryd.func58, Tryd.ntmps58
    go_wp2_with fail
    go_loopw [0, 9] (fun vv kk wr => vv = v0 ∧ kk = .int .i64 0 ∧ wr = w) (fun _ _ _ => 0)
    case atStart => exact ⟨rfl, rfl, rfl⟩
    case round =>
      obtain ⟨rfl, rfl, rfl⟩ := hrel
      go_wp2_with fail
      go_ret
      exact HE.out
  | succ N ih =>
    intro v0 L A c f I a d w hN hb hr hI hP h60 hL
    have IH := Lib.hid ih
    have HR := Lib.hid hr.lt
    have HI := Lib.hid hI
    have HP := Lib.hid hP
    have H60 : Hid (f.count ≤ 1000000 ∧ f.count ≤ N + 1) := ⟨h60, hN⟩
    have hfl := Nat.le_trans f.len_count h60
    have HL := Lib.hid hL
    have H0 : Hid (BS w v0 v0 (L ++ ftx (f.take 0)) w) := by
      have : ftx (f.take 0) = [] := by cases f <;> rfl
      rw [this, List.append_nil]
      exact BS.start hb
    clear ih hr hI hP h60 hN hb hL
    go_enter Tryd.func58, Tryd.ntmps58
    go_wp2_with fail
    go_loopw [0, 9] (fun vv kk wr => ∃ k : Nat, k ≤ f.len ∧ kk = .int .i64 (k : Int) ∧ Hid (BS w v0 vv (L ++ ftx (f.take k)) wr)) (fun _ kk _ => f.len - (intOf kk).toNat)
    case atStart => exact ⟨0, by omega, rfl, H0⟩
    case round =>
      obtain ⟨k, hk, rfl, HBS⟩ := hrel
      by_cases hlt : k < f.len
      · obtain ⟨t, y, n, s, i, hdc, htk⟩ := f.drop_cons k hlt
        obtain ⟨A0, c0, hv, hc0, hor⟩ := HR.out
        injection hv with hv1 hv2 hv3
        subst hv1 hv3
        rcases hor with h0 | ⟨b, o, rfl, hIb, hbl, hat⟩
        · omega
        have hak := hat.drop k
        rw [hdc] at hak
        obtain ⟨c0, c1, c2, c3, ⟨Ai, ci, c4, hci, hin⟩, _⟩ := hak
        obtain ⟨a', hPk⟩ := fcheckP_drop k HP.out
        rw [hdc] at hPk
        obtain ⟨⟨_, ht0, ht32, hn64, hcase⟩, _⟩ := hPk
        have hcc := f.drop_count k
        rw [hdc] at hcc
        simp only [Fs.count] at hcc
        have hstep := ftx_take htk
        have hle := ftx_take_le f (k + 1)
        rw [hstep, List.length_append, ftx_one] at hle
        have hlen := HL.out
        have hy02 : 0 ≤ y ∧ y ≤ 2 := by rcases hcase with ⟨h, _⟩ | ⟨h, _⟩ | ⟨h, _⟩ <;> omega
        have hX64 : In64 (4 * t + y.toNat) := by show 4 * t + y.toNat < 18446744073709551616; omega
        have hblk : ∀ x : World, Tch (fun k => foot v0 = some k) w x → x.heap[b]? = w.heap[b]? := fun x hx => hx.block b hbl (HI.out b hIb.1)
        have HHD : Hid (∀ x : World, Tch (fun k => foot v0 = some k) w x → Calls Tryd.prog 71 #[.pointer (some ⟨b, o + k * 5, none⟩)] x fun e w' => e = .returned (.int .u64 ((4 * t + y.toNat : Nat) : Int)) ∧ Below x.heap.size x w') := fun x hx => by
          have e := fun j => World.cell?_of_block (a := ⟨b, j, none⟩) (hblk x hx)
          exact head_any b (o + k * 5) t y x ((e _).trans c0) ((e _).trans c1) ht32 hy02
        have HCells : Hid (∀ x : World, Tch (fun k => foot v0 = some k) w x → x.cell? ⟨b, o + k * 5 + 1, none⟩ = some (.int .i64 y) ∧ x.cell? ⟨b, o + k * 5 + 2, none⟩ = some (.int .u64 (n : Int)) ∧ x.cell? ⟨b, o + k * 5 + 3, none⟩ = some (.string s) ∧ x.cell? ⟨b, o + k * 5 + 4, none⟩ = some (.slice Ai i.len ci)) := fun x hx => by
          have e := fun j => World.cell?_of_block (a := ⟨b, j, none⟩) (hblk x hx)
          exact ⟨(e _).trans c1, (e _).trans c2, (e _).trans c3, (e _).trans c4⟩
        have HSI : Hid (∀ x : World, Tch (fun k => foot v0 = some k) w x → SlV x (fun k => I k ∧ k < w.heap.size) (.slice Ai i.len ci) i) := fun x hx => by
          have h1 : SlV w (fun k => I k ∧ k < w.heap.size) (.slice Ai i.len ci) i := ⟨Ai, ci, rfl, hci, hin⟩
          exact h1.tch hx fun k hk => HI.out k hk.1
        have HX := Lib.hid hX64
        have hkf : (k : Int) < (f.len : Int) := by omega
        have hic : i.count ≤ N ∧ i.count ≤ 1000000 := by have := H60.out; omega
        have htl : ftx (.cons t y n s i .nil) = vput (4 * t + y.toNat) ++ (if y = 0 then vput n else if y = 1 then vput s.size ++ s.data.toList else vput (ftx i).length ++ ftx i) := by simp only [ftx, List.append_nil]
        rw [htl] at hstep
        clear htl hX64 hdc htk hat hin hv2 hblk c0 c1 c2 c3 c4
        generalize hXX : 4 * t + y.toNat = X at *
        generalize hP0 : ftx (f.take k) = P0 at *
        have hlp : L.length + (P0.length + vsz X) ≤ 1000000 ∧ (L ++ P0).length = L.length + P0.length := ⟨by omega, List.length_append⟩
        obtain ⟨hlp, hlq⟩ := hlp
        have HXX := Lib.hid hXX
        clear hXX hP0
        rcases hcase with ⟨rfl, rfl, rfl⟩ | ⟨rfl, rfl, rfl, hs63⟩ | ⟨rfl, rfl, rfl, hd8, hPi⟩
        · rw [if_pos rfl] at hstep
          rw [if_pos rfl, vput_length] at hle
          have HN := Lib.hid hn64
          have HST := Lib.hid hstep
          clear hstep hn64
          go_wp2_with fail
          refine (HHD.out _ HBS.out.2.1).mono ?_
          rintro e1 W1 ⟨rfl, hbh⟩
          have HB1 := Lib.hid (HBS.out.bel hbh)
          clear hbh
          go_wp2_with fail
          refine (put_any X _ HX.out).mono ?_
          rintro e2 W2 ⟨rfl, hbh⟩
          obtain ⟨v1, W3, hrun, hbs⟩ := (HB1.out.bel hbh).app (txt (vput X)) (by rw [txt_size, vput_length]; omega)
          have HR1 := Lib.hid hrun
          have HB3 := Lib.hid hbs
          obtain ⟨q1, q2, q3, q4⟩ := HCells.out _ hbs.2.1
          clear hbh hrun hbs
          go_wp2_with (at_builtin; (refine wpList_append_run rfl _ _ _ _ rfl _ _ _ rfl rfl HR1.out ?_))
          go_wp2_with fail
          refine (put_any n _ HN.out).mono ?_
          rintro e3 W4 ⟨rfl, hbh⟩
          obtain ⟨v2, W5, hrun, hbs⟩ := (HB3.out.bel hbh).app (txt (vput n)) (by rw [txt_size, vput_length, txt_list, List.length_append, vput_length]; omega)
          have HR2 := Lib.hid hrun
          have HB5 := Lib.hid hbs
          clear hbh hrun hbs
          go_wp2_with (at_builtin; (refine wpList_append_run rfl _ _ _ _ rfl _ _ _ rfl rfl HR2.out ?_))
          go_roundw
          case rel => exact ⟨k + 1, by omega, by go_num, by have := HB5.out; rw [HST.out]; show BS _ _ _ _ _; simpa only [txt_list, List.append_assoc] using this⟩
          case measure => simp [intOf]; omega
        · rw [if_neg (by decide), if_pos rfl] at hstep
          rw [if_neg (by decide), if_pos rfl, List.length_append, vput_length, len_list] at hle
          have hs64 : In64 s.size := by show s.size < _; omega
          have HSZ := Lib.hid hs64
          have HST := Lib.hid hstep
          have hss : s.size ≤ 1000000 := by omega
          clear hstep hn64 hs64
          go_wp2_with fail
          refine (HHD.out _ HBS.out.2.1).mono ?_
          rintro e1 W1 ⟨rfl, hbh⟩
          have HB1 := Lib.hid (HBS.out.bel hbh)
          clear hbh
          go_wp2_with fail
          refine (put_any X _ HX.out).mono ?_
          rintro e2 W2 ⟨rfl, hbh⟩
          obtain ⟨v1, W3, hrun, hbs⟩ := (HB1.out.bel hbh).app (txt (vput X)) (by rw [txt_size, vput_length]; omega)
          have HR1 := Lib.hid hrun
          have HB3 := Lib.hid hbs
          obtain ⟨q1, q2, q3, q4⟩ := HCells.out _ hbs.2.1
          clear hbh hrun hbs
          go_wp2_with (at_builtin; (refine wpList_append_run rfl _ _ _ _ rfl _ _ _ rfl rfl HR1.out ?_))
          go_wp2_with fail
          refine (put_any s.size _ HSZ.out).mono ?_
          rintro e3 W4 ⟨rfl, hbh⟩
          obtain ⟨v2, W5, hrun, hbs⟩ := (HB3.out.bel hbh).app (txt (vput s.size)) (by rw [txt_size, vput_length, txt_list, List.length_append, vput_length]; omega)
          obtain ⟨v3, W6, hrun2, hbs2⟩ := hbs.app s (by rw [txt_list, txt_list, List.length_append, List.length_append, vput_length, vput_length]; omega)
          have HR2 := Lib.hid hrun
          have HR3 := Lib.hid hrun2
          have HB5 := Lib.hid hbs2
          obtain ⟨p1, p2, p3, p4⟩ := HCells.out _ hbs.2.1
          clear hbh hrun hbs hrun2 hbs2
          go_wp2_with (first | (at_builtin; refine wpList_append_run rfl _ _ _ _ rfl _ _ _ rfl rfl HR2.out ?_) | (at_builtin; refine wpList_append_run rfl _ _ _ _ rfl _ _ _ rfl rfl HR3.out ?_))
          go_roundw
          case rel => exact ⟨k + 1, by omega, by go_num, by have := HB5.out; rw [HST.out]; show BS _ _ _ _ _; simpa only [txt_list, List.append_assoc] using this⟩
          case measure => simp [intOf]; omega
        · rw [if_neg (by decide), if_neg (by decide)] at hstep
          rw [if_neg (by decide), if_neg (by decide), List.length_append, vput_length] at hle
          have HSC : Hid (∀ x : World, Tch (fun k => foot v0 = some k) w x → Calls Tryd.prog 57 #[.slice Ai i.len ci] x fun e w' => e = .returned (.int .i64 ((ftx i).length : Int)) ∧ Below x.heap.size x w') := fun x hx =>
            wsize_any i.count Ai ci i _ 0 (d + 1) x (Nat.le_refl _) (HSI.out x hx) hPi hic.2 (by omega)
          have HPI := Lib.hid hPi
          have HIL : Hid ((ftx i).length + vsz (ftx i).length + (L.length + (P0.length + vsz X)) ≤ 1000000) := by show _ ≤ _; omega
          have hL64 : In64 (ftx i).length := by show (ftx i).length < _; omega
          have HSZ := Lib.hid hL64
          have HST := Lib.hid hstep
          have hss : (ftx i).length ≤ 1000000 := by omega
          have HIC := Lib.hid hic
          clear hstep hn64 hL64 hle hPi hic hlen
          generalize hLI : (ftx i).length = LI at HSC HSZ HIL hss
          have HLI := Lib.hid hLI
          clear hLI
          go_wp2_with fail
          refine (HHD.out _ HBS.out.2.1).mono ?_
          rintro e1 W1 ⟨rfl, hbh⟩
          have HB1 := Lib.hid (HBS.out.bel hbh)
          clear hbh
          go_wp2_with fail
          refine (put_any X _ HX.out).mono ?_
          rintro e2 W2 ⟨rfl, hbh⟩
          obtain ⟨v1, W3, hrun, hbs⟩ := (HB1.out.bel hbh).app (txt (vput X)) (by rw [txt_size, vput_length]; omega)
          have HR1 := Lib.hid hrun
          have HB3 := Lib.hid hbs
          obtain ⟨q1, q2, q3, q4⟩ := HCells.out _ hbs.2.1
          clear hbh hrun hbs
          go_wp2_with (at_builtin; (refine wpList_append_run rfl _ _ _ _ rfl _ _ _ rfl rfl HR1.out ?_))
          go_wp2_with fail
          refine (HSC.out _ HB3.out.2.1).mono ?_
          rintro e3 W4 ⟨rfl, hbh⟩
          have HB4 := Lib.hid (HB3.out.bel hbh)
          clear hbh
          go_wp2_with fail
          refine (put_any LI _ HSZ.out).mono ?_
          rintro e4 W5 ⟨rfl, hbh⟩
          obtain ⟨v2, W6, hrun, hbs⟩ := (HB4.out.bel hbh).app (txt (vput LI)) (by have := HIL.out; rw [txt_size, vput_length, txt_list, List.length_append, vput_length]; omega)
          have HR2 := Lib.hid hrun
          have HB6 := Lib.hid hbs
          obtain ⟨p1, p2, p3, p4⟩ := HCells.out _ hbs.2.1
          clear hbh hrun hbs
          go_wp2_with (at_builtin; (refine wpList_append_run rfl _ _ _ _ rfl _ _ _ rfl rfl HR2.out ?_))
          refine (IH.out v2 _ Ai ci i (fun k => I k ∧ k < w.heap.size) 0 (d + 1) W6 HIC.out.1 HB6.out.1 (HSI.out _ HB6.out.2.1) (fun g hg e => by rcases HB6.out.2.2 g e with h | h; exact HI.out g hg.1 h; omega) HPI.out HIC.out.2 (by have := HIL.out; rw [HLI.out, txt_list, txt_list, List.length_append, List.length_append, vput_length, vput_length]; omega)).mono ?_
          rintro e5 W7 ⟨v3, rfl, hbs⟩
          have HB7 := Lib.hid (HB6.out.tch v3 _ hbs.1 hbs.2.1 hbs.2.2)
          clear hbs
          go_wp2_with fail
          go_roundw
          case rel => exact ⟨k + 1, by omega, by go_num, by have := HB7.out; rw [HST.out, HLI.out]; show BS _ _ _ _ _; simpa only [txt_list, List.append_assoc] using this⟩
          case measure => simp [intOf]; omega
      · obtain rfl : k = f.len := by omega
        have HE : Hid (WriteEnd w v0 (L ++ ftx f) (.returned u0) wr) := ⟨u0, rfl, by have := HBS.out; rwa [f.take_all _ (Nat.le_refl _)] at this⟩
        clear HBS
        go_wp2_with fail
        go_ret
        exact HE.out
end Go.Proofs.YtmlijflappjfoaaDoor
end

section
/-
  Contracts of layer 9: fields as they are written, or why they aren't; how many bytes that are.
-/
namespace Go.Proofs.YtmlijflappjfoaaDoor
open Go.RowKit Go.PM
set_option maxRecDepth 100000
set_option maxHeartbeats 1500000
attribute [local go_sem ↓] Go.wp_at_zero Go.wp_at_succ

/-- What is written, and the code. -/
def fput (f : Fs) : List UInt8 × Nat := if fcheck f 0 0 ≠ 0 then ([], fcheck f 0 0) else if 65536 < (ftx f).length then ([], 4) else (ftx f, 0)
def fszB (f : Fs) : Nat := if fcheck f 0 0 ≠ 0 then 0 else (ftx f).length
theorem wsz_of (v : Value) (f : Fs) (I : Nat → Prop) (w : World) (hr : SlV w I v f) (hk : f.All FKd) (h60 : f.count ≤ 1000000) (hL : (ftx f).length ≤ 1000000000000) :
    Calls Tryd.prog 35 #[v] w fun e w' => e = .returned (.int .i64 (fszB f : Int)) ∧ Below w.heap.size w w' := by
  have hb1 : Below w.heap.size w w := b0
  have HC := Lib.hid (check_of v f I w hr hk h60)
  have hiff := fcheck_iff f 0 0 hk (by omega)
  obtain ⟨A, c, rfl, _⟩ := id hr
  have HS : Hid (fcheck f 0 0 = 0 → ∀ x : World, Below w.heap.size w x → Calls Tryd.prog 57 #[.slice A f.len c] x fun e w' => e = .returned (.int .i64 ((ftx f).length : Int)) ∧ Below x.heap.size x w') := fun h x hx => wsize_any f.count A c f I 0 0 x (Nat.le_refl _) (hr.below hx) (hiff.1 h) h60 hL
  unfold fszB
  clear hiff hr hk
  generalize fcheck f 0 0 = E at *
  by_cases hE : E = 0
  · subst hE
    rw [if_neg (by simp)]
    have HS2 := Lib.hid (HS.out rfl)
    generalize (ftx f).length = LI at *
    go_enter Tryd.func35, Tryd.ntmps35
    go_wp2_with fail
    refine (HC.out).mono ?_
    rintro e w1 ⟨rfl, hb2⟩
    replace hb1 := bb hb1 hb2
    clear hb2
    go_wp2_with fail
    refine (HS2.out _ hb1).mono ?_
    rintro e w2 ⟨rfl, hb2⟩
    replace hb1 := bb hb1 hb2
    clear hb2
    go_wp2
    go_ret
    exact ⟨rfl, hb1⟩
  · rw [if_pos hE]
    have hei : ((E : Int) != 0) = true := by rw [bne_iff_ne]; omega
    go_enter Tryd.func35, Tryd.ntmps35
    go_wp2_with fail
    refine (HC.out).mono ?_
    rintro e w1 ⟨rfl, hb2⟩
    replace hb1 := bb hb1 hb2
    clear hb2
    go_wp2
    go_ret
    exact ⟨rfl, hb1⟩
theorem wput_of (v : Value) (f : Fs) (I : Nat → Prop) (w : World) (hr : SlV w I v f) (hk : f.All FKd) (h60 : f.count ≤ 1000000) (hL : (ftx f).length ≤ 1000000000000) :
    Calls Tryd.prog 33 #[v] w fun e w' => e = .returned (.tuple #[.string (txt (fput f).1), .int .i64 ((fput f).2 : Int)]) ∧ Below w.heap.size w w' := by
  have hb1 : Below w.heap.size w w := b0
  have HC := Lib.hid (check_of v f I w hr hk h60)
  have hiff := fcheck_iff f 0 0 hk (by omega)
  obtain ⟨A, c, rfl, _⟩ := id hr
  have HS : Hid (fcheck f 0 0 = 0 → ∀ x : World, Below w.heap.size w x → Calls Tryd.prog 57 #[.slice A f.len c] x fun e w' => e = .returned (.int .i64 ((ftx f).length : Int)) ∧ Below x.heap.size x w') := fun h x hx => wsize_any f.count A c f I 0 0 x (Nat.le_refl _) (hr.below hx) (hiff.1 h) h60 hL
  have HW : Hid (fcheck f 0 0 = 0 → (ftx f).length ≤ 65536 → ∀ (x : World) (v0 : Value), Below w.heap.size w x → Buf x 5 v0 [] → (∀ g, foot v0 = some g → w.heap.size ≤ g) → Calls Tryd.prog 58 #[v0, .slice A f.len c] x (WriteEnd x v0 (ftx f))) := fun h hl x v0 hx hb hf => by
    have := write_any f.count v0 [] A c f (fun k => I k ∧ k < w.heap.size) 0 0 x (Nat.le_refl _) hb (hr.lt.below hx) (fun g hg e => by have := hf g e; omega) (hiff.1 h) h60 (by simp; omega)
    rwa [List.nil_append] at this
  unfold fput
  clear hiff hr hk
  generalize fcheck f 0 0 = E at *
  by_cases hE : E = 0
  · subst hE
    rw [if_neg (by simp)]
    have HS2 := Lib.hid (HS.out rfl)
    have HW2 := Lib.hid (HW.out rfl)
    generalize hF : ftx f = F at *
    clear hF
    by_cases hbig : 65536 < F.length
    · rw [if_pos hbig]
      generalize F.length = LI at *
      go_enter Tryd.func33, Tryd.ntmps33
      go_wp2_with fail
      refine (HC.out).mono ?_
      rintro e w1 ⟨rfl, hb2⟩
      replace hb1 := bb hb1 hb2
      clear hb2
      go_wp2_with fail
      refine (HS2.out _ hb1).mono ?_
      rintro e w2 ⟨rfl, hb2⟩
      replace hb1 := bb hb1 hb2
      clear hb2
      go_wp2
      go_ret2
      exact ⟨rfl, hb1⟩
    · rw [if_neg hbig]
      have HW3 := Lib.hid (HW2.out (by omega))
      generalize hLI : F.length = LI at *
      clear hLI
      obtain ⟨i0, hi0, hz0, hz1, hz2⟩ := info_parts info_u8
      have hdd : decide ((65536 : Int) < (LI : Int)) = false := by simp; omega
      have hby : i0.bytes * LI ≤ 281474976710656 := by rw [hz2]; omega
      have hm : LI ≤ maxLen := by unfold maxLen; omega
      have HBY := Lib.hid hby
      have HMM := Lib.hid hm
      have hl : LI ≤ 65536 := by omega
      clear hby hm hbig
      go_enter Tryd.func33, Tryd.ntmps33
      go_wp2_with fail
      refine (HC.out).mono ?_
      rintro e w1 ⟨rfl, hb2⟩
      replace hb1 := bb hb1 hb2
      clear hb2
      go_wp2_with fail
      refine (HS2.out _ hb1).mono ?_
      rintro e w2 ⟨rfl, hb2⟩
      replace hb1 := bb hb1 hb2
      clear hb2
      go_wp2_with (refine wpList_make_own _ rfl _ _ _ rfl w2.heap.size 5 i0 (.int .u8 0) 1 Tryd.underlying79 hi0 hz0 hz1 .i64 .i64 _ LI rfl rfl rfl HBY.out HMM.out (Nat.le_refl _) ?_; intro w3 hown hgr; have hbuf := Buf.ofOwn (l := []) (n := 0) hown; have HBF := Lib.hid hbuf; have hb3 := below_of_grown hgr; have HB3 := Lib.hid (bb hb1 hb3); clear hown hgr hbuf hb3)
      refine (HW3.out _ _ HB3.out HBF.out.1 (fun g hg => Nat.le_trans hb1.size (HBF.out.2 g hg))).mono ?_
      rintro e w4 ⟨v4, rfl, hbs⟩
      have hb4 : Below w.heap.size w w4 := HB3.out.trans (hbs.2.1.toBelowB HB3.out.size fun g hg e => by have := HBF.out.2 g e; have := hb1.size; omega)
      have hcv := hbs.1.back (P := Tryd.prog) 79 9 Tryd.underlying79 Tryd.underlying5 Tryd.underlying9
      clear hbs
      go_wp2
      go_ret2
      exact ⟨rfl, hb4⟩
  · rw [if_pos hE]
    have hei : ((E : Int) != 0) = true := by rw [bne_iff_ne]; omega
    go_enter Tryd.func33, Tryd.ntmps33
    go_wp2_with fail
    refine (HC.out).mono ?_
    rintro e w1 ⟨rfl, hb2⟩
    replace hb1 := bb hb1 hb2
    clear hb2
    go_wp2
    go_ret2
    exact ⟨rfl, hb1⟩
end Go.Proofs.YtmlijflappjfoaaDoor
end

section
/-
  Contracts of layer 1 (cursor): what each method answers, and what becomes of the cursor. Conditions: the cursor's block is known, its place lies within its text.
-/
namespace Go.Proofs.YtmlijflappjfoaaDoor
open Go.RowKit Go.PM

/-- A cursor's block: its text, its place. -/
def Cur (w : World) (b : Nat) (s : ByteArray) (k : Nat) : Prop := BlkAt w b 107 #[.string s, .int .i64 (k : Int)] ∧ k ≤ s.size ∧ s.size ≤ 9223372036854775807

theorem cur_over (s : ByteArray) (w : World) :
    Calls Tryd.prog 61 #[.string s] w fun e w' => e = .returned (.pointer (some ⟨w.heap.size, 0, none⟩)) ∧ w' = w.alloc (.cells #[.string s, .int .i64 0] 107) := by
  go_enter Tryd.func61, Tryd.ntmps61
  go_wp2
  go_ret
  exact ⟨rfl, rfl⟩

theorem cur_left (b : Nat) (s : ByteArray) (k : Nat) (w : World) (h : Cur w b s k) :
    Calls Tryd.prog 74 #[.pointer (some ⟨b, 0, none⟩)] w fun e w' => e = .returned (.int .i64 ((s.size : Int) - (k : Int))) ∧ Below w.heap.size w w' := by
  obtain ⟨hb, hk, hs⟩ := h
  have c0 : w.cell? ⟨b, 0, none⟩ = some (.string s) := hb.cell 0
  have c1 : w.cell? ⟨b, 1, none⟩ = some (.int .i64 (k : Int)) := hb.cell 1
  clear hb
  go_enter Tryd.func74, Tryd.ntmps74
  go_wp2
  go_quiet (fail)
  go_wp2
  go_ret
  exact ⟨rfl, below_drewN (Below.refl _ _) _⟩

theorem cur_at (b : Nat) (s : ByteArray) (k : Nat) (w : World) (h : Cur w b s k) :
    Calls Tryd.prog 65 #[.pointer (some ⟨b, 0, none⟩)] w fun e w' => e = .returned (.int .i64 (k : Int)) ∧ Below w.heap.size w w' := by
  obtain ⟨hb, hk, hs⟩ := h
  have c1 : w.cell? ⟨b, 1, none⟩ = some (.int .i64 (k : Int)) := hb.cell 1
  clear hb
  go_enter Tryd.func65, Tryd.ntmps65
  go_wp2
  go_ret
  exact ⟨rfl, Below.refl _ _⟩

theorem cur_rest (b : Nat) (s : ByteArray) (k : Nat) (w : World) (h : Cur w b s k) :
    Calls Tryd.prog 85 #[.pointer (some ⟨b, 0, none⟩)] w fun e w' => e = .returned (.string (s.extract k s.size)) ∧ Below w.heap.size w w' := by
  obtain ⟨hb, hk, hs⟩ := h
  have c0 : w.cell? ⟨b, 0, none⟩ = some (.string s) := hb.cell 0
  have c1 : w.cell? ⟨b, 1, none⟩ = some (.int .i64 (k : Int)) := hb.cell 1
  clear hb
  go_enter Tryd.func85, Tryd.ntmps85
  go_wp2
  go_quiet (fail)
  go_wp2
  go_ret
  exact ⟨rfl, below_drewN (Below.refl _ _) _⟩

theorem cur_take_no (b : Nat) (s : ByteArray) (k : Nat) (n : Int) (w : World) (h : Cur w b s k) (h0 : (s.size : Int) - k < n) (h1 : n < 18446744073709551616) :
    Calls Tryd.prog 86 #[.pointer (some ⟨b, 0, none⟩), .int .u64 n] w fun e w' => e = .returned (.tuple #[.string ByteArray.empty, .bool false]) ∧ Below w.heap.size w w' := by
  have H := Lib.hid h
  obtain ⟨hb, hk, hs⟩ := h
  clear hb
  go_enter Tryd.func86, Tryd.ntmps86
  go_wp2_with (go_at_call 74; refine (cur_left b s k _ H.out).mono ?_; rintro e w1 ⟨rfl, hb1⟩)
  go_ret2
  exact ⟨rfl, hb1⟩

theorem cur_take_yes (b : Nat) (s : ByteArray) (k : Nat) (n : Int) (w : World) (h : Cur w b s k) (h0 : 0 ≤ n) (h1 : n ≤ (s.size : Int) - k) :
    Calls Tryd.prog 86 #[.pointer (some ⟨b, 0, none⟩), .int .u64 n] w fun e w' =>
      e = .returned (.tuple #[.string (s.extract k (k + n.toNat)), .bool true]) ∧ Cur w' b s (k + n.toNat) ∧ w.grownBy w' (some b) := by
  have H := Lib.hid h
  obtain ⟨hb, hk, hs⟩ := h
  have HB := Lib.hid hb
  obtain ⟨m, rfl⟩ := Int.eq_ofNat_of_zero_le h0
  rw [Int.toNat_natCast]
  clear hb
  go_enter Tryd.func86, Tryd.ntmps86
  go_wp2_with (go_at_call 74; refine (cur_left b s k _ H.out).mono ?_; rintro e w1 ⟨rfl, hb1⟩; have c0 : w1.cell? ⟨b, 0, none⟩ = some (.string s) := (HB.out.below hb1 HB.out.lt).cell 0; have c1 : w1.cell? ⟨b, 1, none⟩ = some (.int .i64 (k : Int)) := (HB.out.below hb1 HB.out.lt).cell 1; have f1 : w1.frozen? ⟨b, 1, none⟩ = false := (HB.out.below hb1 HB.out.lt).free 1)
  go_quiet (fail)
  go_wp2
  go_ret2
  refine ⟨rfl, ⟨?_, by omega, hs⟩, grown_put (grown_drn (grown_of_below hb1 _) _) _ _⟩
  have := ((HB.out.below hb1 HB.out.lt).drn nq).put 1 (.int .i64 ((k : Int) + (m : Int)))
  simpa using this

theorem cur_byte_no (b : Nat) (s : ByteArray) (k : Nat) (w : World) (h : Cur w b s k) (h0 : s.size = k) :
    Calls Tryd.prog 112 #[.pointer (some ⟨b, 0, none⟩)] w fun e w' => e = .returned (.tuple #[.int .u8 0, .bool false]) ∧ Below w.heap.size w w' := by
  have H := Lib.hid h
  have H0 := Lib.hid h0
  clear h h0
  go_enter Tryd.func112, Tryd.ntmps112
  go_wp2_with (go_at_call 86; refine (cur_take_no b s k 1 _ H.out (by have := H0.out; omega) (by omega)).mono ?_; rintro e w1 ⟨rfl, hb1⟩)
  go_ret2
  exact ⟨rfl, hb1⟩

theorem cur_byte_yes (b : Nat) (s : ByteArray) (k : Nat) (w : World) (h : Cur w b s k) (h0 : k < s.size) :
    Calls Tryd.prog 112 #[.pointer (some ⟨b, 0, none⟩)] w fun e w' =>
      e = .returned (.tuple #[.int .u8 (s[k].toNat : Int), .bool true]) ∧ Cur w' b s (k + 1) ∧ w.grownBy w' (some b) := by
  have H := Lib.hid h
  clear h
  go_enter Tryd.func112, Tryd.ntmps112
  go_wp2_with (go_at_call 86; refine (cur_take_yes b s k 1 _ H.out (by omega) (by omega)).mono ?_; rintro e w1 ⟨rfl, hc1, hg1⟩)
  go_ret2
  refine ⟨?_, hc1, hg1⟩
  have e : (s.extract k (k + 1))[0]'(by simp; omega) = s[k] := by simp [ByteArray.getElem_extract]
  rw [← e]
  rfl

theorem cur_sub_no (b : Nat) (s : ByteArray) (k : Nat) (n : Int) (w : World) (h : Cur w b s k) (h0 : (s.size : Int) - k < n) (h1 : n < 18446744073709551616) :
    Calls Tryd.prog 87 #[.pointer (some ⟨b, 0, none⟩), .int .u64 n] w fun e w' => e = .returned (.tuple #[.pointer none, .bool false]) ∧ Below w.heap.size w w' := by
  have H := Lib.hid h
  clear h
  go_enter Tryd.func87, Tryd.ntmps87
  go_wp2_with (go_at_call 86; refine (cur_take_no b s k n _ H.out h0 h1).mono ?_; rintro e w1 ⟨rfl, hb1⟩)
  go_ret2
  exact ⟨rfl, hb1⟩

theorem cur_sub_yes (b : Nat) (s : ByteArray) (k : Nat) (n : Int) (w : World) (h : Cur w b s k) (h0 : 0 ≤ n) (h1 : n ≤ (s.size : Int) - k) :
    Calls Tryd.prog 87 #[.pointer (some ⟨b, 0, none⟩), .int .u64 n] w fun e w' =>
      ∃ g, e = .returned (.tuple #[.pointer (some ⟨g, 0, none⟩), .bool true]) ∧ w.heap.size ≤ g ∧ Cur w' g (s.extract k (k + n.toNat)) 0 ∧ Cur w' b s (k + n.toNat) ∧ w.grownBy w' (some b) := by
  have H := Lib.hid h
  have hs := h.2.2
  clear h
  go_enter Tryd.func87, Tryd.ntmps87
  go_wp2_with (first
    | (go_at_call 86; refine (cur_take_yes b s k n _ H.out h0 h1).mono ?_; rintro e w1 ⟨rfl, hc1, hg1⟩)
    | (go_at_call 61; refine (cur_over _ _).mono ?_; rintro e w2 ⟨rfl, rfl⟩))
  go_ret2
  refine ⟨_, rfl, hg1.size, ⟨BlkAt.made _ _ _, Nat.zero_le _, ?_⟩, ⟨hc1.1.more _, hc1.2⟩, grown_more hg1 _⟩
  simp; omega

/-! ### A nil cursor -/
theorem nil_left (w : World) : Calls Tryd.prog 74 #[.pointer none] w fun e w' => e = .returned (.int .i64 0) ∧ w = w' := by
  go_enter Tryd.func74, Tryd.ntmps74
  go_wp2
  go_ret
  exact ⟨rfl, rfl⟩
theorem nil_at (w : World) : Calls Tryd.prog 65 #[.pointer none] w fun e w' => e = .returned (.int .i64 0) ∧ w = w' := by
  go_enter Tryd.func65, Tryd.ntmps65
  go_wp2
  go_ret
  exact ⟨rfl, rfl⟩
theorem nil_rest (w : World) : Calls Tryd.prog 85 #[.pointer none] w fun e w' => e = .returned (.string ByteArray.empty) ∧ w = w' := by
  go_enter Tryd.func85, Tryd.ntmps85
  go_wp2
  go_ret
  exact ⟨rfl, rfl⟩
theorem nil_take (n : Int) (w : World) : Calls Tryd.prog 86 #[.pointer none, .int .u64 n] w fun e w' => e = .returned (.tuple #[.string ByteArray.empty, .bool false]) ∧ Below w.heap.size w w' := by
  go_enter Tryd.func86, Tryd.ntmps86
  go_wp2_with fail
  go_ret2
  exact ⟨rfl, Below.refl _ _⟩
theorem nil_byte (w : World) : Calls Tryd.prog 112 #[.pointer none] w fun e w' => e = .returned (.tuple #[.int .u8 0, .bool false]) ∧ Below w.heap.size w w' := by
  go_enter Tryd.func112, Tryd.ntmps112
  go_wp2_with (go_at_call 86; refine (nil_take 1 _).mono ?_; rintro e w1 ⟨rfl, hb1⟩)
  go_ret2
  exact ⟨rfl, hb1⟩
theorem nil_sub (n : Int) (w : World) : Calls Tryd.prog 87 #[.pointer none, .int .u64 n] w fun e w' => e = .returned (.tuple #[.pointer none, .bool false]) ∧ Below w.heap.size w w' := by
  go_enter Tryd.func87, Tryd.ntmps87
  go_wp2_with (go_at_call 86; refine (nil_take n _).mono ?_; rintro e w1 ⟨rfl, hb1⟩)
  go_ret2
  exact ⟨rfl, hb1⟩
end Go.Proofs.YtmlijflappjfoaaDoor
end

section
/-
  Contracts of layer 2, more: a cursor's next number, all numbers of a text, and the document's answers. Conditions: numbers within uint64, texts of at most a million bytes where lists are made.
-/
namespace Go.Proofs.YtmlijflappjfoaaDoor
open Go.RowKit Go.PM
set_option maxRecDepth 100000

theorem next_nil (w : World) : Calls Tryd.prog 75 #[.pointer none] w fun e w' => e = .returned (.tuple #[.int .u64 0, .int .i64 25]) ∧ Below w.heap.size w w' := by
  go_enter Tryd.func75, Tryd.ntmps75
  go_wp2
  go_ret2
  exact ⟨rfl, b0⟩

theorem next_any (b : Nat) (s : ByteArray) (k : Nat) (w : World) (h : Cur w b s k) :
    Calls Tryd.prog 75 #[.pointer (some ⟨b, 0, none⟩)] w fun e w' =>
      e = .returned (.tuple #[.int .u64 ((vget (s.data.toList.drop k)).1 : Int), .int .i64 ((vget (s.data.toList.drop k)).2.2 : Int)]) ∧ Cur w' b s (k + (vget (s.data.toList.drop k)).2.1) ∧ w.grownBy w' (some b) := by
  have H := Lib.hid h
  have hk := h.2.1
  have hs := h.2.2
  generalize hV : vget (s.data.toList.drop k) = V
  obtain ⟨n, m, g⟩ := V
  simp only
  have HV := Lib.hid hV
  clear h hV
  go_enter Tryd.func75, Tryd.ntmps75
  go_wp2_with (go_at_call 85; refine (cur_rest b s k _ H.out).mono ?_; rintro e w1 ⟨rfl, hb1⟩)
  refine (get_any _ _ (by simp; omega)).mono ?_
  rintro e w2 ⟨rfl, hb2⟩
  rw [ext_rest, HV.out]
  have hc : Cur w2 b s k := ⟨(H.out.1.below hb1 H.out.1.lt).below hb2 (by have := hb1.size; have := H.out.1.lt; omega), hk, hs⟩
  have HC := Lib.hid hc
  clear hc
  by_cases hv : g = 0
  · subst hv
    have hk2 := vget_ok (s := s.data.toList.drop k) (by rw [HV.out])
    rw [HV.out] at hk2
    obtain ⟨k1, k2, k3, k4, k5⟩ := hk2
    simp only at k1 k2 k3
    rw [List.length_drop, len_list] at k2
    clear k4 k5
    go_wp2_with (go_at_call 86; refine (cur_take_yes b s k (m : Int) _ HC.out (by omega) (by omega)).mono ?_; rintro e w3 ⟨rfl, hc3, hg3⟩)
    go_ret2
    exact ⟨rfl, by simpa using hc3, grown_trans (grown_of_below (bb hb1 hb2) _) hg3 (fun x e _ => e)⟩
  · have hve := vget_err (s := s.data.toList.drop k) (by rw [HV.out]; exact hv)
    rw [HV.out] at hve
    obtain ⟨rfl, rfl⟩ : n = 0 ∧ m = 0 := by simpa using hve
    have hv2 : ((g : Int) == 0) = false := by rw [beq_eq_false_iff_ne]; omega
    have hv3 : ((g : Int) != 0) = true := by rw [bne_iff_ne]; omega
    clear hve hv
    go_wp2_with fail
    go_ret2
    exact ⟨rfl, HC.out, grown_of_below (bb hb1 hb2) _⟩

theorem info_u64 : (Tryd.prog.info? 33).map (fun i => (i.zero, i.size, i.bytes)) = some (some (.int .u64 0), 1, 8) := by kernel_rfl

/-- Of a text, what All has gathered, and what is left. -/
def AllOf (S done : List Nat) (c : Nat) (R : List UInt8) : Prop := (if (vall R).2 = 0 then (done ++ (vall R).1, 0) else ([], (vall R).2)) = (S, c)
theorem AllOf.start (l : List UInt8) : AllOf (vall l).1 [] (vall l).2 l := by
  unfold AllOf
  split
  · rename_i h; rw [h]; rfl
  · rename_i h
    have : (vall l).1 = [] := by
      rw [vall] at h ⊢
      split
      · rfl
      · rename_i h1; rw [if_neg h1] at h
        split
        · rename_i h2; rw [dif_pos h2] at h
          simp only at h ⊢
          split
          · rename_i h3; rw [if_pos h3] at h; simp at h
          · rfl
        · rfl
    rw [this]
theorem AllOf.stop {S done : List Nat} {c : Nat} (h : AllOf S done c []) : S = done ∧ c = 0 := by
  unfold AllOf at h
  rw [vall] at h
  simp at h
  exact ⟨h.1.symm, h.2.symm⟩
theorem AllOf.err {S done : List Nat} {c : Nat} {R : List UInt8} (h : AllOf S done c R) (hR : R.length ≠ 0) (hv : (vget R).2.2 ≠ 0) : S = [] ∧ c = (vget R).2.2 := by
  unfold AllOf at h
  rw [vall, if_neg hR, dif_neg hv] at h
  simp [hv] at h
  exact ⟨h.1, h.2.symm⟩
theorem AllOf.next {S done : List Nat} {c : Nat} {R : List UInt8} (h : AllOf S done c R) (hR : R.length ≠ 0) (hv : (vget R).2.2 = 0) : AllOf S (done ++ [(vget R).1]) c (R.drop (vget R).2.1) := by
  unfold AllOf at h ⊢
  rw [vall, if_neg hR, dif_pos hv] at h
  simp only at h
  rw [← h]
  split <;> simp

end Go.Proofs.YtmlijflappjfoaaDoor
end

section
/-
  Contracts of the document's answer for layer 2. Conditions: numbers within uint64, texts of at most a million bytes where lists are made.
-/
namespace Go.Proofs.YtmlijflappjfoaaDoor
open Go.RowKit Go.PM
set_option maxRecDepth 100000
set_option maxHeartbeats 4000000

theorem rput_any (n : Nat) (w : World) (hn : In64 n) :
    Calls Tryd.prog 73 #[.int .u64 (n : Int)] w fun e w' => e = .returned (.string (txt (vput n))) ∧ Below w.heap.size w w' := by
  have HN := Lib.hid hn
  have h10 := vsz_le10 hn
  clear hn
  go_enter Tryd.func73, Tryd.ntmps73
  go_wp2
  go_loopw [0, 3] (fun nn sl wr => ∃ (m : Nat) (t : ByteArray), nn = .int .u64 (m : Int) ∧ sl = .string t ∧ t.data.toList ++ vput m = vput n ∧ In64 m ∧ Below w.heap.size w wr) (fun nn _ _ => (intOf nn).toNat)
  case atStart => exact ⟨n, ⟨#[]⟩, rfl, rfl, by simp, HN.out, b0⟩
  case round =>
    obtain ⟨m, t, rfl, rfl, ht, hm, hbel⟩ := hrel
    have HT := Lib.hid ht
    have HM := Lib.hid hm
    have HB := Lib.hid hbel
    clear ht hm hbel
    by_cases h : m < 128
    · have hcv := run_row_string (P := Tryd.prog) (wr.alloc (.cells #[.int .u8 (m : Int)] 5)) 79 9 5 wr.heap.size 1 1 _ [UInt8.ofNat m] Tryd.underlying79 Tryd.underlying5 Tryd.underlying9 (BlkAt.made _ _ _) rfl (by simp [bvals]; omega)
      have hl : t.size ≤ 10 := by
        have := congrArg List.length HT.out
        rw [List.length_append, vput_length, vput_length, len_list] at this
        omega
      go_wp2
      go_ret
      refine ⟨?_, ba HB.out _⟩
      rw [← HT.out, vput_small h]
      rfl
    · have hcv := run_row_string (P := Tryd.prog) (wr.alloc (.cells #[.int .u8 ((m : Int) % 128 + 128)] 5)) 79 9 5 wr.heap.size 1 1 _ [UInt8.ofNat (m % 128 + 128)] Tryd.underlying79 Tryd.underlying5 Tryd.underlying9 (BlkAt.made _ _ _) rfl (by simp [bvals]; omega)
      have hl : t.size ≤ 10 := by
        have := congrArg List.length HT.out
        rw [List.length_append, vput_length, vput_length, len_list] at this
        omega
      have hwr : IntKind.u64.wrap ((m : Int) / 128) = (m : Int) / 128 := by
        rw [IntKind.wrap_u64]; have := HM.out.out; omega
      go_wp2
      go_roundw
      case rel =>
        refine ⟨m / 128, _, by go_num, rfl, ?_, Nat.lt_of_le_of_lt (Nat.div_le_self _ _) HM.out, ba HB.out _⟩
        rw [← HT.out, vput_big (n := m) (by omega), ByteArray.data_append, Array.toList_append]
        simp
      case measure => simp [intOf]; omega

/-- What the first loop knows. -/
def Sz (s : ByteArray) (i z : Nat) : Prop := (z = 0 ∧ rsz s.data.toList = rszL i (s.data.toList.drop i)) ∨ (0 < z ∧ rsz s.data.toList = z)
theorem Sz.more {s : ByteArray} {i : Nat} (h : Sz s i 0) (hi : i < s.size) (h10 : i < 10) (hc : 128 ≤ s[i].toNat) : Sz s (i + 1) 0 := by
  rcases h with ⟨_, h⟩ | ⟨h, _⟩
  · rw [drop_at s i hi, rszL, if_neg (by omega), if_neg (by omega)] at h
    exact .inl ⟨rfl, h⟩
  · omega
theorem Sz.last {s : ByteArray} {i : Nat} (h : Sz s i 0) (hi : i < s.size) (h10 : i < 10) (hc : s[i].toNat < 128) : Sz s (i + 1) (i + 1) := by
  rcases h with ⟨_, h⟩ | ⟨h, _⟩
  · rw [drop_at s i hi, rszL, if_neg (by omega), if_pos hc] at h
    exact .inr ⟨by omega, h⟩
  · omega
theorem Sz.end_ {s : ByteArray} {i z : Nat} (h : Sz s i z) (he : s.size ≤ i ∨ 10 ≤ i ∨ z ≠ 0) : rsz s.data.toList = z := by
  rcases h with ⟨rfl, h⟩ | ⟨_, h⟩
  · rw [h]
    rcases he with he | he | he
    · rw [drop_end s i he]; rfl
    · cases s.data.toList.drop i <;> simp [rszL, he]
    · omega
  · exact h

theorem getD_at (s : ByteArray) (i : Nat) (hi : i < s.size) : s.data.toList.getD i 0 = s[i] := by
  simp [List.getD, hi]
  rfl
/-- What the second loop knows. -/
theorem vacc_lt (l : List UInt8) : ∀ i, vacc l i < 128 ^ i
  | 0 => by simp [vacc]
  | i + 1 => by
    have := vacc_lt l i
    have h : (l.getD i 0).toNat % 128 * 128 ^ i ≤ 127 * 128 ^ i := Nat.mul_le_mul_right _ (by omega)
    rw [vacc, Nat.pow_succ]; omega

def Vc (l : List UInt8) (j acc u : Nat) : Prop := acc = vacc l j ∧ (j < 10 → u = 128 ^ j) ∧ In64 acc
theorem wrap_nat (x : Nat) : IntKind.u64.wrap (x : Int) = ((x % 18446744073709551616 : Nat) : Int) := by rw [IntKind.wrap_u64]; omega
theorem Vc.step {l : List UInt8} {j acc u c : Nat} (h : Vc l j acc u) (hj : j < 10) (hc : (l.getD j 0).toNat = c) (h9 : j = 9 → c ≤ 1) :
    ∃ P X U : Nat, IntKind.u64.wrap ((c : Int) % 128 * (u : Int)) = (P : Int) ∧ IntKind.u64.wrap ((acc : Int) + (P : Int)) = (X : Int) ∧ IntKind.u64.wrap ((u : Int) * 128) = (U : Int) ∧ Vc l (j + 1) X U := by
  obtain ⟨rfl, hu, h64⟩ := h
  have hu := hu hj
  subst hu
  have hlt := vacc_lt l j
  have e1 : ((c : Int) % 128 * ((128 ^ j : Nat) : Int)) = ((c % 128 * 128 ^ j : Nat) : Int) := by push_cast; rfl
  have hb : vacc l j + c % 128 * 128 ^ j < 18446744073709551616 := by
    by_cases e : j = 9
    · subst e
      have := h9 rfl
      have : c % 128 * 128 ^ 9 ≤ 1 * 128 ^ 9 := Nat.mul_le_mul_right _ (by omega)
      have h2 : 128 ^ 9 + 1 * 128 ^ 9 ≤ 18446744073709551616 := by decide
      omega
    · have h3 : 128 ^ (j + 1) ≤ 128 ^ 9 := pow_lt (by omega)
      have : c % 128 * 128 ^ j ≤ 127 * 128 ^ j := Nat.mul_le_mul_right _ (by omega)
      rw [Nat.pow_succ] at h3
      have h2 : 128 ^ 9 < 18446744073709551616 := by decide
      omega
  refine ⟨c % 128 * 128 ^ j, vacc l j + c % 128 * 128 ^ j, 128 ^ j * 128 % 18446744073709551616, ?_, ?_, ?_, ?_, ?_, ?_⟩
  · rw [e1, wrap_nat, Nat.mod_eq_of_lt (by omega)]
  · rw [← Int.natCast_add, wrap_nat, Nat.mod_eq_of_lt hb]
  · have : (((128 ^ j : Nat) : Int) * 128) = ((128 ^ j * 128 : Nat) : Int) := by push_cast; rfl
    rw [this, wrap_nat]
  · rw [vacc, hc]
  · intro h
    have h3 : 128 ^ (j + 1) ≤ 128 ^ 9 := pow_lt (by omega)
    have h2 : 128 ^ 9 < 18446744073709551616 := by decide
    rw [Nat.pow_succ] at h3 ⊢
    exact Nat.mod_eq_of_lt (by omega)
  · exact hb

theorem rget_any (s : ByteArray) (w : World) (hs : s.size ≤ 9223372036854775807) :
    Calls Tryd.prog 79 #[.string s] w fun e w' => e = .returned (.tuple #[.int .u64 ((vget s.data.toList).1 : Int), .int .i64 ((vget s.data.toList).2.1 : Int), .int .i64 ((vget s.data.toList).2.2 : Int)]) ∧ Below w.heap.size w w' := by
  rw [← vref_eq]
  generalize hV : vref s.data.toList = V
  have HV := Lib.hid hV
  clear hV
  go_enter Tryd.func79, Tryd.ntmps79
  go_wp2
  go_loop [5, 6] (fun zz k => ∃ i z : Nat, zz = .int .i64 (z : Int) ∧ k = .int .i64 (i : Int) ∧ i ≤ 10 ∧ z ≤ 10 ∧ i ≤ s.size ∧ z ≤ s.size ∧ Sz s i z) (fun _ k => 10 - (intOf k).toNat)
  case atStart => exact ⟨0, 0, rfl, rfl, by omega, by omega, by omega, by omega, .inl ⟨rfl, rfl⟩⟩
  case round =>
    obtain ⟨i, z, rfl, rfl, hi, hz, his, hzs, hsz⟩ := hrel
    have HSZ := Lib.hid hsz
    clear hsz
    by_cases hgo : i < s.size ∧ i < 10 ∧ z = 0
    · obtain ⟨g1, g2, rfl⟩ := hgo
      by_cases hc : s[i].toNat < 128
      · go_wp2
        go_round
        case rel => exact ⟨i + 1, i + 1, by go_num, by go_num, by omega, by omega, by omega, by omega, HSZ.out.last g1 g2 hc⟩
        case measure => simp [intOf]; omega
      · go_wp2
        go_round
        case rel => exact ⟨i + 1, 0, rfl, by go_num, by omega, by omega, by omega, by omega, HSZ.out.more g1 g2 (by omega)⟩
        case measure => simp [intOf]; omega
    · have hrz := HSZ.out.end_ (by omega)
      have hv := HV.out
      unfold vref at hv
      rw [hrz, len_list] at hv
      rcases (show (s.size ≤ i) ∨ (i < s.size ∧ 10 ≤ i) ∨ (i < s.size ∧ i < 10 ∧ z ≠ 0) by omega) with g1 | ⟨g1, g2⟩ | ⟨g1, g2, g3⟩
      all_goals
        clear hgo hrz
        by_cases z0 : z = 0
        · first
            | (exfalso; omega)
            | (subst z0
               rw [if_pos rfl] at hv
               by_cases h10 : 10 ≤ s.size
               · rw [if_pos h10] at hv
                 have HS := Lib.hid hv
                 clear hv
                 go_wp2
                 go_ret3
                 rw [← HS.out]
                 exact ⟨rfl, b0⟩
               · rw [if_neg h10] at hv
                 have HS := Lib.hid hv
                 clear hv
                 first
                   | (exfalso; omega)
                   | (go_wp2
                      go_ret3
                      rw [← HS.out]
                      exact ⟨rfl, b0⟩))
        · have tz : ((z : Int) == 0) = false := by rw [beq_eq_false_iff_ne]; omega
          rw [if_neg z0] at hv
          have zp : 0 < z := by omega
          clear z0
          have hzz : z - 1 < s.size := by omega
          have hgz := getD_at s (z - 1) hzz
          rw [hgz] at hv
          by_cases h9 : z = 10
          · have hs9 : 9 < s.size := by omega
            have hg9 := getD_at s 9 hs9
            rw [hg9] at hv
            have e9 : s[z - 1]'hzz = s[9]'hs9 := by subst h9; rfl
            rw [e9] at hv hgz
            by_cases h1 : 1 < (s[9]'hs9).toNat
            · rw [if_pos ⟨h9, h1⟩] at hv
              have HS := Lib.hid hv
              subst h9
              clear hv hgz hg9 e9
              go_wp2
              go_ret3
              rw [← HS.out]
              exact ⟨rfl, b0⟩
            · rw [if_neg (by omega)] at hv
              have t9 : ((z : Int) == 10) = true := by rw [beq_iff_eq]; omega
              have t1 : ¬ (1 : Int) < ((s[9]'hs9).toNat : Int) := by omega
              have h3 : 1 < z := by omega
              have H9 : Hid (∀ j (_ : j < s.size), j < z → j = 9 → s[j].toNat ≤ 1) := fun j _ _ e => by subst e; omega
              by_cases h0 : (s[9]'hs9).toNat = 0
              · rw [if_pos ⟨h3, h0⟩] at hv
                have HS := Lib.hid hv
                have t0 : (((s[z - 1]'hzz).toNat : Int) == 0) = true := by rw [e9, beq_iff_eq]; omega
                clear hv hgz hg9 e9 h0 h9
                go_wp2
                go_ret3
                rw [← HS.out]
                exact ⟨rfl, b0⟩
              · rw [if_neg (by omega)] at hv
                have HS := Lib.hid hv
                have t0 : (((s[z - 1]'hzz).toNat : Int) == 0) = false := by rw [e9, beq_eq_false_iff_ne]; omega
                clear hv hgz hg9 e9 h0 h1 h9
                go_wp2
                go_loop [7, 8, 9] (fun nn uu k => ∃ j acc u : Nat, j ≤ z ∧ k = .int .i64 (j : Int) ∧ nn = .int .u64 (acc : Int) ∧ uu = .int .u64 (u : Int) ∧ Vc s.data.toList j acc u) (fun _ _ k => z - (intOf k).toNat)
                case atStart => exact ⟨0, 0, 1, by omega, rfl, rfl, rfl, rfl, fun _ => rfl, by unfold In64; omega⟩
                case round =>
                  obtain ⟨j, acc, u, hj, rfl, rfl, rfl, hvc⟩ := hrel
                  by_cases hjz : j < z
                  · obtain ⟨P, X, U, hP, hX, hU, hvn⟩ := hvc.step (by omega) (c := s[j].toNat) (by rw [getD_at s j (by omega)]) (H9.out j (by omega) hjz)
                    have HVN := Lib.hid hvn
                    clear hvc hvn
                    go_wp2
                    go_round
                    case rel => exact ⟨j + 1, X, U, by omega, by go_num, rfl, rfl, HVN.out⟩
                    case measure => simp [intOf]; omega
                  · have hjz' : j = z := by omega
                    have hva := hvc.1
                    rw [hjz'] at hva
                    have HVA := Lib.hid hva
                    clear hvc hva hjz'
                    go_wp2
                    go_ret3
                    rw [← HS.out, ← HVA.out]
                    exact ⟨rfl, b0⟩
          · rw [if_neg (by omega)] at hv
            have t9 : ((z : Int) == 10) = false := by rw [beq_eq_false_iff_ne]; omega
            have H9 : Hid (∀ j (_ : j < s.size), j < z → j = 9 → s[j].toNat ≤ 1) := fun j _ _ e => by omega
            clear h9
            by_cases h2 : 1 < z ∧ (s[z - 1]'hzz).toNat = 0
            · rw [if_pos h2] at hv
              have HS := Lib.hid hv
              obtain ⟨h2a, h2b⟩ := h2
              have t0 : (((s[z - 1]'hzz).toNat : Int) == 0) = true := by rw [beq_iff_eq]; omega
              have H2 := Lib.hid h2b
              clear hv hgz h2b
              go_wp2
              go_ret3
              rw [← HS.out]
              exact ⟨rfl, b0⟩
            · rw [if_neg h2] at hv
              by_cases h3 : 1 < z
              · have t0 : (((s[z - 1]'hzz).toNat : Int) == 0) = false := by rw [beq_eq_false_iff_ne]; omega
                have HS := Lib.hid hv
                clear hv hgz h2
                go_wp2
                go_loop [7, 8, 9] (fun nn uu k => ∃ j acc u : Nat, j ≤ z ∧ k = .int .i64 (j : Int) ∧ nn = .int .u64 (acc : Int) ∧ uu = .int .u64 (u : Int) ∧ Vc s.data.toList j acc u) (fun _ _ k => z - (intOf k).toNat)
                case atStart => exact ⟨0, 0, 1, by omega, rfl, rfl, rfl, rfl, fun _ => rfl, by unfold In64; omega⟩
                case round =>
                  obtain ⟨j, acc, u, hj, rfl, rfl, rfl, hvc⟩ := hrel
                  by_cases hjz : j < z
                  · obtain ⟨P, X, U, hP, hX, hU, hvn⟩ := hvc.step (by omega) (c := s[j].toNat) (by rw [getD_at s j (by omega)]) (H9.out j (by omega) hjz)
                    have HVN := Lib.hid hvn
                    clear hvc hvn
                    go_wp2
                    go_round
                    case rel => exact ⟨j + 1, X, U, by omega, by go_num, rfl, rfl, HVN.out⟩
                    case measure => simp [intOf]; omega
                  · have hjz' : j = z := by omega
                    have hva := hvc.1
                    rw [hjz'] at hva
                    have HVA := Lib.hid hva
                    clear hvc hva hjz'
                    go_wp2
                    go_ret3
                    rw [← HS.out, ← HVA.out]
                    exact ⟨rfl, b0⟩
              · have HS := Lib.hid hv
                clear hv hgz h2
                go_wp2
                go_loop [7, 8, 9] (fun nn uu k => ∃ j acc u : Nat, j ≤ z ∧ k = .int .i64 (j : Int) ∧ nn = .int .u64 (acc : Int) ∧ uu = .int .u64 (u : Int) ∧ Vc s.data.toList j acc u) (fun _ _ k => z - (intOf k).toNat)
                case atStart => exact ⟨0, 0, 1, by omega, rfl, rfl, rfl, rfl, fun _ => rfl, by unfold In64; omega⟩
                case round =>
                  obtain ⟨j, acc, u, hj, rfl, rfl, rfl, hvc⟩ := hrel
                  by_cases hjz : j < z
                  · obtain ⟨P, X, U, hP, hX, hU, hvn⟩ := hvc.step (by omega) (c := s[j].toNat) (by rw [getD_at s j (by omega)]) (H9.out j (by omega) hjz)
                    have HVN := Lib.hid hvn
                    clear hvc hvn
                    go_wp2
                    go_round
                    case rel => exact ⟨j + 1, X, U, by omega, by go_num, rfl, rfl, HVN.out⟩
                    case measure => simp [intOf]; omega
                  · have hjz' : j = z := by omega
                    have hva := hvc.1
                    rw [hjz'] at hva
                    have HVA := Lib.hid hva
                    clear hvc hva hjz'
                    go_wp2
                    go_ret3
                    rw [← HS.out, ← HVA.out]
                    exact ⟨rfl, b0⟩
end Go.Proofs.YtmlijflappjfoaaDoor
end

section
/-
  Work lists: rows of slices that read as fields, of the call's own. Plain theorems, over any program.
-/
namespace Go.PM
open Go.RowKit
theorem own_pop {w : World} {base : Nat} {e : TypeId} {size g n cap : Nat} {xs : List Value} (h : w.ownsRow base e size (.slice (some ⟨g, 0, none⟩) (n + 1) cap) (n + 1) xs) :
    w.ownsRow base e size (.slice (some ⟨g, 0, none⟩) n cap) n (xs.take (n * size)) := by
  have hle : n * size ≤ (n + 1) * size := Nat.mul_le_mul_right _ (by omega)
  refine ⟨by rw [List.length_take, h.1]; omega, ?_⟩
  rcases h.2 with ⟨h', _⟩ | ⟨g', cap', cur, h', hb, hg, hnc, hcm, hcs, htake⟩
  · simp at h'
  · simp only [Value.slice.injEq, Option.some.injEq, Addr.mk.injEq, and_true, true_and] at h'
    obtain ⟨rfl, rfl⟩ := h'
    refine .inr ⟨g, cap, cur, rfl, hb, hg, by omega, hcm, hcs, ?_⟩
    rw [← htake, List.take_take, Nat.min_eq_left hle]

theorem own_cap {w : World} {base : Nat} {e : TypeId} {size g n cap : Nat} {xs : List Value} (h : w.ownsRow base e size (.slice (some ⟨g, 0, none⟩) n cap) n xs) : n ≤ cap ∧ cap ≤ 9223372036854775807 := by
  rcases h.2 with ⟨h', _⟩ | ⟨g', cap', cur, h', hb, hg, hnc, hcm, hcs, htake⟩
  · simp at h'
  · simp only [Value.slice.injEq, Option.some.injEq, Addr.mk.injEq, and_true, true_and] at h'
    obtain ⟨rfl, rfl⟩ := h'
    exact ⟨hnc, by unfold maxLen at hcm; omega⟩
/-- Values that read as lists of fields. -/
def WL (w : World) (I : Nat → Prop) (xs : List Value) (L : List Fs) : Prop := xs.length = L.length ∧ ∀ (j : Nat) (x : Value) (f : Fs), xs[j]? = some x → L[j]? = some f → SlV w I x f
theorem WL.nil {w : World} {I : Nat → Prop} : WL w I [] [] := ⟨rfl, fun j x f h => by simp at h⟩
theorem WL.push {w : World} {I : Nat → Prop} {xs : List Value} {L : List Fs} {x : Value} {f : Fs} (h : WL w I xs L) (hx : SlV w I x f) : WL w I (xs ++ [x]) (L ++ [f]) := by
  refine ⟨by simp [h.1], fun j y g hy hg => ?_⟩
  by_cases hj : j < xs.length
  · rw [List.getElem?_append_left hj] at hy
    rw [List.getElem?_append_left (by rw [← h.1]; exact hj)] at hg
    exact h.2 j y g hy hg
  · rw [List.getElem?_append_right (by omega)] at hy
    rw [List.getElem?_append_right (by rw [← h.1]; omega), ← h.1] at hg
    generalize j - xs.length = m at hy hg
    cases m with
    | zero => simp at hy hg; subst hy hg; exact hx
    | succ m => simp at hy
theorem WL.pop {w : World} {I : Nat → Prop} {xs : List Value} {L : List Fs} {n : Nat} (h : WL w I xs L) (hn : L.length = n + 1) :
    ∃ L' f x, L = L' ++ [f] ∧ L'.length = n ∧ xs[n]? = some x ∧ SlV w I x f ∧ WL w I (xs.take n) L' := by
  have hx : n < xs.length := by rw [h.1]; omega
  have hL : n < L.length := by omega
  refine ⟨L.take n, L[n], xs[n], ?_, by rw [List.length_take]; omega, List.getElem?_eq_getElem hx, h.2 n _ _ (List.getElem?_eq_getElem hx) (List.getElem?_eq_getElem hL), ?_⟩
  · have h1 := List.take_append_getElem hL
    rw [h1, List.take_of_length_le (by omega)]
  · refine ⟨by rw [List.length_take, List.length_take, h.1], fun j y g hy hg => ?_⟩
    rw [List.getElem?_take] at hy hg
    by_cases hj : j < n
    · rw [if_pos hj] at hy hg
      exact h.2 j y g hy hg
    · rw [if_neg hj] at hy
      cases hy
end Go.PM
end
