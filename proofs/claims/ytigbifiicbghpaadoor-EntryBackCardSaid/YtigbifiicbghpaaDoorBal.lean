/-
  Texts of the proof, joined: Wire3 RefWire WireLaw Pick3 FldLaw3 RPick2 FldLaw2. Conditions: as each names.
-/
import Derived.Test.YtigbifiicbghpaaDoorBak
import Derived.OwnWalk
import Derived.Test.YtigbifiicbghpaaDoorBah
import Derived.Test.YtigbifiicbghpaaDoorBaf
import Derived.Test.YtigbifiicbghpaaDoorBaj
import Derived.Test.YtigbifiicbghpaaDoorBad
import Derived.Test.YtigbifiicbghpaaDoorBae

section
/-
  Contracts of layer 9: fields as they are written, or why they aren't; how many bytes that are.
-/
namespace Go.Proofs.YtigbifiicbghpaaDoor
open Go.RowKit Go.PM
set_option maxRecDepth 100000
set_option maxHeartbeats 1500000
attribute [local go_sem ↓] Go.wp_at_zero Go.wp_at_succ

/-- What is written, and the code. -/
def fput (f : Fs) : List UInt8 × Nat := if fcheck f 0 0 ≠ 0 then ([], fcheck f 0 0) else if 65536 < (ftx f).length then ([], 4) else (ftx f, 0)
def fszB (f : Fs) : Nat := if fcheck f 0 0 ≠ 0 then 0 else (ftx f).length
theorem wput_of (v : Value) (f : Fs) (I : Nat → Prop) (w : World) (hr : SlV w I v f) (hk : f.All FKd) (h60 : f.count ≤ 1000000) (hL : (ftx f).length ≤ 1000000000000) :
    Calls Tryd.prog 55 #[v] w fun e w' => e = .returned (.tuple #[.string (txt (fput f).1), .int .i64 ((fput f).2 : Int)]) ∧ Below w.heap.size w w' := by
  have hb1 : Below w.heap.size w w := b0
  have HC := Lib.hid (check_of v f I w hr hk h60)
  have hiff := fcheck_iff f 0 0 hk (by omega)
  obtain ⟨A, c, rfl, _⟩ := id hr
  have HS : Hid (fcheck f 0 0 = 0 → ∀ x : World, Below w.heap.size w x → Calls Tryd.prog 72 #[.slice A f.len c] x fun e w' => e = .returned (.int .i64 ((ftx f).length : Int)) ∧ Below x.heap.size x w') := fun h x hx => wsize_any f.count A c f I 0 0 x (Nat.le_refl _) (hr.below hx) (hiff.1 h) h60 hL
  have HW : Hid (fcheck f 0 0 = 0 → (ftx f).length ≤ 65536 → ∀ (x : World) (v0 : Value), Below w.heap.size w x → Buf x 5 v0 [] → (∀ g, foot v0 = some g → w.heap.size ≤ g) → Calls Tryd.prog 73 #[v0, .slice A f.len c] x (WriteEnd x v0 (ftx f))) := fun h hl x v0 hx hb hf => by
    have := write_any f.count v0 [] A c f (fun k => I k ∧ k < w.heap.size) 0 0 x (Nat.le_refl _) hb (hr.lt.below hx) (fun g hg e => by have := hf g e; omega) (hiff.1 h) h60 (by simp; omega)
    rwa [List.nil_append] at this
  unfold fput
  clear hiff hr hk
  generalize fcheck f 0 0 = E at *
  by_cases hE : E = 0
  · subst hE
    rw [if_neg (by simp)]
    have HS2 := Lib.hid (HS.out rfl)
    have HW2 := Lib.hid (HW.out rfl)
    generalize hF : ftx f = F at *
    clear hF
    by_cases hbig : 65536 < F.length
    · rw [if_pos hbig]
      generalize F.length = LI at *
      go_enter Tryd.func55, Tryd.ntmps55
      go_wp2_with fail
      refine (HC.out).mono ?_
      rintro e w1 ⟨rfl, hb2⟩
      replace hb1 := bb hb1 hb2
      clear hb2
      go_wp2_with fail
      refine (HS2.out _ hb1).mono ?_
      rintro e w2 ⟨rfl, hb2⟩
      replace hb1 := bb hb1 hb2
      clear hb2
      go_wp2
      go_ret2
      exact ⟨rfl, hb1⟩
    · rw [if_neg hbig]
      have HW3 := Lib.hid (HW2.out (by omega))
      generalize hLI : F.length = LI at *
      clear hLI
      obtain ⟨i0, hi0, hz0, hz1, hz2⟩ := info_parts info_u8
      have hdd : decide ((65536 : Int) < (LI : Int)) = false := by simp; omega
      have hby : i0.bytes * LI ≤ 281474976710656 := by rw [hz2]; omega
      have hm : LI ≤ maxLen := by unfold maxLen; omega
      have HBY := Lib.hid hby
      have HMM := Lib.hid hm
      have hl : LI ≤ 65536 := by omega
      clear hby hm hbig
      go_enter Tryd.func55, Tryd.ntmps55
      go_wp2_with fail
      refine (HC.out).mono ?_
      rintro e w1 ⟨rfl, hb2⟩
      replace hb1 := bb hb1 hb2
      clear hb2
      go_wp2_with fail
      refine (HS2.out _ hb1).mono ?_
      rintro e w2 ⟨rfl, hb2⟩
      replace hb1 := bb hb1 hb2
      clear hb2
      go_wp2_with (refine wpList_make_own _ rfl _ _ _ rfl w2.heap.size 5 i0 (.int .u8 0) 1 Tryd.underlying98 hi0 hz0 hz1 .i64 .i64 _ LI rfl rfl rfl HBY.out HMM.out (Nat.le_refl _) ?_; intro w3 hown hgr; have hbuf := Buf.ofOwn (l := []) (n := 0) hown; have HBF := Lib.hid hbuf; have hb3 := below_of_grown hgr; have HB3 := Lib.hid (bb hb1 hb3); clear hown hgr hbuf hb3)
      refine (HW3.out _ _ HB3.out HBF.out.1 (fun g hg => Nat.le_trans hb1.size (HBF.out.2 g hg))).mono ?_
      rintro e w4 ⟨v4, rfl, hbs⟩
      have hb4 : Below w.heap.size w w4 := HB3.out.trans (hbs.2.1.toBelowB HB3.out.size fun g hg e => by have := HBF.out.2 g e; have := hb1.size; omega)
      have hcv := hbs.1.back (P := Tryd.prog) 98 9 Tryd.underlying98 Tryd.underlying5 Tryd.underlying9
      clear hbs
      go_wp2
      go_ret2
      exact ⟨rfl, hb4⟩
  · rw [if_pos hE]
    have hei : ((E : Int) != 0) = true := by rw [bne_iff_ne]; omega
    go_enter Tryd.func55, Tryd.ntmps55
    go_wp2_with fail
    refine (HC.out).mono ?_
    rintro e w1 ⟨rfl, hb2⟩
    replace hb1 := bb hb1 hb2
    clear hb2
    go_wp2
    go_ret2
    exact ⟨rfl, hb1⟩
end Go.Proofs.YtigbifiicbghpaaDoor
end

section
/-
  Contracts of the document's answer for layer 9: fields as they are written. Conditions: fields that may be, of texts of bounded length.
-/
namespace Go.Proofs.YtigbifiicbghpaaDoor
open Go.RowKit Go.PM
set_option maxRecDepth 100000
set_option maxHeartbeats 1500000
attribute [local go_sem ↓] Go.wp_at_zero Go.wp_at_succ

theorem app_list (a b : ByteArray) : (a ++ b).data.toList = a.data.toList ++ b.data.toList := by rw [ByteArray.data_append, Array.toList_append]
end Go.Proofs.YtigbifiicbghpaaDoor
end

section
/-
  The walks of the statements of layer 9: the chapter's example; any fields as they are written. Conditions: numbers within their kinds; Go's tables of UTF-8 lie in memory.
-/
namespace Go.Proofs.YtigbifiicbghpaaDoor
open Go.RowKit Go.PM
set_option maxRecDepth 100000
set_option maxHeartbeats 1500000

theorem oftext_any (t : Nat) (s : ByteArray) (w : World) :
    Calls Tryd.prog 56 #[.int .u64 (t : Int), .string s] w fun e w' => e = .returned (.agg #[.int .u64 (t : Int), .int .i64 1, .int .u64 0, .string s, .slice none 0 0]) ∧ Below w.heap.size w w' := by
  go_enter Tryd.func56, Tryd.ntmps56
  go_wp2
  exact bodyPost_ret (v := .agg #[.int .u64 (t : Int), .int .i64 1, .int .u64 0, .string s, .slice none 0 0]) (by simp [results, Tryd.results56, go_sem]; try rfl) rfl ⟨rfl, ba b0 _⟩
def exam9 : Fs := fnum 1 300 (.cons 2 1 0 ⟨#[97, 98]⟩ .nil .nil)
theorem exam9_tx : ftx exam9 = [4, 172, 2, 9, 2, 97, 98] := by
  have e1 : vput (4 * 1 + Int.toNat 0) = [4] := vput_small (by decide)
  have e2 : vput 300 = [172, 2] := by rw [vput_big (by decide), vput_small (by decide)]; rfl
  have e3 : vput (4 * 2 + Int.toNat 1) = [9] := vput_small (by decide)
  have e4 : vput (ByteArray.mk #[97, 98]).size = [2] := vput_small (by decide)
  show vput (4 * 1 + Int.toNat 0) ++ (vput 300 ++ (vput (4 * 2 + Int.toNat 1) ++ ((vput (ByteArray.mk #[97, 98]).size ++ [97, 98]) ++ []))) = _
  rw [e1, e2, e3, e4]
  rfl
theorem exam9_put : txt (fput exam9).1 = ⟨#[4, 172, 2, 9, 2, 97, 98]⟩ ∧ (fput exam9).2 = 0 := by
  have h1 : fcheck exam9 0 0 = 0 := by decide
  unfold fput
  rw [h1, if_neg (by simp), exam9_tx, if_neg (by decide)]
  exact ⟨rfl, rfl⟩
theorem awake09 (w : World) (hT : Tabs w) :
    Calls Tryd.prog 45 #[] w fun e w' => e = .returned (.bool true) ∧ Below w.heap.size w w' := by
  have hb1 : Below w.heap.size w w := b0
  have HA : Hid (∀ x : World, Below w.heap.size w x → Calls Tryd.prog 57 #[] x fun e w' => e = .returned (.bool true) ∧ Below x.heap.size x w') := fun x hx => awakeE08 x (hT.below hx)
  have H1 : Hid (∀ W : World, Calls Tryd.prog 55 #[.slice (some ⟨W.heap.size, 0, none⟩) 2 2] (W.alloc (.cells #[.int .u64 1, .int .i64 0, .int .u64 300, .string ByteArray.empty, .slice none 0 0, .int .u64 2, .int .i64 1, .int .u64 0, .string ⟨#[97, 98]⟩, .slice none 0 0] 47)) fun e w' => e = .returned (.tuple #[.string ⟨#[4, 172, 2, 9, 2, 97, 98]⟩, .int .i64 0]) ∧ Below W.heap.size W w') := fun W => by
    have hs : SlV (W.alloc (.cells #[.int .u64 1, .int .i64 0, .int .u64 300, .string ByteArray.empty, .slice none 0 0, .int .u64 2, .int .i64 1, .int .u64 0, .string ⟨#[97, 98]⟩, .slice none 0 0] 47)) (fun _ => True) (.slice (some ⟨W.heap.size, 0, none⟩) 2 2) exam9 :=
      slv_blk (f := exam9) (BlkAt.made W _ _) ⟨rfl, rfl, rfl, rfl, SlV.nil _ _ _ _, rfl, rfl, rfl, rfl, SlV.nil _ _ _ _, trivial⟩ trivial (Nat.le_refl 2)
    have := wput_of _ exam9 _ _ hs ⟨⟨by unfold In64; omega, by unfold InI64; omega, by unfold In64; omega, by decide⟩, trivial, ⟨by unfold In64; omega, by unfold InI64; omega, by unfold In64; omega, by decide⟩, trivial, trivial⟩ (by decide) (by rw [exam9_tx]; decide)
    rw [exam9_put.1, exam9_put.2] at this
    exact this.mono fun e w' h => ⟨h.1, bb (ba b0 _) h.2⟩
  clear hT
  go_enter Tryd.func45, Tryd.ntmps45
  go_wp2_with fail
  refine (ofnum_any 1 300 _).mono ?_
  rintro e w2 ⟨rfl, hb2⟩
  replace hb1 := bb hb1 hb2
  clear hb2
  go_wp2_with fail
  refine (oftext_any 2 ⟨#[97, 98]⟩ _).mono ?_
  rintro e w3 ⟨rfl, hb2⟩
  replace hb1 := bb hb1 hb2
  clear hb2
  go_wp2_with fail
  refine (H1.out _).mono ?_
  rintro e w4 ⟨rfl, hb2⟩
  replace hb1 := bb hb1 hb2
  clear hb2
  go_wp2_with fail
  refine (HA.out _ hb1).mono ?_
  rintro e w5 ⟨rfl, hb2⟩
  replace hb1 := bb hb1 hb2
  clear hb2
  go_wp2
  go_ret
  exact ⟨rfl, hb1⟩
theorem awakeE09 (w : World) (hT : Tabs w) : Calls Tryd.prog 30 #[] w fun e w' => e = .returned (.bool true) ∧ Below w.heap.size w w' := by
  have H := Lib.hid (awake09 w hT)
  clear hT
  go_enter Tryd.func30, Tryd.ntmps30
  go_wp2_with fail
  refine H.out.mono ?_
  rintro e w' ⟨rfl, hb⟩
  go_wp2
  go_ret
  exact ⟨rfl, hb⟩
theorem ftx_le : ∀ {f : Fs}, f.All FOk → f.count ≤ 1000000 → (ftx f).length ≤ 330 * f.count
  | .nil, _, _ => by simp [ftx]
  | .cons t y n s i r, hk, h60 => by
    simp only [Fs.count] at h60
    have hi := ftx_le (f := i) hk.2.1 (by omega)
    have hr := ftx_le (f := r) hk.2.2 (by omega)
    obtain ⟨h1, h2, h3, h4⟩ := hk.1
    have e1 : vsz (4 * t + y.toNat) ≤ 10 := vsz_le 9 _ (by have : (128 : Nat) ^ (9 + 1) = 1180591620717411303424 := by decide
                                                           unfold In64 at h1; omega)
    have e2 := vsz_le10 h3
    have e3 : vsz s.size ≤ 10 := vsz_le10 (by show s.size < 18446744073709551616; omega)
    have e4 : vsz (ftx i).length ≤ 10 := vsz_le10 (by show (ftx i).length < 18446744073709551616; omega)
    simp only [ftx, Fs.count, List.length_append, vput_length]
    by_cases y0 : y = 0
    · rw [if_pos y0, vput_length]; omega
    · rw [if_neg y0]
      by_cases y1 : y = 1
      · rw [if_pos y1, List.length_append, vput_length, len_list]; omega
      · rw [if_neg y1, List.length_append, vput_length]; omega
theorem fsz_put {f : Fs} (h : (ftx f).length ≤ 65536) : (fput f).1.length = fszB f := by
  unfold fput fszB
  by_cases e : fcheck f 0 0 ≠ 0
  · rw [if_pos e, if_pos e]; rfl
  · rw [if_neg e, if_neg e, if_neg (by omega)]
end Go.Proofs.YtigbifiicbghpaaDoor
end

section
/-
  Layer 10: all tags (pick.Tags), and the chapter's example. Conditions: at most a million fields; Go's tables of UTF-8 lie in memory.
-/
namespace Go.Proofs.YtigbifiicbghpaaDoor
open Go.RowKit Go.PM
set_option maxRecDepth 100000
set_option maxHeartbeats 2000000
attribute [local go_sem ↓] Go.wp_at_zero Go.wp_at_succ

theorem info_pu64 : (Tryd.prog.info? 39).map (fun i => (i.zero, i.size, i.bytes)) = some (some (.int .u64 0), 1, 8) := by kernel_rfl
/-- All fields' tags. -/
def ftags (f : Fs) : List Nat := f.toL.map Fl.tag
theorem ftags_len (f : Fs) : (ftags f).length = f.len := by rw [ftags, List.length_map, toL_len]
theorem slv_tag {w : World} {I : Nat → Prop} {A : Option Addr} {c : Nat} {f : Fs} (h : SlV w I (.slice A f.len c) f) (k : Nat) (hk : k < f.len) :
    ∃ b o, A = some ⟨b, o, none⟩ ∧ b < w.heap.size ∧ w.cell? ⟨b, o + k * 5, none⟩ = some (.int .u64 ((f.toL[k]'(by rw [toL_len]; exact hk)).tag : Int)) := by
  obtain ⟨A', c', hv, hc, hor⟩ := h
  injection hv with e1 e2 e3
  subst e1 e3
  rcases hor with h0 | ⟨b, o, rfl, hI, hb, hat⟩
  · omega
  · obtain ⟨t, y, n, s, i, hd, _⟩ := f.drop_cons k hk
    have h1 := hat.drop k
    rw [hd] at h1
    have h2 := toL_drop hd
    rw [List.getElem?_eq_getElem (by rw [toL_len]; exact hk)] at h2
    injection h2 with h2
    rw [h2]
    exact ⟨b, o, rfl, hb, h1.1⟩
theorem tags_any (A : Option Addr) (c : Nat) (f : Fs) (I : Nat → Prop) (w : World) (hr : SlV w I (.slice A f.len c) f) (hl : f.len ≤ 1000000) :
    Calls Tryd.prog 20 #[.slice A f.len c] w fun e w' => ∃ (A' : Option Addr) (c' : Nat), e = .returned (.slice A' f.len c') ∧ PM.Rd w' A' (u64s (ftags f)) ∧ f.len ≤ c' ∧ Below w.heap.size w w' := by
  obtain ⟨i0, hi0, hz0, hz1, hz2⟩ := info_parts info_pu64
  have HR := Lib.hid hr
  have hcc : f.len ≤ c := by obtain ⟨A', c', hv, hc, _⟩ := hr; injection hv with e1 e2 e3; omega
  have H0 : Hid (w.ownsRow w.heap.size 39 1 (.slice none 0 0) 0 (u64s ((ftags f).take 0))) := World.ownsRow_nil _ _ _ _
  clear hr
  go_enter Tryd.func20, Tryd.ntmps20
  go_wp2_with fail
  go_loopg [3, 7] f.len (fun gk vv ki wr => ∃ k : Nat, k ≤ f.len ∧ f.len - k ≤ gk ∧ ki = .int .i64 (k : Int) ∧ Hid (wr.ownsRow w.heap.size 39 1 vv k (u64s ((ftags f).take k))) ∧ Below w.heap.size w wr)
  case atStart => exact ⟨0, Nat.zero_le _, by omega, rfl, H0, b0⟩
  case round =>
    obtain ⟨k, hkl, hgk, rfl, HO, hb⟩ := hrel
    have HB := Lib.hid hb
    by_cases hlt : k < f.len
    · obtain ⟨b, o, rfl, hbl, hcell⟩ := slv_tag (HR.out.below hb) k hlt
      have hkt : k < f.toL.length := by rw [toL_len]; exact hlt
      have HTK : Hid (u64s ((ftags f).take (k + 1)) = u64s ((ftags f).take k) ++ [.int .u64 ((f.toL[k]'hkt).tag : Int)]) := by
        show _ = _
        rw [← List.take_append_getElem (show k < (ftags f).length by rw [ftags_len]; exact hlt)]
        simp [u64s, ftags]
      generalize (f.toL[k]'hkt).tag = t at *
      have hwz := hb.size
      clear hb hkt
      go_wp2_with (at_builtin; go_must (refine wpList_append_own _ rfl _ _ 40 rfl w.heap.size 39 i0 (.int .u64 0) 1 8 Tryd.underlying40 hi0 hz0 hz1 hz2 rfl (by decide) _ _ _ rfl (HO.out.alloc _) ⟨wr.heap.size, 0, none⟩ 1 1 [.int .u64 (t : Int)] rfl rfl (one_new _ _ _) (one_cell_int _ _) (by unfold maxLen; omega) (by omega) (by simp; omega) ?_); intro v1 w2 hown2 hg2 _)
      go_roundg (f.len - (k + 1))
      case measure => omega
      case rel =>
        refine ⟨k + 1, by omega, Nat.le_refl _, by go_num, ?_, below_append (ba HB.out _) (HO.out.alloc _) hg2⟩
        show World.ownsRow _ _ _ _ _ _ _
        rw [HTK.out]
        exact hown2
    · obtain rfl : k = f.len := by omega
      have ho := HO.out
      rw [List.take_of_length_le (by rw [ftags_len]; exact Nat.le_refl _)] at ho
      obtain ⟨A2, c2, rfl, hrd, hn, _⟩ := PM.Rd.own ho
      have HE := Lib.hid (And.intro hrd hn)
      clear ho hrd hn hb HO
      go_wp2_with fail
      go_ret
      exact ⟨A2, c2, rfl, HE.out.1, HE.out.2, HB.out⟩
theorem exam10 : fmerge [fnum 1 0 (fnum 3 0 .nil), fnum 2 0 .nil] = (fnum 1 0 (fnum 2 0 (fnum 3 0 .nil)), 0) := rfl
theorem exam10_kd : ∀ f ∈ [fnum 1 0 (fnum 3 0 .nil), fnum 2 0 .nil], f.All FKd := by
  intro f hf
  simp only [List.mem_cons, List.not_mem_nil, or_false] at hf
  rcases hf with rfl | rfl
  · exact ⟨⟨by unfold In64; omega, by unfold InI64; omega, by unfold In64; omega, by decide⟩, trivial, ⟨by unfold In64; omega, by unfold InI64; omega, by unfold In64; omega, by decide⟩, trivial, trivial⟩
  · exact ⟨⟨by unfold In64; omega, by unfold InI64; omega, by unfold In64; omega, by decide⟩, trivial, trivial⟩
theorem awake10 (w : World) (hT : Tabs w) :
    Calls Tryd.prog 7 #[] w fun e w' => e = .returned (.bool true) ∧ Below w.heap.size w w' := by
  have hb1 : Below w.heap.size w w := b0
  have HA : Hid (∀ x : World, Below w.heap.size w x → Calls Tryd.prog 30 #[] x fun e w' => e = .returned (.bool true) ∧ Below x.heap.size x w') := fun x hx => awakeE09 x (hT.below hx)
  clear hT
  go_enter Tryd.func7, Tryd.ntmps7
  go_wp2_with fail
  refine (ofnum_any 1 0 _).mono ?_
  rintro e w2 ⟨rfl, hb2⟩
  replace hb1 := bb hb1 hb2
  clear hb2
  go_wp2_with fail
  refine (ofnum_any 3 0 _).mono ?_
  rintro e w3 ⟨rfl, hb2⟩
  replace hb1 := bb hb1 hb2
  clear hb2
  go_wp2_with fail
  refine (ofnum_any 2 0 _).mono ?_
  rintro e w4 ⟨rfl, hb4⟩
  have hx1 := (((BlkAt.made w3 47 #[.int .u64 1, .int .i64 0, .int .u64 0, .string ByteArray.empty, .slice none 0 0, .int .u64 3, .int .i64 0, .int .u64 0, .string ByteArray.empty, .slice none 0 0]).below hb4 (by simp)).more (.cells #[.int .u64 2, .int .i64 0, .int .u64 0, .string ByteArray.empty, .slice none 0 0] 47)).more (.cells #[.slice (some ⟨w3.heap.size, 0, none⟩) 2 2, .slice (some ⟨w4.heap.size, 0, none⟩) 1 1] 28)
  have hx2 := (BlkAt.made w4 47 #[.int .u64 2, .int .i64 0, .int .u64 0, .string ByteArray.empty, .slice none 0 0]).more (.cells #[.slice (some ⟨w3.heap.size, 0, none⟩) 2 2, .slice (some ⟨w4.heap.size, 0, none⟩) 1 1] 28)
  have hx3 := BlkAt.made (w4.alloc (.cells #[.int .u64 2, .int .i64 0, .int .u64 0, .string ByteArray.empty, .slice none 0 0] 47)) 28 #[.slice (some ⟨w3.heap.size, 0, none⟩) 2 2, .slice (some ⟨w4.heap.size, 0, none⟩) 1 1]
  rw [World.size_alloc] at hx3
  have hs1 : SlV ((w4.alloc (.cells #[.int .u64 2, .int .i64 0, .int .u64 0, .string ByteArray.empty, .slice none 0 0] 47)).alloc (.cells #[.slice (some ⟨w3.heap.size, 0, none⟩) 2 2, .slice (some ⟨w4.heap.size, 0, none⟩) 1 1] 28)) (fun _ => True) (.slice (some ⟨w3.heap.size, 0, none⟩) 2 2) (fnum 1 0 (fnum 3 0 .nil)) := slv_blk (f := (fnum 1 0 (fnum 3 0 .nil))) hx1 ⟨rfl, rfl, rfl, rfl, SlV.nil _ _ _ _, rfl, rfl, rfl, rfl, SlV.nil _ _ _ _, trivial⟩ trivial (Nat.le_refl 2)
  have hs2 : SlV ((w4.alloc (.cells #[.int .u64 2, .int .i64 0, .int .u64 0, .string ByteArray.empty, .slice none 0 0] 47)).alloc (.cells #[.slice (some ⟨w3.heap.size, 0, none⟩) 2 2, .slice (some ⟨w4.heap.size, 0, none⟩) 1 1] 28)) (fun _ => True) (.slice (some ⟨w4.heap.size, 0, none⟩) 1 1) (fnum 2 0 .nil) := slv_blk (f := (fnum 2 0 .nil)) hx2 ⟨rfl, rfl, rfl, rfl, SlV.nil _ _ _ _, trivial⟩ trivial (Nat.le_refl 1)
  have hm := merge_any (some ⟨w4.heap.size + 1, 0, none⟩) 2 [(fnum 1 0 (fnum 3 0 .nil)), (fnum 2 0 .nil)] [.slice (some ⟨w3.heap.size, 0, none⟩) 2 2, .slice (some ⟨w4.heap.size, 0, none⟩) 1 1] (fun _ => True) ((w4.alloc (.cells #[.int .u64 2, .int .i64 0, .int .u64 0, .string ByteArray.empty, .slice none 0 0] 47)).alloc (.cells #[.slice (some ⟨w3.heap.size, 0, none⟩) 2 2, .slice (some ⟨w4.heap.size, 0, none⟩) 1 1] 28))
    (.inr ⟨_, 0, rfl, hx3.lt, fun j u hj => by rw [Nat.zero_add, hx3.cell j, ← Array.getElem?_toList]; exact hj⟩) ⟨hs1, hs2, trivial⟩
    exam10_kd (by decide) (by decide)
  rw [exam10] at hm
  have HM : Hid (Calls Tryd.prog 11 #[.slice (some ⟨w4.heap.size + 1, 0, none⟩) 2 2] ((w4.alloc (.cells #[.int .u64 2, .int .i64 0, .int .u64 0, .string ByteArray.empty, .slice none 0 0] 47)).alloc (.cells #[.slice (some ⟨w3.heap.size, 0, none⟩) 2 2, .slice (some ⟨w4.heap.size, 0, none⟩) 1 1] 28)) fun e w' => ∃ (A : Option Addr) (c : Nat), e = .returned (.tuple #[.slice A 3 c, .int .i64 0]) ∧ SlV w' (fun _ => True) (.slice A 3 c) (fnum 1 0 (fnum 2 0 (fnum 3 0 .nil))) ∧ Below w4.heap.size w4 w') := hm.mono fun e w' h => by
    obtain ⟨A, c, he, hs, hb⟩ := h
    exact ⟨A, c, he, hs.imp fun _ _ => trivial, bb (ba (ba b0 _) _) hb⟩
  replace hb1 := bb hb1 (bb (ba b0 _) hb4)
  clear hx1 hx2 hx3 hs1 hs2 hm hb4
  go_wp2_with fail
  refine HM.out.mono ?_
  rintro e w5 ⟨A5, c5, rfl, hs5, hb5⟩
  replace hb1 := bb hb1 hb5
  have HS5 := Lib.hid hs5
  clear HM hs5 hb5
  go_wp2_with fail
  refine (HA.out _ hb1).mono ?_
  rintro e w6 ⟨rfl, hb6⟩
  replace hb1 := bb hb1 hb6
  have HTG : Hid (Calls Tryd.prog 20 #[.slice A5 3 c5] w6 fun e w' => ∃ (A' : Option Addr) (c' : Nat), e = .returned (.slice A' 3 c') ∧ PM.Rd w' A' (u64s [1, 2, 3]) ∧ 3 ≤ c' ∧ Below w6.heap.size w6 w') := tags_any A5 c5 (fnum 1 0 (fnum 2 0 (fnum 3 0 .nil))) _ w6 (HS5.out.below hb6) (by decide)
  clear hb6
  go_wp2_with fail
  refine HTG.out.mono ?_
  rintro e w7 ⟨A7, c7, rfl, hr7, hc7, hb7⟩
  replace hb1 := bb hb1 hb7
  have hx7 := BlkAt.made w7 39 #[.int .u64 1, .int .u64 2, .int .u64 3]
  have HEQ : Hid (Calls Tryd.prog 19 #[.slice A7 3 c7, .slice (some ⟨w7.heap.size, 0, none⟩) 3 3] (w7.alloc (.cells #[.int .u64 1, .int .u64 2, .int .u64 3] 39)) fun e w' => e = .returned (.bool true) ∧ Below w7.heap.size w7 w') :=
    (equ64 A7 (some ⟨w7.heap.size, 0, none⟩) c7 3 [1, 2, 3] (w7.alloc (.cells #[.int .u64 1, .int .u64 2, .int .u64 3] 39)) (hr7.below (ba b0 _)) (.inr ⟨_, 0, rfl, hx7.lt, fun j u hj => by rw [Nat.zero_add, hx7.cell j, ← Array.getElem?_toList]; exact hj⟩) (by decide)).mono fun e w' h => ⟨h.1, bb (ba b0 _) h.2⟩
  clear hr7 hb7 hx7 HTG
  go_wp2_with fail
  refine HEQ.out.mono ?_
  rintro e w8 ⟨rfl, hb8⟩
  replace hb1 := bb hb1 hb8
  clear hb8
  go_wp2
  go_ret
  exact ⟨rfl, hb1⟩
theorem awakeE10 (w : World) (hT : Tabs w) : Calls Tryd.prog 40 #[] w fun e w' => e = .returned (.bool true) ∧ Below w.heap.size w w' := by
  have H := Lib.hid (awake10 w hT)
  clear hT
  go_enter Tryd.func40, Tryd.ntmps40
  go_wp2_with fail
  refine H.out.mono ?_
  rintro e w' ⟨rfl, hb⟩
  go_wp2
  go_ret
  exact ⟨rfl, hb⟩
end Go.Proofs.YtigbifiicbghpaaDoor
end

section
/-
  The walk of the statement FieldRests. Conditions: numbers within their kinds; Go's tables of UTF-8 lie in memory.
-/
namespace Go.PM
open Go.RowKit
theorem own_slv2 {w : World} {base : Nat} {e : TypeId} {v : Value} {xs : List Value} {f : Fs} {J : Nat → Prop} (h : w.ownsRow base e 5 v f.len xs) (hc : Cls w J xs f) : ∃ A c, v = .slice A f.len c ∧ SlV w (fun _ => True) (.slice A f.len c) f := by
  rcases h.2 with ⟨rfl, h0⟩ | ⟨g, cap, cur, rfl, hb, hg, hn, _⟩
  · have := Fs.len_zero h0
    subst this
    exact ⟨none, 0, rfl, SlV.nil _ _ _ _⟩
  · refine ⟨some ⟨g, 0, none⟩, cap, rfl, some ⟨g, 0, none⟩, cap, rfl, hn, .inr ⟨g, 0, rfl, trivial, (Array.getElem?_eq_some_iff.1 hg).1, (hc.imp fun _ _ => trivial).at_ fun j u hj => ?_⟩⟩
    have := h.cells (g := g) rfl j u hj
    rwa [add_at, ← Nat.zero_add j] at this
end Go.PM
namespace Go.Proofs.YtigbifiicbghpaaDoor
open Go.RowKit Go.PM
set_option maxRecDepth 100000
set_option maxHeartbeats 4000000
attribute [local go_sem ↓] Go.wp_at_zero Go.wp_at_succ

end Go.Proofs.YtigbifiicbghpaaDoor
end

section
/-
  Layer 10: the document's way to bring lists together, walked. Conditions: fields whose numbers are within their kinds; at most a million fields.
-/
namespace Go.PM
section
variable {X : Type} (key : X → Nat)
theorem kfold_snoc (x : X) : ∀ (l acc : List X), kfold key acc (l ++ [x]) = kins key x (kfold key acc l)
  | [], acc => rfl
  | y :: r, acc => by rw [List.cons_append, kfold, kfold, kfold_snoc x r]
theorem ksort_snoc (l : List X) (x : X) : ksort key (l ++ [x]) = kins key x (ksort key l) := kfold_snoc key x l []
theorem ksort_len (l : List X) : (ksort key l).length = l.length := (ksort_perm key l).length_eq
/-- Put behind all of a lesser key, ahead of one of a greater key. -/
theorem kput {l : List X} {x : X} {a : Nat} (hn : (l.map key).Nodup) (ha : a ≤ (ksort key l).length) (h1 : ∀ j (h : j < (ksort key l).length), j < a → key (ksort key l)[j] < key x) (h2 : ∀ h : a < (ksort key l).length, key x < key (ksort key l)[a]) :
    ksort key (l ++ [x]) = (ksort key l).take a ++ x :: (ksort key l).drop a ∧ ((l ++ [x]).map key).Nodup := by
  have e : ksort key (l ++ [x]) = (ksort key l).take a ++ x :: (ksort key l).drop a := by
    rw [ksort_snoc]
    exact kins_at key x _ a ha h1 fun h => by have := h2 h; omega
  refine ⟨e, ?_⟩
  have hr := krise_of key (ksort_le key l) (((ksort_perm key l).symm.map key).nodup hn)
  generalize hS : ksort key l = S at *
  have hp : (l ++ [x]).Perm (S.take a ++ x :: S.drop a) := by rw [← e]; exact (ksort_perm key _).symm
  refine (hp.symm.map key).nodup (krise_nodup key ?_)
  rw [List.pairwise_iff_getElem] at hr
  rw [List.pairwise_append]
  refine ⟨?_, ?_, ?_⟩
  · rw [List.pairwise_iff_getElem]
    intro i j hi hj hij
    rw [List.getElem_take, List.getElem_take]
    exact hr i j (by simp at hi; omega) (by simp at hj; omega) hij
  · rw [List.pairwise_cons]
    refine ⟨fun b hb => ?_, ?_⟩
    · obtain ⟨i, hi, rfl⟩ := List.getElem_of_mem hb
      rw [List.getElem_drop]
      rw [List.length_drop] at hi
      have h3 := h2 (by omega)
      by_cases h0 : i = 0
      · subst h0; exact h3
      · have := hr a (a + i) (by omega) (by omega) (by omega); omega
    · rw [List.pairwise_iff_getElem]
      intro i j hi hj hij
      rw [List.getElem_drop, List.getElem_drop]
      rw [List.length_drop] at hi hj
      exact hr (a + i) (a + j) (by omega) (by omega) (by omega)
  · intro b hb c hc
    obtain ⟨i, hi, rfl⟩ := List.getElem_of_mem hb
    rw [List.getElem_take]
    rw [List.length_take] at hi
    have h3 := h1 i (by omega) (by omega)
    rcases List.mem_cons.1 hc with rfl | hc
    · exact h3
    · obtain ⟨j, hj, rfl⟩ := List.getElem_of_mem hc
      rw [List.getElem_drop]
      rw [List.length_drop] at hj
      exact hr i (a + j) (by omega) (by omega) (by omega)
theorem kdup {l rest : List X} {x : X} {a : Nat} (ha : a < (ksort key l).length) (he : key (ksort key l)[a] = key x) : ¬ ((l ++ x :: rest).map key).Nodup := fun hn => by
  rw [List.map_append, List.nodup_append] at hn
  have hm : (ksort key l)[a] ∈ l := (ksort_perm key l).mem_iff.1 (List.getElem_mem ha)
  exact hn.2.2 _ (List.mem_map_of_mem hm) (key x) (by simp) he
end
end Go.PM
namespace Go.Proofs.YtigbifiicbghpaaDoor
open Go.RowKit Go.PM
set_option maxRecDepth 100000
set_option maxHeartbeats 4000000
attribute [local go_sem ↓] Go.wp_at_zero Go.wp_at_succ

/-- What has been put so far. -/
def RMAt (w : World) (done : List Fl) (vo : Value) (wr : World) : Prop :=
  ∃ (A : Option Addr) (c : Nat) (xs : List Value), vo = .slice A done.length c ∧ wr.ownsRow w.heap.size 51 5 (.slice A done.length c) done.length xs ∧ Cls wr (fun q => (Value.slice A done.length c).ownBlock ≠ some q) xs (ofL (ksort Fl.tag done)) ∧ (done.map Fl.tag).Nodup ∧ Below w.heap.size w wr
/-- The end of the document's Merge. -/
def RMergeEnd (w : World) (r : Fs × Nat) (e : Ending) (w' : World) : Prop :=
  ∃ (A : Option Addr) (c : Nat), e = .returned (.tuple #[.slice A r.1.len c, .int .i64 (r.2 : Int)]) ∧ SlV w' (fun _ => True) (.slice A r.1.len c) r.1 ∧ Below w.heap.size w w'
theorem fbad_take {l : List Fs} (k : Nat) (h : fbad l = 0) : fbad (l.take k) = 0 := by
  by_cases h0 : fbad (l.take k) = 0
  · exact h0
  · have := fbad_app (l.drop k) (l.take k) h0
    rw [List.take_append_drop, h] at this
    exact absurd this.symm h0
theorem rmerge_any (A : Option Addr) (cap : Nat) (fs : List Fs) (vs : List Value) (I : Nat → Prop) (w : World) (hr : PM.Rd w A vs) (hv : LsV w I vs fs) (hk : ∀ f ∈ fs, f.All FKd) (hc : (fcat fs).count ≤ 1000000) (hl : fs.length ≤ 1000000) :
    Calls Tryd.prog 12 #[.slice A fs.length cap] w (RMergeEnd w (fmerge fs)) := by
  have HR := Lib.hid hr
  have HV := Lib.hid hv
  have hvl := hv.len
  have HK := Lib.hid hk
  have HC := Lib.hid hc
  clear hr hv hk
  go_enter Tryd.func12, Tryd.ntmps12
  go_wp2_with fail
  go_loopg [16] fs.length (fun gk ki wr => ∃ k : Nat, k ≤ fs.length ∧ fs.length - k ≤ gk ∧ ki = .int .i64 (k : Int) ∧ fbad (fs.take k) = 0 ∧ Below w.heap.size w wr)
  case atStart => exact ⟨0, Nat.zero_le _, by omega, rfl, rfl, b0⟩
  case round =>
    obtain ⟨k, hkl, hgk, rfl, hbad, hb⟩ := hrel
    have HB := Lib.hid hb
    by_cases hlt : k < fs.length
    · obtain ⟨b, off, rfl, hbl, hcell⟩ := (HR.out.below hb).at_ (k := k) (by omega)
      have hsk := (HV.out.at_ k (by omega) hlt).below hb
      obtain ⟨B, cB, hveq, _⟩ := id hsk
      rw [hveq] at hcell hsk
      have hcnt := fcat_count_le fs k hlt
      have HS := Lib.hid hsk
      have HKK := Lib.hid (HK.out _ (List.getElem_mem hlt))
      have HFB : Hid (fbad (fs.take (k + 1)) = fcheck fs[k] 0 0) := by
        show _ = _
        rw [← List.take_append_getElem hlt, fbad_snoc, if_neg (by simpa using hbad)]
      have HFE : Hid (fcheck fs[k] 0 0 ≠ 0 → fmerge fs = (.nil, fcheck fs[k] 0 0)) := fun h => by
        have := fbad_at hlt hbad h
        unfold fmerge
        rw [this, if_pos h]
      have hcC := HC.out
      generalize fs[k] = g at *
      have hgc : g.count ≤ 1000000 := by omega
      clear hb hsk hveq hcnt
      have HCK := Lib.hid (rcheck_any8 g.count B cB g _ 0 wr (Nat.le_refl _) HS.out HKK.out hgc (.inl (by omega)))
      go_wp2_with fail
      refine HCK.out.mono ?_
      rintro e w2 ⟨rfl, hb2⟩
      have HB2 := Lib.hid hb2
      clear hb2 HCK
      by_cases hck : fcheck g 0 0 = 0
      · have HN : Hid (fbad (fs.take (k + 1)) = 0) := by have := HFB.out; rw [hck] at this; exact this
        rw [hck]
        clear hck HFB HFE
        go_wp2_with fail
        go_roundg (fs.length - (k + 1))
        case measure => omega
        case rel => exact ⟨k + 1, by omega, Nat.le_refl _, by go_num, HN.out, bb HB.out HB2.out⟩
      · have HE : Hid (∀ w', Below w2.heap.size w2 w' → RMergeEnd w (fmerge fs) (.returned (.tuple #[.slice none 0 0, .int .i64 (fcheck g 0 0 : Int)])) w') := fun w' hb => by
          rw [HFE.out hck]
          exact ⟨none, 0, rfl, SlV.nil _ _ _ _, bb (bb HB.out HB2.out) hb⟩
        generalize fcheck g 0 0 = G at *
        have hgi : ((G : Int) != 0) = true := by rw [bne_iff_ne]; omega
        clear hck HFB HFE
        go_wp2_with fail
        go_ret2
        exact HE.out _ b0
    · obtain rfl : k = fs.length := by omega
      rw [List.take_of_length_le (Nat.le_refl _)] at hbad
      have HFM : Hid (fmerge fs = fmrg (fcat fs)) := by unfold fmerge; rw [hbad]; rfl
      have H0 : Hid (RMAt w [] (.slice none 0 0) wr) := ⟨none, 0, [], rfl, World.ownsRow_nil _ _ _ _, trivial, List.nodup_nil, hb⟩
      clear hbad hb hgk hkl hlt
      go_wp2_with fail
      go_loopg [7, 28] fs.length (fun gk1 vo ki wr => ∃ k : Nat, k ≤ fs.length ∧ fs.length - k ≤ gk1 ∧ ki = .int .i64 (k : Int) ∧ Hid (RMAt w (fcat (fs.take k)).toL vo wr))
      case atStart => exact ⟨0, Nat.zero_le _, by omega, rfl, H0⟩
      case round =>
        obtain ⟨k, hkl, hgk1, rfl, HM⟩ := hrel
        obtain ⟨G1, hG1⟩ : ∃ G1, G1 = gk := ⟨_, rfl⟩
        by_cases hlt : k < fs.length
        · have hb : Below w.heap.size w wr := by obtain ⟨_, _, _, _, _, _, _, h⟩ := HM.out; exact h
          obtain ⟨b, off, rfl, hbl, hcell⟩ := (HR.out.below hb).at_ (k := k) (by omega)
          have hsk := HV.out.at_ k (by omega) hlt
          obtain ⟨B, cB, hveq, _⟩ := id hsk
          rw [hveq] at hcell hsk
          have HS := Lib.hid hsk
          have HN1 : Hid ((fcat (fs.take (k + 1))).toL = (fcat (fs.take k)).toL ++ fs[k].toL ∧ ∃ r, (fcat fs).toL = ((fcat (fs.take k)).toL ++ fs[k].toL) ++ r) := by
            refine ⟨by rw [← List.take_append_getElem hlt, fcat_snoc, toL_app], (fcat (fs.drop (k + 1))).toL, ?_⟩
            rw [← toL_app, ← fcat_snoc, List.take_append_getElem, ← toL_app, ← fcat_app, List.take_append_drop]
          have hff := Nat.le_trans (fcat fs).len_count HC.out
          have H0 : Hid (RMAt w ((fcat (fs.take k)).toL ++ fs[k].toL.take 0) u7 wr) := by rw [List.take_zero, List.append_nil]; exact HM.out
          generalize fs[k] = f at *
          generalize (fcat (fs.take k)).toL = D at *
          have hfl : f.len ≤ 1000000 := by
            obtain ⟨r, hr⟩ := HN1.out.2
            have := congrArg List.length hr
            simp only [List.length_append, toL_len] at this
            omega
          clear hb hsk hveq HM
          go_wp2_with fail
          go_loopg [7, 34] f.len (fun gk2 vo ji wr => ∃ j : Nat, j ≤ f.len ∧ f.len - j ≤ gk2 ∧ ji = .int .i64 (j : Int) ∧ Hid (RMAt w (D ++ f.toL.take j) vo wr))
          case atStart => exact ⟨0, Nat.zero_le _, by omega, rfl, H0⟩
          case round =>
            obtain ⟨j, hjl, hgk2, rfl, HM⟩ := hrel
            obtain ⟨G2, hG2⟩ : ∃ G2, G2 = gk := ⟨_, rfl⟩
            by_cases hjt : j < f.len
            · obtain ⟨A1, c1, xs, rfl, hown, hcls, hnd, hb⟩ := HM.out
              obtain ⟨t, y, n, s, i, hdc, _⟩ := f.drop_cons j hjt
              obtain ⟨B', cB', hv', hcB, hor⟩ := HS.out.below hb
              injection hv' with q1 q2 q3
              subst q1 q3
              rcases hor with h0 | ⟨bf, off2, rfl, _, hbf, hat⟩
              · omega
              have hak := hat.drop j
              rw [hdc] at hak
              obtain ⟨d0, d1, d2, d3, ⟨Ai, ci, d4, hci, hin⟩, _⟩ := hak
              have hsi : SlV wr (fun _ => True) (.slice Ai i.len ci) i := (show SlV wr I (.slice Ai i.len ci) i from ⟨Ai, ci, rfl, hci, hin⟩).imp fun _ _ => trivial
              have htd := toL_drop hdc
              rw [List.getElem?_eq_getElem (by rw [toL_len]; exact hjt)] at htd
              injection htd with htd
              have hd1 : D ++ f.toL.take (j + 1) = (D ++ f.toL.take j) ++ [⟨t, y, n, s, i⟩] := by
                rw [← List.take_append_getElem (show j < f.toL.length by rw [toL_len]; exact hjt), htd, List.append_assoc]
              have hd2 : ∃ r, (fcat fs).toL = (D ++ f.toL.take j) ++ ⟨t, y, n, s, i⟩ :: r := by
                obtain ⟨r, hr⟩ := HN1.out.2
                refine ⟨f.toL.drop (j + 1) ++ r, ?_⟩
                rw [hr]
                have : f.toL = f.toL.take j ++ ⟨t, y, n, s, i⟩ :: f.toL.drop (j + 1) := by
                  rw [← htd, ← List.drop_eq_getElem_cons, List.take_append_drop]
                conv => lhs; rw [this]
                simp
              have HD1 := Lib.hid hd1
              have HD2 := Lib.hid hd2
              have hL1 : (D ++ f.toL.take j).length + 1 ≤ 1000000 := by
                obtain ⟨r, hr⟩ := hd2
                have := congrArg List.length hr
                simp only [List.length_append, List.length_cons, toL_len] at this ⊢
                omega
              clear hat hin hdc htd hd1 hd2
              generalize D ++ f.toL.take j = done at *
              have hSl := ksort_len Fl.tag done
              obtain ⟨L, hL⟩ : ∃ L, L = done.length := ⟨_, rfl⟩
              have HLd := Lib.hid hL
              rw [← hL] at hown hcls hSl hL1 ⊢
              have heL : (ofL (ksort Fl.tag done)).len = L := by rw [ofL_len, hSl]
              have hcLc : L ≤ c1 := by
                rcases hown.2 with ⟨h, h'⟩ | ⟨g', cap', cur, hv, _, _, hn, _⟩
                · omega
                · injection hv with h1 h2 h3
                  omega
              have HOWN := Lib.hid hown
              have HCLS := Lib.hid hcls
              have HND := Lib.hid hnd
              have HB := Lib.hid hb
              have HSI := Lib.hid hsi
              have HPUT : Hid (∀ a, a ≤ L → (∀ q (h : q < (ksort Fl.tag done).length), q < a → (ksort Fl.tag done)[q].tag < t) → (∀ h : a < (ksort Fl.tag done).length, t < (ksort Fl.tag done)[a].tag) →
                  ksort Fl.tag (done ++ [(⟨t, y, n, s, i⟩ : Fl)]) = (ksort Fl.tag done).take a ++ ⟨t, y, n, s, i⟩ :: (ksort Fl.tag done).drop a ∧ ((done ++ [(⟨t, y, n, s, i⟩ : Fl)]).map Fl.tag).Nodup) := fun a h1 h2 h3 => kput Fl.tag (l := done) (x := (⟨t, y, n, s, i⟩ : Fl)) (a := a) hnd (by rw [ksort_len, ← hL]; exact h1) h2 h3
              have HDUP : Hid (∀ a (h : a < (ksort Fl.tag done).length), (ksort Fl.tag done)[a].tag = t → fmerge fs = (.nil, 14)) := fun a h he => by
                obtain ⟨r, hr⟩ := HD2.out
                rw [HFM.out]
                unfold fmrg
                rw [hr, if_neg (kdup Fl.tag h he)]
              clear hown hcls hnd hb hsi hL
              generalize hSS : ksort Fl.tag done = S at *
              have HSS := Lib.hid hSS
              clear hSS
              have HSO : Hid (SlV wr (fun _ => True) (.slice A1 L c1) (ofL S)) := by
                have own' : wr.ownsRow w.heap.size 51 5 (.slice A1 (ofL S).len c1) (ofL S).len xs := by rw [heL]; exact HOWN.out
                obtain ⟨A9, c9, hv9, hs9⟩ := own_slv2 own' HCLS.out
                injection hv9 with h1 h2 h3
                subst h1 h3
                rw [heL] at hs9
                exact hs9
              go_wp2_with fail
              have hx := BlkAt.made wr 51 #[.int .u64 (t : Int), .int .i64 y, .int .u64 (n : Int), .string s, .slice Ai i.len ci]
              have hbb := ba (a := wr) b0 (.cells #[.int .u64 (t : Int), .int .i64 y, .int .u64 (n : Int), .string s, .slice Ai i.len ci] 51)
              have HWB : Hid (wr.heap.size < (wr.alloc (.cells #[.int .u64 (t : Int), .int .i64 y, .int .u64 (n : Int), .string s, .slice Ai i.len ci] 51)).heap.size) := by show _ < _; simp
              generalize wr.alloc (.cells #[.int .u64 (t : Int), .int .i64 y, .int .u64 (n : Int), .string s, .slice Ai i.len ci] 51) = wb at hx hbb HWB ⊢
              have HX := Lib.hid hx
              have HBB := Lib.hid hbb
              have e0 := hx.cell 0
              have e1 := hx.cell 1
              have e2 := hx.cell 2
              have e3 := hx.cell 3
              have e4 := hx.cell 4
              simp at e0 e1 e2 e3 e4
              clear hx hbb d0 d1 d2 d3 d4
              have HSB : Hid (∀ x : World, Below wb.heap.size wb x → SlV x (fun _ => True) (.slice A1 L c1) (ofL S) ∧ BlkAt x wr.heap.size 51 #[.int .u64 (t : Int), .int .i64 y, .int .u64 (n : Int), .string s, .slice Ai i.len ci] ∧ SlV x (fun _ => True) (.slice Ai i.len ci) i ∧ Below w.heap.size w x ∧ w.heap.size ≤ x.heap.size) := fun x hx => by
                have h1 := bb HBB.out hx
                have h2 := bb HB.out h1
                exact ⟨HSO.out.below h1, HX.out.below hx HX.out.lt, HSI.out.below h1, h2, h2.size⟩
              go_wp2_with fail
              go_loopg [12] L (fun gk3 ai w3 => ∃ a : Nat, a ≤ L ∧ L - a ≤ gk3 ∧ ai = .int .i64 (a : Int) ∧ Below wb.heap.size wb w3 ∧ Hid (∀ q (h : q < S.length), q < a → S[q].tag < t))
              case atStart => exact ⟨0, Nat.zero_le _, by omega, rfl, b0, fun q h h1 => by omega⟩
              case round =>
                obtain ⟨a, haL, hgk3, rfl, hb3, HLE⟩ := hrel
                obtain ⟨hso3, hx3, hsi3, hb03, hz3⟩ := HSB.out _ hb3
                have e0 := hx3.cell 0
                have e1 := hx3.cell 1
                have e2 := hx3.cell 2
                have e3 := hx3.cell 3
                have e4 := hx3.cell 4
                simp at e0 e1 e2 e3 e4
                by_cases hal : a < L
                · obtain ⟨g, o, rfl, hg, hca⟩ := slv_tag (f := ofL S) (by rw [heL]; exact hso3) a (by rw [heL]; exact hal)
                  simp only [toL_ofL] at hca
                  have hali : (a : Int) < (L : Int) := by omega
                  have hald : decide (a < L) = true := decide_eq_true hal
                  have haS : a < S.length := by rw [hSl]; exact hal
                  have HTA : Hid (∀ q (h : q < S.length), q < a + 1 → q < a ∨ S[q].tag = S[a].tag) := fun q h h1 => by
                    by_cases h2 : q < a
                    · exact .inl h2
                    · right
                      have : q = a := by omega
                      subst this
                      rfl
                  have HDA := Lib.hid (HDUP.out a haS)
                  have HGT : Hid (t < S[a].tag → ∀ h : a < S.length, t < S[a].tag) := fun h _ => h
                  generalize S[a].tag = ta at *
                  have HB3 := Lib.hid hb3
                  by_cases hlt2 : ta < t
                  · have hd3 : decide (ta < t) = true := decide_eq_true hlt2
                    have hi3 : (ta : Int) < (t : Int) := by omega
                    have HLE2 : Hid (∀ q (h : q < S.length), q < a + 1 → S[q].tag < t) := fun q h h1 => by
                      rcases HTA.out q h h1 with h2 | h2
                      · exact HLE.out q h h2
                      · omega
                    clear hb3 hso3 hx3 hsi3 hb03 HTA HDA HGT
                    go_wp2_with fail
                    go_quiet (fail)
                    go_wp2_with fail
                    go_roundg (L - (a + 1))
                    case measure => omega
                    case rel => exact ⟨a + 1, by omega, Nat.le_refl _, by go_num, bn HB3.out _, HLE2⟩
                  · have hd3 : decide (ta < t) = false := decide_eq_false hlt2
                    have hi3 : decide ((ta : Int) < (t : Int)) = false := decide_eq_false (by omega)
                    by_cases het : ta = t
                    · have hti : ((ta : Int) == (t : Int)) = true := by rw [beq_iff_eq]; omega
                      have HE : Hid (∀ w', Below w.heap.size w w' → RMergeEnd w (fmerge fs) (.returned (.tuple #[.slice none 0 0, .int .i64 14])) w') := fun w' hb => by
                        rw [HDA.out het]
                        exact ⟨none, 0, rfl, SlV.nil _ _ _ _, hb⟩
                      have HBW := Lib.hid (bb HB.out (bb HBB.out hb3))
                      clear hb3 hso3 hx3 hsi3 hb03 HTA HDA HGT het
                      go_wp2_with fail
                      go_quiet (fail)
                      go_wp2_with fail
                      go_quiet (fail)
                      go_wp2_with fail
                      go_ret2
                      exact HE.out _ (bn (bn HBW.out _) _)
                    · have hti : ((ta : Int) == (t : Int)) = false := by rw [beq_eq_false_iff_ne]; omega
                      have hGT := HGT.out (by omega)
                      have hac : (a : Int) ≤ (c1 : Int) := by omega
                      have hac2 : (a : Int) < (c1 : Int) := by omega
                      have hLc : (L : Int) ≤ (c1 : Int) := by omega
                      have haLi : (a : Int) ≤ (L : Int) := by omega
                      have HGT2 := Lib.hid hGT
                      clear hso3 hx3 hsi3 hb03 HTA HDA HGT het hGT
                      go_wp2_with fail
                      go_quiet (fail)
                      have hb5 : ∀ m, Below wb.heap.size wb (wr.drewN (nq + m)) := fun m => bn hb3 _
                      go_wp2_with fail
                      go_quiet (fail)
                      have hb6 := hb5 nq
                      have HINS : Hid (∀ W1 : World, Below wb.heap.size wb W1 → InsAt W1 S L a (L - a) c1 (c1 - a) t n y s i (some ⟨g, o, none⟩) (some ⟨g, o + a * 5, none⟩) Ai ci) := fun W1 hW => by
                        obtain ⟨hs9, _, hi9, _, _⟩ := HSB.out W1 hW
                        have hs8 : SlV W1 (fun _ => True) (.slice (some ⟨g, o, none⟩) (ofL S).len c1) (ofL S) := by rw [heL]; exact hs9
                        have ht8 := hs8.take a (by rw [heL]; exact haL)
                        rw [Fs.take_len _ _ (by rw [heL]; exact haL)] at ht8
                        exact ins_at hSl (by omega) ht8 (by have h5 := hs8.drop a (by rw [heL]; exact haL) (c1 - a) (by rw [heL]; omega); rw [Fs.drop_len, heL] at h5; exact h5) hi9 haL (by omega)
                      have HPUTa := Lib.hid (HPUT.out a haL HLE.out HGT2.out)
                      obtain ⟨A2, c2, W2, hr2, hbW2, A3, c3, W3, hr3, A4, c4, W4, xs4, hr4, own4, cls4, hbW4⟩ := HINS.out _ hb6
                      have HR2 := Lib.hid hr2
                      have HR3 := Lib.hid hr3
                      have HR4 := Lib.hid hr4
                      have HF4 := Lib.hid (And.intro own4 (And.intro cls4 (bb HBB.out (bb hb6 hbW4))))
                      have HBq := Lib.hid (bb HBB.out hb6)
                      obtain ⟨_, hx4, _, _, _⟩ := HSB.out W2 (bb hb6 hbW2)
                      have k0 := hx4.cell 0
                      have k1 := hx4.cell 1
                      have k2 := hx4.cell 2
                      have k3 := hx4.cell 3
                      have k4 := hx4.cell 4
                      simp at k0 k1 k2 k3 k4
                      clear HINS hr2 hbW2 hr3 hr4 own4 cls4 hbW4 hx4
                      go_wp2_with (at_builtin; go_must (first | (refine wpList_append_run rfl _ _ _ _ rfl _ _ _ rfl rfl HR2.out ?_; clear HR2) | (refine wpList_append_run rfl _ _ _ _ rfl _ _ _ rfl rfl HR3.out ?_; clear HR3) | (refine wpList_append_run rfl _ _ _ _ rfl _ _ _ rfl rfl HR4.out ?_; clear HR4)))
                      go_roundg (f.len - (j + 1))
                      case measure => omega
                      case rel =>
                        refine ⟨j + 1, by omega, Nat.le_refl _, by go_num, ?_⟩
                        have e9 : (done ++ [(⟨t, y, n, s, i⟩ : Fl)]).length = L + 1 := by rw [List.length_append, ← HLd.out]; rfl
                        show RMAt _ _ _ _
                        rw [HD1.out]
                        unfold RMAt
                        rw [e9, HPUTa.out.1]
                        have hq := HBq.out.size
                        exact ⟨A4, c4, xs4, rfl, own_base HF4.out.1 (Nat.le_trans HB.out.size hq), HF4.out.2.1, HPUTa.out.2, bb HB.out HF4.out.2.2⟩
                · obtain rfl : a = L := by omega
                  have hGT : ∀ h : a < S.length, t < S[a].tag := fun h => by omega
                  have HGT2 := Lib.hid hGT
                  have hald : decide (a < a) = false := decide_eq_false (by omega)
                  clear hso3 hx3 hsi3 hb03 hGT
                  cases A1 with
                  | none =>
                    obtain ⟨rfl, rfl⟩ : a = 0 ∧ c1 = 0 := by
                      rcases HOWN.out.2 with ⟨h, h'⟩ | ⟨g', cap', cur, hv, _, _, hn, _⟩
                      · injection h with h1 h2 h3
                        exact ⟨h2, h3⟩
                      · injection hv with h1
                        cases h1
                    go_wp2_with fail
                    go_quiet (fail)
                    have hb5 : ∀ m, Below wb.heap.size wb (wr.drewN (nq + m)) := fun m => bn hb3 _
                    go_wp2_with fail
                    go_quiet (fail)
                    have hb6 := hb5 nq
                    have HINS : Hid (∀ W1 : World, Below wb.heap.size wb W1 → InsAt W1 S 0 0 0 0 0 t n y s i (none) (none) Ai ci) := fun W1 hW => by
                      obtain ⟨hs9, _, hi9, _, _⟩ := HSB.out W1 hW
                      have hs8 : SlV W1 (fun _ => True) (.slice none (ofL S).len 0) (ofL S) := by rw [heL]; exact hs9
                      have ht8 := hs8.take 0 (by rw [heL]; exact (Nat.le_refl _))
                      rw [Fs.take_len _ _ (by rw [heL]; exact (Nat.le_refl _))] at ht8
                      exact ins_at hSl (by omega) (by cases h7 : ofL S <;> exact SlV.nil _ _ _ _) (by have h7 := Fs.len_zero heL; rw [h7]; exact SlV.nil _ _ _ _) hi9 (Nat.le_refl _) (by omega)
                    have HPUTa := Lib.hid (HPUT.out 0 (Nat.le_refl _) HLE.out HGT2.out)
                    obtain ⟨A2, c2, W2, hr2, hbW2, A3, c3, W3, hr3, A4, c4, W4, xs4, hr4, own4, cls4, hbW4⟩ := HINS.out _ hb6
                    have HR2 := Lib.hid hr2
                    have HR3 := Lib.hid hr3
                    have HR4 := Lib.hid hr4
                    have HF4 := Lib.hid (And.intro own4 (And.intro cls4 (bb HBB.out (bb hb6 hbW4))))
                    have HBq := Lib.hid (bb HBB.out hb6)
                    obtain ⟨_, hx4, _, _, _⟩ := HSB.out W2 (bb hb6 hbW2)
                    have k0 := hx4.cell 0
                    have k1 := hx4.cell 1
                    have k2 := hx4.cell 2
                    have k3 := hx4.cell 3
                    have k4 := hx4.cell 4
                    simp at k0 k1 k2 k3 k4
                    clear HINS hr2 hbW2 hr3 hr4 own4 cls4 hbW4 hx4
                    go_wp2_with (at_builtin; go_must (first | (refine wpList_append_run rfl _ _ _ _ rfl _ _ _ rfl rfl HR2.out ?_; clear HR2) | (refine wpList_append_run rfl _ _ _ _ rfl _ _ _ rfl rfl HR3.out ?_; clear HR3) | (refine wpList_append_run rfl _ _ _ _ rfl _ _ _ rfl rfl HR4.out ?_; clear HR4)))
                    go_roundg (f.len - (j + 1))
                    case measure => omega
                    case rel =>
                      refine ⟨j + 1, by omega, Nat.le_refl _, by go_num, ?_⟩
                      have e9 : (done ++ [(⟨t, y, n, s, i⟩ : Fl)]).length = 0 + 1 := by rw [List.length_append, ← HLd.out]; rfl
                      show RMAt _ _ _ _
                      rw [HD1.out]
                      unfold RMAt
                      rw [e9, HPUTa.out.1]
                      have hq := HBq.out.size
                      exact ⟨A4, c4, xs4, rfl, own_base HF4.out.1 (Nat.le_trans HB.out.size hq), HF4.out.2.1, HPUTa.out.2, bb HB.out HF4.out.2.2⟩
                  | some g0 =>
                    obtain ⟨g, o, rfl⟩ : ∃ g o, g0 = ⟨g, o, none⟩ := by
                      rcases HOWN.out.2 with ⟨h, h'⟩ | ⟨g', cap', cur, hv, _, _, hn, _⟩
                      · cases h
                      · injection hv with h1
                        injection h1 with h1
                        exact ⟨g', 0, h1⟩
                    have hac : (a : Int) ≤ (c1 : Int) := by omega
                    by_cases hcap : a = c1
                    · subst hcap
                      have hcn : (0 : Int) ≤ (a : Int) := by omega
                      go_wp2_with fail
                      go_quiet (fail)
                      have hb5 : ∀ m, Below wb.heap.size wb (wr.drewN (nq + m)) := fun m => bn hb3 _
                      go_wp2_with fail
                      go_quiet (fail)
                      have hb6 := hb5 nq
                      have HINS : Hid (∀ W1 : World, Below wb.heap.size wb W1 → InsAt W1 S a a 0 a 0 t n y s i (some ⟨g, o, none⟩) (some ⟨g, o, none⟩) Ai ci) := fun W1 hW => by
                        obtain ⟨hs9, _, hi9, _, _⟩ := HSB.out W1 hW
                        have hs8 : SlV W1 (fun _ => True) (.slice (some ⟨g, o, none⟩) (ofL S).len a) (ofL S) := by rw [heL]; exact hs9
                        have ht8 := hs8.take a (by rw [heL]; exact (Nat.le_refl _))
                        rw [Fs.take_len _ _ (by rw [heL]; exact (Nat.le_refl _))] at ht8
                        exact ins_at hSl (by omega) ht8 (by have h7 : ((ofL S).drop a) = .nil := Fs.len_zero (by rw [Fs.drop_len, heL]; omega); rw [h7]; exact SlV.nil _ _ _ _) hi9 (Nat.le_refl _) (by omega)
                      have HPUTa := Lib.hid (HPUT.out a (Nat.le_refl _) HLE.out HGT2.out)
                      obtain ⟨A2, c2, W2, hr2, hbW2, A3, c3, W3, hr3, A4, c4, W4, xs4, hr4, own4, cls4, hbW4⟩ := HINS.out _ hb6
                      have HR2 := Lib.hid hr2
                      have HR3 := Lib.hid hr3
                      have HR4 := Lib.hid hr4
                      have HF4 := Lib.hid (And.intro own4 (And.intro cls4 (bb HBB.out (bb hb6 hbW4))))
                      have HBq := Lib.hid (bb HBB.out hb6)
                      obtain ⟨_, hx4, _, _, _⟩ := HSB.out W2 (bb hb6 hbW2)
                      have k0 := hx4.cell 0
                      have k1 := hx4.cell 1
                      have k2 := hx4.cell 2
                      have k3 := hx4.cell 3
                      have k4 := hx4.cell 4
                      simp at k0 k1 k2 k3 k4
                      clear HINS hr2 hbW2 hr3 hr4 own4 cls4 hbW4 hx4
                      go_wp2_with (at_builtin; go_must (first | (refine wpList_append_run rfl _ _ _ _ rfl _ _ _ rfl rfl HR2.out ?_; clear HR2) | (refine wpList_append_run rfl _ _ _ _ rfl _ _ _ rfl rfl HR3.out ?_; clear HR3) | (refine wpList_append_run rfl _ _ _ _ rfl _ _ _ rfl rfl HR4.out ?_; clear HR4)))
                      go_roundg (f.len - (j + 1))
                      case measure => omega
                      case rel =>
                        refine ⟨j + 1, by omega, Nat.le_refl _, by go_num, ?_⟩
                        have e9 : (done ++ [(⟨t, y, n, s, i⟩ : Fl)]).length = a + 1 := by rw [List.length_append, ← HLd.out]; rfl
                        show RMAt _ _ _ _
                        rw [HD1.out]
                        unfold RMAt
                        rw [e9, HPUTa.out.1]
                        have hq := HBq.out.size
                        exact ⟨A4, c4, xs4, rfl, own_base HF4.out.1 (Nat.le_trans HB.out.size hq), HF4.out.2.1, HPUTa.out.2, bb HB.out HF4.out.2.2⟩
                    · have hac2 : (a : Int) < (c1 : Int) := by omega
                      go_wp2_with fail
                      go_quiet (fail)
                      have hb5 : ∀ m, Below wb.heap.size wb (wr.drewN (nq + m)) := fun m => bn hb3 _
                      go_wp2_with fail
                      go_quiet (fail)
                      have hb6 := hb5 nq
                      have HINS : Hid (∀ W1 : World, Below wb.heap.size wb W1 → InsAt W1 S a a 0 c1 (c1 - a) t n y s i (some ⟨g, o, none⟩) (some ⟨g, o + a * 5, none⟩) Ai ci) := fun W1 hW => by
                        obtain ⟨hs9, _, hi9, _, _⟩ := HSB.out W1 hW
                        have hs8 : SlV W1 (fun _ => True) (.slice (some ⟨g, o, none⟩) (ofL S).len c1) (ofL S) := by rw [heL]; exact hs9
                        have ht8 := hs8.take a (by rw [heL]; exact (Nat.le_refl _))
                        rw [Fs.take_len _ _ (by rw [heL]; exact (Nat.le_refl _))] at ht8
                        exact ins_at hSl (by omega) ht8 (by have h7 : ((ofL S).drop a) = .nil := Fs.len_zero (by rw [Fs.drop_len, heL]; omega); rw [h7]; exact SlV.nil _ _ _ _) hi9 (Nat.le_refl _) (by omega)
                      have HPUTa := Lib.hid (HPUT.out a (Nat.le_refl _) HLE.out HGT2.out)
                      obtain ⟨A2, c2, W2, hr2, hbW2, A3, c3, W3, hr3, A4, c4, W4, xs4, hr4, own4, cls4, hbW4⟩ := HINS.out _ hb6
                      have HR2 := Lib.hid hr2
                      have HR3 := Lib.hid hr3
                      have HR4 := Lib.hid hr4
                      have HF4 := Lib.hid (And.intro own4 (And.intro cls4 (bb HBB.out (bb hb6 hbW4))))
                      have HBq := Lib.hid (bb HBB.out hb6)
                      obtain ⟨_, hx4, _, _, _⟩ := HSB.out W2 (bb hb6 hbW2)
                      have k0 := hx4.cell 0
                      have k1 := hx4.cell 1
                      have k2 := hx4.cell 2
                      have k3 := hx4.cell 3
                      have k4 := hx4.cell 4
                      simp at k0 k1 k2 k3 k4
                      clear HINS hr2 hbW2 hr3 hr4 own4 cls4 hbW4 hx4
                      go_wp2_with (at_builtin; go_must (first | (refine wpList_append_run rfl _ _ _ _ rfl _ _ _ rfl rfl HR2.out ?_; clear HR2) | (refine wpList_append_run rfl _ _ _ _ rfl _ _ _ rfl rfl HR3.out ?_; clear HR3) | (refine wpList_append_run rfl _ _ _ _ rfl _ _ _ rfl rfl HR4.out ?_; clear HR4)))
                      go_roundg (f.len - (j + 1))
                      case measure => omega
                      case rel =>
                        refine ⟨j + 1, by omega, Nat.le_refl _, by go_num, ?_⟩
                        have e9 : (done ++ [(⟨t, y, n, s, i⟩ : Fl)]).length = a + 1 := by rw [List.length_append, ← HLd.out]; rfl
                        show RMAt _ _ _ _
                        rw [HD1.out]
                        unfold RMAt
                        rw [e9, HPUTa.out.1]
                        have hq := HBq.out.size
                        exact ⟨A4, c4, xs4, rfl, own_base HF4.out.1 (Nat.le_trans HB.out.size hq), HF4.out.2.1, HPUTa.out.2, bb HB.out HF4.out.2.2⟩
            · obtain rfl : j = f.len := by omega
              have HM2 : Hid (RMAt w (fcat (fs.take (k + 1))).toL u7 wr) := by
                have := HM.out
                rw [List.take_of_length_le (by rw [toL_len]; exact Nat.le_refl _)] at this
                rw [HN1.out.1]
                exact this
              clear HM HN1
              go_wp2_with fail
              go_roundg (fs.length - (k + 1))
              case measure => omega
              case rel => exact ⟨k + 1, by omega, Nat.le_refl _, by go_num, HM2⟩
        · obtain rfl : k = fs.length := by omega
          obtain ⟨A1, c1, xs, rfl, hown, hcls, hnd, hb⟩ := HM.out
          rw [List.take_of_length_le (Nat.le_refl _)] at hown hcls hnd ⊢
          have hl1 : (ofL (ksort Fl.tag (fcat fs).toL)).len = (fcat fs).toL.length := by rw [ofL_len, ksort_len]
          have hf : fmerge fs = (ofL (ksort Fl.tag (fcat fs).toL), 0) := by
            rw [HFM.out]
            unfold fmrg
            rw [if_pos hnd]
          rw [← hl1] at hown hcls ⊢
          obtain ⟨A9, c9, hv9, hs9⟩ := own_slv2 hown hcls
          injection hv9 with h1 h2 h3
          subst h1 h3
          have HE : Hid (RMergeEnd w (fmerge fs) (.returned (.tuple #[.slice A1 (ofL (ksort Fl.tag (fcat fs).toL)).len c1, .int .i64 0])) wr) := by
            rw [hf]
            exact ⟨A1, c1, rfl, hs9, hb⟩
          generalize (ofL (ksort Fl.tag (fcat fs).toL)).len = LL at *
          clear hown hcls hnd hb hs9 hl1 hf HM HFM
          go_wp2_with fail
          go_ret2
          exact HE.out
end Go.Proofs.YtigbifiicbghpaaDoor
end

section
/-
  The walk of the statement FieldTells. Conditions: numbers within their kinds; Go's tables of UTF-8 lie in memory.
-/
namespace Go.Proofs.YtigbifiicbghpaaDoor
open Go.RowKit Go.PM
set_option maxRecDepth 100000
set_option maxHeartbeats 4000000

end Go.Proofs.YtigbifiicbghpaaDoor
end
