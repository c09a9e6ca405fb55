/-
  Texts of the proof, joined: WireLaw Pick3 Entry2 Descr6 DescrLaw. Conditions: as each names.
-/
import Derived.Test.YtgbgbdocgpdkgaaGreatDoorBal
import Derived.Test.YtgbgbdocgpdkgaaGreatDoorBae
import Derived.Test.YtgbgbdocgpdkgaaGreatDoorBah
import Derived.Test.YtgbgbdocgpdkgaaGreatDoorBaf
import Derived.Shelf.SlicesE.Kit
import Derived.Deep.RegionHeld3
import Derived.Test.YtgbgbdocgpdkgaaGreatDoorBai

section
/-
  The walks of the statements of layer 9: the chapter's example; any fields as they are written. Conditions: numbers within their kinds; Go's tables of UTF-8 lie in memory.
-/
namespace Go.Proofs.YtgbgbdocgpdkgaaGreatDoor
open Go.RowKit Go.PM
set_option maxRecDepth 100000
set_option maxHeartbeats 1500000

theorem oftext_any (t : Nat) (s : ByteArray) (w : World) :
    Calls Tryz.prog 103 #[.int .u64 (t : Int), .string s] w fun e w' => e = .returned (.agg #[.int .u64 (t : Int), .int .i64 1, .int .u64 0, .string s, .slice none 0 0]) ∧ Below w.heap.size w w' := by
  go_enter Tryz.func103, Tryz.ntmps103
  go_wp2
  exact bodyPost_ret (v := .agg #[.int .u64 (t : Int), .int .i64 1, .int .u64 0, .string s, .slice none 0 0]) (by simp [results, Tryz.results103, go_sem]; try rfl) rfl ⟨rfl, ba b0 _⟩
def exam9 : Fs := fnum 1 300 (.cons 2 1 0 ⟨#[97, 98]⟩ .nil .nil)
theorem exam9_tx : ftx exam9 = [4, 172, 2, 9, 2, 97, 98] := by
  have e1 : vput (4 * 1 + Int.toNat 0) = [4] := vput_small (by decide)
  have e2 : vput 300 = [172, 2] := by rw [vput_big (by decide), vput_small (by decide)]; rfl
  have e3 : vput (4 * 2 + Int.toNat 1) = [9] := vput_small (by decide)
  have e4 : vput (ByteArray.mk #[97, 98]).size = [2] := vput_small (by decide)
  show vput (4 * 1 + Int.toNat 0) ++ (vput 300 ++ (vput (4 * 2 + Int.toNat 1) ++ ((vput (ByteArray.mk #[97, 98]).size ++ [97, 98]) ++ []))) = _
  rw [e1, e2, e3, e4]
  rfl
theorem exam9_put : txt (fput exam9).1 = ⟨#[4, 172, 2, 9, 2, 97, 98]⟩ ∧ (fput exam9).2 = 0 := by
  have h1 : fcheck exam9 0 0 = 0 := by decide
  unfold fput
  rw [h1, if_neg (by simp), exam9_tx, if_neg (by decide)]
  exact ⟨rfl, rfl⟩
theorem awake09 (w : World) (hT : Tabs w) :
    Calls Tryz.prog 98 #[] w fun e w' => e = .returned (.bool true) ∧ Below w.heap.size w w' := by
  have hb1 : Below w.heap.size w w := b0
  have HA : Hid (∀ x : World, Below w.heap.size w x → Calls Tryz.prog 104 #[] x fun e w' => e = .returned (.bool true) ∧ Below x.heap.size x w') := fun x hx => awakeE08 x (hT.below hx)
  have H1 : Hid (∀ W : World, Calls Tryz.prog 102 #[.slice (some ⟨W.heap.size, 0, none⟩) 2 2] (W.alloc (.cells #[.int .u64 1, .int .i64 0, .int .u64 300, .string ByteArray.empty, .slice none 0 0, .int .u64 2, .int .i64 1, .int .u64 0, .string ⟨#[97, 98]⟩, .slice none 0 0] 124)) fun e w' => e = .returned (.tuple #[.string ⟨#[4, 172, 2, 9, 2, 97, 98]⟩, .int .i64 0]) ∧ Below W.heap.size W w') := fun W => by
    have hs : SlV (W.alloc (.cells #[.int .u64 1, .int .i64 0, .int .u64 300, .string ByteArray.empty, .slice none 0 0, .int .u64 2, .int .i64 1, .int .u64 0, .string ⟨#[97, 98]⟩, .slice none 0 0] 124)) (fun _ => True) (.slice (some ⟨W.heap.size, 0, none⟩) 2 2) exam9 :=
      slv_blk (f := exam9) (BlkAt.made W _ _) ⟨rfl, rfl, rfl, rfl, SlV.nil _ _ _ _, rfl, rfl, rfl, rfl, SlV.nil _ _ _ _, trivial⟩ trivial (Nat.le_refl 2)
    have := wput_of _ exam9 _ _ hs ⟨⟨by unfold In64; omega, by unfold InI64; omega, by unfold In64; omega, by decide⟩, trivial, ⟨by unfold In64; omega, by unfold InI64; omega, by unfold In64; omega, by decide⟩, trivial, trivial⟩ (by decide) (by rw [exam9_tx]; decide)
    rw [exam9_put.1, exam9_put.2] at this
    exact this.mono fun e w' h => ⟨h.1, bb (ba b0 _) h.2⟩
  clear hT
  go_enter Tryz.func98, Tryz.ntmps98
  go_wp2_with fail
  refine (ofnum_any 1 300 _).mono ?_
  rintro e w2 ⟨rfl, hb2⟩
  replace hb1 := bb hb1 hb2
  clear hb2
  go_wp2_with fail
  refine (oftext_any 2 ⟨#[97, 98]⟩ _).mono ?_
  rintro e w3 ⟨rfl, hb2⟩
  replace hb1 := bb hb1 hb2
  clear hb2
  go_wp2_with fail
  refine (H1.out _).mono ?_
  rintro e w4 ⟨rfl, hb2⟩
  replace hb1 := bb hb1 hb2
  clear hb2
  go_wp2_with fail
  refine (HA.out _ hb1).mono ?_
  rintro e w5 ⟨rfl, hb2⟩
  replace hb1 := bb hb1 hb2
  clear hb2
  go_wp2
  go_ret
  exact ⟨rfl, hb1⟩
theorem awakeE09 (w : World) (hT : Tabs w) : Calls Tryz.prog 88 #[] w fun e w' => e = .returned (.bool true) ∧ Below w.heap.size w w' := by
  have H := Lib.hid (awake09 w hT)
  clear hT
  go_enter Tryz.func88, Tryz.ntmps88
  go_wp2_with fail
  refine H.out.mono ?_
  rintro e w' ⟨rfl, hb⟩
  go_wp2
  go_ret
  exact ⟨rfl, hb⟩
theorem ftx_le : ∀ {f : Fs}, f.All FOk → f.count ≤ 1000000 → (ftx f).length ≤ 330 * f.count
  | .nil, _, _ => by simp [ftx]
  | .cons t y n s i r, hk, h60 => by
    simp only [Fs.count] at h60
    have hi := ftx_le (f := i) hk.2.1 (by omega)
    have hr := ftx_le (f := r) hk.2.2 (by omega)
    obtain ⟨h1, h2, h3, h4⟩ := hk.1
    have e1 : vsz (4 * t + y.toNat) ≤ 10 := vsz_le 9 _ (by have : (128 : Nat) ^ (9 + 1) = 1180591620717411303424 := by decide
                                                           unfold In64 at h1; omega)
    have e2 := vsz_le10 h3
    have e3 : vsz s.size ≤ 10 := vsz_le10 (by show s.size < 18446744073709551616; omega)
    have e4 : vsz (ftx i).length ≤ 10 := vsz_le10 (by show (ftx i).length < 18446744073709551616; omega)
    simp only [ftx, Fs.count, List.length_append, vput_length]
    by_cases y0 : y = 0
    · rw [if_pos y0, vput_length]; omega
    · rw [if_neg y0]
      by_cases y1 : y = 1
      · rw [if_pos y1, List.length_append, vput_length, len_list]; omega
      · rw [if_neg y1, List.length_append, vput_length]; omega
theorem fsz_put {f : Fs} (h : (ftx f).length ≤ 65536) : (fput f).1.length = fszB f := by
  unfold fput fszB
  by_cases e : fcheck f 0 0 ≠ 0
  · rw [if_pos e, if_pos e]; rfl
  · rw [if_neg e, if_neg e, if_neg (by omega)]
end Go.Proofs.YtgbgbdocgpdkgaaGreatDoor
end

section
/-
  Layer 10: all tags (pick.Tags), and the chapter's example. Conditions: at most a million fields; Go's tables of UTF-8 lie in memory.
-/
namespace Go.Proofs.YtgbgbdocgpdkgaaGreatDoor
open Go.RowKit Go.PM
set_option maxRecDepth 100000
set_option maxHeartbeats 2000000
attribute [local go_sem ↓] Go.wp_at_zero Go.wp_at_succ

theorem info_pu64 : (Tryz.prog.info? 59).map (fun i => (i.zero, i.size, i.bytes)) = some (some (.int .u64 0), 1, 8) := by kernel_rfl
/-- All fields' tags. -/
def ftags (f : Fs) : List Nat := f.toL.map Fl.tag
theorem ftags_len (f : Fs) : (ftags f).length = f.len := by rw [ftags, List.length_map, toL_len]
theorem slv_tag {w : World} {I : Nat → Prop} {A : Option Addr} {c : Nat} {f : Fs} (h : SlV w I (.slice A f.len c) f) (k : Nat) (hk : k < f.len) :
    ∃ b o, A = some ⟨b, o, none⟩ ∧ b < w.heap.size ∧ w.cell? ⟨b, o + k * 5, none⟩ = some (.int .u64 ((f.toL[k]'(by rw [toL_len]; exact hk)).tag : Int)) := by
  obtain ⟨A', c', hv, hc, hor⟩ := h
  injection hv with e1 e2 e3
  subst e1 e3
  rcases hor with h0 | ⟨b, o, rfl, hI, hb, hat⟩
  · omega
  · obtain ⟨t, y, n, s, i, hd, _⟩ := f.drop_cons k hk
    have h1 := hat.drop k
    rw [hd] at h1
    have h2 := toL_drop hd
    rw [List.getElem?_eq_getElem (by rw [toL_len]; exact hk)] at h2
    injection h2 with h2
    rw [h2]
    exact ⟨b, o, rfl, hb, h1.1⟩
theorem tags_any (A : Option Addr) (c : Nat) (f : Fs) (I : Nat → Prop) (w : World) (hr : SlV w I (.slice A f.len c) f) (hl : f.len ≤ 1000000) :
    Calls Tryz.prog 90 #[.slice A f.len c] w fun e w' => ∃ (A' : Option Addr) (c' : Nat), e = .returned (.slice A' f.len c') ∧ PM.Rd w' A' (u64s (ftags f)) ∧ f.len ≤ c' ∧ Below w.heap.size w w' := by
  obtain ⟨i0, hi0, hz0, hz1, hz2⟩ := info_parts info_pu64
  have HR := Lib.hid hr
  have hcc : f.len ≤ c := by obtain ⟨A', c', hv, hc, _⟩ := hr; injection hv with e1 e2 e3; omega
  have H0 : Hid (w.ownsRow w.heap.size 59 1 (.slice none 0 0) 0 (u64s ((ftags f).take 0))) := World.ownsRow_nil _ _ _ _
  clear hr
  go_enter Tryz.func90, Tryz.ntmps90
  go_wp2_with fail
  go_loopg [3, 7] f.len (fun gk vv ki wr => ∃ k : Nat, k ≤ f.len ∧ f.len - k ≤ gk ∧ ki = .int .i64 (k : Int) ∧ Hid (wr.ownsRow w.heap.size 59 1 vv k (u64s ((ftags f).take k))) ∧ Below w.heap.size w wr)
  case atStart => exact ⟨0, Nat.zero_le _, by omega, rfl, H0, b0⟩
  case round =>
    obtain ⟨k, hkl, hgk, rfl, HO, hb⟩ := hrel
    have HB := Lib.hid hb
    by_cases hlt : k < f.len
    · obtain ⟨b, o, rfl, hbl, hcell⟩ := slv_tag (HR.out.below hb) k hlt
      have hkt : k < f.toL.length := by rw [toL_len]; exact hlt
      have HTK : Hid (u64s ((ftags f).take (k + 1)) = u64s ((ftags f).take k) ++ [.int .u64 ((f.toL[k]'hkt).tag : Int)]) := by
        show _ = _
        rw [← List.take_append_getElem (show k < (ftags f).length by rw [ftags_len]; exact hlt)]
        simp [u64s, ftags]
      generalize (f.toL[k]'hkt).tag = t at *
      have hwz := hb.size
      clear hb hkt
      go_wp2_with (at_builtin; go_must (refine wpList_append_own _ rfl _ _ 127 rfl w.heap.size 59 i0 (.int .u64 0) 1 8 Tryz.underlying127 hi0 hz0 hz1 hz2 rfl (by decide) _ _ _ rfl (HO.out.alloc _) ⟨wr.heap.size, 0, none⟩ 1 1 [.int .u64 (t : Int)] rfl rfl (one_new _ _ _) (one_cell_int _ _) (by unfold maxLen; omega) (by omega) (by simp; omega) ?_); intro v1 w2 hown2 hg2 _)
      go_roundg (f.len - (k + 1))
      case measure => omega
      case rel =>
        refine ⟨k + 1, by omega, Nat.le_refl _, by go_num, ?_, below_append (ba HB.out _) (HO.out.alloc _) hg2⟩
        show World.ownsRow _ _ _ _ _ _ _
        rw [HTK.out]
        exact hown2
    · obtain rfl : k = f.len := by omega
      have ho := HO.out
      rw [List.take_of_length_le (by rw [ftags_len]; exact Nat.le_refl _)] at ho
      obtain ⟨A2, c2, rfl, hrd, hn, _⟩ := PM.Rd.own ho
      have HE := Lib.hid (And.intro hrd hn)
      clear ho hrd hn hb HO
      go_wp2_with fail
      go_ret
      exact ⟨A2, c2, rfl, HE.out.1, HE.out.2, HB.out⟩
theorem exam10 : fmerge [fnum 1 0 (fnum 3 0 .nil), fnum 2 0 .nil] = (fnum 1 0 (fnum 2 0 (fnum 3 0 .nil)), 0) := rfl
theorem exam10_kd : ∀ f ∈ [fnum 1 0 (fnum 3 0 .nil), fnum 2 0 .nil], f.All FKd := by
  intro f hf
  simp only [List.mem_cons, List.not_mem_nil, or_false] at hf
  rcases hf with rfl | rfl
  · exact ⟨⟨by unfold In64; omega, by unfold InI64; omega, by unfold In64; omega, by decide⟩, trivial, ⟨by unfold In64; omega, by unfold InI64; omega, by unfold In64; omega, by decide⟩, trivial, trivial⟩
  · exact ⟨⟨by unfold In64; omega, by unfold InI64; omega, by unfold In64; omega, by decide⟩, trivial, trivial⟩
theorem awake10 (w : World) (hT : Tabs w) :
    Calls Tryz.prog 78 #[] w fun e w' => e = .returned (.bool true) ∧ Below w.heap.size w w' := by
  have hb1 : Below w.heap.size w w := b0
  have HA : Hid (∀ x : World, Below w.heap.size w x → Calls Tryz.prog 88 #[] x fun e w' => e = .returned (.bool true) ∧ Below x.heap.size x w') := fun x hx => awakeE09 x (hT.below hx)
  clear hT
  go_enter Tryz.func78, Tryz.ntmps78
  go_wp2_with fail
  refine (ofnum_any 1 0 _).mono ?_
  rintro e w2 ⟨rfl, hb2⟩
  replace hb1 := bb hb1 hb2
  clear hb2
  go_wp2_with fail
  refine (ofnum_any 3 0 _).mono ?_
  rintro e w3 ⟨rfl, hb2⟩
  replace hb1 := bb hb1 hb2
  clear hb2
  go_wp2_with fail
  refine (ofnum_any 2 0 _).mono ?_
  rintro e w4 ⟨rfl, hb4⟩
  have hx1 := (((BlkAt.made w3 124 #[.int .u64 1, .int .i64 0, .int .u64 0, .string ByteArray.empty, .slice none 0 0, .int .u64 3, .int .i64 0, .int .u64 0, .string ByteArray.empty, .slice none 0 0]).below hb4 (by simp)).more (.cells #[.int .u64 2, .int .i64 0, .int .u64 0, .string ByteArray.empty, .slice none 0 0] 124)).more (.cells #[.slice (some ⟨w3.heap.size, 0, none⟩) 2 2, .slice (some ⟨w4.heap.size, 0, none⟩) 1 1] 120)
  have hx2 := (BlkAt.made w4 124 #[.int .u64 2, .int .i64 0, .int .u64 0, .string ByteArray.empty, .slice none 0 0]).more (.cells #[.slice (some ⟨w3.heap.size, 0, none⟩) 2 2, .slice (some ⟨w4.heap.size, 0, none⟩) 1 1] 120)
  have hx3 := BlkAt.made (w4.alloc (.cells #[.int .u64 2, .int .i64 0, .int .u64 0, .string ByteArray.empty, .slice none 0 0] 124)) 120 #[.slice (some ⟨w3.heap.size, 0, none⟩) 2 2, .slice (some ⟨w4.heap.size, 0, none⟩) 1 1]
  rw [World.size_alloc] at hx3
  have hs1 : SlV ((w4.alloc (.cells #[.int .u64 2, .int .i64 0, .int .u64 0, .string ByteArray.empty, .slice none 0 0] 124)).alloc (.cells #[.slice (some ⟨w3.heap.size, 0, none⟩) 2 2, .slice (some ⟨w4.heap.size, 0, none⟩) 1 1] 120)) (fun _ => True) (.slice (some ⟨w3.heap.size, 0, none⟩) 2 2) (fnum 1 0 (fnum 3 0 .nil)) := slv_blk (f := (fnum 1 0 (fnum 3 0 .nil))) hx1 ⟨rfl, rfl, rfl, rfl, SlV.nil _ _ _ _, rfl, rfl, rfl, rfl, SlV.nil _ _ _ _, trivial⟩ trivial (Nat.le_refl 2)
  have hs2 : SlV ((w4.alloc (.cells #[.int .u64 2, .int .i64 0, .int .u64 0, .string ByteArray.empty, .slice none 0 0] 124)).alloc (.cells #[.slice (some ⟨w3.heap.size, 0, none⟩) 2 2, .slice (some ⟨w4.heap.size, 0, none⟩) 1 1] 120)) (fun _ => True) (.slice (some ⟨w4.heap.size, 0, none⟩) 1 1) (fnum 2 0 .nil) := slv_blk (f := (fnum 2 0 .nil)) hx2 ⟨rfl, rfl, rfl, rfl, SlV.nil _ _ _ _, trivial⟩ trivial (Nat.le_refl 1)
  have hm := merge_any (some ⟨w4.heap.size + 1, 0, none⟩) 2 [(fnum 1 0 (fnum 3 0 .nil)), (fnum 2 0 .nil)] [.slice (some ⟨w3.heap.size, 0, none⟩) 2 2, .slice (some ⟨w4.heap.size, 0, none⟩) 1 1] (fun _ => True) ((w4.alloc (.cells #[.int .u64 2, .int .i64 0, .int .u64 0, .string ByteArray.empty, .slice none 0 0] 124)).alloc (.cells #[.slice (some ⟨w3.heap.size, 0, none⟩) 2 2, .slice (some ⟨w4.heap.size, 0, none⟩) 1 1] 120))
    (.inr ⟨_, 0, rfl, hx3.lt, fun j u hj => by rw [Nat.zero_add, hx3.cell j, ← Array.getElem?_toList]; exact hj⟩) ⟨hs1, hs2, trivial⟩
    exam10_kd (by decide) (by decide)
  rw [exam10] at hm
  have HM : Hid (Calls Tryz.prog 86 #[.slice (some ⟨w4.heap.size + 1, 0, none⟩) 2 2] ((w4.alloc (.cells #[.int .u64 2, .int .i64 0, .int .u64 0, .string ByteArray.empty, .slice none 0 0] 124)).alloc (.cells #[.slice (some ⟨w3.heap.size, 0, none⟩) 2 2, .slice (some ⟨w4.heap.size, 0, none⟩) 1 1] 120)) fun e w' => ∃ (A : Option Addr) (c : Nat), e = .returned (.tuple #[.slice A 3 c, .int .i64 0]) ∧ SlV w' (fun _ => True) (.slice A 3 c) (fnum 1 0 (fnum 2 0 (fnum 3 0 .nil))) ∧ Below w4.heap.size w4 w') := hm.mono fun e w' h => by
    obtain ⟨A, c, he, hs, hb⟩ := h
    exact ⟨A, c, he, hs.imp fun _ _ => trivial, bb (ba (ba b0 _) _) hb⟩
  replace hb1 := bb hb1 (bb (ba b0 _) hb4)
  clear hx1 hx2 hx3 hs1 hs2 hm hb4
  go_wp2_with fail
  refine HM.out.mono ?_
  rintro e w5 ⟨A5, c5, rfl, hs5, hb5⟩
  replace hb1 := bb hb1 hb5
  have HS5 := Lib.hid hs5
  clear HM hs5 hb5
  go_wp2_with fail
  refine (HA.out _ hb1).mono ?_
  rintro e w6 ⟨rfl, hb6⟩
  replace hb1 := bb hb1 hb6
  have HTG : Hid (Calls Tryz.prog 90 #[.slice A5 3 c5] w6 fun e w' => ∃ (A' : Option Addr) (c' : Nat), e = .returned (.slice A' 3 c') ∧ PM.Rd w' A' (u64s [1, 2, 3]) ∧ 3 ≤ c' ∧ Below w6.heap.size w6 w') := tags_any A5 c5 (fnum 1 0 (fnum 2 0 (fnum 3 0 .nil))) _ w6 (HS5.out.below hb6) (by decide)
  clear hb6
  go_wp2_with fail
  refine HTG.out.mono ?_
  rintro e w7 ⟨A7, c7, rfl, hr7, hc7, hb7⟩
  replace hb1 := bb hb1 hb7
  have hx7 := BlkAt.made w7 59 #[.int .u64 1, .int .u64 2, .int .u64 3]
  have HEQ : Hid (Calls Tryz.prog 89 #[.slice A7 3 c7, .slice (some ⟨w7.heap.size, 0, none⟩) 3 3] (w7.alloc (.cells #[.int .u64 1, .int .u64 2, .int .u64 3] 59)) fun e w' => e = .returned (.bool true) ∧ Below w7.heap.size w7 w') :=
    (equ64 A7 (some ⟨w7.heap.size, 0, none⟩) c7 3 [1, 2, 3] (w7.alloc (.cells #[.int .u64 1, .int .u64 2, .int .u64 3] 59)) (hr7.below (ba b0 _)) (.inr ⟨_, 0, rfl, hx7.lt, fun j u hj => by rw [Nat.zero_add, hx7.cell j, ← Array.getElem?_toList]; exact hj⟩) (by decide)).mono fun e w' h => ⟨h.1, bb (ba b0 _) h.2⟩
  clear hr7 hb7 hx7 HTG
  go_wp2_with fail
  refine HEQ.out.mono ?_
  rintro e w8 ⟨rfl, hb8⟩
  replace hb1 := bb hb1 hb8
  clear hb8
  go_wp2
  go_ret
  exact ⟨rfl, hb1⟩
theorem awakeE10 (w : World) (hT : Tabs w) : Calls Tryz.prog 63 #[] w fun e w' => e = .returned (.bool true) ∧ Below w.heap.size w w' := by
  have H := Lib.hid (awake10 w hT)
  clear hT
  go_enter Tryz.func63, Tryz.ntmps63
  go_wp2_with fail
  refine H.out.mono ?_
  rintro e w' ⟨rfl, hb⟩
  go_wp2
  go_ret
  exact ⟨rfl, hb⟩
end Go.Proofs.YtgbgbdocgpdkgaaGreatDoor
end

section
/-
  Layer 11: an entry as it is written; two entries compared; the chapter's example. Conditions: texts within int; Go's tables of UTF-8 lie in memory.
-/
namespace Go.Proofs.YtgbgbdocgpdkgaaGreatDoor
open Go.RowKit Go.PM
set_option maxRecDepth 100000
set_option maxHeartbeats 1000000
attribute [local go_sem ↓] Go.wp_at_zero Go.wp_at_succ

theorem app_listE (a b : ByteArray) : (a ++ b).data.toList = a.data.toList ++ b.data.toList := by rw [ByteArray.data_append, Array.toList_append]
theorem eput_any (k v : ByteArray) (w : World) (hk : k.size ≤ 1000000) (hv : v.size ≤ 1000000) :
    Calls Tryz.prog 35 #[.agg #[.string k, .string v]] w fun e w' => e = .returned (.string (txt (eput k.data.toList v.data.toList))) ∧ Below w.heap.size w w' := by
  have hx := BlkAt.made w 32 #[.string k, .string v]
  have hb := ba (a := w) b0 (.cells #[.string k, .string v] 32)
  have HB := Lib.hid hb
  have H1 : Hid (∀ x : World, Calls Tryz.prog 34 #[.int .u64 (k.size : Int)] x fun e w' => e = .returned (.string (txt (vput k.size))) ∧ Below x.heap.size x w') := fun x => put_any k.size x (by unfold In64; omega)
  have H2 : Hid (∀ x : World, Calls Tryz.prog 34 #[.int .u64 (v.size : Int)] x fun e w' => e = .returned (.string (txt (vput v.size))) ∧ Below x.heap.size x w') := fun x => put_any v.size x (by unfold In64; omega)
  have HE : Hid (((txt (vput k.size) ++ k) ++ txt (vput v.size)) ++ v = txt (eput k.data.toList v.data.toList)) := by
    refine txt_eq ?_
    rw [app_listE, app_listE, app_listE, txt_list, txt_list, eput, len_list, len_list]
    simp
  have wk : IntKind.u64.wrap (k.size : Int) = (k.size : Int) := by rw [IntKind.wrap_u64]; omega
  have wv : IntKind.u64.wrap (v.size : Int) = (v.size : Int) := by rw [IntKind.wrap_u64]; omega
  have hP : (txt (vput k.size)).size ≤ 10 := by rw [txt_size, vput_length]; exact vsz_le10 (by omega)
  have hQ : (txt (vput v.size)).size ≤ 10 := by rw [txt_size, vput_length]; exact vsz_le10 (by omega)
  generalize txt (vput k.size) = P at *
  generalize txt (vput v.size) = Q at *
  have hr1 : ∀ x : World, (Op.stringOp .add P k).run Tryz.prog x = .ok (.string (P ++ k)) x := fun x => run_string_add_sum x P k (by omega)
  have hr2 : ∀ x : World, (Op.stringOp .add (P ++ k) Q).run Tryz.prog x = .ok (.string (P ++ k ++ Q)) x := fun x => run_string_add_sum x _ _ (by rw [ByteArray.size_append]; omega)
  have hr3 : ∀ x : World, (Op.stringOp .add (P ++ k ++ Q) v).run Tryz.prog x = .ok (.string (P ++ k ++ Q ++ v)) x := fun x => run_string_add_sum x _ _ (by rw [ByteArray.size_append, ByteArray.size_append]; omega)
  have HSB : Hid (∀ x : World, Below (w.alloc (.cells #[.string k, .string v] 32)).heap.size (w.alloc (.cells #[.string k, .string v] 32)) x → (x.cell? ⟨w.heap.size, 0, none⟩ = some (.string k) ∧ x.cell? ⟨w.heap.size, 1, none⟩ = some (.string v))) := fun x h => ⟨(hx.below h hx.lt).cell 0, (hx.below h hx.lt).cell 1⟩
  clear hx hb
  go_enter Tryz.func35, Tryz.ntmps35
  go_wp2_with fail
  generalize (w.alloc (.cells #[.string k, .string v] 32)) = wz at HSB HB ⊢
  have hbW : Below wz.heap.size wz wz := b0
  obtain ⟨k0, k1⟩ := HSB.out _ hbW
  go_region_held3 (fun x => x.cell? ⟨w.heap.size, 0, none⟩ = some (.string k) ∧ x.cell? ⟨w.heap.size, 1, none⟩ = some (.string v)) (first | exact HSB.out _ (by repeat (first | exact hbW | refine ba ?_ _ | refine bd ?_)) | go_keep)
    ((first
      | (go_at_call 34; with_reducible show Calls _ _ #[.int .u64 (k.size : Int)] _ _; refine (H1.out _).mono ?_; rintro e' W1 ⟨rfl, hb1'⟩; replace hbW : Below wz.heap.size wz W1 := bb (by repeat (first | exact hbW | refine ba ?_ _ | refine bd ?_)) hb1'; clear hb1'; obtain ⟨k0, k1⟩ := HSB.out _ hbW)
      | (go_at_call 34; refine (H2.out _).mono ?_; rintro e' W1 ⟨rfl, hb1'⟩; replace hbW : Below wz.heap.size wz W1 := bb (by repeat (first | exact hbW | refine ba ?_ _ | refine bd ?_)) hb1'; clear hb1'; obtain ⟨k0, k1⟩ := HSB.out _ hbW)))
  all_goals (go_wp2_with fail; go_ret; exact ⟨by rw [← HE.out]; rfl, bb HB.out (by repeat (first | exact hbW | refine ba ?_ _ | refine bd ?_))⟩)
theorem enext_nil (w : World) : Calls Tryz.prog 47 #[.pointer none] w fun e w' => e = .returned (.tuple #[.agg #[.string ByteArray.empty, .string ByteArray.empty], .int .i64 25]) ∧ Below w.heap.size w w' := by
  have HX := Lib.hid (BlkAt.made w 32 #[.string ⟨#[]⟩, .string ⟨#[]⟩])
  have HB := Lib.hid (ba (a := w) b0 (.cells #[.string ⟨#[]⟩, .string ⟨#[]⟩] 32))
  have HT := Lib.hid (etext_nil (w.alloc (.cells #[.string ⟨#[]⟩, .string ⟨#[]⟩] 32)))
  go_enter Tryz.func47, Tryz.ntmps47
  go_wp2_with fail
  refine HT.out.mono ?_
  rintro e w1 ⟨rfl, hb1⟩
  have hx1 := HX.out.below hb1 HX.out.lt
  have c0 := hx1.cell 0
  have c1 := hx1.cell 1
  have f0 := hx1.free 0
  have f1 := hx1.free 1
  simp at c0 c1
  have HB1 := Lib.hid (bb HB.out hb1)
  have hsz := HB1.out.size
  have HE : Hid (∀ w', Tch (fun j => j = w.heap.size) w1 w' → Below w.heap.size w w') := fun w' ht => HB1.out.trans (ht.toBelowB hsz fun g hg e => by omega)
  clear hb1 hx1
  go_wp2_with fail
  refine bodyPost_ret (v := .tuple #[.agg #[.string ByteArray.empty, .string ByteArray.empty], .int .i64 25]) (by simp [results, Tryz.results47, go_sem, c0, c1]; try rfl) rfl ⟨rfl, HE.out _ (res_two _ _ _ _)⟩
theorem exam11 : txt (eput [97] [98, 99]) = ⟨#[1, 97, 2, 98, 99]⟩ := by
  have e1 : vput 1 = [1] := by rw [vput_small (by omega)]; rfl
  have e2 : vput 2 = [2] := by rw [vput_small (by omega)]; rfl
  show txt (vput 1 ++ ([97] ++ (vput 2 ++ [98, 99]))) = _
  rw [e1, e2]
  rfl
theorem exam11c : echk [97] [98, 99] = 0 := by
  have h1 : ugood [97] = true := by rw [ugood_step (by decide)]; exact ugood_nil
  have h2 : ugood [98, 99] = true := by
    rw [ugood_step (by decide)]
    show ugood [99] = true
    rw [ugood_step (by decide)]; exact ugood_nil
  unfold echk uchk
  rw [h1, h2]
  decide
theorem awake11 (w : World) (hT : Tabs w) :
    Calls Tryz.prog 50 #[] w fun e w' => e = .returned (.bool true) ∧ Below w.heap.size w w' := by
  have hx := BlkAt.made w 32 #[.string ⟨#[97]⟩, .string ⟨#[98, 99]⟩]
  have hb0 := ba (a := w) b0 (.cells #[.string ⟨#[97]⟩, .string ⟨#[98, 99]⟩] 32)
  have HA := Lib.hid (awakeE10 (w.alloc (.cells #[.string ⟨#[97]⟩, .string ⟨#[98, 99]⟩] 32)) (hT.below hb0))
  have HX := Lib.hid hx
  have HB := Lib.hid hb0
  have HP : Hid (∀ x : World, Calls Tryz.prog 35 #[.agg #[.string ⟨#[97]⟩, .string ⟨#[98, 99]⟩]] x fun e w' => e = .returned (.string ⟨#[1, 97, 2, 98, 99]⟩) ∧ Below x.heap.size x w') := fun x => by
    have := eput_any ⟨#[97]⟩ ⟨#[98, 99]⟩ x (by decide) (by decide)
    rw [show (ByteArray.mk #[97]).data.toList = [97] from rfl, show (ByteArray.mk #[98, 99]).data.toList = [98, 99] from rfl, exam11] at this
    exact this
  have HC : Hid (∀ x : World, Below w.heap.size w x → Calls Tryz.prog 30 #[.agg #[.string ⟨#[97]⟩, .string ⟨#[98, 99]⟩]] x fun e w' => e = .returned (.int .i64 0) ∧ Below x.heap.size x w') := fun x hx => by
    have := echeck_any ⟨#[97]⟩ ⟨#[98, 99]⟩ x (by decide) (by decide) (hT.below hx)
    rw [show (ByteArray.mk #[97]).data.toList = [97] from rfl, show (ByteArray.mk #[98, 99]).data.toList = [98, 99] from rfl, exam11c] at this
    exact this
  clear hx hb0 hT
  go_enter Tryz.func50, Tryz.ntmps50
  go_wp2_with fail
  refine HA.out.mono ?_
  rintro e w1 ⟨rfl, hb1⟩
  have HX1 := Lib.hid (HX.out.below hb1 HX.out.lt)
  have HB1 := Lib.hid (bb HB.out hb1)
  have c0 := HX1.out.cell 0
  have c1 := HX1.out.cell 1
  simp at c0 c1
  clear hb1
  go_wp2_with fail
  refine (HP.out _).mono ?_
  rintro e w2 ⟨rfl, hb2⟩
  have HX2 := Lib.hid (HX1.out.below hb2 HX1.out.lt)
  have HB2 := Lib.hid (bb HB1.out hb2)
  clear c0 c1 hb2
  have c0 := HX2.out.cell 0
  have c1 := HX2.out.cell 1
  simp at c0 c1
  go_wp2_with fail
  refine (HC.out _ HB2.out).mono ?_
  rintro e w3 ⟨rfl, hb3⟩
  have HB3 := Lib.hid (bb HB2.out hb3)
  clear hb3
  go_wp2_with fail
  go_ret
  exact ⟨rfl, HB3.out⟩
theorem awakeE11 (w : World) (hT : Tabs w) : Calls Tryz.prog 28 #[] w fun e w' => e = .returned (.bool true) ∧ Below w.heap.size w w' := by
  have H := Lib.hid (awake11 w hT)
  clear hT
  go_enter Tryz.func28, Tryz.ntmps28
  go_wp2_with fail
  refine H.out.mono ?_
  rintro e w' ⟨rfl, hb⟩
  go_wp2
  go_ret
  exact ⟨rfl, hb⟩
end Go.Proofs.YtgbgbdocgpdkgaaGreatDoor
end

section
/-
  Layer 12: the library's builder of texts; a descriptor's key; two descriptors compared. Conditions: texts of at most a million bytes; at most a thousand entries.
-/
namespace Go.Proofs.YtgbgbdocgpdkgaaGreatDoor
open Go.RowKit Go.PM
set_option maxRecDepth 100000
set_option maxHeartbeats 2000000
attribute [local go_sem ↓] Go.wp_at_zero Go.wp_at_succ

theorem cc_fresh (b : Nat) (w : World) (h0 : w.cell? ⟨b, 0, none⟩ = some (.pointer none)) (hsh : w.shape? b = some (65, 2)) (hfz : w.frozen? ⟨b, 0, none⟩ = false) :
    Calls Tryz.prog 54 #[.pointer (some ⟨b, 0, none⟩)] w fun e w' => e = .returned (.tuple #[]) ∧ w' = w.setCell ⟨b, 0, none⟩ (.pointer (some ⟨b, 0, none⟩)) := by
  have hs : (Tryz.prog.info? 65).map (·.size) = some 2 := by kernel_rfl
  obtain ⟨j, hj, hjs⟩ := Option.map_eq_some_iff.1 hs
  go_enter Tryz.func54, Tryz.ntmps54
  go_wp2_with fail
  rw [Lib.run_to_unsafe w ⟨b, 0, none⟩ Tryz.underlying62 Tryz.underlying111 hj (by rw [hjs]; decide) hsh (Nat.zero_lt_succ 1)]
  simp only [Result.andThen]
  rw [Oper.upon_value]
  go_wp2_with fail
  rw [run_callFunc_extern Tryz.func75 (by kernel_rfl) (by kernel_rfl) (by kernel_rfl) (e := Extern.AbiNoEscape.same) (by kernel_rfl)]
  rw [Lib.run_noEscape]
  simp only [Result.andThen]
  rw [Oper.upon_value]
  go_wp2_with fail
  rw [Lib.run_from_unsafe w ⟨b, 0, none⟩ Tryz.underlying111 Tryz.underlying62 hj hsh (by kernel_rfl)]
  simp only [Result.andThen]
  rw [Oper.upon_value]
  go_wp2_with fail
  go_end0
  exact ⟨rfl, rfl⟩
theorem cc_used (b : Nat) (w : World) (h0 : w.cell? ⟨b, 0, none⟩ = some (.pointer (some ⟨b, 0, none⟩))) :
    Calls Tryz.prog 54 #[.pointer (some ⟨b, 0, none⟩)] w fun e w' => e = .returned (.tuple #[]) ∧ w' = w := by
  have hs : (Tryz.prog.info? 65).map (·.size) = some 2 := by kernel_rfl
  obtain ⟨j, hj, hjs⟩ := Option.map_eq_some_iff.1 hs
  go_enter Tryz.func54, Tryz.ntmps54
  go_wp2_with fail
  rw [Lib.run_neq_ptr_same w _ Tryz.underlying62 hj]
  go_wp2_with fail
  go_end0
  exact ⟨rfl, rfl⟩
/-- A builder in memory of the call's own. -/
abbrev Bld (B b : Nat) (l : List UInt8) (w : World) : Prop := Lib.IsBuilderF 65 5 B b (Lib.byteCells l) w
theorem Bld.below {B b : Nat} {l : List UInt8} {w w' : World} (h : Bld B b l w) (hb : Below w.heap.size w w') : Bld B b l w' := by
  have go : ∀ p, Lib.BuilderAtF 65 5 B b p (Lib.byteCells l) w → Lib.BuilderAtF 65 5 B b p (Lib.byteCells l) w' := fun p h => by
    have hlt := h.lt
    obtain ⟨hB, v, hbk, hown, hne⟩ := h
    exact ⟨hB, v, (hb.block b hlt).trans hbk, hown.kept (grown_of_below hb none) (by cases hv : v.ownBlock <;> simp), hne⟩
  exact h.imp (go _) (go _)
theorem Bld.lt {B b : Nat} {l : List UInt8} {w : World} (h : Bld B b l w) : b < w.heap.size ∧ B ≤ b := by
  rcases h with h | h
  · exact ⟨h.lt, h.1⟩
  · exact ⟨h.lt, h.1⟩
theorem info_byte : (Tryz.prog.info? 5).map (fun i => (i.zero, i.size, i.bytes)) = some (some (.int .u8 0), 1, 1) := by kernel_rfl
theorem cc_any (B b : Nat) (l : List UInt8) (w : World) (h : Bld B b l w) :
    Calls Tryz.prog 54 #[.pointer (some ⟨b, 0, none⟩)] w fun e w' => e = .returned (.tuple #[]) ∧ Lib.BuilderAtF 65 5 B b (.pointer (some ⟨b, 0, none⟩)) (Lib.byteCells l) w' ∧ Below B w w' := by
  rcases h with h | h
  · refine (cc_fresh b w h.cell0 h.shape h.frozen0).mono ?_
    rintro e w' ⟨rfl, rfl⟩
    exact ⟨rfl, h.used _, (Below.refl B w).setCell (p := ⟨b, 0, none⟩) h.1 _⟩
  · refine (cc_used b w h.cell0).mono ?_
    rintro e w' ⟨rfl, rfl⟩
    exact ⟨rfl, h, Below.refl B _⟩
theorem wstr_any (B b : Nat) (l : List UInt8) (s : ByteArray) (w : World) (h : Bld B b l w) (hlen : l.length + s.size ≤ 100000000000) (hBw : B ≤ w.heap.size) :
    Calls Tryz.prog 33 #[.pointer (some ⟨b, 0, none⟩), .string s] w fun e w' => e = .returned (.tuple #[.int .i64 s.size, .nilIface]) ∧ Bld B b (l ++ s.data.toList) w' ∧ Below B w w' := by
  obtain ⟨i0, hi, hz0, hz1, hz2⟩ := info_parts info_byte
  have HCC := Lib.hid (cc_any B b l w h)
  have hbl : (Lib.byteCells l).length = l.length := by simp [Lib.byteCells]
  clear h
  go_enter Tryz.func33, Tryz.ntmps33
  go_wp2_with fail
  refine HCC.out.mono ?_
  rintro e w1 ⟨rfl, h1, hb1⟩
  obtain ⟨hB, v, hbk, hown, hne⟩ := h1
  have c0 : w1.cell? ⟨b, 0, none⟩ = some (.pointer (some ⟨b, 0, none⟩)) := by rw [Lib.cell_of_heap hbk]; rfl
  have c1 : w1.cell? ⟨b, 1, none⟩ = some v := by rw [Lib.cell_of_heap hbk]; rfl
  have HOWN := Lib.hid hown
  have HB1 := Lib.hid hb1
  have HBK := Lib.hid hbk
  clear hown hb1 hbk HCC
  go_wp2_with (at_builtin; refine Lib.wpList_append_own_stringF _ rfl _ _ 63 9 rfl B 5 i0 Tryz.underlying63 Tryz.underlying9 hi hz0 hz1 hz2 _ _ _ rfl HOWN.out s rfl ?c3 ?c4 ?c5 ?_)
  case c3 => rw [hbl]; unfold maxLen; omega
  case c4 => rw [hbl]; omega
  case c5 => have := HB1.out.size; omega
  intro v' w2 hown' hgrow _
  have hlt : b < w1.heap.size := by
    rcases Nat.lt_or_ge b w1.heap.size with h' | h'
    · exact h'
    · have := HBK.out
      simp [Array.getElem?_eq_none h'] at this
  have hb2 : w2.heap[b]? = some (.cells #[.pointer (some ⟨b, 0, none⟩), v] 65 (0, 0)) := by
    rw [hgrow.block b hlt (fun e => hne e.symm)]
    exact HBK.out
  have d0 : w2.cell? ⟨b, 0, none⟩ = some (.pointer (some ⟨b, 0, none⟩)) := by rw [Lib.cell_of_heap hb2]; rfl
  have d1 : w2.cell? ⟨b, 1, none⟩ = some v := by rw [Lib.cell_of_heap hb2]; rfl
  have f1 : w2.frozen? ⟨b, 1, none⟩ = false := Lib.frozen_of_heap hb2 1
  obtain ⟨ao, n', cap, rfl⟩ : ∃ ao n' cap, v' = .slice ao n' cap := by
    rcases hown'.2 with ⟨hv, _⟩ | ⟨g, cap, cur, fz, hv, _⟩
    · exact ⟨_, _, _, hv⟩
    · exact ⟨_, _, _, hv⟩
  have HOWN2 := Lib.hid hown'
  have HGR := Lib.hid hgrow
  have HB2 := Lib.hid hb2
  clear hown' hgrow hb2
  go_wp2_with fail
  go_ret2
  refine ⟨rfl, .inr ?_, ?_⟩
  · rw [Lib.byteCells_append]
    have hbs : (Lib.byteCells s.data.toList).length = s.size := by simp [Lib.byteCells]
    exact Lib.BuilderAtF.put (T := 65) (e := 5) hB HB2.out (bs' := Lib.byteCells l ++ Lib.byteCells s.data.toList) (by rw [List.length_append, hbs, hbl]; exact HOWN2.out) (by decide)
  · exact (HB1.out.grown HGR.out (by have := HB1.out.size; omega) (fun k hk => (HOWN.out.lt k hk).1)).setCell (p := ⟨b, 1, none⟩) hB _
theorem bld_new (w : World) : Bld w.heap.size w.heap.size [] (w.alloc (.cells #[.pointer none, .slice none 0 0] 65)) :=
  .inl ⟨Nat.le_refl _, .slice none 0 0, heap_alloc_new w _, World.ownsRowF_of (World.ownsRow_nil _ _ _ _), by simp [Value.ownBlock]⟩
theorem str12_any (B b : Nat) (l : List UInt8) (w : World) (h : Bld B b l w) (hBw : B ≤ w.heap.size) :
    Calls Tryz.prog 36 #[.pointer (some ⟨b, 0, none⟩)] w fun e w' => e = .returned (.string (txt l)) ∧ Below B w w' :=
  (Tryz.Builder_String_any_k B b l w h hBw).mono fun _ _ ⟨h1, _, h3, _⟩ => ⟨h1, h3⟩
theorem eput_len (k v : List UInt8) (hk : k.length ≤ 1000000) (hv : v.length ≤ 1000000) : (eput k v).length ≤ 3000000 := by
  have h1 := vput_length k.length
  have h2 := vput_length v.length
  have h3 : vsz k.length ≤ 10 := vsz_le10 (by omega)
  have h4 : vsz v.length ≤ 10 := vsz_le10 (by omega)
  simp only [eput, List.length_append]
  omega
theorem dkeyL_app (l m : List Ent) : dkeyL (l ++ m) = dkeyL l ++ dkeyL m := by simp [dkeyL]
theorem dkeyL_len : ∀ l : List Ent, (∀ e ∈ l, e.1.length ≤ 1000000 ∧ e.2.length ≤ 1000000) → (dkeyL l).length ≤ l.length * 3000000
  | [], _ => by simp [dkeyL]
  | a :: r, h => by
    have h1 := eput_len a.1 a.2 (h a (by simp)).1 (h a (by simp)).2
    have h2 := dkeyL_len r fun e he => h e (by simp [he])
    have h3 : dkeyL (a :: r) = eput a.1 a.2 ++ dkeyL r := by simp [dkeyL]
    rw [h3, List.length_append, List.length_cons]
    omega
/-- Texts of at most a million bytes. -/
def EMil (l : List Ent) : Prop := l.length ≤ 1000 ∧ ∀ e ∈ l, e.1.length ≤ 1000000 ∧ e.2.length ≤ 1000000
theorem key12_any (A : Option Addr) (c : Nat) (l : List Ent) (w : World) (hr : Rd w A (ents l)) (hz : EMil l) :
    Calls Tryz.prog 10 #[.slice A l.length c] w fun e w' => e = .returned (.string (txt (dkey l))) ∧ Below w.heap.size w w' := by
  have HR := Lib.hid hr
  have HZ := Lib.hid hz.2
  have hl := hz.1
  have wl : IntKind.u64.wrap (l.length : Int) = (l.length : Int) := by rw [IntKind.wrap_u64]; omega
  have HV : Hid (∀ x : World, Calls Tryz.prog 34 #[.int .u64 (l.length : Int)] x fun e w' => e = .returned (.string (txt (vput l.length))) ∧ Below x.heap.size x w') := fun x => put_any l.length x (by unfold In64; omega)
  have hb0 := ba (a := w) b0 (.cells #[.pointer none, .slice none 0 0] 65)
  have HB0 := Lib.hid hb0
  have HBL := Lib.hid (bld_new w)
  have hvl : (vput l.length).length ≤ 10 := by rw [vput_length]; exact vsz_le10 (by omega)
  have HSZ : Hid (∀ k, (vput l.length ++ dkeyL (l.take k)).length ≤ 3000000010) := fun k => by
    have h1 := dkeyL_len (l.take k) fun e he => HZ.out e (List.mem_of_mem_take he)
    have h2 : (l.take k).length ≤ 1000 := by rw [List.length_take]; omega
    rw [List.length_append]
    omega
  clear hr hz hb0
  go_enter Tryz.func10, Tryz.ntmps10
  go_wp2_with fail
  refine (HV.out _).mono ?_
  rintro e w1 ⟨rfl, hb1⟩
  have HB1 := Lib.hid (bb HB0.out hb1)
  have HW := Lib.hid (wstr_any w.heap.size w.heap.size [] (txt (vput l.length)) w1 (HBL.out.below hb1) (by rw [txt_size, List.length_nil]; omega) HB1.out.size)
  rw [List.nil_append, txt_list] at HW
  clear hb1
  go_wp2_with fail
  refine HW.out.mono ?_
  rintro e w2 ⟨rfl, hbl2, hb2⟩
  have H0 : Hid (Bld w.heap.size w.heap.size (vput l.length ++ dkeyL (l.take 0)) w2 ∧ Below w.heap.size w w2) := by
    rw [List.take_zero, show dkeyL [] = [] from rfl, List.append_nil]
    exact ⟨hbl2, HB1.out.trans hb2⟩
  clear hbl2 hb2 HW HB1
  go_wp2_with fail
  go_loopg [13] l.length (fun gk ki wr => ∃ k : Nat, k ≤ l.length ∧ l.length - k ≤ gk ∧ ki = .int .i64 (k : Int) ∧ Hid (Bld w.heap.size w.heap.size (vput l.length ++ dkeyL (l.take k)) wr ∧ Below w.heap.size w wr))
  case atStart => exact ⟨0, Nat.zero_le _, by omega, rfl, H0⟩
  case round =>
    obtain ⟨k, hk, hgk, rfl, HS⟩ := hrel
    obtain ⟨hbld, hbel⟩ := HS.out
    have hszk := HSZ.out k
    by_cases hlt : k < l.length
    · obtain ⟨b, off, rfl, hblt, c0, c1⟩ := (HR.out.below hbel).ent hlt
      obtain ⟨z0, z1⟩ := HZ.out _ (List.getElem_mem hlt)
      have htk : l.take (k + 1) = l.take k ++ [l[k]] := (List.take_append_getElem hlt).symm
      generalize l[k] = x at *
      obtain ⟨x0, x1⟩ := x
      simp only at c0 c1 z0 z1
      have hnx : vput l.length ++ dkeyL (l.take (k + 1)) = (vput l.length ++ dkeyL (l.take k)) ++ eput x0 x1 := by
        rw [htk, dkeyL_app]
        simp [dkeyL]
      have HNX := Lib.hid hnx
      have hel := eput_len x0 x1 z0 z1
      generalize hK : vput l.length ++ dkeyL (l.take k) = K at *
      have HP := Lib.hid (eput_any (txt x0) (txt x1) (wr.alloc (.cells #[.string (txt x0), .string (txt x1)] 32)) (by rw [txt_size]; omega) (by rw [txt_size]; omega))
      rw [txt_list, txt_list] at HP
      have hbo := ba (a := wr) b0 (.cells #[.string (txt x0), .string (txt x1)] 32)
      have HBo := Lib.hid hbo
      have HBLD := Lib.hid hbld
      have HBEL := Lib.hid hbel
      clear hbld hbel htk hnx hbo hK HS H0
      go_wp2_with fail
      refine HP.out.mono ?_
      rintro e w3 ⟨rfl, hb3⟩
      have HB3 := Lib.hid (bb HBo.out hb3)
      have hbl3 := HBLD.out.below HB3.out
      have HW := Lib.hid (wstr_any w.heap.size w.heap.size K (txt (eput x0 x1)) w3 hbl3 (by rw [txt_size]; omega) (Nat.le_trans HBEL.out.size HB3.out.size))
      rw [txt_list] at HW
      clear hb3 hbl3 HP
      go_wp2_with fail
      refine HW.out.mono ?_
      rintro e w4 ⟨rfl, hbl4, hb4⟩
      have HN : Hid (Bld w.heap.size w.heap.size (vput l.length ++ dkeyL (l.take (k + 1))) w4 ∧ Below w.heap.size w w4) := by
        show _ ∧ _
        rw [HNX.out]
        exact ⟨hbl4, (HBEL.out.trans (HB3.out.mono HBEL.out.size)).trans hb4⟩
      clear hbl4 hb4 HW HNX
      go_wp2_with fail
      go_roundg (l.length - (k + 1))
      case measure => omega
      case rel => exact ⟨k + 1, by omega, Nat.le_refl _, by go_num, HN⟩
    · obtain rfl : k = l.length := by omega
      have hkk : vput l.length ++ dkeyL (l.take l.length) = dkey l := by rw [List.take_of_length_le (Nat.le_refl _)]; rfl
      rw [hkk] at hbld
      have HST := Lib.hid (str12_any _ _ _ _ hbld hbel.size)
      have HB := Lib.hid hbel
      clear hbld hbel HS H0 hkk hszk
      go_wp2_with fail
      refine HST.out.mono ?_
      rintro e w3 ⟨rfl, hb3⟩
      have HB3 := Lib.hid (HB.out.trans hb3)
      clear hb3
      go_wp2_with fail
      go_ret
      exact ⟨rfl, HB3.out⟩
theorem cmp12_any (A B : Option Addr) (c d : Nat) (l m : List Ent) (w : World) (hr : Rd w A (ents l)) (hs : Rd w B (ents m)) (hz : EMil l) (hy : EMil m) :
    Calls Tryz.prog 12 #[.slice A l.length c, .slice B m.length d] w fun e w' => e = .returned (.int .i64 (Lib.compareBytes (dkey l) (dkey m))) ∧ Below w.heap.size w w' := by
  have HK := Lib.hid (key12_any A c l w hr hz)
  have HM : Hid (∀ x, Below w.heap.size w x → Calls Tryz.prog 10 #[.slice B m.length d] x fun e w' => e = .returned (.string (txt (dkey m))) ∧ Below x.heap.size x w') := fun x hx => key12_any B d m x (hs.below hx) hy
  have HC : Hid (∀ x : World, Calls Tryz.prog 37 #[.string (txt (dkey l)), .string (txt (dkey m))] x fun e w' => e = .returned (.int .i64 (Lib.compareBytes (dkey l) (dkey m))) ∧ w' = x) := fun x => Tryz.strings_Compare (txt (dkey l)) (txt (dkey m)) x
  clear hr hs hz hy
  generalize Lib.compareBytes (dkey l) (dkey m) = R at *
  go_enter Tryz.func12, Tryz.ntmps12
  go_wp2_with fail
  refine HK.out.mono ?_
  rintro e w1 ⟨rfl, hb1⟩
  have HB1 := Lib.hid hb1
  clear hb1
  go_wp2_with fail
  refine (HM.out _ HB1.out).mono ?_
  rintro e w2 ⟨rfl, hb2⟩
  have HB2 := Lib.hid (bb HB1.out hb2)
  clear hb2
  go_wp2_with fail
  refine (HC.out _).mono ?_
  rintro e w3 ⟨rfl, rfl⟩
  go_wp2_with fail
  go_ret
  exact ⟨rfl, HB2.out⟩
end Go.Proofs.YtgbgbdocgpdkgaaGreatDoor
end

section
/-
  The chapter's example of layer 12; the walk of the statement of its keys that stand apart. Conditions: texts that a machine can hold; Go's tables of UTF-8 lie in memory.
-/
namespace Go.Proofs.YtgbgbdocgpdkgaaGreatDoor
open Go.RowKit Go.PM
set_option maxRecDepth 100000
set_option maxHeartbeats 2000000
attribute [local go_sem ↓] Go.wp_at_zero Go.wp_at_succ

theorem echk_two (a b : UInt8) (ha : ugood [a] = true) (hb : ugood [b] = true) : echk [a] [b] = 0 := by
  unfold echk uchk
  rw [ha, hb]
  rfl
theorem exam12a : dof echk [([98], [50]), ([97], [49])] = ([([97], [49]), ([98], [50])], 0) := by
  have g1 : ugood [98] = true := by rw [ugood_step (by decide)]; exact ugood_nil
  have g2 : ugood [50] = true := by rw [ugood_step (by decide)]; exact ugood_nil
  have g3 : ugood [97] = true := by rw [ugood_step (by decide)]; exact ugood_nil
  have g4 : ugood [49] = true := by rw [ugood_step (by decide)]; exact ugood_nil
  have e1 := echk_two 98 50 g1 g2
  have e2 := echk_two 97 49 g3 g4
  have s1 : esort [([98], [50]), ([97], [49])] = [([97], [49]), ([98], [50])] := by decide
  have d1 : dtw [(([97], [49]) : Ent), ([98], [50])] = false := by decide
  unfold dof
  rw [s1, d1]
  simp [dall, e1, e2, dmany]
theorem exam12b : txt (dkey [([97], [49]), ([98], [50])]) = ⟨#[2, 1, 97, 1, 49, 1, 98, 1, 50]⟩ := by
  have e1 : vput 1 = [1] := by rw [vput_small (by omega)]; rfl
  have e2 : vput 2 = [2] := by rw [vput_small (by omega)]; rfl
  show txt (vput 2 ++ ((vput 1 ++ ([97] ++ (vput 1 ++ [49]))) ++ ((vput 1 ++ ([98] ++ (vput 1 ++ [50]))) ++ []))) = _
  rw [e1, e2]
  rfl
theorem awake12 (w : World) (hT : Tabs w) :
    Calls Tryz.prog 7 #[] w fun e w' => e = .returned (.bool true) ∧ Below w.heap.size w w' := by
  have hb0 := ba (a := w) b0 (.cells #[.string ⟨#[98]⟩, .string ⟨#[50]⟩, .string ⟨#[97]⟩, .string ⟨#[49]⟩] 32)
  have hrd : Rd (w.alloc (.cells #[.string ⟨#[98]⟩, .string ⟨#[50]⟩, .string ⟨#[97]⟩, .string ⟨#[49]⟩] 32)) (some ⟨w.heap.size, 0, none⟩) (ents [([98], [50]), ([97], [49])]) := by
    refine .inr ⟨_, _, rfl, by simp, fun j u hj => ?_⟩
    have hy := World.news_of_block (cs := #[.string ⟨#[98]⟩, .string ⟨#[50]⟩, .string ⟨#[97]⟩, .string ⟨#[49]⟩]) (t := 32) (fr := (0, 0)) (heap_alloc_new w (.cells #[.string ⟨#[98]⟩, .string ⟨#[50]⟩, .string ⟨#[97]⟩, .string ⟨#[49]⟩] 32))
    have := hy j u hj
    rwa [add_at, ← Nat.zero_add j] at this
  have hz : ESz [([98], [50]), ([97], [49])] := fun e he => by
    simp only [List.mem_cons, List.not_mem_nil, or_false] at he
    rcases he with rfl | rfl <;> simp
  have ho := of12_any (some ⟨w.heap.size, 0, none⟩) 2 [([98], [50]), ([97], [49])] _ hrd hz (by decide) (hT.below hb0)
  unfold OfEnd12 at ho
  rw [exam12a] at ho
  have HO : Hid (Calls Tryz.prog 9 #[.slice (some ⟨w.heap.size, 0, none⟩) 2 2] (w.alloc (.cells #[.string ⟨#[98]⟩, .string ⟨#[50]⟩, .string ⟨#[97]⟩, .string ⟨#[49]⟩] 32)) fun e w' => ∃ v, e = .returned (.tuple #[v, .int .i64 0]) ∧ SlE w' v [([97], [49]), ([98], [50])] ∧ Below (w.alloc (.cells #[.string ⟨#[98]⟩, .string ⟨#[50]⟩, .string ⟨#[97]⟩, .string ⟨#[49]⟩] 32)).heap.size (w.alloc (.cells #[.string ⟨#[98]⟩, .string ⟨#[50]⟩, .string ⟨#[97]⟩, .string ⟨#[49]⟩] 32)) w') := ho
  have HA : Hid (∀ x : World, Below w.heap.size w x → Calls Tryz.prog 28 #[] x fun e w' => e = .returned (.bool true) ∧ Below x.heap.size x w') := fun x hx => awakeE11 x (hT.below hx)
  have HB := Lib.hid hb0
  have HKY : Hid (∀ (x : World) (A : Option Addr) (c : Nat), Rd x A (ents [([97], [49]), ([98], [50])]) → Calls Tryz.prog 10 #[.slice A 2 c] x fun e w' => e = .returned (.string ⟨#[2, 1, 97, 1, 49, 1, 98, 1, 50]⟩) ∧ Below x.heap.size x w') := fun x A c h => by
    have := key12_any A c [([97], [49]), ([98], [50])] x h ⟨by simp, fun e he => by
      simp only [List.mem_cons, List.not_mem_nil, or_false] at he
      rcases he with rfl | rfl <;> simp⟩
    rw [exam12b] at this
    exact this
  clear ho hz hrd hb0 hT
  go_enter Tryz.func7, Tryz.ntmps7
  go_wp2_with fail
  refine HO.out.mono ?_
  rintro e w1 ⟨v, rfl, ⟨A, c, rfl, hr1, _⟩, hb1⟩
  have HB1 := Lib.hid (bb HB.out hb1)
  have HR1 := Lib.hid hr1
  clear hr1 hb1 HO
  go_wp2_with fail
  refine (HA.out _ HB1.out).mono ?_
  rintro e w2 ⟨rfl, hb2⟩
  have HB2 := Lib.hid (bb HB1.out hb2)
  have HK := Lib.hid (HKY.out w2 A c (HR1.out.below hb2))
  clear hb2 HKY
  go_wp2_with fail
  refine HK.out.mono ?_
  rintro e w3 ⟨rfl, hb3⟩
  have HB3 := Lib.hid (bb HB2.out hb3)
  clear hb3
  go_wp2_with fail
  go_ret
  exact ⟨rfl, HB3.out⟩
/-- What may come of some: few, and of few bytes. -/
theorem efew_iff (l : List Ent) : efew l = true ↔ (∀ e ∈ l, e.1.length + e.2.length ≤ 600) ∧ l.length ≤ 40 := by
  unfold efew
  rw [Bool.and_eq_true, List.all_eq_true]
  simp
theorem emil_few {l m : List Ent} (h : efew l = true) (hp : m.Perm l) : EMil m := by
  obtain ⟨h1, h2⟩ := (efew_iff l).1 h
  refine ⟨by rw [hp.length_eq]; omega, fun e he => ?_⟩
  have := h1 e (hp.mem_iff.1 he)
  omega
theorem emil_64 {l : List Ent} (h : EMil l) : ∀ e ∈ l, e.1.length < 18446744073709551616 ∧ e.2.length < 18446744073709551616 := fun e he => by have := h.2 e he; omega
theorem dapart_walk (A B : Option Addr) (cap cap' : Nat) (a b : List Ent) (w : World) (hT : Tabs w) (hr : Rd w A (ents a)) (hs : Rd w B (ents b)) (hz : ESz a) (hy : ESz b) (hl : a.length ≤ 9223372036854775807) (hm : b.length ≤ 9223372036854775807) :
    Calls Tryz.prog 3 #[.slice A a.length cap, .slice B b.length cap'] w fun e w' => e = .returned (.bool true) ∧ Below w.heap.size w w' := by
  have HA := Lib.hid (awake12 w hT)
  have hb1 : Below w.heap.size w w := b0
  have HT : Hid (Tabs w) := hT
  have HF1 : Hid (∀ x : World, Below w.heap.size w x → Calls Tryz.prog 8 #[.slice A a.length cap] x fun e w' => e = .returned (.bool (efew a)) ∧ Below x.heap.size x w') := fun x hx => efew_any A cap a x (hr.below hx) hz hl
  have HF2 : Hid (∀ x : World, Below w.heap.size w x → Calls Tryz.prog 8 #[.slice B b.length cap'] x fun e w' => e = .returned (.bool (efew b)) ∧ Below x.heap.size x w') := fun x hx => efew_any B cap' b x (hs.below hx) hy hm
  have HO1 : Hid (∀ x : World, Below w.heap.size w x → Calls Tryz.prog 9 #[.slice A a.length cap] x (OfEnd12 x a)) := fun x hx => of12_any A cap a x (hr.below hx) hz hl (HT.out.below hx)
  have HO2 : Hid (∀ x : World, Below w.heap.size w x → Calls Tryz.prog 9 #[.slice B b.length cap'] x (OfEnd12 x b)) := fun x hx => of12_any B cap' b x (hs.below hx) hy hm (HT.out.below hx)
  clear hT hr hs hz hy
  generalize hfa : efew a = fa at HF1
  generalize hfb : efew b = fb at HF2
  have HFA := Lib.hid hfa
  have HFB := Lib.hid hfb
  clear hfa hfb
  go_enter Tryz.func3, Tryz.ntmps3
  go_wp2_with fail
  refine (HA.out).mono ?_
  rintro e w1 ⟨rfl, hb2⟩
  replace hb1 := bb hb1 hb2
  skip
  clear hb2
  cases fa with
  | false =>
    go_wp2_with fail
    refine (HF1.out _ hb1).mono ?_
    rintro e w2 ⟨rfl, hb2⟩
    replace hb1 := bb hb1 hb2
    skip
    clear hb2
    go_wp2_with fail
    go_ret
    exact ⟨rfl, hb1⟩
  | true =>
  go_wp2_with fail
  refine (HF1.out _ hb1).mono ?_
  rintro e w2 ⟨rfl, hb2⟩
  replace hb1 := bb hb1 hb2
  skip
  clear hb2
  cases fb with
  | false =>
    go_wp2_with fail
    refine (HF2.out _ hb1).mono ?_
    rintro e w3 ⟨rfl, hb2⟩
    replace hb1 := bb hb1 hb2
    skip
    clear hb2
    go_wp2_with fail
    go_ret
    exact ⟨rfl, hb1⟩
  | true =>
  go_wp2_with fail
  refine (HF2.out _ hb1).mono ?_
  rintro e w3 ⟨rfl, hb2⟩
  replace hb1 := bb hb1 hb2
  skip
  clear hb2
  go_wp2_with fail
  refine (HO1.out _ hb1).mono ?_
  rintro e w4 ⟨v1, rfl, ⟨A1, c1, rfl, hx, _⟩, hb2⟩
  replace hb1 := bb hb1 hb2
  have hq : Below w4.heap.size w4 w4 := b0
  have HX := Lib.hid hx
  clear hb2 hx
  have hd1 := fun h => dof_ok (chk := echk) (l := a) h
  have hd2 := fun h => dof_ok (chk := echk) (l := b) h
  go_wp2_with fail
  refine (HO2.out _ hb1).mono ?_
  rintro e w5 ⟨v2, rfl, ⟨A2, c2, rfl, hx, _⟩, hb2⟩
  replace hb1 := bb hb1 hb2
  replace hq := bb hq hb2
  have hp : Below w5.heap.size w5 w5 := b0
  have HY := Lib.hid hx
  clear hb2 hx
  generalize dof echk a = DX at *
  generalize dof echk b = DY at *
  obtain ⟨X, E⟩ := DX
  obtain ⟨Y, F⟩ := DY
  simp only at HX HY hd1 hd2
  by_cases hE : E = 0
  · by_cases hF : F = 0
    · subst hE hF
      obtain ⟨x1, x2, _⟩ := hd1 rfl
      obtain ⟨y1, y2, _⟩ := hd2 rfl
      have HEX : Hid (EMil X) := by show EMil X; rw [x1]; exact emil_few HFA.out (esort_perm a)
      have HEY : Hid (EMil Y) := by show EMil Y; rw [y1]; exact emil_few HFB.out (esort_perm b)
      rw [← x1] at x2
      rw [← y1] at y2
      have hap : ∀ r, dkey Y = dkey X ++ r → X = Y := fun r e => dkey_apart x2 y2 (emil_64 HEX.out) (emil_64 HEY.out) e
      have hap2 : ∀ r, dkey X = dkey Y ++ r → Y = X := fun r e => dkey_apart y2 x2 (emil_64 HEY.out) (emil_64 HEX.out) e
      obtain ⟨R, hR⟩ : ∃ R, Lib.compareBytes (dkey X) (dkey Y) = R := ⟨_, rfl⟩
      obtain ⟨S, hS⟩ : ∃ S, decide (X = Y) = S := ⟨_, rfl⟩
      have HRR := Lib.hid hR
      have HSS := Lib.hid hS
      have HKK : Hid (∀ x : World, Below w4.heap.size w4 x → Below w5.heap.size w5 x → Calls Tryz.prog 12 #[.slice A1 X.length c1, .slice A2 Y.length c2] x fun e w' => e = .returned (.int .i64 R) ∧ Below x.heap.size x w') := fun x hx hy => by
        rw [← HRR.out]
        exact cmp12_any A1 A2 c1 c2 X Y x (HX.out.below hx) (HY.out.below hy) HEX.out HEY.out
      have HK1 : Hid (∀ x : World, Below w4.heap.size w4 x → Calls Tryz.prog 10 #[.slice A1 X.length c1] x fun e w' => e = .returned (.string (txt (dkey X))) ∧ Below x.heap.size x w') := fun x hx => key12_any A1 c1 X x (HX.out.below hx) HEX.out
      have HK2 : Hid (∀ x : World, Below w5.heap.size w5 x → Calls Tryz.prog 10 #[.slice A2 Y.length c2] x fun e w' => e = .returned (.string (txt (dkey Y))) ∧ Below x.heap.size x w') := fun x hx => key12_any A2 c2 Y x (HY.out.below hx) HEY.out
      have HEQ : Hid (∀ x : World, Below w4.heap.size w4 x → Below w5.heap.size w5 x → Calls Tryz.prog 11 #[.slice A1 X.length c1, .slice A2 Y.length c2] x fun e w' => e = .returned (.bool S) ∧ Below x.heap.size x w') := fun x hx hy => by
        rw [← HSS.out]
        exact eequ_any A1 A2 c1 c2 X Y x (HX.out.below hx) (HY.out.below hy) (by have := HEX.out.1; omega)
      have hri := cmpB_iff (dkey X) (dkey Y)
      rw [hR] at hri
      clear x1 x2 y1 y2 hd1 hd2 HO1 HO2 HF1 HF2 HA
      by_cases hxy : X = Y
      · have hS1 : S = true := by rw [← hS]; exact decide_eq_true hxy
        have hks : ((txt (dkey X)).toList == (txt (dkey Y)).toList) = true := str_same (by rw [hxy])
        have hR0 : R = 0 := hri.2 (by rw [hxy])
        subst hS1 hR0
        clear hap hap2 hri hS hR hxy HRR HSS
        generalize txt (dkey X) = K at *
        generalize txt (dkey Y) = M at *
        go_wp2_with fail
        refine (HK1.out _ hq).mono ?_
        rintro e w6 ⟨rfl, hb2⟩
        replace hb1 := bb hb1 hb2
        replace hq := bb hq hb2; replace hp := bb hp hb2
        clear hb2
        go_wp2_with fail
        refine (HK2.out _ hp).mono ?_
        rintro e w7 ⟨rfl, hb2⟩
        replace hb1 := bb hb1 hb2
        replace hq := bb hq hb2; replace hp := bb hp hb2
        clear hb2
        go_wp2_with fail
        refine (HEQ.out _ hq hp).mono ?_
        rintro e w8 ⟨rfl, hb2⟩
        replace hb1 := bb hb1 hb2
        replace hq := bb hq hb2; replace hp := bb hp hb2
        clear hb2
        go_wp2_with fail
        refine (HKK.out _ hq hp).mono ?_
        rintro e w9 ⟨rfl, hb2⟩
        replace hb1 := bb hb1 hb2
        skip
        clear hb2
        go_wp2_with fail
        go_ret
        exact ⟨rfl, hb1⟩
      · have hS1 : S = false := by rw [← hS]; exact decide_eq_false hxy
        have hR0 : (R == 0) = false := by rw [beq_eq_false_iff_ne]; exact fun e => hxy (hap [] (by rw [hri.1 e, List.append_nil]))
        have hks : ((txt (dkey X)).toList == (txt (dkey Y)).toList) = false := str_else fun e => hxy (hap [] (by rw [txt_inj.1 e, List.append_nil]))
        have hk1 : ∀ n, ((txt (dkey X)).toList == ((txt (dkey Y)).extract 0 n).toList) = false := fun n => str_else fun e => by
          have h2 := congrArg (fun s : ByteArray => s.data.toList) e
          simp only [ext_list, txt_list, List.drop_zero, Nat.sub_zero] at h2
          exact hxy (hap ((dkey Y).drop n) (by rw [h2, List.take_append_drop]))
        have hk2 : ∀ n, ((txt (dkey Y)).toList == ((txt (dkey X)).extract 0 n).toList) = false := fun n => str_else fun e => by
          have h2 := congrArg (fun s : ByteArray => s.data.toList) e
          simp only [ext_list, txt_list, List.drop_zero, Nat.sub_zero] at h2
          exact hxy (hap2 ((dkey X).drop n) (by rw [h2, List.take_append_drop])).symm
        subst hS1
        clear hap hap2 hri hS hR hxy HRR HSS
        generalize txt (dkey X) = K at *
        generalize txt (dkey Y) = M at *
        go_wp2_with fail
        refine (HK1.out _ hq).mono ?_
        rintro e w6 ⟨rfl, hb2⟩
        replace hb1 := bb hb1 hb2
        replace hq := bb hq hb2; replace hp := bb hp hb2
        clear hb2
        go_wp2_with fail
        refine (HK2.out _ hp).mono ?_
        rintro e w7 ⟨rfl, hb2⟩
        replace hb1 := bb hb1 hb2
        replace hq := bb hq hb2; replace hp := bb hp hb2
        clear hb2
        go_wp2_with fail
        refine (HEQ.out _ hq hp).mono ?_
        rintro e w8 ⟨rfl, hb2⟩
        replace hb1 := bb hb1 hb2
        replace hq := bb hq hb2; replace hp := bb hp hb2
        clear hb2
        go_wp2_with fail
        refine (HKK.out _ hq hp).mono ?_
        rintro e w9 ⟨rfl, hb2⟩
        replace hb1 := bb hb1 hb2
        skip
        clear hb2
        go_wp2_with fail
        go_ret
        exact ⟨rfl, hb1⟩
    · have hFi : (F != 0) = true := by rw [bne_iff_ne]; exact hF
      subst hE
      clear hF
      go_wp2_with fail
      go_ret
      exact ⟨rfl, hb1⟩
  · have hEi : (E != 0) = true := by rw [bne_iff_ne]; exact hE
    clear hE
    go_wp2_with fail
    go_ret
    exact ⟨rfl, hb1⟩
end Go.Proofs.YtgbgbdocgpdkgaaGreatDoor
end
