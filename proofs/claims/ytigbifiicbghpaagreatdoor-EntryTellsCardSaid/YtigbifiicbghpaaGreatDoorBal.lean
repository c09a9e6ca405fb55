/-
  Texts of the proof, joined: WireLaw Pick3 Entry2 REntry EntryB. Conditions: as each names.
-/
import Derived.Test.YtigbifiicbghpaaGreatDoorBak
import Derived.Test.YtigbifiicbghpaaGreatDoorBab
import Derived.Test.YtigbifiicbghpaaGreatDoorBag
import Derived.Laws.StructEq
import Derived.Shelf.SlicesE.Kit
import Derived.Deep.RegionHeld3
import Derived.Test.YtigbifiicbghpaaGreatDoorBaj

section
/-
  The walks of the statements of layer 9: the chapter's example; any fields as they are written. Conditions: numbers within their kinds; Go's tables of UTF-8 lie in memory.
-/
namespace Go.Proofs.YtigbifiicbghpaaGreatDoor
open Go.RowKit Go.PM
set_option maxRecDepth 100000
set_option maxHeartbeats 1500000

theorem oftext_any (t : Nat) (s : ByteArray) (w : World) :
    Calls Tryz.prog 103 #[.int .u64 (t : Int), .string s] w fun e w' => e = .returned (.agg #[.int .u64 (t : Int), .int .i64 1, .int .u64 0, .string s, .slice none 0 0]) ∧ Below w.heap.size w w' := by
  go_enter Tryz.func103, Tryz.ntmps103
  go_wp2
  exact bodyPost_ret (v := .agg #[.int .u64 (t : Int), .int .i64 1, .int .u64 0, .string s, .slice none 0 0]) (by simp [results, Tryz.results103, go_sem]; try rfl) rfl ⟨rfl, ba b0 _⟩
def exam9 : Fs := fnum 1 300 (.cons 2 1 0 ⟨#[97, 98]⟩ .nil .nil)
theorem exam9_tx : ftx exam9 = [4, 172, 2, 9, 2, 97, 98] := by
  have e1 : vput (4 * 1 + Int.toNat 0) = [4] := vput_small (by decide)
  have e2 : vput 300 = [172, 2] := by rw [vput_big (by decide), vput_small (by decide)]; rfl
  have e3 : vput (4 * 2 + Int.toNat 1) = [9] := vput_small (by decide)
  have e4 : vput (ByteArray.mk #[97, 98]).size = [2] := vput_small (by decide)
  show vput (4 * 1 + Int.toNat 0) ++ (vput 300 ++ (vput (4 * 2 + Int.toNat 1) ++ ((vput (ByteArray.mk #[97, 98]).size ++ [97, 98]) ++ []))) = _
  rw [e1, e2, e3, e4]
  rfl
theorem exam9_put : txt (fput exam9).1 = ⟨#[4, 172, 2, 9, 2, 97, 98]⟩ ∧ (fput exam9).2 = 0 := by
  have h1 : fcheck exam9 0 0 = 0 := by decide
  unfold fput
  rw [h1, if_neg (by simp), exam9_tx, if_neg (by decide)]
  exact ⟨rfl, rfl⟩
theorem awake09 (w : World) (hT : Tabs w) :
    Calls Tryz.prog 92 #[] w fun e w' => e = .returned (.bool true) ∧ Below w.heap.size w w' := by
  have hb1 : Below w.heap.size w w := b0
  have HA : Hid (∀ x : World, Below w.heap.size w x → Calls Tryz.prog 104 #[] x fun e w' => e = .returned (.bool true) ∧ Below x.heap.size x w') := fun x hx => awakeE08 x (hT.below hx)
  have H1 : Hid (∀ W : World, Calls Tryz.prog 102 #[.slice (some ⟨W.heap.size, 0, none⟩) 2 2] (W.alloc (.cells #[.int .u64 1, .int .i64 0, .int .u64 300, .string ByteArray.empty, .slice none 0 0, .int .u64 2, .int .i64 1, .int .u64 0, .string ⟨#[97, 98]⟩, .slice none 0 0] 106)) fun e w' => e = .returned (.tuple #[.string ⟨#[4, 172, 2, 9, 2, 97, 98]⟩, .int .i64 0]) ∧ Below W.heap.size W w') := fun W => by
    have hs : SlV (W.alloc (.cells #[.int .u64 1, .int .i64 0, .int .u64 300, .string ByteArray.empty, .slice none 0 0, .int .u64 2, .int .i64 1, .int .u64 0, .string ⟨#[97, 98]⟩, .slice none 0 0] 106)) (fun _ => True) (.slice (some ⟨W.heap.size, 0, none⟩) 2 2) exam9 :=
      slv_blk (f := exam9) (BlkAt.made W _ _) ⟨rfl, rfl, rfl, rfl, SlV.nil _ _ _ _, rfl, rfl, rfl, rfl, SlV.nil _ _ _ _, trivial⟩ trivial (Nat.le_refl 2)
    have := wput_of _ exam9 _ _ hs ⟨⟨by unfold In64; omega, by unfold InI64; omega, by unfold In64; omega, by decide⟩, trivial, ⟨by unfold In64; omega, by unfold InI64; omega, by unfold In64; omega, by decide⟩, trivial, trivial⟩ (by decide) (by rw [exam9_tx]; decide)
    rw [exam9_put.1, exam9_put.2] at this
    exact this.mono fun e w' h => ⟨h.1, bb (ba b0 _) h.2⟩
  clear hT
  go_enter Tryz.func92, Tryz.ntmps92
  go_wp2_with fail
  refine (ofnum_any 1 300 _).mono ?_
  rintro e w2 ⟨rfl, hb2⟩
  replace hb1 := bb hb1 hb2
  clear hb2
  go_wp2_with fail
  refine (oftext_any 2 ⟨#[97, 98]⟩ _).mono ?_
  rintro e w3 ⟨rfl, hb2⟩
  replace hb1 := bb hb1 hb2
  clear hb2
  go_wp2_with fail
  refine (H1.out _).mono ?_
  rintro e w4 ⟨rfl, hb2⟩
  replace hb1 := bb hb1 hb2
  clear hb2
  go_wp2_with fail
  refine (HA.out _ hb1).mono ?_
  rintro e w5 ⟨rfl, hb2⟩
  replace hb1 := bb hb1 hb2
  clear hb2
  go_wp2
  go_ret
  exact ⟨rfl, hb1⟩
theorem awakeE09 (w : World) (hT : Tabs w) : Calls Tryz.prog 70 #[] w fun e w' => e = .returned (.bool true) ∧ Below w.heap.size w w' := by
  have H := Lib.hid (awake09 w hT)
  clear hT
  go_enter Tryz.func70, Tryz.ntmps70
  go_wp2_with fail
  refine H.out.mono ?_
  rintro e w' ⟨rfl, hb⟩
  go_wp2
  go_ret
  exact ⟨rfl, hb⟩
theorem ftx_le : ∀ {f : Fs}, f.All FOk → f.count ≤ 1000000 → (ftx f).length ≤ 330 * f.count
  | .nil, _, _ => by simp [ftx]
  | .cons t y n s i r, hk, h60 => by
    simp only [Fs.count] at h60
    have hi := ftx_le (f := i) hk.2.1 (by omega)
    have hr := ftx_le (f := r) hk.2.2 (by omega)
    obtain ⟨h1, h2, h3, h4⟩ := hk.1
    have e1 : vsz (4 * t + y.toNat) ≤ 10 := vsz_le 9 _ (by have : (128 : Nat) ^ (9 + 1) = 1180591620717411303424 := by decide
                                                           unfold In64 at h1; omega)
    have e2 := vsz_le10 h3
    have e3 : vsz s.size ≤ 10 := vsz_le10 (by show s.size < 18446744073709551616; omega)
    have e4 : vsz (ftx i).length ≤ 10 := vsz_le10 (by show (ftx i).length < 18446744073709551616; omega)
    simp only [ftx, Fs.count, List.length_append, vput_length]
    by_cases y0 : y = 0
    · rw [if_pos y0, vput_length]; omega
    · rw [if_neg y0]
      by_cases y1 : y = 1
      · rw [if_pos y1, List.length_append, vput_length, len_list]; omega
      · rw [if_neg y1, List.length_append, vput_length]; omega
theorem fsz_put {f : Fs} (h : (ftx f).length ≤ 65536) : (fput f).1.length = fszB f := by
  unfold fput fszB
  by_cases e : fcheck f 0 0 ≠ 0
  · rw [if_pos e, if_pos e]; rfl
  · rw [if_neg e, if_neg e, if_neg (by omega)]
end Go.Proofs.YtigbifiicbghpaaGreatDoor
end

section
/-
  Layer 10: all tags (pick.Tags), and the chapter's example. Conditions: at most a million fields; Go's tables of UTF-8 lie in memory.
-/
namespace Go.Proofs.YtigbifiicbghpaaGreatDoor
open Go.RowKit Go.PM
set_option maxRecDepth 100000
set_option maxHeartbeats 2000000
attribute [local go_sem ↓] Go.wp_at_zero Go.wp_at_succ

theorem info_pu64 : (Tryz.prog.info? 76).map (fun i => (i.zero, i.size, i.bytes)) = some (some (.int .u64 0), 1, 8) := by kernel_rfl
/-- All fields' tags. -/
def ftags (f : Fs) : List Nat := f.toL.map Fl.tag
theorem ftags_len (f : Fs) : (ftags f).length = f.len := by rw [ftags, List.length_map, toL_len]
theorem slv_tag {w : World} {I : Nat → Prop} {A : Option Addr} {c : Nat} {f : Fs} (h : SlV w I (.slice A f.len c) f) (k : Nat) (hk : k < f.len) :
    ∃ b o, A = some ⟨b, o, none⟩ ∧ b < w.heap.size ∧ w.cell? ⟨b, o + k * 5, none⟩ = some (.int .u64 ((f.toL[k]'(by rw [toL_len]; exact hk)).tag : Int)) := by
  obtain ⟨A', c', hv, hc, hor⟩ := h
  injection hv with e1 e2 e3
  subst e1 e3
  rcases hor with h0 | ⟨b, o, rfl, hI, hb, hat⟩
  · omega
  · obtain ⟨t, y, n, s, i, hd, _⟩ := f.drop_cons k hk
    have h1 := hat.drop k
    rw [hd] at h1
    have h2 := toL_drop hd
    rw [List.getElem?_eq_getElem (by rw [toL_len]; exact hk)] at h2
    injection h2 with h2
    rw [h2]
    exact ⟨b, o, rfl, hb, h1.1⟩
theorem tags_any (A : Option Addr) (c : Nat) (f : Fs) (I : Nat → Prop) (w : World) (hr : SlV w I (.slice A f.len c) f) (hl : f.len ≤ 1000000) :
    Calls Tryz.prog 72 #[.slice A f.len c] w fun e w' => ∃ (A' : Option Addr) (c' : Nat), e = .returned (.slice A' f.len c') ∧ PM.Rd w' A' (u64s (ftags f)) ∧ f.len ≤ c' ∧ Below w.heap.size w w' := by
  obtain ⟨i0, hi0, hz0, hz1, hz2⟩ := info_parts info_pu64
  have HR := Lib.hid hr
  have hcc : f.len ≤ c := by obtain ⟨A', c', hv, hc, _⟩ := hr; injection hv with e1 e2 e3; omega
  have H0 : Hid (w.ownsRow w.heap.size 76 1 (.slice none 0 0) 0 (u64s ((ftags f).take 0))) := World.ownsRow_nil _ _ _ _
  clear hr
  go_enter Tryz.func72, Tryz.ntmps72
  go_wp2_with fail
  go_loopg [3, 7] f.len (fun gk vv ki wr => ∃ k : Nat, k ≤ f.len ∧ f.len - k ≤ gk ∧ ki = .int .i64 (k : Int) ∧ Hid (wr.ownsRow w.heap.size 76 1 vv k (u64s ((ftags f).take k))) ∧ Below w.heap.size w wr)
  case atStart => exact ⟨0, Nat.zero_le _, by omega, rfl, H0, b0⟩
  case round =>
    obtain ⟨k, hkl, hgk, rfl, HO, hb⟩ := hrel
    have HB := Lib.hid hb
    by_cases hlt : k < f.len
    · obtain ⟨b, o, rfl, hbl, hcell⟩ := slv_tag (HR.out.below hb) k hlt
      have hkt : k < f.toL.length := by rw [toL_len]; exact hlt
      have HTK : Hid (u64s ((ftags f).take (k + 1)) = u64s ((ftags f).take k) ++ [.int .u64 ((f.toL[k]'hkt).tag : Int)]) := by
        show _ = _
        rw [← List.take_append_getElem (show k < (ftags f).length by rw [ftags_len]; exact hlt)]
        simp [u64s, ftags]
      generalize (f.toL[k]'hkt).tag = t at *
      have hwz := hb.size
      clear hb hkt
      go_wp2_with (at_builtin; go_must (refine wpList_append_own _ rfl _ _ 109 rfl w.heap.size 76 i0 (.int .u64 0) 1 8 Tryz.underlying109 hi0 hz0 hz1 hz2 rfl (by decide) _ _ _ rfl (HO.out.alloc _) ⟨wr.heap.size, 0, none⟩ 1 1 [.int .u64 (t : Int)] rfl rfl (one_new _ _ _) (one_cell_int _ _) (by unfold maxLen; omega) (by omega) (by simp; omega) ?_); intro v1 w2 hown2 hg2 _)
      go_roundg (f.len - (k + 1))
      case measure => omega
      case rel =>
        refine ⟨k + 1, by omega, Nat.le_refl _, by go_num, ?_, below_append (ba HB.out _) (HO.out.alloc _) hg2⟩
        show World.ownsRow _ _ _ _ _ _ _
        rw [HTK.out]
        exact hown2
    · obtain rfl : k = f.len := by omega
      have ho := HO.out
      rw [List.take_of_length_le (by rw [ftags_len]; exact Nat.le_refl _)] at ho
      obtain ⟨A2, c2, rfl, hrd, hn, _⟩ := PM.Rd.own ho
      have HE := Lib.hid (And.intro hrd hn)
      clear ho hrd hn hb HO
      go_wp2_with fail
      go_ret
      exact ⟨A2, c2, rfl, HE.out.1, HE.out.2, HB.out⟩
theorem exam10 : fmerge [fnum 1 0 (fnum 3 0 .nil), fnum 2 0 .nil] = (fnum 1 0 (fnum 2 0 (fnum 3 0 .nil)), 0) := rfl
theorem exam10_kd : ∀ f ∈ [fnum 1 0 (fnum 3 0 .nil), fnum 2 0 .nil], f.All FKd := by
  intro f hf
  simp only [List.mem_cons, List.not_mem_nil, or_false] at hf
  rcases hf with rfl | rfl
  · exact ⟨⟨by unfold In64; omega, by unfold InI64; omega, by unfold In64; omega, by decide⟩, trivial, ⟨by unfold In64; omega, by unfold InI64; omega, by unfold In64; omega, by decide⟩, trivial, trivial⟩
  · exact ⟨⟨by unfold In64; omega, by unfold InI64; omega, by unfold In64; omega, by decide⟩, trivial, trivial⟩
theorem awake10 (w : World) (hT : Tabs w) :
    Calls Tryz.prog 58 #[] w fun e w' => e = .returned (.bool true) ∧ Below w.heap.size w w' := by
  have hb1 : Below w.heap.size w w := b0
  have HA : Hid (∀ x : World, Below w.heap.size w x → Calls Tryz.prog 70 #[] x fun e w' => e = .returned (.bool true) ∧ Below x.heap.size x w') := fun x hx => awakeE09 x (hT.below hx)
  clear hT
  go_enter Tryz.func58, Tryz.ntmps58
  go_wp2_with fail
  refine (ofnum_any 1 0 _).mono ?_
  rintro e w2 ⟨rfl, hb2⟩
  replace hb1 := bb hb1 hb2
  clear hb2
  go_wp2_with fail
  refine (ofnum_any 3 0 _).mono ?_
  rintro e w3 ⟨rfl, hb2⟩
  replace hb1 := bb hb1 hb2
  clear hb2
  go_wp2_with fail
  refine (ofnum_any 2 0 _).mono ?_
  rintro e w4 ⟨rfl, hb4⟩
  have hx1 := (((BlkAt.made w3 106 #[.int .u64 1, .int .i64 0, .int .u64 0, .string ByteArray.empty, .slice none 0 0, .int .u64 3, .int .i64 0, .int .u64 0, .string ByteArray.empty, .slice none 0 0]).below hb4 (by simp)).more (.cells #[.int .u64 2, .int .i64 0, .int .u64 0, .string ByteArray.empty, .slice none 0 0] 106)).more (.cells #[.slice (some ⟨w3.heap.size, 0, none⟩) 2 2, .slice (some ⟨w4.heap.size, 0, none⟩) 1 1] 102)
  have hx2 := (BlkAt.made w4 106 #[.int .u64 2, .int .i64 0, .int .u64 0, .string ByteArray.empty, .slice none 0 0]).more (.cells #[.slice (some ⟨w3.heap.size, 0, none⟩) 2 2, .slice (some ⟨w4.heap.size, 0, none⟩) 1 1] 102)
  have hx3 := BlkAt.made (w4.alloc (.cells #[.int .u64 2, .int .i64 0, .int .u64 0, .string ByteArray.empty, .slice none 0 0] 106)) 102 #[.slice (some ⟨w3.heap.size, 0, none⟩) 2 2, .slice (some ⟨w4.heap.size, 0, none⟩) 1 1]
  rw [World.size_alloc] at hx3
  have hs1 : SlV ((w4.alloc (.cells #[.int .u64 2, .int .i64 0, .int .u64 0, .string ByteArray.empty, .slice none 0 0] 106)).alloc (.cells #[.slice (some ⟨w3.heap.size, 0, none⟩) 2 2, .slice (some ⟨w4.heap.size, 0, none⟩) 1 1] 102)) (fun _ => True) (.slice (some ⟨w3.heap.size, 0, none⟩) 2 2) (fnum 1 0 (fnum 3 0 .nil)) := slv_blk (f := (fnum 1 0 (fnum 3 0 .nil))) hx1 ⟨rfl, rfl, rfl, rfl, SlV.nil _ _ _ _, rfl, rfl, rfl, rfl, SlV.nil _ _ _ _, trivial⟩ trivial (Nat.le_refl 2)
  have hs2 : SlV ((w4.alloc (.cells #[.int .u64 2, .int .i64 0, .int .u64 0, .string ByteArray.empty, .slice none 0 0] 106)).alloc (.cells #[.slice (some ⟨w3.heap.size, 0, none⟩) 2 2, .slice (some ⟨w4.heap.size, 0, none⟩) 1 1] 102)) (fun _ => True) (.slice (some ⟨w4.heap.size, 0, none⟩) 1 1) (fnum 2 0 .nil) := slv_blk (f := (fnum 2 0 .nil)) hx2 ⟨rfl, rfl, rfl, rfl, SlV.nil _ _ _ _, trivial⟩ trivial (Nat.le_refl 1)
  have hm := merge_any (some ⟨w4.heap.size + 1, 0, none⟩) 2 [(fnum 1 0 (fnum 3 0 .nil)), (fnum 2 0 .nil)] [.slice (some ⟨w3.heap.size, 0, none⟩) 2 2, .slice (some ⟨w4.heap.size, 0, none⟩) 1 1] (fun _ => True) ((w4.alloc (.cells #[.int .u64 2, .int .i64 0, .int .u64 0, .string ByteArray.empty, .slice none 0 0] 106)).alloc (.cells #[.slice (some ⟨w3.heap.size, 0, none⟩) 2 2, .slice (some ⟨w4.heap.size, 0, none⟩) 1 1] 102))
    (.inr ⟨_, 0, rfl, hx3.lt, fun j u hj => by rw [Nat.zero_add, hx3.cell j, ← Array.getElem?_toList]; exact hj⟩) ⟨hs1, hs2, trivial⟩
    exam10_kd (by decide) (by decide)
  rw [exam10] at hm
  have HM : Hid (Calls Tryz.prog 68 #[.slice (some ⟨w4.heap.size + 1, 0, none⟩) 2 2] ((w4.alloc (.cells #[.int .u64 2, .int .i64 0, .int .u64 0, .string ByteArray.empty, .slice none 0 0] 106)).alloc (.cells #[.slice (some ⟨w3.heap.size, 0, none⟩) 2 2, .slice (some ⟨w4.heap.size, 0, none⟩) 1 1] 102)) fun e w' => ∃ (A : Option Addr) (c : Nat), e = .returned (.tuple #[.slice A 3 c, .int .i64 0]) ∧ SlV w' (fun _ => True) (.slice A 3 c) (fnum 1 0 (fnum 2 0 (fnum 3 0 .nil))) ∧ Below w4.heap.size w4 w') := hm.mono fun e w' h => by
    obtain ⟨A, c, he, hs, hb⟩ := h
    exact ⟨A, c, he, hs.imp fun _ _ => trivial, bb (ba (ba b0 _) _) hb⟩
  replace hb1 := bb hb1 (bb (ba b0 _) hb4)
  clear hx1 hx2 hx3 hs1 hs2 hm hb4
  go_wp2_with fail
  refine HM.out.mono ?_
  rintro e w5 ⟨A5, c5, rfl, hs5, hb5⟩
  replace hb1 := bb hb1 hb5
  have HS5 := Lib.hid hs5
  clear HM hs5 hb5
  go_wp2_with fail
  refine (HA.out _ hb1).mono ?_
  rintro e w6 ⟨rfl, hb6⟩
  replace hb1 := bb hb1 hb6
  have HTG : Hid (Calls Tryz.prog 72 #[.slice A5 3 c5] w6 fun e w' => ∃ (A' : Option Addr) (c' : Nat), e = .returned (.slice A' 3 c') ∧ PM.Rd w' A' (u64s [1, 2, 3]) ∧ 3 ≤ c' ∧ Below w6.heap.size w6 w') := tags_any A5 c5 (fnum 1 0 (fnum 2 0 (fnum 3 0 .nil))) _ w6 (HS5.out.below hb6) (by decide)
  clear hb6
  go_wp2_with fail
  refine HTG.out.mono ?_
  rintro e w7 ⟨A7, c7, rfl, hr7, hc7, hb7⟩
  replace hb1 := bb hb1 hb7
  have hx7 := BlkAt.made w7 76 #[.int .u64 1, .int .u64 2, .int .u64 3]
  have HEQ : Hid (Calls Tryz.prog 71 #[.slice A7 3 c7, .slice (some ⟨w7.heap.size, 0, none⟩) 3 3] (w7.alloc (.cells #[.int .u64 1, .int .u64 2, .int .u64 3] 76)) fun e w' => e = .returned (.bool true) ∧ Below w7.heap.size w7 w') :=
    (equ64 A7 (some ⟨w7.heap.size, 0, none⟩) c7 3 [1, 2, 3] (w7.alloc (.cells #[.int .u64 1, .int .u64 2, .int .u64 3] 76)) (hr7.below (ba b0 _)) (.inr ⟨_, 0, rfl, hx7.lt, fun j u hj => by rw [Nat.zero_add, hx7.cell j, ← Array.getElem?_toList]; exact hj⟩) (by decide)).mono fun e w' h => ⟨h.1, bb (ba b0 _) h.2⟩
  clear hr7 hb7 hx7 HTG
  go_wp2_with fail
  refine HEQ.out.mono ?_
  rintro e w8 ⟨rfl, hb8⟩
  replace hb1 := bb hb1 hb8
  clear hb8
  go_wp2
  go_ret
  exact ⟨rfl, hb1⟩
theorem awakeE10 (w : World) (hT : Tabs w) : Calls Tryz.prog 38 #[] w fun e w' => e = .returned (.bool true) ∧ Below w.heap.size w w' := by
  have H := Lib.hid (awake10 w hT)
  clear hT
  go_enter Tryz.func38, Tryz.ntmps38
  go_wp2_with fail
  refine H.out.mono ?_
  rintro e w' ⟨rfl, hb⟩
  go_wp2
  go_ret
  exact ⟨rfl, hb⟩
end Go.Proofs.YtigbifiicbghpaaGreatDoor
end

section
/-
  Layer 11: an entry as it is written; two entries compared; the chapter's example. Conditions: texts within int; Go's tables of UTF-8 lie in memory.
-/
namespace Go.Proofs.YtigbifiicbghpaaGreatDoor
open Go.RowKit Go.PM
set_option maxRecDepth 100000
set_option maxHeartbeats 1000000
attribute [local go_sem ↓] Go.wp_at_zero Go.wp_at_succ

theorem ent_eql (x y x' y' : ByteArray) (w : World) : (binOp .eql 23 (.agg #[.string x, .string y]) (.agg #[.string x', .string y'])).run Tryz.prog w = .ok (.bool (decide (x = x' ∧ y = y'))) w := by
  have u9 := Tryz.underlying9
  have a9 := Tryz.isAgg9
  have z9 := Tryz.sizeOf9
  have hS : Tryz.prog.underlying 23 = some (.struct (Tryz.prog.fieldsOf 23)) := by kernel_rfl
  have hp : Tryz.prog.stoodInHeld 23 = false := by kernel_rfl
  have e1 : (x.data = x'.data) = (x = x') := propext ⟨ByteArray.ext, congrArg _⟩
  have e2 : (y.data = y'.data) = (y = y') := propext ⟨ByteArray.ext, congrArg _⟩
  rw [run_eql_struct, show (10000 : Nat) = 9999 + 1 from rfl, run_equalIn_agg w 9999 _ _ _ hS hp]
  simp only [Program.fieldsOf, Tryz.underlying23]
  go_simp
  by_cases h1 : x = x' <;> by_cases h2 : y = y' <;> simp [h1, h2, ByteArray.toList_eq, e1, e2]
theorem ent_neq (x y x' y' : ByteArray) (w : World) : (binOp .neq 23 (.agg #[.string x, .string y]) (.agg #[.string x', .string y'])).run Tryz.prog w = .ok (.bool (!decide (x = x' ∧ y = y'))) w := by
  have u9 := Tryz.underlying9
  have a9 := Tryz.isAgg9
  have z9 := Tryz.sizeOf9
  have hS : Tryz.prog.underlying 23 = some (.struct (Tryz.prog.fieldsOf 23)) := by kernel_rfl
  have hp : Tryz.prog.stoodInHeld 23 = false := by kernel_rfl
  have e1 : (x.data = x'.data) = (x = x') := propext ⟨ByteArray.ext, congrArg _⟩
  have e2 : (y.data = y'.data) = (y = y') := propext ⟨ByteArray.ext, congrArg _⟩
  rw [run_neq_struct, show (10000 : Nat) = 9999 + 1 from rfl, run_equalIn_agg w 9999 _ _ _ hS hp]
  simp only [Program.fieldsOf, Tryz.underlying23]
  go_simp
  by_cases h1 : x = x' <;> by_cases h2 : y = y' <;> simp [h1, h2, ByteArray.toList_eq, e1, e2]
theorem ent_guard : Tryz.prog.eqGuardType Tryz.prog.depth 23 = false := by kernel_rfl
theorem app_listE (a b : ByteArray) : (a ++ b).data.toList = a.data.toList ++ b.data.toList := by rw [ByteArray.data_append, Array.toList_append]
theorem eput_any (k v : ByteArray) (w : World) (hk : k.size ≤ 1000000) (hv : v.size ≤ 1000000) :
    Calls Tryz.prog 14 #[.agg #[.string k, .string v]] w fun e w' => e = .returned (.string (txt (eput k.data.toList v.data.toList))) ∧ Below w.heap.size w w' := by
  have hx := BlkAt.made w 23 #[.string k, .string v]
  have hb := ba (a := w) b0 (.cells #[.string k, .string v] 23)
  have HB := Lib.hid hb
  have H1 : Hid (∀ x : World, Calls Tryz.prog 43 #[.int .u64 (k.size : Int)] x fun e w' => e = .returned (.string (txt (vput k.size))) ∧ Below x.heap.size x w') := fun x => put_any k.size x (by unfold In64; omega)
  have H2 : Hid (∀ x : World, Calls Tryz.prog 43 #[.int .u64 (v.size : Int)] x fun e w' => e = .returned (.string (txt (vput v.size))) ∧ Below x.heap.size x w') := fun x => put_any v.size x (by unfold In64; omega)
  have HE : Hid (((txt (vput k.size) ++ k) ++ txt (vput v.size)) ++ v = txt (eput k.data.toList v.data.toList)) := by
    refine txt_eq ?_
    rw [app_listE, app_listE, app_listE, txt_list, txt_list, eput, len_list, len_list]
    simp
  have wk : IntKind.u64.wrap (k.size : Int) = (k.size : Int) := by rw [IntKind.wrap_u64]; omega
  have wv : IntKind.u64.wrap (v.size : Int) = (v.size : Int) := by rw [IntKind.wrap_u64]; omega
  have hP : (txt (vput k.size)).size ≤ 10 := by rw [txt_size, vput_length]; exact vsz_le10 (by omega)
  have hQ : (txt (vput v.size)).size ≤ 10 := by rw [txt_size, vput_length]; exact vsz_le10 (by omega)
  generalize txt (vput k.size) = P at *
  generalize txt (vput v.size) = Q at *
  have hr1 : ∀ x : World, (Op.stringOp .add P k).run Tryz.prog x = .ok (.string (P ++ k)) x := fun x => run_string_add_sum x P k (by omega)
  have hr2 : ∀ x : World, (Op.stringOp .add (P ++ k) Q).run Tryz.prog x = .ok (.string (P ++ k ++ Q)) x := fun x => run_string_add_sum x _ _ (by rw [ByteArray.size_append]; omega)
  have hr3 : ∀ x : World, (Op.stringOp .add (P ++ k ++ Q) v).run Tryz.prog x = .ok (.string (P ++ k ++ Q ++ v)) x := fun x => run_string_add_sum x _ _ (by rw [ByteArray.size_append, ByteArray.size_append]; omega)
  have HSB : Hid (∀ x : World, Below (w.alloc (.cells #[.string k, .string v] 23)).heap.size (w.alloc (.cells #[.string k, .string v] 23)) x → (x.cell? ⟨w.heap.size, 0, none⟩ = some (.string k) ∧ x.cell? ⟨w.heap.size, 1, none⟩ = some (.string v))) := fun x h => ⟨(hx.below h hx.lt).cell 0, (hx.below h hx.lt).cell 1⟩
  clear hx hb
  go_enter Tryz.func14, Tryz.ntmps14
  go_wp2_with fail
  generalize (w.alloc (.cells #[.string k, .string v] 23)) = wz at HSB HB ⊢
  have hbW : Below wz.heap.size wz wz := b0
  obtain ⟨k0, k1⟩ := HSB.out _ hbW
  go_region_held3 (fun x => x.cell? ⟨w.heap.size, 0, none⟩ = some (.string k) ∧ x.cell? ⟨w.heap.size, 1, none⟩ = some (.string v)) (first | exact HSB.out _ (by repeat (first | exact hbW | refine ba ?_ _ | refine bd ?_)) | go_keep)
    ((first
      | (go_at_call 43; with_reducible show Calls _ _ #[.int .u64 (k.size : Int)] _ _; refine (H1.out _).mono ?_; rintro e' W1 ⟨rfl, hb1'⟩; replace hbW : Below wz.heap.size wz W1 := bb (by repeat (first | exact hbW | refine ba ?_ _ | refine bd ?_)) hb1'; clear hb1'; obtain ⟨k0, k1⟩ := HSB.out _ hbW)
      | (go_at_call 43; refine (H2.out _).mono ?_; rintro e' W1 ⟨rfl, hb1'⟩; replace hbW : Below wz.heap.size wz W1 := bb (by repeat (first | exact hbW | refine ba ?_ _ | refine bd ?_)) hb1'; clear hb1'; obtain ⟨k0, k1⟩ := HSB.out _ hbW)))
  all_goals (go_wp2_with fail; go_ret; exact ⟨by rw [← HE.out]; rfl, bb HB.out (by repeat (first | exact hbW | refine ba ?_ _ | refine bd ?_))⟩)
theorem enext_nil (w : World) : Calls Tryz.prog 10 #[.pointer none] w fun e w' => e = .returned (.tuple #[.agg #[.string ByteArray.empty, .string ByteArray.empty], .int .i64 25]) ∧ Below w.heap.size w w' := by
  have HX := Lib.hid (BlkAt.made w 23 #[.string ⟨#[]⟩, .string ⟨#[]⟩])
  have HB := Lib.hid (ba (a := w) b0 (.cells #[.string ⟨#[]⟩, .string ⟨#[]⟩] 23))
  have HT := Lib.hid (etext_nil (w.alloc (.cells #[.string ⟨#[]⟩, .string ⟨#[]⟩] 23)))
  go_enter Tryz.func10, Tryz.ntmps10
  go_wp2_with fail
  refine HT.out.mono ?_
  rintro e w1 ⟨rfl, hb1⟩
  have hx1 := HX.out.below hb1 HX.out.lt
  have c0 := hx1.cell 0
  have c1 := hx1.cell 1
  have f0 := hx1.free 0
  have f1 := hx1.free 1
  simp at c0 c1
  have HB1 := Lib.hid (bb HB.out hb1)
  have hsz := HB1.out.size
  have HE : Hid (∀ w', Tch (fun j => j = w.heap.size) w1 w' → Below w.heap.size w w') := fun w' ht => HB1.out.trans (ht.toBelowB hsz fun g hg e => by omega)
  clear hb1 hx1
  go_wp2_with fail
  refine bodyPost_ret (v := .tuple #[.agg #[.string ByteArray.empty, .string ByteArray.empty], .int .i64 25]) (by simp [results, Tryz.results10, go_sem, c0, c1]; try rfl) rfl ⟨rfl, HE.out _ (res_two _ _ _ _)⟩
theorem exam11 : txt (eput [97] [98, 99]) = ⟨#[1, 97, 2, 98, 99]⟩ := by
  have e1 : vput 1 = [1] := by rw [vput_small (by omega)]; rfl
  have e2 : vput 2 = [2] := by rw [vput_small (by omega)]; rfl
  show txt (vput 1 ++ ([97] ++ (vput 2 ++ [98, 99]))) = _
  rw [e1, e2]
  rfl
theorem exam11c : echk [97] [98, 99] = 0 := by
  have h1 : ugood [97] = true := by rw [ugood_step (by decide)]; exact ugood_nil
  have h2 : ugood [98, 99] = true := by
    rw [ugood_step (by decide)]
    show ugood [99] = true
    rw [ugood_step (by decide)]; exact ugood_nil
  unfold echk uchk
  rw [h1, h2]
  decide
theorem awake11 (w : World) (hT : Tabs w) :
    Calls Tryz.prog 8 #[] w fun e w' => e = .returned (.bool true) ∧ Below w.heap.size w w' := by
  have hx := BlkAt.made w 23 #[.string ⟨#[97]⟩, .string ⟨#[98, 99]⟩]
  have hb0 := ba (a := w) b0 (.cells #[.string ⟨#[97]⟩, .string ⟨#[98, 99]⟩] 23)
  have HA := Lib.hid (awakeE10 (w.alloc (.cells #[.string ⟨#[97]⟩, .string ⟨#[98, 99]⟩] 23)) (hT.below hb0))
  have HX := Lib.hid hx
  have HB := Lib.hid hb0
  have HP : Hid (∀ x : World, Calls Tryz.prog 14 #[.agg #[.string ⟨#[97]⟩, .string ⟨#[98, 99]⟩]] x fun e w' => e = .returned (.string ⟨#[1, 97, 2, 98, 99]⟩) ∧ Below x.heap.size x w') := fun x => by
    have := eput_any ⟨#[97]⟩ ⟨#[98, 99]⟩ x (by decide) (by decide)
    rw [show (ByteArray.mk #[97]).data.toList = [97] from rfl, show (ByteArray.mk #[98, 99]).data.toList = [98, 99] from rfl, exam11] at this
    exact this
  have HC : Hid (∀ x : World, Below w.heap.size w x → Calls Tryz.prog 12 #[.agg #[.string ⟨#[97]⟩, .string ⟨#[98, 99]⟩]] x fun e w' => e = .returned (.int .i64 0) ∧ Below x.heap.size x w') := fun x hx => by
    have := echeck_any ⟨#[97]⟩ ⟨#[98, 99]⟩ x (by decide) (by decide) (hT.below hx)
    rw [show (ByteArray.mk #[97]).data.toList = [97] from rfl, show (ByteArray.mk #[98, 99]).data.toList = [98, 99] from rfl, exam11c] at this
    exact this
  clear hx hb0 hT
  go_enter Tryz.func8, Tryz.ntmps8
  go_wp2_with fail
  refine HA.out.mono ?_
  rintro e w1 ⟨rfl, hb1⟩
  have HX1 := Lib.hid (HX.out.below hb1 HX.out.lt)
  have HB1 := Lib.hid (bb HB.out hb1)
  have c0 := HX1.out.cell 0
  have c1 := HX1.out.cell 1
  simp at c0 c1
  clear hb1
  go_wp2_with fail
  refine (HP.out _).mono ?_
  rintro e w2 ⟨rfl, hb2⟩
  have HX2 := Lib.hid (HX1.out.below hb2 HX1.out.lt)
  have HB2 := Lib.hid (bb HB1.out hb2)
  clear c0 c1 hb2
  have c0 := HX2.out.cell 0
  have c1 := HX2.out.cell 1
  simp at c0 c1
  go_wp2_with fail
  refine (HC.out _ HB2.out).mono ?_
  rintro e w3 ⟨rfl, hb3⟩
  have HB3 := Lib.hid (bb HB2.out hb3)
  clear hb3
  go_wp2_with fail
  go_ret
  exact ⟨rfl, HB3.out⟩
theorem awakeE11 (w : World) (hT : Tabs w) : Calls Tryz.prog 47 #[] w fun e w' => e = .returned (.bool true) ∧ Below w.heap.size w w' := by
  have H := Lib.hid (awake11 w hT)
  clear hT
  go_enter Tryz.func47, Tryz.ntmps47
  go_wp2_with fail
  refine H.out.mono ?_
  rintro e w' ⟨rfl, hb⟩
  go_wp2
  go_ret
  exact ⟨rfl, hb⟩
end Go.Proofs.YtigbifiicbghpaaGreatDoor
end

section
/-
  Contracts of layer 11's reference. Conditions: texts within int.
-/
namespace Go.Proofs.YtigbifiicbghpaaGreatDoor
open Go.RowKit Go.PM
set_option maxRecDepth 100000
set_option maxHeartbeats 2000000
attribute [local go_sem ↓] Go.wp_at_zero Go.wp_at_succ

theorem rcheckE_any (k v : ByteArray) (w : World) (hk : k.size ≤ 9223372036854775807) (hv : v.size ≤ 9223372036854775807) :
    Calls Tryz.prog 13 #[.agg #[.string k, .string v]] w fun e w' => e = .returned (.int .i64 (echk k.data.toList v.data.toList)) ∧ Below w.heap.size w w' := by
  have hx := BlkAt.made w 30 #[.string k, .string v]
  have HX := Lib.hid hx
  have hb0 := ba (a := w) b0 (.cells #[.string k, .string v] 30)
  have HB := Lib.hid hb0
  have H1 := Lib.hid (rcheck_any k 1 64 (w.alloc (.cells #[.string k, .string v] 30)) hk trivial)
  have H2 : Hid (∀ x : World, Below w.heap.size w x → Calls Tryz.prog 42 #[.string v, .int .i64 0, .int .i64 256] x fun e w' => e = .returned (.int .i64 (uchk v.data.toList 0 256)) ∧ Below x.heap.size x w') := fun x _ => rcheck_any v 0 256 x hv trivial
  unfold echk
  clear hx hb0
  generalize uchk k.data.toList 1 64 = a at *
  generalize uchk v.data.toList 0 256 = b at *
  by_cases ha : a = 0
  · subst ha
    rw [if_neg (by simp)]
    go_enter Tryz.func13, Tryz.ntmps13
    go_wp2_with fail
    refine H1.out.mono ?_
    rintro e w1 ⟨rfl, hb1⟩
    have hx1 := HX.out.below hb1 HX.out.lt
    have c1 := hx1.cell 1
    simp at c1
    have HB1 := Lib.hid (bb HB.out hb1)
    clear hb1 hx1
    go_wp2_with fail
    refine (H2.out _ HB1.out).mono ?_
    rintro e w2 ⟨rfl, hb2⟩
    have HB2 := Lib.hid (bb HB1.out hb2)
    clear hb2
    go_wp2
    go_ret
    exact ⟨rfl, HB2.out⟩
  · rw [if_pos ha]
    have hai : (a != 0) = true := by rw [bne_iff_ne]; exact ha
    clear ha
    go_enter Tryz.func13, Tryz.ntmps13
    go_wp2_with fail
    refine H1.out.mono ?_
    rintro e w1 ⟨rfl, hb1⟩
    have HB1 := Lib.hid (bb HB.out hb1)
    clear hb1
    go_wp2
    go_ret
    exact ⟨rfl, HB1.out⟩
theorem rent_eql (x y x' y' : ByteArray) (w : World) : (binOp .eql 30 (.agg #[.string x, .string y]) (.agg #[.string x', .string y'])).run Tryz.prog w = .ok (.bool (decide (x = x' ∧ y = y'))) w := by
  have u9 := Tryz.underlying9
  have a9 := Tryz.isAgg9
  have z9 := Tryz.sizeOf9
  have hS : Tryz.prog.underlying 30 = some (.struct (Tryz.prog.fieldsOf 30)) := by kernel_rfl
  have hp : Tryz.prog.stoodInHeld 30 = false := by kernel_rfl
  have e1 : (x.data = x'.data) = (x = x') := propext ⟨ByteArray.ext, congrArg _⟩
  have e2 : (y.data = y'.data) = (y = y') := propext ⟨ByteArray.ext, congrArg _⟩
  rw [run_eql_struct, show (10000 : Nat) = 9999 + 1 from rfl, run_equalIn_agg w 9999 _ _ _ hS hp]
  simp only [Program.fieldsOf, Tryz.underlying30]
  go_simp
  by_cases h1 : x = x' <;> by_cases h2 : y = y' <;> simp [h1, h2, ByteArray.toList_eq, e1, e2]
theorem rent_guard : Tryz.prog.eqGuardType Tryz.prog.depth 30 = false := by kernel_rfl
theorem rputE_any (k v : ByteArray) (w : World) (hk : k.size ≤ 1000000) (hv : v.size ≤ 1000000) :
    Calls Tryz.prog 15 #[.agg #[.string k, .string v]] w fun e w' => e = .returned (.string (txt (eput k.data.toList v.data.toList))) ∧ Below w.heap.size w w' := by
  have hx := BlkAt.made w 30 #[.string k, .string v]
  have hb := ba (a := w) b0 (.cells #[.string k, .string v] 30)
  have HB := Lib.hid hb
  have H1 : Hid (∀ x : World, Calls Tryz.prog 44 #[.int .u64 (k.size : Int)] x fun e w' => e = .returned (.string (txt (vput k.size))) ∧ Below x.heap.size x w') := fun x => rput_any k.size x (by unfold In64; omega)
  have H2 : Hid (∀ x : World, Calls Tryz.prog 44 #[.int .u64 (v.size : Int)] x fun e w' => e = .returned (.string (txt (vput v.size))) ∧ Below x.heap.size x w') := fun x => rput_any v.size x (by unfold In64; omega)
  have HE : Hid (((txt (vput k.size) ++ k) ++ txt (vput v.size)) ++ v = txt (eput k.data.toList v.data.toList)) := by
    refine txt_eq ?_
    rw [app_listE, app_listE, app_listE, txt_list, txt_list, eput, len_list, len_list]
    simp
  have wk : IntKind.u64.wrap (k.size : Int) = (k.size : Int) := by rw [IntKind.wrap_u64]; omega
  have wv : IntKind.u64.wrap (v.size : Int) = (v.size : Int) := by rw [IntKind.wrap_u64]; omega
  have hP : (txt (vput k.size)).size ≤ 10 := by rw [txt_size, vput_length]; exact vsz_le10 (by omega)
  have hQ : (txt (vput v.size)).size ≤ 10 := by rw [txt_size, vput_length]; exact vsz_le10 (by omega)
  generalize txt (vput k.size) = P at *
  generalize txt (vput v.size) = Q at *
  have hr1 : ∀ x : World, (Op.stringOp .add P k).run Tryz.prog x = .ok (.string (P ++ k)) x := fun x => run_string_add_sum x P k (by omega)
  have hr2 : ∀ x : World, (Op.stringOp .add (P ++ k) Q).run Tryz.prog x = .ok (.string (P ++ k ++ Q)) x := fun x => run_string_add_sum x _ _ (by rw [ByteArray.size_append]; omega)
  have hr3 : ∀ x : World, (Op.stringOp .add (P ++ k ++ Q) v).run Tryz.prog x = .ok (.string (P ++ k ++ Q ++ v)) x := fun x => run_string_add_sum x _ _ (by rw [ByteArray.size_append, ByteArray.size_append]; omega)
  have HSB : Hid (∀ x : World, Below (w.alloc (.cells #[.string k, .string v] 30)).heap.size (w.alloc (.cells #[.string k, .string v] 30)) x → (x.cell? ⟨w.heap.size, 0, none⟩ = some (.string k) ∧ x.cell? ⟨w.heap.size, 1, none⟩ = some (.string v))) := fun x h => ⟨(hx.below h hx.lt).cell 0, (hx.below h hx.lt).cell 1⟩
  clear hx hb
  go_enter Tryz.func15, Tryz.ntmps15
  go_wp2_with fail
  generalize (w.alloc (.cells #[.string k, .string v] 30)) = wz at HSB HB ⊢
  have hbW : Below wz.heap.size wz wz := b0
  obtain ⟨k0, k1⟩ := HSB.out _ hbW
  go_region_held3 (fun x => x.cell? ⟨w.heap.size, 0, none⟩ = some (.string k) ∧ x.cell? ⟨w.heap.size, 1, none⟩ = some (.string v)) (first | exact HSB.out _ (by repeat (first | exact hbW | refine ba ?_ _ | refine bd ?_)) | go_keep)
    ((first
      | (go_at_call 44; with_reducible show Calls _ _ #[.int .u64 (k.size : Int)] _ _; refine (H1.out _).mono ?_; rintro e' W1 ⟨rfl, hb1'⟩; replace hbW : Below wz.heap.size wz W1 := bb (by repeat (first | exact hbW | refine ba ?_ _ | refine bd ?_)) hb1'; clear hb1'; obtain ⟨k0, k1⟩ := HSB.out _ hbW)
      | (go_at_call 44; refine (H2.out _).mono ?_; rintro e' W1 ⟨rfl, hb1'⟩; replace hbW : Below wz.heap.size wz W1 := bb (by repeat (first | exact hbW | refine ba ?_ _ | refine bd ?_)) hb1'; clear hb1'; obtain ⟨k0, k1⟩ := HSB.out _ hbW)))
  all_goals (go_wp2_with fail; go_ret; exact ⟨by rw [← HE.out]; rfl, bb HB.out (by repeat (first | exact hbW | refine ba ?_ _ | refine bd ?_))⟩)
theorem rless_any (a b : ByteArray) (w : World) (ha : a.size ≤ 9223372036854775807) :
    Calls Tryz.prog 46 #[.string a, .string b] w fun e w' => e = .returned (.bool (bless a.data.toList b.data.toList)) ∧ Below w.heap.size w w' := by
  generalize hr : bless a.data.toList b.data.toList = r
  have HR : Hid (bless (a.data.toList.drop 0) (b.data.toList.drop 0) = r) := by rw [List.drop_zero, List.drop_zero]; exact hr
  clear hr
  go_enter Tryz.func46, Tryz.ntmps46
  go_wp2_with fail
  go_loopg [5] a.size (fun gk vi wr => ∃ i : Nat, i ≤ a.size ∧ i ≤ b.size ∧ a.size - i ≤ gk ∧ vi = .int .i64 (i : Int) ∧ Below w.heap.size w wr ∧ Hid (bless (a.data.toList.drop i) (b.data.toList.drop i) = r))
  case atStart => exact ⟨0, Nat.zero_le _, Nat.zero_le _, by omega, rfl, b0, HR⟩
  case round =>
    obtain ⟨i, hia, hib, hgk, rfl, hbw, HI⟩ := hrel
    have HB := Lib.hid hbw
    clear hbw
    by_cases h1 : i < a.size
    · by_cases h2 : i < b.size
      · have hi := HI.out
        rw [drop_at a i h1, drop_at b i h2, bless] at hi
        have HI2 := Lib.hid hi
        clear hi HI
        have j1 : (i : Int) < (a.size : Int) := by omega
        have j2 : (i : Int) < (b.size : Int) := by omega
        by_cases he : a[i] = b[i]
        · have hi := HI2.out
          rw [if_neg (by simpa using he)] at hi
          have HI3 : Hid (bless (a.data.toList.drop (i + 1)) (b.data.toList.drop (i + 1)) = r) := hi
          have hne : (((a[i]).toNat : Int) != ((b[i]).toNat : Int)) = false := by rw [he]; simp
          clear hi HI2
          go_wp2_with fail
          go_quiet (fail)
          go_wp2_with fail
          go_roundg (a.size - (i + 1))
          case measure => omega
          case rel => exact ⟨i + 1, by omega, by omega, Nat.le_refl _, by go_num, bn HB.out _, HI3⟩
        · have hi := HI2.out
          rw [if_pos he] at hi
          have hne0 : (a[i]).toNat ≠ (b[i]).toNat := fun e => he (UInt8.toNat_inj.1 e)
          have hne : (((a[i]).toNat : Int) != ((b[i]).toNat : Int)) = true := by rw [bne_iff_ne]; omega
          have hlt : decide (((a[i]).toNat : Int) < ((b[i]).toNat : Int)) = r := by rw [← hi]; rw [decide_eq_decide]; omega
          have hltn : decide ((a[i]).toNat < (b[i]).toNat) = r := hi
          have HLT := Lib.hid hltn
          clear hi HI2 he hne0 hltn hlt
          go_wp2_with fail
          go_quiet (fail)
          go_wp2_with fail
          go_quiet (fail)
          go_wp2_with fail
          go_ret
          exact ⟨by rw [← HLT.out]; rfl, bn (bn HB.out _) _⟩
      · have hi := HI.out
        rw [drop_at a i h1, drop_end b i (by omega), bless] at hi
        subst hi
        have hlt : decide ((a.size : Int) < (b.size : Int)) = false := decide_eq_false (by omega)
        have hltn : decide (a.size < b.size) = false := decide_eq_false (by omega)
        clear HI
        go_wp2_with fail
        go_ret
        exact ⟨rfl, HB.out⟩
    · have hi := HI.out
      rw [drop_end a i (by omega)] at hi
      by_cases h2 : i < b.size
      · rw [drop_at b i h2, bless] at hi
        subst hi
        have hlt : decide ((a.size : Int) < (b.size : Int)) = true := decide_eq_true (by omega)
        have hltn : decide (a.size < b.size) = true := decide_eq_true (by omega)
        clear HI
        go_wp2_with fail
        go_ret
        exact ⟨rfl, HB.out⟩
      · rw [drop_end b i (by omega), bless] at hi
        subst hi
        have hlt : decide ((a.size : Int) < (b.size : Int)) = false := decide_eq_false (by omega)
        have hltn : decide (a.size < b.size) = false := decide_eq_false (by omega)
        clear HI
        go_wp2_with fail
        go_ret
        exact ⟨rfl, HB.out⟩
theorem rcmp_any (ak av bk bv : ByteArray) (w : World) (h1 : ak.size ≤ 9223372036854775807) (h2 : av.size ≤ 9223372036854775807) :
    Calls Tryz.prog 17 #[.agg #[.string ak, .string av], .agg #[.string bk, .string bv]] w fun e w' => e = .returned (.int .i64 (ecmp ak.data.toList av.data.toList bk.data.toList bv.data.toList)) ∧ Below w.heap.size w w' := by
  have hxa := (BlkAt.made w 30 #[.string ak, .string av]).more (.cells #[.string bk, .string bv] 30)
  have hxb := BlkAt.made (w.alloc (.cells #[.string ak, .string av] 30)) 30 #[.string bk, .string bv]
  simp only [World.size_alloc] at hxb
  have hb0 := ba (ba (a := w) b0 (.cells #[.string ak, .string av] 30)) (.cells #[.string bk, .string bv] 30)
  have HXa := Lib.hid hxa
  have HXb := Lib.hid hxb
  have HB := Lib.hid hb0
  have HK : Hid (∀ x : World, Calls Tryz.prog 46 #[.string ak, .string bk] x fun e w' => e = .returned (.bool (bless ak.data.toList bk.data.toList)) ∧ Below x.heap.size x w') := fun x => rless_any ak bk x h1
  have HV : Hid (∀ x : World, Calls Tryz.prog 46 #[.string av, .string bv] x fun e w' => e = .returned (.bool (bless av.data.toList bv.data.toList)) ∧ Below x.heap.size x w') := fun x => rless_any av bv x h2
  rw [bless_cmp] at HK HV
  have e1 : ak.data.toList = bk.data.toList ↔ ak = bk := ⟨fun h => by rw [txt_eq h]; exact txt_of bk, fun h => by rw [h]⟩
  have e2 : av.data.toList = bv.data.toList ↔ av = bv := ⟨fun h => by rw [txt_eq h]; exact txt_of bv, fun h => by rw [h]⟩
  have z1 := cmpB_iff ak.data.toList bk.data.toList
  have z2 := cmpB_iff av.data.toList bv.data.toList
  have r1 := cmpB_range ak.data.toList bk.data.toList
  have r2 := cmpB_range av.data.toList bv.data.toList
  rw [e1] at z1
  rw [e2] at z2
  have hg := rent_guard
  have hsq : ∀ (x : ByteArray), (x.toList == x.toList) = true := fun x => by simp
  unfold ecmp
  clear hxa hxb hb0 e1 e2
  generalize Lib.compareBytes ak.data.toList bk.data.toList = p at *
  generalize Lib.compareBytes av.data.toList bv.data.toList = q at *
  have HCL : Hid (∀ x : World, Below ((w.alloc (.cells #[.string ak, .string av] 30)).alloc (.cells #[.string bk, .string bv] 30)).heap.size ((w.alloc (.cells #[.string ak, .string av] 30)).alloc (.cells #[.string bk, .string bv] 30)) x → (x.cell? ⟨w.heap.size, 0, none⟩ = some (.string ak) ∧ x.cell? ⟨w.heap.size, 1, none⟩ = some (.string av) ∧ x.cell? ⟨w.heap.size + 1, 0, none⟩ = some (.string bk) ∧ x.cell? ⟨w.heap.size + 1, 1, none⟩ = some (.string bv))) := fun x hx =>
    ⟨(HXa.out.below hx HXa.out.lt).cell 0, (HXa.out.below hx HXa.out.lt).cell 1, (HXb.out.below hx HXb.out.lt).cell 0, (HXb.out.below hx HXb.out.lt).cell 1⟩
  have hbW : Below ((w.alloc (.cells #[.string ak, .string av] 30)).alloc (.cells #[.string bk, .string bv] 30)).heap.size ((w.alloc (.cells #[.string ak, .string av] 30)).alloc (.cells #[.string bk, .string bv] 30)) ((w.alloc (.cells #[.string ak, .string av] 30)).alloc (.cells #[.string bk, .string bv] 30)) := b0
  obtain ⟨p0, p1, p2, p3⟩ := HCL.out _ hbW
  rcases r1 with rfl | rfl | rfl
  · have HK2 : Hid (∀ x : World, Calls Tryz.prog 46 #[.string ak, .string bk] x fun e w' => e = .returned (.bool true) ∧ Below x.heap.size x w') := HK.out
    rw [if_pos (by decide)]
    clear HK HV z1 z2
    go_enter Tryz.func17, Tryz.ntmps17
    go_wp2_with fail
    refine (HK2.out _).mono ?_
    rintro e w1 ⟨rfl, hb2⟩
    replace hbW := bb hbW hb2
    clear hb2 p0 p1 p2 p3
    obtain ⟨p0, p1, p2, p3⟩ := HCL.out _ hbW
    go_wp2_with fail
    go_ret
    exact ⟨rfl, bb HB.out hbW⟩
  · obtain rfl := z1.1 rfl
    have HK2 : Hid (∀ x : World, Calls Tryz.prog 46 #[.string ak, .string ak] x fun e w' => e = .returned (.bool false) ∧ Below x.heap.size x w') := HK.out
    rw [if_neg (by decide)]
    clear HK z1
    rcases r2 with rfl | rfl | rfl
    · have HV2 : Hid (∀ x : World, Calls Tryz.prog 46 #[.string av, .string bv] x fun e w' => e = .returned (.bool true) ∧ Below x.heap.size x w') := HV.out
      clear HV z2
      go_enter Tryz.func17, Tryz.ntmps17
      go_wp2_with fail
      refine (HK2.out _).mono ?_
      rintro e w1 ⟨rfl, hb2⟩
      replace hbW := bb hbW hb2
      clear hb2 p0 p1 p2 p3
      obtain ⟨p0, p1, p2, p3⟩ := HCL.out _ hbW
      go_wp2_with fail
      refine (HV2.out _).mono ?_
      rintro e w2 ⟨rfl, hb2⟩
      replace hbW := bb hbW hb2
      clear hb2 p0 p1 p2 p3
      obtain ⟨p0, p1, p2, p3⟩ := HCL.out _ hbW
      go_wp2_with fail
      go_ret
      exact ⟨rfl, bb HB.out hbW⟩
    · obtain rfl := z2.1 rfl
      have HV2 : Hid (∀ x : World, Calls Tryz.prog 46 #[.string av, .string av] x fun e w' => e = .returned (.bool false) ∧ Below x.heap.size x w') := HV.out
      have heq : ∀ v : World, (binOp .eql 30 (.agg #[.string ak, .string av]) (.agg #[.string ak, .string av])).run Tryz.prog v = .ok (.bool true) v := fun v => by rw [rent_eql]; simp
      clear HV z2
      go_enter Tryz.func17, Tryz.ntmps17
      go_wp2_with fail
      refine (HK2.out _).mono ?_
      rintro e w1 ⟨rfl, hb2⟩
      replace hbW := bb hbW hb2
      clear hb2 p0 p1 p2 p3
      obtain ⟨p0, p1, p2, p3⟩ := HCL.out _ hbW
      go_wp2_with fail
      refine (HV2.out _).mono ?_
      rintro e w2 ⟨rfl, hb2⟩
      replace hbW := bb hbW hb2
      clear hb2 p0 p1 p2 p3
      obtain ⟨p0, p1, p2, p3⟩ := HCL.out _ hbW
      go_wp2_with fail
      go_ret
      exact ⟨rfl, bb HB.out hbW⟩
    · have hne : ¬ av = bv := fun h => absurd (z2.2 h) (by decide)
      have HV2 : Hid (∀ x : World, Calls Tryz.prog 46 #[.string av, .string bv] x fun e w' => e = .returned (.bool false) ∧ Below x.heap.size x w') := HV.out
      have heq : ∀ v : World, (binOp .eql 30 (.agg #[.string ak, .string av]) (.agg #[.string ak, .string bv])).run Tryz.prog v = .ok (.bool false) v := fun v => by rw [rent_eql]; simp [hne]
      clear HV z2 hne
      go_enter Tryz.func17, Tryz.ntmps17
      go_wp2_with fail
      refine (HK2.out _).mono ?_
      rintro e w1 ⟨rfl, hb2⟩
      replace hbW := bb hbW hb2
      clear hb2 p0 p1 p2 p3
      obtain ⟨p0, p1, p2, p3⟩ := HCL.out _ hbW
      go_wp2_with fail
      refine (HV2.out _).mono ?_
      rintro e w2 ⟨rfl, hb2⟩
      replace hbW := bb hbW hb2
      clear hb2 p0 p1 p2 p3
      obtain ⟨p0, p1, p2, p3⟩ := HCL.out _ hbW
      go_wp2_with fail
      go_ret
      exact ⟨rfl, bb HB.out hbW⟩
  · have hne : ¬ ak = bk := fun h => absurd (z1.2 h) (by decide)
    have HK2 : Hid (∀ x : World, Calls Tryz.prog 46 #[.string ak, .string bk] x fun e w' => e = .returned (.bool false) ∧ Below x.heap.size x w') := HK.out
    have heq : ∀ v : World, (binOp .eql 30 (.agg #[.string ak, .string av]) (.agg #[.string bk, .string bv])).run Tryz.prog v = .ok (.bool false) v := fun v => by rw [rent_eql]; simp [hne]
    have hsk : (ak.toList == bk.toList) = false := by rw [beq_eq_false_iff_ne, ByteArray.toList_eq, ByteArray.toList_eq]; exact fun h => hne (by rw [txt_eq h]; exact txt_of bk)
    rw [if_pos (by decide)]
    clear HK HV z1 z2 hne
    go_enter Tryz.func17, Tryz.ntmps17
    go_wp2_with fail
    refine (HK2.out _).mono ?_
    rintro e w1 ⟨rfl, hb2⟩
    replace hbW := bb hbW hb2
    clear hb2 p0 p1 p2 p3
    obtain ⟨p0, p1, p2, p3⟩ := HCL.out _ hbW
    go_wp2_with fail
    go_ret
    exact ⟨rfl, bb HB.out hbW⟩
/-- The end of the document's reading of a text. -/
def RTextEnd (w : World) (s : ByteArray) (e : Ending) (w' : World) : Prop :=
  ∃ R : ByteArray, e = .returned (.tuple #[.string (txt (etx s.data.toList).1), .string R, .int .i64 ((etx s.data.toList).2.2 : Int)]) ∧ ((etx s.data.toList).2.2 = 0 → R = txt (s.data.toList.drop (etx s.data.toList).2.1)) ∧ Below w.heap.size w w'
theorem rtextE_any (s : ByteArray) (w : World) (hs : s.size ≤ 1000000) : Calls Tryz.prog 40 #[.string s] w (RTextEnd w s) := by
  have HG := Lib.hid (rget_any s w (by omega))
  have hl : s.data.toList.length = s.size := len_list s
  unfold RTextEnd etx
  rw [hl]
  by_cases hv : (vget s.data.toList).2.2 = 0
  · obtain ⟨v1, v2, v3, v4, v5⟩ := vget_ok hv
    rw [hl] at v2
    rw [if_neg (by rw [hv]; simp)]
    have HG2 : Hid (Calls Tryz.prog 57 #[.string s] w fun e w' => e = .returned (.tuple #[.int .u64 ((vget s.data.toList).1 : Int), .int .i64 ((vget s.data.toList).2.1 : Int), .int .i64 0]) ∧ Below w.heap.size w w') := by
      have := HG.out
      rw [hv] at this
      exact this
    clear HG hv v5 hl
    generalize (vget s.data.toList).1 = n at *
    generalize (vget s.data.toList).2.1 = m at *
    obtain ⟨L, hL⟩ : ∃ L, s.size - m = L := ⟨_, rfl⟩
    have hLi : (s.size : Int) - (m : Int) = (L : Int) := by omega
    rw [hL]
    by_cases hn : L < n
    · rw [if_pos hn]
      have hni : (L : Int) < (n : Int) := by omega
      clear hL
      go_enter Tryz.func40, Tryz.ntmps40
      go_wp2_with fail
      refine HG2.out.mono ?_
      rintro e w1 ⟨rfl, hb1⟩
      go_wp2_with fail
      go_ret3
      exact ⟨_, rfl, fun h => by simp at h, hb1⟩
    · rw [if_neg hn]
      have hni : decide ((L : Int) < (n : Int)) = false := decide_eq_false (by omega)
      have hn6 : n ≤ 1000000 := by omega
      obtain ⟨E, hE⟩ : ∃ E, m + n = E := ⟨_, rfl⟩
      have hEi : (m : Int) + (n : Int) = (E : Int) := by omega
      have hmE : (m : Int) ≤ (E : Int) := by omega
      have hEs : (E : Int) ≤ (s.size : Int) := by omega
      have HX1 : Hid (s.extract m E = txt ((s.data.toList.drop m).take n)) := txt_eq (by rw [ext_list]; congr 1; omega)
      have HX2 : Hid (s.extract E s.size = txt (s.data.toList.drop E)) := txt_eq (by rw [PM.ext_rest])
      rw [hE]
      clear hL hE
      go_enter Tryz.func40, Tryz.ntmps40
      go_wp2_with fail
      refine HG2.out.mono ?_
      rintro e w1 ⟨rfl, hb1⟩
      have HB1 := Lib.hid hb1
      clear hb1
      go_wp2_with fail
      go_quiet (fail)
      go_wp2_with fail
      go_ret3
      exact ⟨s.extract E s.size, by rw [← HX1.out]; rfl, fun _ => HX2.out, bn HB1.out _⟩
  · rw [if_pos hv]
    have hvi : (((vget s.data.toList).2.2 : Int) != 0) = true := by rw [bne_iff_ne]; omega
    generalize (vget s.data.toList).2.2 = g at *
    clear hl
    go_enter Tryz.func40, Tryz.ntmps40
    go_wp2_with fail
    refine HG.out.mono ?_
    rintro e w1 ⟨rfl, hb1⟩
    go_wp2_with fail
    go_ret3
    exact ⟨_, rfl, fun h => absurd h hv, hb1⟩
/-- The end of the document's reading of an entry. -/
def RNextEEnd (w : World) (s : ByteArray) (e : Ending) (w' : World) : Prop :=
  ∃ R : ByteArray, e = .returned (.tuple #[.agg #[.string (txt (enx echk s.data.toList).1.1), .string (txt (enx echk s.data.toList).1.2)], .string R, .int .i64 (enx echk s.data.toList).2.2]) ∧ ((enx echk s.data.toList).2.2 = 0 → R = txt (s.data.toList.drop (enx echk s.data.toList).2.1)) ∧ Below w.heap.size w w'
theorem rnextE_any (s : ByteArray) (w : World) (hs : s.size ≤ 1000000) : Calls Tryz.prog 11 #[.string s] w (RNextEEnd w s) := by
  have hx := BlkAt.made w 30 #[.string ⟨#[]⟩, .string ⟨#[]⟩]
  have HX := Lib.hid hx
  have HB := Lib.hid (ba (a := w) b0 (.cells #[.string ⟨#[]⟩, .string ⟨#[]⟩] 30))
  have HT1 := Lib.hid (rtextE_any s (w.alloc (.cells #[.string ⟨#[]⟩, .string ⟨#[]⟩] 30)) hs)
  have hsz1 := etx_size s 0
  rw [List.drop_zero] at hsz1
  generalize hX : enx echk s.data.toList = X
  have HEND : Hid (∀ (e : Ending) (R : ByteArray) (w1 w' : World), e = .returned (.tuple #[.agg #[.string (txt X.1.1), .string (txt X.1.2)], .string R, .int .i64 X.2.2]) → (X.2.2 = 0 → R = txt (s.data.toList.drop X.2.1)) → Below w.heap.size w w1 → Tch (fun j => j = w.heap.size) w1 w' → RNextEEnd w s e w') := fun e R w1 w' he hk hb ht => by
    unfold RNextEEnd
    rw [hX]
    exact ⟨R, he, hk, hb.trans (ht.toBelowB hb.size fun g hg e => by omega)⟩
  unfold enx at hX
  unfold RTextEnd at HT1
  clear hx
  go_enter Tryz.func11, Tryz.ntmps11
  go_wp2_with fail
  refine HT1.out.mono ?_
  rintro e w1 ⟨R1, rfl, hk1, hb1⟩
  have HB1 := Lib.hid (bb HB.out hb1)
  have hx1 := HX.out.below hb1 HX.out.lt
  have HX1 := Lib.hid hx1
  have c0 := hx1.cell 0
  have c1 := hx1.cell 1
  have f0 := hx1.free 0
  have f1 := hx1.free 1
  simp at c0 c1
  clear hb1 hx1 HT1
  by_cases he1 : (etx s.data.toList).2.2 = 0
  · rw [if_neg (by rw [he1]; simp)] at hX
    obtain rfl := hk1 he1
    have hrl : (txt (s.data.toList.drop (etx s.data.toList).2.1)).data.toList = s.data.toList.drop (etx s.data.toList).2.1 := rfl
    have hrs : (txt (s.data.toList.drop (etx s.data.toList).2.1)).size ≤ 1000000 := by rw [txt_size, List.length_drop, len_list]; omega
    have HT2 := Lib.hid (rtextE_any (txt (s.data.toList.drop (etx s.data.toList).2.1)) w1 hrs)
    have hsz2 := etx_size s (etx s.data.toList).2.1
    unfold RTextEnd at HT2
    rw [hrl] at HT2
    have hdd : ∀ m : Nat, ((s.data.toList.drop (etx s.data.toList).2.1).drop m) = s.data.toList.drop ((etx s.data.toList).2.1 + m) := fun m => by rw [List.drop_drop]
    rw [hdd] at HT2
    rw [he1]
    clear hk1 he1 hrl hrs hdd
    generalize etx (s.data.toList.drop (etx s.data.toList).2.1) = Y at *
    generalize txt (s.data.toList.drop (etx s.data.toList).2.1) = R0 at *
    generalize (etx s.data.toList).1 = K at *
    generalize (etx s.data.toList).2.1 = m at *
    clear c0 c1 f0 f1
    go_wp2_with fail
    refine HT2.out.mono ?_
    rintro e w2 ⟨R2, rfl, hk2, hb2⟩
    have HB2 := Lib.hid (bb HB1.out hb2)
    have hx2 := HX1.out.below hb2 HX1.out.lt
    have HX2 := Lib.hid hx2
    have c0 := hx2.cell 0
    have c1 := hx2.cell 1
    have f0 := hx2.free 0
    have f1 := hx2.free 1
    simp at c0 c1
    clear hb2 hx2 HT2 HX1
    by_cases he2 : Y.2.2 = 0
    · rw [if_neg (by rw [he2]; simp)] at hX
      obtain rfl := hk2 he2
      rw [he2]
      have HBE := Lib.hid (BlkAt.made w2 30 #[.string (txt K), .string (txt Y.1)])
      have HCK := Lib.hid (rcheckE_any (txt K) (txt Y.1) (w2.alloc (.cells #[.string (txt K), .string (txt Y.1)] 30)) (by rw [txt_size]; omega) (by rw [txt_size]; omega))
      rw [txt_list, txt_list] at HCK
      have HXB := Lib.hid (HX2.out.more (.cells #[.string (txt K), .string (txt Y.1)] 30))
      have HBB := Lib.hid (ba HB2.out (.cells #[.string (txt K), .string (txt Y.1)] 30))
      clear c0 c1 f0 f1 HX2 hk2 he2
      by_cases hce : echk K Y.1 = 0
      · rw [if_neg (by simpa using hce)] at hX
        subst hX
        rw [hce] at HCK
        generalize txt (s.data.toList.drop (m + Y.2.1)) = RR at *
        clear hce
        go_wp2_with fail
        refine HCK.out.mono ?_
        rintro e w3 ⟨rfl, hb3⟩
        have hB3 := bb HBB.out hb3
        have HE3 : Hid (∀ w', Tch (fun j => j = w.heap.size) w3 w' → RNextEEnd w s (.returned (.tuple #[.agg #[.string (txt K), .string (txt Y.1)], .string RR, .int .i64 0])) w') := fun w' ht => HEND.out _ RR w3 w' rfl (fun _ => rfl) hB3 ht
        have hx3 := HXB.out.below hb3 HXB.out.lt
        have hy3 := HBE.out.below hb3 HBE.out.lt
        have e0 := hy3.cell 0
        have e1 := hy3.cell 1
        simp at e0 e1
        have c0 := hx3.cell 0
        have c1 := hx3.cell 1
        have f0 := hx3.free 0
        have f1 := hx3.free 1
        simp at c0 c1
        clear hx3 hy3 hb3 hB3 HEND
        go_wp2_with fail
        refine bodyPost_ret (v := .tuple #[.agg #[.string (txt K), .string (txt Y.1)], .string RR, .int .i64 0]) (by simp [results, Tryz.results11, go_sem, c0, c1]; try rfl) rfl (HE3.out _ (res_two _ _ _ _))
      · rw [if_pos (by simpa using hce)] at hX
        subst hX
        have hcei : (echk K Y.1 != 0) = true := by rw [bne_iff_ne]; exact hce
        generalize echk K Y.1 = C at *
        go_wp2_with fail
        refine HCK.out.mono ?_
        rintro e w3 ⟨rfl, hb3⟩
        have hB3 := bb HBB.out hb3
        have HE3 : Hid (∀ w', Tch (fun j => j = w.heap.size) w3 w' → RNextEEnd w s (.returned (.tuple #[.agg #[.string ByteArray.empty, .string ByteArray.empty], .string ByteArray.empty, .int .i64 C])) w') := fun w' ht => HEND.out _ ByteArray.empty w3 w' rfl (fun h => absurd h hce) hB3 ht
        have hx3 := HXB.out.below hb3 HXB.out.lt
        have c0 := hx3.cell 0
        have c1 := hx3.cell 1
        have f0 := hx3.free 0
        have f1 := hx3.free 1
        simp at c0 c1
        clear hx3 hb3 hB3 HEND hce
        go_wp2_with fail
        refine bodyPost_ret (v := .tuple #[.agg #[.string ByteArray.empty, .string ByteArray.empty], .string ByteArray.empty, .int .i64 C]) (by simp [results, Tryz.results11, go_sem, c0, c1]; try rfl) rfl (HE3.out _ (res_two _ _ _ _))
    · rw [if_pos he2] at hX
      subst hX
      have HE : Hid (∀ w', Tch (fun j => j = w.heap.size) w2 w' → RNextEEnd w s (.returned (.tuple #[.agg #[.string ByteArray.empty, .string ByteArray.empty], .string ByteArray.empty, .int .i64 (Y.2.2 : Int)])) w') := fun w' ht => HEND.out _ ByteArray.empty w2 w' rfl (fun h => by simp at h; exact absurd h he2) HB2.out ht
      have hte : ((Y.2.2 : Int) != 0) = true := by rw [bne_iff_ne]; omega
      generalize Y.2.2 = G at *
      clear he2 hk2 HEND
      go_wp2_with fail
      refine bodyPost_ret (v := .tuple #[.agg #[.string ByteArray.empty, .string ByteArray.empty], .string ByteArray.empty, .int .i64 (G : Int)]) (by simp [results, Tryz.results11, go_sem, c0, c1]; try rfl) rfl (HE.out _ (res_two _ _ _ _))
  · rw [if_pos he1] at hX
    subst hX
    have HE : Hid (∀ w', Tch (fun j => j = w.heap.size) w1 w' → RNextEEnd w s (.returned (.tuple #[.agg #[.string ByteArray.empty, .string ByteArray.empty], .string ByteArray.empty, .int .i64 ((etx s.data.toList).2.2 : Int)])) w') := fun w' ht => HEND.out _ ByteArray.empty w1 w' rfl (fun h => by simp at h; exact absurd h he1) HB1.out ht
    have hte : ((((etx s.data.toList).2.2 : Nat) : Int) != 0) = true := by rw [bne_iff_ne]; omega
    generalize (etx s.data.toList).2.2 = G at *
    clear he1 hk1 HEND
    go_wp2_with fail
    refine bodyPost_ret (v := .tuple #[.agg #[.string ByteArray.empty, .string ByteArray.empty], .string ByteArray.empty, .int .i64 (G : Int)]) (by simp [results, Tryz.results11, go_sem, c0, c1]; try rfl) rfl (HE.out _ (res_two _ _ _ _))
end Go.Proofs.YtigbifiicbghpaaGreatDoor
end

section
/-
  Layer 11: the order of two entries, as a contract that leaves all that was there. Plain.
-/
namespace Go.Proofs.YtigbifiicbghpaaGreatDoor
open Go.RowKit Go.PM
theorem ecmpB_any (ak av bk bv : ByteArray) (w : World) : Calls Tryz.prog 16 #[.agg #[.string ak, .string av], .agg #[.string bk, .string bv]] w fun e w' => e = .returned (.int .i64 (ecmp ak.data.toList av.data.toList bk.data.toList bv.data.toList)) ∧ Below w.heap.size w w' :=
  (ecmp_any ak av bk bv w).mono fun e w' h => ⟨h.1, by rw [h.2]; exact ba (ba b0 _) _⟩
theorem list_eq_iff (a b : ByteArray) : a.data.toList = b.data.toList ↔ a = b := ⟨fun h => by rw [txt_eq h]; exact txt_of b, fun h => by rw [h]⟩
end Go.Proofs.YtigbifiicbghpaaGreatDoor
end
