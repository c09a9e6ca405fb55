/-
  Texts of the proof, joined: WireLaw Read Read2. Conditions: as each names.
-/
import Derived.Test.YtmlijflappjfoaaDoorBaf
import Derived.Test.YtmlijflappjfoaaDoorBak
import Derived.Test.YtmlijflappjfoaaDoorBae

section
/-
  The walks of the statements of layer 9: the chapter's example; any fields as they are written. Conditions: numbers within their kinds; Go's tables of UTF-8 lie in memory.
-/
namespace Go.Proofs.YtmlijflappjfoaaDoor
open Go.RowKit Go.PM
set_option maxRecDepth 100000
set_option maxHeartbeats 1500000

theorem oftext_any (t : Nat) (s : ByteArray) (w : World) :
    Calls Tryd.prog 55 #[.int .u64 (t : Int), .string s] w fun e w' => e = .returned (.agg #[.int .u64 (t : Int), .int .i64 1, .int .u64 0, .string s, .slice none 0 0]) ∧ Below w.heap.size w w' := by
  go_enter Tryd.func55, Tryd.ntmps55
  go_wp2
  exact bodyPost_ret (v := .agg #[.int .u64 (t : Int), .int .i64 1, .int .u64 0, .string s, .slice none 0 0]) (by simp [results, Tryd.results55, go_sem]; try rfl) rfl ⟨rfl, ba b0 _⟩
def exam9 : Fs := fnum 1 300 (.cons 2 1 0 ⟨#[97, 98]⟩ .nil .nil)
theorem exam9_tx : ftx exam9 = [4, 172, 2, 9, 2, 97, 98] := by
  have e1 : vput (4 * 1 + Int.toNat 0) = [4] := vput_small (by decide)
  have e2 : vput 300 = [172, 2] := by rw [vput_big (by decide), vput_small (by decide)]; rfl
  have e3 : vput (4 * 2 + Int.toNat 1) = [9] := vput_small (by decide)
  have e4 : vput (ByteArray.mk #[97, 98]).size = [2] := vput_small (by decide)
  show vput (4 * 1 + Int.toNat 0) ++ (vput 300 ++ (vput (4 * 2 + Int.toNat 1) ++ ((vput (ByteArray.mk #[97, 98]).size ++ [97, 98]) ++ []))) = _
  rw [e1, e2, e3, e4]
  rfl
theorem exam9_put : txt (fput exam9).1 = ⟨#[4, 172, 2, 9, 2, 97, 98]⟩ ∧ (fput exam9).2 = 0 := by
  have h1 : fcheck exam9 0 0 = 0 := by decide
  unfold fput
  rw [h1, if_neg (by simp), exam9_tx, if_neg (by decide)]
  exact ⟨rfl, rfl⟩
theorem awake09 (w : World) (hT : Tabs w) :
    Calls Tryd.prog 32 #[] w fun e w' => e = .returned (.bool true) ∧ Below w.heap.size w w' := by
  have hb1 : Below w.heap.size w w := b0
  have HA : Hid (∀ x : World, Below w.heap.size w x → Calls Tryd.prog 56 #[] x fun e w' => e = .returned (.bool true) ∧ Below x.heap.size x w') := fun x hx => awakeE08 x (hT.below hx)
  have H1 : Hid (∀ W : World, Calls Tryd.prog 33 #[.slice (some ⟨W.heap.size, 0, none⟩) 2 2] (W.alloc (.cells #[.int .u64 1, .int .i64 0, .int .u64 300, .string ByteArray.empty, .slice none 0 0, .int .u64 2, .int .i64 1, .int .u64 0, .string ⟨#[97, 98]⟩, .slice none 0 0] 41)) fun e w' => e = .returned (.tuple #[.string ⟨#[4, 172, 2, 9, 2, 97, 98]⟩, .int .i64 0]) ∧ Below W.heap.size W w') := fun W => by
    have hs : SlV (W.alloc (.cells #[.int .u64 1, .int .i64 0, .int .u64 300, .string ByteArray.empty, .slice none 0 0, .int .u64 2, .int .i64 1, .int .u64 0, .string ⟨#[97, 98]⟩, .slice none 0 0] 41)) (fun _ => True) (.slice (some ⟨W.heap.size, 0, none⟩) 2 2) exam9 :=
      slv_blk (f := exam9) (BlkAt.made W _ _) ⟨rfl, rfl, rfl, rfl, SlV.nil _ _ _ _, rfl, rfl, rfl, rfl, SlV.nil _ _ _ _, trivial⟩ trivial (Nat.le_refl 2)
    have := wput_of _ exam9 _ _ hs ⟨⟨by unfold In64; omega, by unfold InI64; omega, by unfold In64; omega, by decide⟩, trivial, ⟨by unfold In64; omega, by unfold InI64; omega, by unfold In64; omega, by decide⟩, trivial, trivial⟩ (by decide) (by rw [exam9_tx]; decide)
    rw [exam9_put.1, exam9_put.2] at this
    exact this.mono fun e w' h => ⟨h.1, bb (ba b0 _) h.2⟩
  clear hT
  go_enter Tryd.func32, Tryd.ntmps32
  go_wp2_with fail
  refine (ofnum_any 1 300 _).mono ?_
  rintro e w2 ⟨rfl, hb2⟩
  replace hb1 := bb hb1 hb2
  clear hb2
  go_wp2_with fail
  refine (oftext_any 2 ⟨#[97, 98]⟩ _).mono ?_
  rintro e w3 ⟨rfl, hb2⟩
  replace hb1 := bb hb1 hb2
  clear hb2
  go_wp2_with fail
  refine (H1.out _).mono ?_
  rintro e w4 ⟨rfl, hb2⟩
  replace hb1 := bb hb1 hb2
  clear hb2
  go_wp2_with fail
  refine (HA.out _ hb1).mono ?_
  rintro e w5 ⟨rfl, hb2⟩
  replace hb1 := bb hb1 hb2
  clear hb2
  go_wp2
  go_ret
  exact ⟨rfl, hb1⟩
theorem rputf_of (A : Option Addr) (c : Nat) (f : Fs) (I : Nat → Prop) (w : World) (hr : SlV w I (.slice A f.len c) f) (hk : f.All FKd) (h60 : f.count ≤ 1000000) (hL : (ftx f).length ≤ 1000000000000) :
    Calls Tryd.prog 34 #[.slice A f.len c] w fun e w' => e = .returned (.tuple #[.string (txt (fput f).1), .int .i64 ((fput f).2 : Int)]) ∧ Below w.heap.size w w' := by
  have hb1 : Below w.heap.size w w := b0
  have HC : Hid (Calls Tryd.prog 36 #[.slice A f.len c, .int .i64 0] w fun e w' => e = .returned (.int .i64 (fcheck f 0 0 : Int)) ∧ Below w.heap.size w w') := rcheck_any8 f.count A c f I 0 w (Nat.le_refl _) hr hk h60 (.inl (by omega))
  have hiff := fcheck_iff f 0 0 hk (by omega)
  have HS : Hid (fcheck f 0 0 = 0 → ∀ x : World, Below w.heap.size w x → Calls Tryd.prog 59 #[.slice A f.len c] x fun e w' => e = .returned (.string (txt (ftx f))) ∧ Below x.heap.size x w') := fun h x hx => rtxt_any f.count A c f I 0 0 x (Nat.le_refl _) (hr.below hx) (hiff.1 h) h60 hL
  unfold fput
  clear hiff hr hk
  generalize fcheck f 0 0 = E at *
  by_cases hE : E = 0
  · subst hE
    rw [if_neg (by simp)]
    have HS2 := Lib.hid (HS.out rfl)
    generalize hF : ftx f = F at *
    clear hF
    have hsz : (txt F).size = F.length := txt_size F
    by_cases hbig : 65536 < F.length
    · rw [if_pos hbig]
      have hbig2 : 65536 < (txt F).size := by omega
      clear hsz hbig hL
      generalize txt F = Z at *
      go_enter Tryd.func34, Tryd.ntmps34
      go_wp2_with fail
      refine (HC.out).mono ?_
      rintro e w1 ⟨rfl, hb2⟩
      replace hb1 := bb hb1 hb2
      clear hb2
      go_wp2_with fail
      refine (HS2.out _ hb1).mono ?_
      rintro e w2 ⟨rfl, hb2⟩
      replace hb1 := bb hb1 hb2
      clear hb2
      go_wp2
      go_ret2
      exact ⟨rfl, hb1⟩
    · rw [if_neg hbig]
      have hbig2 : (txt F).size ≤ 65536 := by omega
      clear hsz hbig hL
      generalize txt F = Z at *
      go_enter Tryd.func34, Tryd.ntmps34
      go_wp2_with fail
      refine (HC.out).mono ?_
      rintro e w1 ⟨rfl, hb2⟩
      replace hb1 := bb hb1 hb2
      clear hb2
      go_wp2_with fail
      refine (HS2.out _ hb1).mono ?_
      rintro e w2 ⟨rfl, hb2⟩
      replace hb1 := bb hb1 hb2
      clear hb2
      go_wp2
      go_ret2
      exact ⟨rfl, hb1⟩
  · rw [if_pos hE]
    have hei : ((E : Int) != 0) = true := by rw [bne_iff_ne]; omega
    go_enter Tryd.func34, Tryd.ntmps34
    go_wp2_with fail
    refine (HC.out).mono ?_
    rintro e w1 ⟨rfl, hb2⟩
    replace hb1 := bb hb1 hb2
    clear hb2
    go_wp2
    go_ret2
    exact ⟨rfl, hb1⟩
theorem ftx_le : ∀ {f : Fs}, f.All FOk → f.count ≤ 1000000 → (ftx f).length ≤ 330 * f.count
  | .nil, _, _ => by simp [ftx]
  | .cons t y n s i r, hk, h60 => by
    simp only [Fs.count] at h60
    have hi := ftx_le (f := i) hk.2.1 (by omega)
    have hr := ftx_le (f := r) hk.2.2 (by omega)
    obtain ⟨h1, h2, h3, h4⟩ := hk.1
    have e1 : vsz (4 * t + y.toNat) ≤ 10 := vsz_le 9 _ (by have : (128 : Nat) ^ (9 + 1) = 1180591620717411303424 := by decide
                                                           unfold In64 at h1; omega)
    have e2 := vsz_le10 h3
    have e3 : vsz s.size ≤ 10 := vsz_le10 (by show s.size < 18446744073709551616; omega)
    have e4 : vsz (ftx i).length ≤ 10 := vsz_le10 (by show (ftx i).length < 18446744073709551616; omega)
    simp only [ftx, Fs.count, List.length_append, vput_length]
    by_cases y0 : y = 0
    · rw [if_pos y0, vput_length]; omega
    · rw [if_neg y0]
      by_cases y1 : y = 1
      · rw [if_pos y1, List.length_append, vput_length, len_list]; omega
      · rw [if_neg y1, List.length_append, vput_length]; omega
theorem fsz_put {f : Fs} (h : (ftx f).length ≤ 65536) : (fput f).1.length = fszB f := by
  unfold fput fszB
  by_cases e : fcheck f 0 0 ≠ 0
  · rw [if_pos e, if_pos e]; rfl
  · rw [if_neg e, if_neg e, if_neg (by omega)]
theorem writes_walk (A : Option Addr) (cap : Nat) (l : List One) (w : World) (hT : Tabs w) (hr : OnesRd w.heap.size w A l) (hok : ∀ x ∈ l, x.ok)
    (hl : l.length ≤ cap) (hc : cap ≤ 9223372036854775807) :
    Calls Tryd.prog 7 #[.slice A l.length cap] w fun e w' => e = .returned (.bool true) ∧ Below w.heap.size w w' := by
  have HA := Lib.hid (awake09 w hT)
  have hb1 : Below w.heap.size w w := b0
  have HF : Hid (∀ x : World, Below w.heap.size w x → Calls Tryd.prog 23 #[.slice A l.length cap] x fun e w' => e = .returned (.bool (few l)) ∧ Below x.heap.size x w') := fun x hx => few_any w.heap.size A cap l x (hr.belowB hx) hok (by omega)
  have HR := Lib.hid hr
  have HOK := Lib.hid hok
  have HL : Hid (l.length ≤ cap ∧ cap ≤ 9223372036854775807) := ⟨hl, hc⟩
  clear hT hr hok
  generalize hfa : few l = fa at HF
  have HFA := Lib.hid hfa
  clear hfa
  cases fa with
  | false =>
    go_enter Tryd.func7, Tryd.ntmps7
    go_wp2_with fail
    refine (HA.out).mono ?_
    rintro e w1 ⟨rfl, hb2⟩
    replace hb1 := bb hb1 hb2
    clear hb2
    go_wp2_with fail
    refine (HF.out _ hb1).mono ?_
    rintro e w2 ⟨rfl, hb2⟩
    replace hb1 := bb hb1 hb2
    clear hb2
    go_wp2
    go_ret
    exact ⟨rfl, hb1⟩
  | true =>
    obtain ⟨ht3, h60⟩ := few_ok HFA.out
    have HM : Hid (∀ x : World, Below w.heap.size w x → Calls Tryd.prog 24 #[.slice A l.length cap] x (MakeEnd x l.length)) := fun x hx => make_any w.heap.size A cap l x hx.size (HR.out.belowB hx) (fun x hx => ⟨HOK.out x hx, ht3 x hx⟩) h60 HL.out.1 HL.out.2
    clear ht3
    go_enter Tryd.func7, Tryd.ntmps7
    go_wp2_with fail
    refine (HA.out).mono ?_
    rintro e w1 ⟨rfl, hb2⟩
    replace hb1 := bb hb1 hb2
    clear hb2
    go_wp2_with fail
    refine (HF.out _ hb1).mono ?_
    rintro e w2 ⟨rfl, hb2⟩
    replace hb1 := bb hb1 hb2
    clear hb2
    go_wp2_with fail
    refine (HM.out _ hb1).mono ?_
    rintro e w4 ⟨f, Af, cf, rfl, hfc, hfk, hfs, hb2⟩
    replace hb1 := bb hb1 hb2
    have hf60 : f.count ≤ 1000000 := by omega
    have hlen := ftx_le hfk hf60
    have H60 := Lib.hid hf60
    have HLN : Hid ((ftx f).length ≤ 65536) := by show _ ≤ _; omega
    have HFK : Hid (f.All FKd) := hfk.imp fun _ _ _ _ h => h.kd
    have HFS : Hid (SlV w4 (fun _ => True) (.slice Af f.len cf) f) := hfs.imp fun _ _ => trivial
    have hx : Below w4.heap.size w4 w4 := b0
    have hfl := Nat.le_trans f.len_count hf60
    have HP1 : Hid (∀ x : World, Below w4.heap.size w4 x → Calls Tryd.prog 33 #[.slice Af f.len cf] x fun e w' => e = .returned (.tuple #[.string (txt (fput f).1), .int .i64 ((fput f).2 : Int)]) ∧ Below x.heap.size x w') := fun x hx => wput_of _ f _ x (HFS.out.below hx) HFK.out H60.out (Nat.le_trans HLN.out (by decide))
    have HS1 : Hid (∀ x : World, Below w4.heap.size w4 x → Calls Tryd.prog 35 #[.slice Af f.len cf] x fun e w' => e = .returned (.int .i64 ((txt (fput f).1).size : Int)) ∧ Below x.heap.size x w') := fun x hx => by
      rw [txt_size, fsz_put HLN.out]
      exact wsz_of _ f _ x (HFS.out.below hx) HFK.out H60.out (Nat.le_trans HLN.out (by decide))
    have HP2 : Hid (∀ (P : Option Addr) (q : Nat) (W x : World), SlV W (fun _ => True) (.slice P f.len q) f → Below W.heap.size W x → Calls Tryd.prog 34 #[.slice P f.len q] x fun e w' => e = .returned (.tuple #[.string (txt (fput f).1), .int .i64 ((fput f).2 : Int)]) ∧ Below x.heap.size x w') := fun P q W x hs hx => rputf_of P q f _ x (hs.below hx) HFK.out H60.out (Nat.le_trans HLN.out (by decide))
    generalize txt (fput f).1 = Z at *
    generalize (fput f).2 = E at *
    clear hb2 hfk hfs hf60 hfc hlen
    go_wp2_with fail
    refine (HP1.out _ hx).mono ?_
    rintro e w5 ⟨rfl, hb2⟩
    replace hb1 := bb hb1 hb2
    replace hx := bb hx hb2
    clear hb2
    go_wp2_with fail
    refine (of_any f.count Af cf f _ w5 (Nat.le_refl _) (HFS.out.below hx) H60.out).mono ?_
    rintro e w6 ⟨P6, q6, rfl, hps, hb2⟩
    replace hb1 := bb hb1 hb2
    replace hx := bb hx hb2
    have hs := HP2.out P6 q6 w6 w6 (hps.imp fun _ _ => trivial) b0
    clear hb2 hps
    go_wp2_with fail
    refine hs.mono ?_
    clear hs
    rintro e w7 ⟨rfl, hb2⟩
    replace hb1 := bb hb1 hb2
    replace hx := bb hx hb2
    clear hb2
    go_wp2_with fail
    refine (HS1.out _ hx).mono ?_
    rintro e w8 ⟨rfl, hb2⟩
    replace hb1 := bb hb1 hb2
    clear hb2
    go_wp2
    go_ret
    exact ⟨rfl, hb1⟩
end Go.Proofs.YtmlijflappjfoaaDoor
end

section
/-
  Contracts of layer 9: how a field's number and its text are read. Conditions: a reader over a cursor over a text.
-/
namespace Go.PM
open Go.RowKit
/-- What a cursor has left. -/
def lft (s : ByteArray) (k : Nat) : List UInt8 := s.data.toList.drop k
theorem lft_length (s : ByteArray) (k : Nat) : (lft s k).length = s.size - k := by unfold lft; rw [List.length_drop, len_list]
theorem lft_drop (s : ByteArray) (k m : Nat) : (lft s k).drop m = lft s (k + m) := by unfold lft; rw [List.drop_drop]
theorem lft_take (s : ByteArray) (k m : Nat) : (s.extract k (k + m)).data.toList = (lft s k).take m := by unfold lft; rw [ext_list]; congr 1; omega
end Go.PM
namespace Go.Proofs.YtmlijflappjfoaaDoor
open Go.RowKit Go.PM
set_option maxRecDepth 100000
set_option maxHeartbeats 1500000
attribute [local go_sem ↓] Go.wp_at_zero Go.wp_at_succ

/-- A reader: its cursor, within how many lists it stands, the tag ahead. -/
def Rdr (w : World) (rb cb d a : Nat) : Prop := BlkAt w rb 90 #[.pointer (some ⟨cb, 0, none⟩), .int .i64 (d : Int), .int .u64 (a : Int)]
/-- A field's box. -/
def FBx (w : World) (fb t : Nat) (y : Int) (n : Nat) (x : ByteArray) (v : Value) : Prop := BlkAt w fb 41 #[.int .u64 (t : Int), .int .i64 y, .int .u64 (n : Int), .string x, v]
theorem Rdr.grown {w w' : World} {rb cb d a : Nat} {s : ByteArray} {k : Nat} (h : Rdr w rb cb d a) (hc : Cur w cb s k) (hg : w.grownBy w' (some cb)) : Rdr w' rb cb d a := BlkAt.step h hg (by intro e; injection e with e; exact absurd e (BlkAt.apart h hc.1 (by decide)))
theorem FBx.grown {w w' : World} {fb cb t n : Nat} {y : Int} {x : ByteArray} {v : Value} {s : ByteArray} {k : Nat} (h : FBx w fb t y n x v) (hc : Cur w cb s k) (hg : w.grownBy w' (some cb)) : FBx w' fb t y n x v := BlkAt.step h hg (by intro e; injection e with e; exact absurd e (BlkAt.apart h hc.1 (by decide)))
def S2 (cb fb : Nat) (j : Nat) : Prop := j = cb ∨ j = fb
def NumEnd (w : World) (rb cb fb d a t : Nat) (y : Int) (x : ByteArray) (v : Value) (s : ByteArray) (k : Nat) (e : Ending) (w' : World) : Prop :=
  e = .returned (.int .i64 ((vget (lft s k)).2.2 : Int)) ∧ Cur w' cb s (k + (vget (lft s k)).2.1) ∧ FBx w' fb t y (vget (lft s k)).1 x v ∧ Rdr w' rb cb d a ∧ Tch (S2 cb fb) w w'
theorem num_any (rb cb fb d a t n : Nat) (y : Int) (x : ByteArray) (v : Value) (s : ByteArray) (k : Nat) (w : World) (hr : Rdr w rb cb d a) (hc : Cur w cb s k) (hf : FBx w fb t y n x v) :
    Calls Tryd.prog 76 #[.pointer (some ⟨rb, 0, none⟩), .pointer (some ⟨fb, 0, none⟩)] w (NumEnd w rb cb fb d a t y x v s k) := by
  have HR := Lib.hid hr
  have HC := Lib.hid hc
  have HF := Lib.hid hf
  have r0 := hr.cell 0
  simp at r0
  clear hr hc hf
  go_enter Tryd.func76, Tryd.ntmps76
  go_wp2_with fail
  refine (next_any cb s k _ HC.out).mono ?_
  rintro e w1 ⟨rfl, hc1, hg⟩
  have hr1 := HR.out.grown HC.out hg
  have hf1 := HF.out.grown HC.out hg
  have r0 := hr1.cell 0
  have r1 := hr1.cell 1
  have r2 := hr1.cell 2
  have x0 := hf1.cell 0
  have x1 := hf1.cell 1
  have x2 := hf1.cell 2
  have x3 := hf1.cell 3
  have x4 := hf1.cell 4
  have y2 := hf1.free 2
  have y3 := hf1.free 3
  have y4 := hf1.free 4
  simp at r0 r1 r2 x0 x1 x2 x3 x4
  have HR1 := Lib.hid hr1
  have HF1 := Lib.hid hf1
  have HC1 := Lib.hid hc1
  have HG := Lib.hid hg
  have HE : Hid (NumEnd w rb cb fb d a t y x v s k (.returned (.int .i64 ((vget (lft s k)).2.2 : Int))) (w1.setCell ⟨fb, 2, none⟩ (.int .u64 ((vget (lft s k)).1 : Int)))) := by
    have hne1 : rb ≠ fb := BlkAt.apart hr1 hf1 (by decide)
    have hne2 : cb ≠ fb := BlkAt.apart hc1.1 hf1 (by decide)
    refine ⟨rfl, ⟨hc1.1.far (p := ⟨fb, 2, none⟩) hne2 _, hc1.2⟩, ?_, BlkAt.far (p := ⟨fb, 2, none⟩) hr1 hne1 _, ?_⟩
    · have := BlkAt.put hf1 2 (.int .u64 ((vget (lft s k)).1 : Int))
      exact this
    · exact (Tch.grown (S := S2 cb fb) hg (fun g e _ => by injection e with e; exact .inl e.symm)).put (p := ⟨fb, 2, none⟩) (fun _ => .inr rfl) _
  unfold lft at HE
  generalize (vget (s.data.toList.drop k)).1 = V at *
  generalize (vget (s.data.toList.drop k)).2.2 = G at *
  clear hr1 hf1 hc1 hg
  go_wp2_with fail
  go_ret
  exact HE.out
def TextEnd (w : World) (rb cb fb d a t : Nat) (y : Int) (n : Nat) (v : Value) (s : ByteArray) (k : Nat) (e : Ending) (w' : World) : Prop :=
  ∃ (g k' : Nat), e = .returned (.int .i64 (g : Int)) ∧ Tch (S2 cb fb) w w' ∧ Cur w' cb s k' ∧
    (if (vget (lft s k)).2.2 ≠ 0 then g = (vget (lft s k)).2.2 else if s.size - (k + (vget (lft s k)).2.1) < (vget (lft s k)).1 then g = 1
     else g = 0 ∧ k' = k + (vget (lft s k)).2.1 + (vget (lft s k)).1 ∧ Rdr w' rb cb d a ∧ FBx w' fb t y n (txt ((lft s (k + (vget (lft s k)).2.1)).take (vget (lft s k)).1)) v)
theorem text_any (rb cb fb d a t n : Nat) (y : Int) (x : ByteArray) (v : Value) (s : ByteArray) (k : Nat) (w : World) (hr : Rdr w rb cb d a) (hc : Cur w cb s k) (hf : FBx w fb t y n x v) :
    Calls Tryd.prog 77 #[.pointer (some ⟨rb, 0, none⟩), .pointer (some ⟨fb, 0, none⟩)] w (TextEnd w rb cb fb d a t y n v s k) := by
  have HR := Lib.hid hr
  have HC := Lib.hid hc
  have HF := Lib.hid hf
  have r0 := hr.cell 0
  simp at r0
  clear hr hc hf
  go_enter Tryd.func77, Tryd.ntmps77
  go_wp2_with fail
  refine (next_any cb s k _ HC.out).mono ?_
  rintro e w1 ⟨rfl, hc1, hg⟩
  have hr1 := HR.out.grown HC.out hg
  have hf1 := HF.out.grown HC.out hg
  have ht1 : Tch (S2 cb fb) w w1 := Tch.grown hg (fun g e _ => by injection e with e; exact .inl e.symm)
  rw [show s.data.toList.drop k = lft s k from rfl] at hc1 ⊢
  have r0 := hr1.cell 0
  have r1 := hr1.cell 1
  have r2 := hr1.cell 2
  have x0 := hf1.cell 0
  have x1 := hf1.cell 1
  have x2 := hf1.cell 2
  have x3 := hf1.cell 3
  have x4 := hf1.cell 4
  have y2 := hf1.free 2
  have y3 := hf1.free 3
  have y4 := hf1.free 4
  simp at r0 r1 r2 x0 x1 x2 x3 x4
  by_cases hv : (vget (lft s k)).2.2 = 0
  · obtain ⟨v1, v2, v3, v4, v5⟩ := vget_ok hv
    rw [lft_length] at v2
    have hz := hc1.2.2
    by_cases hbig : s.size - (k + (vget (lft s k)).2.1) < (vget (lft s k)).1
    · have HE : Hid (∀ w', Below w1.heap.size w1 w' → TextEnd w rb cb fb d a t y n v s k (.returned (.int .i64 1)) w') := fun w' hb => ⟨1, _, rfl, ht1.bel hb, ⟨hc1.1.below hb hc1.1.lt, hc1.2⟩, by rw [if_neg (by omega), if_pos hbig]⟩
      have htk := cur_take_no cb s _ ((vget (lft s k)).1 : Int) w1 hc1 (by omega) (by omega)
      have HTK := Lib.hid htk
      rw [hv]
      clear htk hv v1 v2 v3 v4 v5 hr1 hf1 hc1 hg ht1 hbig hz
      generalize (vget (lft s k)).1 = V at *
      generalize (vget (lft s k)).2.1 = M at *
      go_wp2_with fail
      refine HTK.out.mono ?_
      rintro e w2 ⟨rfl, hb2⟩
      go_wp2_with fail
      go_ret
      exact HE.out _ hb2
    · have htk := cur_take_yes cb s _ ((vget (lft s k)).1 : Int) w1 hc1 (by omega) (by omega)
      rw [Int.toNat_natCast, show s.extract (k + (vget (lft s k)).2.1) (k + (vget (lft s k)).2.1 + (vget (lft s k)).1) = txt ((lft s (k + (vget (lft s k)).2.1)).take (vget (lft s k)).1) from txt_eq (lft_take s _ _)] at htk
      have HTK := Lib.hid htk
      have HE : Hid (∀ w2, Cur w2 cb s (k + (vget (lft s k)).2.1 + (vget (lft s k)).1) → w1.grownBy w2 (some cb) → TextEnd w rb cb fb d a t y n v s k (.returned (.int .i64 0)) (w2.setCell ⟨fb, 3, none⟩ (.string (txt ((lft s (k + (vget (lft s k)).2.1)).take (vget (lft s k)).1))))) := fun w2 hc2 hg2 => by
        have hr2 := hr1.grown hc1 hg2
        have hf2 := hf1.grown hc1 hg2
        have hne1 : rb ≠ fb := BlkAt.apart hr2 hf2 (by decide)
        have hne2 : cb ≠ fb := BlkAt.apart hc2.1 hf2 (by decide)
        have ht2 : Tch (S2 cb fb) w w2 := ht1.trans (Tch.grown (S := S2 cb fb) hg2 (fun g e _ => by injection e with e; exact .inl e.symm)) fun _ _ h => h
        refine ⟨0, _, rfl, ht2.put (p := ⟨fb, 3, none⟩) (fun _ => .inr rfl) _, ⟨hc2.1.far (p := ⟨fb, 3, none⟩) hne2 _, hc2.2⟩, ?_⟩
        rw [if_neg (by omega), if_neg hbig]
        exact ⟨rfl, rfl, BlkAt.far (p := ⟨fb, 3, none⟩) hr2 hne1 _, BlkAt.put hf2 3 _⟩
      have HX : Hid (∀ w2, w1.grownBy w2 (some cb) → w2.cell? ⟨fb, 3, none⟩ = some (.string x) ∧ w2.frozen? ⟨fb, 3, none⟩ = false) := fun w2 hg2 => by
        have hf2 := hf1.grown hc1 hg2
        have e3 := hf2.cell 3
        simp at e3
        exact ⟨e3, hf2.free 3⟩
      rw [hv]
      clear htk hv v1 v2 v3 v4 v5 hr1 hf1 hc1 hg ht1 hbig hz
      generalize txt ((lft s (k + (vget (lft s k)).2.1)).take (vget (lft s k)).1) = Z at *
      generalize (vget (lft s k)).1 = V at *
      generalize (vget (lft s k)).2.1 = M at *
      go_wp2_with fail
      refine HTK.out.mono ?_
      rintro e w2 ⟨rfl, hc2, hg2⟩
      obtain ⟨z3, z4⟩ := HX.out w2 hg2
      have HE2 := Lib.hid (HE.out w2 hc2 hg2)
      clear hc2 hg2
      go_wp2_with fail
      go_ret
      exact HE2.out
  · have HE : Hid (TextEnd w rb cb fb d a t y n v s k (.returned (.int .i64 ((vget (lft s k)).2.2 : Int))) w1) := ⟨_, _, rfl, ht1, hc1, by rw [if_pos hv]⟩
    generalize (vget (lft s k)).2.2 = G at *
    generalize (vget (lft s k)).1 = V at *
    have hgi : ((G : Int) != 0) = true := by rw [bne_iff_ne]; omega
    clear hr1 hf1 hc1 hg ht1 hv
    go_wp2_with fail
    go_ret
    exact HE.out
end Go.Proofs.YtmlijflappjfoaaDoor
end

section
/-
  Contracts of layer 9: how a field's fields are read. Conditions: a reader over a cursor over a text.
-/
namespace Go.Proofs.YtmlijflappjfoaaDoor
open Go.RowKit Go.PM
set_option maxRecDepth 100000
set_option maxHeartbeats 1500000
attribute [local go_sem ↓] Go.wp_at_zero Go.wp_at_succ

def AllEnd (w : World) (rb cb d a : Nat) (s : ByteArray) (k : Nat) (e : Ending) (w' : World) : Prop :=
  ∃ (A : Option Addr) (c : Nat), e = .returned (.tuple #[.slice A (fget (lft s k) d a).1.len c, .int .i64 ((fget (lft s k) d a).2 : Int)]) ∧ SlV w' (w.heap.size ≤ ·) (.slice A (fget (lft s k) d a).1.len c) (fget (lft s k) d a).1 ∧ Tch (S2 cb rb) w w'
/-- All fields of texts of so many bytes are read. -/
def AllOk (N : Nat) : Prop := ∀ (rb cb : Nat) (s : ByteArray) (k d a : Nat) (w : World), s.size - k ≤ N → d ≤ 8 → a ≤ 4294967296 → s.size ≤ 1000000 → Rdr w rb cb d a → Cur w cb s k → Calls Tryd.prog 62 #[.pointer (some ⟨rb, 0, none⟩)] w (AllEnd w rb cb d a s k)
def ListEnd (w : World) (rb cb fb d a t : Nat) (y : Int) (n : Nat) (x : ByteArray) (s : ByteArray) (k : Nat) (e : Ending) (w' : World) : Prop :=
  ∃ (g k' : Nat), e = .returned (.int .i64 (g : Int)) ∧ Tch (S2 cb fb) w w' ∧ Cur w' cb s k' ∧
    (if (vget (lft s k)).2.2 ≠ 0 then g = (vget (lft s k)).2.2 else if s.size - (k + (vget (lft s k)).2.1) < (vget (lft s k)).1 then g = 1 else if d = 8 then g = 9
     else g = (fget ((lft s (k + (vget (lft s k)).2.1)).take (vget (lft s k)).1) (d + 1) 0).2 ∧ k' = k + (vget (lft s k)).2.1 + (vget (lft s k)).1 ∧ Rdr w' rb cb d a ∧
       ∃ A c, FBx w' fb t y n x (.slice A (fget ((lft s (k + (vget (lft s k)).2.1)).take (vget (lft s k)).1) (d + 1) 0).1.len c) ∧ SlV w' (w.heap.size ≤ ·) (.slice A (fget ((lft s (k + (vget (lft s k)).2.1)).take (vget (lft s k)).1) (d + 1) 0).1.len c) (fget ((lft s (k + (vget (lft s k)).2.1)).take (vget (lft s k)).1) (d + 1) 0).1)
theorem list_any {N : Nat} (hall : AllOk N) (rb cb fb d a t n : Nat) (y : Int) (x : ByteArray) (v : Value) (s : ByteArray) (k : Nat) (w : World) (hr : Rdr w rb cb d a) (hc : Cur w cb s k) (hf : FBx w fb t y n x v) (hN : s.size - k ≤ N + 1) (hs : s.size ≤ 1000000) (hd : d ≤ 8) :
    Calls Tryd.prog 78 #[.pointer (some ⟨rb, 0, none⟩), .pointer (some ⟨fb, 0, none⟩)] w (ListEnd w rb cb fb d a t y n x s k) := by
  have HALL := Lib.hid hall
  have HR := Lib.hid hr
  have HC := Lib.hid hc
  have HF := Lib.hid hf
  have r0 := hr.cell 0
  simp at r0
  clear hr hc hf hall
  go_enter Tryd.func78, Tryd.ntmps78
  go_wp2_with fail
  refine (next_any cb s k _ HC.out).mono ?_
  rintro e w1 ⟨rfl, hc1, hg⟩
  have hr1 := HR.out.grown HC.out hg
  have hf1 := HF.out.grown HC.out hg
  have ht1 : Tch (S2 cb fb) w w1 := Tch.grown hg (fun g e _ => by injection e with e; exact .inl e.symm)
  rw [show s.data.toList.drop k = lft s k from rfl] at hc1 ⊢
  have r0 := hr1.cell 0
  have r1 := hr1.cell 1
  have r2 := hr1.cell 2
  have x4 := hf1.cell 4
  have y4 := hf1.free 4
  simp at r0 r1 r2 x4
  by_cases hv : (vget (lft s k)).2.2 = 0
  · obtain ⟨v1, v2, v3, v4, v5⟩ := vget_ok hv
    rw [lft_length] at v2
    have hz := hc1.2.2
    by_cases hbig : s.size - (k + (vget (lft s k)).2.1) < (vget (lft s k)).1
    · have HE : Hid (∀ w', Below w1.heap.size w1 w' → ListEnd w rb cb fb d a t y n x s k (.returned (.int .i64 1)) w') := fun w' hb => ⟨1, _, rfl, ht1.bel hb, ⟨hc1.1.below hb hc1.1.lt, hc1.2⟩, by rw [if_neg (by omega), if_pos hbig]⟩
      have htk := cur_sub_no cb s _ ((vget (lft s k)).1 : Int) w1 hc1 (by omega) (by omega)
      have HTK := Lib.hid htk
      rw [hv]
      clear htk hv v1 v2 v3 v4 v5 hr1 hf1 hc1 hg ht1 hbig hz
      generalize (vget (lft s k)).1 = V at *
      generalize (vget (lft s k)).2.1 = M at *
      go_wp2_with fail
      refine HTK.out.mono ?_
      rintro e w2 ⟨rfl, hb2⟩
      go_wp2_with fail
      go_ret
      exact HE.out _ hb2
    · have htk := cur_sub_yes cb s _ ((vget (lft s k)).1 : Int) w1 hc1 (by omega) (by omega)
      rw [Int.toNat_natCast, show s.extract (k + (vget (lft s k)).2.1) (k + (vget (lft s k)).2.1 + (vget (lft s k)).1) = txt ((lft s (k + (vget (lft s k)).2.1)).take (vget (lft s k)).1) from txt_eq (lft_take s _ _)] at htk
      have HTK := Lib.hid htk
      have hX : ∀ w2, w1.grownBy w2 (some cb) → Rdr w2 rb cb d a ∧ FBx w2 fb t y n x v ∧ Tch (S2 cb fb) w w2 := fun w2 hg2 => ⟨hr1.grown hc1 hg2, hf1.grown hc1 hg2, ht1.trans (Tch.grown (S := S2 cb fb) hg2 (fun g e _ => by injection e with e; exact .inl e.symm)) fun _ _ h => h⟩
      have HX := Lib.hid hX
      by_cases h8 : d = 8
      · subst h8
        have HE : Hid (∀ w2, Cur w2 cb s (k + (vget (lft s k)).2.1 + (vget (lft s k)).1) → w1.grownBy w2 (some cb) → ListEnd w rb cb fb 8 a t y n x s k (.returned (.int .i64 9)) w2) := fun w2 hc2 hg2 =>
          ⟨9, _, rfl, (hX w2 hg2).2.2, hc2, by rw [if_neg (by omega), if_neg hbig, if_pos rfl]⟩
        rw [hv]
        clear htk hv v1 v2 v3 v4 v5 hr1 hf1 hc1 hg ht1 hbig hz hX
        generalize txt ((lft s (k + (vget (lft s k)).2.1)).take (vget (lft s k)).1) = Z at *
        generalize (vget (lft s k)).1 = V at *
        generalize (vget (lft s k)).2.1 = M at *
        go_wp2_with fail
        refine HTK.out.mono ?_
        rintro e w2 ⟨g, rfl, hgs, hcg, hc2, hg2⟩
        have hr2 := (HX.out w2 hg2).1
        have e1 := hr2.cell 1
        simp at e1
        have HE2 := Lib.hid (HE.out w2 hc2 hg2)
        clear hc2 hg2 hcg hr2
        go_wp2_with fail
        go_ret
        exact HE2.out
      · have hul : ((lft s (k + (vget (lft s k)).2.1)).take (vget (lft s k)).1).length = (vget (lft s k)).1 := by rw [List.length_take, lft_length]; omega
        have hvN : (vget (lft s k)).1 ≤ N ∧ (vget (lft s k)).1 ≤ 1000000 := by omega
        obtain ⟨hvN1, hvN2⟩ := hvN
        have hlu : ∀ U : List UInt8, lft (txt U) 0 = U := fun U => rfl
        have HE : Hid (∀ (w2 w4 : World) (q : Nat) (A : Option Addr) (c : Nat), Cur w2 cb s (k + (vget (lft s k)).2.1 + (vget (lft s k)).1) → w1.grownBy w2 (some cb) → w1.heap.size ≤ q → q < w2.heap.size →
            SlV w4 (w2.heap.size + 1 ≤ ·) (.slice A (fget ((lft s (k + (vget (lft s k)).2.1)).take (vget (lft s k)).1) (d + 1) 0).1.len c) (fget ((lft s (k + (vget (lft s k)).2.1)).take (vget (lft s k)).1) (d + 1) 0).1 →
            Tch (S2 q w2.heap.size) (w2.alloc (.cells #[.pointer (some ⟨q, 0, none⟩), .int .i64 ((d : Int) + 1), .int .u64 0] 90)) w4 →
            w4.cell? ⟨fb, 4, none⟩ = some v ∧ w4.frozen? ⟨fb, 4, none⟩ = false ∧ ListEnd w rb cb fb d a t y n x s k (.returned (.int .i64 ((fget ((lft s (k + (vget (lft s k)).2.1)).take (vget (lft s k)).1) (d + 1) 0).2 : Int))) (w4.setCell ⟨fb, 4, none⟩ (.slice A (fget ((lft s (k + (vget (lft s k)).2.1)).take (vget (lft s k)).1) (d + 1) 0).1.len c))) := fun w2 w4 q A c hc2 hg2 hq1 hq2 hs4 ht4 => by
          obtain ⟨hr2, hf2, ht2⟩ := hX w2 hg2
          have hsz := hg2.size
          have hsz1 := hg.size
          have hcl := hc1.1.lt
          have hfl := hf1.lt
          have hrl := hr1.lt
          have hn : ∀ j, j < w1.heap.size → ¬ S2 q w2.heap.size j := fun j hj h => by rcases h with h | h <;> omega
          have hr4 := (BlkAt.more hr2 (.cells #[.pointer (some ⟨q, 0, none⟩), .int .i64 ((d : Int) + 1), .int .u64 0] 90)).tch ht4 (hn rb hrl)
          have hf4 := (BlkAt.more hf2 (.cells #[.pointer (some ⟨q, 0, none⟩), .int .i64 ((d : Int) + 1), .int .u64 0] 90)).tch ht4 (hn fb hfl)
          have hc4 := (BlkAt.more hc2.1 (.cells #[.pointer (some ⟨q, 0, none⟩), .int .i64 ((d : Int) + 1), .int .u64 0] 90)).tch ht4 (hn cb hcl)
          have htw : Tch (S2 cb fb) w w4 := (ht2.more _).trans ht4 fun j hj h => absurd h (hn j (by omega))
          have hne1 : rb ≠ fb := BlkAt.apart hr4 hf4 (by decide)
          have hne2 : cb ≠ fb := BlkAt.apart hc4 hf4 (by decide)
          have e4 := hf4.cell 4
          simp at e4
          refine ⟨e4, hf4.free 4, _, _, rfl, htw.put (p := ⟨fb, 4, none⟩) (fun _ => .inr rfl) _, ⟨BlkAt.far (p := ⟨fb, 4, none⟩) hc4 hne2 _, hc2.2⟩, ?_⟩
          rw [if_neg (by omega), if_neg hbig, if_neg h8]
          refine ⟨rfl, rfl, BlkAt.far (p := ⟨fb, 4, none⟩) hr4 hne1 _, A, c, BlkAt.put hf4 4 _, ?_⟩
          have h5 := hs4.tch ((Tch.refl (fun j => j = fb) w4).put (p := ⟨fb, 4, none⟩) (fun _ => rfl) (.slice A (fget ((lft s (k + (vget (lft s k)).2.1)).take (vget (lft s k)).1) (d + 1) 0).1.len c)) (fun j hj e => by omega)
          exact h5.imp fun j hj => by omega
        have HAL : Hid (∀ (w2 : World) (q : Nat), q < w2.heap.size → Cur w2 q (txt ((lft s (k + (vget (lft s k)).2.1)).take (vget (lft s k)).1)) 0 →
            Calls Tryd.prog 62 #[.pointer (some ⟨w2.heap.size, 0, none⟩)] (w2.alloc (.cells #[.pointer (some ⟨q, 0, none⟩), .int .i64 ((d : Int) + 1), .int .u64 0] 90)) fun e w4 => ∃ A c, e = .returned (.tuple #[.slice A (fget ((lft s (k + (vget (lft s k)).2.1)).take (vget (lft s k)).1) (d + 1) 0).1.len c, .int .i64 ((fget ((lft s (k + (vget (lft s k)).2.1)).take (vget (lft s k)).1) (d + 1) 0).2 : Int)]) ∧
              SlV w4 (w2.heap.size + 1 ≤ ·) (.slice A (fget ((lft s (k + (vget (lft s k)).2.1)).take (vget (lft s k)).1) (d + 1) 0).1.len c) (fget ((lft s (k + (vget (lft s k)).2.1)).take (vget (lft s k)).1) (d + 1) 0).1 ∧ Tch (S2 q w2.heap.size) (w2.alloc (.cells #[.pointer (some ⟨q, 0, none⟩), .int .i64 ((d : Int) + 1), .int .u64 0] 90)) w4) := fun w2 q hq hcq => by
          have hrd : Rdr (w2.alloc (.cells #[.pointer (some ⟨q, 0, none⟩), .int .i64 ((d : Int) + 1), .int .u64 0] 90)) w2.heap.size q (d + 1) 0 := BlkAt.made w2 90 #[.pointer (some ⟨q, 0, none⟩), .int .i64 ((d : Int) + 1), .int .u64 0]
          have h1 := HALL.out w2.heap.size q (txt ((lft s (k + (vget (lft s k)).2.1)).take (vget (lft s k)).1)) 0 (d + 1) 0 (w2.alloc (.cells #[.pointer (some ⟨q, 0, none⟩), .int .i64 ((d : Int) + 1), .int .u64 0] 90)) (by rw [txt_size, hul]; omega) (by omega) (by omega) (by rw [txt_size, hul]; exact hvN2) hrd ⟨hcq.1.more _, hcq.2⟩
          refine h1.mono fun e w4 h => ?_
          unfold AllEnd at h
          rw [hlu, World.size_alloc] at h
          exact h
        have hdi : (d : Int) < 8 := by omega
        rw [hv]
        clear htk hv v1 v2 v3 v4 v5 hr1 hf1 hc1 hg ht1 hbig hz hX hul hlu
        generalize (fget ((lft s (k + (vget (lft s k)).2.1)).take (vget (lft s k)).1) (d + 1) 0).2 = G at *
        generalize (fget ((lft s (k + (vget (lft s k)).2.1)).take (vget (lft s k)).1) (d + 1) 0).1 = F at *
        generalize txt ((lft s (k + (vget (lft s k)).2.1)).take (vget (lft s k)).1) = Z at *
        generalize (vget (lft s k)).1 = V at *
        generalize (vget (lft s k)).2.1 = M at *
        go_wp2_with fail
        refine HTK.out.mono ?_
        rintro e w2 ⟨q, rfl, hqs, hcq, hc2, hg2⟩
        have hql := hcq.1.lt
        have hr2 := (HX.out w2 hg2).1
        have e1 := hr2.cell 1
        simp at e1
        have HCQ := Lib.hid hcq
        have HE2 := Lib.hid (fun w4 A c => HE.out w2 w4 q A c hc2 hg2 hqs hql)
        clear hc2 hg2 hcq hr2
        go_wp2_with fail
        refine (HAL.out w2 q hql HCQ.out).mono ?_
        rintro e w4 ⟨A, c, rfl, hs4, ht4⟩
        obtain ⟨z4, z5, hle⟩ := HE2.out w4 A c hs4 ht4
        have HLE := Lib.hid hle
        clear hs4 ht4 hle
        go_wp2_with fail
        go_ret
        exact HLE.out
  · have HE : Hid (ListEnd w rb cb fb d a t y n x s k (.returned (.int .i64 ((vget (lft s k)).2.2 : Int))) w1) := ⟨_, _, rfl, ht1, hc1, by rw [if_pos hv]⟩
    generalize (vget (lft s k)).2.2 = G at *
    generalize (vget (lft s k)).1 = V at *
    have hgi : ((G : Int) != 0) = true := by rw [bne_iff_ne]; omega
    clear hr1 hf1 hc1 hg ht1 hv
    go_wp2_with fail
    go_ret
    exact HE.out
end Go.Proofs.YtmlijflappjfoaaDoor
end
