/-
  Texts of the proof, joined: Wire Wire2 Wire3 RefWire WireLaw. Conditions: as each names.
-/
import Derived.Test.YtmlijflappjfoaaDoorBak
import Derived.Test.YtmlijflappjfoaaDoorBaf
import Derived.OwnWalk
import Derived.Test.YtmlijflappjfoaaDoorBad
import Derived.Test.YtmlijflappjfoaaDoorBaj

section
/-
  Contracts of layer 9: how fields are written. Conditions: fields that may be, of texts of bounded length.
-/
namespace Go.Proofs.YtmlijflappjfoaaDoor
open Go.RowKit Go.PM
set_option maxRecDepth 100000
set_option maxHeartbeats 1500000
attribute [local go_sem ↓] Go.wp_at_zero Go.wp_at_succ

theorem or_small (t y : Nat) (ht : t ≤ 4294967296) (hy : y < 4) : bits .or .u64 ((t : Int) * 4) (y : Int) = ((4 * t + y : Nat) : Int) := by
  have h1 := bits_or_u64_nat (4 * t) y (by omega) (by omega)
  have h2 := Nat.two_pow_add_eq_or_of_lt (i := 2) (b := y) (by omega) t
  rw [show (2 : Nat) ^ 2 * t = 4 * t by omega] at h2
  rw [← h2] at h1
  have e : ((t : Int) * 4) = ((4 * t : Nat) : Int) := by omega
  rw [e]
  exact h1
theorem head_any (b o t : Nat) (y : Int) (w : World) (h0 : w.cell? ⟨b, o, none⟩ = some (.int .u64 (t : Int))) (h1 : w.cell? ⟨b, o + 1, none⟩ = some (.int .i64 y)) (ht : t ≤ 4294967296) (hy : 0 ≤ y ∧ y ≤ 2) :
    Calls Tryd.prog 71 #[.pointer (some ⟨b, o, none⟩)] w fun e w' => e = .returned (.int .u64 ((4 * t + y.toNat : Nat) : Int)) ∧ Below w.heap.size w w' := by
  obtain ⟨Y, rfl⟩ := Int.eq_ofNat_of_zero_le hy.1
  have hor := or_small t Y ht (by omega)
  have hti : (t : Int) ≤ 4294967296 := by omega
  have ht0 : (0 : Int) ≤ (t : Int) * 4 := by omega
  have hYi : (Y : Int) ≤ 2 := by omega
  rw [Int.toNat_natCast]
  clear hy
  generalize hX : (4 * t + Y : Nat) = X at hor ⊢
  clear hX
  go_enter Tryd.func71, Tryd.ntmps71
  go_wp2_with fail
  go_quiet (fail)
  go_wp2_with fail
  go_ret
  exact ⟨rfl, bn b0 _⟩
theorem fcheckP_drop {f : Fs} {a d : Nat} (k : Nat) (h : fcheckP f a d) : ∃ a', fcheckP (f.drop k) a' d := by
  rw [← Fs.take_drop f k, fcheckP_app] at h
  exact ⟨_, h.2⟩
theorem ftx_one (t : Nat) (y : Int) (n : Nat) (s : ByteArray) (i : Fs) : (ftx (.cons t y n s i .nil)).length = vsz (4 * t + y.toNat) + (if y = 0 then vput n else if y = 1 then vput s.size ++ s.data.toList else vput (ftx i).length ++ ftx i).length := by
  simp only [ftx, List.append_nil, List.length_append, vput_length]
theorem ftx_take {f : Fs} {k : Nat} {t n : Nat} {y : Int} {s : ByteArray} {i : Fs} (h : f.take (k + 1) = (f.take k).app (.cons t y n s i .nil)) : ftx (f.take (k + 1)) = ftx (f.take k) ++ ftx (.cons t y n s i .nil) := by rw [h, ftx_app]
theorem ftx_take_le : ∀ (f : Fs) (k : Nat), (ftx (f.take k)).length ≤ (ftx f).length := fun f k => by
  have h := ftx_app (f.take k) (f.drop k)
  rw [Fs.take_drop] at h
  rw [h, List.length_append]
  omega
theorem vsz_le5 {n : Nat} (h : n ≤ 17179869186) : vsz n ≤ 10 := vsz_le10 (show n < 18446744073709551616 by omega)
theorem wsize_any (N : Nat) : ∀ (A : Option Addr) (c : Nat) (f : Fs) (I : Nat → Prop) (a d : Nat) (w : World), f.count ≤ N → SlV w I (.slice A f.len c) f → fcheckP f a d → f.count ≤ 1000000 → (ftx f).length ≤ 1000000000000 →
    Calls Tryd.prog 57 #[.slice A f.len c] w fun e w' => e = .returned (.int .i64 ((ftx f).length : Int)) ∧ Below w.heap.size w w' := by
  induction N with
  | zero =>
    intro A c f I a d w hN hr hP h60 hL
    have : f = .nil := Fs.len_zero (by have := f.len_count; omega)
    subst this
    go_enter Tryd.func57, Tryd.ntmps57
    go_wp2_with fail
    go_loopw [3, 9] (fun nn kk wr => nn = .int .i64 0 ∧ kk = .int .i64 0 ∧ wr = w) (fun _ _ _ => 0)
    case atStart => exact ⟨rfl, rfl, rfl⟩
    case round =>
      obtain ⟨rfl, rfl, rfl⟩ := hrel
      go_wp2_with fail
      go_ret
      exact ⟨rfl, b0⟩
  | succ N ih =>
    intro A c f I a d w hN hr hP h60 hL
    have IH := Lib.hid ih
    have HR := Lib.hid hr
    have HP := Lib.hid hP
    have H60 : Hid (f.count ≤ 1000000 ∧ f.count ≤ N + 1) := ⟨h60, hN⟩
    have hfl := Nat.le_trans f.len_count h60
    clear ih hr hP h60 hN
    have H0 : Hid ((ftx (f.take 0)).length = 0) := by cases f <;> rfl
    generalize hT : (ftx f).length = T at *
    have HT := Lib.hid hT
    clear hT
    go_enter Tryd.func57, Tryd.ntmps57
    go_wp2_with fail
    go_loopw [3, 9] (fun nn kk wr => ∃ k n : Nat, k ≤ f.len ∧ kk = .int .i64 (k : Int) ∧ nn = .int .i64 (n : Int) ∧ n ≤ 1000000000000 ∧ Hid ((ftx (f.take k)).length = n) ∧ Below w.heap.size w wr) (fun _ kk _ => f.len - (intOf kk).toNat)
    case atStart => exact ⟨0, 0, by omega, rfl, rfl, by omega, H0, b0⟩
    case round =>
      obtain ⟨k, m, hk, rfl, rfl, hm, hmt, hbel⟩ := hrel
      by_cases hlt : k < f.len
      · obtain ⟨t, y, n, s, i, hdc, htk⟩ := f.drop_cons k hlt
        obtain ⟨A0, c0, hv, hc0, hor⟩ := HR.out.below hbel
        injection hv with hv1 hv2 hv3
        subst hv1 hv3
        rcases hor with h0 | ⟨b, o, rfl, hIb, hbl, hat⟩
        · omega
        have hak := hat.drop k
        rw [hdc] at hak
        obtain ⟨c0, c1, c2, c3, ⟨Ai, ci, c4, hci, hin⟩, _⟩ := hak
        obtain ⟨a', hPk⟩ := fcheckP_drop k HP.out
        rw [hdc] at hPk
        obtain ⟨⟨_, ht0, ht32, hn64, hcase⟩, _⟩ := hPk
        have hcc := f.drop_count k
        rw [hdc] at hcc
        simp only [Fs.count] at hcc
        have hstep := ftx_take htk
        have hle := ftx_take_le f (k + 1)
        rw [hstep, List.length_append, ftx_one, hmt.out, HT.out] at hle
        have hlen : (ftx (f.take (k + 1))).length = m + (vsz (4 * t + y.toNat) + (if y = 0 then vput n else if y = 1 then vput s.size ++ s.data.toList else vput (ftx i).length ++ ftx i).length) := by rw [hstep, List.length_append, ftx_one, hmt.out]
        have hy02 : 0 ≤ y ∧ y ≤ 2 := by rcases hcase with ⟨h, _⟩ | ⟨h, _⟩ | ⟨h, _⟩ <;> omega
        have hX64 : In64 (4 * t + y.toNat) := by unfold In64; omega
        have hvx := vsz_le10 hX64
        have HHD : Hid (∀ x : World, Below wr.heap.size wr x → Calls Tryd.prog 71 #[.pointer (some ⟨b, o + k * 5, none⟩)] x fun e w' => e = .returned (.int .u64 ((4 * t + y.toNat : Nat) : Int)) ∧ Below x.heap.size x w') := fun x hx => by
          have e := fun j => World.cell?_of_block (a := ⟨b, j, none⟩) (hx.block b hbl)
          exact head_any b (o + k * 5) t y x ((e _).trans c0) ((e _).trans c1) ht32 hy02
        have HCells : Hid (∀ x : World, Below wr.heap.size wr x → x.cell? ⟨b, o + k * 5 + 1, none⟩ = some (.int .i64 y) ∧ x.cell? ⟨b, o + k * 5 + 2, none⟩ = some (.int .u64 (n : Int)) ∧ x.cell? ⟨b, o + k * 5 + 3, none⟩ = some (.string s) ∧ x.cell? ⟨b, o + k * 5 + 4, none⟩ = some (.slice Ai i.len ci)) := fun x hx => by
          have e := fun j => World.cell?_of_block (a := ⟨b, j, none⟩) (hx.block b hbl)
          exact ⟨(e _).trans c1, (e _).trans c2, (e _).trans c3, (e _).trans c4⟩
        have HSI : Hid (SlV wr I (.slice Ai i.len ci) i) := ⟨Ai, ci, rfl, hci, hin⟩
        have HBEL := Lib.hid hbel
        have HX := Lib.hid hX64
        have hkf : (k : Int) < (f.len : Int) := by omega
        have hic : i.count ≤ N ∧ i.count ≤ 1000000 := by have := H60.out; omega
        clear hX64 hdc htk hstep hat hin hv2 hbel hmt c0 c1 c2 c3 c4
        generalize hXX : 4 * t + y.toNat = X at *
        have HXX := Lib.hid hXX
        clear hXX
        rcases hcase with ⟨rfl, rfl, rfl⟩ | ⟨rfl, rfl, rfl, hs63⟩ | ⟨rfl, rfl, rfl, hd8, hPi⟩
        · rw [if_pos rfl, vput_length] at hlen hle
          have HN := Lib.hid hn64
          have hvn := vsz_le10 hn64
          have HLEN := Lib.hid hlen
          have hmn : m + (vsz X + vsz n) ≤ 1000000000000 := by omega
          clear hlen hn64 hle
          go_wp2_with fail
          refine (HHD.out _ b0).mono ?_
          rintro e1 W1 ⟨rfl, hbh⟩
          obtain ⟨q1, q2, q3, q4⟩ := HCells.out _ hbh
          have HB1 := Lib.hid hbh
          clear hbh
          go_wp2_with fail
          refine (size_any X _ HX.out).mono ?_
          rintro e2 W2 ⟨rfl, rfl⟩
          go_wp2_with fail
          refine (size_any n _ HN.out).mono ?_
          rintro e3 W3 ⟨rfl, rfl⟩
          go_wp2_with fail
          go_roundw
          case rel => exact ⟨k + 1, m + (vsz X + vsz n), by omega, by go_num, by go_num, hmn, HLEN.out, HBEL.out.trans (HB1.out.mono HBEL.out.size)⟩
          case measure => simp [intOf]; omega
        · rw [if_neg (by decide), if_pos rfl, List.length_append, vput_length, len_list] at hlen hle
          have hs64 : In64 s.size := by show s.size < _; omega
          have HSZ := Lib.hid hs64
          have hvn := vsz_le10 hs64
          have HLEN := Lib.hid hlen
          have hmn : m + (vsz X + (vsz s.size + s.size)) ≤ 1000000000000 := by omega
          have hsz : s.size ≤ 1000000000000 := by omega
          clear hlen hle hs64 hn64
          go_wp2_with fail
          refine (HHD.out _ b0).mono ?_
          rintro e1 W1 ⟨rfl, hbh⟩
          obtain ⟨q1, q2, q3, q4⟩ := HCells.out _ hbh
          have HB1 := Lib.hid hbh
          clear hbh
          go_wp2_with fail
          refine (size_any X _ HX.out).mono ?_
          rintro e2 W2 ⟨rfl, rfl⟩
          go_wp2_with fail
          have hw1 : IntKind.i64.wrap ((vsz s.size : Int) + (s.size : Int)) = (vsz s.size : Int) + (s.size : Int) := by simp [IntKind.wrap, IntKind.signed, IntKind.bits]; omega
          have hw2 : IntKind.i64.wrap (((m : Int) + (vsz X : Int)) + ((vsz s.size : Int) + (s.size : Int))) = ((m : Int) + (vsz X : Int)) + ((vsz s.size : Int) + (s.size : Int)) := by simp [IntKind.wrap, IntKind.signed, IntKind.bits]; omega
          go_quiet ((go_at_call 70; exact Calls.quiet_of_same ((size_any s.size _ HSZ.out).mono fun e w' ⟨he, hw⟩ => ⟨he, hw.symm⟩)))
          clear hw1 hw2
          go_wp2_with fail
          go_roundw
          case rel => exact ⟨k + 1, m + (vsz X + (vsz s.size + s.size)), by omega, by go_num, by go_num, hmn, HLEN.out, HBEL.out.trans ((bn HB1.out _).mono HBEL.out.size)⟩
          case measure => simp [intOf]; omega
        · rw [if_neg (by decide), if_neg (by decide), List.length_append, vput_length] at hlen hle
          have HIH : Hid (∀ x : World, Below wr.heap.size wr x → Calls Tryd.prog 57 #[.slice Ai i.len ci] x fun e w' => e = .returned (.int .i64 ((ftx i).length : Int)) ∧ Below x.heap.size x w') := fun x hx =>
            IH.out Ai ci i I 0 (d + 1) x hic.1 (HSI.out.below hx) hPi hic.2 (by omega)
          generalize (ftx i).length = L at *
          have hL64 : In64 L := by show L < _; omega
          have HSZ := Lib.hid hL64
          have hvn := vsz_le10 hL64
          have HLEN := Lib.hid hlen
          have hmn : m + (vsz X + (vsz L + L)) ≤ 1000000000000 := by omega
          clear hlen hle hL64 hn64 hPi
          go_wp2_with fail
          refine (HHD.out _ b0).mono ?_
          rintro e1 W1 ⟨rfl, hbh⟩
          obtain ⟨q1, q2, q3, q4⟩ := HCells.out _ hbh
          have HB1 := Lib.hid hbh
          clear hbh
          go_wp2_with fail
          refine (size_any X _ HX.out).mono ?_
          rintro e2 W2 ⟨rfl, rfl⟩
          go_wp2_with fail
          refine (HIH.out _ HB1.out).mono ?_
          rintro e3 W3 ⟨rfl, hbi⟩
          go_wp2_with fail
          refine (size_any L _ HSZ.out).mono ?_
          rintro e4 W4 ⟨rfl, rfl⟩
          go_wp2_with fail
          go_roundw
          case rel => exact ⟨k + 1, m + (vsz X + (vsz L + L)), by omega, by go_num, by go_num, hmn, HLEN.out, HBEL.out.trans ((bb HB1.out hbi).mono HBEL.out.size)⟩
          case measure => simp [intOf]; omega
      · obtain rfl : k = f.len := by omega
        have e : m = T := by have := hmt.out; rw [f.take_all _ (Nat.le_refl _), HT.out] at this; exact this.symm
        subst e
        have HB := Lib.hid hbel
        clear hmt hbel HT
        go_wp2_with fail
        go_ret
        exact ⟨rfl, HB.out⟩
end Go.Proofs.YtmlijflappjfoaaDoor
end

section
/-
  Contracts of layer 9: fields put behind a buffer's bytes. Conditions: fields that may be; at most 1,000,000 bytes.
-/
namespace Go.Proofs.YtmlijflappjfoaaDoor
open Go.RowKit Go.PM
set_option maxRecDepth 100000
set_option maxHeartbeats 1500000
attribute [local go_sem ↓] Go.wp_at_zero Go.wp_at_succ

/-- A buffer that began as v0: its bytes now; what may have turned since. -/
def BS (w : World) (v0 : Value) (v : Value) (l : List UInt8) (x : World) : Prop :=
  Buf x 5 v l ∧ Tch (fun k => foot v0 = some k) w x ∧ ∀ g, foot v = some g → foot v0 = some g ∨ w.heap.size ≤ g
theorem BS.start {w : World} {v : Value} {l : List UInt8} (h : Buf w 5 v l) : BS w v v l w := ⟨h, Tch.refl _ _, fun _ h => .inl h⟩
theorem BS.bel {w x y : World} {v0 v : Value} {l : List UInt8} (h : BS w v0 v l x) (hb : Below x.heap.size x y) : BS w v0 v l y := ⟨h.1.below hb, h.2.1.bel hb, h.2.2⟩
theorem BS.tch {w x y : World} {v0 v : Value} {l : List UInt8} (h : BS w v0 v l x) (v' : Value) (l' : List UInt8) (hb : Buf y 5 v' l') (ht : Tch (fun k => foot v = some k) x y) (hf : ∀ g, foot v' = some g → foot v = some g ∨ x.heap.size ≤ g) : BS w v0 v' l' y := by
  refine ⟨hb, h.2.1.trans ht fun g hg e => ?_, fun g hg => ?_⟩
  · rcases h.2.2 g e with h1 | h1
    · exact h1
    · omega
  · rcases hf g hg with h1 | h1
    · exact h.2.2 g h1
    · exact .inr (Nat.le_trans h.2.1.size h1)
theorem BS.app {w x : World} {v0 v : Value} {l : List UInt8} (h : BS w v0 v l x) (s : ByteArray) (hn : l.length + s.size ≤ 1000000) :
    ∃ v' y, (Builtin.append_ #[79, 9] 79 #[v, .string s]).run Tryd.prog x = .ok v' y ∧ BS w v0 v' (l ++ s.data.toList) y := by
  obtain ⟨i0, hi0, hz0, hz1, hz2⟩ := info_parts info_u8
  obtain ⟨v', y, hr, hb, ht, hf⟩ := buf_append (P := Tryd.prog) h.1 s 79 9 79 i0 Tryd.underlying79 Tryd.underlying9 hi0 hz0 hz1 hz2 hn
  refine ⟨v', y, hr, h.tch v' _ hb ht fun g hg => ?_⟩
  rcases hf with h1 | h1
  · exact .inl (h1 ▸ hg)
  · exact .inr (h1 g hg)
def WriteEnd (w : World) (v0 : Value) (l : List UInt8) (e : Ending) (w' : World) : Prop := ∃ v', e = .returned v' ∧ BS w v0 v' l w'
theorem write_any (N : Nat) : ∀ (v0 : Value) (L : List UInt8) (A : Option Addr) (c : Nat) (f : Fs) (I : Nat → Prop) (a d : Nat) (w : World), f.count ≤ N → Buf w 5 v0 L → SlV w I (.slice A f.len c) f → (∀ k, I k → foot v0 ≠ some k) → fcheckP f a d → f.count ≤ 1000000 → L.length + (ftx f).length ≤ 1000000 →
    Calls Tryd.prog 58 #[v0, .slice A f.len c] w (WriteEnd w v0 (L ++ ftx f)) := by
  induction N with
  | zero =>
    intro v0 L A c f I a d w hN hb hr hI hP h60 hL
    have : f = .nil := Fs.len_zero (by have := f.len_count; omega)
    subst this
    have HE : Hid (WriteEnd w v0 (L ++ ftx .nil) (.returned v0) w) := ⟨v0, rfl, by rw [show ftx .nil = [] from rfl, List.append_nil]; exact BS.start hb⟩
    go_enter Tryd.func58, Tryd.ntmps58
    go_wp2_with fail
    go_loopw [0, 9] (fun vv kk wr => vv = v0 ∧ kk = .int .i64 0 ∧ wr = w) (fun _ _ _ => 0)
    case atStart => exact ⟨rfl, rfl, rfl⟩
    case round =>
      obtain ⟨rfl, rfl, rfl⟩ := hrel
      go_wp2_with fail
      go_ret
      exact HE.out
  | succ N ih =>
    intro v0 L A c f I a d w hN hb hr hI hP h60 hL
    have IH := Lib.hid ih
    have HR := Lib.hid hr.lt
    have HI := Lib.hid hI
    have HP := Lib.hid hP
    have H60 : Hid (f.count ≤ 1000000 ∧ f.count ≤ N + 1) := ⟨h60, hN⟩
    have hfl := Nat.le_trans f.len_count h60
    have HL := Lib.hid hL
    have H0 : Hid (BS w v0 v0 (L ++ ftx (f.take 0)) w) := by
      have : ftx (f.take 0) = [] := by cases f <;> rfl
      rw [this, List.append_nil]
      exact BS.start hb
    clear ih hr hI hP h60 hN hb hL
    go_enter Tryd.func58, Tryd.ntmps58
    go_wp2_with fail
    go_loopw [0, 9] (fun vv kk wr => ∃ k : Nat, k ≤ f.len ∧ kk = .int .i64 (k : Int) ∧ Hid (BS w v0 vv (L ++ ftx (f.take k)) wr)) (fun _ kk _ => f.len - (intOf kk).toNat)
    case atStart => exact ⟨0, by omega, rfl, H0⟩
    case round =>
      obtain ⟨k, hk, rfl, HBS⟩ := hrel
      by_cases hlt : k < f.len
      · obtain ⟨t, y, n, s, i, hdc, htk⟩ := f.drop_cons k hlt
        obtain ⟨A0, c0, hv, hc0, hor⟩ := HR.out
        injection hv with hv1 hv2 hv3
        subst hv1 hv3
        rcases hor with h0 | ⟨b, o, rfl, hIb, hbl, hat⟩
        · omega
        have hak := hat.drop k
        rw [hdc] at hak
        obtain ⟨c0, c1, c2, c3, ⟨Ai, ci, c4, hci, hin⟩, _⟩ := hak
        obtain ⟨a', hPk⟩ := fcheckP_drop k HP.out
        rw [hdc] at hPk
        obtain ⟨⟨_, ht0, ht32, hn64, hcase⟩, _⟩ := hPk
        have hcc := f.drop_count k
        rw [hdc] at hcc
        simp only [Fs.count] at hcc
        have hstep := ftx_take htk
        have hle := ftx_take_le f (k + 1)
        rw [hstep, List.length_append, ftx_one] at hle
        have hlen := HL.out
        have hy02 : 0 ≤ y ∧ y ≤ 2 := by rcases hcase with ⟨h, _⟩ | ⟨h, _⟩ | ⟨h, _⟩ <;> omega
        have hX64 : In64 (4 * t + y.toNat) := by show 4 * t + y.toNat < 18446744073709551616; omega
        have hblk : ∀ x : World, Tch (fun k => foot v0 = some k) w x → x.heap[b]? = w.heap[b]? := fun x hx => hx.block b hbl (HI.out b hIb.1)
        have HHD : Hid (∀ x : World, Tch (fun k => foot v0 = some k) w x → Calls Tryd.prog 71 #[.pointer (some ⟨b, o + k * 5, none⟩)] x fun e w' => e = .returned (.int .u64 ((4 * t + y.toNat : Nat) : Int)) ∧ Below x.heap.size x w') := fun x hx => by
          have e := fun j => World.cell?_of_block (a := ⟨b, j, none⟩) (hblk x hx)
          exact head_any b (o + k * 5) t y x ((e _).trans c0) ((e _).trans c1) ht32 hy02
        have HCells : Hid (∀ x : World, Tch (fun k => foot v0 = some k) w x → x.cell? ⟨b, o + k * 5 + 1, none⟩ = some (.int .i64 y) ∧ x.cell? ⟨b, o + k * 5 + 2, none⟩ = some (.int .u64 (n : Int)) ∧ x.cell? ⟨b, o + k * 5 + 3, none⟩ = some (.string s) ∧ x.cell? ⟨b, o + k * 5 + 4, none⟩ = some (.slice Ai i.len ci)) := fun x hx => by
          have e := fun j => World.cell?_of_block (a := ⟨b, j, none⟩) (hblk x hx)
          exact ⟨(e _).trans c1, (e _).trans c2, (e _).trans c3, (e _).trans c4⟩
        have HSI : Hid (∀ x : World, Tch (fun k => foot v0 = some k) w x → SlV x (fun k => I k ∧ k < w.heap.size) (.slice Ai i.len ci) i) := fun x hx => by
          have h1 : SlV w (fun k => I k ∧ k < w.heap.size) (.slice Ai i.len ci) i := ⟨Ai, ci, rfl, hci, hin⟩
          exact h1.tch hx fun k hk => HI.out k hk.1
        have HX := Lib.hid hX64
        have hkf : (k : Int) < (f.len : Int) := by omega
        have hic : i.count ≤ N ∧ i.count ≤ 1000000 := by have := H60.out; omega
        have htl : ftx (.cons t y n s i .nil) = vput (4 * t + y.toNat) ++ (if y = 0 then vput n else if y = 1 then vput s.size ++ s.data.toList else vput (ftx i).length ++ ftx i) := by simp only [ftx, List.append_nil]
        rw [htl] at hstep
        clear htl hX64 hdc htk hat hin hv2 hblk c0 c1 c2 c3 c4
        generalize hXX : 4 * t + y.toNat = X at *
        generalize hP0 : ftx (f.take k) = P0 at *
        have hlp : L.length + (P0.length + vsz X) ≤ 1000000 ∧ (L ++ P0).length = L.length + P0.length := ⟨by omega, List.length_append⟩
        obtain ⟨hlp, hlq⟩ := hlp
        have HXX := Lib.hid hXX
        clear hXX hP0
        rcases hcase with ⟨rfl, rfl, rfl⟩ | ⟨rfl, rfl, rfl, hs63⟩ | ⟨rfl, rfl, rfl, hd8, hPi⟩
        · rw [if_pos rfl] at hstep
          rw [if_pos rfl, vput_length] at hle
          have HN := Lib.hid hn64
          have HST := Lib.hid hstep
          clear hstep hn64
          go_wp2_with fail
          refine (HHD.out _ HBS.out.2.1).mono ?_
          rintro e1 W1 ⟨rfl, hbh⟩
          have HB1 := Lib.hid (HBS.out.bel hbh)
          clear hbh
          go_wp2_with fail
          refine (put_any X _ HX.out).mono ?_
          rintro e2 W2 ⟨rfl, hbh⟩
          obtain ⟨v1, W3, hrun, hbs⟩ := (HB1.out.bel hbh).app (txt (vput X)) (by rw [txt_size, vput_length]; omega)
          have HR1 := Lib.hid hrun
          have HB3 := Lib.hid hbs
          obtain ⟨q1, q2, q3, q4⟩ := HCells.out _ hbs.2.1
          clear hbh hrun hbs
          go_wp2_with (at_builtin; (refine wpList_append_run rfl _ _ _ _ rfl _ _ _ rfl rfl HR1.out ?_))
          go_wp2_with fail
          refine (put_any n _ HN.out).mono ?_
          rintro e3 W4 ⟨rfl, hbh⟩
          obtain ⟨v2, W5, hrun, hbs⟩ := (HB3.out.bel hbh).app (txt (vput n)) (by rw [txt_size, vput_length, txt_list, List.length_append, vput_length]; omega)
          have HR2 := Lib.hid hrun
          have HB5 := Lib.hid hbs
          clear hbh hrun hbs
          go_wp2_with (at_builtin; (refine wpList_append_run rfl _ _ _ _ rfl _ _ _ rfl rfl HR2.out ?_))
          go_roundw
          case rel => exact ⟨k + 1, by omega, by go_num, by have := HB5.out; rw [HST.out]; show BS _ _ _ _ _; simpa only [txt_list, List.append_assoc] using this⟩
          case measure => simp [intOf]; omega
        · rw [if_neg (by decide), if_pos rfl] at hstep
          rw [if_neg (by decide), if_pos rfl, List.length_append, vput_length, len_list] at hle
          have hs64 : In64 s.size := by show s.size < _; omega
          have HSZ := Lib.hid hs64
          have HST := Lib.hid hstep
          have hss : s.size ≤ 1000000 := by omega
          clear hstep hn64 hs64
          go_wp2_with fail
          refine (HHD.out _ HBS.out.2.1).mono ?_
          rintro e1 W1 ⟨rfl, hbh⟩
          have HB1 := Lib.hid (HBS.out.bel hbh)
          clear hbh
          go_wp2_with fail
          refine (put_any X _ HX.out).mono ?_
          rintro e2 W2 ⟨rfl, hbh⟩
          obtain ⟨v1, W3, hrun, hbs⟩ := (HB1.out.bel hbh).app (txt (vput X)) (by rw [txt_size, vput_length]; omega)
          have HR1 := Lib.hid hrun
          have HB3 := Lib.hid hbs
          obtain ⟨q1, q2, q3, q4⟩ := HCells.out _ hbs.2.1
          clear hbh hrun hbs
          go_wp2_with (at_builtin; (refine wpList_append_run rfl _ _ _ _ rfl _ _ _ rfl rfl HR1.out ?_))
          go_wp2_with fail
          refine (put_any s.size _ HSZ.out).mono ?_
          rintro e3 W4 ⟨rfl, hbh⟩
          obtain ⟨v2, W5, hrun, hbs⟩ := (HB3.out.bel hbh).app (txt (vput s.size)) (by rw [txt_size, vput_length, txt_list, List.length_append, vput_length]; omega)
          obtain ⟨v3, W6, hrun2, hbs2⟩ := hbs.app s (by rw [txt_list, txt_list, List.length_append, List.length_append, vput_length, vput_length]; omega)
          have HR2 := Lib.hid hrun
          have HR3 := Lib.hid hrun2
          have HB5 := Lib.hid hbs2
          obtain ⟨p1, p2, p3, p4⟩ := HCells.out _ hbs.2.1
          clear hbh hrun hbs hrun2 hbs2
          go_wp2_with (first | (at_builtin; refine wpList_append_run rfl _ _ _ _ rfl _ _ _ rfl rfl HR2.out ?_) | (at_builtin; refine wpList_append_run rfl _ _ _ _ rfl _ _ _ rfl rfl HR3.out ?_))
          go_roundw
          case rel => exact ⟨k + 1, by omega, by go_num, by have := HB5.out; rw [HST.out]; show BS _ _ _ _ _; simpa only [txt_list, List.append_assoc] using this⟩
          case measure => simp [intOf]; omega
        · rw [if_neg (by decide), if_neg (by decide)] at hstep
          rw [if_neg (by decide), if_neg (by decide), List.length_append, vput_length] at hle
          have HSC : Hid (∀ x : World, Tch (fun k => foot v0 = some k) w x → Calls Tryd.prog 57 #[.slice Ai i.len ci] x fun e w' => e = .returned (.int .i64 ((ftx i).length : Int)) ∧ Below x.heap.size x w') := fun x hx =>
            wsize_any i.count Ai ci i _ 0 (d + 1) x (Nat.le_refl _) (HSI.out x hx) hPi hic.2 (by omega)
          have HPI := Lib.hid hPi
          have HIL : Hid ((ftx i).length + vsz (ftx i).length + (L.length + (P0.length + vsz X)) ≤ 1000000) := by show _ ≤ _; omega
          have hL64 : In64 (ftx i).length := by show (ftx i).length < _; omega
          have HSZ := Lib.hid hL64
          have HST := Lib.hid hstep
          have hss : (ftx i).length ≤ 1000000 := by omega
          have HIC := Lib.hid hic
          clear hstep hn64 hL64 hle hPi hic hlen
          generalize hLI : (ftx i).length = LI at HSC HSZ HIL hss
          have HLI := Lib.hid hLI
          clear hLI
          go_wp2_with fail
          refine (HHD.out _ HBS.out.2.1).mono ?_
          rintro e1 W1 ⟨rfl, hbh⟩
          have HB1 := Lib.hid (HBS.out.bel hbh)
          clear hbh
          go_wp2_with fail
          refine (put_any X _ HX.out).mono ?_
          rintro e2 W2 ⟨rfl, hbh⟩
          obtain ⟨v1, W3, hrun, hbs⟩ := (HB1.out.bel hbh).app (txt (vput X)) (by rw [txt_size, vput_length]; omega)
          have HR1 := Lib.hid hrun
          have HB3 := Lib.hid hbs
          obtain ⟨q1, q2, q3, q4⟩ := HCells.out _ hbs.2.1
          clear hbh hrun hbs
          go_wp2_with (at_builtin; (refine wpList_append_run rfl _ _ _ _ rfl _ _ _ rfl rfl HR1.out ?_))
          go_wp2_with fail
          refine (HSC.out _ HB3.out.2.1).mono ?_
          rintro e3 W4 ⟨rfl, hbh⟩
          have HB4 := Lib.hid (HB3.out.bel hbh)
          clear hbh
          go_wp2_with fail
          refine (put_any LI _ HSZ.out).mono ?_
          rintro e4 W5 ⟨rfl, hbh⟩
          obtain ⟨v2, W6, hrun, hbs⟩ := (HB4.out.bel hbh).app (txt (vput LI)) (by have := HIL.out; rw [txt_size, vput_length, txt_list, List.length_append, vput_length]; omega)
          have HR2 := Lib.hid hrun
          have HB6 := Lib.hid hbs
          obtain ⟨p1, p2, p3, p4⟩ := HCells.out _ hbs.2.1
          clear hbh hrun hbs
          go_wp2_with (at_builtin; (refine wpList_append_run rfl _ _ _ _ rfl _ _ _ rfl rfl HR2.out ?_))
          refine (IH.out v2 _ Ai ci i (fun k => I k ∧ k < w.heap.size) 0 (d + 1) W6 HIC.out.1 HB6.out.1 (HSI.out _ HB6.out.2.1) (fun g hg e => by rcases HB6.out.2.2 g e with h | h; exact HI.out g hg.1 h; omega) HPI.out HIC.out.2 (by have := HIL.out; rw [HLI.out, txt_list, txt_list, List.length_append, List.length_append, vput_length, vput_length]; omega)).mono ?_
          rintro e5 W7 ⟨v3, rfl, hbs⟩
          have HB7 := Lib.hid (HB6.out.tch v3 _ hbs.1 hbs.2.1 hbs.2.2)
          clear hbs
          go_wp2_with fail
          go_roundw
          case rel => exact ⟨k + 1, by omega, by go_num, by have := HB7.out; rw [HST.out, HLI.out]; show BS _ _ _ _ _; simpa only [txt_list, List.append_assoc] using this⟩
          case measure => simp [intOf]; omega
      · obtain rfl : k = f.len := by omega
        have HE : Hid (WriteEnd w v0 (L ++ ftx f) (.returned u0) wr) := ⟨u0, rfl, by have := HBS.out; rwa [f.take_all _ (Nat.le_refl _)] at this⟩
        clear HBS
        go_wp2_with fail
        go_ret
        exact HE.out
end Go.Proofs.YtmlijflappjfoaaDoor
end

section
/-
  Contracts of layer 9: fields as they are written, or why they aren't; how many bytes that are.
-/
namespace Go.Proofs.YtmlijflappjfoaaDoor
open Go.RowKit Go.PM
set_option maxRecDepth 100000
set_option maxHeartbeats 1500000
attribute [local go_sem ↓] Go.wp_at_zero Go.wp_at_succ

/-- What is written, and the code. -/
def fput (f : Fs) : List UInt8 × Nat := if fcheck f 0 0 ≠ 0 then ([], fcheck f 0 0) else if 65536 < (ftx f).length then ([], 4) else (ftx f, 0)
def fszB (f : Fs) : Nat := if fcheck f 0 0 ≠ 0 then 0 else (ftx f).length
theorem wsz_of (v : Value) (f : Fs) (I : Nat → Prop) (w : World) (hr : SlV w I v f) (hk : f.All FKd) (h60 : f.count ≤ 1000000) (hL : (ftx f).length ≤ 1000000000000) :
    Calls Tryd.prog 35 #[v] w fun e w' => e = .returned (.int .i64 (fszB f : Int)) ∧ Below w.heap.size w w' := by
  have hb1 : Below w.heap.size w w := b0
  have HC := Lib.hid (check_of v f I w hr hk h60)
  have hiff := fcheck_iff f 0 0 hk (by omega)
  obtain ⟨A, c, rfl, _⟩ := id hr
  have HS : Hid (fcheck f 0 0 = 0 → ∀ x : World, Below w.heap.size w x → Calls Tryd.prog 57 #[.slice A f.len c] x fun e w' => e = .returned (.int .i64 ((ftx f).length : Int)) ∧ Below x.heap.size x w') := fun h x hx => wsize_any f.count A c f I 0 0 x (Nat.le_refl _) (hr.below hx) (hiff.1 h) h60 hL
  unfold fszB
  clear hiff hr hk
  generalize fcheck f 0 0 = E at *
  by_cases hE : E = 0
  · subst hE
    rw [if_neg (by simp)]
    have HS2 := Lib.hid (HS.out rfl)
    generalize (ftx f).length = LI at *
    go_enter Tryd.func35, Tryd.ntmps35
    go_wp2_with fail
    refine (HC.out).mono ?_
    rintro e w1 ⟨rfl, hb2⟩
    replace hb1 := bb hb1 hb2
    clear hb2
    go_wp2_with fail
    refine (HS2.out _ hb1).mono ?_
    rintro e w2 ⟨rfl, hb2⟩
    replace hb1 := bb hb1 hb2
    clear hb2
    go_wp2
    go_ret
    exact ⟨rfl, hb1⟩
  · rw [if_pos hE]
    have hei : ((E : Int) != 0) = true := by rw [bne_iff_ne]; omega
    go_enter Tryd.func35, Tryd.ntmps35
    go_wp2_with fail
    refine (HC.out).mono ?_
    rintro e w1 ⟨rfl, hb2⟩
    replace hb1 := bb hb1 hb2
    clear hb2
    go_wp2
    go_ret
    exact ⟨rfl, hb1⟩
theorem wput_of (v : Value) (f : Fs) (I : Nat → Prop) (w : World) (hr : SlV w I v f) (hk : f.All FKd) (h60 : f.count ≤ 1000000) (hL : (ftx f).length ≤ 1000000000000) :
    Calls Tryd.prog 33 #[v] w fun e w' => e = .returned (.tuple #[.string (txt (fput f).1), .int .i64 ((fput f).2 : Int)]) ∧ Below w.heap.size w w' := by
  have hb1 : Below w.heap.size w w := b0
  have HC := Lib.hid (check_of v f I w hr hk h60)
  have hiff := fcheck_iff f 0 0 hk (by omega)
  obtain ⟨A, c, rfl, _⟩ := id hr
  have HS : Hid (fcheck f 0 0 = 0 → ∀ x : World, Below w.heap.size w x → Calls Tryd.prog 57 #[.slice A f.len c] x fun e w' => e = .returned (.int .i64 ((ftx f).length : Int)) ∧ Below x.heap.size x w') := fun h x hx => wsize_any f.count A c f I 0 0 x (Nat.le_refl _) (hr.below hx) (hiff.1 h) h60 hL
  have HW : Hid (fcheck f 0 0 = 0 → (ftx f).length ≤ 65536 → ∀ (x : World) (v0 : Value), Below w.heap.size w x → Buf x 5 v0 [] → (∀ g, foot v0 = some g → w.heap.size ≤ g) → Calls Tryd.prog 58 #[v0, .slice A f.len c] x (WriteEnd x v0 (ftx f))) := fun h hl x v0 hx hb hf => by
    have := write_any f.count v0 [] A c f (fun k => I k ∧ k < w.heap.size) 0 0 x (Nat.le_refl _) hb (hr.lt.below hx) (fun g hg e => by have := hf g e; omega) (hiff.1 h) h60 (by simp; omega)
    rwa [List.nil_append] at this
  unfold fput
  clear hiff hr hk
  generalize fcheck f 0 0 = E at *
  by_cases hE : E = 0
  · subst hE
    rw [if_neg (by simp)]
    have HS2 := Lib.hid (HS.out rfl)
    have HW2 := Lib.hid (HW.out rfl)
    generalize hF : ftx f = F at *
    clear hF
    by_cases hbig : 65536 < F.length
    · rw [if_pos hbig]
      generalize F.length = LI at *
      go_enter Tryd.func33, Tryd.ntmps33
      go_wp2_with fail
      refine (HC.out).mono ?_
      rintro e w1 ⟨rfl, hb2⟩
      replace hb1 := bb hb1 hb2
      clear hb2
      go_wp2_with fail
      refine (HS2.out _ hb1).mono ?_
      rintro e w2 ⟨rfl, hb2⟩
      replace hb1 := bb hb1 hb2
      clear hb2
      go_wp2
      go_ret2
      exact ⟨rfl, hb1⟩
    · rw [if_neg hbig]
      have HW3 := Lib.hid (HW2.out (by omega))
      generalize hLI : F.length = LI at *
      clear hLI
      obtain ⟨i0, hi0, hz0, hz1, hz2⟩ := info_parts info_u8
      have hdd : decide ((65536 : Int) < (LI : Int)) = false := by simp; omega
      have hby : i0.bytes * LI ≤ 281474976710656 := by rw [hz2]; omega
      have hm : LI ≤ maxLen := by unfold maxLen; omega
      have HBY := Lib.hid hby
      have HMM := Lib.hid hm
      have hl : LI ≤ 65536 := by omega
      clear hby hm hbig
      go_enter Tryd.func33, Tryd.ntmps33
      go_wp2_with fail
      refine (HC.out).mono ?_
      rintro e w1 ⟨rfl, hb2⟩
      replace hb1 := bb hb1 hb2
      clear hb2
      go_wp2_with fail
      refine (HS2.out _ hb1).mono ?_
      rintro e w2 ⟨rfl, hb2⟩
      replace hb1 := bb hb1 hb2
      clear hb2
      go_wp2_with (refine wpList_make_own _ rfl _ _ _ rfl w2.heap.size 5 i0 (.int .u8 0) 1 Tryd.underlying79 hi0 hz0 hz1 .i64 .i64 _ LI rfl rfl rfl HBY.out HMM.out (Nat.le_refl _) ?_; intro w3 hown hgr; have hbuf := Buf.ofOwn (l := []) (n := 0) hown; have HBF := Lib.hid hbuf; have hb3 := below_of_grown hgr; have HB3 := Lib.hid (bb hb1 hb3); clear hown hgr hbuf hb3)
      refine (HW3.out _ _ HB3.out HBF.out.1 (fun g hg => Nat.le_trans hb1.size (HBF.out.2 g hg))).mono ?_
      rintro e w4 ⟨v4, rfl, hbs⟩
      have hb4 : Below w.heap.size w w4 := HB3.out.trans (hbs.2.1.toBelowB HB3.out.size fun g hg e => by have := HBF.out.2 g e; have := hb1.size; omega)
      have hcv := hbs.1.back (P := Tryd.prog) 79 9 Tryd.underlying79 Tryd.underlying5 Tryd.underlying9
      clear hbs
      go_wp2
      go_ret2
      exact ⟨rfl, hb4⟩
  · rw [if_pos hE]
    have hei : ((E : Int) != 0) = true := by rw [bne_iff_ne]; omega
    go_enter Tryd.func33, Tryd.ntmps33
    go_wp2_with fail
    refine (HC.out).mono ?_
    rintro e w1 ⟨rfl, hb2⟩
    replace hb1 := bb hb1 hb2
    clear hb2
    go_wp2
    go_ret2
    exact ⟨rfl, hb1⟩
end Go.Proofs.YtmlijflappjfoaaDoor
end

section
/-
  Contracts of the document's answer for layer 9: fields as they are written. Conditions: fields that may be, of texts of bounded length.
-/
namespace Go.Proofs.YtmlijflappjfoaaDoor
open Go.RowKit Go.PM
set_option maxRecDepth 100000
set_option maxHeartbeats 1500000
attribute [local go_sem ↓] Go.wp_at_zero Go.wp_at_succ

theorem app_list (a b : ByteArray) : (a ++ b).data.toList = a.data.toList ++ b.data.toList := by rw [ByteArray.data_append, Array.toList_append]
theorem rtxt_any (N : Nat) : ∀ (A : Option Addr) (c : Nat) (f : Fs) (I : Nat → Prop) (a d : Nat) (w : World), f.count ≤ N → SlV w I (.slice A f.len c) f → fcheckP f a d → f.count ≤ 1000000 → (ftx f).length ≤ 1000000000000 →
    Calls Tryd.prog 59 #[.slice A f.len c] w fun e w' => e = .returned (.string (txt (ftx f))) ∧ Below w.heap.size w w' := by
  induction N with
  | zero =>
    intro A c f I a d w hN hr hP h60 hL
    have : f = .nil := Fs.len_zero (by have := f.len_count; omega)
    subst this
    go_enter Tryd.func59, Tryd.ntmps59
    go_wp2_with fail
    go_loopw [3, 9] (fun nn kk wr => nn = .string ⟨#[]⟩ ∧ kk = .int .i64 0 ∧ wr = w) (fun _ _ _ => 0)
    case atStart => exact ⟨rfl, rfl, rfl⟩
    case round =>
      obtain ⟨rfl, rfl, rfl⟩ := hrel
      go_wp2_with fail
      go_ret
      exact ⟨rfl, b0⟩
  | succ N ih =>
    intro A c f I a d w hN hr hP h60 hL
    have IH := Lib.hid ih
    have HR := Lib.hid hr
    have HP := Lib.hid hP
    have H60 : Hid (f.count ≤ 1000000 ∧ f.count ≤ N + 1) := ⟨h60, hN⟩
    have hfl := Nat.le_trans f.len_count h60
    have HL := Lib.hid hL
    clear ih hr hP h60 hN hL
    have H0 : Hid ((⟨#[]⟩ : ByteArray).data.toList = ftx (f.take 0)) := by cases f <;> rfl
    generalize hT : txt (ftx f) = T at *
    have HT := Lib.hid hT
    clear hT
    go_enter Tryd.func59, Tryd.ntmps59
    go_wp2_with fail
    go_loopw [3, 9] (fun nn kk wr => ∃ (k : Nat) (S : ByteArray), k ≤ f.len ∧ kk = .int .i64 (k : Int) ∧ nn = .string S ∧ S.size ≤ 1000000000000 ∧ Hid (S.data.toList = ftx (f.take k)) ∧ Below w.heap.size w wr) (fun _ kk _ => f.len - (intOf kk).toNat)
    case atStart => exact ⟨0, ⟨#[]⟩, by omega, rfl, rfl, by decide, H0, b0⟩
    case round =>
      obtain ⟨k, S, hk, rfl, rfl, hS, HSL, hbel⟩ := hrel
      by_cases hlt : k < f.len
      · obtain ⟨t, y, n, s, i, hdc, htk⟩ := f.drop_cons k hlt
        obtain ⟨A0, c0, hv, hc0, hor⟩ := HR.out.below hbel
        injection hv with hv1 hv2 hv3
        subst hv1 hv3
        rcases hor with h0 | ⟨b, o, rfl, hIb, hbl, hat⟩
        · omega
        have hak := hat.drop k
        rw [hdc] at hak
        obtain ⟨c0, c1, c2, c3, ⟨Ai, ci, c4, hci, hin⟩, _⟩ := hak
        obtain ⟨a', hPk⟩ := fcheckP_drop k HP.out
        rw [hdc] at hPk
        obtain ⟨⟨_, ht0, ht32, hn64, hcase⟩, _⟩ := hPk
        have hcc := f.drop_count k
        rw [hdc] at hcc
        simp only [Fs.count] at hcc
        have hstep := ftx_take htk
        have hle := ftx_take_le f (k + 1)
        have hlen := HL.out
        have HLEN : Hid ((ftx (f.take (k + 1))).length ≤ 1000000000000) := by show _ ≤ _; omega
        have htl : ftx (.cons t y n s i .nil) = vput (4 * t + y.toNat) ++ (if y = 0 then vput n else if y = 1 then vput s.size ++ s.data.toList else vput (ftx i).length ++ ftx i) := by simp only [ftx, List.append_nil]
        rw [htl] at hstep
        rw [hstep] at hle
        simp only [List.length_append] at hle
        have HSI : Hid (SlV wr I (.slice Ai i.len ci) i) := ⟨Ai, ci, rfl, hci, hin⟩
        have HBEL := Lib.hid hbel
        have hkf : (k : Int) < (f.len : Int) := by omega
        have hic : i.count ≤ N ∧ i.count ≤ 1000000 := by have := H60.out; omega
        have hm5 := BlkAt.made wr 65 #[.int .u64 (t : Int), .int .i64 y, .int .u64 (n : Int), .string s, .slice Ai i.len ci]
        have hbo := ba (a := wr) b0 (.cells #[.int .u64 (t : Int), .int .i64 y, .int .u64 (n : Int), .string s, .slice Ai i.len ci] 65)
        have HM5 := Lib.hid hm5
        have HBO := Lib.hid hbo
        clear htl hdc htk hat hin hv2 hbel hm5 hbo
        have hti : (t : Int) ≤ 4294967296 := by omega
        rcases hcase with ⟨rfl, rfl, rfl⟩ | ⟨rfl, rfl, rfl, hs63⟩ | ⟨rfl, rfl, rfl, hd8, hPi⟩
        · rw [if_pos rfl] at hstep
          have HST := Lib.hid hstep
          obtain ⟨V1, hV1⟩ : ∃ V, V = txt (vput (4 * t + Int.toNat 0)) := ⟨_, rfl⟩
          obtain ⟨V2, hV2⟩ : ∃ V, V = txt (vput n) := ⟨_, rfl⟩
          have HP1 : Hid (∀ x : World, Calls Tryd.prog 73 #[.int .u64 (4 * (t : Int))] x fun e w' => e = .returned (.string V1) ∧ Below x.heap.size x w') := fun x => by rw [hV1]; exact rput_any (4 * t + Int.toNat 0) x (by show 4 * t + 0 < 18446744073709551616; omega)
          have HP2 : Hid (∀ x : World, Calls Tryd.prog 73 #[.int .u64 (n : Int)] x fun e w' => e = .returned (.string V2) ∧ Below x.heap.size x w') := fun x => by rw [hV2]; exact rput_any n x hn64
          have hz1 : V1.size ≤ 10 := by rw [hV1, txt_size, vput_length]; exact vsz_le10 (by show 4 * t + 0 < 18446744073709551616; omega)
          have hz2 : V2.size ≤ 10 := by rw [hV2, txt_size, vput_length]; exact vsz_le10 hn64
          have HV1 : Hid (V1.data.toList = vput (4 * t + Int.toNat 0)) := by show _ = _; rw [hV1, txt_list]
          have HV2 : Hid (V2.data.toList = vput n) := by show _ = _; rw [hV2, txt_list]
          clear hV1 hV2 hstep hn64 hle hlen
          go_wp2_with fail
          refine (HP1.out _).mono ?_
          rintro e1 W1 ⟨rfl, hb1⟩
          have hm1 := HM5.out.below hb1 HM5.out.lt
          have e1' := hm1.cell 1
          have e2' := hm1.cell 2
          have e3' := hm1.cell 3
          have e4' := hm1.cell 4
          simp at e1' e2' e3' e4'
          have HB1 := Lib.hid (bb HBO.out hb1)
          clear hm1 hb1
          go_wp2_with fail
          refine (HP2.out _).mono ?_
          rintro e3 W3 ⟨rfl, hb3⟩
          go_wp2_with fail
          go_roundw
          case rel =>
            refine ⟨k + 1, _, by omega, by go_num, rfl, ?_, ?_, HBEL.out.trans ((bb HB1.out hb3).mono HBEL.out.size)⟩
            · have h1 := HST.out
              have h2 : (S ++ V1 ++ V2).data.toList = ftx (f.take (k + 1)) := by rw [h1]; simp only [app_list, HSL.out, HV1.out, HV2.out, List.append_assoc]
              have h3 := congrArg List.length h2
              rw [len_list] at h3
              have := HLEN.out
              omega
            · show (S ++ V1 ++ V2).data.toList = ftx (f.take (k + 1))
              rw [HST.out]; simp only [app_list, HSL.out, HV1.out, HV2.out, List.append_assoc]
          case measure => simp [intOf]; omega
        · rw [if_neg (by decide), if_pos rfl] at hstep
          have HST := Lib.hid hstep
          obtain ⟨V1, hV1⟩ : ∃ V, V = txt (vput (4 * t + Int.toNat 1)) := ⟨_, rfl⟩
          have hle2 := hle
          rw [if_neg (by decide), if_pos rfl, List.length_append] at hle2
          have hzs : s.size ≤ 1000000000000 := by rw [len_list] at hle2; omega
          have hz64 : In64 (s.size) := by show s.size < 18446744073709551616; omega
          obtain ⟨V2, hV2⟩ : ∃ V, V = txt (vput (s.size)) := ⟨_, rfl⟩
          have HP1 : Hid (∀ x : World, Calls Tryd.prog 73 #[.int .u64 (4 * (t : Int) + 1)] x fun e w' => e = .returned (.string V1) ∧ Below x.heap.size x w') := fun x => by rw [hV1]; exact rput_any (4 * t + Int.toNat 1) x (by show 4 * t + 1 < 18446744073709551616; omega)
          have HP2 : Hid (∀ x : World, Calls Tryd.prog 73 #[.int .u64 ((s.size : Nat) : Int)] x fun e w' => e = .returned (.string V2) ∧ Below x.heap.size x w') := fun x => by rw [hV2]; exact rput_any (s.size) x hz64
          have hz1 : V1.size ≤ 10 := by rw [hV1, txt_size, vput_length]; exact vsz_le10 (by show 4 * t + 1 < 18446744073709551616; omega)
          have hz2 : V2.size ≤ 10 := by rw [hV2, txt_size, vput_length]; exact vsz_le10 hz64
          have HV1 : Hid (V1.data.toList = vput (4 * t + Int.toNat 1)) := by show _ = _; rw [hV1, txt_list]
          have HV2 : Hid (V2.data.toList = vput (s.size)) := by show _ = _; rw [hV2, txt_list]
          clear hV1 hV2 hstep hn64 hle hle2 hlen hz64
          go_wp2_with fail
          refine (HP1.out _).mono ?_
          rintro e1 W1 ⟨rfl, hb1⟩
          have hm1 := HM5.out.below hb1 HM5.out.lt
          have e1' := hm1.cell 1
          have e2' := hm1.cell 2
          have e3' := hm1.cell 3
          have e4' := hm1.cell 4
          simp at e1' e2' e3' e4'
          have HB1 := Lib.hid (bb HBO.out hb1)
          clear hm1 hb1
          go_wp2_with fail
          refine (HP2.out _).mono ?_
          rintro e3 W3 ⟨rfl, hb3⟩
          go_wp2_with fail
          go_roundw
          case rel =>
            refine ⟨k + 1, _, by omega, by go_num, rfl, ?_, ?_, HBEL.out.trans ((bb HB1.out hb3).mono HBEL.out.size)⟩
            · have h1 := HST.out
              have h2 : (S ++ V1 ++ V2 ++ s).data.toList = ftx (f.take (k + 1)) := by rw [h1]; simp only [app_list, HSL.out, HV1.out, HV2.out, List.append_assoc]
              have h3 := congrArg List.length h2
              rw [len_list] at h3
              have := HLEN.out
              omega
            · show (S ++ V1 ++ V2 ++ s).data.toList = ftx (f.take (k + 1))
              rw [HST.out]; simp only [app_list, HSL.out, HV1.out, HV2.out, List.append_assoc]
          case measure => simp [intOf]; omega
        · rw [if_neg (by decide), if_neg (by decide)] at hstep
          have HST := Lib.hid hstep
          obtain ⟨V1, hV1⟩ : ∃ V, V = txt (vput (4 * t + Int.toNat 2)) := ⟨_, rfl⟩
          have hle2 := hle
          rw [if_neg (by decide), if_neg (by decide), List.length_append] at hle2
          obtain ⟨Z, hZ⟩ : ∃ Z, Z = txt (ftx i) := ⟨_, rfl⟩
          have hZl : (ftx i).length = Z.size := by rw [hZ, txt_size]
          have hzs : Z.size ≤ 1000000000000 := by rw [← hZl]; omega
          have HZ : Hid (ftx i = Z.data.toList) := by show _ = _; rw [hZ, txt_list]
          have HIT : Hid (∀ x : World, Below wr.heap.size wr x → Calls Tryd.prog 59 #[.slice Ai i.len ci] x fun e w' => e = .returned (.string Z) ∧ Below x.heap.size x w') := fun x hx => by
            rw [hZ]
            exact IH.out Ai ci i I 0 (d + 1) x hic.1 (HSI.out.below hx) hPi hic.2 (by rw [hZl]; exact hzs)
          have HZL := Lib.hid hZl
          rw [hZl] at HST
          clear hZ hZl hPi
          have hz64 : In64 (Z.size) := by show Z.size < 18446744073709551616; omega
          obtain ⟨V2, hV2⟩ : ∃ V, V = txt (vput (Z.size)) := ⟨_, rfl⟩
          have HP1 : Hid (∀ x : World, Calls Tryd.prog 73 #[.int .u64 (4 * (t : Int) + 2)] x fun e w' => e = .returned (.string V1) ∧ Below x.heap.size x w') := fun x => by rw [hV1]; exact rput_any (4 * t + Int.toNat 2) x (by show 4 * t + 2 < 18446744073709551616; omega)
          have HP2 : Hid (∀ x : World, Calls Tryd.prog 73 #[.int .u64 ((Z.size : Nat) : Int)] x fun e w' => e = .returned (.string V2) ∧ Below x.heap.size x w') := fun x => by rw [hV2]; exact rput_any (Z.size) x hz64
          have hz1 : V1.size ≤ 10 := by rw [hV1, txt_size, vput_length]; exact vsz_le10 (by show 4 * t + 2 < 18446744073709551616; omega)
          have hz2 : V2.size ≤ 10 := by rw [hV2, txt_size, vput_length]; exact vsz_le10 hz64
          have HV1 : Hid (V1.data.toList = vput (4 * t + Int.toNat 2)) := by show _ = _; rw [hV1, txt_list]
          have HV2 : Hid (V2.data.toList = vput (Z.size)) := by show _ = _; rw [hV2, txt_list]
          clear hV1 hV2 hstep hn64 hle hle2 hlen hz64
          go_wp2_with fail
          refine (HP1.out _).mono ?_
          rintro e1 W1 ⟨rfl, hb1⟩
          have hm1 := HM5.out.below hb1 HM5.out.lt
          have e1' := hm1.cell 1
          have e2' := hm1.cell 2
          have e3' := hm1.cell 3
          have e4' := hm1.cell 4
          simp at e1' e2' e3' e4'
          have HB1 := Lib.hid (bb HBO.out hb1)
          clear hm1 hb1
          go_wp2_with fail
          refine (HIT.out _ HB1.out).mono ?_
          rintro e2 W2 ⟨rfl, hb2⟩
          go_wp2_with fail
          refine (HP2.out _).mono ?_
          rintro e3 W3 ⟨rfl, hb3⟩
          go_wp2_with fail
          go_roundw
          case rel =>
            refine ⟨k + 1, _, by omega, by go_num, rfl, ?_, ?_, HBEL.out.trans ((bb (bb HB1.out hb2) hb3).mono HBEL.out.size)⟩
            · have h1 := HST.out
              have h2 : (S ++ V1 ++ V2 ++ Z).data.toList = ftx (f.take (k + 1)) := by rw [h1]; simp only [app_list, HSL.out, HZ.out, HV1.out, HV2.out, List.append_assoc]
              have h3 := congrArg List.length h2
              rw [len_list] at h3
              have := HLEN.out
              omega
            · show (S ++ V1 ++ V2 ++ Z).data.toList = ftx (f.take (k + 1))
              rw [HST.out]; simp only [app_list, HSL.out, HZ.out, HV1.out, HV2.out, List.append_assoc]
          case measure => simp [intOf]; omega
      · obtain rfl : k = f.len := by omega
        have e : S = T := by
          have := HSL.out
          rw [f.take_all _ (Nat.le_refl _)] at this
          rw [← HT.out]
          exact txt_eq this
        subst e
        have HB := Lib.hid hbel
        clear HSL hbel HT
        go_wp2_with fail
        go_ret
        exact ⟨rfl, HB.out⟩
end Go.Proofs.YtmlijflappjfoaaDoor
end

section
/-
  The walks of the statements of layer 9: the chapter's example; any fields as they are written. Conditions: numbers within their kinds; Go's tables of UTF-8 lie in memory.
-/
namespace Go.Proofs.YtmlijflappjfoaaDoor
open Go.RowKit Go.PM
set_option maxRecDepth 100000
set_option maxHeartbeats 1500000

theorem oftext_any (t : Nat) (s : ByteArray) (w : World) :
    Calls Tryd.prog 55 #[.int .u64 (t : Int), .string s] w fun e w' => e = .returned (.agg #[.int .u64 (t : Int), .int .i64 1, .int .u64 0, .string s, .slice none 0 0]) ∧ Below w.heap.size w w' := by
  go_enter Tryd.func55, Tryd.ntmps55
  go_wp2
  exact bodyPost_ret (v := .agg #[.int .u64 (t : Int), .int .i64 1, .int .u64 0, .string s, .slice none 0 0]) (by simp [results, Tryd.results55, go_sem]; try rfl) rfl ⟨rfl, ba b0 _⟩
def exam9 : Fs := fnum 1 300 (.cons 2 1 0 ⟨#[97, 98]⟩ .nil .nil)
theorem exam9_tx : ftx exam9 = [4, 172, 2, 9, 2, 97, 98] := by
  have e1 : vput (4 * 1 + Int.toNat 0) = [4] := vput_small (by decide)
  have e2 : vput 300 = [172, 2] := by rw [vput_big (by decide), vput_small (by decide)]; rfl
  have e3 : vput (4 * 2 + Int.toNat 1) = [9] := vput_small (by decide)
  have e4 : vput (ByteArray.mk #[97, 98]).size = [2] := vput_small (by decide)
  show vput (4 * 1 + Int.toNat 0) ++ (vput 300 ++ (vput (4 * 2 + Int.toNat 1) ++ ((vput (ByteArray.mk #[97, 98]).size ++ [97, 98]) ++ []))) = _
  rw [e1, e2, e3, e4]
  rfl
theorem exam9_put : txt (fput exam9).1 = ⟨#[4, 172, 2, 9, 2, 97, 98]⟩ ∧ (fput exam9).2 = 0 := by
  have h1 : fcheck exam9 0 0 = 0 := by decide
  unfold fput
  rw [h1, if_neg (by simp), exam9_tx, if_neg (by decide)]
  exact ⟨rfl, rfl⟩
theorem awake09 (w : World) (hT : Tabs w) :
    Calls Tryd.prog 32 #[] w fun e w' => e = .returned (.bool true) ∧ Below w.heap.size w w' := by
  have hb1 : Below w.heap.size w w := b0
  have HA : Hid (∀ x : World, Below w.heap.size w x → Calls Tryd.prog 56 #[] x fun e w' => e = .returned (.bool true) ∧ Below x.heap.size x w') := fun x hx => awakeE08 x (hT.below hx)
  have H1 : Hid (∀ W : World, Calls Tryd.prog 33 #[.slice (some ⟨W.heap.size, 0, none⟩) 2 2] (W.alloc (.cells #[.int .u64 1, .int .i64 0, .int .u64 300, .string ByteArray.empty, .slice none 0 0, .int .u64 2, .int .i64 1, .int .u64 0, .string ⟨#[97, 98]⟩, .slice none 0 0] 41)) fun e w' => e = .returned (.tuple #[.string ⟨#[4, 172, 2, 9, 2, 97, 98]⟩, .int .i64 0]) ∧ Below W.heap.size W w') := fun W => by
    have hs : SlV (W.alloc (.cells #[.int .u64 1, .int .i64 0, .int .u64 300, .string ByteArray.empty, .slice none 0 0, .int .u64 2, .int .i64 1, .int .u64 0, .string ⟨#[97, 98]⟩, .slice none 0 0] 41)) (fun _ => True) (.slice (some ⟨W.heap.size, 0, none⟩) 2 2) exam9 :=
      slv_blk (f := exam9) (BlkAt.made W _ _) ⟨rfl, rfl, rfl, rfl, SlV.nil _ _ _ _, rfl, rfl, rfl, rfl, SlV.nil _ _ _ _, trivial⟩ trivial (Nat.le_refl 2)
    have := wput_of _ exam9 _ _ hs ⟨⟨by unfold In64; omega, by unfold InI64; omega, by unfold In64; omega, by decide⟩, trivial, ⟨by unfold In64; omega, by unfold InI64; omega, by unfold In64; omega, by decide⟩, trivial, trivial⟩ (by decide) (by rw [exam9_tx]; decide)
    rw [exam9_put.1, exam9_put.2] at this
    exact this.mono fun e w' h => ⟨h.1, bb (ba b0 _) h.2⟩
  clear hT
  go_enter Tryd.func32, Tryd.ntmps32
  go_wp2_with fail
  refine (ofnum_any 1 300 _).mono ?_
  rintro e w2 ⟨rfl, hb2⟩
  replace hb1 := bb hb1 hb2
  clear hb2
  go_wp2_with fail
  refine (oftext_any 2 ⟨#[97, 98]⟩ _).mono ?_
  rintro e w3 ⟨rfl, hb2⟩
  replace hb1 := bb hb1 hb2
  clear hb2
  go_wp2_with fail
  refine (H1.out _).mono ?_
  rintro e w4 ⟨rfl, hb2⟩
  replace hb1 := bb hb1 hb2
  clear hb2
  go_wp2_with fail
  refine (HA.out _ hb1).mono ?_
  rintro e w5 ⟨rfl, hb2⟩
  replace hb1 := bb hb1 hb2
  clear hb2
  go_wp2
  go_ret
  exact ⟨rfl, hb1⟩
theorem rputf_of (A : Option Addr) (c : Nat) (f : Fs) (I : Nat → Prop) (w : World) (hr : SlV w I (.slice A f.len c) f) (hk : f.All FKd) (h60 : f.count ≤ 1000000) (hL : (ftx f).length ≤ 1000000000000) :
    Calls Tryd.prog 34 #[.slice A f.len c] w fun e w' => e = .returned (.tuple #[.string (txt (fput f).1), .int .i64 ((fput f).2 : Int)]) ∧ Below w.heap.size w w' := by
  have hb1 : Below w.heap.size w w := b0
  have HC : Hid (Calls Tryd.prog 36 #[.slice A f.len c, .int .i64 0] w fun e w' => e = .returned (.int .i64 (fcheck f 0 0 : Int)) ∧ Below w.heap.size w w') := rcheck_any8 f.count A c f I 0 w (Nat.le_refl _) hr hk h60 (.inl (by omega))
  have hiff := fcheck_iff f 0 0 hk (by omega)
  have HS : Hid (fcheck f 0 0 = 0 → ∀ x : World, Below w.heap.size w x → Calls Tryd.prog 59 #[.slice A f.len c] x fun e w' => e = .returned (.string (txt (ftx f))) ∧ Below x.heap.size x w') := fun h x hx => rtxt_any f.count A c f I 0 0 x (Nat.le_refl _) (hr.below hx) (hiff.1 h) h60 hL
  unfold fput
  clear hiff hr hk
  generalize fcheck f 0 0 = E at *
  by_cases hE : E = 0
  · subst hE
    rw [if_neg (by simp)]
    have HS2 := Lib.hid (HS.out rfl)
    generalize hF : ftx f = F at *
    clear hF
    have hsz : (txt F).size = F.length := txt_size F
    by_cases hbig : 65536 < F.length
    · rw [if_pos hbig]
      have hbig2 : 65536 < (txt F).size := by omega
      clear hsz hbig hL
      generalize txt F = Z at *
      go_enter Tryd.func34, Tryd.ntmps34
      go_wp2_with fail
      refine (HC.out).mono ?_
      rintro e w1 ⟨rfl, hb2⟩
      replace hb1 := bb hb1 hb2
      clear hb2
      go_wp2_with fail
      refine (HS2.out _ hb1).mono ?_
      rintro e w2 ⟨rfl, hb2⟩
      replace hb1 := bb hb1 hb2
      clear hb2
      go_wp2
      go_ret2
      exact ⟨rfl, hb1⟩
    · rw [if_neg hbig]
      have hbig2 : (txt F).size ≤ 65536 := by omega
      clear hsz hbig hL
      generalize txt F = Z at *
      go_enter Tryd.func34, Tryd.ntmps34
      go_wp2_with fail
      refine (HC.out).mono ?_
      rintro e w1 ⟨rfl, hb2⟩
      replace hb1 := bb hb1 hb2
      clear hb2
      go_wp2_with fail
      refine (HS2.out _ hb1).mono ?_
      rintro e w2 ⟨rfl, hb2⟩
      replace hb1 := bb hb1 hb2
      clear hb2
      go_wp2
      go_ret2
      exact ⟨rfl, hb1⟩
  · rw [if_pos hE]
    have hei : ((E : Int) != 0) = true := by rw [bne_iff_ne]; omega
    go_enter Tryd.func34, Tryd.ntmps34
    go_wp2_with fail
    refine (HC.out).mono ?_
    rintro e w1 ⟨rfl, hb2⟩
    replace hb1 := bb hb1 hb2
    clear hb2
    go_wp2
    go_ret2
    exact ⟨rfl, hb1⟩
theorem ftx_le : ∀ {f : Fs}, f.All FOk → f.count ≤ 1000000 → (ftx f).length ≤ 330 * f.count
  | .nil, _, _ => by simp [ftx]
  | .cons t y n s i r, hk, h60 => by
    simp only [Fs.count] at h60
    have hi := ftx_le (f := i) hk.2.1 (by omega)
    have hr := ftx_le (f := r) hk.2.2 (by omega)
    obtain ⟨h1, h2, h3, h4⟩ := hk.1
    have e1 : vsz (4 * t + y.toNat) ≤ 10 := vsz_le 9 _ (by have : (128 : Nat) ^ (9 + 1) = 1180591620717411303424 := by decide
                                                           unfold In64 at h1; omega)
    have e2 := vsz_le10 h3
    have e3 : vsz s.size ≤ 10 := vsz_le10 (by show s.size < 18446744073709551616; omega)
    have e4 : vsz (ftx i).length ≤ 10 := vsz_le10 (by show (ftx i).length < 18446744073709551616; omega)
    simp only [ftx, Fs.count, List.length_append, vput_length]
    by_cases y0 : y = 0
    · rw [if_pos y0, vput_length]; omega
    · rw [if_neg y0]
      by_cases y1 : y = 1
      · rw [if_pos y1, List.length_append, vput_length, len_list]; omega
      · rw [if_neg y1, List.length_append, vput_length]; omega
theorem fsz_put {f : Fs} (h : (ftx f).length ≤ 65536) : (fput f).1.length = fszB f := by
  unfold fput fszB
  by_cases e : fcheck f 0 0 ≠ 0
  · rw [if_pos e, if_pos e]; rfl
  · rw [if_neg e, if_neg e, if_neg (by omega)]
theorem writes_walk (A : Option Addr) (cap : Nat) (l : List One) (w : World) (hT : Tabs w) (hr : OnesRd w.heap.size w A l) (hok : ∀ x ∈ l, x.ok)
    (hl : l.length ≤ cap) (hc : cap ≤ 9223372036854775807) :
    Calls Tryd.prog 7 #[.slice A l.length cap] w fun e w' => e = .returned (.bool true) ∧ Below w.heap.size w w' := by
  have HA := Lib.hid (awake09 w hT)
  have hb1 : Below w.heap.size w w := b0
  have HF : Hid (∀ x : World, Below w.heap.size w x → Calls Tryd.prog 23 #[.slice A l.length cap] x fun e w' => e = .returned (.bool (few l)) ∧ Below x.heap.size x w') := fun x hx => few_any w.heap.size A cap l x (hr.belowB hx) hok (by omega)
  have HR := Lib.hid hr
  have HOK := Lib.hid hok
  have HL : Hid (l.length ≤ cap ∧ cap ≤ 9223372036854775807) := ⟨hl, hc⟩
  clear hT hr hok
  generalize hfa : few l = fa at HF
  have HFA := Lib.hid hfa
  clear hfa
  cases fa with
  | false =>
    go_enter Tryd.func7, Tryd.ntmps7
    go_wp2_with fail
    refine (HA.out).mono ?_
    rintro e w1 ⟨rfl, hb2⟩
    replace hb1 := bb hb1 hb2
    clear hb2
    go_wp2_with fail
    refine (HF.out _ hb1).mono ?_
    rintro e w2 ⟨rfl, hb2⟩
    replace hb1 := bb hb1 hb2
    clear hb2
    go_wp2
    go_ret
    exact ⟨rfl, hb1⟩
  | true =>
    obtain ⟨ht3, h60⟩ := few_ok HFA.out
    have HM : Hid (∀ x : World, Below w.heap.size w x → Calls Tryd.prog 24 #[.slice A l.length cap] x (MakeEnd x l.length)) := fun x hx => make_any w.heap.size A cap l x hx.size (HR.out.belowB hx) (fun x hx => ⟨HOK.out x hx, ht3 x hx⟩) h60 HL.out.1 HL.out.2
    clear ht3
    go_enter Tryd.func7, Tryd.ntmps7
    go_wp2_with fail
    refine (HA.out).mono ?_
    rintro e w1 ⟨rfl, hb2⟩
    replace hb1 := bb hb1 hb2
    clear hb2
    go_wp2_with fail
    refine (HF.out _ hb1).mono ?_
    rintro e w2 ⟨rfl, hb2⟩
    replace hb1 := bb hb1 hb2
    clear hb2
    go_wp2_with fail
    refine (HM.out _ hb1).mono ?_
    rintro e w4 ⟨f, Af, cf, rfl, hfc, hfk, hfs, hb2⟩
    replace hb1 := bb hb1 hb2
    have hf60 : f.count ≤ 1000000 := by omega
    have hlen := ftx_le hfk hf60
    have H60 := Lib.hid hf60
    have HLN : Hid ((ftx f).length ≤ 65536) := by show _ ≤ _; omega
    have HFK : Hid (f.All FKd) := hfk.imp fun _ _ _ _ h => h.kd
    have HFS : Hid (SlV w4 (fun _ => True) (.slice Af f.len cf) f) := hfs.imp fun _ _ => trivial
    have hx : Below w4.heap.size w4 w4 := b0
    have hfl := Nat.le_trans f.len_count hf60
    have HP1 : Hid (∀ x : World, Below w4.heap.size w4 x → Calls Tryd.prog 33 #[.slice Af f.len cf] x fun e w' => e = .returned (.tuple #[.string (txt (fput f).1), .int .i64 ((fput f).2 : Int)]) ∧ Below x.heap.size x w') := fun x hx => wput_of _ f _ x (HFS.out.below hx) HFK.out H60.out (Nat.le_trans HLN.out (by decide))
    have HS1 : Hid (∀ x : World, Below w4.heap.size w4 x → Calls Tryd.prog 35 #[.slice Af f.len cf] x fun e w' => e = .returned (.int .i64 ((txt (fput f).1).size : Int)) ∧ Below x.heap.size x w') := fun x hx => by
      rw [txt_size, fsz_put HLN.out]
      exact wsz_of _ f _ x (HFS.out.below hx) HFK.out H60.out (Nat.le_trans HLN.out (by decide))
    have HP2 : Hid (∀ (P : Option Addr) (q : Nat) (W x : World), SlV W (fun _ => True) (.slice P f.len q) f → Below W.heap.size W x → Calls Tryd.prog 34 #[.slice P f.len q] x fun e w' => e = .returned (.tuple #[.string (txt (fput f).1), .int .i64 ((fput f).2 : Int)]) ∧ Below x.heap.size x w') := fun P q W x hs hx => rputf_of P q f _ x (hs.below hx) HFK.out H60.out (Nat.le_trans HLN.out (by decide))
    generalize txt (fput f).1 = Z at *
    generalize (fput f).2 = E at *
    clear hb2 hfk hfs hf60 hfc hlen
    go_wp2_with fail
    refine (HP1.out _ hx).mono ?_
    rintro e w5 ⟨rfl, hb2⟩
    replace hb1 := bb hb1 hb2
    replace hx := bb hx hb2
    clear hb2
    go_wp2_with fail
    refine (of_any f.count Af cf f _ w5 (Nat.le_refl _) (HFS.out.below hx) H60.out).mono ?_
    rintro e w6 ⟨P6, q6, rfl, hps, hb2⟩
    replace hb1 := bb hb1 hb2
    replace hx := bb hx hb2
    have hs := HP2.out P6 q6 w6 w6 (hps.imp fun _ _ => trivial) b0
    clear hb2 hps
    go_wp2_with fail
    refine hs.mono ?_
    clear hs
    rintro e w7 ⟨rfl, hb2⟩
    replace hb1 := bb hb1 hb2
    replace hx := bb hx hb2
    clear hb2
    go_wp2_with fail
    refine (HS1.out _ hx).mono ?_
    rintro e w8 ⟨rfl, hb2⟩
    replace hb1 := bb hb1 hb2
    clear hb2
    go_wp2
    go_ret
    exact ⟨rfl, hb1⟩
end Go.Proofs.YtmlijflappjfoaaDoor
end
