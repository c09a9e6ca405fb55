/-
  Texts of the proof, joined: FSame2 RefFld4 Varint Cursor Varint2. Conditions: as each names.
-/
import Derived.Test.YtigbifiicbghpaaDoorBaf
import Derived.Test.YtigbifiicbghpaaDoorProg
import Derived.Test.YtigbifiicbghpaaDoorBaa
import Derived.Test.YtigbifiicbghpaaDoorBad
import Derived.WalkSpells
import Derived.WalkLawsBesides
import Derived.Deep.QuietTactic
import Derived.BigQuiet
import Derived.Lib.Hide
import Derived.Deep.OwnRows
import Derived.KernelRfl

section
/-
  Contracts of layer 8: whether two lists of fields are the same: the walk over the work list.
-/
namespace Go.Proofs.YtigbifiicbghpaaDoor
open Go.RowKit Go.PM
set_option maxRecDepth 100000
set_option maxHeartbeats 4000000
attribute [local go_sem ↓] Go.wp_at_zero Go.wp_at_succ

theorem info_both : (Tryd.prog.info? 83).map (fun i => (i.zero, i.size, i.bytes)) = some (some (.agg #[.slice none 0 0, .slice none 0 0]), 2, 48) := by kernel_rfl
/-- Where the walk over the work list stands. -/
def PkAt (w : World) (I : Nat → Prop) (v : Value) (L : List (Fs × Fs)) (wr : World) : Prop :=
  ∃ (g cap : Nat) (xs : List Value), v = .slice (some ⟨g, 0, none⟩) L.length cap ∧ wr.ownsRow w.heap.size 83 2 v L.length xs ∧ W2 w I xs L ∧ Below w.heap.size w wr
/-- So, and a block apart from the row. -/
def PxAt (w : World) (I : Nat → Prop) (gb : Nat) (va vb v : Value) (L : List (Fs × Fs)) (wr : World) : Prop :=
  ∃ (g cap : Nat) (xs : List Value), v = .slice (some ⟨g, 0, none⟩) L.length cap ∧ wr.ownsRow w.heap.size 83 2 v L.length xs ∧ W2 w I xs L ∧ Below w.heap.size w wr ∧ g ≠ gb ∧ w.heap.size ≤ gb ∧ BlkAt wr gb 83 #[va, vb]
theorem PkAt.step {w wr w3 : World} {I : Nat → Prop} {gb g2 g3 cap3 cap2 M2 : Nat} {va vb x y : Value} {L2 : List (Fs × Fs)} {p : Fs × Fs} {xs2 : List Value} (hM : L2.length = M2) (hB2 : Below w.heap.size w wr) (hgb : w.heap.size ≤ gb) (hblk : BlkAt wr gb 83 #[va, vb]) (hne : g2 ≠ gb)
    (hW2 : W2 w I xs2 L2) (hx : SlV w I x p.1) (hy : SlV w I y p.2) (hg2 : w.heap.size ≤ g2)
    (hown3 : w3.ownsRow w.heap.size 83 2 (.slice (some ⟨g3, 0, none⟩) (M2 + 1) cap3) (M2 + 1) (xs2 ++ [x, y])) (hg3 : wr.grownBy w3 (Value.slice (some ⟨g2, 0, none⟩) M2 cap2).ownBlock) (hat : (Value.slice (some ⟨g2, 0, none⟩) M2 cap2).ownBlock = some g3 ∨ wr.heap.size ≤ g3) :
    PxAt w I gb va vb (.slice (some ⟨g3, 0, none⟩) (M2 + 1) cap3) (L2 ++ [p]) w3 := by
  refine ⟨g3, cap3, _, by simp [hM], by simp only [List.length_append, List.length_cons, List.length_nil, hM]; exact hown3, hW2.push hx hy, ?_, ?_, hgb, ?_⟩
  · exact hB2.trans (Tch.grown (S := fun k => some g2 = some k) hg3 (fun k hk _ => hk) |>.toBelowB hB2.size fun k hk e => by injection e with e; omega)
  · rcases hat with h | h
    · simp only [Value.ownBlock, Option.some.injEq] at h; omega
    · have := hblk.lt; omega
  · exact hblk.step hg3 (by intro e; simp only [Value.ownBlock, Option.some.injEq] at e; exact hne e.symm)
theorem same_of (va vb : Value) (f g : Fs) (I : Nat → Prop) (w : World) (ha : SlV w I va f) (hb : SlV w I vb g) (h60 : f.count ≤ 1000000) (h61 : g.count ≤ 1000000) :
    Calls Tryd.prog 21 #[va, vb] w fun e w' => e = .returned (.bool (f.same g)) ∧ Below w.heap.size w w' := by
  have HA := Lib.hid ha
  have HB := Lib.hid hb
  obtain ⟨A, c, rfl, ha'⟩ := ha
  obtain ⟨A', c', rfl, hb'⟩ := hb
  clear ha' hb'
  generalize hT : f.same g = T
  have HT := Lib.hid hT
  have H6 : Hid (f.count ≤ 1000000 ∧ g.count ≤ 1000000) := ⟨h60, h61⟩
  obtain ⟨i0, hi0, hz0, hz1, hz2⟩ := info_parts info_both
  clear hT h60 h61
  go_enter Tryd.func21, Tryd.ntmps21
  go_wp2_with fail
  go_loopg [5] 4000001 (fun gk vv wr => ∃ (L : List (Fs × Fs)), Hid (lsame L = T ∧ 2 * psum L + L.length ≤ gk ∧ gk ≤ 4000001) ∧ PkAt w I vv L wr)
  case atStart =>
    refine ⟨[(f, g)], ⟨by rw [lsame_one]; exact HT.out, by have := H6.out; simp [psum]; omega, Nat.le_refl _⟩, w.heap.size, 1, [.slice A f.len c, .slice A' g.len c'], rfl, World.ownsRow_lit w #[.slice A f.len c, .slice A' g.len c'] 1 (Nat.le_refl _) (by decide) rfl, ?_, ba b0 _⟩
    exact W2.push (p := (f, g)) W2.nil HA.out HB.out
  case round =>
    obtain ⟨L, hn, g0, cap, xs, rfl, hown, hwl, hbel⟩ := hrel
    cases hL : L.length with
    | zero =>
      obtain rfl : L = [] := List.eq_nil_of_length_eq_zero hL
      obtain rfl : true = T := hn.out.1
      have HBE := Lib.hid hbel
      clear hown hwl hbel hL hn
      go_wp2_with fail
      go_ret
      exact ⟨rfl, HBE.out⟩
    | succ m =>
      obtain ⟨L', ⟨f1, g1⟩, x, y, rfl, hL', hx, hy, hsx, hsy, hwl'⟩ := hwl.pop hL
      simp only at hsx hsy
      have HSX := Lib.hid hsx
      have HSY := Lib.hid hsy
      obtain ⟨A1, c1, rfl, hc1, hor1⟩ := hsx
      obtain ⟨A2, c2, rfl, hc2, hor2⟩ := hsy
      have hcell0 := hown.cellAt (m * 2) (by rw [hL]; omega)
      have hcell1 := hown.cellAt (m * 2 + 1) (by rw [hL]; omega)
      rw [Nat.mul_comm m 2, hx, Nat.mul_comm 2 m] at hcell0
      rw [Nat.mul_comm m 2, hy, Nat.mul_comm 2 m] at hcell1
      rw [hL] at hown
      have hg0 := hown.lt g0 rfl
      have HO := Lib.hid (own_pop hown)
      obtain ⟨hmc, hcap⟩ := own_cap hown
      have hmi : (m : Int) ≤ (cap : Int) := by omega
      have HWL := Lib.hid hwl'
      have HBEL := Lib.hid hbel
      obtain ⟨hn0, hn2, hgT⟩ := hn.out
      rw [lsame_app, lsame_one] at hn0
      rw [psum_app] at hn2
      simp only [psum, List.length_append, List.length_cons, List.length_nil] at hn2 hn0
      have hfc := f1.count_in
      have hgc := g1.count_in
      have hm4 : m ≤ 4000001 := by omega
      have hfl4 : f1.len ≤ 4000001 ∧ g1.len ≤ 4000001 := by omega
      obtain ⟨hf4, hg4⟩ := hfl4
      have hblk := BlkAt.made wr 83 #[.slice A1 f1.len c1, .slice A2 g1.len c2]
      have hbo := ba (a := wr) b0 (.cells #[.slice A1 f1.len c1, .slice A2 g1.len c2] 83)
      have H0 : Hid ((lsame L' && f1.same g1) = T ∧ (f1.len = g1.len → 2 * psum L' + L'.length + 2 * (f1.icount + g1.icount) + f1.len + 1 ≤ gk) ∧ gk ≤ 4000001) := ⟨hn0, fun _ => by omega, hgT⟩
      have HM := Lib.hid hL'
      have HBLK := Lib.hid hblk
      have HBO := Lib.hid hbo
      obtain ⟨G, hG⟩ : ∃ G, G = gk := ⟨gk, rfl⟩
      rw [← hG] at H0
      have HG := Lib.hid hG
      clear hG
      clear hn hn0 hn2 hgT hfc hgc hown hwl' hbel hor1 hor2 hL hL' hx hy hblk hbo hwl
      by_cases hlen : f1.len = g1.len
      · have HLEN := Lib.hid hlen
        have hli : ((f1.len : Int) != (g1.len : Int)) = false := by simp; omega
        clear hlen
        go_wp2_with fail
        generalize hgbe : wr.heap.size = gb
        rw [hgbe] at HBLK
        have HGBE := Lib.hid hgbe
        clear hgbe
        go_loopg [5, 38] f1.len (fun gj vv kk w2 => ∃ (k : Nat) (L2 : List (Fs × Fs)), k + gj = f1.len ∧ kk = .int .i64 (k : Int) ∧ Hid ((lsame L2 && (f1.drop k).same (g1.drop k)) = T ∧ 2 * psum L2 + L2.length + 2 * ((f1.drop k).icount + (g1.drop k).icount) + (f1.drop k).len + 1 ≤ G) ∧ PxAt w I gb (.slice A1 f1.len c1) (.slice A2 g1.len c2) vv L2 w2)
        case atStart =>
          have hd0 : ∀ h : Fs, h.drop 0 = h := fun h => by cases h <;> rfl
          refine ⟨0, L', by omega, rfl, ?_, g0, cap, _, by rw [HM.out], by rw [HM.out]; exact own_below HO.out HBO.out, HWL.out, HBEL.out.trans (HBO.out.mono HBEL.out.size), by have := HGBE.out; omega, by have := HGBE.out; have := HBEL.out.size; omega, HBLK.out⟩
          rw [hd0, hd0]
          exact ⟨H0.out.1, H0.out.2.1 HLEN.out⟩
        case round =>
          obtain ⟨k, L2, hkj, rfl, hn3, g2, cap2, xs2, rfl, hown2, hwl2, hbel2, hne2, hgb2, hblk2⟩ := hrel
          by_cases hlt : k < f1.len
          · have hle : f1.len = g1.len := HLEN.out
            obtain ⟨t, y, n, s, i, hdc, _⟩ := f1.drop_cons k hlt
            obtain ⟨t', y', n', s', i', hdc', _⟩ := g1.drop_cons k (by omega)
            have hsx := HSX.out
            have hsy := HSY.out
            obtain ⟨A0, c0, hv, hc0, hor⟩ := hsx
            injection hv with hv1 hv2 hv3
            subst hv1 hv3
            obtain ⟨A0, c0, hv', hc0', hor'⟩ := hsy
            injection hv' with hv1 hv2' hv3
            subst hv1 hv3
            rcases hor with h0 | ⟨b, o, rfl, hIb, hbl, hat⟩
            · omega
            rcases hor' with h0 | ⟨b', o', rfl, hIb', hbl', hat'⟩
            · omega
            have hak := hat.drop k
            have hak' := hat'.drop k
            rw [hdc] at hak
            rw [hdc'] at hak'
            obtain ⟨a0, a1, a2, a3, ⟨Ai, ci, a4, hci, hin⟩, _⟩ := hak
            obtain ⟨a0', a1', a2', a3', ⟨Ai', ci', a4', hci', hin'⟩, _⟩ := hak'
            have hbk := hbel2.block b hbl
            have hbk' := hbel2.block b' hbl'
            have HALC : Hid (∀ x : World, Below wr.heap.size wr x → Calls Tryd.prog 39 #[.pointer (some ⟨b, o + k * 5, none⟩), .pointer (some ⟨b', o' + k * 5, none⟩)] x fun e w' => e = .returned (.bool (likeB t t' y y' n n' s s')) ∧ Below x.heap.size x w') := fun x hx => by
              have hz := hbel2.size
              have e := fun j => World.cell?_of_block (a := ⟨b, j, none⟩) ((hx.block b (by omega)).trans hbk)
              have e' := fun j => World.cell?_of_block (a := ⟨b', j, none⟩) ((hx.block b' (by omega)).trans hbk')
              exact alike_any b (o + k * 5) b' (o' + k * 5) t t' y y' n n' s s' x ((e _).trans a0) ((e _).trans a1) ((e _).trans a2) ((e _).trans a3) ((e' _).trans a0') ((e' _).trans a1') ((e' _).trans a2') ((e' _).trans a3')
            have c4 := (World.cell?_of_block (a := ⟨b, o + k * 5 + 4, none⟩) hbk).trans a4
            have c4' := (World.cell?_of_block (a := ⟨b', o' + k * 5 + 4, none⟩) hbk').trans a4'
            have HLT : Hid (b < wr.heap.size ∧ b' < wr.heap.size ∧ b < w.heap.size ∧ b' < w.heap.size) := ⟨Nat.lt_of_lt_of_le hbl hbel2.size, Nat.lt_of_lt_of_le hbl' hbel2.size, hbl, hbl'⟩
            have HSI : Hid (SlV w I (.slice Ai i.len ci) i ∧ SlV w I (.slice Ai' i'.len ci') i') := ⟨⟨Ai, ci, rfl, hci, hin⟩, ⟨Ai', ci', rfl, hci', hin'⟩⟩
            have bx0 := hblk2.cell 0
            have bx1 := hblk2.cell 1
            simp at bx0 bx1
            have hkf : (k : Int) < (f1.len : Int) := by omega
            have hkg : (k : Int) < (g1.len : Int) := by omega
            clear hle
            have hn3' := hn3.out
            rw [hdc, hdc'] at hn3'
            simp only [Fs.icount, Fs.len, Fs.same] at hn3'
            have hif := f1.drop_count k
            have hig := g1.drop_count k
            rw [hdc] at hif
            rw [hdc'] at hig
            simp only [Fs.count] at hif hig
            have hil := i.len_count
            have hil' := i'.len_count
            have HB2 := Lib.hid hbel2
            clear hdc hdc' hat hat' hv2 hv2' a0 a1 a2 a3 a4 a0' a1' a2' a3' a4' hin hin' hbk hbk' hn3
            cases hlk : likeB t t' y y' n n' s s' with
            | false =>
              rw [hlk] at HALC
              have HAL := HALC
              have HF : Hid (false = T) := by
                have h1 := hn3'.1
                unfold likeB at hlk
                rw [hlk] at h1
                simp at h1
                exact h1.symm
              clear hlk hn3' hown2 hwl2 hblk2 hbel2 HALC
              obtain rfl : false = T := HF.out
              clear HF
              go_wp2_with fail
              go_quiet (fail)
              go_wp2_with (go_at_call 39; refine (HAL.out _ (bn b0 _)).mono ?_; rintro e' W1 ⟨rfl, hb1⟩; have hbW1 : Below wr.heap.size wr W1 := bb (bn b0 _) hb1; have e4 := (World.cell?_of_block (hbW1.block b HLT.out.1)).trans c4; have e4' := (World.cell?_of_block (hbW1.block b' HLT.out.2.1)).trans c4')
              go_ret
              exact ⟨rfl, HB2.out.trans (hbW1.mono HB2.out.size)⟩
            | true =>
              rw [hlk] at HALC
              have HAL := HALC
              have hsame : (lsame L2 && (i.same i' && (f1.drop (k + 1)).same (g1.drop (k + 1)))) = T := by
                have h1 := hn3'.1
                unfold likeB at hlk
                rw [hlk, Bool.true_and] at h1
                exact h1
              have HSAME := Lib.hid hsame
              have hci2 := i.count_in
              have hci2' := i'.count_in
              have hn3 := Lib.hid (And.intro hsame hn3'.2)
              have HW2 := Lib.hid hwl2
              have HO2 := Lib.hid hown2
              have HGB : Hid (g2 ≠ gb ∧ w.heap.size ≤ gb ∧ BlkAt wr gb 83 #[.slice (some ⟨_, _, none⟩) f1.len _, .slice (some ⟨_, _, none⟩) g1.len _]) := ⟨hne2, hgb2, hblk2⟩
              have hiL : i.len ≤ 4000001 ∧ i'.len ≤ 4000001 := by have := hn3.out.2; have := H0.out.2.2; omega
              obtain ⟨hiL1, hiL2⟩ := hiL
              clear hlk hn3' hsame hown2 hwl2 hblk2 hbel2 HALC hif hig hil hil' hci2 hci2'
              by_cases hi1 : 0 < i.len
              · have hip : (0 : Int) < (i.len : Int) := by omega
                have HNN : Hid ((lsame (L2 ++ [(i, i')]) && (f1.drop (k + 1)).same (g1.drop (k + 1))) = T ∧ 2 * psum (L2 ++ [(i, i')]) + (L2 ++ [(i, i')]).length + 2 * ((f1.drop (k + 1)).icount + (g1.drop (k + 1)).icount) + (f1.drop (k + 1)).len + 1 ≤ G) := by
                  rw [lsame_app, lsame_one, Bool.and_assoc, psum_app]
                  simp only [psum, List.length_append, List.length_cons, List.length_nil]
                  exact ⟨HSAME.out, by have := hn3.out.2; omega⟩
                have HL4 : Hid (L2.length ≤ 4000001) := by have := hn3.out.2; have := H0.out.2.2; show _ ≤ _; omega
                have hL4 := HL4.out
                generalize hM2 : L2.length = M2 at *
                have HM2 := Lib.hid hM2
                clear hM2 hn3 HSAME
                go_wp2_with fail
                go_quiet (fail)
                go_wp2_with (go_at_call 39; refine (HAL.out _ (bn b0 _)).mono ?_; rintro e' W1 ⟨rfl, hb1⟩; have hbW1 : Below wr.heap.size wr W1 := bb (bn b0 _) hb1; have e4 := (World.cell?_of_block (hbW1.block b HLT.out.1)).trans c4; have e4' := (World.cell?_of_block (hbW1.block b' HLT.out.2.1)).trans c4')
                have hown1 := own_below HO2.out hbW1
                have HOW := Lib.hid hown1
                have hwz := hbW1.size
                have hg2z := HO2.out.lt g2 rfl
                have HBW1 := Lib.hid hbW1
                clear hown1
                go_region_held3 (fun w' => w'.cell? ⟨b, o + k * 5 + 4, none⟩ = some (.slice Ai i.len ci) ∧ w'.cell? ⟨b', o' + k * 5 + 4, none⟩ = some (.slice Ai' i'.len ci')) (go_keep)
                  ((refine step_append_lies _ (by rfl) _ _ _ (by rfl) w.heap.size 83 i0 _ 2 48 Tryd.underlying84 hi0 hz0 hz1 hz2 rfl (by omega) (.slice (some ⟨g2, 0, none⟩) M2 cap2) M2 xs2 (by rfl) ((HOW.out.drew).alloc _) ⟨W1.heap.size, 0, none⟩ 1 1 [.slice Ai i.len ci, .slice Ai' i'.len ci'] (by rfl) (by rfl) (World.news_of_block (cs := #[.slice Ai i.len ci, .slice Ai' i'.len ci']) (t := 83) (fr := (0, 0)) (heap_alloc_new W1.drew _)) (by simp [Value.oneCell']) (by omega) (by unfold maxLen; omega) (by omega) (by simp; omega) (W1.heap.size + 1) (by simp) ?_; intro g3 cap3 w3 hown3 hg3 hat3 hlt3; have HO3 := Lib.hid hown3; have HG3 := Lib.hid hg3; have HAT3 := Lib.hid hat3; have e5 := (World.cell?_of_block (a := ⟨b, o + k * 5 + 4, none⟩) ((HG3.out.block b (by simp; omega) (by simp [Value.ownBlock]; omega)).trans ((ba (a := W1) b0 (.cells #[.slice Ai i.len ci, .slice Ai' i'.len ci'] 83)).block b (by omega)))).trans e4; have e5' := (World.cell?_of_block (a := ⟨b', o' + k * 5 + 4, none⟩) ((HG3.out.block b' (by simp; omega) (by simp [Value.ownBlock]; omega)).trans ((ba (a := W1) b0 (.cells #[.slice Ai i.len ci, .slice Ai' i'.len ci'] 83)).block b' (by omega)))).trans e4'; clear hown3 hg3 hat3 hlt3))
                go_wp2_with fail
                go_roundg (f1.len - (k + 1))
                case measure => omega
                case rel =>
                  have hbq : Below wr.heap.size wr (W1.drew.alloc (.cells #[.slice Ai i.len ci, .slice Ai' i'.len ci'] 83)) := ba (bd HBW1.out) _
                  refine ⟨k + 1, L2 ++ [(i, i')], by omega, by go_num, HNN.out, ?_⟩
                  exact PkAt.step HM2.out (HB2.out.trans (hbq.mono HB2.out.size)) HGB.out.2.1 (HGB.out.2.2.below hbq HGB.out.2.2.lt) HGB.out.1 HW2.out HSI.out.1 HSI.out.2 hg2z.1 HO3.out HG3.out (HAT3.out.imp id fun h => by rw [h]; simp)
              · have hip : decide ((0 : Int) < (i.len : Int)) = false := by simp; omega
                by_cases hi2 : 0 < i'.len
                · have hip2 : (0 : Int) < (i'.len : Int) := by omega
                  have HNN : Hid ((lsame (L2 ++ [(i, i')]) && (f1.drop (k + 1)).same (g1.drop (k + 1))) = T ∧ 2 * psum (L2 ++ [(i, i')]) + (L2 ++ [(i, i')]).length + 2 * ((f1.drop (k + 1)).icount + (g1.drop (k + 1)).icount) + (f1.drop (k + 1)).len + 1 ≤ G) := by
                    rw [lsame_app, lsame_one, Bool.and_assoc, psum_app]
                    simp only [psum, List.length_append, List.length_cons, List.length_nil]
                    exact ⟨HSAME.out, by have := hn3.out.2; omega⟩
                  have HL4 : Hid (L2.length ≤ 4000001) := by have := hn3.out.2; have := H0.out.2.2; show _ ≤ _; omega
                  have hL4 := HL4.out
                  generalize hM2 : L2.length = M2 at *
                  have HM2 := Lib.hid hM2
                  clear hM2 hn3 HSAME
                  go_wp2_with fail
                  go_quiet (fail)
                  go_wp2_with (go_at_call 39; refine (HAL.out _ (bn b0 _)).mono ?_; rintro e' W1 ⟨rfl, hb1⟩; have hbW1 : Below wr.heap.size wr W1 := bb (bn b0 _) hb1; have e4 := (World.cell?_of_block (hbW1.block b HLT.out.1)).trans c4; have e4' := (World.cell?_of_block (hbW1.block b' HLT.out.2.1)).trans c4')
                  have hown1 := own_below HO2.out hbW1
                  have HOW := Lib.hid hown1
                  have hwz := hbW1.size
                  have hg2z := HO2.out.lt g2 rfl
                  have HBW1 := Lib.hid hbW1
                  clear hown1
                  go_region_held3 (fun w' => w'.cell? ⟨b, o + k * 5 + 4, none⟩ = some (.slice Ai i.len ci) ∧ w'.cell? ⟨b', o' + k * 5 + 4, none⟩ = some (.slice Ai' i'.len ci')) (go_keep)
                    ((refine step_append_lies _ (by rfl) _ _ _ (by rfl) w.heap.size 83 i0 _ 2 48 Tryd.underlying84 hi0 hz0 hz1 hz2 rfl (by omega) (.slice (some ⟨g2, 0, none⟩) M2 cap2) M2 xs2 (by rfl) ((HOW.out.drew).alloc _) ⟨W1.heap.size, 0, none⟩ 1 1 [.slice Ai i.len ci, .slice Ai' i'.len ci'] (by rfl) (by rfl) (World.news_of_block (cs := #[.slice Ai i.len ci, .slice Ai' i'.len ci']) (t := 83) (fr := (0, 0)) (heap_alloc_new W1.drew _)) (by simp [Value.oneCell']) (by omega) (by unfold maxLen; omega) (by omega) (by simp; omega) (W1.heap.size + 1) (by simp) ?_; intro g3 cap3 w3 hown3 hg3 hat3 hlt3; have HO3 := Lib.hid hown3; have HG3 := Lib.hid hg3; have HAT3 := Lib.hid hat3; have e5 := (World.cell?_of_block (a := ⟨b, o + k * 5 + 4, none⟩) ((HG3.out.block b (by simp; omega) (by simp [Value.ownBlock]; omega)).trans ((ba (a := W1) b0 (.cells #[.slice Ai i.len ci, .slice Ai' i'.len ci'] 83)).block b (by omega)))).trans e4; have e5' := (World.cell?_of_block (a := ⟨b', o' + k * 5 + 4, none⟩) ((HG3.out.block b' (by simp; omega) (by simp [Value.ownBlock]; omega)).trans ((ba (a := W1) b0 (.cells #[.slice Ai i.len ci, .slice Ai' i'.len ci'] 83)).block b' (by omega)))).trans e4'; clear hown3 hg3 hat3 hlt3))
                  go_wp2_with fail
                  go_roundg (f1.len - (k + 1))
                  case measure => omega
                  case rel =>
                    have hbq : Below wr.heap.size wr (W1.drew.alloc (.cells #[.slice Ai i.len ci, .slice Ai' i'.len ci'] 83)) := ba (bd HBW1.out) _
                    refine ⟨k + 1, L2 ++ [(i, i')], by omega, by go_num, HNN.out, ?_⟩
                    exact PkAt.step HM2.out (HB2.out.trans (hbq.mono HB2.out.size)) HGB.out.2.1 (HGB.out.2.2.below hbq HGB.out.2.2.lt) HGB.out.1 HW2.out HSI.out.1 HSI.out.2 hg2z.1 HO3.out HG3.out (HAT3.out.imp id fun h => by rw [h]; simp)
                · have hip2 : decide ((0 : Int) < (i'.len : Int)) = false := by simp; omega
                  have hni : i = .nil := Fs.len_zero (by omega)
                  have hni' : i' = .nil := Fs.len_zero (by omega)
                  have HNN : Hid ((lsame L2 && (f1.drop (k + 1)).same (g1.drop (k + 1))) = T ∧ 2 * psum L2 + L2.length + 2 * ((f1.drop (k + 1)).icount + (g1.drop (k + 1)).icount) + (f1.drop (k + 1)).len + 1 ≤ G) := by
                    refine ⟨?_, by have := hn3.out.2; omega⟩
                    have h1 := HSAME.out
                    rw [hni, hni'] at h1
                    exact h1
                  have HL4 : Hid (L2.length ≤ 4000001) := by have := hn3.out.2; have := H0.out.2.2; show _ ≤ _; omega
                  clear hn3 HSAME hni hni'
                  go_wp2_with fail
                  go_quiet (fail)
                  go_wp2_with (go_at_call 39; refine (HAL.out _ (bn b0 _)).mono ?_; rintro e' W1 ⟨rfl, hb1⟩; have hbW1 : Below wr.heap.size wr W1 := bb (bn b0 _) hb1; have e4 := (World.cell?_of_block (hbW1.block b HLT.out.1)).trans c4; have e4' := (World.cell?_of_block (hbW1.block b' HLT.out.2.1)).trans c4')
                  have HBW1 := Lib.hid hbW1
                  go_wp2_with fail
                  go_roundg (f1.len - (k + 1))
                  case measure => omega
                  case rel => exact ⟨k + 1, L2, by omega, by go_num, HNN.out, g2, cap2, xs2, rfl, own_below HO2.out HBW1.out, HW2.out, HB2.out.trans (HBW1.out.mono HB2.out.size), HGB.out.1, HGB.out.2.1, HGB.out.2.2.below HBW1.out HGB.out.2.2.lt⟩
          · obtain rfl : k = f1.len := by omega
            have h1 : f1.drop f1.len = .nil := Fs.len_zero (by rw [Fs.drop_len]; omega)
            have h2 : g1.drop f1.len = .nil := Fs.len_zero (by rw [Fs.drop_len]; have := HLEN.out; omega)
            rw [h1, h2] at hn3
            have HE : Hid (lsame L2 = T ∧ 2 * psum L2 + L2.length < G) := by
              have := hn3.out
              simp only [Fs.icount, Fs.len, Fs.same, Bool.and_true] at this
              exact ⟨this.1, by omega⟩
            have HP : Hid (PkAt w I (.slice (some ⟨g2, 0, none⟩) L2.length cap2) L2 wr) := ⟨g2, cap2, xs2, rfl, hown2, hwl2, hbel2⟩
            clear hn3 hown2 hwl2 hbel2 h1 h2 hblk2
            go_wp2_with fail
            go_roundg (2 * psum L2 + L2.length)
            case measure => rw [← HG.out]; exact HE.out.2
            case rel => exact ⟨L2, ⟨HE.out.1, Nat.le_refl _, by have := HE.out.2; have := H0.out.2.2; omega⟩, HP.out⟩
      · obtain rfl : false = T := by rw [← H0.out.1, same_len hlen, Bool.and_false]
        have hli : ((f1.len : Int) != (g1.len : Int)) = true := by simp; omega
        clear hlen
        go_wp2_with fail
        go_ret
        exact ⟨rfl, HBEL.out.trans (HBO.out.mono HBEL.out.size)⟩
end Go.Proofs.YtigbifiicbghpaaDoor
end

section
/-
  Contracts of the document's answers for layer 8: whether two lists are the same.
-/
namespace Go.Proofs.YtigbifiicbghpaaDoor
open Go.RowKit Go.PM
set_option maxRecDepth 100000
set_option maxHeartbeats 4000000
attribute [local go_sem ↓] Go.wp_at_zero Go.wp_at_succ

theorem rsame_any8 (N : Nat) : ∀ (A A' : Option Addr) (c c' : Nat) (f g : Fs) (I : Nat → Prop) (w : World), f.count ≤ N → SlV w I (.slice A f.len c) f → SlV w I (.slice A' g.len c') g → f.count ≤ 1000000 → g.count ≤ 1000000 →
    Calls Tryd.prog 13 #[.slice A f.len c, .slice A' g.len c'] w fun e w' => e = .returned (.bool (f.same g)) ∧ Below w.heap.size w w' := by
  induction N with
  | zero =>
    intro A A' c c' f g I w hN hr hr' h60 h61
    have : f = .nil := Fs.len_zero (by have := f.len_count; omega)
    subst this
    have hgl := g.len_count
    by_cases hg : g.len = 0
    · have : g = .nil := Fs.len_zero hg
      subst this
      go_enter Tryd.func13, Tryd.ntmps13
      go_wp2_with fail
      go_loopw [13] (fun kk wr => kk = .int .i64 0 ∧ wr = w) (fun _ _ => 0)
      case atStart => exact ⟨rfl, rfl⟩
      case round =>
        obtain ⟨rfl, rfl⟩ := hrel
        go_wp2_with fail
        go_ret
        exact ⟨rfl, b0⟩
    · have hs : Fs.nil.same g = false := same_len (by simp only [Fs.len]; omega)
      rw [hs]
      have hi : ((Fs.nil.len : Int) != (g.len : Int)) = true := by simp [Fs.len]; omega
      clear hs hg
      go_enter Tryd.func13, Tryd.ntmps13
      go_wp2_with fail
      go_ret
      exact ⟨rfl, b0⟩
  | succ N ih =>
    intro A A' c c' f g I w hN hr hr' h60 h61
    have IH := Lib.hid ih
    have HR := Lib.hid hr
    have HR' := Lib.hid hr'
    clear ih hr hr'
    have hfl := f.len_count
    have hgl := g.len_count
    generalize hT : f.same g = T
    by_cases hlen : f.len = g.len
    · have H0 : Hid ((f.drop 0).same (g.drop 0) = T) := by
        have hd0 : ∀ h : Fs, h.drop 0 = h := fun h => by cases h <;> rfl
        rw [hd0, hd0]; exact hT
      have HLEN := Lib.hid hlen
      have hli : ((f.len : Int) != (g.len : Int)) = false := by simp; omega
      clear hlen hT
      go_enter Tryd.func13, Tryd.ntmps13
      go_wp2_with fail
      go_loopw [13] (fun kk wr => ∃ k : Nat, k ≤ f.len ∧ kk = .int .i64 (k : Int) ∧ Hid ((f.drop k).same (g.drop k) = T) ∧ Below w.heap.size w wr) (fun kk _ => f.len - (intOf kk).toNat)
      case atStart => exact ⟨0, by omega, rfl, H0, b0⟩
      case round =>
        obtain ⟨k, hk, rfl, hnt, hbel⟩ := hrel
        by_cases hlt : k < f.len
        · have hle : f.len = g.len := HLEN.out
          obtain ⟨t, y, n, s, i, hdc, _⟩ := f.drop_cons k hlt
          obtain ⟨t', y', n', s', i', hdc', _⟩ := g.drop_cons k (by omega)
          obtain ⟨A0, c0, hv, hc0, hor⟩ := HR.out.below hbel
          injection hv with hv1 hv2 hv3
          subst hv1 hv3
          obtain ⟨A0, c0, hv', hc0', hor'⟩ := HR'.out.below hbel
          injection hv' with hv1 hv2' hv3
          subst hv1 hv3
          rcases hor with h0 | ⟨b, o, rfl, hIb, hbl, hat⟩
          · omega
          rcases hor' with h0 | ⟨b', o', rfl, hIb', hbl', hat'⟩
          · omega
          have hak := hat.drop k
          have hak' := hat'.drop k
          rw [hdc] at hak
          rw [hdc'] at hak'
          obtain ⟨a0, a1, a2, a3, ⟨Ai, ci, a4, hci, hin⟩, _⟩ := hak
          obtain ⟨a0', a1', a2', a3', ⟨Ai', ci', a4', hci', hin'⟩, _⟩ := hak'
          have HSI : Hid (SlV wr I (.slice Ai i.len ci) i ∧ SlV wr I (.slice Ai' i'.len ci') i') := ⟨⟨Ai, ci, rfl, hci, hin⟩, ⟨Ai', ci', rfl, hci', hin'⟩⟩
          have HBEL := Lib.hid hbel
          have hkf : (k : Int) < (f.len : Int) := by omega
          have hkg : (k : Int) < (g.len : Int) := by omega
          have hif := f.drop_count k
          have hig := g.drop_count k
          have hn3 := hnt.out
          rw [hdc, hdc'] at hn3
          rw [hdc] at hif
          rw [hdc'] at hig
          simp only [Fs.count, Fs.same] at hif hig hn3
          have hic : i.count ≤ N ∧ i.count ≤ 1000000 ∧ i'.count ≤ 1000000 := by omega
          have HCA : Hid (∀ x : World, Below wr.heap.size wr x → Calls Tryd.prog 13 #[.slice Ai i.len ci, .slice Ai' i'.len ci'] x fun e w' => e = .returned (.bool (i.same i')) ∧ Below x.heap.size x w') := fun x hx =>
            IH.out Ai Ai' ci ci' i i' I x hic.1 (HSI.out.1.below hx) (HSI.out.2.below hx) hic.2.1 hic.2.2
          clear hle hdc hdc' hat hat' hin hin' hv2 hv2' hbel hnt hic hif hig
          by_cases e0 : t = t'
          · subst e0
            by_cases e1 : y = y'
            · subst e1
              by_cases e2 : n = n'
              · subst e2
                by_cases e3 : s = s'
                · subst e3
                  have HCS : Hid (∀ W1 : World, Below wr.heap.size wr W1 → (W1.cell? ⟨b, o + k * 5, none⟩ = some (.int .u64 (t : Int)) ∧ W1.cell? ⟨b, o + k * 5 + 1, none⟩ = some (.int .i64 y) ∧ W1.cell? ⟨b, o + k * 5 + 2, none⟩ = some (.int .u64 (n : Int)) ∧ W1.cell? ⟨b, o + k * 5 + 3, none⟩ = some (.string s) ∧ W1.cell? ⟨b, o + k * 5 + 4, none⟩ = some (.slice Ai i.len ci)) ∧
                      (W1.cell? ⟨b', o' + k * 5, none⟩ = some (.int .u64 (t : Int)) ∧ W1.cell? ⟨b', o' + k * 5 + 1, none⟩ = some (.int .i64 y) ∧ W1.cell? ⟨b', o' + k * 5 + 2, none⟩ = some (.int .u64 (n : Int)) ∧ W1.cell? ⟨b', o' + k * 5 + 3, none⟩ = some (.string s) ∧ W1.cell? ⟨b', o' + k * 5 + 4, none⟩ = some (.slice Ai' i'.len ci'))) := fun W1 hx => by
                    have e := fun j => World.cell?_of_block (a := ⟨b, j, none⟩) (hx.block b hbl)
                    have e' := fun j => World.cell?_of_block (a := ⟨b', j, none⟩) (hx.block b' hbl')
                    exact ⟨⟨(e _).trans a0, (e _).trans a1, (e _).trans a2, (e _).trans a3, (e _).trans a4⟩, (e' _).trans a0', (e' _).trans a1', (e' _).trans a2', (e' _).trans a3', (e' _).trans a4'⟩
                  simp only [decide_true, and_self, Bool.true_and] at hn3
                  generalize hii : i.same i' = B at hn3 HCA
                  have HN3 : Hid ((B && (f.drop (k + 1)).same (g.drop (k + 1))) = T) := hn3
                  clear hn3 hii
                  go_wp2_with fail
                  go_region_held3 (fun w' => (w'.cell? ⟨b, o + k * 5, none⟩ = some (.int .u64 (t : Int)) ∧ w'.cell? ⟨b, o + k * 5 + 1, none⟩ = some (.int .i64 y) ∧ w'.cell? ⟨b, o + k * 5 + 2, none⟩ = some (.int .u64 (n : Int)) ∧ w'.cell? ⟨b, o + k * 5 + 3, none⟩ = some (.string s) ∧ w'.cell? ⟨b, o + k * 5 + 4, none⟩ = some (.slice Ai i.len ci)) ∧
                      (w'.cell? ⟨b', o' + k * 5, none⟩ = some (.int .u64 (t : Int)) ∧ w'.cell? ⟨b', o' + k * 5 + 1, none⟩ = some (.int .i64 y) ∧ w'.cell? ⟨b', o' + k * 5 + 2, none⟩ = some (.int .u64 (n : Int)) ∧ w'.cell? ⟨b', o' + k * 5 + 3, none⟩ = some (.string s) ∧ w'.cell? ⟨b', o' + k * 5 + 4, none⟩ = some (.slice Ai' i'.len ci'))) (go_keep)
                    ((go_at_call 13; refine (HCA.out _ (bd b0)).mono ?_; rintro e' W1 ⟨rfl, hb1⟩; have hbW1 : Below wr.heap.size wr W1 := bb (bd b0) hb1; have q0 := HCS.out W1 hbW1; obtain ⟨⟨q0, q1, q2, q3, q4⟩, q5, q6, q7, q8, q9⟩ := q0))
                  cases B with
                  | false =>
                    obtain rfl : false = T := HN3.out
                    go_wp2_with fail
                    go_ret
                    exact ⟨rfl, HBEL.out.trans (hbW1.mono HBEL.out.size)⟩
                  | true =>
                    go_wp2_with fail
                    go_roundw
                    case rel => exact ⟨k + 1, by omega, by go_num, HN3, HBEL.out.trans (hbW1.mono HBEL.out.size)⟩
                    case measure => simp [intOf]; omega
                · have e4 := str_ne e3
                  have e5 : (s.toList != s'.toList) = true := by rw [bne, e4]; rfl
                  have HF : Hid (false = T) := by
                    have h1 := hn3
                    simp [e3] at h1
                    exact h1.symm
                  clear hn3 HCA
                  obtain rfl : false = T := HF.out
                  clear HF
                  go_wp2_with fail
                  go_quiet (fail)
                  go_wp2_with fail
                  go_ret
                  exact ⟨rfl, HBEL.out.trans ((bn b0 _ : Below wr.heap.size wr _).mono HBEL.out.size)⟩
              · have e4 : ((n : Int) != (n' : Int)) = true := by rw [bne_iff_ne]; omega
                have HF : Hid (false = T) := by
                  have h1 := hn3
                  simp [e2] at h1
                  exact h1.symm
                clear hn3 HCA
                obtain rfl : false = T := HF.out
                clear HF
                go_wp2_with fail
                go_quiet (fail)
                go_wp2_with fail
                go_ret
                exact ⟨rfl, HBEL.out.trans ((bn b0 _ : Below wr.heap.size wr _).mono HBEL.out.size)⟩
            · have e4 : (y != y') = true := by rw [bne_iff_ne]; exact e1
              have HF : Hid (false = T) := by
                have h1 := hn3
                simp [e1] at h1
                exact h1.symm
              clear hn3 HCA
              obtain rfl : false = T := HF.out
              clear HF
              go_wp2_with fail
              go_quiet (fail)
              go_wp2_with fail
              go_ret
              exact ⟨rfl, HBEL.out.trans ((bn b0 _ : Below wr.heap.size wr _).mono HBEL.out.size)⟩
          · have e4 : ((t : Int) != (t' : Int)) = true := by rw [bne_iff_ne]; omega
            have HF : Hid (false = T) := by
              have h1 := hn3
              simp [e0] at h1
              exact h1.symm
            clear hn3 HCA
            obtain rfl : false = T := HF.out
            clear HF
            go_wp2_with fail
            go_quiet (fail)
            go_wp2_with fail
            go_ret
            exact ⟨rfl, HBEL.out.trans ((bn b0 _ : Below wr.heap.size wr _).mono HBEL.out.size)⟩
        · obtain rfl : k = f.len := by omega
          have h1 : f.drop f.len = .nil := Fs.len_zero (by rw [Fs.drop_len]; omega)
          have h2 : g.drop f.len = .nil := Fs.len_zero (by rw [Fs.drop_len]; have := HLEN.out; omega)
          rw [h1, h2] at hnt
          obtain rfl : true = T := hnt.out
          have HB := Lib.hid hbel
          clear hnt hbel h1 h2
          go_wp2_with fail
          go_ret
          exact ⟨rfl, HB.out⟩
    · obtain rfl : false = T := by rw [← hT, same_len hlen]
      have hli : ((f.len : Int) != (g.len : Int)) = true := by simp; omega
      clear hlen hT
      go_enter Tryd.func13, Tryd.ntmps13
      go_wp2_with fail
      go_ret
      exact ⟨rfl, b0⟩
end Go.Proofs.YtigbifiicbghpaaDoor
end

section
/-
  Contracts of layer 2 (varint) and of the document's answer: what each function answers. Conditions: numbers within uint64, texts within int.
-/
namespace Go.Proofs.YtigbifiicbghpaaDoor
open Go.RowKit Go.PM
set_option maxRecDepth 100000

theorem info_u8 : (Tryd.prog.info? 5).map (fun i => (i.zero, i.size, i.bytes)) = some (some (.int .u8 0), 1, 1) := by kernel_rfl

theorem size_any (n : Nat) (w : World) (hn : In64 n) :
    Calls Tryd.prog 50 #[.int .u64 (n : Int)] w fun e w' => e = .returned (.int .i64 (vsz n : Int)) ∧ w = w' := by
  go_enter Tryd.func50, Tryd.ntmps50
  have h10 := vsz_le10 hn.out
  have HN := Lib.hid hn
  clear hn
  go_wp2
  go_loop [0, 3] (fun v c => ∃ m k : Nat, v = .int .u64 (m : Int) ∧ c = .int .i64 (k : Int) ∧ k + vsz m = vsz n + 1 ∧ In64 m) (fun v _ => (intOf v).toNat)
  case atStart => exact ⟨n, 1, rfl, rfl, by omega, HN.out⟩
  case round =>
    obtain ⟨m, k, rfl, rfl, hk, hm⟩ := hrel
    have HK := Lib.hid hk
    have HM := Lib.hid hm
    clear hm
    have hp := vsz_pos m
    have hk11 : k ≤ 10 := by omega
    clear hk hp
    by_cases h : m < 128
    · go_wp2
      go_ret
      have e := vsz_small h
      have := HK.out
      exact ⟨congrArg (fun x : Int => Ending.returned (.int .i64 x)) (by omega), rfl⟩
    · go_wp2
      go_round
      case rel =>
        have hb := vsz_big (n := m) (by omega)
        have := HK.out
        exact ⟨m / 128, k + 1, by go_num, by go_num, by omega, Nat.lt_of_le_of_lt (Nat.div_le_self _ _) HM.out⟩
      case measure => simp [intOf]; omega

/-- What Put has laid down after i rounds. -/
def Lay (n L i m : Nat) (C : Array Value) : Prop := m = n / 128 ^ i ∧ C.toList = bvals (vraw i n) ++ List.replicate (L - i) (.int .u8 0)
theorem Lay.start (n L : Nat) : Lay n L 0 n (madeCells #[.int .u8 0] L) := ⟨by simp, by rw [toList_madeCells_one]; simp [vraw, bvals]⟩
theorem Lay.at_ {n L i m : Nat} {C : Array Value} (h : Lay n L i m C) (hi : i < L) : C[i]? = some (.int .u8 0) := by
  have : C[i]? = C.toList[i]? := by simp
  rw [this, h.2, List.getElem?_append_right (by rw [bvals_length, vraw_length]; omega), bvals_length, vraw_length, Nat.sub_self, List.getElem?_replicate]
  simp; omega
theorem Lay.step {n L i m : Nat} {C : Array Value} (h : Lay n L i m C) (hi : i < L) : Lay n L (i + 1) (m / 128) (C.setIfInBounds i (.int .u8 ((m : Int) % 128 + 128))) := by
  obtain ⟨rfl, hC⟩ := h
  refine ⟨by rw [Nat.div_div_eq_div_mul, Nat.pow_succ], ?_⟩
  rw [Array.toList_setIfInBounds, hC, vraw_snoc]
  have e : L - i = (L - (i + 1)) + 1 := by omega
  rw [e, List.replicate_succ, List.set_append_right _ _ (by rw [bvals_length, vraw_length]; omega), bvals_length, vraw_length, Nat.sub_self]
  simp only [List.set_cons_zero, bvals, List.map_append, List.map_cons, List.map_nil, List.append_assoc, List.cons_append, List.nil_append]
  congr 3
  rw [toNat_lo (by omega)]
  omega
theorem Lay.done {n i m : Nat} {C : Array Value} (h : Lay n (vsz n) i m C) (hi : i = vsz n) :
    C[vsz n - 1]? = some (.int .u8 ((n / 128 ^ (vsz n - 1) : Nat) + 128 : Int)) ∧ (C.setIfInBounds (vsz n - 1) (.int .u8 (n / 128 ^ (vsz n - 1) : Nat))).toList = bvals (vput n) := by
  subst hi
  obtain ⟨_, hC⟩ := h
  have hp := vsz_pos n
  have ht := vtop_lt n
  rw [Nat.sub_self, List.replicate_zero, List.append_nil] at hC
  have e : vsz n = (vsz n - 1) + 1 := by omega
  rw [e, vraw_snoc] at hC
  rw [Nat.mod_eq_of_lt ht] at hC
  constructor
  · have : C[vsz n - 1]? = C.toList[vsz n - 1]? := by simp
    rw [this, hC, bvals_at _ _ (by simp [vraw_length])]
    rw [List.getElem_append_right (by rw [vraw_length]; omega)]
    simp only [vraw_length, Nat.sub_self, List.getElem_cons_zero]
    rw [toNat_lo (by omega)]
    rfl
  · rw [Array.toList_setIfInBounds, hC, vput_raw]
    unfold bvals
    rw [List.map_append, List.map_append, List.set_append_right _ _ (by simp [vraw_length])]
    simp only [List.length_map, vraw_length, Nat.sub_self, List.map_cons, List.map_nil, List.set_cons_zero]
    rw [toNat_lo (by omega)]

theorem and127 (m : Nat) (h : In64 m) : bits .and .u64 (m : Int) 127 = (m : Int) % 128 := by
  have := bits_and_u64_nat m 127 h.out (by omega)
  rw [show (127 : Nat) = 2 ^ 7 - 1 from rfl, Nat.and_two_pow_sub_one_eq_mod] at this
  simpa using this
theorem or128 (m : Nat) : bits .or .u8 ((m : Int) % 128) 128 = (m : Int) % 128 + 128 := by
  have := u8_or_nat (m % 128) 128 (by omega) (by omega)
  have e : m % 128 ||| 128 = m % 128 + 128 := by
    have := Nat.two_pow_add_eq_or_of_lt (i := 7) (b := m % 128) (by omega) 1
    rw [Nat.or_comm]
    have e7 : (2 : Nat) ^ 7 * 1 = 128 := rfl
    rw [e7] at this
    omega
  rw [e] at this
  simpa using this
theorem and127b (m : Nat) (h : m < 128) : bits .and .u8 ((m : Int) + 128) 127 = (m : Int) := by
  have := u8_and_nat (m + 128) 127 (by omega) (by omega)
  rw [show (127 : Nat) = 2 ^ 7 - 1 from rfl, Nat.and_two_pow_sub_one_eq_mod, show (m + 128) % 2 ^ 7 = m by omega] at this
  simpa using this

theorem put_any (n : Nat) (w : World) (hn : In64 n) :
    Calls Tryd.prog 41 #[.int .u64 (n : Int)] w fun e w' => e = .returned (.string ⟨(vput n).toArray⟩) ∧ Below w.heap.size w w' := by
  have h10 := vsz_le10 hn
  have hp := vsz_pos n
  have hmk := run_make_row' (P := Tryd.prog) 98 5 (.int .u8 0) 1 Tryd.underlying98 info_u8 rfl .i64 .i64 (vsz n) (by omega) (by omega)
  go_enter Tryd.func41, Tryd.ntmps41
  go_wp2_with (go_at_call 50; refine (size_any n _ hn).mono ?_; rintro e w' ⟨rfl, rfl⟩)
  clear hmk
  have HN := Lib.hid hn
  clear hn
  go_loopw [0, 10] (fun nn k wr => ∃ (i m : Nat) (C : Array Value), i ≤ vsz n ∧ k = .int .i64 (i : Int) ∧ nn = .int .u64 (m : Int) ∧ wr = w.alloc (.cells C 5) ∧ Lay n (vsz n) i m C ∧ In64 m) (fun _ k _ => vsz n - (intOf k).toNat)
  case atStart => exact ⟨0, n, _, Nat.zero_le _, rfl, rfl, rfl, Lay.start _ _, HN.out⟩
  case round =>
    obtain ⟨i, m, C, hi, rfl, rfl, rfl, hl, hm⟩ := hrel
    have HL := Lib.hid hl
    have HM := Lib.hid hm
    have e1 := and127 m hm
    have e2 := or128 m
    clear hm hl
    by_cases hlt : i < vsz n
    · have hc := HL.out.at_ hlt
      go_wp2
      go_roundw
      case rel => exact ⟨i + 1, m / 128, _, by omega, by go_num, by go_num, rfl, HL.out.step hlt, Nat.lt_of_le_of_lt (Nat.div_le_self _ _) HM.out⟩
      case measure => simp [intOf]; omega
    · have hi' : i = vsz n := by omega
      obtain ⟨d1, d2⟩ := HL.out.done hi'
      have ht := vtop_lt n
      generalize hq : n / 128 ^ (vsz n - 1) = q at d1 d2 ht
      have e3 := and127b q ht
      have D2 := Lib.hid d2
      have hcv := run_row_string (P := Tryd.prog) (w.alloc (.cells (C.setIfInBounds (vsz n - 1) (.int .u8 (q : Int))) 5)) 98 9 5 w.heap.size (vsz n) (vsz n) _ (vput n) Tryd.underlying98 Tryd.underlying5 Tryd.underlying9 (BlkAt.made _ _ _) (vput_length n).symm (by rw [D2.out, ← bvals_length, List.take_length])
      clear hi' d2 hq
      go_wp2
      go_ret
      exact ⟨rfl, ba b0 _⟩

/-- What Get knows after i rounds. -/
def Gt (l : List UInt8) (i acc : Nat) : Prop := In64 acc ∧ (i < 10 → acc < 128 ^ i ∧ vget l = vgetL i acc (l.drop i)) ∧ (i = 10 → vget l = (0, 0, 3))
theorem mask127 (c : UInt8) : bits .and .u8 (c.toNat : Int) 127 = (c.toNat : Int) % 128 := by
  have := u8_and_nat c.toNat 127 c.toNat_lt (by omega)
  rw [show (127 : Nat) = 2 ^ 7 - 1 from rfl, Nat.and_two_pow_sub_one_eq_mod] at this
  simpa using this
theorem drop_at (s : ByteArray) (i : Nat) (hi : i < s.size) : s.data.toList.drop i = s[i] :: s.data.toList.drop (i + 1) := by
  rw [List.drop_eq_getElem_cons (by simpa using hi)]
  rfl
theorem drop_end (s : ByteArray) (i : Nat) (hi : s.size ≤ i) : s.data.toList.drop i = [] := by
  apply List.drop_eq_nil_of_le
  simpa using hi

theorem pow128 (i : Nat) : 128 ^ i = 2 ^ (7 * i) := by rw [Nat.pow_mul]
theorem or_any (acc c i : Nat) (ha : In64 acc) : ∃ X : Nat, bits .or .u64 (acc : Int) (IntKind.u64.wrap ((c : Int) % 128 * 2 ^ (7 * i))) = (X : Int) ∧ In64 X ∧ (acc < 128 ^ i → i < 10 → (i = 9 → c % 128 ≤ 1) → X = acc + c % 128 * 128 ^ i) := by
  have e1 : ((c : Int) % 128 * 2 ^ (7 * i)) = ((c % 128 * 128 ^ i : Nat) : Int) := by rw [pow128]; push_cast; rfl
  have e2 : ∀ y : Nat, IntKind.u64.wrap (y : Int) = ((y % 18446744073709551616 : Nat) : Int) := fun y => by rw [IntKind.wrap_u64]; omega
  have hlt : c % 128 * 128 ^ i % 18446744073709551616 < 18446744073709551616 := Nat.mod_lt _ (by omega)
  refine ⟨acc ||| (c % 128 * 128 ^ i % 18446744073709551616), ?_, ?_, ?_⟩
  · rw [e1, e2]; exact bits_or_u64_nat _ _ ha.out hlt
  · exact Nat.or_lt_two_pow (n := 64) ha.out hlt
  · intro h1 h2 h9
    have hb : c % 128 * 128 ^ i < 18446744073709551616 := by
      by_cases e : i = 9
      · subst e
        have := h9 rfl
        have : c % 128 * 128 ^ 9 ≤ 1 * 128 ^ 9 := Nat.mul_le_mul_right _ this
        exact Nat.lt_of_le_of_lt this (by decide)
      · have h3 : 128 ^ i ≤ 128 ^ 8 := pow_lt (by omega)
        have : c % 128 * 128 ^ i ≤ 127 * 128 ^ 8 := Nat.mul_le_mul (by omega) h3
        exact Nat.lt_of_le_of_lt this (by decide)
    rw [Nat.mod_eq_of_lt hb, Nat.or_comm]
    rw [pow128] at h1 ⊢
    have := Nat.two_pow_add_eq_or_of_lt h1 (c % 128)
    rw [Nat.mul_comm (c % 128), ← this]
    omega
theorem Gt.next {l r : List UInt8} {i acc X : Nat} {c : UInt8} (h : Gt l i acc) (hi : i < 10) (hd : l.drop i = c :: r) (hr : l.drop (i + 1) = r) (hc : 128 ≤ c.toNat) (hX : In64 X)
    (hv : acc < 128 ^ i → i < 10 → (i = 9 → c.toNat % 128 ≤ 1) → X = acc + c.toNat % 128 * 128 ^ i) : Gt l (i + 1) X := by
  obtain ⟨h1, h2⟩ := h.2.1 hi
  rw [hd, vgetL, if_neg (by omega), if_pos hc] at h2
  refine ⟨hX, fun h3 => ?_, fun h3 => ?_⟩
  · have e := hv h1 hi (fun h => by omega)
    rw [hr, e]
    refine ⟨?_, h2⟩
    have : c.toNat % 128 * 128 ^ i ≤ 127 * 128 ^ i := Nat.mul_le_mul_right _ (by omega)
    rw [Nat.pow_succ]; omega
  · rw [h2]
    have : 10 ≤ i + 1 := by omega
    cases r <;> simp [vgetL, this]
theorem Gt.stop {l r : List UInt8} {i acc : Nat} {c : UInt8} (h : Gt l i acc) (hi : i < 10) (hd : l.drop i = c :: r) (hc : ¬ 128 ≤ c.toNat) :
    vget l = if i = 9 ∧ 1 < c.toNat then (0, 0, 3) else if 0 < i ∧ c.toNat = 0 then (0, 0, 2) else (acc + c.toNat * 128 ^ i, i + 1, 0) := by
  obtain ⟨h1, h2⟩ := h.2.1 hi
  rw [hd, vgetL, if_neg (by omega), if_neg hc] at h2
  exact h2

theorem get_any (s : ByteArray) (w : World) (hs : s.size ≤ 9223372036854775807) :
    Calls Tryd.prog 68 #[.string s] w fun e w' => e = .returned (.tuple #[.int .u64 ((vget s.data.toList).1 : Int), .int .i64 ((vget s.data.toList).2.1 : Int), .int .i64 ((vget s.data.toList).2.2 : Int)]) ∧ Below w.heap.size w w' := by
  generalize hV : vget s.data.toList = V
  have HV := Lib.hid hV
  clear hV
  go_enter Tryd.func68, Tryd.ntmps68
  go_wp2
  all_goals
    go_loop [5, 10] (fun nn k => ∃ i acc : Nat, i ≤ 10 ∧ i ≤ s.size ∧ k = .int .i64 (i : Int) ∧ nn = .int .u64 (acc : Int) ∧ Gt s.data.toList i acc) (fun _ k => 10 - (intOf k).toNat)
    case atStart => exact ⟨0, 0, by omega, by omega, rfl, rfl, by unfold In64; omega, fun _ => ⟨by decide, rfl⟩, fun h => by omega⟩
    case round =>
      obtain ⟨i, acc, hi, his, rfl, rfl, hg⟩ := hrel
      have HG := Lib.hid hg
      clear hg
      by_cases hlt : i < s.size ∧ i < 10
      · obtain ⟨hl1, hl2⟩ := hlt
        have em := mask127 s[i]
        obtain ⟨X, hX, hX64, hXv⟩ := or_any acc s[i].toNat i HG.out.1
        have HX := Lib.hid (And.intro hX64 hXv)
        have hd := drop_at s i hl1
        have HD := Lib.hid hd
        clear hX64 hXv hd
        by_cases h1 : 128 ≤ s[i].toNat
        · have hn := HG.out.next hl2 HD.out rfl h1 HX.out.1 HX.out.2
          have HNx := Lib.hid hn
          clear hn
          go_wp2
          go_round
          case rel => exact ⟨i + 1, X, by omega, by omega, by go_num, rfl, HNx.out⟩
          case measure => simp [intOf]; omega
        · have hst := HG.out.stop hl2 HD.out h1
          rw [HV.out] at hst
          by_cases h2 : i = 9 ∧ 1 < s[i].toNat
          · rw [if_pos h2] at hst
            obtain ⟨h2a, h2b⟩ := h2
            have HS := Lib.hid hst
            clear hst
            have t9 : ((i : Int) == 9) = true := by rw [beq_iff_eq]; omega
            have h2c : (1 : Int) < (s[i].toNat : Int) := by omega
            clear h2a
            go_wp2
            go_ret3
            rw [HS.out]
            exact ⟨rfl, Below.refl _ _⟩
          · rw [if_neg h2] at hst
            by_cases h3 : 0 < i ∧ s[i].toNat = 0
            · rw [if_pos h3] at hst
              obtain ⟨h3a, h3b⟩ := h3
              have HS := Lib.hid hst
              have t0 : ((s[i].toNat : Int) == 0) = true := by rw [beq_iff_eq]; omega
              have t1 : ¬ (1 : Int) < (s[i].toNat : Int) := by omega
              have p0 : (0 : Int) < (i : Int) := by omega
              have H3 := Lib.hid h3b
              clear hst h3b h2
              by_cases h9 : i = 9
              · have t9 : ((i : Int) == 9) = true := by rw [beq_iff_eq]; omega
                clear h9
                go_wp2
                go_ret3
                rw [HS.out]
                exact ⟨rfl, Below.refl _ _⟩
              · have t9 : ((i : Int) == 9) = false := by rw [beq_eq_false_iff_ne]; omega
                go_wp2
                go_ret3
                rw [HS.out]
                exact ⟨rfl, Below.refl _ _⟩
            · rw [if_neg h3] at hst
              have hX2 : X = acc + s[i].toNat * 128 ^ i := by
                have := HX.out.2 (HG.out.2.1 hl2).1 hl2 (fun h => by omega)
                rw [this, Nat.mod_eq_of_lt (by omega)]
              rw [← hX2] at hst
              have HS := Lib.hid hst
              have H2 := Lib.hid h2
              have H3 := Lib.hid h3
              clear hst hX2 h2 h3
              by_cases h9 : i = 9
              · have t9 : ((i : Int) == 9) = true := by rw [beq_iff_eq]; omega
                have t1 : ¬ (1 : Int) < (s[i].toNat : Int) := by have := H2.out; omega
                have t0 : ((s[i].toNat : Int) == 0) = false := by rw [beq_eq_false_iff_ne]; have := H3.out; omega
                have p0 : (0 : Int) < (i : Int) := by omega
                clear h9
                go_wp2
                go_ret3
                rw [HS.out]
                exact ⟨rfl, Below.refl _ _⟩
              · have t9 : ((i : Int) == 9) = false := by rw [beq_eq_false_iff_ne]; omega
                by_cases p0 : 0 < i
                · have t0 : ((s[i].toNat : Int) == 0) = false := by rw [beq_eq_false_iff_ne]; have := H3.out; omega
                  go_wp2
                  go_ret3
                  rw [HS.out]
                  exact ⟨rfl, Below.refl _ _⟩
                · go_wp2
                  go_ret3
                  rw [HS.out]
                  exact ⟨rfl, Below.refl _ _⟩
      · by_cases h10 : i = 10
        · have hst := HG.out.2.2 h10
          rw [HV.out] at hst
          have HS := Lib.hid hst
          clear hst
          subst h10
          go_wp2
          go_ret3
          rw [HS.out]
          exact ⟨rfl, Below.refl _ _⟩
        · have hst := (HG.out.2.1 (by omega)).2
          rw [HV.out, drop_end s i (by omega), vgetL, if_neg (by omega)] at hst
          have HS := Lib.hid hst
          clear hst
          first
            | (exfalso; omega)
            | (go_wp2
               go_ret3
               rw [HS.out]
               exact ⟨rfl, Below.refl _ _⟩)
end Go.Proofs.YtigbifiicbghpaaDoor
end

section
/-
  Contracts of layer 1 (cursor): what each method answers, and what becomes of the cursor. Conditions: the cursor's block is known, its place lies within its text.
-/
namespace Go.Proofs.YtigbifiicbghpaaDoor
open Go.RowKit Go.PM

/-- A cursor's block: its text, its place. -/
def Cur (w : World) (b : Nat) (s : ByteArray) (k : Nat) : Prop := BlkAt w b 88 #[.string s, .int .i64 (k : Int)] ∧ k ≤ s.size ∧ s.size ≤ 9223372036854775807

theorem cur_over (s : ByteArray) (w : World) :
    Calls Tryd.prog 23 #[.string s] w fun e w' => e = .returned (.pointer (some ⟨w.heap.size, 0, none⟩)) ∧ w' = w.alloc (.cells #[.string s, .int .i64 0] 88) := by
  go_enter Tryd.func23, Tryd.ntmps23
  go_wp2
  go_ret
  exact ⟨rfl, rfl⟩

theorem cur_left (b : Nat) (s : ByteArray) (k : Nat) (w : World) (h : Cur w b s k) :
    Calls Tryd.prog 69 #[.pointer (some ⟨b, 0, none⟩)] w fun e w' => e = .returned (.int .i64 ((s.size : Int) - (k : Int))) ∧ Below w.heap.size w w' := by
  obtain ⟨hb, hk, hs⟩ := h
  have c0 : w.cell? ⟨b, 0, none⟩ = some (.string s) := hb.cell 0
  have c1 : w.cell? ⟨b, 1, none⟩ = some (.int .i64 (k : Int)) := hb.cell 1
  clear hb
  go_enter Tryd.func69, Tryd.ntmps69
  go_wp2
  go_quiet (fail)
  go_wp2
  go_ret
  exact ⟨rfl, below_drewN (Below.refl _ _) _⟩


theorem cur_rest (b : Nat) (s : ByteArray) (k : Nat) (w : World) (h : Cur w b s k) :
    Calls Tryd.prog 27 #[.pointer (some ⟨b, 0, none⟩)] w fun e w' => e = .returned (.string (s.extract k s.size)) ∧ Below w.heap.size w w' := by
  obtain ⟨hb, hk, hs⟩ := h
  have c0 : w.cell? ⟨b, 0, none⟩ = some (.string s) := hb.cell 0
  have c1 : w.cell? ⟨b, 1, none⟩ = some (.int .i64 (k : Int)) := hb.cell 1
  clear hb
  go_enter Tryd.func27, Tryd.ntmps27
  go_wp2
  go_quiet (fail)
  go_wp2
  go_ret
  exact ⟨rfl, below_drewN (Below.refl _ _) _⟩

theorem cur_take_no (b : Nat) (s : ByteArray) (k : Nat) (n : Int) (w : World) (h : Cur w b s k) (h0 : (s.size : Int) - k < n) (h1 : n < 18446744073709551616) :
    Calls Tryd.prog 52 #[.pointer (some ⟨b, 0, none⟩), .int .u64 n] w fun e w' => e = .returned (.tuple #[.string ByteArray.empty, .bool false]) ∧ Below w.heap.size w w' := by
  have H := Lib.hid h
  obtain ⟨hb, hk, hs⟩ := h
  clear hb
  go_enter Tryd.func52, Tryd.ntmps52
  go_wp2_with (go_at_call 69; refine (cur_left b s k _ H.out).mono ?_; rintro e w1 ⟨rfl, hb1⟩)
  go_ret2
  exact ⟨rfl, hb1⟩

theorem cur_take_yes (b : Nat) (s : ByteArray) (k : Nat) (n : Int) (w : World) (h : Cur w b s k) (h0 : 0 ≤ n) (h1 : n ≤ (s.size : Int) - k) :
    Calls Tryd.prog 52 #[.pointer (some ⟨b, 0, none⟩), .int .u64 n] w fun e w' =>
      e = .returned (.tuple #[.string (s.extract k (k + n.toNat)), .bool true]) ∧ Cur w' b s (k + n.toNat) ∧ w.grownBy w' (some b) := by
  have H := Lib.hid h
  obtain ⟨hb, hk, hs⟩ := h
  have HB := Lib.hid hb
  obtain ⟨m, rfl⟩ := Int.eq_ofNat_of_zero_le h0
  rw [Int.toNat_natCast]
  clear hb
  go_enter Tryd.func52, Tryd.ntmps52
  go_wp2_with (go_at_call 69; refine (cur_left b s k _ H.out).mono ?_; rintro e w1 ⟨rfl, hb1⟩; have c0 : w1.cell? ⟨b, 0, none⟩ = some (.string s) := (HB.out.below hb1 HB.out.lt).cell 0; have c1 : w1.cell? ⟨b, 1, none⟩ = some (.int .i64 (k : Int)) := (HB.out.below hb1 HB.out.lt).cell 1; have f1 : w1.frozen? ⟨b, 1, none⟩ = false := (HB.out.below hb1 HB.out.lt).free 1)
  go_quiet (fail)
  go_wp2
  go_ret2
  refine ⟨rfl, ⟨?_, by omega, hs⟩, grown_put (grown_drn (grown_of_below hb1 _) _) _ _⟩
  have := ((HB.out.below hb1 HB.out.lt).drn nq).put 1 (.int .i64 ((k : Int) + (m : Int)))
  simpa using this

theorem cur_byte_no (b : Nat) (s : ByteArray) (k : Nat) (w : World) (h : Cur w b s k) (h0 : s.size = k) :
    Calls Tryd.prog 115 #[.pointer (some ⟨b, 0, none⟩)] w fun e w' => e = .returned (.tuple #[.int .u8 0, .bool false]) ∧ Below w.heap.size w w' := by
  have H := Lib.hid h
  have H0 := Lib.hid h0
  clear h h0
  go_enter Tryd.func115, Tryd.ntmps115
  go_wp2_with (go_at_call 52; refine (cur_take_no b s k 1 _ H.out (by have := H0.out; omega) (by omega)).mono ?_; rintro e w1 ⟨rfl, hb1⟩)
  go_ret2
  exact ⟨rfl, hb1⟩

theorem cur_byte_yes (b : Nat) (s : ByteArray) (k : Nat) (w : World) (h : Cur w b s k) (h0 : k < s.size) :
    Calls Tryd.prog 115 #[.pointer (some ⟨b, 0, none⟩)] w fun e w' =>
      e = .returned (.tuple #[.int .u8 (s[k].toNat : Int), .bool true]) ∧ Cur w' b s (k + 1) ∧ w.grownBy w' (some b) := by
  have H := Lib.hid h
  clear h
  go_enter Tryd.func115, Tryd.ntmps115
  go_wp2_with (go_at_call 52; refine (cur_take_yes b s k 1 _ H.out (by omega) (by omega)).mono ?_; rintro e w1 ⟨rfl, hc1, hg1⟩)
  go_ret2
  refine ⟨?_, hc1, hg1⟩
  have e : (s.extract k (k + 1))[0]'(by simp; omega) = s[k] := by simp [ByteArray.getElem_extract]
  rw [← e]
  rfl



/-! ### A nil cursor -/
theorem nil_left (w : World) : Calls Tryd.prog 69 #[.pointer none] w fun e w' => e = .returned (.int .i64 0) ∧ w = w' := by
  go_enter Tryd.func69, Tryd.ntmps69
  go_wp2
  go_ret
  exact ⟨rfl, rfl⟩
theorem nil_rest (w : World) : Calls Tryd.prog 27 #[.pointer none] w fun e w' => e = .returned (.string ByteArray.empty) ∧ w = w' := by
  go_enter Tryd.func27, Tryd.ntmps27
  go_wp2
  go_ret
  exact ⟨rfl, rfl⟩
theorem nil_take (n : Int) (w : World) : Calls Tryd.prog 52 #[.pointer none, .int .u64 n] w fun e w' => e = .returned (.tuple #[.string ByteArray.empty, .bool false]) ∧ Below w.heap.size w w' := by
  go_enter Tryd.func52, Tryd.ntmps52
  go_wp2_with fail
  go_ret2
  exact ⟨rfl, Below.refl _ _⟩
theorem nil_byte (w : World) : Calls Tryd.prog 115 #[.pointer none] w fun e w' => e = .returned (.tuple #[.int .u8 0, .bool false]) ∧ Below w.heap.size w w' := by
  go_enter Tryd.func115, Tryd.ntmps115
  go_wp2_with (go_at_call 52; refine (nil_take 1 _).mono ?_; rintro e w1 ⟨rfl, hb1⟩)
  go_ret2
  exact ⟨rfl, hb1⟩
end Go.Proofs.YtigbifiicbghpaaDoor
end

section
/-
  Contracts of layer 2, more: a cursor's next number, all numbers of a text, and the document's answers. Conditions: numbers within uint64, texts of at most a million bytes where lists are made.
-/
namespace Go.Proofs.YtigbifiicbghpaaDoor
open Go.RowKit Go.PM
set_option maxRecDepth 100000

theorem next_nil (w : World) : Calls Tryd.prog 51 #[.pointer none] w fun e w' => e = .returned (.tuple #[.int .u64 0, .int .i64 25]) ∧ Below w.heap.size w w' := by
  go_enter Tryd.func51, Tryd.ntmps51
  go_wp2
  go_ret2
  exact ⟨rfl, b0⟩

theorem next_any (b : Nat) (s : ByteArray) (k : Nat) (w : World) (h : Cur w b s k) :
    Calls Tryd.prog 51 #[.pointer (some ⟨b, 0, none⟩)] w fun e w' =>
      e = .returned (.tuple #[.int .u64 ((vget (s.data.toList.drop k)).1 : Int), .int .i64 ((vget (s.data.toList.drop k)).2.2 : Int)]) ∧ Cur w' b s (k + (vget (s.data.toList.drop k)).2.1) ∧ w.grownBy w' (some b) := by
  have H := Lib.hid h
  have hk := h.2.1
  have hs := h.2.2
  generalize hV : vget (s.data.toList.drop k) = V
  obtain ⟨n, m, g⟩ := V
  simp only
  have HV := Lib.hid hV
  clear h hV
  go_enter Tryd.func51, Tryd.ntmps51
  go_wp2_with (go_at_call 27; refine (cur_rest b s k _ H.out).mono ?_; rintro e w1 ⟨rfl, hb1⟩)
  refine (get_any _ _ (by simp; omega)).mono ?_
  rintro e w2 ⟨rfl, hb2⟩
  rw [ext_rest, HV.out]
  have hc : Cur w2 b s k := ⟨(H.out.1.below hb1 H.out.1.lt).below hb2 (by have := hb1.size; have := H.out.1.lt; omega), hk, hs⟩
  have HC := Lib.hid hc
  clear hc
  by_cases hv : g = 0
  · subst hv
    have hk2 := vget_ok (s := s.data.toList.drop k) (by rw [HV.out])
    rw [HV.out] at hk2
    obtain ⟨k1, k2, k3, k4, k5⟩ := hk2
    simp only at k1 k2 k3
    rw [List.length_drop, len_list] at k2
    clear k4 k5
    go_wp2_with (go_at_call 52; refine (cur_take_yes b s k (m : Int) _ HC.out (by omega) (by omega)).mono ?_; rintro e w3 ⟨rfl, hc3, hg3⟩)
    go_ret2
    exact ⟨rfl, by simpa using hc3, grown_trans (grown_of_below (bb hb1 hb2) _) hg3 (fun x e _ => e)⟩
  · have hve := vget_err (s := s.data.toList.drop k) (by rw [HV.out]; exact hv)
    rw [HV.out] at hve
    obtain ⟨rfl, rfl⟩ : n = 0 ∧ m = 0 := by simpa using hve
    have hv2 : ((g : Int) == 0) = false := by rw [beq_eq_false_iff_ne]; omega
    have hv3 : ((g : Int) != 0) = true := by rw [bne_iff_ne]; omega
    clear hve hv
    go_wp2_with fail
    go_ret2
    exact ⟨rfl, HC.out, grown_of_below (bb hb1 hb2) _⟩

theorem info_u64 : (Tryd.prog.info? 39).map (fun i => (i.zero, i.size, i.bytes)) = some (some (.int .u64 0), 1, 8) := by kernel_rfl

/-- Of a text, what All has gathered, and what is left. -/
def AllOf (S done : List Nat) (c : Nat) (R : List UInt8) : Prop := (if (vall R).2 = 0 then (done ++ (vall R).1, 0) else ([], (vall R).2)) = (S, c)
theorem AllOf.start (l : List UInt8) : AllOf (vall l).1 [] (vall l).2 l := by
  unfold AllOf
  split
  · rename_i h; rw [h]; rfl
  · rename_i h
    have : (vall l).1 = [] := by
      rw [vall] at h ⊢
      split
      · rfl
      · rename_i h1; rw [if_neg h1] at h
        split
        · rename_i h2; rw [dif_pos h2] at h
          simp only at h ⊢
          split
          · rename_i h3; rw [if_pos h3] at h; simp at h
          · rfl
        · rfl
    rw [this]
theorem AllOf.stop {S done : List Nat} {c : Nat} (h : AllOf S done c []) : S = done ∧ c = 0 := by
  unfold AllOf at h
  rw [vall] at h
  simp at h
  exact ⟨h.1.symm, h.2.symm⟩
theorem AllOf.err {S done : List Nat} {c : Nat} {R : List UInt8} (h : AllOf S done c R) (hR : R.length ≠ 0) (hv : (vget R).2.2 ≠ 0) : S = [] ∧ c = (vget R).2.2 := by
  unfold AllOf at h
  rw [vall, if_neg hR, dif_neg hv] at h
  simp [hv] at h
  exact ⟨h.1, h.2.symm⟩
theorem AllOf.next {S done : List Nat} {c : Nat} {R : List UInt8} (h : AllOf S done c R) (hR : R.length ≠ 0) (hv : (vget R).2.2 = 0) : AllOf S (done ++ [(vget R).1]) c (R.drop (vget R).2.1) := by
  unfold AllOf at h ⊢
  rw [vall, if_neg hR, dif_pos hv] at h
  simp only at h
  rw [← h]
  split <;> simp

end Go.Proofs.YtigbifiicbghpaaDoor
end
