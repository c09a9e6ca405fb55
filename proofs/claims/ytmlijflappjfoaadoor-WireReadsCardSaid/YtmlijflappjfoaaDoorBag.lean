/-
  Texts of the proof, joined: FDepth RefFld3 FSame FSame2. Conditions: as each names.
-/
import Derived.Test.YtmlijflappjfoaaDoorBaf

section
/-
  Contracts of layer 8: how many lists stand in one another.
-/
namespace Go.Proofs.YtmlijflappjfoaaDoor
open Go.RowKit Go.PM
set_option maxRecDepth 100000
set_option maxHeartbeats 4000000

/-- A row of lists of fields, of the call's own. -/
def LvAt (base : Nat) (w0 : World) (I : Nat → Prop) (v : Value) (L : List Fs) (wr : World) : Prop :=
  ∃ xs : List Value, wr.ownsRow base 35 1 v L.length xs ∧ WL w0 I xs L
theorem LvAt.form {base : Nat} {w0 wr : World} {I : Nat → Prop} {v : Value} {L : List Fs} (h : LvAt base w0 I v L wr) : ∃ A c, v = .slice A L.length c := by
  obtain ⟨xs, h1, _⟩ := h
  obtain ⟨A, c, rfl, _⟩ := Rd.own h1
  exact ⟨A, c, rfl⟩
theorem LvAt.at_ {base : Nat} {w0 wr : World} {I : Nat → Prop} {A : Option Addr} {n c : Nat} {L : List Fs} (h : LvAt base w0 I (.slice A n c) L wr) {j : Nat} (hj : j < L.length) :
    ∃ g f x, A = some ⟨g, 0, none⟩ ∧ base ≤ g ∧ g < wr.heap.size ∧ L[j]? = some f ∧ wr.cell? ⟨g, j, none⟩ = some x ∧ SlV w0 I x f := by
  obtain ⟨xs, h1, h2⟩ := h
  obtain ⟨g, cap, hv, hb, hlt⟩ := h1.form (by omega)
  injection hv with e1 e2 e3
  subst e1 e2 e3
  have hx : j < xs.length := by rw [h2.1]; exact hj
  refine ⟨g, L[j], xs[j], rfl, hb, hlt, List.getElem?_eq_getElem hj, ?_, h2.2 j _ _ (List.getElem?_eq_getElem hx) (List.getElem?_eq_getElem hj)⟩
  have hc := h1.cellAt j (by omega)
  rw [hc, List.getElem?_eq_getElem hx]
theorem LvAt.below {base : Nat} {w0 wr w' : World} {I : Nat → Prop} {v : Value} {L : List Fs} (h : LvAt base w0 I v L wr) (hb : Below wr.heap.size wr w') : LvAt base w0 I v L w' := by
  obtain ⟨xs, h1, h2⟩ := h
  exact ⟨xs, own_below h1 hb, h2⟩
theorem LvAt.mono {base base' : Nat} {w0 wr : World} {I : Nat → Prop} {v : Value} {L : List Fs} (h : LvAt base w0 I v L wr) (hb : base' ≤ base) : LvAt base' w0 I v L wr := by
  obtain ⟨xs, ⟨h0, h1⟩, h2⟩ := h
  refine ⟨xs, ⟨h0, h1.imp id ?_⟩, h2⟩
  rintro ⟨g, cap, cur, e1, e2, e3⟩
  exact ⟨g, cap, cur, e1, by omega, e3⟩
theorem depth_of (v : Value) (f : Fs) (I : Nat → Prop) (w : World) (hr : SlV w I v f) (h60 : f.count ≤ 1000000) :
    Calls Tryd.prog 31 #[v] w fun e w' => e = .returned (.int .i64 (f.depth : Int)) ∧ Below w.heap.size w w' := by
  have HR := Lib.hid hr
  obtain ⟨A, c, rfl, hr'⟩ := hr
  clear hr'
  have hdl := depth_le f
  generalize hT : f.depth = T at hdl ⊢
  have HT := Lib.hid hT
  have hT6 : T ≤ 1000000 := by omega
  have H60 := Lib.hid h60
  obtain ⟨i0, hi0, hz0, hz1, hz2⟩ := info_parts info_fields
  clear hT hdl h60
  go_enter Tryd.func31, Tryd.ntmps31
  go_wp2_with fail
  go_loopg [3, 4] 1000000 (fun gk dd vv wr => ∃ (d : Nat) (L : List Fs), dd = .int .i64 (d : Int) ∧ Hid (d + ldepth L = T ∧ lsum L ≤ gk ∧ gk ≤ 1000000) ∧ Hid (L.length ≤ 1000000) ∧ LvAt w.heap.size w I vv L wr ∧ Below w.heap.size w wr)
  case atStart =>
    refine ⟨0, [f], rfl, ⟨by simp [ldepth, HT.out], by simp [lsum, H60.out], Nat.le_refl _⟩, (by show (1 : Nat) ≤ _; omega), ⟨[.slice A f.len c], World.ownsRow_lit w #[.slice A f.len c] 1 (Nat.le_refl _) (by decide) rfl, ?_⟩, ba b0 _⟩
    exact WL.push (xs := []) (L := []) WL.nil HR.out
  case round =>
    obtain ⟨d, L, rfl, hn, HLN, hlv, hbel⟩ := hrel
    obtain ⟨A1, c1, rfl⟩ := hlv.form
    have HLV := Lib.hid hlv
    have HBEL := Lib.hid hbel
    have HN := Lib.hid hn.out
    have hL6 : L.length ≤ 1000000 ∧ d ≤ 1000000 := by
      have h1 := hn.out
      have h2 := HLN.out
      omega
    obtain ⟨hL6, hd6⟩ := hL6
    have H00 : Hid (LvAt wr.heap.size w I (.slice none 0 0) [] wr) := ⟨[], World.ownsRow_nil _ _ _ _, WL.nil⟩
    clear hlv hbel hn
    obtain ⟨G, hG⟩ : ∃ G, G = gk := ⟨gk, rfl⟩
    rw [← hG] at HN
    have HG := Lib.hid hG
    clear hG
    refine wp_world fun w1 hw1 => ?_
    rw [← hw1] at HLV HBEL H00
    clear hw1
    generalize hML : L.length = ML at *
    have HML := Lib.hid hML
    clear hML
    go_wp2_with fail
    go_loopg [5, 6, 17] ML (fun gj mm nx jj w2 => ∃ (j : Nat) (b : Bool) (N : List Fs), j + gj = ML ∧ jj = .int .i64 (j : Int) ∧ mm = .bool b ∧ Hid (lmore (L.take j) = b ∧ lins (L.take j) = N) ∧ LvAt w1.heap.size w I nx N w2 ∧ Below w1.heap.size w1 w2)
    case atStart => exact ⟨0, false, [], by omega, rfl, rfl, ⟨rfl, rfl⟩, H00.out, b0⟩
    case round =>
      obtain ⟨j, b, N, hjg, rfl, rfl, hnn, hlv2, hbel2⟩ := hrel
      by_cases hlt : j < ML
      · have hlv1 := HLV.out
        obtain ⟨g, f1, x, hA, hgb, hgl, hLj, hcx, hsx⟩ := hlv1.at_ (j := j) (by rw [HML.out]; exact hlt)
        subst hA
        have hcx2 := (World.cell?_of_block (a := ⟨g, j, none⟩) (hbel2.block g hgl)).trans hcx
        have hbw := HBEL.out.trans (hbel2.mono HBEL.out.size)
        have HSX := Lib.hid hsx
        obtain ⟨Ax, cx, rfl, _⟩ := hsx
        obtain ⟨ls1, ls2, ls3⟩ := level_step hLj
        have hf1 := f1.len_count
        have hN6 : N.length ≤ lsum (L.take j) := by rw [← hnn.out.2]; exact lins_len _
        have hbd := HN.out
        have HF1 : Hid (f1.len ≤ 1000000 ∧ N.length + f1.len ≤ 1000000) := ⟨by omega, by omega⟩
        have hfl6 : f1.len ≤ 1000000 := HF1.out.1
        have HLS : Hid (lmore (L.take (j + 1)) = (lmore (L.take j) || f1.more) ∧ lins (L.take (j + 1)) = lins (L.take j) ++ f1.ins) := ⟨ls1, ls2⟩
        have H2 : Hid (LvAt w1.heap.size w I u6 N wr ∧ Below w1.heap.size w1 wr) := ⟨hlv2, hbel2⟩
        have HNB := hnn
        clear ls1 ls2 ls3 hf1 hN6 hbd hcx hbw hlv1 hlv2 hbel2 hnn hLj
        go_wp2_with fail
        go_loopg [5, 6, 23] f1.len (fun gi mm nx kk w2 => ∃ (k : Nat) (b2 : Bool) (N2 : List Fs), k + gi = f1.len ∧ kk = .int .i64 (k : Int) ∧ mm = .bool b2 ∧ Hid ((lmore (L.take j) || (f1.take k).more) = b2 ∧ lins (L.take j) ++ (f1.take k).ins = N2) ∧ LvAt w1.heap.size w I nx N2 w2 ∧ Below w1.heap.size w1 w2)
        case atStart =>
          refine ⟨0, b, N, by omega, rfl, rfl, ?_, H2.out⟩
          have : f1.take 0 = .nil := by cases f1 <;> rfl
          rw [this]
          exact ⟨by simp [Fs.more, HNB.out.1], by simp [Fs.ins, HNB.out.2]⟩
        case round =>
          obtain ⟨k, b2, N2, hkg, rfl, rfl, hnn, ⟨xs2, hown2, hwl2⟩, hbel2⟩ := hrel
          by_cases hkl : k < f1.len
          · obtain ⟨t, y, n', s, i, hdc, htk⟩ := f1.drop_cons k hkl
            have hsx := HSX.out
            obtain ⟨A0, c0, hv, hc0, hor⟩ := hsx
            injection hv with hv1 hv2 hv3
            subst hv1 hv3
            rcases hor with h0 | ⟨b', o, rfl, hIb, hbl, hat⟩
            · omega
            have hak := hat.drop k
            rw [hdc] at hak
            obtain ⟨_, d1w, _, _, ⟨Ai, ci, d4w, hci, hin⟩, _⟩ := hak
            have hblk := (HBEL.out.trans (hbel2.mono HBEL.out.size)).block b' hbl
            have d4 := (World.cell?_of_block hblk).trans d4w
            have d1 := (World.cell?_of_block hblk).trans d1w
            have hkli : (k : Int) < (f1.len : Int) := by omega
            have hN2 : N2.length ≤ 1000000 := by
              have h1 := hnn.out.2
              have h2 := ins_len (f1.take k)
              have h3 := f1.take_len k (by omega)
              have h4 := HF1.out.2
              rw [← h1, HNB.out.2, List.length_append]
              omega
            clear hdc hat hv2 d4w d1w hblk
            by_cases hi0' : i.len = 0
            · have : i = .nil := Fs.len_zero hi0'
              subst this
              clear hi0'
              cases b2 with
              | true =>
                have HNN : Hid ((lmore (L.take j) || (f1.take (k + 1)).more) = true ∧ lins (L.take j) ++ (f1.take (k + 1)).ins = N2) := by
                  refine ⟨?_, ?_⟩
                  · rw [htk, more_app, ← Bool.or_assoc, hnn.out.1]
                    simp [Fs.more, Fs.len, Bool.true_or]
                  · rw [htk, ins_app, ← List.append_assoc, hnn.out.2]
                    simp [Fs.ins, Fs.len]
                have HLV : Hid (LvAt w1.heap.size w I u6 N2 wr ∧ Below w1.heap.size w1 wr) := ⟨⟨xs2, hown2, hwl2⟩, hbel2⟩
                clear hown2 hwl2 hbel2 hin htk hnn
                go_wp2_with fail
                go_roundg (f1.len - (k + 1))
                case measure => omega
                case rel => exact ⟨k + 1, true, N2, by omega, by go_num, rfl, HNN.out, HLV.out⟩
              | false =>
                by_cases hy : y = 2
                · subst hy
                  have HNN : Hid ((lmore (L.take j) || (f1.take (k + 1)).more) = true ∧ lins (L.take j) ++ (f1.take (k + 1)).ins = N2) := by
                    refine ⟨?_, ?_⟩
                    · rw [htk, more_app, ← Bool.or_assoc, hnn.out.1]
                      simp [Fs.more, Fs.len, Bool.or_true]
                    · rw [htk, ins_app, ← List.append_assoc, hnn.out.2]
                      simp [Fs.ins, Fs.len]
                  have HLV : Hid (LvAt w1.heap.size w I u6 N2 wr ∧ Below w1.heap.size w1 wr) := ⟨⟨xs2, hown2, hwl2⟩, hbel2⟩
                  clear hown2 hwl2 hbel2 hin htk hnn
                  go_wp2_with fail
                  go_roundg (f1.len - (k + 1))
                  case measure => omega
                  case rel => exact ⟨k + 1, true, N2, by omega, by go_num, rfl, HNN.out, HLV.out⟩
                · have hy1 : (y == 2) = false := by rw [beq_eq_false_iff_ne]; exact hy
                  have HNN : Hid ((lmore (L.take j) || (f1.take (k + 1)).more) = false ∧ lins (L.take j) ++ (f1.take (k + 1)).ins = N2) := by
                    refine ⟨?_, ?_⟩
                    · rw [htk, more_app, ← Bool.or_assoc, hnn.out.1]
                      simp [Fs.more, Fs.len, hy]
                    · rw [htk, ins_app, ← List.append_assoc, hnn.out.2]
                      simp [Fs.ins, Fs.len]
                  have HLV : Hid (LvAt w1.heap.size w I u6 N2 wr ∧ Below w1.heap.size w1 wr) := ⟨⟨xs2, hown2, hwl2⟩, hbel2⟩
                  clear hown2 hwl2 hbel2 hin htk hnn
                  go_wp2_with fail
                  go_roundg (f1.len - (k + 1))
                  case measure => omega
                  case rel => exact ⟨k + 1, false, N2, by omega, by go_num, rfl, HNN.out, HLV.out⟩
            · cases b2 with
              | true =>
                have hip : (0 : Int) < (i.len : Int) := by omega
                have HO2 := Lib.hid hown2
                have HW2 := Lib.hid hwl2
                have HB2 := Lib.hid hbel2
                have hwz := hbel2.size
                have HNN : Hid ((lmore (L.take j) || (f1.take (k + 1)).more) = true ∧ lins (L.take j) ++ (f1.take (k + 1)).ins = N2 ++ [i]) := by
                  have h1 : (Fs.cons t y n' s i .nil).more = true := by simp only [Fs.more, Bool.or_false, decide_eq_true_eq]; exact .inr (by omega)
                  have h2 : (Fs.cons t y n' s i .nil).ins = [i] := by simp only [Fs.ins]; rw [if_pos (by omega)]
                  refine ⟨?_, ?_⟩
                  · rw [htk, more_app, h1]; simp
                  · rw [htk, ins_app, h2, ← List.append_assoc, hnn.out.2]
                have HSI : Hid (SlV w I (.slice Ai i.len ci) i) := ⟨Ai, ci, rfl, hci, hin⟩
                clear hown2 hwl2 hbel2 hin hi0' htk hnn
                generalize hM2 : N2.length = M2 at *
                have HM2 := Lib.hid hM2
                clear hM2
                go_wp2_with (at_builtin; go_must (refine wpList_append_lies _ rfl _ _ 75 rfl w1.heap.size 35 i0 _ 1 24 Tryd.underlying75 hi0 hz0 hz1 hz2 rfl (by decide) _ M2 xs2 rfl (HO2.out.alloc _) ⟨wr.heap.size, 0, none⟩ 1 1 [.slice Ai i.len ci] rfl rfl (World.news_of_block (cs := #[.slice Ai i.len ci]) (t := 35) (fr := (0, 0)) (heap_alloc_new wr _)) (by simp [Value.oneCell']) (by decide) (by unfold maxLen; omega) (by omega) (by simp; omega) (wr.heap.size + 1) (by simp) ?_); intro g3 cap3 w3 hown3 hg3 hat3 hlt3; have HO3 := Lib.hid hown3; have HG3 := Lib.hid hg3; clear hown3 hg3 hat3 hlt3)
                go_roundg (f1.len - (k + 1))
                case measure => omega
                case rel =>
                  refine ⟨k + 1, true, N2 ++ [i], by omega, by go_num, rfl, HNN.out, ⟨_, by simp only [List.length_append, List.length_cons, List.length_nil, HM2.out]; exact HO3.out, HW2.out.push HSI.out⟩, ?_⟩
                  have hb1 := ba (a := wr) b0 (.cells #[.slice Ai i.len ci] 35)
                  exact (HB2.out.trans (hb1.mono hwz)).trans (Tch.grown (S := fun k => u6.ownBlock = some k) HG3.out (fun k hk _ => hk) |>.toBelowB (Nat.le_trans hwz hb1.size) fun k hk e => by have := (HO2.out.lt k e).1; omega)
              | false =>
                by_cases hy : y = 2
                · subst hy
                  have hip : (0 : Int) < (i.len : Int) := by omega
                  have HO2 := Lib.hid hown2
                  have HW2 := Lib.hid hwl2
                  have HB2 := Lib.hid hbel2
                  have hwz := hbel2.size
                  have HNN : Hid ((lmore (L.take j) || (f1.take (k + 1)).more) = true ∧ lins (L.take j) ++ (f1.take (k + 1)).ins = N2 ++ [i]) := by
                    have h1 : (Fs.cons t 2 n' s i .nil).more = true := by simp only [Fs.more, Bool.or_false, decide_eq_true_eq]; exact .inr (by omega)
                    have h2 : (Fs.cons t 2 n' s i .nil).ins = [i] := by simp only [Fs.ins]; rw [if_pos (by omega)]
                    refine ⟨?_, ?_⟩
                    · rw [htk, more_app, h1]; simp
                    · rw [htk, ins_app, h2, ← List.append_assoc, hnn.out.2]
                  have HSI : Hid (SlV w I (.slice Ai i.len ci) i) := ⟨Ai, ci, rfl, hci, hin⟩
                  clear hown2 hwl2 hbel2 hin hi0' htk hnn
                  generalize hM2 : N2.length = M2 at *
                  have HM2 := Lib.hid hM2
                  clear hM2
                  go_wp2_with (at_builtin; go_must (refine wpList_append_lies _ rfl _ _ 75 rfl w1.heap.size 35 i0 _ 1 24 Tryd.underlying75 hi0 hz0 hz1 hz2 rfl (by decide) _ M2 xs2 rfl (HO2.out.alloc _) ⟨wr.heap.size, 0, none⟩ 1 1 [.slice Ai i.len ci] rfl rfl (World.news_of_block (cs := #[.slice Ai i.len ci]) (t := 35) (fr := (0, 0)) (heap_alloc_new wr _)) (by simp [Value.oneCell']) (by decide) (by unfold maxLen; omega) (by omega) (by simp; omega) (wr.heap.size + 1) (by simp) ?_); intro g3 cap3 w3 hown3 hg3 hat3 hlt3; have HO3 := Lib.hid hown3; have HG3 := Lib.hid hg3; clear hown3 hg3 hat3 hlt3)
                  go_roundg (f1.len - (k + 1))
                  case measure => omega
                  case rel =>
                    refine ⟨k + 1, true, N2 ++ [i], by omega, by go_num, rfl, HNN.out, ⟨_, by simp only [List.length_append, List.length_cons, List.length_nil, HM2.out]; exact HO3.out, HW2.out.push HSI.out⟩, ?_⟩
                    have hb1 := ba (a := wr) b0 (.cells #[.slice Ai i.len ci] 35)
                    exact (HB2.out.trans (hb1.mono hwz)).trans (Tch.grown (S := fun k => u6.ownBlock = some k) HG3.out (fun k hk _ => hk) |>.toBelowB (Nat.le_trans hwz hb1.size) fun k hk e => by have := (HO2.out.lt k e).1; omega)
                · have hy1 : (y == 2) = false := by rw [beq_eq_false_iff_ne]; exact hy
                  clear hy
                  have hip : (0 : Int) < (i.len : Int) := by omega
                  have HO2 := Lib.hid hown2
                  have HW2 := Lib.hid hwl2
                  have HB2 := Lib.hid hbel2
                  have hwz := hbel2.size
                  have HNN : Hid ((lmore (L.take j) || (f1.take (k + 1)).more) = true ∧ lins (L.take j) ++ (f1.take (k + 1)).ins = N2 ++ [i]) := by
                    have h1 : (Fs.cons t y n' s i .nil).more = true := by simp only [Fs.more, Bool.or_false, decide_eq_true_eq]; exact .inr (by omega)
                    have h2 : (Fs.cons t y n' s i .nil).ins = [i] := by simp only [Fs.ins]; rw [if_pos (by omega)]
                    refine ⟨?_, ?_⟩
                    · rw [htk, more_app, h1]; simp
                    · rw [htk, ins_app, h2, ← List.append_assoc, hnn.out.2]
                  have HSI : Hid (SlV w I (.slice Ai i.len ci) i) := ⟨Ai, ci, rfl, hci, hin⟩
                  clear hown2 hwl2 hbel2 hin hi0' htk hnn
                  generalize hM2 : N2.length = M2 at *
                  have HM2 := Lib.hid hM2
                  clear hM2
                  go_wp2_with (at_builtin; go_must (refine wpList_append_lies _ rfl _ _ 75 rfl w1.heap.size 35 i0 _ 1 24 Tryd.underlying75 hi0 hz0 hz1 hz2 rfl (by decide) _ M2 xs2 rfl (HO2.out.alloc _) ⟨wr.heap.size, 0, none⟩ 1 1 [.slice Ai i.len ci] rfl rfl (World.news_of_block (cs := #[.slice Ai i.len ci]) (t := 35) (fr := (0, 0)) (heap_alloc_new wr _)) (by simp [Value.oneCell']) (by decide) (by unfold maxLen; omega) (by omega) (by simp; omega) (wr.heap.size + 1) (by simp) ?_); intro g3 cap3 w3 hown3 hg3 hat3 hlt3; have HO3 := Lib.hid hown3; have HG3 := Lib.hid hg3; clear hown3 hg3 hat3 hlt3)
                  go_roundg (f1.len - (k + 1))
                  case measure => omega
                  case rel =>
                    refine ⟨k + 1, true, N2 ++ [i], by omega, by go_num, rfl, HNN.out, ⟨_, by simp only [List.length_append, List.length_cons, List.length_nil, HM2.out]; exact HO3.out, HW2.out.push HSI.out⟩, ?_⟩
                    have hb1 := ba (a := wr) b0 (.cells #[.slice Ai i.len ci] 35)
                    exact (HB2.out.trans (hb1.mono hwz)).trans (Tch.grown (S := fun k => u6.ownBlock = some k) HG3.out (fun k hk _ => hk) |>.toBelowB (Nat.le_trans hwz hb1.size) fun k hk e => by have := (HO2.out.lt k e).1; omega)
          · obtain rfl : k = f1.len := by omega
            have HE : Hid (lmore (L.take (j + 1)) = b2 ∧ lins (L.take (j + 1)) = N2) := by
              have h1 := hnn.out
              rw [f1.take_all _ (Nat.le_refl _)] at h1
              exact ⟨HLS.out.1.trans h1.1, HLS.out.2.trans h1.2⟩
            have HLV2 : Hid (LvAt w1.heap.size w I u6 N2 wr ∧ Below w1.heap.size w1 wr) := ⟨⟨xs2, hown2, hwl2⟩, hbel2⟩
            clear hnn hown2 hwl2 hbel2
            go_wp2_with fail
            go_roundg (ML - (j + 1))
            case measure => omega
            case rel => exact ⟨j + 1, b2, N2, by omega, by go_num, rfl, HE.out, HLV2.out⟩
      · obtain rfl : j = ML := by omega
        have hst := ldepth_step L
        have h1 := hnn.out
        rw [List.take_of_length_le (by rw [HML.out]; omega)] at h1
        rw [h1.1, h1.2] at hst
        have hls := lins_sum L
        rw [h1.1, h1.2] at hls
        have hll := lins_len L
        rw [h1.2] at hll
        have hn := HN.out
        have H2 : Hid (LvAt w1.heap.size w I u6 N wr ∧ Below w1.heap.size w1 wr) := ⟨hlv2, hbel2⟩
        cases b with
        | false =>
          rw [if_neg (by simp)] at hst
          obtain rfl : d = T := by omega
          clear hn hll hls hst h1 hnn hlv2 hbel2
          go_wp2_with fail
          go_ret
          exact ⟨rfl, HBEL.out.trans (H2.out.2.mono HBEL.out.size)⟩
        | true =>
          rw [if_pos rfl] at hst
          have HX : Hid (d + 1 + ldepth N = T ∧ lsum N < G ∧ G ≤ 1000000 ∧ N.length ≤ 1000000) := ⟨by omega, by have := hls.2 rfl; omega, by omega, by omega⟩
          clear hn hll hls hst h1 hnn hlv2 hbel2
          go_wp2_with fail
          go_roundg (lsum N)
          case measure => rw [← HG.out]; exact HX.out.2.1
          case rel => exact ⟨d + 1, N, by go_num, ⟨HX.out.1, Nat.le_refl _, by have := HX.out; omega⟩, HX.out.2.2.2, H2.out.1.mono HBEL.out.size, HBEL.out.trans (H2.out.2.mono HBEL.out.size)⟩
end Go.Proofs.YtmlijflappjfoaaDoor
end

section
/-
  Contracts of the document's answers for layer 8: how deep fields stand; whether two lists are the same.
-/
namespace Go.PM
theorem depth_app : ∀ f g : Fs, (f.app g).depth = max f.depth g.depth
  | .nil, g => by simp [Fs.app, Fs.depth]
  | .cons t y n s i r, g => by
    simp only [Fs.app, Fs.depth, depth_app r g]
    split <;> omega
end Go.PM
namespace Go.Proofs.YtmlijflappjfoaaDoor
open Go.RowKit Go.PM
set_option maxRecDepth 100000
set_option maxHeartbeats 2000000
attribute [local go_sem ↓] Go.wp_at_zero Go.wp_at_succ

theorem rdepth_any8 (N : Nat) : ∀ (A : Option Addr) (c : Nat) (f : Fs) (I : Nat → Prop) (w : World), f.count ≤ N → SlV w I (.slice A f.len c) f → f.count ≤ 1000000 →
    Calls Tryd.prog 37 #[.slice A f.len c] w fun e w' => e = .returned (.int .i64 (f.depth : Int)) ∧ Below w.heap.size w w' := by
  induction N with
  | zero =>
    intro A c f I w hN hr h60
    have : f = .nil := Fs.len_zero (by have := f.len_count; omega)
    subst this
    go_enter Tryd.func37, Tryd.ntmps37
    go_wp2_with fail
    go_loopw [3, 8] (fun nn kk wr => nn = .int .i64 0 ∧ kk = .int .i64 0 ∧ wr = w) (fun _ _ _ => 0)
    case atStart => exact ⟨rfl, rfl, rfl⟩
    case round =>
      obtain ⟨rfl, rfl, rfl⟩ := hrel
      go_wp2_with fail
      go_ret
      exact ⟨rfl, b0⟩
  | succ N ih =>
    intro A c f I w hN hr h60
    have IH := Lib.hid ih
    have HR := Lib.hid hr
    clear ih hr
    have hfl := f.len_count
    have H0 : Hid ((f.take 0).depth = 0) := by cases f <;> rfl
    generalize hT : f.depth = T at *
    have HT := Lib.hid hT
    clear hT
    go_enter Tryd.func37, Tryd.ntmps37
    go_wp2_with fail
    go_loopw [3, 8] (fun nn kk wr => ∃ k n : Nat, k ≤ f.len ∧ kk = .int .i64 (k : Int) ∧ nn = .int .i64 (n : Int) ∧ n ≤ 1000000 ∧ Hid ((f.take k).depth = n) ∧ Below w.heap.size w wr) (fun _ kk _ => f.len - (intOf kk).toNat)
    case atStart => exact ⟨0, 0, by omega, rfl, rfl, by omega, H0, b0⟩
    case round =>
      obtain ⟨k, n, hk, rfl, rfl, hn, hnt, hbel⟩ := hrel
      by_cases hlt : k < f.len
      · obtain ⟨t, y, n', s, i, hdc, htk⟩ := f.drop_cons k hlt
        obtain ⟨A0, c0, hv, hc0, hor⟩ := HR.out.below hbel
        injection hv with hv1 hv2 hv3
        subst hv1 hv3
        rcases hor with h0 | ⟨b, o, rfl, hIb, hbl, hat⟩
        · omega
        have hak := hat.drop k
        rw [hdc] at hak
        obtain ⟨d0, d1, d2, d3, ⟨Ai, ci, d4, hci, hin⟩, _⟩ := hak
        have hdcc := f.drop_count k
        rw [hdc] at hdcc
        simp only [Fs.count] at hdcc
        have hid := depth_le i
        have hil := i.len_count
        have hic : i.count ≤ N ∧ i.count ≤ 1000000 ∧ i.depth ≤ 1000000 ∧ i.len ≤ 1000000 := by omega
        have HSI : Hid (SlV wr I (.slice Ai i.len ci) i) := ⟨Ai, ci, rfl, hci, hin⟩
        have HBEL := Lib.hid hbel
        have HCA : Hid (∀ x : World, Below wr.heap.size wr x → Calls Tryd.prog 37 #[.slice Ai i.len ci] x fun e w' => e = .returned (.int .i64 (i.depth : Int)) ∧ Below x.heap.size x w') := fun x hx =>
          IH.out Ai ci i I x hic.1 (HSI.out.below hx) hic.2.1
        have HN : Hid ((f.take (k + 1)).depth = if y = 2 ∨ 0 < i.len then max n (1 + i.depth) else n) := by
          show _ = _
          rw [htk, depth_app, hnt.out]
          simp only [Fs.depth]
          split <;> omega
        obtain ⟨_, _, h2, h3⟩ := hic
        clear hid hil hdcc hdc htk hat hin hbel hv2 hnt
        generalize i.depth = D at *
        have hm5 := BlkAt.made wr 65 #[.int .u64 (t : Int), .int .i64 y, .int .u64 (n' : Int), .string s, .slice Ai i.len ci]
        have e4 := hm5.cell 4
        have e1 := hm5.cell 1
        simp at e4 e1
        clear hm5
        by_cases hdeep : y = 2 ∨ 0 < i.len
        · have HN2 : Hid ((f.take (k + 1)).depth = max n (1 + D)) := by have := HN.out; rw [if_pos hdeep] at this; exact this
          have hmx : max n (1 + D) ≤ 1000000 := by
            have h1 := depth_le (f.take (k + 1))
            have h2 := f.take_count (k + 1)
            rw [HN2.out] at h1
            omega
          have hmi : (max (n : Int) (1 + (D : Int))) = ((max n (1 + D) : Nat) : Int) := by omega
          have HMI := Lib.hid hmi
          clear hmi
          by_cases hy : y = 2
          · subst hy
            clear hdeep
            go_wp2_with (go_at_call 37; refine (HCA.out _ (by first | exact ba b0 _ | exact bd (ba b0 _))).mono ?_; rintro e' W1 ⟨rfl, hb1⟩)
            go_roundw
            case rel => exact ⟨k + 1, max n (1 + D), by omega, by go_num, by first | go_num | (rw [HMI.out]) | (congr 1; omega), hmx, HN2, HBEL.out.trans ((bb (ba b0 _) hb1).mono HBEL.out.size)⟩
            case measure => simp [intOf]; omega
          · have hip : 0 < i.len := by rcases hdeep with h | h; exact absurd h hy; exact h
            have hipi : (0 : Int) < (i.len : Int) := by omega
            have hyi : (y == 2) = false := by rw [beq_eq_false_iff_ne]; exact hy
            clear hdeep hy
            go_wp2_with (go_at_call 37; refine (HCA.out _ (by first | exact ba b0 _ | exact bd (ba b0 _))).mono ?_; rintro e' W1 ⟨rfl, hb1⟩)
            go_roundw
            case rel => exact ⟨k + 1, max n (1 + D), by omega, by go_num, by first | go_num | (rw [HMI.out]) | (congr 1; omega), hmx, HN2, HBEL.out.trans ((bb (ba b0 _) hb1).mono HBEL.out.size)⟩
            case measure => simp [intOf]; omega
        · have HN2 : Hid ((f.take (k + 1)).depth = n) := by have := HN.out; rw [if_neg hdeep] at this; exact this
          have hyi : (y == 2) = false := by rw [beq_eq_false_iff_ne]; exact fun h => hdeep (.inl h)
          have hi0 : i.len = 0 := by have := fun h => hdeep (.inr h); omega
          have : i = .nil := Fs.len_zero hi0
          subst this
          clear hdeep hi0
          go_wp2_with fail
          go_roundw
          case rel => exact ⟨k + 1, n, by omega, by go_num, rfl, hn, HN2, HBEL.out.trans ((ba b0 _ : Below wr.heap.size wr _).mono HBEL.out.size)⟩
          case measure => simp [intOf]; omega
      · obtain rfl : k = f.len := by omega
        have e : n = T := by have := hnt.out; rw [f.take_all _ (Nat.le_refl _), HT.out] at this; exact this.symm
        subst e
        have HB := Lib.hid hbel
        clear hnt hbel HT
        go_wp2_with fail
        go_ret
        exact ⟨rfl, HB.out⟩
end Go.Proofs.YtmlijflappjfoaaDoor
end

section
/-
  Contracts of layer 8: whether two lists of fields are the same.
-/
namespace Go.PM
/-- Values that read, two by two, as pairs of lists of fields. -/
def W2 (w : World) (I : Nat → Prop) (xs : List Value) (L : List (Fs × Fs)) : Prop :=
  xs.length = 2 * L.length ∧ ∀ (j : Nat) (p : Fs × Fs), L[j]? = some p → ∃ x y, xs[2 * j]? = some x ∧ xs[2 * j + 1]? = some y ∧ SlV w I x p.1 ∧ SlV w I y p.2
theorem W2.nil {w : World} {I : Nat → Prop} : W2 w I [] [] := ⟨rfl, fun j p h => by simp at h⟩
theorem W2.push {w : World} {I : Nat → Prop} {xs : List Value} {L : List (Fs × Fs)} {x y : Value} {p : Fs × Fs} (h : W2 w I xs L) (hx : SlV w I x p.1) (hy : SlV w I y p.2) : W2 w I (xs ++ [x, y]) (L ++ [p]) := by
  refine ⟨by simp [h.1]; omega, fun j q hq => ?_⟩
  by_cases hj : j < L.length
  · rw [List.getElem?_append_left hj] at hq
    obtain ⟨a, b, h1, h2, h3⟩ := h.2 j q hq
    exact ⟨a, b, by rw [List.getElem?_append_left (by rw [h.1]; omega)]; exact h1, by rw [List.getElem?_append_left (by rw [h.1]; omega)]; exact h2, h3⟩
  · have hj2 : j = L.length := by
      have := (List.getElem?_eq_some_iff.1 hq).1
      simp at this; omega
    subst hj2
    rw [List.getElem?_append_right (Nat.le_refl _), Nat.sub_self] at hq
    injection hq with hq
    subst hq
    refine ⟨x, y, ?_, ?_, hx, hy⟩
    · rw [List.getElem?_append_right (by rw [h.1]; omega), h.1, Nat.sub_self]; rfl
    · rw [List.getElem?_append_right (by rw [h.1]; omega), h.1, show 2 * L.length + 1 - 2 * L.length = 1 by omega]; rfl
theorem W2.pop {w : World} {I : Nat → Prop} {xs : List Value} {L : List (Fs × Fs)} {n : Nat} (h : W2 w I xs L) (hn : L.length = n + 1) :
    ∃ L' p x y, L = L' ++ [p] ∧ L'.length = n ∧ xs[2 * n]? = some x ∧ xs[2 * n + 1]? = some y ∧ SlV w I x p.1 ∧ SlV w I y p.2 ∧ W2 w I (xs.take (n * 2)) L' := by
  have hL : n < L.length := by omega
  obtain ⟨x, y, h1, h2, h3, h4⟩ := h.2 n _ (List.getElem?_eq_getElem hL)
  refine ⟨L.take n, L[n], x, y, ?_, by rw [List.length_take]; omega, h1, h2, h3, h4, by rw [List.length_take, List.length_take, h.1]; omega, fun j q hq => ?_⟩
  · have h1 := List.take_append_getElem hL
    rw [h1, List.take_of_length_le (by omega)]
  · rw [List.getElem?_take] at hq
    by_cases hj : j < n
    · rw [if_pos hj] at hq
      obtain ⟨a, b, h1, h2, h3⟩ := h.2 j q hq
      exact ⟨a, b, by rw [List.getElem?_take, if_pos (by omega)]; exact h1, by rw [List.getElem?_take, if_pos (by omega)]; exact h2, h3⟩
    · rw [if_neg hj] at hq
      cases hq
def psum : List (Fs × Fs) → Nat
  | [] => 0
  | p :: L => p.1.count + p.2.count + psum L
theorem psum_app : ∀ (L M : List (Fs × Fs)), psum (L ++ M) = psum L + psum M
  | [], M => by simp [psum]
  | f :: L, M => by simp only [List.cons_append, psum, psum_app L M]; omega
theorem lsame_app (L M : List (Fs × Fs)) : lsame (L ++ M) = (lsame L && lsame M) := by simp [lsame]
theorem lsame_one (p : Fs × Fs) : lsame [p] = p.1.same p.2 := by simp [lsame]
theorem str_ne {a b : ByteArray} (h : a ≠ b) : (a.toList == b.toList) = false := by
  rw [beq_eq_false_iff_ne, ByteArray.toList_eq, ByteArray.toList_eq]
  intro e
  exact h (ByteArray.ext (Array.toList_inj.1 e))
def likeB (t t' : Nat) (y y' : Int) (n n' : Nat) (s s' : ByteArray) : Bool := decide (t = t' ∧ y = y' ∧ n = n' ∧ s = s')
end Go.PM
namespace Go.Proofs.YtmlijflappjfoaaDoor
open Go.RowKit Go.PM
set_option maxRecDepth 100000
set_option maxHeartbeats 4000000

theorem alike_any (b o b' o' : Nat) (t t' : Nat) (y y' : Int) (n n' : Nat) (s s' : ByteArray) (w : World)
    (h0 : w.cell? ⟨b, o, none⟩ = some (.int .u64 (t : Int))) (h1 : w.cell? ⟨b, o + 1, none⟩ = some (.int .i64 y)) (h2 : w.cell? ⟨b, o + 2, none⟩ = some (.int .u64 (n : Int))) (h3 : w.cell? ⟨b, o + 3, none⟩ = some (.string s))
    (k0 : w.cell? ⟨b', o', none⟩ = some (.int .u64 (t' : Int))) (k1 : w.cell? ⟨b', o' + 1, none⟩ = some (.int .i64 y')) (k2 : w.cell? ⟨b', o' + 2, none⟩ = some (.int .u64 (n' : Int))) (k3 : w.cell? ⟨b', o' + 3, none⟩ = some (.string s')) :
    Calls Tryd.prog 60 #[.pointer (some ⟨b, o, none⟩), .pointer (some ⟨b', o', none⟩)] w fun e w' => e = .returned (.bool (likeB t t' y y' n n' s s')) ∧ Below w.heap.size w w' := by
  generalize hB : likeB t t' y y' n n' s s' = B
  unfold likeB at hB
  by_cases e0 : t = t'
  · subst e0
    by_cases e1 : y = y'
    · subst e1
      by_cases e2 : n = n'
      · subst e2
        by_cases e3 : s = s'
        · subst e3
          obtain rfl : true = B := by rw [← hB]; simp
          clear hB
          go_enter Tryd.func60, Tryd.ntmps60
          go_wp2_with fail
          go_quiet (fail)
          go_wp2_with fail
          go_ret
          exact ⟨rfl, bn b0 _⟩
        · obtain rfl : false = B := by rw [← hB]; simp [e3]
          have e4 := str_ne e3
          clear hB e3
          go_enter Tryd.func60, Tryd.ntmps60
          go_wp2_with fail
          go_quiet (fail)
          go_wp2_with fail
          go_ret
          exact ⟨rfl, bn b0 _⟩
      · obtain rfl : false = B := by rw [← hB]; simp [e2]
        have e4 : ((n : Int) == (n' : Int)) = false := by rw [beq_eq_false_iff_ne]; omega
        clear hB e2
        go_enter Tryd.func60, Tryd.ntmps60
        go_wp2_with fail
        go_quiet (fail)
        go_wp2_with fail
        go_ret
        exact ⟨rfl, bn b0 _⟩
    · obtain rfl : false = B := by rw [← hB]; simp [e1]
      have e4 : (y == y') = false := by rw [beq_eq_false_iff_ne]; exact e1
      clear hB e1
      go_enter Tryd.func60, Tryd.ntmps60
      go_wp2_with fail
      go_quiet (fail)
      go_wp2_with fail
      go_ret
      exact ⟨rfl, bn b0 _⟩
  · obtain rfl : false = B := by rw [← hB]; simp [e0]
    have e4 : ((t : Int) == (t' : Int)) = false := by rw [beq_eq_false_iff_ne]; omega
    clear hB e0
    go_enter Tryd.func60, Tryd.ntmps60
    go_wp2_with fail
    go_quiet (fail)
    go_wp2_with fail
    go_ret
    exact ⟨rfl, bn b0 _⟩
end Go.Proofs.YtmlijflappjfoaaDoor
end

section
/-
  Contracts of layer 8: whether two lists of fields are the same: the walk over the work list.
-/
namespace Go.Proofs.YtmlijflappjfoaaDoor
open Go.RowKit Go.PM
set_option maxRecDepth 100000
set_option maxHeartbeats 4000000
attribute [local go_sem ↓] Go.wp_at_zero Go.wp_at_succ

theorem info_both : (Tryd.prog.info? 83).map (fun i => (i.zero, i.size, i.bytes)) = some (some (.agg #[.slice none 0 0, .slice none 0 0]), 2, 48) := by kernel_rfl
/-- Where the walk over the work list stands. -/
def PkAt (w : World) (I : Nat → Prop) (v : Value) (L : List (Fs × Fs)) (wr : World) : Prop :=
  ∃ (g cap : Nat) (xs : List Value), v = .slice (some ⟨g, 0, none⟩) L.length cap ∧ wr.ownsRow w.heap.size 83 2 v L.length xs ∧ W2 w I xs L ∧ Below w.heap.size w wr
/-- So, and a block apart from the row. -/
def PxAt (w : World) (I : Nat → Prop) (gb : Nat) (va vb v : Value) (L : List (Fs × Fs)) (wr : World) : Prop :=
  ∃ (g cap : Nat) (xs : List Value), v = .slice (some ⟨g, 0, none⟩) L.length cap ∧ wr.ownsRow w.heap.size 83 2 v L.length xs ∧ W2 w I xs L ∧ Below w.heap.size w wr ∧ g ≠ gb ∧ w.heap.size ≤ gb ∧ BlkAt wr gb 83 #[va, vb]
theorem PkAt.step {w wr w3 : World} {I : Nat → Prop} {gb g2 g3 cap3 cap2 M2 : Nat} {va vb x y : Value} {L2 : List (Fs × Fs)} {p : Fs × Fs} {xs2 : List Value} (hM : L2.length = M2) (hB2 : Below w.heap.size w wr) (hgb : w.heap.size ≤ gb) (hblk : BlkAt wr gb 83 #[va, vb]) (hne : g2 ≠ gb)
    (hW2 : W2 w I xs2 L2) (hx : SlV w I x p.1) (hy : SlV w I y p.2) (hg2 : w.heap.size ≤ g2)
    (hown3 : w3.ownsRow w.heap.size 83 2 (.slice (some ⟨g3, 0, none⟩) (M2 + 1) cap3) (M2 + 1) (xs2 ++ [x, y])) (hg3 : wr.grownBy w3 (Value.slice (some ⟨g2, 0, none⟩) M2 cap2).ownBlock) (hat : (Value.slice (some ⟨g2, 0, none⟩) M2 cap2).ownBlock = some g3 ∨ wr.heap.size ≤ g3) :
    PxAt w I gb va vb (.slice (some ⟨g3, 0, none⟩) (M2 + 1) cap3) (L2 ++ [p]) w3 := by
  refine ⟨g3, cap3, _, by simp [hM], by simp only [List.length_append, List.length_cons, List.length_nil, hM]; exact hown3, hW2.push hx hy, ?_, ?_, hgb, ?_⟩
  · exact hB2.trans (Tch.grown (S := fun k => some g2 = some k) hg3 (fun k hk _ => hk) |>.toBelowB hB2.size fun k hk e => by injection e with e; omega)
  · rcases hat with h | h
    · simp only [Value.ownBlock, Option.some.injEq] at h; omega
    · have := hblk.lt; omega
  · exact hblk.step hg3 (by intro e; simp only [Value.ownBlock, Option.some.injEq] at e; exact hne e.symm)
theorem same_of (va vb : Value) (f g : Fs) (I : Nat → Prop) (w : World) (ha : SlV w I va f) (hb : SlV w I vb g) (h60 : f.count ≤ 1000000) (h61 : g.count ≤ 1000000) :
    Calls Tryd.prog 40 #[va, vb] w fun e w' => e = .returned (.bool (f.same g)) ∧ Below w.heap.size w w' := by
  have HA := Lib.hid ha
  have HB := Lib.hid hb
  obtain ⟨A, c, rfl, ha'⟩ := ha
  obtain ⟨A', c', rfl, hb'⟩ := hb
  clear ha' hb'
  generalize hT : f.same g = T
  have HT := Lib.hid hT
  have H6 : Hid (f.count ≤ 1000000 ∧ g.count ≤ 1000000) := ⟨h60, h61⟩
  obtain ⟨i0, hi0, hz0, hz1, hz2⟩ := info_parts info_both
  clear hT h60 h61
  go_enter Tryd.func40, Tryd.ntmps40
  go_wp2_with fail
  go_loopg [5] 4000001 (fun gk vv wr => ∃ (L : List (Fs × Fs)), Hid (lsame L = T ∧ 2 * psum L + L.length ≤ gk ∧ gk ≤ 4000001) ∧ PkAt w I vv L wr)
  case atStart =>
    refine ⟨[(f, g)], ⟨by rw [lsame_one]; exact HT.out, by have := H6.out; simp [psum]; omega, Nat.le_refl _⟩, w.heap.size, 1, [.slice A f.len c, .slice A' g.len c'], rfl, World.ownsRow_lit w #[.slice A f.len c, .slice A' g.len c'] 1 (Nat.le_refl _) (by decide) rfl, ?_, ba b0 _⟩
    exact W2.push (p := (f, g)) W2.nil HA.out HB.out
  case round =>
    obtain ⟨L, hn, g0, cap, xs, rfl, hown, hwl, hbel⟩ := hrel
    cases hL : L.length with
    | zero =>
      obtain rfl : L = [] := List.eq_nil_of_length_eq_zero hL
      obtain rfl : true = T := hn.out.1
      have HBE := Lib.hid hbel
      clear hown hwl hbel hL hn
      go_wp2_with fail
      go_ret
      exact ⟨rfl, HBE.out⟩
    | succ m =>
      obtain ⟨L', ⟨f1, g1⟩, x, y, rfl, hL', hx, hy, hsx, hsy, hwl'⟩ := hwl.pop hL
      simp only at hsx hsy
      have HSX := Lib.hid hsx
      have HSY := Lib.hid hsy
      obtain ⟨A1, c1, rfl, hc1, hor1⟩ := hsx
      obtain ⟨A2, c2, rfl, hc2, hor2⟩ := hsy
      have hcell0 := hown.cellAt (m * 2) (by rw [hL]; omega)
      have hcell1 := hown.cellAt (m * 2 + 1) (by rw [hL]; omega)
      rw [Nat.mul_comm m 2, hx, Nat.mul_comm 2 m] at hcell0
      rw [Nat.mul_comm m 2, hy, Nat.mul_comm 2 m] at hcell1
      rw [hL] at hown
      have hg0 := hown.lt g0 rfl
      have HO := Lib.hid (own_pop hown)
      obtain ⟨hmc, hcap⟩ := own_cap hown
      have hmi : (m : Int) ≤ (cap : Int) := by omega
      have HWL := Lib.hid hwl'
      have HBEL := Lib.hid hbel
      obtain ⟨hn0, hn2, hgT⟩ := hn.out
      rw [lsame_app, lsame_one] at hn0
      rw [psum_app] at hn2
      simp only [psum, List.length_append, List.length_cons, List.length_nil] at hn2 hn0
      have hfc := f1.count_in
      have hgc := g1.count_in
      have hm4 : m ≤ 4000001 := by omega
      have hfl4 : f1.len ≤ 4000001 ∧ g1.len ≤ 4000001 := by omega
      obtain ⟨hf4, hg4⟩ := hfl4
      have hblk := BlkAt.made wr 83 #[.slice A1 f1.len c1, .slice A2 g1.len c2]
      have hbo := ba (a := wr) b0 (.cells #[.slice A1 f1.len c1, .slice A2 g1.len c2] 83)
      have H0 : Hid ((lsame L' && f1.same g1) = T ∧ (f1.len = g1.len → 2 * psum L' + L'.length + 2 * (f1.icount + g1.icount) + f1.len + 1 ≤ gk) ∧ gk ≤ 4000001) := ⟨hn0, fun _ => by omega, hgT⟩
      have HM := Lib.hid hL'
      have HBLK := Lib.hid hblk
      have HBO := Lib.hid hbo
      obtain ⟨G, hG⟩ : ∃ G, G = gk := ⟨gk, rfl⟩
      rw [← hG] at H0
      have HG := Lib.hid hG
      clear hG
      clear hn hn0 hn2 hgT hfc hgc hown hwl' hbel hor1 hor2 hL hL' hx hy hblk hbo hwl
      by_cases hlen : f1.len = g1.len
      · have HLEN := Lib.hid hlen
        have hli : ((f1.len : Int) != (g1.len : Int)) = false := by simp; omega
        clear hlen
        go_wp2_with fail
        generalize hgbe : wr.heap.size = gb
        rw [hgbe] at HBLK
        have HGBE := Lib.hid hgbe
        clear hgbe
        go_loopg [5, 38] f1.len (fun gj vv kk w2 => ∃ (k : Nat) (L2 : List (Fs × Fs)), k + gj = f1.len ∧ kk = .int .i64 (k : Int) ∧ Hid ((lsame L2 && (f1.drop k).same (g1.drop k)) = T ∧ 2 * psum L2 + L2.length + 2 * ((f1.drop k).icount + (g1.drop k).icount) + (f1.drop k).len + 1 ≤ G) ∧ PxAt w I gb (.slice A1 f1.len c1) (.slice A2 g1.len c2) vv L2 w2)
        case atStart =>
          have hd0 : ∀ h : Fs, h.drop 0 = h := fun h => by cases h <;> rfl
          refine ⟨0, L', by omega, rfl, ?_, g0, cap, _, by rw [HM.out], by rw [HM.out]; exact own_below HO.out HBO.out, HWL.out, HBEL.out.trans (HBO.out.mono HBEL.out.size), by have := HGBE.out; omega, by have := HGBE.out; have := HBEL.out.size; omega, HBLK.out⟩
          rw [hd0, hd0]
          exact ⟨H0.out.1, H0.out.2.1 HLEN.out⟩
        case round =>
          obtain ⟨k, L2, hkj, rfl, hn3, g2, cap2, xs2, rfl, hown2, hwl2, hbel2, hne2, hgb2, hblk2⟩ := hrel
          by_cases hlt : k < f1.len
          · have hle : f1.len = g1.len := HLEN.out
            obtain ⟨t, y, n, s, i, hdc, _⟩ := f1.drop_cons k hlt
            obtain ⟨t', y', n', s', i', hdc', _⟩ := g1.drop_cons k (by omega)
            have hsx := HSX.out
            have hsy := HSY.out
            obtain ⟨A0, c0, hv, hc0, hor⟩ := hsx
            injection hv with hv1 hv2 hv3
            subst hv1 hv3
            obtain ⟨A0, c0, hv', hc0', hor'⟩ := hsy
            injection hv' with hv1 hv2' hv3
            subst hv1 hv3
            rcases hor with h0 | ⟨b, o, rfl, hIb, hbl, hat⟩
            · omega
            rcases hor' with h0 | ⟨b', o', rfl, hIb', hbl', hat'⟩
            · omega
            have hak := hat.drop k
            have hak' := hat'.drop k
            rw [hdc] at hak
            rw [hdc'] at hak'
            obtain ⟨a0, a1, a2, a3, ⟨Ai, ci, a4, hci, hin⟩, _⟩ := hak
            obtain ⟨a0', a1', a2', a3', ⟨Ai', ci', a4', hci', hin'⟩, _⟩ := hak'
            have hbk := hbel2.block b hbl
            have hbk' := hbel2.block b' hbl'
            have HALC : Hid (∀ x : World, Below wr.heap.size wr x → Calls Tryd.prog 60 #[.pointer (some ⟨b, o + k * 5, none⟩), .pointer (some ⟨b', o' + k * 5, none⟩)] x fun e w' => e = .returned (.bool (likeB t t' y y' n n' s s')) ∧ Below x.heap.size x w') := fun x hx => by
              have hz := hbel2.size
              have e := fun j => World.cell?_of_block (a := ⟨b, j, none⟩) ((hx.block b (by omega)).trans hbk)
              have e' := fun j => World.cell?_of_block (a := ⟨b', j, none⟩) ((hx.block b' (by omega)).trans hbk')
              exact alike_any b (o + k * 5) b' (o' + k * 5) t t' y y' n n' s s' x ((e _).trans a0) ((e _).trans a1) ((e _).trans a2) ((e _).trans a3) ((e' _).trans a0') ((e' _).trans a1') ((e' _).trans a2') ((e' _).trans a3')
            have c4 := (World.cell?_of_block (a := ⟨b, o + k * 5 + 4, none⟩) hbk).trans a4
            have c4' := (World.cell?_of_block (a := ⟨b', o' + k * 5 + 4, none⟩) hbk').trans a4'
            have HLT : Hid (b < wr.heap.size ∧ b' < wr.heap.size ∧ b < w.heap.size ∧ b' < w.heap.size) := ⟨Nat.lt_of_lt_of_le hbl hbel2.size, Nat.lt_of_lt_of_le hbl' hbel2.size, hbl, hbl'⟩
            have HSI : Hid (SlV w I (.slice Ai i.len ci) i ∧ SlV w I (.slice Ai' i'.len ci') i') := ⟨⟨Ai, ci, rfl, hci, hin⟩, ⟨Ai', ci', rfl, hci', hin'⟩⟩
            have bx0 := hblk2.cell 0
            have bx1 := hblk2.cell 1
            simp at bx0 bx1
            have hkf : (k : Int) < (f1.len : Int) := by omega
            have hkg : (k : Int) < (g1.len : Int) := by omega
            clear hle
            have hn3' := hn3.out
            rw [hdc, hdc'] at hn3'
            simp only [Fs.icount, Fs.len, Fs.same] at hn3'
            have hif := f1.drop_count k
            have hig := g1.drop_count k
            rw [hdc] at hif
            rw [hdc'] at hig
            simp only [Fs.count] at hif hig
            have hil := i.len_count
            have hil' := i'.len_count
            have HB2 := Lib.hid hbel2
            clear hdc hdc' hat hat' hv2 hv2' a0 a1 a2 a3 a4 a0' a1' a2' a3' a4' hin hin' hbk hbk' hn3
            cases hlk : likeB t t' y y' n n' s s' with
            | false =>
              rw [hlk] at HALC
              have HAL := HALC
              have HF : Hid (false = T) := by
                have h1 := hn3'.1
                unfold likeB at hlk
                rw [hlk] at h1
                simp at h1
                exact h1.symm
              clear hlk hn3' hown2 hwl2 hblk2 hbel2 HALC
              obtain rfl : false = T := HF.out
              clear HF
              go_wp2_with fail
              go_quiet (fail)
              go_wp2_with (go_at_call 60; refine (HAL.out _ (bn b0 _)).mono ?_; rintro e' W1 ⟨rfl, hb1⟩; have hbW1 : Below wr.heap.size wr W1 := bb (bn b0 _) hb1; have e4 := (World.cell?_of_block (hbW1.block b HLT.out.1)).trans c4; have e4' := (World.cell?_of_block (hbW1.block b' HLT.out.2.1)).trans c4')
              go_ret
              exact ⟨rfl, HB2.out.trans (hbW1.mono HB2.out.size)⟩
            | true =>
              rw [hlk] at HALC
              have HAL := HALC
              have hsame : (lsame L2 && (i.same i' && (f1.drop (k + 1)).same (g1.drop (k + 1)))) = T := by
                have h1 := hn3'.1
                unfold likeB at hlk
                rw [hlk, Bool.true_and] at h1
                exact h1
              have HSAME := Lib.hid hsame
              have hci2 := i.count_in
              have hci2' := i'.count_in
              have hn3 := Lib.hid (And.intro hsame hn3'.2)
              have HW2 := Lib.hid hwl2
              have HO2 := Lib.hid hown2
              have HGB : Hid (g2 ≠ gb ∧ w.heap.size ≤ gb ∧ BlkAt wr gb 83 #[.slice (some ⟨_, _, none⟩) f1.len _, .slice (some ⟨_, _, none⟩) g1.len _]) := ⟨hne2, hgb2, hblk2⟩
              have hiL : i.len ≤ 4000001 ∧ i'.len ≤ 4000001 := by have := hn3.out.2; have := H0.out.2.2; omega
              obtain ⟨hiL1, hiL2⟩ := hiL
              clear hlk hn3' hsame hown2 hwl2 hblk2 hbel2 HALC hif hig hil hil' hci2 hci2'
              by_cases hi1 : 0 < i.len
              · have hip : (0 : Int) < (i.len : Int) := by omega
                have HNN : Hid ((lsame (L2 ++ [(i, i')]) && (f1.drop (k + 1)).same (g1.drop (k + 1))) = T ∧ 2 * psum (L2 ++ [(i, i')]) + (L2 ++ [(i, i')]).length + 2 * ((f1.drop (k + 1)).icount + (g1.drop (k + 1)).icount) + (f1.drop (k + 1)).len + 1 ≤ G) := by
                  rw [lsame_app, lsame_one, Bool.and_assoc, psum_app]
                  simp only [psum, List.length_append, List.length_cons, List.length_nil]
                  exact ⟨HSAME.out, by have := hn3.out.2; omega⟩
                have HL4 : Hid (L2.length ≤ 4000001) := by have := hn3.out.2; have := H0.out.2.2; show _ ≤ _; omega
                have hL4 := HL4.out
                generalize hM2 : L2.length = M2 at *
                have HM2 := Lib.hid hM2
                clear hM2 hn3 HSAME
                go_wp2_with fail
                go_quiet (fail)
                go_wp2_with (go_at_call 60; refine (HAL.out _ (bn b0 _)).mono ?_; rintro e' W1 ⟨rfl, hb1⟩; have hbW1 : Below wr.heap.size wr W1 := bb (bn b0 _) hb1; have e4 := (World.cell?_of_block (hbW1.block b HLT.out.1)).trans c4; have e4' := (World.cell?_of_block (hbW1.block b' HLT.out.2.1)).trans c4')
                have hown1 := own_below HO2.out hbW1
                have HOW := Lib.hid hown1
                have hwz := hbW1.size
                have hg2z := HO2.out.lt g2 rfl
                have HBW1 := Lib.hid hbW1
                clear hown1
                go_region_held3 (fun w' => w'.cell? ⟨b, o + k * 5 + 4, none⟩ = some (.slice Ai i.len ci) ∧ w'.cell? ⟨b', o' + k * 5 + 4, none⟩ = some (.slice Ai' i'.len ci')) (go_keep)
                  ((refine step_append_lies _ (by rfl) _ _ _ (by rfl) w.heap.size 83 i0 _ 2 48 Tryd.underlying84 hi0 hz0 hz1 hz2 rfl (by omega) (.slice (some ⟨g2, 0, none⟩) M2 cap2) M2 xs2 (by rfl) ((HOW.out.drew).alloc _) ⟨W1.heap.size, 0, none⟩ 1 1 [.slice Ai i.len ci, .slice Ai' i'.len ci'] (by rfl) (by rfl) (World.news_of_block (cs := #[.slice Ai i.len ci, .slice Ai' i'.len ci']) (t := 83) (fr := (0, 0)) (heap_alloc_new W1.drew _)) (by simp [Value.oneCell']) (by omega) (by unfold maxLen; omega) (by omega) (by simp; omega) (W1.heap.size + 1) (by simp) ?_; intro g3 cap3 w3 hown3 hg3 hat3 hlt3; have HO3 := Lib.hid hown3; have HG3 := Lib.hid hg3; have HAT3 := Lib.hid hat3; have e5 := (World.cell?_of_block (a := ⟨b, o + k * 5 + 4, none⟩) ((HG3.out.block b (by simp; omega) (by simp [Value.ownBlock]; omega)).trans ((ba (a := W1) b0 (.cells #[.slice Ai i.len ci, .slice Ai' i'.len ci'] 83)).block b (by omega)))).trans e4; have e5' := (World.cell?_of_block (a := ⟨b', o' + k * 5 + 4, none⟩) ((HG3.out.block b' (by simp; omega) (by simp [Value.ownBlock]; omega)).trans ((ba (a := W1) b0 (.cells #[.slice Ai i.len ci, .slice Ai' i'.len ci'] 83)).block b' (by omega)))).trans e4'; clear hown3 hg3 hat3 hlt3))
                go_wp2_with fail
                go_roundg (f1.len - (k + 1))
                case measure => omega
                case rel =>
                  have hbq : Below wr.heap.size wr (W1.drew.alloc (.cells #[.slice Ai i.len ci, .slice Ai' i'.len ci'] 83)) := ba (bd HBW1.out) _
                  refine ⟨k + 1, L2 ++ [(i, i')], by omega, by go_num, HNN.out, ?_⟩
                  exact PkAt.step HM2.out (HB2.out.trans (hbq.mono HB2.out.size)) HGB.out.2.1 (HGB.out.2.2.below hbq HGB.out.2.2.lt) HGB.out.1 HW2.out HSI.out.1 HSI.out.2 hg2z.1 HO3.out HG3.out (HAT3.out.imp id fun h => by rw [h]; simp)
              · have hip : decide ((0 : Int) < (i.len : Int)) = false := by simp; omega
                by_cases hi2 : 0 < i'.len
                · have hip2 : (0 : Int) < (i'.len : Int) := by omega
                  have HNN : Hid ((lsame (L2 ++ [(i, i')]) && (f1.drop (k + 1)).same (g1.drop (k + 1))) = T ∧ 2 * psum (L2 ++ [(i, i')]) + (L2 ++ [(i, i')]).length + 2 * ((f1.drop (k + 1)).icount + (g1.drop (k + 1)).icount) + (f1.drop (k + 1)).len + 1 ≤ G) := by
                    rw [lsame_app, lsame_one, Bool.and_assoc, psum_app]
                    simp only [psum, List.length_append, List.length_cons, List.length_nil]
                    exact ⟨HSAME.out, by have := hn3.out.2; omega⟩
                  have HL4 : Hid (L2.length ≤ 4000001) := by have := hn3.out.2; have := H0.out.2.2; show _ ≤ _; omega
                  have hL4 := HL4.out
                  generalize hM2 : L2.length = M2 at *
                  have HM2 := Lib.hid hM2
                  clear hM2 hn3 HSAME
                  go_wp2_with fail
                  go_quiet (fail)
                  go_wp2_with (go_at_call 60; refine (HAL.out _ (bn b0 _)).mono ?_; rintro e' W1 ⟨rfl, hb1⟩; have hbW1 : Below wr.heap.size wr W1 := bb (bn b0 _) hb1; have e4 := (World.cell?_of_block (hbW1.block b HLT.out.1)).trans c4; have e4' := (World.cell?_of_block (hbW1.block b' HLT.out.2.1)).trans c4')
                  have hown1 := own_below HO2.out hbW1
                  have HOW := Lib.hid hown1
                  have hwz := hbW1.size
                  have hg2z := HO2.out.lt g2 rfl
                  have HBW1 := Lib.hid hbW1
                  clear hown1
                  go_region_held3 (fun w' => w'.cell? ⟨b, o + k * 5 + 4, none⟩ = some (.slice Ai i.len ci) ∧ w'.cell? ⟨b', o' + k * 5 + 4, none⟩ = some (.slice Ai' i'.len ci')) (go_keep)
                    ((refine step_append_lies _ (by rfl) _ _ _ (by rfl) w.heap.size 83 i0 _ 2 48 Tryd.underlying84 hi0 hz0 hz1 hz2 rfl (by omega) (.slice (some ⟨g2, 0, none⟩) M2 cap2) M2 xs2 (by rfl) ((HOW.out.drew).alloc _) ⟨W1.heap.size, 0, none⟩ 1 1 [.slice Ai i.len ci, .slice Ai' i'.len ci'] (by rfl) (by rfl) (World.news_of_block (cs := #[.slice Ai i.len ci, .slice Ai' i'.len ci']) (t := 83) (fr := (0, 0)) (heap_alloc_new W1.drew _)) (by simp [Value.oneCell']) (by omega) (by unfold maxLen; omega) (by omega) (by simp; omega) (W1.heap.size + 1) (by simp) ?_; intro g3 cap3 w3 hown3 hg3 hat3 hlt3; have HO3 := Lib.hid hown3; have HG3 := Lib.hid hg3; have HAT3 := Lib.hid hat3; have e5 := (World.cell?_of_block (a := ⟨b, o + k * 5 + 4, none⟩) ((HG3.out.block b (by simp; omega) (by simp [Value.ownBlock]; omega)).trans ((ba (a := W1) b0 (.cells #[.slice Ai i.len ci, .slice Ai' i'.len ci'] 83)).block b (by omega)))).trans e4; have e5' := (World.cell?_of_block (a := ⟨b', o' + k * 5 + 4, none⟩) ((HG3.out.block b' (by simp; omega) (by simp [Value.ownBlock]; omega)).trans ((ba (a := W1) b0 (.cells #[.slice Ai i.len ci, .slice Ai' i'.len ci'] 83)).block b' (by omega)))).trans e4'; clear hown3 hg3 hat3 hlt3))
                  go_wp2_with fail
                  go_roundg (f1.len - (k + 1))
                  case measure => omega
                  case rel =>
                    have hbq : Below wr.heap.size wr (W1.drew.alloc (.cells #[.slice Ai i.len ci, .slice Ai' i'.len ci'] 83)) := ba (bd HBW1.out) _
                    refine ⟨k + 1, L2 ++ [(i, i')], by omega, by go_num, HNN.out, ?_⟩
                    exact PkAt.step HM2.out (HB2.out.trans (hbq.mono HB2.out.size)) HGB.out.2.1 (HGB.out.2.2.below hbq HGB.out.2.2.lt) HGB.out.1 HW2.out HSI.out.1 HSI.out.2 hg2z.1 HO3.out HG3.out (HAT3.out.imp id fun h => by rw [h]; simp)
                · have hip2 : decide ((0 : Int) < (i'.len : Int)) = false := by simp; omega
                  have hni : i = .nil := Fs.len_zero (by omega)
                  have hni' : i' = .nil := Fs.len_zero (by omega)
                  have HNN : Hid ((lsame L2 && (f1.drop (k + 1)).same (g1.drop (k + 1))) = T ∧ 2 * psum L2 + L2.length + 2 * ((f1.drop (k + 1)).icount + (g1.drop (k + 1)).icount) + (f1.drop (k + 1)).len + 1 ≤ G) := by
                    refine ⟨?_, by have := hn3.out.2; omega⟩
                    have h1 := HSAME.out
                    rw [hni, hni'] at h1
                    exact h1
                  have HL4 : Hid (L2.length ≤ 4000001) := by have := hn3.out.2; have := H0.out.2.2; show _ ≤ _; omega
                  clear hn3 HSAME hni hni'
                  go_wp2_with fail
                  go_quiet (fail)
                  go_wp2_with (go_at_call 60; refine (HAL.out _ (bn b0 _)).mono ?_; rintro e' W1 ⟨rfl, hb1⟩; have hbW1 : Below wr.heap.size wr W1 := bb (bn b0 _) hb1; have e4 := (World.cell?_of_block (hbW1.block b HLT.out.1)).trans c4; have e4' := (World.cell?_of_block (hbW1.block b' HLT.out.2.1)).trans c4')
                  have HBW1 := Lib.hid hbW1
                  go_wp2_with fail
                  go_roundg (f1.len - (k + 1))
                  case measure => omega
                  case rel => exact ⟨k + 1, L2, by omega, by go_num, HNN.out, g2, cap2, xs2, rfl, own_below HO2.out HBW1.out, HW2.out, HB2.out.trans (HBW1.out.mono HB2.out.size), HGB.out.1, HGB.out.2.1, HGB.out.2.2.below HBW1.out HGB.out.2.2.lt⟩
          · obtain rfl : k = f1.len := by omega
            have h1 : f1.drop f1.len = .nil := Fs.len_zero (by rw [Fs.drop_len]; omega)
            have h2 : g1.drop f1.len = .nil := Fs.len_zero (by rw [Fs.drop_len]; have := HLEN.out; omega)
            rw [h1, h2] at hn3
            have HE : Hid (lsame L2 = T ∧ 2 * psum L2 + L2.length < G) := by
              have := hn3.out
              simp only [Fs.icount, Fs.len, Fs.same, Bool.and_true] at this
              exact ⟨this.1, by omega⟩
            have HP : Hid (PkAt w I (.slice (some ⟨g2, 0, none⟩) L2.length cap2) L2 wr) := ⟨g2, cap2, xs2, rfl, hown2, hwl2, hbel2⟩
            clear hn3 hown2 hwl2 hbel2 h1 h2 hblk2
            go_wp2_with fail
            go_roundg (2 * psum L2 + L2.length)
            case measure => rw [← HG.out]; exact HE.out.2
            case rel => exact ⟨L2, ⟨HE.out.1, Nat.le_refl _, by have := HE.out.2; have := H0.out.2.2; omega⟩, HP.out⟩
      · obtain rfl : false = T := by rw [← H0.out.1, same_len hlen, Bool.and_false]
        have hli : ((f1.len : Int) != (g1.len : Int)) = true := by simp; omega
        clear hlen
        go_wp2_with fail
        go_ret
        exact ⟨rfl, HBEL.out.trans (HBO.out.mono HBEL.out.size)⟩
end Go.Proofs.YtmlijflappjfoaaDoor
end
