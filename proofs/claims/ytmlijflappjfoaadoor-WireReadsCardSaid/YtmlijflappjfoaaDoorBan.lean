/-
  Texts of the proof, joined: RRead RRead2 RRead3 WireLaw4 Laid. Conditions: as each names.
-/
import Derived.Test.YtmlijflappjfoaaDoorBam
import Derived.Test.YtmlijflappjfoaaDoorBah
import Derived.Deep.LoopGhost
import Derived.Test.YtmlijflappjfoaaDoorRows
import Derived.Test.YtmlijflappjfoaaDoorBaj
import Derived.PinnedBridge
import Derived.Lib.LaidIn
import Derived.Lib.LaidU8T
import Derived.Deep.DeepHandedRow
import Derived.Deep.DeepWitnessRowRef

section
/-
  Contracts of layer 9's reference: how the first field of a text is read (postmarkref09.one). Conditions: texts of at most a million bytes.
-/
namespace Go.Proofs.YtmlijflappjfoaaDoor
open Go.RowKit Go.PM
set_option maxRecDepth 100000
set_option maxHeartbeats 1500000
attribute [local go_sem ↓] Go.wp_at_zero Go.wp_at_succ

/-- The end of the reference's reading of one field, within d lists and behind the tag a. -/
def ROneEnd (w : World) (s : ByteArray) (d a : Nat) (e : Ending) (w' : World) : Prop :=
  Below w.heap.size w w' ∧ (((ffirst s.data.toList d a).2.2 ≠ 0 ∧ e = .returned (.tuple #[.agg #[.int .u64 0, .int .i64 0, .int .u64 0, .string ByteArray.empty, .slice none 0 0], .int .i64 0, .int .i64 ((ffirst s.data.toList d a).2.2 : Int)])) ∨
    ∃ (t n m : Nat) (y : Int) (x : ByteArray) (i : Fs) (A : Option Addr) (c : Nat), ffirst s.data.toList d a = (.cons t y n x i .nil, m, 0) ∧ e = .returned (.tuple #[.agg #[.int .u64 (t : Int), .int .i64 y, .int .u64 (n : Int), .string x, .slice A i.len c], .int .i64 (m : Int), .int .i64 0]) ∧ SlV w' (w.heap.size ≤ ·) (.slice A i.len c) i)
/-- The end of the reference's reading of all fields. -/
def RAllEnd (w : World) (s : ByteArray) (d : Nat) (e : Ending) (w' : World) : Prop :=
  ∃ (A : Option Addr) (c : Nat), e = .returned (.tuple #[.slice A (fget s.data.toList d 0).1.len c, .int .i64 ((fget s.data.toList d 0).2 : Int)]) ∧ SlV w' (w.heap.size ≤ ·) (.slice A (fget s.data.toList d 0).1.len c) (fget s.data.toList d 0).1 ∧ Below w.heap.size w w'
def RAllOk (N : Nat) : Prop := ∀ (s : ByteArray) (d : Nat) (w : World), s.size ≤ N → d ≤ 8 → s.size ≤ 1000000 → Calls Tryd.prog 63 #[.string s, .int .i64 (d : Int)] w (RAllEnd w s d)

theorem ext_rest (s : ByteArray) (k : Nat) : (s.extract k s.size).data.toList = s.data.toList.drop k := by
  rw [ByteArray.data_extract, Array.toList_extract, List.extract_eq_take_drop]
  exact List.take_of_length_le (by rw [List.length_drop, len_list]; omega)
theorem rone_any {N : Nat} (hall : RAllOk N) (s : ByteArray) (d a : Nat) (w : World) (hN : s.size ≤ N + 1) (hd : d ≤ 8) (hs : s.size ≤ 1000000) :
    Calls Tryd.prog 66 #[.string s, .int .i64 (d : Int), .int .u64 (a : Int)] w (ROneEnd w s d a) := by
  have HALL := Lib.hid hall
  clear hall
  have hxb := BlkAt.made w 65 #[.int .u64 0, .int .i64 0, .int .u64 0, .string ⟨#[]⟩, .slice none 0 0]
  have HX := Lib.hid hxb
  have HB := Lib.hid (ba (a := w) b0 (.cells #[.int .u64 0, .int .i64 0, .int .u64 0, .string ⟨#[]⟩, .slice none 0 0] 65))
  have HG := Lib.hid (rget_any s (w.alloc (.cells #[.int .u64 0, .int .i64 0, .int .u64 0, .string ⟨#[]⟩, .slice none 0 0] 65)) (by omega))
  have hff : ffirst s.data.toList d a = fone (fun t => fget t (d + 1) 0) s.data.toList d a := rfl
  clear hxb
  go_enter Tryd.func66, Tryd.ntmps66
  go_wp2_with fail
  refine HG.out.mono ?_
  rintro e w1 ⟨rfl, hb2⟩
  have hz1 := hb2.size
  simp only [World.size_alloc] at hz1
  have hx1 := HX.out.below hb2 (by simp)
  have HB1 := Lib.hid (bb HB.out hb2)
  have hlw : w.heap.size < w1.heap.size := by omega
  have c0 := hx1.cell 0
  have c1 := hx1.cell 1
  have c2 := hx1.cell 2
  have c3 := hx1.cell 3
  have c4 := hx1.cell 4
  have f0 := hx1.free 0
  have f1 := hx1.free 1
  have f2 := hx1.free 2
  have f3 := hx1.free 3
  have f4 := hx1.free 4
  simp at c0 c1 c2 c3 c4
  have HEE : Hid (∀ (g : Nat) (w' : World), ffirst s.data.toList d a = (.nil, 0, g) → g ≠ 0 → Tch (fun j => j = w.heap.size) w1 w' → ROneEnd w s d a (.returned (.tuple #[.agg #[.int .u64 0, .int .i64 0, .int .u64 0, .string ByteArray.empty, .slice none 0 0], .int .i64 0, .int .i64 (g : Int)])) w') := fun g w' hf hg0 ht =>
    ⟨HB1.out.trans (ht.toBelowB HB1.out.size fun g hg e => by omega), .inl ⟨by rw [hf]; exact hg0, by rw [hf]⟩⟩
  clear hb2
  unfold fone at hff
  by_cases hv : (vget s.data.toList).2.2 = 0
  · rw [if_neg (by rw [hv]; simp)] at hff
    obtain ⟨v1, v2, v3, v4, v5⟩ := vget_ok hv
    rw [len_list] at v2
    obtain ⟨T, hT⟩ : ∃ T, T = (vget s.data.toList).1 / 4 := ⟨_, rfl⟩
    obtain ⟨Y, hY⟩ : ∃ Y, Y = (vget s.data.toList).1 % 4 := ⟨_, rfl⟩
    have hq : ((vget s.data.toList).1 : Int) / 4 = (T : Int) := by omega
    have hq2 : ((vget s.data.toList).1 : Int) % 4 = (Y : Int) := by omega
    rw [← hT, ← hY] at hff
    rw [hv]
    have hY4 : Y ≤ 3 := by omega
    have hV64 : (vget s.data.toList).1 < 18446744073709551616 := v4
    have hT62 : T ≤ 4611686018427387904 := by omega
    generalize (vget s.data.toList).1 = V at *
    generalize (vget s.data.toList).2.1 = M at *
    clear hv hT hY
    by_cases t0 : T = 0 ∨ 4294967296 < T
    · rw [if_pos t0] at hff
      have HE : Hid (∀ w', Tch (fun j => j = w.heap.size) w1 w' → ROneEnd w s d a (.returned (.tuple #[.agg #[.int .u64 0, .int .i64 0, .int .u64 0, .string ByteArray.empty, .slice none 0 0], .int .i64 0, .int .i64 18])) w') := fun w' ht => HEE.out 18 w' hff (by decide) ht
      clear hff
      rcases t0 with rfl | t0
      · go_wp2_with fail
        refine bodyPost_ret (v := .tuple #[.agg #[.int .u64 0, .int .i64 0, .int .u64 0, .string ByteArray.empty, .slice none 0 0], .int .i64 0, .int .i64 18]) (by simp [results, Tryd.results66, go_sem, c0, c1, c2, c3, c4, hlw]; try rfl) rfl (HE.out _ ((res_tch _ _ _ _ _ _ _).more _))
      · have ti0 : ((T : Int) == 0) = false := by rw [beq_eq_false_iff_ne]; omega
        go_wp2_with fail
        refine bodyPost_ret (v := .tuple #[.agg #[.int .u64 0, .int .i64 0, .int .u64 0, .string ByteArray.empty, .slice none 0 0], .int .i64 0, .int .i64 18]) (by simp [results, Tryd.results66, go_sem, c0, c1, c2, c3, c4, hlw]; try rfl) rfl (HE.out _ ((res_tch _ _ _ _ _ _ _).more _))
    have ti0 : ((T : Int) == 0) = false := by rw [beq_eq_false_iff_ne]; omega
    have ti1 : decide ((4294967296 : Int) < (T : Int)) = false := by simp; omega
    rw [if_neg t0] at hff
    by_cases y3 : Y = 3
    · subst y3
      rw [if_pos rfl] at hff
      have HE : Hid (∀ w', Tch (fun j => j = w.heap.size) w1 w' → ROneEnd w s d a (.returned (.tuple #[.agg #[.int .u64 0, .int .i64 0, .int .u64 0, .string ByteArray.empty, .slice none 0 0], .int .i64 0, .int .i64 8])) w') := fun w' ht => HEE.out 8 w' hff (by decide) ht
      clear hff
      go_wp2_with fail
      refine bodyPost_ret (v := .tuple #[.agg #[.int .u64 0, .int .i64 0, .int .u64 0, .string ByteArray.empty, .slice none 0 0], .int .i64 0, .int .i64 8]) (by simp [results, Tryd.results66, go_sem, c0, c1, c2, c3, c4, hlw]; try rfl) rfl (HE.out _ ((res_tch _ _ _ _ _ _ _).more _))
    rw [if_neg y3] at hff
    have hy3 : ((Y : Int) == 3) = false := by rw [beq_eq_false_iff_ne]; omega
    by_cases hta : T ≤ a
    · rw [if_pos hta] at hff
      have hti : (T : Int) ≤ (a : Int) := by omega
      have HE : Hid (∀ w', Tch (fun j => j = w.heap.size) w1 w' → ROneEnd w s d a (.returned (.tuple #[.agg #[.int .u64 0, .int .i64 0, .int .u64 0, .string ByteArray.empty, .slice none 0 0], .int .i64 0, .int .i64 7])) w') := fun w' ht => HEE.out 7 w' hff (by decide) ht
      clear hff hta
      go_wp2_with fail
      refine bodyPost_ret (v := .tuple #[.agg #[.int .u64 0, .int .i64 0, .int .u64 0, .string ByteArray.empty, .slice none 0 0], .int .i64 0, .int .i64 7]) (by simp [results, Tryd.results66, go_sem, c0, c1, c2, c3, c4, hlw]; try rfl) rfl (HE.out _ ((res_tch _ _ _ _ _ _ _).more _))
    rw [if_neg hta] at hff
    have hti : (a : Int) < (T : Int) := by omega
    have hti2 : decide ((T : Int) ≤ (a : Int)) = false := decide_eq_false (by omega)
    have hMs : (M : Int) ≤ (s.size : Int) := by omega
    have hrest := ext_rest s M
    have HG2 : Hid (∀ x : World, Calls Tryd.prog 79 #[.string (s.extract M s.size)] x fun e w' => e = .returned (.tuple #[.int .u64 ((vget (s.data.toList.drop M)).1 : Int), .int .i64 ((vget (s.data.toList.drop M)).2.1 : Int), .int .i64 ((vget (s.data.toList.drop M)).2.2 : Int)]) ∧ Below x.heap.size x w') := fun x => by
      have := rget_any (s.extract M s.size) x (by rw [ByteArray.size_extract]; omega)
      rw [hrest] at this
      exact this
    have HXA := Lib.hid (hx1.more (.cells #[.int .u64 (T : Int), .int .i64 (Y : Int), .int .u64 0, .string ⟨#[]⟩, .slice none 0 0] 65))
    have HFA := Lib.hid (BlkAt.made w1 65 #[.int .u64 (T : Int), .int .i64 (Y : Int), .int .u64 0, .string ⟨#[]⟩, .slice none 0 0])
    have HBA := Lib.hid (ba HB1.out (.cells #[.int .u64 (T : Int), .int .i64 (Y : Int), .int .u64 0, .string ⟨#[]⟩, .slice none 0 0] 65))
    clear hx1 hrest
    go_wp2_with fail
    refine (HG2.out _).mono ?_
    rintro e w2 ⟨rfl, hb2⟩
    have hz2 := hb2.size
    simp only [World.size_alloc] at hz2
    have HX2 := Lib.hid (HXA.out.below hb2 HXA.out.lt)
    have HF2 := Lib.hid (HFA.out.below hb2 HFA.out.lt)
    have HB2 := Lib.hid (bb HBA.out hb2)
    clear hb2 c0 c1 c2 c3 c4 f0 f1 f2 f3 f4 HG HG2
    have hlw2 : w.heap.size < w2.heap.size := by omega
    have hlw3 : w1.heap.size < w2.heap.size := by omega
    have c0 := HX2.out.cell 0
    have c1 := HX2.out.cell 1
    have c2 := HX2.out.cell 2
    have c3 := HX2.out.cell 3
    have c4 := HX2.out.cell 4
    have f0 := HX2.out.free 0
    have f1 := HX2.out.free 1
    have f2 := HX2.out.free 2
    have f3 := HX2.out.free 3
    have f4 := HX2.out.free 4
    have z0 := HF2.out.cell 0
    have z1 := HF2.out.cell 1
    have z2 := HF2.out.cell 2
    have z3 := HF2.out.cell 3
    have z4 := HF2.out.cell 4
    have g2 := HF2.out.free 2
    have g3 := HF2.out.free 3
    have g4 := HF2.out.free 4
    simp at c0 c1 c2 c3 c4 z0 z1 z2 z3 z4
    have HEE2 : Hid (∀ (g : Nat) (w' : World), ffirst s.data.toList d a = (.nil, 0, g) → g ≠ 0 → Tch (fun j => j = w.heap.size) w2 w' → ROneEnd w s d a (.returned (.tuple #[.agg #[.int .u64 0, .int .i64 0, .int .u64 0, .string ByteArray.empty, .slice none 0 0], .int .i64 0, .int .i64 (g : Int)])) w') := fun g w' hf hg0 ht =>
      ⟨HB2.out.trans (ht.toBelowB HB2.out.size fun g hg e => by omega), .inl ⟨by rw [hf]; exact hg0, by rw [hf]⟩⟩
    clear HEE
    by_cases hv : (vget (s.data.toList.drop M)).2.2 = 0
    · rw [if_neg (by rw [hv]; simp)] at hff
      obtain ⟨u1, u2, u3, u4, u5⟩ := vget_ok hv
      rw [List.length_drop, len_list] at u2
      rw [hv]
      rw [len_list] at hff
      have hP64 : (vget (s.data.toList.drop M)).1 < 18446744073709551616 := u4
      generalize (vget (s.data.toList.drop M)).1 = P at *
      generalize (vget (s.data.toList.drop M)).2.1 = Q at *
      obtain ⟨R, hR⟩ : ∃ R, M + Q = R := ⟨_, rfl⟩
      have hMQ : (M : Int) + (Q : Int) = (R : Int) := by omega
      have hRs : R ≤ s.size := by omega
      rw [hR] at hff
      clear hv hR
      have HSET : Hid (∀ (p : Nat) (v : Value) (w' : World), Tch (fun j => j = w.heap.size) (w2.setCell ⟨w1.heap.size, p, none⟩ v) w' → Tch (fun j => j = w.heap.size ∨ j = w1.heap.size) w2 w') := fun p v w' h => ((Tch.refl (fun j => j = w.heap.size ∨ j = w1.heap.size) w2).put (p := ⟨w1.heap.size, p, none⟩) (fun _ => .inr rfl) v).trans h fun _ _ h => .inl h
      have HOK : Hid (∀ (t n m : Nat) (y : Int) (x : ByteArray) (i : Fs) (A : Option Addr) (c : Nat) (w3 w' : World), ffirst s.data.toList d a = (.cons t y n x i .nil, m, 0) → Below w2.heap.size w2 w3 → SlV w3 (w2.heap.size ≤ ·) (.slice A i.len c) i → Tch (fun j => j = w.heap.size ∨ j = w1.heap.size) w3 w' →
          ROneEnd w s d a (.returned (.tuple #[.agg #[.int .u64 (t : Int), .int .i64 y, .int .u64 (n : Int), .string x, .slice A i.len c], .int .i64 (m : Int), .int .i64 0])) w') := fun t n m y x i A c w3 w' hf hb3 hs3 ht => by
        have h3 := hb3.size
        have hb := bb HB2.out hb3
        exact ⟨hb.trans (ht.toBelowB hb.size fun g hg e => by rcases e with e | e <;> omega), .inr ⟨t, n, m, y, x, i, A, c, hf, rfl, (hs3.tch ht fun j hj e => by rcases e with e | e <;> omega).imp fun j hj => by omega⟩⟩
      by_cases y0 : Y = 0
      · subst y0
        rw [if_pos rfl] at hff
        have HE : Hid (∀ w', Tch (fun j => j = w.heap.size ∨ j = w1.heap.size) w2 w' → ROneEnd w s d a (.returned (.tuple #[.agg #[.int .u64 (T : Int), .int .i64 0, .int .u64 (P : Int), .string ByteArray.empty, .slice none 0 0], .int .i64 (R : Int), .int .i64 0])) w') := fun w' ht => HOK.out T P R 0 ByteArray.empty .nil none 0 w2 w' hff b0 (SlV.nil _ _ _ _) ht
        clear hff
        go_wp2_with fail
        refine bodyPost_ret (v := .tuple #[.agg #[.int .u64 (T : Int), .int .i64 0, .int .u64 (P : Int), .string ByteArray.empty, .slice none 0 0], .int .i64 (R : Int), .int .i64 0]) (by simp [results, Tryd.results66, go_sem, c0, c1, c2, c3, c4]; try rfl) rfl (HE.out _ (HSET.out _ _ _ (res_tch _ _ _ _ _ _ _)))
      rw [if_neg y0] at hff
      have hy0 : ((Y : Int) == 0) = false := by rw [beq_eq_false_iff_ne]; omega
      obtain ⟨L, hL⟩ : ∃ L, s.size - R = L := ⟨_, rfl⟩
      have hLi : (s.size : Int) - (R : Int) = (L : Int) := by omega
      have hL6 : L ≤ 1000000 := by omega
      rw [hL] at hff
      by_cases hb : L < P
      · rw [if_pos hb] at hff
        have hbi : (L : Int) < (P : Int) := by omega
        have HE : Hid (∀ w', Tch (fun j => j = w.heap.size) w2 w' → ROneEnd w s d a (.returned (.tuple #[.agg #[.int .u64 0, .int .i64 0, .int .u64 0, .string ByteArray.empty, .slice none 0 0], .int .i64 0, .int .i64 1])) w') := fun w' ht => HEE2.out 1 w' hff (by decide) ht
        clear hff hL
        go_wp2_with fail
        refine bodyPost_ret (v := .tuple #[.agg #[.int .u64 0, .int .i64 0, .int .u64 0, .string ByteArray.empty, .slice none 0 0], .int .i64 0, .int .i64 1]) (by simp [results, Tryd.results66, go_sem, c0, c1, c2, c3, c4]; try rfl) rfl (HE.out _ (res_tch _ _ _ _ _ _ _))
      rw [if_neg hb] at hff
      have hbi : (P : Int) ≤ (L : Int) := by omega
      have hbi2 : decide ((L : Int) < (P : Int)) = false := decide_eq_false (by omega)
      obtain ⟨E, hE⟩ : ∃ E, R + P = E := ⟨_, rfl⟩
      have hRP : (R : Int) + (P : Int) = (E : Int) := by omega
      have hRE : (R : Int) ≤ (E : Int) := by omega
      have hEs : (E : Int) ≤ (s.size : Int) := by omega
      have hext : (s.extract R E).data.toList = (s.data.toList.drop R).take P := by
        rw [← hE]; simp [ByteArray.data_extract, List.extract_eq_take_drop]
      rw [← hext, hE] at hff
      have hxsz : (s.extract R E).size = P := by rw [ByteArray.size_extract]; omega
      clear hL hE hext
      by_cases y1 : Y = 1
      · subst y1
        rw [if_pos rfl] at hff
        have HE : Hid (∀ w', Tch (fun j => j = w.heap.size ∨ j = w1.heap.size) w2 w' → ROneEnd w s d a (.returned (.tuple #[.agg #[.int .u64 (T : Int), .int .i64 1, .int .u64 0, .string (s.extract R E), .slice none 0 0], .int .i64 (E : Int), .int .i64 0])) w') := fun w' ht => HOK.out T 0 E 1 (s.extract R E) .nil none 0 w2 w' hff b0 (SlV.nil _ _ _ _) ht
        clear hff hxsz
        go_wp2_with fail
        refine bodyPost_ret (v := .tuple #[.agg #[.int .u64 (T : Int), .int .i64 1, .int .u64 0, .string (s.extract R E), .slice none 0 0], .int .i64 (E : Int), .int .i64 0]) (by simp [results, Tryd.results66, go_sem, c0, c1, c2, c3, c4]; try rfl) rfl (HE.out _ (HSET.out _ _ _ (res_tch _ _ _ _ _ _ _)))
      rw [if_neg y1] at hff
      obtain rfl : Y = 2 := by omega
      by_cases h8 : d = 8
      · rw [if_pos h8] at hff
        have hdi : ((d : Int) == 8) = true := by rw [beq_iff_eq]; omega
        have HE : Hid (∀ w', Tch (fun j => j = w.heap.size) w2 w' → ROneEnd w s d a (.returned (.tuple #[.agg #[.int .u64 0, .int .i64 0, .int .u64 0, .string ByteArray.empty, .slice none 0 0], .int .i64 0, .int .i64 9])) w') := fun w' ht => HEE2.out 9 w' hff (by decide) ht
        clear hff h8 hxsz
        go_wp2_with fail
        refine bodyPost_ret (v := .tuple #[.agg #[.int .u64 0, .int .i64 0, .int .u64 0, .string ByteArray.empty, .slice none 0 0], .int .i64 0, .int .i64 9]) (by simp [results, Tryd.results66, go_sem, c0, c1, c2, c3, c4]; try rfl) rfl (HE.out _ (res_tch _ _ _ _ _ _ _))
      rw [if_neg h8] at hff
      have hdi : ((d : Int) == 8) = false := by rw [beq_eq_false_iff_ne]; omega
      have hd1 : (d : Int) + 1 ≤ 8 := by omega
      have HAL : Hid (∀ x : World, Calls Tryd.prog 63 #[.string (s.extract R E), .int .i64 ((d : Int) + 1)] x (RAllEnd x (s.extract R E) (d + 1))) := fun x => by
        have := HALL.out (s.extract R E) (d + 1) x (by omega) (by omega) (by omega)
        have e : ((d + 1 : Nat) : Int) = (d : Int) + 1 := by omega
        rw [e] at this
        exact this
      clear h8 hxsz
      go_wp2_with fail
      refine (HAL.out _).mono ?_
      rintro e w3 ⟨A, c, rfl, hs3, hb3⟩
      have hz3 := hb3.size
      have HX3 := Lib.hid (HX2.out.below hb3 HX2.out.lt)
      have HF3 := Lib.hid (HF2.out.below hb3 HF2.out.lt)
      have HS3 := Lib.hid hs3
      have HB3 := Lib.hid hb3
      clear hb3 hs3 c0 c1 c2 c3 c4 f0 f1 f2 f3 f4 z0 z1 z2 z3 z4 g2 g3 g4 HAL
      have hlw4 : w.heap.size < w3.heap.size := by omega
      have hlw5 : w1.heap.size < w3.heap.size := by omega
      have c0 := HX3.out.cell 0
      have c1 := HX3.out.cell 1
      have c2 := HX3.out.cell 2
      have c3 := HX3.out.cell 3
      have c4 := HX3.out.cell 4
      have f0 := HX3.out.free 0
      have f1 := HX3.out.free 1
      have f2 := HX3.out.free 2
      have f3 := HX3.out.free 3
      have f4 := HX3.out.free 4
      have z0 := HF3.out.cell 0
      have z1 := HF3.out.cell 1
      have z2 := HF3.out.cell 2
      have z3 := HF3.out.cell 3
      have z4 := HF3.out.cell 4
      have g4 := HF3.out.free 4
      simp at c0 c1 c2 c3 c4 z0 z1 z2 z3 z4
      generalize hGG : fget (s.extract R E).data.toList (d + 1) 0 = GG at *
      by_cases hg : GG.2 = 0
      · rw [if_neg (by rw [hg]; simp)] at hff
        rw [hg]
        have HE : Hid (∀ w', Tch (fun j => j = w.heap.size ∨ j = w1.heap.size) w3 w' → ROneEnd w s d a (.returned (.tuple #[.agg #[.int .u64 (T : Int), .int .i64 2, .int .u64 0, .string ByteArray.empty, .slice A GG.1.len c], .int .i64 (E : Int), .int .i64 0])) w') := fun w' ht => HOK.out T 0 E 2 ByteArray.empty GG.1 A c w3 w' hff HB3.out HS3.out ht
        have HSET3 : Hid (∀ (p : Nat) (v : Value) (w' : World), Tch (fun j => j = w.heap.size) (w3.setCell ⟨w1.heap.size, p, none⟩ v) w' → Tch (fun j => j = w.heap.size ∨ j = w1.heap.size) w3 w') := fun p v w' h => ((Tch.refl (fun j => j = w.heap.size ∨ j = w1.heap.size) w3).put (p := ⟨w1.heap.size, p, none⟩) (fun _ => .inr rfl) v).trans h fun _ _ h => .inl h
        clear hff hg hGG
        generalize GG.1.len = LL at *
        go_wp2_with fail
        refine bodyPost_ret (v := .tuple #[.agg #[.int .u64 (T : Int), .int .i64 2, .int .u64 0, .string ByteArray.empty, .slice A LL c], .int .i64 (E : Int), .int .i64 0]) (by simp [results, Tryd.results66, go_sem, c0, c1, c2, c3, c4]; try rfl) rfl (HE.out _ (HSET3.out _ _ _ (res_tch _ _ _ _ _ _ _)))
      · rw [if_pos hg] at hff
        have HE : Hid (∀ w', Tch (fun j => j = w.heap.size) w3 w' → ROneEnd w s d a (.returned (.tuple #[.agg #[.int .u64 0, .int .i64 0, .int .u64 0, .string ByteArray.empty, .slice none 0 0], .int .i64 0, .int .i64 (GG.2 : Int)])) w') := fun w' ht =>
          ⟨(bb HB2.out HB3.out).trans (ht.toBelowB (bb HB2.out HB3.out).size fun g hg e => by omega), .inl ⟨by rw [hff]; exact hg, by rw [hff]⟩⟩
        have hgi : ((GG.2 : Int) != 0) = true := by rw [bne_iff_ne]; omega
        clear hff hg hGG HS3
        generalize GG.2 = GC at *
        generalize GG.1.len = LL at *
        go_wp2_with fail
        refine bodyPost_ret (v := .tuple #[.agg #[.int .u64 0, .int .i64 0, .int .u64 0, .string ByteArray.empty, .slice none 0 0], .int .i64 0, .int .i64 (GC : Int)]) (by simp [results, Tryd.results66, go_sem, c0, c1, c2, c3, c4]; try rfl) rfl (HE.out _ (res_tch _ _ _ _ _ _ _))
    · rw [if_pos hv] at hff
      have HE : Hid (∀ w', Tch (fun j => j = w.heap.size) w2 w' → ROneEnd w s d a (.returned (.tuple #[.agg #[.int .u64 0, .int .i64 0, .int .u64 0, .string ByteArray.empty, .slice none 0 0], .int .i64 0, .int .i64 ((vget (s.data.toList.drop M)).2.2 : Int)])) w') := fun w' ht => HEE2.out _ w' hff hv ht
      clear hff
      generalize vget (s.data.toList.drop M) = V2 at *
      have hgi : ((V2.2.2 : Int) != 0) = true := by rw [bne_iff_ne]; omega
      clear hv
      go_wp2_with fail
      refine bodyPost_ret (v := .tuple #[.agg #[.int .u64 0, .int .i64 0, .int .u64 0, .string ByteArray.empty, .slice none 0 0], .int .i64 0, .int .i64 (V2.2.2 : Int)]) (by simp [results, Tryd.results66, go_sem, c0, c1, c2, c3, c4]; try rfl) rfl (HE.out _ (res_tch _ _ _ _ _ _ _))
  · rw [if_pos hv] at hff
    have HE : Hid (∀ w', Tch (fun j => j = w.heap.size) w1 w' → ROneEnd w s d a (.returned (.tuple #[.agg #[.int .u64 0, .int .i64 0, .int .u64 0, .string ByteArray.empty, .slice none 0 0], .int .i64 0, .int .i64 ((vget s.data.toList).2.2 : Int)])) w') := fun w' ht => HEE.out _ w' hff hv ht
    clear hff
    generalize vget s.data.toList = V at *
    have hgi : ((V.2.2 : Int) != 0) = true := by rw [bne_iff_ne]; omega
    clear hv
    go_wp2_with fail
    refine bodyPost_ret (v := .tuple #[.agg #[.int .u64 0, .int .i64 0, .int .u64 0, .string ByteArray.empty, .slice none 0 0], .int .i64 0, .int .i64 (V.2.2 : Int)]) (by simp [results, Tryd.results66, go_sem, c0, c1, c2, c3, c4]; try rfl) rfl (HE.out _ (res_tch _ _ _ _ _ _ _))
end Go.Proofs.YtmlijflappjfoaaDoor
end

section
/-
  Contracts of layer 9's reference, given that all fields are read (RAllOk): Get and First. Conditions: texts of at most a million bytes.
-/
namespace Go.Proofs.YtmlijflappjfoaaDoor
open Go.RowKit Go.PM
set_option maxRecDepth 100000
set_option maxHeartbeats 1500000
attribute [local go_sem ↓] Go.wp_at_zero Go.wp_at_succ

/-- The end of the reference's Get. -/
def RGetEnd (w : World) (s : ByteArray) (e : Ending) (w' : World) : Prop :=
  ∃ (A : Option Addr) (c : Nat), e = .returned (.tuple #[.slice A (fgets s.data.toList).1.len c, .int .i64 ((fgets s.data.toList).2 : Int)]) ∧ SlV w' (w.heap.size ≤ ·) (.slice A (fgets s.data.toList).1.len c) (fgets s.data.toList).1 ∧ Below w.heap.size w w'
theorem rwget_of {N : Nat} (hall : RAllOk N) (s : ByteArray) (w : World) (hN : s.size ≤ N) (hs : s.size ≤ 1000000) : Calls Tryd.prog 42 #[.string s] w (RGetEnd w s) := by
  by_cases hbig : 65536 < s.size
  · have HE : Hid (RGetEnd w s (.returned (.tuple #[.slice none 0 0, .int .i64 4])) w) := by
      have h : fgets s.data.toList = (.nil, 4) := by unfold fgets; rw [len_list, if_pos hbig]
      unfold Hid RGetEnd
      rw [h]
      exact ⟨none, 0, rfl, SlV.nil _ _ _ _, b0⟩
    go_enter Tryd.func42, Tryd.ntmps42
    go_wp2
    go_ret2
    exact HE.out
  · have hf : fgets s.data.toList = fget s.data.toList 0 0 := by unfold fgets; rw [len_list, if_neg hbig]
    have HAL := Lib.hid (hall s 0 w hN (by omega) hs)
    have HGE : Hid (∀ e w', RAllEnd w s 0 e w' → ∃ A c, e = .returned (.tuple #[.slice A (fgets s.data.toList).1.len c, .int .i64 ((fgets s.data.toList).2 : Int)]) ∧ RGetEnd w s e w') := fun e w' h => by
      obtain ⟨A, c, rfl, h1, h2⟩ := h
      rw [← hf] at h1 ⊢
      exact ⟨A, c, rfl, A, c, rfl, h1, h2⟩
    clear hf hall
    go_enter Tryd.func42, Tryd.ntmps42
    go_wp2_with fail
    refine HAL.out.mono ?_
    intro e w2 h
    obtain ⟨A, c, rfl, hge⟩ := HGE.out e w2 h
    have HG := Lib.hid hge
    clear h hge
    generalize (fgets s.data.toList).2 = G at *
    generalize (fgets s.data.toList).1.len = LL at *
    go_wp2_with fail
    go_ret2
    exact HG.out
theorem rfirst_of {N : Nat} (hall : RAllOk N) (s : ByteArray) (w : World) (hN : s.size ≤ N + 1) (hs : s.size ≤ 1000000) : Calls Tryd.prog 44 #[.string s] w (ROneEnd w s 0 0) := by
  have HX := Lib.hid (BlkAt.made w 65 #[.int .u64 0, .int .i64 0, .int .u64 0, .string ⟨#[]⟩, .slice none 0 0])
  have HB := Lib.hid (ba (a := w) b0 (.cells #[.int .u64 0, .int .i64 0, .int .u64 0, .string ⟨#[]⟩, .slice none 0 0] 65))
  have HO := Lib.hid (rone_any hall s 0 0 (w.alloc (.cells #[.int .u64 0, .int .i64 0, .int .u64 0, .string ⟨#[]⟩, .slice none 0 0] 65)) hN (by omega) hs)
  clear hall
  go_enter Tryd.func44, Tryd.ntmps44
  go_wp2_with fail
  refine HO.out.mono ?_
  rintro e w1 ⟨hb2, hor⟩
  have hz1 := hb2.size
  simp only [World.size_alloc] at hz1
  have hx1 := HX.out.below hb2 (by simp)
  have HB1 := Lib.hid (bb HB.out hb2)
  have hlw : w.heap.size < w1.heap.size := by omega
  have c0 := hx1.cell 0
  have c1 := hx1.cell 1
  have c2 := hx1.cell 2
  have c3 := hx1.cell 3
  have c4 := hx1.cell 4
  have f0 := hx1.free 0
  have f1 := hx1.free 1
  have f2 := hx1.free 2
  have f3 := hx1.free 3
  have f4 := hx1.free 4
  simp at c0 c1 c2 c3 c4
  clear hb2 hx1
  rcases hor with ⟨hg0, rfl⟩ | ⟨t, n, m, y, x, i, A, c, hfe, rfl, hs4⟩
  · have HE : Hid (∀ w', Tch (fun j => j = w.heap.size) w1 w' → ROneEnd w s 0 0 (.returned (.tuple #[.agg #[.int .u64 0, .int .i64 0, .int .u64 0, .string ByteArray.empty, .slice none 0 0], .int .i64 0, .int .i64 ((ffirst s.data.toList 0 0).2.2 : Int)])) w') := fun w' ht => ⟨HB1.out.trans (ht.toBelowB HB1.out.size fun g hg e => by omega), .inl ⟨hg0, rfl⟩⟩
    generalize (ffirst s.data.toList 0 0).2.2 = g at *
    clear hg0
    go_wp2_with fail
    refine bodyPost_ret (v := .tuple #[.agg #[.int .u64 0, .int .i64 0, .int .u64 0, .string ByteArray.empty, .slice none 0 0], .int .i64 0, .int .i64 (g : Int)]) (by simp [results, Tryd.results44, go_sem, c0, c1, c2, c3, c4]; try rfl) rfl (HE.out _ (res_tch _ _ _ _ _ _ _))
  · have HE : Hid (∀ w', Tch (fun j => j = w.heap.size) w1 w' → ROneEnd w s 0 0 (.returned (.tuple #[.agg #[.int .u64 (t : Int), .int .i64 y, .int .u64 (n : Int), .string x, .slice A i.len c], .int .i64 (m : Int), .int .i64 0])) w') := fun w' ht =>
      ⟨HB1.out.trans (ht.toBelowB HB1.out.size fun g hg e => by omega), .inr ⟨t, n, m, y, x, i, A, c, hfe, rfl, (hs4.tch ht fun j hj e => by simp only [World.size_alloc] at hj; omega).imp fun j hj => by simp only [World.size_alloc] at hj; omega⟩⟩
    clear hfe hs4
    generalize i.len = LL at *
    go_wp2_with fail
    refine bodyPost_ret (v := .tuple #[.agg #[.int .u64 (t : Int), .int .i64 y, .int .u64 (n : Int), .string x, .slice A LL c], .int .i64 (m : Int), .int .i64 0]) (by simp [results, Tryd.results44, go_sem, c0, c1, c2, c3, c4]; try rfl) rfl (HE.out _ (res_tch _ _ _ _ _ _ _))
end Go.Proofs.YtmlijflappjfoaaDoor
end

section
/-
  Contracts of layer 9's reference: how all fields are read. Conditions: texts of at most a million bytes.
-/
namespace Go.Proofs.YtmlijflappjfoaaDoor
open Go.RowKit Go.PM
set_option maxRecDepth 100000
set_option maxHeartbeats 1500000
attribute [local go_sem ↓] Go.wp_at_zero Go.wp_at_succ

/-- Where the loop stands: the fields read so far, the text left. -/
def RRAt (w : World) (d : Nat) (R : Fs × Nat) (s : ByteArray) (vs vv va : Value) (kk : Nat) (wr : World) : Prop :=
  ∃ (a : Nat) (F : Fs) (xs : List Value), vs = .string (s.extract kk s.size) ∧ va = .int .u64 (a : Int) ∧ wr.ownsRow w.heap.size 65 5 vv F.len xs ∧ Cls wr (fun q => w.heap.size ≤ q ∧ vv.ownBlock ≠ some q) xs F ∧ Below w.heap.size w wr ∧ R = fthen F (fget (s.data.toList.drop kk) d a) ∧ F.len ≤ kk
theorem rall_zero : RAllOk 0 := by
  intro s d w hN hd hs
  have hl : s.data.toList = [] := List.eq_nil_of_length_eq_zero (by rw [len_list]; omega)
  have HE : Hid (∀ w', Below w.heap.size w w' → RAllEnd w s d (.returned (.tuple #[.slice none 0 0, .int .i64 0])) w') := fun w' hb => by
    unfold RAllEnd
    rw [hl]
    exact ⟨none, 0, rfl, SlV.nil _ _ _ _, hb⟩
  have hd1 : decide (0 < s.size) = false := decide_eq_false (by omega)
  have hd2 : decide ((0 : Int) < (s.size : Int)) = false := decide_eq_false (by omega)
  clear hl hN hs
  go_enter Tryd.func63, Tryd.ntmps63
  go_wp2_with fail
  go_loopg [0, 6, 7] 0 (fun gk vs vv va wr => vs = .string s ∧ vv = .slice none 0 0 ∧ va = .int .u64 0 ∧ wr = w)
  case atStart => exact ⟨rfl, rfl, rfl, rfl⟩
  case round =>
    obtain ⟨rfl, rfl, rfl, rfl⟩ := hrel
    go_wp2_with fail
    go_ret2
    exact HE.out _ b0
theorem rrat_step {w wr w4 wq w5 : World} {d k m t n g cap3 : Nat} {s : ByteArray} {R : Fs × Nat} {vv : Value} {y : Int} {x : ByteArray} {i : Fs} {A : Option Addr} {c a : Nat} {F : Fs} {xs : List Value}
    (hown : wr.ownsRow w.heap.size 65 5 vv F.len xs) (hcls : Cls wr (fun q => w.heap.size ≤ q ∧ vv.ownBlock ≠ some q) xs F) (hb : Below w.heap.size w wr) (hR : R = fthen F (fget (s.data.toList.drop k) d a)) (hF : F.len ≤ k)
    (hk : k < s.size) (hf : ffirst (s.data.toList.drop k) d a = (.cons t y n x i .nil, m, 0)) (hb4 : Below wr.heap.size wr w4) (hs4 : SlV w4 (wr.heap.size ≤ ·) (.slice A i.len c) i) (hbq : Below w4.heap.size w4 wq)
    (hown5 : w5.ownsRow w.heap.size 65 5 (.slice (some ⟨g, 0, none⟩) (F.len + 1) cap3) (F.len + 1) (xs ++ [.int .u64 (t : Int), .int .i64 y, .int .u64 (n : Int), .string x, .slice A i.len c])) (hg5 : wq.grownBy w5 vv.ownBlock) (hat : vv.ownBlock = some g ∨ g = wq.heap.size) :
    RRAt w d R s (.string (s.extract (k + m) s.size)) (.slice (some ⟨g, 0, none⟩) (F.len + 1) cap3) (.int .u64 (t : Int)) (k + m) w5 := by
  have hl : (F.app (.cons t y n x i .nil)).len = F.len + 1 := by rw [Fs.app_len]; simp [Fs.len]
  have hoq : ∀ g', vv.ownBlock = some g' → w.heap.size ≤ g' ∧ g' < wr.heap.size := fun g' h => hown.lt g' h
  have hsl : s.data.toList.length = s.size := len_list s
  have hm : 2 ≤ m := by
    obtain ⟨t', y', n', x', i', m', e1, e2, _⟩ := fone_ok (rec := fun t => fget t (d + 1) 0) (s := s.data.toList.drop k) (deep := d) (last := a) (by
      have : fone (fun t => fget t (d + 1) 0) (s.data.toList.drop k) d a = _ := hf
      rw [this])
    have : ffirst (s.data.toList.drop k) d a = _ := e1
    rw [hf] at this
    simp only [Prod.mk.injEq] at this
    omega
  have htq : Tch (fun q => vv.ownBlock = some q) wq w5 := Tch.grown hg5 fun q hq _ => hq
  have hrq : Below wr.heap.size wr wq := bb hb4 hbq
  have hwq : Below w.heap.size w wq := bb hb hrq
  refine ⟨t, F.app (.cons t y n x i .nil), xs ++ [.int .u64 (t : Int), .int .i64 y, .int .u64 (n : Int), .string x, .slice A i.len c], rfl, rfl, by rw [hl]; exact hown5, ?_, ?_, ?_, by rw [hl]; omega⟩
  · have h1 := (hcls.below hrq)
    have h2 := ((hs4.lt.below hbq).imp (J := fun q => w.heap.size ≤ q ∧ vv.ownBlock ≠ some q) fun q hq => ⟨Nat.le_trans hb.size hq.1, fun e => by have := (hoq _ e).2; have := hq.1; omega⟩)
    have h3 := h1.app (show Cls wq (fun q => w.heap.size ≤ q ∧ vv.ownBlock ≠ some q) [.int .u64 (t : Int), .int .i64 y, .int .u64 (n : Int), .string x, .slice A i.len c] (.cons t y n x i .nil) from ⟨rfl, rfl, rfl, rfl, h2, trivial⟩)
    exact Cls.grow (v := vv) h3 hg5 hat
  · exact hwq.trans (htq.toBelowB hwq.size fun q hq e => by have := (hoq q e).1; omega)
  · have h0 : (s.data.toList.drop k).length ≠ 0 := by rw [List.length_drop, hsl]; omega
    rw [hR, fget_step h0 (by rw [hf]), hf, fthen_app]
    show fthen F (fthen (.cons t y n x i .nil) (fget ((s.data.toList.drop k).drop m) d t)) = _
    rw [List.drop_drop]
theorem rall_step {N : Nat} (hall : RAllOk N) : RAllOk (N + 1) := by
  intro s d w hN hd hs
  have HALL := Lib.hid hall
  have hsl : s.data.toList.length = s.size := len_list s
  obtain ⟨i0, hi0, hz0, hz1, hz2⟩ := info_parts info_rfield
  generalize hR : fget s.data.toList d 0 = R
  have HR := Lib.hid hR
  have hs00 : s.extract 0 s.size = s := by ext1; simp
  have H0 : Hid (RRAt w d R s (.string s) (.slice none 0 0) (.int .u64 0) 0 w) := ⟨0, .nil, [], by rw [hs00], rfl, World.ownsRow_nil _ _ _ _, trivial, b0, by
    have e : ∀ q : Fs × Nat, (q.2 ≠ 0 → q.1 = .nil) → fthen .nil q = q := fun q hq => by
      by_cases h : q.2 = 0
      · rw [fthen_yes h]; exact Prod.ext rfl h.symm
      · rw [fthen_err h]; exact Prod.ext (hq h).symm rfl
    rw [List.drop_zero, ← hR, e]
    intro hne
    by_cases h0 : s.data.toList.length = 0
    · rw [List.eq_nil_of_length_eq_zero h0] at hne; exact absurd rfl hne
    by_cases h1 : (ffirst s.data.toList d 0).2.2 ≠ 0
    · rw [fget_err h0 h1]
    · rw [fget_step h0 (Classical.not_not.1 h1)] at hne ⊢
      generalize fget (s.data.toList.drop (ffirst s.data.toList d 0).2.1) d (ffirst s.data.toList d 0).1.tag = q at *
      by_cases hq : q.2 = 0
      · rw [fthen_yes hq] at hne; exact absurd rfl hne
      · rw [fthen_err hq], Nat.zero_le _⟩
  have HD : Hid (∀ e w', (e = .returned (.tuple #[.slice none 0 0, .int .i64 (R.2 : Int)]) ∧ R.1 = .nil ∨ ∃ A c, e = .returned (.tuple #[.slice A R.1.len c, .int .i64 (R.2 : Int)]) ∧ SlV w' (w.heap.size ≤ ·) (.slice A R.1.len c) R.1) → Below w.heap.size w w' → RAllEnd w s d e w') := fun e w' h ht => by
    unfold RAllEnd
    rw [hR]
    rcases h with ⟨rfl, h⟩ | ⟨A, c, rfl, h⟩
    · rw [h]; exact ⟨none, 0, rfl, SlV.nil _ _ _ _, ht⟩
    · exact ⟨A, c, rfl, h, ht⟩
  clear hall hR hsl hs00
  go_enter Tryd.func63, Tryd.ntmps63
  go_wp2_with fail
  go_loopg [0, 6, 7] s.size (fun gk vs vv va wr => ∃ kk : Nat, kk ≤ s.size ∧ s.size - kk ≤ gk ∧ Hid (RRAt w d R s vs vv va kk wr))
  case atStart => exact ⟨0, Nat.zero_le _, by omega, H0⟩
  case round =>
    obtain ⟨kk, hkk, hgk, HRA⟩ := hrel
    obtain ⟨a', F, xs, rfl, rfl, hown, hcls, hb, hRR, hF⟩ := HRA.out
    obtain ⟨S, hS⟩ : ∃ S, S = s.extract kk s.size := ⟨_, rfl⟩
    have hSz : S.size = s.size - kk := by rw [hS, ByteArray.size_extract]; omega
    have hSd : S.data.toList = s.data.toList.drop kk := by rw [hS]; exact ext_rest s kk
    have HSX : Hid (∀ m, S.extract m (s.size - kk) = s.extract (kk + m) s.size) := fun m => by rw [hS]; ext1; simp [ByteArray.data_extract]; congr 1; omega
    rw [← hS]
    clear hS
    by_cases hlt : kk < s.size
    · have hd1 : decide (0 < S.size) = true := decide_eq_true (by omega)
      have hd2 : decide ((0 : Int) < (S.size : Int)) = true := decide_eq_true (by omega)
      have HONE := Lib.hid (rone_any HALL.out S d a' wr (by omega) hd (by omega))
      have HRR := Lib.hid hRR
      have HOWN := Lib.hid hown
      have HCLS := Lib.hid hcls
      have HB := Lib.hid hb
      have HSD := Lib.hid hSd
      clear hown hcls hb hRR hSd
      go_wp2_with fail
      refine HONE.out.mono ?_
      rintro e w4 ⟨hb4, ⟨hne, rfl⟩ | ⟨t, n, m, y, x, i, A, c, hf, rfl, hs4⟩⟩
      · have HE : Hid (∀ w', Below w4.heap.size w4 w' → RAllEnd w s d (.returned (.tuple #[.slice none 0 0, .int .i64 ((ffirst S.data.toList d a').2.2 : Int)])) w') := fun w' hb => by
          have h0 : (s.data.toList.drop kk).length ≠ 0 := by rw [List.length_drop, len_list]; omega
          rw [HSD.out] at hne ⊢
          have h1 : R = (.nil, (ffirst (s.data.toList.drop kk) d a').2.2) := by rw [HRR.out, fget_err h0 hne, fthen_err hne]
          have h2 := HD.out (.returned (.tuple #[.slice none 0 0, .int .i64 ((ffirst (s.data.toList.drop kk) d a').2.2 : Int)])) w'
          rw [h1] at h2
          exact h2 (.inl ⟨rfl, rfl⟩) (bb HB.out (bb hb4 hb))
        generalize (ffirst S.data.toList d a').2.2 = G at *
        have hgi : ((G : Int) != 0) = true := by rw [bne_iff_ne]; omega
        clear hb4 hne
        go_wp2_with fail
        go_ret2
        exact HE.out _ (ba b0 _)
      · have hm1 : kk + m ≤ s.size ∧ 1 ≤ m := by
          obtain ⟨t', y', n', x', i', m', e1, e2, e3, _⟩ := fone_ok (rec := fun t => fget t (d + 1) 0) (s := S.data.toList) (deep := d) (last := a') (by
            have : fone (fun t => fget t (d + 1) 0) S.data.toList d a' = _ := hf
            rw [this])
          have h1 : ffirst S.data.toList d a' = _ := e1
          rw [hf] at h1
          simp only [Prod.mk.injEq] at h1
          rw [len_list] at e3
          omega
        have hmS : (m : Int) ≤ (S.size : Int) := by omega
        have HF2 := Lib.hid (And.intro hf (And.intro hb4 hs4))
        have hw4z := hb4.size
        have hwz := HB.out.size
        have HO4 := Lib.hid (((own_below HOWN.out hb4).alloc (.cells #[.int .u64 (t : Int), .int .i64 y, .int .u64 (n : Int), .string x, .slice A i.len c] 65)).alloc (.cells #[.int .u64 (t : Int), .int .i64 y, .int .u64 (n : Int), .string x, .slice A i.len c] 65))
        have HNB0 := Lib.hid ((BlkAt.made w4 65 #[.int .u64 (t : Int), .int .i64 y, .int .u64 (n : Int), .string x, .slice A i.len c]).more (.cells #[.int .u64 (t : Int), .int .i64 y, .int .u64 (n : Int), .string x, .slice A i.len c] 65))
        have HNB := Lib.hid (BlkAt.made (w4.alloc (.cells #[.int .u64 (t : Int), .int .i64 y, .int .u64 (n : Int), .string x, .slice A i.len c] 65)) 65 #[.int .u64 (t : Int), .int .i64 y, .int .u64 (n : Int), .string x, .slice A i.len c])
        have hF6 : F.len ≤ 1000000 := by omega
        clear hf hb4 hs4
        go_wp2_with (at_builtin; go_must (refine wpList_append_lies _ rfl _ _ 37 rfl w.heap.size 65 i0 _ 5 64 Tryd.underlying37 hi0 hz0 hz1 hz2 rfl (by decide) u6 F.len xs rfl HO4.out ⟨w4.heap.size + 1, 0, none⟩ 1 1 [.int .u64 (t : Int), .int .i64 y, .int .u64 (n : Int), .string x, .slice A i.len c] rfl rfl (by have := HNB.out.news; rw [World.size_alloc] at this; exact this) (by simp [Value.oneCell']) (by decide) (by unfold maxLen; omega) (by omega) (by simp; omega) (w4.heap.size + 1 + 1) (by simp) ?_); intro g3 cap3 w5 hown5 hg5 hat5 hlt5; have HO5 := Lib.hid hown5; have HG5 := Lib.hid hg5; have HAT5 := Lib.hid hat5; have bx := HNB0.out.step hg5 (by intro e; have := (HOWN.out.lt _ e.symm).2; omega); have e0 := bx.cell 0; simp at e0; clear bx hown5 hg5 hat5 hlt5)
        go_roundg (s.size - (kk + m))
        case measure => omega
        case rel =>
          refine ⟨kk + m, hm1.1, Nat.le_refl _, ?_⟩
          rw [HSX.out m]
          exact rrat_step HOWN.out HCLS.out HB.out HRR.out hF hlt (by rw [← HSD.out]; exact HF2.out.1) HF2.out.2.1 HF2.out.2.2 (ba (ba b0 _) _) HO5.out HG5.out (HAT5.out.imp id fun h => by rw [h]; simp)
    · obtain rfl : kk = s.size := by omega
      have h0 : s.data.toList.drop s.size = [] := by rw [List.drop_eq_nil_iff, len_list]; exact Nat.le_refl _
      rw [h0, fget_nil, fthen_yes rfl, Fs.app_nil] at hRR
      subst hRR
      obtain ⟨A, c, rfl, hsl⟩ := own_slv hown hcls fun q hq => hq.1
      have HE := Lib.hid (HD.out _ wr (.inr ⟨A, c, rfl, hsl⟩) hb)
      have hd1 : decide (0 < S.size) = false := decide_eq_false (by omega)
      have hd2 : decide ((0 : Int) < (S.size : Int)) = false := decide_eq_false (by omega)
      clear hown hcls hb hsl h0 HRA hSd
      go_wp2_with fail
      go_ret2
      exact HE.out
theorem rall_any : ∀ N, RAllOk N
  | 0 => rall_zero
  | N + 1 => rall_step (rall_any N)
theorem rwget_any (s : ByteArray) (w : World) (hs : s.size ≤ 1000000) : Calls Tryd.prog 42 #[.string s] w (RGetEnd w s) := rwget_of (rall_any s.size) s w (Nat.le_refl _) hs
theorem rfirst9_any (s : ByteArray) (w : World) (hs : s.size ≤ 1000000) : Calls Tryd.prog 44 #[.string s] w (ROneEnd w s 0 0) := rfirst_of (rall_any s.size) s w (by omega) hs
end Go.Proofs.YtmlijflappjfoaaDoor
end

section
/-
  The walk of the statement of layer 9 that any text reads as the document says. Conditions: a text within int; Go's tables of UTF-8 lie in memory.
-/
namespace Go.Proofs.YtmlijflappjfoaaDoor
open Go.RowKit Go.PM
set_option maxRecDepth 100000
set_option maxHeartbeats 2000000
attribute [local go_sem ↓] Go.wp_at_zero Go.wp_at_succ

/-- The end of a reading of the first field. -/
def FEnd (w : World) (t n m cd : Nat) (y : Int) (x : ByteArray) (i : Fs) (e : Ending) (w' : World) : Prop :=
  ∃ (A : Option Addr) (c : Nat), e = .returned (.tuple #[.agg #[.int .u64 (t : Int), .int .i64 y, .int .u64 (n : Int), .string x, .slice A i.len c], .int .i64 (m : Int), .int .i64 (cd : Int)]) ∧ SlV w' (w.heap.size ≤ ·) (.slice A i.len c) i ∧ Below w.heap.size w w'
theorem first_form (s : ByteArray) (hs : s.size ≤ 1000000) : ∃ (t n m cd : Nat) (y : Int) (x : ByteArray) (i : Fs), i.count + 1 ≤ 1000000 ∧
    (∀ w e w', FirstEnd w s e w' → FEnd w t n m cd y x i e w') ∧ (∀ w e w', ROneEnd w s 0 0 e w' → FEnd w t n m cd y x i e w') := by
  have hl : s.data.toList.length = s.size := len_list s
  by_cases h : (ffirst s.data.toList 0 0).2.2 = 0
  · obtain ⟨t, y, n, x, i, k, e1, k2, k3, k4, k5, k6, k7, k8⟩ := fone_ok (rec := fun t => fget t (0 + 1) 0) (s := s.data.toList) (deep := 0) (last := 0) h
    have e2 : ffirst s.data.toList 0 0 = (.cons t y n x i .nil, k, 0) := e1
    refine ⟨t, n, k, 0, y, x, i, ?_, fun w e w' hw => ?_, fun w e w' hw => ?_⟩
    · rcases k8 with ⟨_, _, rfl, _⟩ | ⟨_, _, rfl, _⟩ | ⟨_, _, _, _, u, hu, hr, _⟩
      · decide
      · decide
      · have := (fget_ok u.length u 1 0 (Nat.le_refl _) (by omega) (by omega) (by rw [hr])).2.2
        rw [hr] at this
        simp only at this
        omega
    · obtain ⟨hb, ⟨hne, _⟩ | ⟨t', n', m', y', x', i', A, c, e3, he, hsl⟩⟩ := hw
      · exact absurd h hne
      · rw [e2] at e3
        simp only [Prod.mk.injEq, Fs.cons.injEq] at e3
        obtain ⟨⟨rfl, rfl, rfl, rfl, rfl, _⟩, rfl, _⟩ := e3
        exact ⟨A, c, he, hsl, hb⟩
    · obtain ⟨hb, ⟨hne, _⟩ | ⟨t', n', m', y', x', i', A, c, e3, he, hsl⟩⟩ := hw
      · exact absurd h hne
      · rw [e2] at e3
        simp only [Prod.mk.injEq, Fs.cons.injEq] at e3
        obtain ⟨⟨rfl, rfl, rfl, rfl, rfl, _⟩, rfl, _⟩ := e3
        exact ⟨A, c, he, hsl, hb⟩
  · refine ⟨0, 0, 0, (ffirst s.data.toList 0 0).2.2, 0, ByteArray.empty, .nil, by decide, fun w e w' hw => ?_, fun w e w' hw => ?_⟩
    · obtain ⟨hb, ⟨_, he⟩ | ⟨t', n', m', y', x', i', A, c, e3, he, hsl⟩⟩ := hw
      · exact ⟨none, 0, he, SlV.nil _ _ _ _, hb⟩
      · exact absurd (by rw [e3]) h
    · obtain ⟨hb, ⟨_, he⟩ | ⟨t', n', m', y', x', i', A, c, e3, he, hsl⟩⟩ := hw
      · exact ⟨none, 0, he, SlV.nil _ _ _ _, hb⟩
      · exact absurd (by rw [e3]) h
/-- A row of one field. -/
theorem slv_one {x : World} {b : Nat} {T : TypeId} {J : Nat → Prop} {t n : Nat} {y : Int} {s : ByteArray} {i : Fs} {A : Option Addr} {c : Nat} (h : BlkAt x b T #[.int .u64 (t : Int), .int .i64 y, .int .u64 (n : Int), .string s, .slice A i.len c]) (hs : SlV x J (.slice A i.len c) i) :
    SlV x (fun _ => True) (.slice (some ⟨b, 0, none⟩) 1 1) (.cons t y n s i .nil) := by
  refine ⟨some ⟨b, 0, none⟩, 1, rfl, Nat.le_refl _, .inr ⟨b, 0, rfl, trivial, h.lt, ?_⟩⟩
  obtain ⟨A', c', hv, hc, hor⟩ := hs
  injection hv with h1 h2 h3
  subst h1 h3
  refine ⟨h.cell 0, h.cell 1, h.cell 2, h.cell 3, ⟨A, c, h.cell 4, hc, ?_⟩, trivial⟩
  rcases hor with h0 | ⟨b', o', hA, hI, hlt, hat⟩
  · exact .inl h0
  · exact .inr ⟨b', o', hA, trivial, hlt, hat.imp fun _ _ => trivial⟩
theorem wreads_walk (s : ByteArray) (w : World) (hT : Tabs w) (hs : s.size ≤ 9223372036854775807) :
    Calls Tryd.prog 10 #[.string s] w fun e w' => e = .returned (.bool true) ∧ Below w.heap.size w w' := by
  have HA := Lib.hid (awake09 w hT)
  clear hT
  by_cases hbig : 3000 < s.size
  · go_enter Tryd.func10, Tryd.ntmps10
    go_wp2_with fail
    refine HA.out.mono ?_
    rintro e w1 ⟨rfl, hb1⟩
    go_wp2
    go_ret
    exact ⟨rfl, hb1⟩
  have hs3 : s.size ≤ 3000 := by omega
  clear hbig hs
  obtain ⟨t, n, m, cd, y, xs, i, hic, hF1, hF2⟩ := first_form s (by omega)
  have HF1 := Lib.hid hF1
  have HF2 := Lib.hid hF2
  have hgc : (fgets s.data.toList).1.count ≤ 1000000 := by
    by_cases hG : (fgets s.data.toList).2 = 0
    · exact (fgets_back (s := s.data.toList) (by rw [len_list]; omega) hG).2.1
    · rw [fgets_nil hG]; decide
  have HGC := Lib.hid hgc
  have HW : Hid (∀ x : World, Calls Tryd.prog 41 #[.string s] x (GetEnd x s)) := fun x => wget_any s x (by omega)
  have HR : Hid (∀ x : World, Calls Tryd.prog 42 #[.string s] x (RGetEnd x s)) := fun x => rwget_any s x (by omega)
  have HW1 : Hid (∀ x : World, Calls Tryd.prog 43 #[.string s] x (FirstEnd x s)) := fun x => wfirst_any s x (by omega)
  have HR1 : Hid (∀ x : World, Calls Tryd.prog 44 #[.string s] x (ROneEnd x s 0 0)) := fun x => rfirst9_any s x (by omega)
  have HIC := Lib.hid hic
  clear hF1 hF2 hgc hic
  unfold GetEnd at HW
  unfold RGetEnd at HR
  generalize fgets s.data.toList = G at *
  go_enter Tryd.func10, Tryd.ntmps10
  go_wp2_with fail
  refine HA.out.mono ?_
  rintro e w1 ⟨rfl, hb1⟩
  go_wp2_with fail
  refine (HW.out _).mono ?_
  rintro e w2 ⟨Al, cl, rfl, hl, hb2⟩
  have HL := Lib.hid hl
  replace hb1 := bb hb1 hb2
  clear hb2 hl
  generalize G.2 = GC at *
  generalize G.1 = g at *
  obtain ⟨gl, hgl⟩ : ∃ gl, gl = g.len := ⟨_, rfl⟩
  have HGL := Lib.hid hgl
  rw [← hgl] at HR HL ⊢
  clear hgl
  go_wp2_with fail
  refine (HR.out _).mono ?_
  rintro e w3 ⟨Ar, cr, rfl, hr, hb3⟩
  have HRR := Lib.hid hr
  have HL3 := Lib.hid (HL.out.below hb3)
  replace hb1 := bb hb1 hb3
  clear hb3 hr
  go_wp2_with fail
  refine (HW1.out _).mono ?_
  intro e w4 h4
  obtain ⟨A4, c4, rfl, hs4, hb4⟩ := HF1.out _ _ _ h4
  have HS4 := Lib.hid hs4
  have HB4 := Lib.hid hb4
  replace hb1 := bb hb1 hb4
  clear h4 hs4 hb4
  obtain ⟨il, hil⟩ : ∃ il, il = i.len := ⟨_, rfl⟩
  have HIL := Lib.hid hil
  rw [← hil] at HS4 ⊢
  clear hil
  go_wp2_with fail
  refine (HR1.out _).mono ?_
  intro e w5 h5
  obtain ⟨A5, c5, rfl, hs5, hb5⟩ := HF2.out _ _ _ h5
  have HS5 := Lib.hid hs5
  have HB5 := Lib.hid hb5
  clear h5 hs5 hb5
  rw [← HIL.out] at HS5 ⊢
  go_wp2_with fail
  have hx1 := Lib.hid (((BlkAt.made w4 41 #[.int .u64 (t : Int), .int .i64 y, .int .u64 (n : Int), .string xs, .slice A4 il c4]).below HB5.out (by simp)).more (.cells #[.int .u64 (t : Int), .int .i64 y, .int .u64 (n : Int), .string xs, .slice A5 il c5] 65))
  have hx2 := Lib.hid (BlkAt.made w5 65 #[.int .u64 (t : Int), .int .i64 y, .int .u64 (n : Int), .string xs, .slice A5 il c5])
  have hb45 : Below w4.heap.size w4 (w5.alloc (.cells #[.int .u64 (t : Int), .int .i64 y, .int .u64 (n : Int), .string xs, .slice A5 il c5] 65)) := ba (bb (ba b0 _) HB5.out) _
  have hb0 := Lib.hid (bb hb1 hb45)
  have HLz := Lib.hid ((HL3.out.below HB4.out).below hb45)
  have HRz := Lib.hid ((HRR.out.below HB4.out).below hb45)
  have HS4z := Lib.hid (HS4.out.below hb45)
  have HS5z := Lib.hid (HS5.out.below (ba (a := w5) b0 (.cells #[.int .u64 (t : Int), .int .i64 y, .int .u64 (n : Int), .string xs, .slice A5 il c5] 65)))
  clear HB5 HB4 hb1 hb45 HL HL3 HRR HS4 HS5
  generalize w5.alloc (.cells #[.int .u64 (t : Int), .int .i64 y, .int .u64 (n : Int), .string xs, .slice A5 il c5] 65) = wz at hx1 hx2 hb0 HLz HRz HS4z HS5z ⊢
  generalize w4.heap.size = p at *
  generalize w5.heap.size = q at *
  obtain ⟨K, hK⟩ : ∃ K, K = Fs.cons t y n xs i .nil := ⟨_, rfl⟩
  have hKc : K.count ≤ 1000000 := by rw [hK]; have := HIC.out; simp only [Fs.count]; omega
  have HO1 : Hid (∀ x : World, Below wz.heap.size wz x → Calls Tryd.prog 25 #[.slice Al gl cl] x fun e w' => ∃ (A : Option Addr) (c : Nat), e = .returned (.slice A gl c) ∧ SlV w' (x.heap.size ≤ ·) (.slice A gl c) g ∧ Below x.heap.size x w') := fun x hx => by
    have h := HLz.out.below hx
    rw [HGL.out] at h ⊢
    exact of_any g.count Al cl g _ x (Nat.le_refl _) h HGC.out
  have HS1 : Hid (∀ (J : Nat → Prop) (A : Option Addr) (c : Nat) (W x : World), SlV W J (.slice A gl c) g → Below W.heap.size W x → Below wz.heap.size wz x → Calls Tryd.prog 28 #[.slice A gl c, .slice Ar gl cr] x fun e w' => e = .returned (.bool true) ∧ Below x.heap.size x w') := fun J A c W x h hb hx => by
    have h1 := (h.below hb).imp (J := fun _ => True) fun _ _ => trivial
    have h2 := (HRz.out.below hx).imp (J := fun _ => True) fun _ _ => trivial
    rw [HGL.out] at h1 h2 ⊢
    have := rsame_any8 g.count A Ar c cr g g (fun _ => True) x (Nat.le_refl _) h1 h2 HGC.out HGC.out
    rw [same_self] at this
    exact this
  have HO2 : Hid (∀ (b : Nat) (x : World), BlkAt x b 41 #[.int .u64 (t : Int), .int .i64 y, .int .u64 (n : Int), .string xs, .slice A4 il c4] → Below wz.heap.size wz x → Calls Tryd.prog 25 #[.slice (some ⟨b, 0, none⟩) 1 1] x fun e w' => ∃ (A : Option Addr) (c : Nat), e = .returned (.slice A 1 c) ∧ SlV w' (x.heap.size ≤ ·) (.slice A 1 c) K ∧ Below x.heap.size x w') := fun b x h hx => by
    have h1 := HS4z.out.below hx
    rw [HIL.out] at h h1
    have h2 := slv_one h h1
    rw [← hK] at h2
    have e1 : K.len = 1 := by rw [hK]; rfl
    have := of_any K.count (some ⟨b, 0, none⟩) 1 K _ x (Nat.le_refl _) (by rw [e1]; exact h2) hKc
    unfold CopyEnd at this
    rw [e1] at this
    exact this
  have HS2 : Hid (∀ (J : Nat → Prop) (A : Option Addr) (c : Nat) (W x : World) (b : Nat), SlV W J (.slice A 1 c) K → Below W.heap.size W x → BlkAt x b 65 #[.int .u64 (t : Int), .int .i64 y, .int .u64 (n : Int), .string xs, .slice A5 il c5] → Below wz.heap.size wz x → Calls Tryd.prog 28 #[.slice A 1 c, .slice (some ⟨b, 0, none⟩) 1 1] x fun e w' => e = .returned (.bool true) ∧ Below x.heap.size x w') := fun J A c W x b h hb hk hx => by
    have h1 := (h.below hb).imp (J := fun _ => True) fun _ _ => trivial
    have h3 := HS5z.out.below hx
    rw [HIL.out] at hk h3
    have h2 := slv_one hk h3
    rw [← hK] at h2
    have e1 : K.len = 1 := by rw [hK]; rfl
    have := rsame_any8 K.count A (some ⟨b, 0, none⟩) c 1 K K (fun _ => True) x (Nat.le_refl _) (by rw [e1]; exact h1) (by rw [e1]; exact h2) hKc hKc
    rw [same_self, e1] at this
    exact this
  have HSB : Hid (∀ w' : World, Below wz.heap.size wz w' → (w'.cell? ⟨p, 0, none⟩ = some (.int .u64 (t : Int)) ∧ w'.cell? ⟨p, 1, none⟩ = some (.int .i64 y) ∧ w'.cell? ⟨p, 2, none⟩ = some (.int .u64 (n : Int)) ∧ w'.cell? ⟨p, 3, none⟩ = some (.string xs) ∧ w'.cell? ⟨p, 4, none⟩ = some (.slice A4 il c4) ∧ w'.cell? ⟨q, 0, none⟩ = some (.int .u64 (t : Int)) ∧ w'.cell? ⟨q, 1, none⟩ = some (.int .i64 y) ∧ w'.cell? ⟨q, 2, none⟩ = some (.int .u64 (n : Int)) ∧ w'.cell? ⟨q, 3, none⟩ = some (.string xs) ∧ w'.cell? ⟨q, 4, none⟩ = some (.slice A5 il c5))) := fun w' hw => by
    have h1 := hx1.out.below hw hx1.out.lt
    have h2 := hx2.out.below hw hx2.out.lt
    exact ⟨h1.cell 0, h1.cell 1, h1.cell 2, h1.cell 3, h1.cell 4, h2.cell 0, h2.cell 1, h2.cell 2, h2.cell 3, h2.cell 4⟩
  have hbW : Below wz.heap.size wz wz := b0
  obtain ⟨k0, k1, k2, k3, k4, k5, k6, k7, k8, k9⟩ := HSB.out _ hbW
  clear hx1 hx2 HLz HRz HS4z HS5z hK hKc
  go_region_held3 (fun w' => w'.cell? ⟨p, 0, none⟩ = some (.int .u64 (t : Int)) ∧ w'.cell? ⟨p, 1, none⟩ = some (.int .i64 y) ∧ w'.cell? ⟨p, 2, none⟩ = some (.int .u64 (n : Int)) ∧ w'.cell? ⟨p, 3, none⟩ = some (.string xs) ∧ w'.cell? ⟨p, 4, none⟩ = some (.slice A4 il c4) ∧ w'.cell? ⟨q, 0, none⟩ = some (.int .u64 (t : Int)) ∧ w'.cell? ⟨q, 1, none⟩ = some (.int .i64 y) ∧ w'.cell? ⟨q, 2, none⟩ = some (.int .u64 (n : Int)) ∧ w'.cell? ⟨q, 3, none⟩ = some (.string xs) ∧ w'.cell? ⟨q, 4, none⟩ = some (.slice A5 il c5)) (first | exact HSB.out _ (by repeat (first | exact hbW | refine ba ?_ _ | refine bd ?_)) | go_keep)
    ((first
      | (go_at_call 25; with_reducible show Calls _ _ #[.slice Al gl cl] _ _; refine (HO1.out _ (by repeat (first | exact hbW | refine ba ?_ _ | refine bd ?_))).mono ?_; rintro e' W1 ⟨A1, c1, rfl, hs1, hb1'⟩; replace hbW : Below wz.heap.size wz W1 := bb (by repeat (first | exact hbW | refine ba ?_ _ | refine bd ?_)) hb1'; clear hb1'; obtain ⟨k0, k1, k2, k3, k4, k5, k6, k7, k8, k9⟩ := HSB.out _ hbW)
      | (go_at_call 28; with_reducible show Calls _ _ #[_, .slice Ar gl cr] _ _; refine (HS1.out _ _ _ _ _ hs1 (by repeat (first | exact b0 | refine ba ?_ _ | refine bd ?_)) (by repeat (first | exact hbW | refine ba ?_ _ | refine bd ?_))).mono ?_; rintro e' W2 ⟨rfl, hb2'⟩; replace hbW : Below wz.heap.size wz W2 := bb (by repeat (first | exact hbW | refine ba ?_ _ | refine bd ?_)) hb2'; clear hb2'; obtain ⟨k0, k1, k2, k3, k4, k5, k6, k7, k8, k9⟩ := HSB.out _ hbW)
      | (go_at_call 25; refine (HO2.out _ _ (by first | exact BlkAt.made _ _ _ | exact (BlkAt.made _ _ _).more _ | exact (BlkAt.made _ _ _).dr | (have h9 := BlkAt.made (W2.alloc (.cells #[.int .u64 (t : Int), .int .i64 y, .int .u64 (n : Int), .string xs, .slice A5 il c5] 65)) 41 #[.int .u64 (t : Int), .int .i64 y, .int .u64 (n : Int), .string xs, .slice A4 il c4]; rw [World.size_alloc] at h9; exact h9)) (by repeat (first | exact hbW | refine ba ?_ _ | refine bd ?_))).mono ?_; rintro e' W3 ⟨A3, c3, rfl, hs3, hb3'⟩; have hbl : ∀ b t cs, BlkAt _ b t cs → BlkAt W3 b t cs := fun b t cs h => h.below hb3' h.lt; replace hbW : Below wz.heap.size wz W3 := bb (by repeat (first | exact hbW | refine ba ?_ _ | refine bd ?_)) hb3'; clear hb3'; obtain ⟨k0, k1, k2, k3, k4, k5, k6, k7, k8, k9⟩ := HSB.out _ hbW)
      | (go_at_call 28; refine (HS2.out _ _ _ _ _ _ hs3 (by repeat (first | exact b0 | refine ba ?_ _ | refine bd ?_)) (by first | exact BlkAt.made _ _ _ | exact hbl _ _ _ (BlkAt.made _ _ _) | exact hbl _ _ _ ((BlkAt.made _ _ _).more _) | exact (hbl _ _ _ (BlkAt.made _ _ _)).dr | exact (hbl _ _ _ ((BlkAt.made _ _ _).more _)).dr | (have h9 := BlkAt.made (W2.alloc (.cells #[.int .u64 (t : Int), .int .i64 y, .int .u64 (n : Int), .string xs, .slice A4 il c4] 41)) 65 #[.int .u64 (t : Int), .int .i64 y, .int .u64 (n : Int), .string xs, .slice A5 il c5]; rw [World.size_alloc] at h9; exact hbl _ _ _ h9)) (by repeat (first | exact hbW | refine ba ?_ _ | refine bd ?_))).mono ?_; rintro e' W4 ⟨rfl, hb4'⟩; replace hbW : Below wz.heap.size wz W4 := bb (by repeat (first | exact hbW | refine ba ?_ _ | refine bd ?_)) hb4'; clear hb4'; obtain ⟨k0, k1, k2, k3, k4, k5, k6, k7, k8, k9⟩ := HSB.out _ hbW)))
  all_goals (go_wp2_with fail; go_ret; exact ⟨rfl, bb hb0.out (by repeat (first | exact hbW | refine ba ?_ _ | refine bd ?_))⟩)
end Go.Proofs.YtmlijflappjfoaaDoor
end

section
/-
  Go's two tables of UTF-8, as the rows list them: what they give a walk; a world that holds them. (The rows of this seat list the same two variables.)
-/
namespace Go.Proofs.YtmlijflappjfoaaDoor
open Go.Lib
set_option maxRecDepth 100000
theorem accept_eq : (Rows.laid_unicode_utf8_acceptRanges : DataW Unit) = Lib.acceptData := by kernel_rfl
theorem tabs_of_laid {W : World} (h : laidMetH Tryd.prog [("unicode/utf8.acceptRanges", Rows.laid_unicode_utf8_acceptRanges), ("unicode/utf8.first", Rows.laid_unicode_utf8_first)] W) : Tabs W := by
  have h4 := Lib.laidMet.reads h (.head _)
  have h3 := Lib.laidMet.reads h (.tail _ (.head _))
  rw [accept_eq] at h4
  rw [show Rows.laid_unicode_utf8_first = Lib.firstData from Pinned.utf8First_eq] at h3
  exact utf8Tabs_of_readsT (U8Types.of196 Tryd.lays196) ⟨by kernel_rfl, by kernel_rfl, by kernel_rfl, by kernel_rfl, by kernel_rfl, by kernel_rfl, by kernel_rfl⟩ h3 h4
/-- The settled world, the two variables holding what their initialisers lay. -/
noncomputable def laidWorld (os : Os) : World :=
  let w0 := World.holding Tryd.prog os ⟨#[], #[], []⟩
  let put (h : Array Obj) (g : Nat) (cs : Array Value) : Array Obj := h.modify g fun
    | .cells _ t frozen => .cells cs t frozen
    | o => o
  let h1 := put w0.heap (Tryd.lays196_ren.g 3) (Lib.firstTab.map fun z => Value.int .u8 z).toArray
  let h2 := put h1 (Tryd.lays196_ren.g 4) ((List.range 16).flatMap fun i => [Value.int .u8 (Lib.accLo i), Value.int .u8 (Lib.accHi i)]).toArray
  { w0 with heap := h2 }
theorem laid_met (os : Os) (args : Array Value) : laidMet Tryd.prog [("unicode/utf8.acceptRanges", Rows.laid_unicode_utf8_acceptRanges), ("unicode/utf8.first", Rows.laid_unicode_utf8_first)] ((laidWorld os).forCall (fun _ _ => 0) ⟨#[], args, []⟩).memory :=
  (LaidIn.of_run (l := [("unicode/utf8.acceptRanges", Rows.laid_unicode_utf8_acceptRanges), ("unicode/utf8.first", Rows.laid_unicode_utf8_first)]) [Tryd.lays196_ren.g 4, Tryd.lays196_ren.g 3] 8 (by kernel_rfl) (by kernel_rfl) (by kernel_rfl) (by kernel_rfl)).met
theorem own : ownKnob Tryd.prog.godebug = none := by kernel_rfl
theorem laidOut : laidOutB Tryd.prog = true := by kernel_rfl
end Go.Proofs.YtmlijflappjfoaaDoor
end
