/-
  Texts of the proof, joined: Read Read2 Read3. Conditions: as each names.
-/
import Derived.Test.YtgidfnhfgiehjaaGreatDoorXTopStreamak
import Derived.Test.YtgidfnhfgiehjaaGreatDoorXTopStreamag
import Derived.Laws.EntriesVeiled

section
namespace Go.PM
open Go.RowKit
/-- What a cursor has left. -/
def lft (s : ByteArray) (k : Nat) : List UInt8 := s.data.toList.drop k
theorem lft_length (s : ByteArray) (k : Nat) : (lft s k).length = s.size - k := by unfold lft; rw [List.length_drop, len_list]
theorem lft_drop (s : ByteArray) (k m : Nat) : (lft s k).drop m = lft s (k + m) := by unfold lft; rw [List.drop_drop]
theorem lft_take (s : ByteArray) (k m : Nat) : (s.extract k (k + m)).data.toList = (lft s k).take m := by unfold lft; rw [ext_list]; congr 1; omega
end Go.PM
namespace Go.Proofs.YtgidfnhfgiehjaaGreatDoor
open Go.RowKit Go.PM
set_option maxRecDepth 100000
set_option maxHeartbeats 1500000
attribute [local go_sem ↓] Go.wp_at_zero Go.wp_at_succ
/-- A reader: its cursor, within how many lists it stands, the tag ahead. -/
def Rdr (w : World) (rb cb d a : Nat) : Prop := BlkAt w rb 151 #[.pointer (some ⟨cb, 0, none⟩), .int .i64 (d : Int), .int .u64 (a : Int)]
/-- A field's box. -/
def FBx (w : World) (fb t : Nat) (y : Int) (n : Nat) (x : ByteArray) (v : Value) : Prop := BlkAt w fb 47 #[.int .u64 (t : Int), .int .i64 y, .int .u64 (n : Int), .string x, v]
theorem Rdr.grown {w w' : World} {rb cb d a : Nat} {s : ByteArray} {k : Nat} (h : Rdr w rb cb d a) (hc : Cur w cb s k) (hg : w.grownBy w' (some cb)) : Rdr w' rb cb d a := BlkAt.step h hg (by intro e; injection e with e; exact absurd e (BlkAt.apart h hc.1 (by decide)))
theorem FBx.grown {w w' : World} {fb cb t n : Nat} {y : Int} {x : ByteArray} {v : Value} {s : ByteArray} {k : Nat} (h : FBx w fb t y n x v) (hc : Cur w cb s k) (hg : w.grownBy w' (some cb)) : FBx w' fb t y n x v := BlkAt.step h hg (by intro e; injection e with e; exact absurd e (BlkAt.apart h hc.1 (by decide)))
def S2 (cb fb : Nat) (j : Nat) : Prop := j = cb ∨ j = fb
def NumEnd (w : World) (rb cb fb d a t : Nat) (y : Int) (x : ByteArray) (v : Value) (s : ByteArray) (k : Nat) (e : Ending) (w' : World) : Prop :=
  e = .returned (.int .i64 ((vget (lft s k)).2.2 : Int)) ∧ Cur w' cb s (k + (vget (lft s k)).2.1) ∧ FBx w' fb t y (vget (lft s k)).1 x v ∧ Rdr w' rb cb d a ∧ Tch (S2 cb fb) w w'
theorem num_any (rb cb fb d a t n : Nat) (y : Int) (x : ByteArray) (v : Value) (s : ByteArray) (k : Nat) (w : World) (hr : Rdr w rb cb d a) (hc : Cur w cb s k) (hf : FBx w fb t y n x v) :
    Calls Tryz.prog 175 #[.pointer (some ⟨rb, 0, none⟩), .pointer (some ⟨fb, 0, none⟩)] w (NumEnd w rb cb fb d a t y x v s k) := by
  have HR := Lib.hid hr
  have HC := Lib.hid hc
  have HF := Lib.hid hf
  have r0 := hr.cell 0
  simp at r0
  clear hr hc hf
  go_enter Tryz.func175, Tryz.ntmps175
  go_wp2_with fail
  refine (next_any cb s k _ HC.out).mono ?_
  rintro e w1 ⟨rfl, hc1, hg⟩
  have hr1 := HR.out.grown HC.out hg
  have hf1 := HF.out.grown HC.out hg
  have r0 := hr1.cell 0
  have r1 := hr1.cell 1
  have r2 := hr1.cell 2
  have x0 := hf1.cell 0
  have x1 := hf1.cell 1
  have x2 := hf1.cell 2
  have x3 := hf1.cell 3
  have x4 := hf1.cell 4
  have y2 := hf1.free 2
  have y3 := hf1.free 3
  have y4 := hf1.free 4
  simp at r0 r1 r2 x0 x1 x2 x3 x4
  have HR1 := Lib.hid hr1
  have HF1 := Lib.hid hf1
  have HC1 := Lib.hid hc1
  have HG := Lib.hid hg
  have HE : Hid (NumEnd w rb cb fb d a t y x v s k (.returned (.int .i64 ((vget (lft s k)).2.2 : Int))) (w1.setCell ⟨fb, 2, none⟩ (.int .u64 ((vget (lft s k)).1 : Int)))) := by
    have hne1 : rb ≠ fb := BlkAt.apart hr1 hf1 (by decide)
    have hne2 : cb ≠ fb := BlkAt.apart hc1.1 hf1 (by decide)
    refine ⟨rfl, ⟨hc1.1.far (p := ⟨fb, 2, none⟩) hne2 _, hc1.2⟩, ?_, BlkAt.far (p := ⟨fb, 2, none⟩) hr1 hne1 _, ?_⟩
    · have := BlkAt.put hf1 2 (.int .u64 ((vget (lft s k)).1 : Int))
      exact this
    · exact (Tch.grown (S := S2 cb fb) hg (fun g e _ => by injection e with e; exact .inl e.symm)).put (p := ⟨fb, 2, none⟩) (fun _ => .inr rfl) _
  unfold lft at HE
  generalize (vget (s.data.toList.drop k)).1 = V at *
  generalize (vget (s.data.toList.drop k)).2.2 = G at *
  clear hr1 hf1 hc1 hg
  go_wp2_with fail
  go_ret
  exact HE.out
def TextEnd (w : World) (rb cb fb d a t : Nat) (y : Int) (n : Nat) (v : Value) (s : ByteArray) (k : Nat) (e : Ending) (w' : World) : Prop :=
  ∃ (g k' : Nat), e = .returned (.int .i64 (g : Int)) ∧ Tch (S2 cb fb) w w' ∧ Cur w' cb s k' ∧
    (if (vget (lft s k)).2.2 ≠ 0 then g = (vget (lft s k)).2.2 else if s.size - (k + (vget (lft s k)).2.1) < (vget (lft s k)).1 then g = 1
     else g = 0 ∧ k' = k + (vget (lft s k)).2.1 + (vget (lft s k)).1 ∧ Rdr w' rb cb d a ∧ FBx w' fb t y n (txt ((lft s (k + (vget (lft s k)).2.1)).take (vget (lft s k)).1)) v)
theorem text_any (rb cb fb d a t n : Nat) (y : Int) (x : ByteArray) (v : Value) (s : ByteArray) (k : Nat) (w : World) (hr : Rdr w rb cb d a) (hc : Cur w cb s k) (hf : FBx w fb t y n x v) :
    Calls Tryz.prog 176 #[.pointer (some ⟨rb, 0, none⟩), .pointer (some ⟨fb, 0, none⟩)] w (TextEnd w rb cb fb d a t y n v s k) := by
  have HR := Lib.hid hr
  have HC := Lib.hid hc
  have HF := Lib.hid hf
  have r0 := hr.cell 0
  simp at r0
  clear hr hc hf
  go_enter Tryz.func176, Tryz.ntmps176
  go_wp2_with fail
  refine (next_any cb s k _ HC.out).mono ?_
  rintro e w1 ⟨rfl, hc1, hg⟩
  have hr1 := HR.out.grown HC.out hg
  have hf1 := HF.out.grown HC.out hg
  have ht1 : Tch (S2 cb fb) w w1 := Tch.grown hg (fun g e _ => by injection e with e; exact .inl e.symm)
  rw [show s.data.toList.drop k = lft s k from rfl] at hc1 ⊢
  have r0 := hr1.cell 0
  have r1 := hr1.cell 1
  have r2 := hr1.cell 2
  have x0 := hf1.cell 0
  have x1 := hf1.cell 1
  have x2 := hf1.cell 2
  have x3 := hf1.cell 3
  have x4 := hf1.cell 4
  have y2 := hf1.free 2
  have y3 := hf1.free 3
  have y4 := hf1.free 4
  simp at r0 r1 r2 x0 x1 x2 x3 x4
  by_cases hv : (vget (lft s k)).2.2 = 0
  · obtain ⟨v1, v2, v3, v4, v5⟩ := vget_ok hv
    rw [lft_length] at v2
    have hz := hc1.2.2
    by_cases hbig : s.size - (k + (vget (lft s k)).2.1) < (vget (lft s k)).1
    · have HE : Hid (∀ w', Below w1.heap.size w1 w' → TextEnd w rb cb fb d a t y n v s k (.returned (.int .i64 1)) w') := fun w' hb => ⟨1, _, rfl, ht1.bel hb, ⟨hc1.1.below hb hc1.1.lt, hc1.2⟩, by rw [if_neg (by omega), if_pos hbig]⟩
      have htk := cur_take_no cb s _ ((vget (lft s k)).1 : Int) w1 hc1 (by omega) (by omega)
      have HTK := Lib.hid htk
      rw [hv]
      clear htk hv v1 v2 v3 v4 v5 hr1 hf1 hc1 hg ht1 hbig hz
      generalize (vget (lft s k)).1 = V at *
      generalize (vget (lft s k)).2.1 = M at *
      go_wp2_with fail
      refine HTK.out.mono ?_
      rintro e w2 ⟨rfl, hb2⟩
      go_wp2_with fail
      go_ret
      exact HE.out _ hb2
    · have htk := cur_take_yes cb s _ ((vget (lft s k)).1 : Int) w1 hc1 (by omega) (by omega)
      rw [Int.toNat_natCast, show s.extract (k + (vget (lft s k)).2.1) (k + (vget (lft s k)).2.1 + (vget (lft s k)).1) = txt ((lft s (k + (vget (lft s k)).2.1)).take (vget (lft s k)).1) from txt_eq (lft_take s _ _)] at htk
      have HTK := Lib.hid htk
      have HE : Hid (∀ w2, Cur w2 cb s (k + (vget (lft s k)).2.1 + (vget (lft s k)).1) → w1.grownBy w2 (some cb) → TextEnd w rb cb fb d a t y n v s k (.returned (.int .i64 0)) (w2.setCell ⟨fb, 3, none⟩ (.string (txt ((lft s (k + (vget (lft s k)).2.1)).take (vget (lft s k)).1))))) := fun w2 hc2 hg2 => by
        have hr2 := hr1.grown hc1 hg2
        have hf2 := hf1.grown hc1 hg2
        have hne1 : rb ≠ fb := BlkAt.apart hr2 hf2 (by decide)
        have hne2 : cb ≠ fb := BlkAt.apart hc2.1 hf2 (by decide)
        have ht2 : Tch (S2 cb fb) w w2 := ht1.trans (Tch.grown (S := S2 cb fb) hg2 (fun g e _ => by injection e with e; exact .inl e.symm)) fun _ _ h => h
        refine ⟨0, _, rfl, ht2.put (p := ⟨fb, 3, none⟩) (fun _ => .inr rfl) _, ⟨hc2.1.far (p := ⟨fb, 3, none⟩) hne2 _, hc2.2⟩, ?_⟩
        rw [if_neg (by omega), if_neg hbig]
        exact ⟨rfl, rfl, BlkAt.far (p := ⟨fb, 3, none⟩) hr2 hne1 _, BlkAt.put hf2 3 _⟩
      have HX : Hid (∀ w2, w1.grownBy w2 (some cb) → w2.cell? ⟨fb, 3, none⟩ = some (.string x) ∧ w2.frozen? ⟨fb, 3, none⟩ = false) := fun w2 hg2 => by
        have hf2 := hf1.grown hc1 hg2
        have e3 := hf2.cell 3
        simp at e3
        exact ⟨e3, hf2.free 3⟩
      rw [hv]
      clear htk hv v1 v2 v3 v4 v5 hr1 hf1 hc1 hg ht1 hbig hz
      generalize txt ((lft s (k + (vget (lft s k)).2.1)).take (vget (lft s k)).1) = Z at *
      generalize (vget (lft s k)).1 = V at *
      generalize (vget (lft s k)).2.1 = M at *
      go_wp2_with fail
      refine HTK.out.mono ?_
      rintro e w2 ⟨rfl, hc2, hg2⟩
      obtain ⟨z3, z4⟩ := HX.out w2 hg2
      have HE2 := Lib.hid (HE.out w2 hc2 hg2)
      clear hc2 hg2
      go_wp2_with fail
      go_ret
      exact HE2.out
  · have HE : Hid (TextEnd w rb cb fb d a t y n v s k (.returned (.int .i64 ((vget (lft s k)).2.2 : Int))) w1) := ⟨_, _, rfl, ht1, hc1, by rw [if_pos hv]⟩
    generalize (vget (lft s k)).2.2 = G at *
    generalize (vget (lft s k)).1 = V at *
    have hgi : ((G : Int) != 0) = true := by rw [bne_iff_ne]; omega
    clear hr1 hf1 hc1 hg ht1 hv
    go_wp2_with fail
    go_ret
    exact HE.out
end Go.Proofs.YtgidfnhfgiehjaaGreatDoor
end

section
namespace Go.Proofs.YtgidfnhfgiehjaaGreatDoor
open Go.RowKit Go.PM
set_option maxRecDepth 100000
set_option maxHeartbeats 1500000
attribute [local go_sem ↓] Go.wp_at_zero Go.wp_at_succ
def AllEnd (w : World) (rb cb d a : Nat) (s : ByteArray) (k : Nat) (e : Ending) (w' : World) : Prop :=
  ∃ (A : Option Addr) (c : Nat), e = .returned (.tuple #[.slice A (fget (lft s k) d a).1.len c, .int .i64 ((fget (lft s k) d a).2 : Int)]) ∧ SlV w' (w.heap.size ≤ ·) (.slice A (fget (lft s k) d a).1.len c) (fget (lft s k) d a).1 ∧ Tch (S2 cb rb) w w'
/-- All fields of texts of so many bytes are read. -/
def AllOk (N : Nat) : Prop := ∀ (rb cb : Nat) (s : ByteArray) (k d a : Nat) (w : World), s.size - k ≤ N → d ≤ 8 → a ≤ 4294967296 → s.size ≤ 1000000 → Rdr w rb cb d a → Cur w cb s k → Calls Tryz.prog 81 #[.pointer (some ⟨rb, 0, none⟩)] w (AllEnd w rb cb d a s k)
def ListEnd (w : World) (rb cb fb d a t : Nat) (y : Int) (n : Nat) (x : ByteArray) (s : ByteArray) (k : Nat) (e : Ending) (w' : World) : Prop :=
  ∃ (g k' : Nat), e = .returned (.int .i64 (g : Int)) ∧ Tch (S2 cb fb) w w' ∧ Cur w' cb s k' ∧
    (if (vget (lft s k)).2.2 ≠ 0 then g = (vget (lft s k)).2.2 else if s.size - (k + (vget (lft s k)).2.1) < (vget (lft s k)).1 then g = 1 else if d = 8 then g = 9
     else g = (fget ((lft s (k + (vget (lft s k)).2.1)).take (vget (lft s k)).1) (d + 1) 0).2 ∧ k' = k + (vget (lft s k)).2.1 + (vget (lft s k)).1 ∧ Rdr w' rb cb d a ∧
       ∃ A c, FBx w' fb t y n x (.slice A (fget ((lft s (k + (vget (lft s k)).2.1)).take (vget (lft s k)).1) (d + 1) 0).1.len c) ∧ SlV w' (w.heap.size ≤ ·) (.slice A (fget ((lft s (k + (vget (lft s k)).2.1)).take (vget (lft s k)).1) (d + 1) 0).1.len c) (fget ((lft s (k + (vget (lft s k)).2.1)).take (vget (lft s k)).1) (d + 1) 0).1)
theorem list_any {N : Nat} (hall : AllOk N) (rb cb fb d a t n : Nat) (y : Int) (x : ByteArray) (v : Value) (s : ByteArray) (k : Nat) (w : World) (hr : Rdr w rb cb d a) (hc : Cur w cb s k) (hf : FBx w fb t y n x v) (hN : s.size - k ≤ N + 1) (hs : s.size ≤ 1000000) (hd : d ≤ 8) :
    Calls Tryz.prog 177 #[.pointer (some ⟨rb, 0, none⟩), .pointer (some ⟨fb, 0, none⟩)] w (ListEnd w rb cb fb d a t y n x s k) := by
  have HALL := Lib.hid hall
  have HR := Lib.hid hr
  have HC := Lib.hid hc
  have HF := Lib.hid hf
  have r0 := hr.cell 0
  simp at r0
  clear hr hc hf hall
  go_enter Tryz.func177, Tryz.ntmps177
  go_wp2_with fail
  refine (next_any cb s k _ HC.out).mono ?_
  rintro e w1 ⟨rfl, hc1, hg⟩
  have hr1 := HR.out.grown HC.out hg
  have hf1 := HF.out.grown HC.out hg
  have ht1 : Tch (S2 cb fb) w w1 := Tch.grown hg (fun g e _ => by injection e with e; exact .inl e.symm)
  rw [show s.data.toList.drop k = lft s k from rfl] at hc1 ⊢
  have r0 := hr1.cell 0
  have r1 := hr1.cell 1
  have r2 := hr1.cell 2
  have x4 := hf1.cell 4
  have y4 := hf1.free 4
  simp at r0 r1 r2 x4
  by_cases hv : (vget (lft s k)).2.2 = 0
  · obtain ⟨v1, v2, v3, v4, v5⟩ := vget_ok hv
    rw [lft_length] at v2
    have hz := hc1.2.2
    by_cases hbig : s.size - (k + (vget (lft s k)).2.1) < (vget (lft s k)).1
    · have HE : Hid (∀ w', Below w1.heap.size w1 w' → ListEnd w rb cb fb d a t y n x s k (.returned (.int .i64 1)) w') := fun w' hb => ⟨1, _, rfl, ht1.bel hb, ⟨hc1.1.below hb hc1.1.lt, hc1.2⟩, by rw [if_neg (by omega), if_pos hbig]⟩
      have htk := cur_sub_no cb s _ ((vget (lft s k)).1 : Int) w1 hc1 (by omega) (by omega)
      have HTK := Lib.hid htk
      rw [hv]
      clear htk hv v1 v2 v3 v4 v5 hr1 hf1 hc1 hg ht1 hbig hz
      generalize (vget (lft s k)).1 = V at *
      generalize (vget (lft s k)).2.1 = M at *
      go_wp2_with fail
      refine HTK.out.mono ?_
      rintro e w2 ⟨rfl, hb2⟩
      go_wp2_with fail
      go_ret
      exact HE.out _ hb2
    · have htk := cur_sub_yes cb s _ ((vget (lft s k)).1 : Int) w1 hc1 (by omega) (by omega)
      rw [Int.toNat_natCast, show s.extract (k + (vget (lft s k)).2.1) (k + (vget (lft s k)).2.1 + (vget (lft s k)).1) = txt ((lft s (k + (vget (lft s k)).2.1)).take (vget (lft s k)).1) from txt_eq (lft_take s _ _)] at htk
      have HTK := Lib.hid htk
      have hX : ∀ w2, w1.grownBy w2 (some cb) → Rdr w2 rb cb d a ∧ FBx w2 fb t y n x v ∧ Tch (S2 cb fb) w w2 := fun w2 hg2 => ⟨hr1.grown hc1 hg2, hf1.grown hc1 hg2, ht1.trans (Tch.grown (S := S2 cb fb) hg2 (fun g e _ => by injection e with e; exact .inl e.symm)) fun _ _ h => h⟩
      have HX := Lib.hid hX
      by_cases h8 : d = 8
      · subst h8
        have HE : Hid (∀ w2, Cur w2 cb s (k + (vget (lft s k)).2.1 + (vget (lft s k)).1) → w1.grownBy w2 (some cb) → ListEnd w rb cb fb 8 a t y n x s k (.returned (.int .i64 9)) w2) := fun w2 hc2 hg2 =>
          ⟨9, _, rfl, (hX w2 hg2).2.2, hc2, by rw [if_neg (by omega), if_neg hbig, if_pos rfl]⟩
        rw [hv]
        clear htk hv v1 v2 v3 v4 v5 hr1 hf1 hc1 hg ht1 hbig hz hX
        generalize txt ((lft s (k + (vget (lft s k)).2.1)).take (vget (lft s k)).1) = Z at *
        generalize (vget (lft s k)).1 = V at *
        generalize (vget (lft s k)).2.1 = M at *
        go_wp2_with fail
        refine HTK.out.mono ?_
        rintro e w2 ⟨g, rfl, hgs, hcg, hc2, hg2⟩
        have hr2 := (HX.out w2 hg2).1
        have e1 := hr2.cell 1
        simp at e1
        have HE2 := Lib.hid (HE.out w2 hc2 hg2)
        clear hc2 hg2 hcg hr2
        go_wp2_with fail
        go_ret
        exact HE2.out
      · have hul : ((lft s (k + (vget (lft s k)).2.1)).take (vget (lft s k)).1).length = (vget (lft s k)).1 := by rw [List.length_take, lft_length]; omega
        have hvN : (vget (lft s k)).1 ≤ N ∧ (vget (lft s k)).1 ≤ 1000000 := by omega
        obtain ⟨hvN1, hvN2⟩ := hvN
        have hlu : ∀ U : List UInt8, lft (txt U) 0 = U := fun U => rfl
        have HE : Hid (∀ (w2 w4 : World) (q : Nat) (A : Option Addr) (c : Nat), Cur w2 cb s (k + (vget (lft s k)).2.1 + (vget (lft s k)).1) → w1.grownBy w2 (some cb) → w1.heap.size ≤ q → q < w2.heap.size →
            SlV w4 (w2.heap.size + 1 ≤ ·) (.slice A (fget ((lft s (k + (vget (lft s k)).2.1)).take (vget (lft s k)).1) (d + 1) 0).1.len c) (fget ((lft s (k + (vget (lft s k)).2.1)).take (vget (lft s k)).1) (d + 1) 0).1 →
            Tch (S2 q w2.heap.size) (w2.alloc (.cells #[.pointer (some ⟨q, 0, none⟩), .int .i64 ((d : Int) + 1), .int .u64 0] 151)) w4 →
            w4.cell? ⟨fb, 4, none⟩ = some v ∧ w4.frozen? ⟨fb, 4, none⟩ = false ∧ ListEnd w rb cb fb d a t y n x s k (.returned (.int .i64 ((fget ((lft s (k + (vget (lft s k)).2.1)).take (vget (lft s k)).1) (d + 1) 0).2 : Int))) (w4.setCell ⟨fb, 4, none⟩ (.slice A (fget ((lft s (k + (vget (lft s k)).2.1)).take (vget (lft s k)).1) (d + 1) 0).1.len c))) := fun w2 w4 q A c hc2 hg2 hq1 hq2 hs4 ht4 => by
          obtain ⟨hr2, hf2, ht2⟩ := hX w2 hg2
          have hsz := hg2.size
          have hsz1 := hg.size
          have hcl := hc1.1.lt
          have hfl := hf1.lt
          have hrl := hr1.lt
          have hn : ∀ j, j < w1.heap.size → ¬ S2 q w2.heap.size j := fun j hj h => by rcases h with h | h <;> omega
          have hr4 := (BlkAt.more hr2 (.cells #[.pointer (some ⟨q, 0, none⟩), .int .i64 ((d : Int) + 1), .int .u64 0] 151)).tch ht4 (hn rb hrl)
          have hf4 := (BlkAt.more hf2 (.cells #[.pointer (some ⟨q, 0, none⟩), .int .i64 ((d : Int) + 1), .int .u64 0] 151)).tch ht4 (hn fb hfl)
          have hc4 := (BlkAt.more hc2.1 (.cells #[.pointer (some ⟨q, 0, none⟩), .int .i64 ((d : Int) + 1), .int .u64 0] 151)).tch ht4 (hn cb hcl)
          have htw : Tch (S2 cb fb) w w4 := (ht2.more _).trans ht4 fun j hj h => absurd h (hn j (by omega))
          have hne1 : rb ≠ fb := BlkAt.apart hr4 hf4 (by decide)
          have hne2 : cb ≠ fb := BlkAt.apart hc4 hf4 (by decide)
          have e4 := hf4.cell 4
          simp at e4
          refine ⟨e4, hf4.free 4, _, _, rfl, htw.put (p := ⟨fb, 4, none⟩) (fun _ => .inr rfl) _, ⟨BlkAt.far (p := ⟨fb, 4, none⟩) hc4 hne2 _, hc2.2⟩, ?_⟩
          rw [if_neg (by omega), if_neg hbig, if_neg h8]
          refine ⟨rfl, rfl, BlkAt.far (p := ⟨fb, 4, none⟩) hr4 hne1 _, A, c, BlkAt.put hf4 4 _, ?_⟩
          have h5 := hs4.tch ((Tch.refl (fun j => j = fb) w4).put (p := ⟨fb, 4, none⟩) (fun _ => rfl) (.slice A (fget ((lft s (k + (vget (lft s k)).2.1)).take (vget (lft s k)).1) (d + 1) 0).1.len c)) (fun j hj e => by omega)
          exact h5.imp fun j hj => by omega
        have HAL : Hid (∀ (w2 : World) (q : Nat), q < w2.heap.size → Cur w2 q (txt ((lft s (k + (vget (lft s k)).2.1)).take (vget (lft s k)).1)) 0 →
            Calls Tryz.prog 81 #[.pointer (some ⟨w2.heap.size, 0, none⟩)] (w2.alloc (.cells #[.pointer (some ⟨q, 0, none⟩), .int .i64 ((d : Int) + 1), .int .u64 0] 151)) fun e w4 => ∃ A c, e = .returned (.tuple #[.slice A (fget ((lft s (k + (vget (lft s k)).2.1)).take (vget (lft s k)).1) (d + 1) 0).1.len c, .int .i64 ((fget ((lft s (k + (vget (lft s k)).2.1)).take (vget (lft s k)).1) (d + 1) 0).2 : Int)]) ∧
              SlV w4 (w2.heap.size + 1 ≤ ·) (.slice A (fget ((lft s (k + (vget (lft s k)).2.1)).take (vget (lft s k)).1) (d + 1) 0).1.len c) (fget ((lft s (k + (vget (lft s k)).2.1)).take (vget (lft s k)).1) (d + 1) 0).1 ∧ Tch (S2 q w2.heap.size) (w2.alloc (.cells #[.pointer (some ⟨q, 0, none⟩), .int .i64 ((d : Int) + 1), .int .u64 0] 151)) w4) := fun w2 q hq hcq => by
          have hrd : Rdr (w2.alloc (.cells #[.pointer (some ⟨q, 0, none⟩), .int .i64 ((d : Int) + 1), .int .u64 0] 151)) w2.heap.size q (d + 1) 0 := BlkAt.made w2 151 #[.pointer (some ⟨q, 0, none⟩), .int .i64 ((d : Int) + 1), .int .u64 0]
          have h1 := HALL.out w2.heap.size q (txt ((lft s (k + (vget (lft s k)).2.1)).take (vget (lft s k)).1)) 0 (d + 1) 0 (w2.alloc (.cells #[.pointer (some ⟨q, 0, none⟩), .int .i64 ((d : Int) + 1), .int .u64 0] 151)) (by rw [txt_size, hul]; omega) (by omega) (by omega) (by rw [txt_size, hul]; exact hvN2) hrd ⟨hcq.1.more _, hcq.2⟩
          refine h1.mono fun e w4 h => ?_
          unfold AllEnd at h
          rw [hlu, World.size_alloc] at h
          exact h
        have hdi : (d : Int) < 8 := by omega
        rw [hv]
        clear htk hv v1 v2 v3 v4 v5 hr1 hf1 hc1 hg ht1 hbig hz hX hul hlu
        generalize (fget ((lft s (k + (vget (lft s k)).2.1)).take (vget (lft s k)).1) (d + 1) 0).2 = G at *
        generalize (fget ((lft s (k + (vget (lft s k)).2.1)).take (vget (lft s k)).1) (d + 1) 0).1 = F at *
        generalize txt ((lft s (k + (vget (lft s k)).2.1)).take (vget (lft s k)).1) = Z at *
        generalize (vget (lft s k)).1 = V at *
        generalize (vget (lft s k)).2.1 = M at *
        go_wp2_with fail
        refine HTK.out.mono ?_
        rintro e w2 ⟨q, rfl, hqs, hcq, hc2, hg2⟩
        have hql := hcq.1.lt
        have hr2 := (HX.out w2 hg2).1
        have e1 := hr2.cell 1
        simp at e1
        have HCQ := Lib.hid hcq
        have HE2 := Lib.hid (fun w4 A c => HE.out w2 w4 q A c hc2 hg2 hqs hql)
        clear hc2 hg2 hcq hr2
        go_wp2_with fail
        refine (HAL.out w2 q hql HCQ.out).mono ?_
        rintro e w4 ⟨A, c, rfl, hs4, ht4⟩
        obtain ⟨z4, z5, hle⟩ := HE2.out w4 A c hs4 ht4
        have HLE := Lib.hid hle
        clear hs4 ht4 hle
        go_wp2_with fail
        go_ret
        exact HLE.out
  · have HE : Hid (ListEnd w rb cb fb d a t y n x s k (.returned (.int .i64 ((vget (lft s k)).2.2 : Int))) w1) := ⟨_, _, rfl, ht1, hc1, by rw [if_pos hv]⟩
    generalize (vget (lft s k)).2.2 = G at *
    generalize (vget (lft s k)).1 = V at *
    have hgi : ((G : Int) != 0) = true := by rw [bne_iff_ne]; omega
    clear hr1 hf1 hc1 hg ht1 hv
    go_wp2_with fail
    go_ret
    exact HE.out
end Go.Proofs.YtgidfnhfgiehjaaGreatDoor
end

section
namespace Go.Proofs.YtgidfnhfgiehjaaGreatDoor
open Go.RowKit Go.PM
set_option maxRecDepth 100000
set_option maxHeartbeats 1500000
attribute [local go_sem ↓] Go.wp_at_zero Go.wp_at_succ
theorem and3 (m : Nat) (h : In64 m) : bits .and .u64 (m : Int) 3 = ((m % 4 : Nat) : Int) := by
  have := bits_and_u64_nat m 3 h.out (by omega)
  rw [show (3 : Nat) = 2 ^ 2 - 1 from rfl, Nat.and_two_pow_sub_one_eq_mod] at this
  simpa using this
def zagg : Value := .agg #[.int .u64 0, .int .i64 0, .int .u64 0, .string ByteArray.empty, .slice none 0 0]
def RNextEnd (w : World) (rb cb d a : Nat) (s : ByteArray) (k : Nat) (e : Ending) (w' : World) : Prop :=
  Tch (S2 cb rb) w w' ∧ (((ffirst (lft s k) d a).2.2 ≠ 0 ∧ e = .returned (.tuple #[.agg #[.int .u64 0, .int .i64 0, .int .u64 0, .string ByteArray.empty, .slice none 0 0], .int .i64 ((ffirst (lft s k) d a).2.2 : Int)])) ∨
    ∃ (t n m : Nat) (y : Int) (x : ByteArray) (i : Fs) (A : Option Addr) (c : Nat), ffirst (lft s k) d a = (.cons t y n x i .nil, m, 0) ∧ e = .returned (.tuple #[.agg #[.int .u64 (t : Int), .int .i64 y, .int .u64 (n : Int), .string x, .slice A i.len c], .int .i64 0]) ∧
      Cur w' cb s (k + m) ∧ Rdr w' rb cb d t ∧ SlV w' (w.heap.size ≤ ·) (.slice A i.len c) i)
/-- What the way of a field's type comes to. -/
def WayEnd (w3 : World) (rb cb fb d a T : Nat) (Y : Int) (s : ByteArray) (k : Nat) (e : Ending) (w4 : World) : Prop :=
  ∃ g m : Nat, e = .returned (.int .i64 (g : Int)) ∧ Tch (S2 cb fb) w3 w4 ∧ (g ≠ 0 ∧ ffirst (lft s k) d a = (.nil, 0, g) ∨
    g = 0 ∧ ∃ (n : Nat) (x : ByteArray) (i : Fs) (A : Option Addr) (c : Nat), ffirst (lft s k) d a = (.cons T Y n x i .nil, m, 0) ∧ Cur w4 cb s (k + m) ∧ Rdr w4 rb cb d T ∧ FBx w4 fb T Y n x (.slice A i.len c) ∧ SlV w4 (w3.heap.size ≤ ·) (.slice A i.len c) i)
theorem way_num {w3 w4 : World} {rb cb fb d a T M k : Nat} {s : ByteArray} {e : Ending}
    (hf : ffirst (lft s k) d a = if (vget (lft s (k + M))).2.2 ≠ 0 then (.nil, 0, (vget (lft s (k + M))).2.2) else (.cons T 0 (vget (lft s (k + M))).1 ByteArray.empty .nil .nil, M + (vget (lft s (k + M))).2.1, 0))
    (h : NumEnd w3 rb cb fb d T T 0 ⟨#[]⟩ (.slice none 0 0) s (k + M) e w4) : WayEnd w3 rb cb fb d a T 0 s k e w4 := by
  obtain ⟨rfl, h1, h2, h3, h4⟩ := h
  by_cases hv : (vget (lft s (k + M))).2.2 = 0
  · rw [if_neg (by rw [hv]; simp)] at hf
    refine ⟨0, M + (vget (lft s (k + M))).2.1, by rw [hv], h4, .inr ⟨rfl, _, _, .nil, none, 0, hf, by rw [← Nat.add_assoc]; exact h1, h3, h2, SlV.nil _ _ _ _⟩⟩
  · rw [if_pos hv] at hf
    exact ⟨_, 0, rfl, h4, .inl ⟨hv, hf⟩⟩
theorem way_text {w3 w4 : World} {rb cb fb d a T M k : Nat} {s : ByteArray} {e : Ending}
    (hf : ffirst (lft s k) d a = if (vget (lft s (k + M))).2.2 ≠ 0 then (.nil, 0, (vget (lft s (k + M))).2.2) else if (lft s k).length - (M + (vget (lft s (k + M))).2.1) < (vget (lft s (k + M))).1 then (.nil, 0, 1)
      else (.cons T 1 0 (txt (((lft s k).drop (M + (vget (lft s (k + M))).2.1)).take (vget (lft s (k + M))).1)) .nil .nil, M + (vget (lft s (k + M))).2.1 + (vget (lft s (k + M))).1, 0))
    (h : TextEnd w3 rb cb fb d T T 1 0 (.slice none 0 0) s (k + M) e w4) : WayEnd w3 rb cb fb d a T 1 s k e w4 := by
  obtain ⟨g, k', rfl, h1, h2, h3⟩ := h
  rw [lft_length, lft_drop] at hf
  by_cases hv : (vget (lft s (k + M))).2.2 = 0
  · rw [if_neg (by rw [hv]; simp)] at hf h3
    have e1 : (s.size - k - (M + (vget (lft s (k + M))).2.1) < (vget (lft s (k + M))).1) ↔ (s.size - (k + M + (vget (lft s (k + M))).2.1) < (vget (lft s (k + M))).1) := by omega
    by_cases hb : s.size - (k + M + (vget (lft s (k + M))).2.1) < (vget (lft s (k + M))).1
    · rw [if_pos (e1.2 hb)] at hf
      rw [if_pos hb] at h3
      subst h3
      exact ⟨1, 0, rfl, h1, .inl ⟨by decide, hf⟩⟩
    · rw [if_neg (fun h => hb (e1.1 h))] at hf
      rw [if_neg hb] at h3
      obtain ⟨rfl, rfl, h4, h5⟩ := h3
      rw [← Nat.add_assoc k M] at hf
      exact ⟨0, _, rfl, h1, .inr ⟨rfl, _, _, .nil, none, 0, hf, by rw [← Nat.add_assoc, ← Nat.add_assoc]; exact h2, h4, h5, SlV.nil _ _ _ _⟩⟩
  · rw [if_pos hv] at hf h3
    subst h3
    exact ⟨_, 0, rfl, h1, .inl ⟨hv, hf⟩⟩
theorem way_list {w3 w4 : World} {rb cb fb d a T M k : Nat} {s : ByteArray} {e : Ending}
    (hf : ffirst (lft s k) d a = if (vget (lft s (k + M))).2.2 ≠ 0 then (.nil, 0, (vget (lft s (k + M))).2.2) else if (lft s k).length - (M + (vget (lft s (k + M))).2.1) < (vget (lft s (k + M))).1 then (.nil, 0, 1)
      else if d = 8 then (.nil, 0, 9) else if (fget (((lft s k).drop (M + (vget (lft s (k + M))).2.1)).take (vget (lft s (k + M))).1) (d + 1) 0).2 ≠ 0 then (.nil, 0, (fget (((lft s k).drop (M + (vget (lft s (k + M))).2.1)).take (vget (lft s (k + M))).1) (d + 1) 0).2)
      else (.cons T 2 0 ByteArray.empty (fget (((lft s k).drop (M + (vget (lft s (k + M))).2.1)).take (vget (lft s (k + M))).1) (d + 1) 0).1 .nil, M + (vget (lft s (k + M))).2.1 + (vget (lft s (k + M))).1, 0))
    (h : ListEnd w3 rb cb fb d T T 2 0 ⟨#[]⟩ s (k + M) e w4) : WayEnd w3 rb cb fb d a T 2 s k e w4 := by
  obtain ⟨g, k', rfl, h1, h2, h3⟩ := h
  rw [lft_length, lft_drop, ← Nat.add_assoc k M] at hf
  by_cases hv : (vget (lft s (k + M))).2.2 = 0
  · rw [if_neg (by rw [hv]; simp)] at hf h3
    have e1 : (s.size - k - (M + (vget (lft s (k + M))).2.1) < (vget (lft s (k + M))).1) ↔ (s.size - (k + M + (vget (lft s (k + M))).2.1) < (vget (lft s (k + M))).1) := by omega
    by_cases hb : s.size - (k + M + (vget (lft s (k + M))).2.1) < (vget (lft s (k + M))).1
    · rw [if_pos (e1.2 hb)] at hf
      rw [if_pos hb] at h3
      subst h3
      exact ⟨1, 0, rfl, h1, .inl ⟨by decide, hf⟩⟩
    · rw [if_neg (fun h => hb (e1.1 h))] at hf
      rw [if_neg hb] at h3
      by_cases h8 : d = 8
      · rw [if_pos h8] at hf h3
        subst h3
        exact ⟨9, 0, rfl, h1, .inl ⟨by decide, hf⟩⟩
      · rw [if_neg h8] at hf h3
        obtain ⟨h3, rfl, h4, A, c, h5, h6⟩ := h3
        by_cases hg : g = 0
        · rw [← h3, if_neg (by rw [hg]; simp)] at hf
          exact ⟨g, _, rfl, h1, .inr ⟨hg, _, _, _, A, c, hf, by rw [← Nat.add_assoc, ← Nat.add_assoc]; exact h2, h4, h5, h6⟩⟩
        · rw [← h3, if_pos hg] at hf
          exact ⟨g, 0, rfl, h1, .inl ⟨hg, hf⟩⟩
  · rw [if_pos hv] at hf h3
    subst h3
    exact ⟨_, 0, rfl, h1, .inl ⟨hv, hf⟩⟩
theorem res_tch (w4 : World) (b : Nat) (v0 v1 v2 v3 v4 : Value) : Tch (fun j => j = b) w4 (((((w4.setCell ⟨b, 0, none⟩ v0).setCell ⟨b, 1, none⟩ v1).setCell ⟨b, 2, none⟩ v2).setCell ⟨b, 3, none⟩ v3).setCell ⟨b, 4, none⟩ v4) :=
  (((((Tch.refl (fun j => j = b) w4).put (p := ⟨b, 0, none⟩) (fun _ => rfl) v0).put (p := ⟨b, 1, none⟩) (fun _ => rfl) v1).put (p := ⟨b, 2, none⟩) (fun _ => rfl) v2).put (p := ⟨b, 3, none⟩) (fun _ => rfl) v3).put (p := ⟨b, 4, none⟩) (fun _ => rfl) v4
theorem rnext_any {N : Nat} (hall : AllOk N) (rb cb d a : Nat) (s : ByteArray) (k : Nat) (w : World) (hr : Rdr w rb cb d a) (hc : Cur w cb s k) (hN : s.size - k ≤ N + 1) (hs : s.size ≤ 1000000) (hd : d ≤ 8) :
    Calls Tryz.prog 136 #[.pointer (some ⟨rb, 0, none⟩)] w (RNextEnd w rb cb d a s k) := by
  have HALL := Lib.hid hall
  have hrl := hr.lt
  have hcl := hc.1.lt
  have hbA := ba (a := w) b0 (.cells #[.int .u64 0, .int .i64 0, .int .u64 0, .string ByteArray.empty, .slice none 0 0] 47)
  have hrA : Rdr (w.alloc (.cells #[.int .u64 0, .int .i64 0, .int .u64 0, .string ByteArray.empty, .slice none 0 0] 47)) rb cb d a := BlkAt.more hr _
  have hcA : Cur (w.alloc (.cells #[.int .u64 0, .int .i64 0, .int .u64 0, .string ByteArray.empty, .slice none 0 0] 47)) cb s k := ⟨hc.1.more _, hc.2⟩
  have hxA := BlkAt.made w 47 #[.int .u64 0, .int .i64 0, .int .u64 0, .string ByteArray.empty, .slice none 0 0]
  have r0 := hr.cell 0
  simp at r0
  have HRA := Lib.hid hrA
  have HCA := Lib.hid hcA
  have HXA := Lib.hid hxA
  have HBA := Lib.hid hbA
  clear hr hc hall hbA hrA hcA hxA
  go_enter Tryz.func136, Tryz.ntmps136
  go_wp2_with fail
  refine (next_any cb s k _ HCA.out).mono ?_
  rintro e w1 ⟨rfl, hc1, hg⟩
  have hr1 := HRA.out.grown HCA.out hg
  have hx1 := HXA.out.step hg (by intro e; injection e with e; omega)
  have ht1 : Tch (S2 cb rb) w w1 := (Tch.below HBA.out).trans (Tch.grown (S := S2 cb rb) hg (fun g e _ => by injection e with e; exact .inl e.symm)) fun _ _ h => h
  have hs1 := hg.size
  simp only [World.size_alloc] at hs1
  rw [show s.data.toList.drop k = lft s k from rfl] at hc1 ⊢
  have c0 := hx1.cell 0
  have c1 := hx1.cell 1
  have c2 := hx1.cell 2
  have c3 := hx1.cell 3
  have c4 := hx1.cell 4
  have f0 := hx1.free 0
  have f1 := hx1.free 1
  have f2 := hx1.free 2
  have f3 := hx1.free 3
  have f4 := hx1.free 4
  simp at c0 c1 c2 c3 c4
  by_cases hv : (vget (lft s k)).2.2 = 0
  · obtain ⟨v1, v2, v3, v4, v5⟩ := vget_ok hv
    rw [lft_length] at v2
    have hand := and3 (vget (lft s k)).1 v4
    obtain ⟨T, hT⟩ : ∃ T, T = (vget (lft s k)).1 / 4 := ⟨_, rfl⟩
    obtain ⟨Y, hY⟩ : ∃ Y, Y = (vget (lft s k)).1 % 4 := ⟨_, rfl⟩
    have hq : ((vget (lft s k)).1 : Int) / 4 = (T : Int) := by omega
    rw [← hY] at hand
    rw [hv]
    generalize hVV : (vget (lft s k)).1 = V at *
    generalize hMM : (vget (lft s k)).2.1 = M at *
    have HV := Lib.hid hVV
    have HM := Lib.hid hMM
    have HVE := Lib.hid hv
    have HTY := Lib.hid (And.intro hT hY)
    have hY4 : Y ≤ 3 := by omega
    have hT62 : T ≤ 4611686018427387904 := by omega
    clear hVV hMM hv hT hY
    have hlw : w.heap.size < w1.heap.size := by omega
    have hlw2 : w.heap.size < w1.heap.size + 1 := by omega
    have hrl1 : rb < w1.heap.size := by omega
    have hrl2 : rb < w1.heap.size + 1 := by omega
    have HEE : Hid (∀ (g : Nat) (w' : World), ffirst (lft s k) d a = (.nil, 0, g) → g ≠ 0 → Tch (fun j => j = w.heap.size) w1 w' → RNextEnd w rb cb d a s k (.returned (.tuple #[.agg #[.int .u64 0, .int .i64 0, .int .u64 0, .string ByteArray.empty, .slice none 0 0], .int .i64 (g : Int)])) w') := fun g w' hf hg0 ht =>
      ⟨ht1.trans ht fun g hg' e => by omega, .inl ⟨by rw [hf]; exact hg0, by rw [hf]⟩⟩
    have hff : ffirst (lft s k) d a = fone (fun t => fget t (d + 1) 0) (lft s k) d a := rfl
    unfold fone at hff
    rw [if_neg (by rw [HVE.out]; simp), HV.out, HM.out, ← HTY.out.1, ← HTY.out.2] at hff
    have q0 := hr1.cell 0
    have q1 := hr1.cell 1
    have q2 := hr1.cell 2
    have p2 := hr1.free 2
    simp at q0 q1 q2
    have HFF := Lib.hid hff
    have HR1 := Lib.hid hr1
    have HC1 := Lib.hid hc1
    have HX1 := Lib.hid hx1
    have HT1 := Lib.hid ht1
    clear hff hr1 hc1 hx1 ht1 hg
    by_cases t0 : T = 0 ∨ 4294967296 < T
    · have hf := HFF.out
      rw [if_pos t0] at hf
      have HE : Hid (∀ w', Tch (fun j => j = w.heap.size) w1 w' → RNextEnd w rb cb d a s k (.returned (.tuple #[.agg #[.int .u64 0, .int .i64 0, .int .u64 0, .string ByteArray.empty, .slice none 0 0], .int .i64 18])) w') := fun w' ht => HEE.out 18 w' hf (by decide) ht
      clear hf
      rcases t0 with rfl | t0
      · go_wp2_with fail
        refine bodyPost_ret (v := .tuple #[.agg #[.int .u64 0, .int .i64 0, .int .u64 0, .string ByteArray.empty, .slice none 0 0], .int .i64 18]) (by simp [results, Tryz.results136, go_sem, c0, c1, c2, c3, c4, hlw, hlw2]; try rfl) rfl (HE.out _ (((res_tch _ _ _ _ _ _ _).more _).more _))
      · have ti0 : ((T : Int) == 0) = false := by rw [beq_eq_false_iff_ne]; omega
        go_wp2_with fail
        refine bodyPost_ret (v := .tuple #[.agg #[.int .u64 0, .int .i64 0, .int .u64 0, .string ByteArray.empty, .slice none 0 0], .int .i64 18]) (by simp [results, Tryz.results136, go_sem, c0, c1, c2, c3, c4, hlw, hlw2]; try rfl) rfl (HE.out _ (((res_tch _ _ _ _ _ _ _).more _).more _))
    · have ti0 : ((T : Int) == 0) = false := by rw [beq_eq_false_iff_ne]; omega
      have ti1 : decide ((4294967296 : Int) < (T : Int)) = false := by simp; omega
      have hf := HFF.out
      rw [if_neg t0] at hf
      by_cases y3 : Y = 3
      · subst y3
        rw [if_pos rfl] at hf
        have HE : Hid (∀ w', Tch (fun j => j = w.heap.size) w1 w' → RNextEnd w rb cb d a s k (.returned (.tuple #[.agg #[.int .u64 0, .int .i64 0, .int .u64 0, .string ByteArray.empty, .slice none 0 0], .int .i64 8])) w') := fun w' ht => HEE.out 8 w' hf (by decide) ht
        clear hf
        go_wp2_with fail
        refine bodyPost_ret (v := .tuple #[.agg #[.int .u64 0, .int .i64 0, .int .u64 0, .string ByteArray.empty, .slice none 0 0], .int .i64 8]) (by simp [results, Tryz.results136, go_sem, c0, c1, c2, c3, c4, hlw, hlw2]; try rfl) rfl (HE.out _ (((res_tch _ _ _ _ _ _ _).more _).more _))
      rw [if_neg y3] at hf
      have hy3 : (Y : Int) < 3 := by omega
      by_cases hta : T ≤ a
      · rw [if_pos hta] at hf
        have HE : Hid (∀ w', Tch (fun j => j = w.heap.size) w1 w' → RNextEnd w rb cb d a s k (.returned (.tuple #[.agg #[.int .u64 0, .int .i64 0, .int .u64 0, .string ByteArray.empty, .slice none 0 0], .int .i64 7])) w') := fun w' ht => HEE.out 7 w' hf (by decide) ht
        clear hf
        go_wp2_with fail
        go_quiet (fail)
        go_wp2_with fail
        refine bodyPost_ret (v := .tuple #[.agg #[.int .u64 0, .int .i64 0, .int .u64 0, .string ByteArray.empty, .slice none 0 0], .int .i64 7]) (by simp [results, Tryz.results136, go_sem, c0, c1, c2, c3, c4, hlw, hlw2]; try rfl) rfl (HE.out _ (((((Tch.refl _ w1).more _).more _).drn nq).trans (res_tch _ _ _ _ _ _ _) (fun _ _ h => h)))
      rw [if_neg hta] at hf
      rw [lft_drop] at hf
      have HF := Lib.hid hf
      have hta' : decide ((T : Int) ≤ (a : Int)) = false := by simp; omega
      have HK : Hid (∀ nq : Nat, Rdr ((((w1.alloc (.cells #[.func (.func 175) #[] #[], .func (.func 176) #[] #[], .func (.func 177) #[] #[]] 266)).alloc (.cells #[.int .u64 (T : Int), .int .i64 (Y : Int), .int .u64 0, .string ⟨#[]⟩, .slice none 0 0] 47)).drewN nq).setCell ⟨rb, 2, none⟩ (.int .u64 (T : Int))) rb cb d T ∧
          Cur ((((w1.alloc (.cells #[.func (.func 175) #[] #[], .func (.func 176) #[] #[], .func (.func 177) #[] #[]] 266)).alloc (.cells #[.int .u64 (T : Int), .int .i64 (Y : Int), .int .u64 0, .string ⟨#[]⟩, .slice none 0 0] 47)).drewN nq).setCell ⟨rb, 2, none⟩ (.int .u64 (T : Int))) cb s (k + M) ∧
          FBx ((((w1.alloc (.cells #[.func (.func 175) #[] #[], .func (.func 176) #[] #[], .func (.func 177) #[] #[]] 266)).alloc (.cells #[.int .u64 (T : Int), .int .i64 (Y : Int), .int .u64 0, .string ⟨#[]⟩, .slice none 0 0] 47)).drewN nq).setCell ⟨rb, 2, none⟩ (.int .u64 (T : Int))) (w1.heap.size + 1) T (Y : Int) 0 ⟨#[]⟩ (.slice none 0 0) ∧
          BlkAt ((((w1.alloc (.cells #[.func (.func 175) #[] #[], .func (.func 176) #[] #[], .func (.func 177) #[] #[]] 266)).alloc (.cells #[.int .u64 (T : Int), .int .i64 (Y : Int), .int .u64 0, .string ⟨#[]⟩, .slice none 0 0] 47)).drewN nq).setCell ⟨rb, 2, none⟩ (.int .u64 (T : Int))) w.heap.size 47 #[.int .u64 0, .int .i64 0, .int .u64 0, .string ByteArray.empty, .slice none 0 0] ∧
          Tch (S2 cb rb) w ((((w1.alloc (.cells #[.func (.func 175) #[] #[], .func (.func 176) #[] #[], .func (.func 177) #[] #[]] 266)).alloc (.cells #[.int .u64 (T : Int), .int .i64 (Y : Int), .int .u64 0, .string ⟨#[]⟩, .slice none 0 0] 47)).drewN nq).setCell ⟨rb, 2, none⟩ (.int .u64 (T : Int)))) := fun nq => by
        have e1 := ((BlkAt.more (BlkAt.more HR1.out (.cells #[.func (.func 175) #[] #[], .func (.func 176) #[] #[], .func (.func 177) #[] #[]] 266)) (.cells #[.int .u64 (T : Int), .int .i64 (Y : Int), .int .u64 0, .string ⟨#[]⟩, .slice none 0 0] 47)).drn nq).put 2 (.int .u64 (T : Int))
        have hne : cb ≠ rb := BlkAt.apart HC1.out.1 HR1.out (by decide)
        have e2 := BlkAt.far (p := ⟨rb, 2, none⟩) (((HC1.out.1.more (.cells #[.func (.func 175) #[] #[], .func (.func 176) #[] #[], .func (.func 177) #[] #[]] 266)).more (.cells #[.int .u64 (T : Int), .int .i64 (Y : Int), .int .u64 0, .string ⟨#[]⟩, .slice none 0 0] 47)).drn nq) hne (.int .u64 (T : Int))
        have e3 := BlkAt.made (w1.alloc (.cells #[.func (.func 175) #[] #[], .func (.func 176) #[] #[], .func (.func 177) #[] #[]] 266)) 47 #[.int .u64 (T : Int), .int .i64 (Y : Int), .int .u64 0, .string ⟨#[]⟩, .slice none 0 0]
        rw [World.size_alloc] at e3
        have e4 := BlkAt.far (p := ⟨rb, 2, none⟩) (e3.drn nq) (show w1.heap.size + 1 ≠ rb by omega) (.int .u64 (T : Int))
        have e5 := BlkAt.far (p := ⟨rb, 2, none⟩) (((HX1.out.more (.cells #[.func (.func 175) #[] #[], .func (.func 176) #[] #[], .func (.func 177) #[] #[]] 266)).more (.cells #[.int .u64 (T : Int), .int .i64 (Y : Int), .int .u64 0, .string ⟨#[]⟩, .slice none 0 0] 47)).drn nq) (show w.heap.size ≠ rb by omega) (.int .u64 (T : Int))
        exact ⟨e1, ⟨e2, HC1.out.2⟩, e4, e5, (((HT1.out.more _).more _).drn nq).put (p := ⟨rb, 2, none⟩) (fun _ => .inr rfl) _⟩
      have hs1' : w.heap.size ≠ w1.heap.size + 1 := by omega
      clear hf
      have hY012 : Y = 0 ∨ Y = 1 ∨ Y = 2 := by omega
      rcases hY012 with rfl | rfl | rfl
      · have hf2 := HF.out
        rw [if_pos rfl] at hf2
        have HF2 := Lib.hid hf2
        clear hf2
        go_wp2_with fail
        go_quiet (fail)
        go_wp2_with fail
        have HK4 := Lib.hid (HK.out nq)
        refine (num_any rb cb (w1.heap.size + 1) d T T 0 0 ⟨#[]⟩ (.slice none 0 0) s (k + M) _ HK4.out.1 HK4.out.2.1 HK4.out.2.2.1).mono ?_
        refine fun e w4 hw4 => ?_
        have hwe := way_num HF2.out hw4
        clear hw4
        revert hwe
        revert e w4
        rintro e w4 ⟨g, m, rfl, ht4, hor⟩
        have hn4 : ¬ S2 cb (w1.heap.size + 1) w.heap.size := fun h => by rcases h with h | h <;> omega
        have hx4 := HK4.out.2.2.2.1.tch ht4 hn4
        have ht4' : Tch (S2 cb rb) w w4 := HK4.out.2.2.2.2.trans ht4 fun g' hg' h => by rcases h with h | h; exact .inl h; omega
        have c0 := hx4.cell 0
        have c1 := hx4.cell 1
        have c2 := hx4.cell 2
        have c3 := hx4.cell 3
        have c4 := hx4.cell 4
        have f0 := hx4.free 0
        have f1 := hx4.free 1
        have f2 := hx4.free 2
        have f3 := hx4.free 3
        have f4 := hx4.free 4
        simp at c0 c1 c2 c3 c4
        rcases hor with ⟨hg0, hfe⟩ | ⟨rfl, n, x, i, A, c, hfe, hc4, hr4, hfb4, hs4⟩
        · have hgi : ((g : Int) != 0) = true := by rw [bne_iff_ne]; omega
          have HE : Hid (∀ w', Tch (fun j => j = w.heap.size) w4 w' → RNextEnd w rb cb d a s k (.returned (.tuple #[.agg #[.int .u64 0, .int .i64 0, .int .u64 0, .string ByteArray.empty, .slice none 0 0], .int .i64 (g : Int)])) w') := fun w' ht => ⟨ht4'.trans ht fun g hg' e => by omega, .inl ⟨by rw [hfe]; exact hg0, by rw [hfe]⟩⟩
          clear hfe hg0 hx4 ht4 ht4' hn4
          go_wp2_with fail
          refine bodyPost_ret (v := .tuple #[.agg #[.int .u64 0, .int .i64 0, .int .u64 0, .string ByteArray.empty, .slice none 0 0], .int .i64 (g : Int)]) (by simp [results, Tryz.results136, go_sem, c0, c1, c2, c3, c4]; try rfl) rfl (HE.out _ (res_tch _ _ _ _ _ _ _))
        · have z0 := hfb4.cell 0
          have z1 := hfb4.cell 1
          have z2 := hfb4.cell 2
          have z3 := hfb4.cell 3
          have z4 := hfb4.cell 4
          simp at z0 z1 z2 z3 z4
          have HE : Hid (∀ w', Tch (fun j => j = w.heap.size) w4 w' → RNextEnd w rb cb d a s k (.returned (.tuple #[.agg #[.int .u64 (T : Int), .int .i64 0, .int .u64 (n : Int), .string x, .slice A i.len c], .int .i64 0])) w') := fun w' ht => by
            refine ⟨ht4'.trans ht fun g hg' e => by omega, .inr ⟨T, n, m, 0, x, i, A, c, hfe, rfl, ⟨hc4.1.tch ht (by omega), hc4.2⟩, BlkAt.tch hr4 ht (by omega), ?_⟩⟩
            have hz3 := HK4.out.2.2.2.1.lt
            exact (hs4.tch ht fun j hj e => by omega).imp fun j hj => by omega
          clear hfe hx4 ht4 ht4' hn4 hc4 hr4 hfb4 hs4
          go_wp2_with fail
          refine bodyPost_ret (v := .tuple #[.agg #[.int .u64 (T : Int), .int .i64 0, .int .u64 (n : Int), .string x, .slice A i.len c], .int .i64 0]) (by simp [results, Tryz.results136, go_sem, c0, c1, c2, c3, c4]; try rfl) rfl (HE.out _ (res_tch _ _ _ _ _ _ _))
      · have hf2 := HF.out
        rw [if_neg (show ¬ ((1 : Nat) = 0) by decide), if_pos (show (1 : Nat) = 1 from rfl)] at hf2
        have HF2 := Lib.hid hf2
        clear hf2
        go_wp2_with fail
        go_quiet (fail)
        go_wp2_with fail
        have HK4 := Lib.hid (HK.out nq)
        refine (text_any rb cb (w1.heap.size + 1) d T T 0 1 ⟨#[]⟩ (.slice none 0 0) s (k + M) _ HK4.out.1 HK4.out.2.1 HK4.out.2.2.1).mono ?_
        refine fun e w4 hw4 => ?_
        have hwe := way_text HF2.out hw4
        clear hw4
        revert hwe
        revert e w4
        rintro e w4 ⟨g, m, rfl, ht4, hor⟩
        have hn4 : ¬ S2 cb (w1.heap.size + 1) w.heap.size := fun h => by rcases h with h | h <;> omega
        have hx4 := HK4.out.2.2.2.1.tch ht4 hn4
        have ht4' : Tch (S2 cb rb) w w4 := HK4.out.2.2.2.2.trans ht4 fun g' hg' h => by rcases h with h | h; exact .inl h; omega
        have c0 := hx4.cell 0
        have c1 := hx4.cell 1
        have c2 := hx4.cell 2
        have c3 := hx4.cell 3
        have c4 := hx4.cell 4
        have f0 := hx4.free 0
        have f1 := hx4.free 1
        have f2 := hx4.free 2
        have f3 := hx4.free 3
        have f4 := hx4.free 4
        simp at c0 c1 c2 c3 c4
        rcases hor with ⟨hg0, hfe⟩ | ⟨rfl, n, x, i, A, c, hfe, hc4, hr4, hfb4, hs4⟩
        · have hgi : ((g : Int) != 0) = true := by rw [bne_iff_ne]; omega
          have HE : Hid (∀ w', Tch (fun j => j = w.heap.size) w4 w' → RNextEnd w rb cb d a s k (.returned (.tuple #[.agg #[.int .u64 0, .int .i64 0, .int .u64 0, .string ByteArray.empty, .slice none 0 0], .int .i64 (g : Int)])) w') := fun w' ht => ⟨ht4'.trans ht fun g hg' e => by omega, .inl ⟨by rw [hfe]; exact hg0, by rw [hfe]⟩⟩
          clear hfe hg0 hx4 ht4 ht4' hn4
          go_wp2_with fail
          refine bodyPost_ret (v := .tuple #[.agg #[.int .u64 0, .int .i64 0, .int .u64 0, .string ByteArray.empty, .slice none 0 0], .int .i64 (g : Int)]) (by simp [results, Tryz.results136, go_sem, c0, c1, c2, c3, c4]; try rfl) rfl (HE.out _ (res_tch _ _ _ _ _ _ _))
        · have z0 := hfb4.cell 0
          have z1 := hfb4.cell 1
          have z2 := hfb4.cell 2
          have z3 := hfb4.cell 3
          have z4 := hfb4.cell 4
          simp at z0 z1 z2 z3 z4
          have HE : Hid (∀ w', Tch (fun j => j = w.heap.size) w4 w' → RNextEnd w rb cb d a s k (.returned (.tuple #[.agg #[.int .u64 (T : Int), .int .i64 1, .int .u64 (n : Int), .string x, .slice A i.len c], .int .i64 0])) w') := fun w' ht => by
            refine ⟨ht4'.trans ht fun g hg' e => by omega, .inr ⟨T, n, m, 1, x, i, A, c, hfe, rfl, ⟨hc4.1.tch ht (by omega), hc4.2⟩, BlkAt.tch hr4 ht (by omega), ?_⟩⟩
            have hz3 := HK4.out.2.2.2.1.lt
            exact (hs4.tch ht fun j hj e => by omega).imp fun j hj => by omega
          clear hfe hx4 ht4 ht4' hn4 hc4 hr4 hfb4 hs4
          go_wp2_with fail
          refine bodyPost_ret (v := .tuple #[.agg #[.int .u64 (T : Int), .int .i64 1, .int .u64 (n : Int), .string x, .slice A i.len c], .int .i64 0]) (by simp [results, Tryz.results136, go_sem, c0, c1, c2, c3, c4]; try rfl) rfl (HE.out _ (res_tch _ _ _ _ _ _ _))
      · have hf2 := HF.out
        rw [if_neg (show ¬ ((2 : Nat) = 0) by decide), if_neg (show ¬ ((2 : Nat) = 1) by decide)] at hf2
        have HF2 := Lib.hid hf2
        clear hf2
        go_wp2_with fail
        go_quiet (fail)
        go_wp2_with fail
        have HK4 := Lib.hid (HK.out nq)
        refine (list_any HALL.out rb cb (w1.heap.size + 1) d T T 0 2 ⟨#[]⟩ (.slice none 0 0) s (k + M) _ HK4.out.1 HK4.out.2.1 HK4.out.2.2.1 (by omega) hs hd).mono ?_
        refine fun e w4 hw4 => ?_
        have hwe := way_list HF2.out hw4
        clear hw4
        revert hwe
        revert e w4
        rintro e w4 ⟨g, m, rfl, ht4, hor⟩
        have hn4 : ¬ S2 cb (w1.heap.size + 1) w.heap.size := fun h => by rcases h with h | h <;> omega
        have hx4 := HK4.out.2.2.2.1.tch ht4 hn4
        have ht4' : Tch (S2 cb rb) w w4 := HK4.out.2.2.2.2.trans ht4 fun g' hg' h => by rcases h with h | h; exact .inl h; omega
        have c0 := hx4.cell 0
        have c1 := hx4.cell 1
        have c2 := hx4.cell 2
        have c3 := hx4.cell 3
        have c4 := hx4.cell 4
        have f0 := hx4.free 0
        have f1 := hx4.free 1
        have f2 := hx4.free 2
        have f3 := hx4.free 3
        have f4 := hx4.free 4
        simp at c0 c1 c2 c3 c4
        rcases hor with ⟨hg0, hfe⟩ | ⟨rfl, n, x, i, A, c, hfe, hc4, hr4, hfb4, hs4⟩
        · have hgi : ((g : Int) != 0) = true := by rw [bne_iff_ne]; omega
          have HE : Hid (∀ w', Tch (fun j => j = w.heap.size) w4 w' → RNextEnd w rb cb d a s k (.returned (.tuple #[.agg #[.int .u64 0, .int .i64 0, .int .u64 0, .string ByteArray.empty, .slice none 0 0], .int .i64 (g : Int)])) w') := fun w' ht => ⟨ht4'.trans ht fun g hg' e => by omega, .inl ⟨by rw [hfe]; exact hg0, by rw [hfe]⟩⟩
          clear hfe hg0 hx4 ht4 ht4' hn4
          go_wp2_with fail
          refine bodyPost_ret (v := .tuple #[.agg #[.int .u64 0, .int .i64 0, .int .u64 0, .string ByteArray.empty, .slice none 0 0], .int .i64 (g : Int)]) (by simp [results, Tryz.results136, go_sem, c0, c1, c2, c3, c4]; try rfl) rfl (HE.out _ (res_tch _ _ _ _ _ _ _))
        · have z0 := hfb4.cell 0
          have z1 := hfb4.cell 1
          have z2 := hfb4.cell 2
          have z3 := hfb4.cell 3
          have z4 := hfb4.cell 4
          simp at z0 z1 z2 z3 z4
          have HE : Hid (∀ w', Tch (fun j => j = w.heap.size) w4 w' → RNextEnd w rb cb d a s k (.returned (.tuple #[.agg #[.int .u64 (T : Int), .int .i64 2, .int .u64 (n : Int), .string x, .slice A i.len c], .int .i64 0])) w') := fun w' ht => by
            refine ⟨ht4'.trans ht fun g hg' e => by omega, .inr ⟨T, n, m, 2, x, i, A, c, hfe, rfl, ⟨hc4.1.tch ht (by omega), hc4.2⟩, BlkAt.tch hr4 ht (by omega), ?_⟩⟩
            have hz3 := HK4.out.2.2.2.1.lt
            exact (hs4.tch ht fun j hj e => by omega).imp fun j hj => by omega
          clear hfe hx4 ht4 ht4' hn4 hc4 hr4 hfb4 hs4
          go_wp2_with fail
          refine bodyPost_ret (v := .tuple #[.agg #[.int .u64 (T : Int), .int .i64 2, .int .u64 (n : Int), .string x, .slice A i.len c], .int .i64 0]) (by simp [results, Tryz.results136, go_sem, c0, c1, c2, c3, c4]; try rfl) rfl (HE.out _ (res_tch _ _ _ _ _ _ _))
  · have hfe : ffirst (lft s k) d a = (.nil, 0, (vget (lft s k)).2.2) := by unfold ffirst fone; rw [if_pos hv]
    have HE : Hid (∀ w', Tch (fun j => j = w.heap.size) w1 w' → RNextEnd w rb cb d a s k (.returned (.tuple #[.agg #[.int .u64 0, .int .i64 0, .int .u64 0, .string ByteArray.empty, .slice none 0 0], .int .i64 ((vget (lft s k)).2.2 : Int)])) w') := fun w' ht =>
      ⟨ht1.trans ht fun g hg' e => by omega, .inl ⟨by rw [hfe]; exact hv, by rw [hfe]⟩⟩
    generalize (vget (lft s k)).2.2 = G at *
    generalize (vget (lft s k)).1 = V at *
    have hgi : ((G : Int) != 0) = true := by rw [bne_iff_ne]; omega
    clear hr1 hx1 hc1 hg ht1 hv hfe
    go_wp2_with fail
    refine bodyPost_ret (v := .tuple #[.agg #[.int .u64 0, .int .i64 0, .int .u64 0, .string ByteArray.empty, .slice none 0 0], .int .i64 (G : Int)]) (by simp [results, Tryz.results136, go_sem, c0, c1, c2, c3, c4]; try rfl) rfl (HE.out _ (res_tch _ _ _ _ _ _ _))
end Go.Proofs.YtgidfnhfgiehjaaGreatDoor
end
