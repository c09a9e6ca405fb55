/-
  Contracts of layer 6: a clone; the nil deframer. Conditions: at most a million bytes wait.
-/
import Derived.Test.YtlkdoahdcepncaaFeed
namespace Go.Proofs.Ytlkdoahdcepncaa
open Go.RowKit Go.PM
set_option maxRecDepth 100000
set_option maxHeartbeats 1000000

/-- The clone of a buffer. -/
def CloneEnd (w : World) (R : List UInt8) (e : Ending) (w' : World) : Prop := ∃ v', e = .returned v' ∧ Buf w' 5 v' R ∧ Below w.heap.size w w' ∧ ∀ g, foot v' = some g → w.heap.size ≤ g
theorem u8_one (l : List UInt8) : ∀ u ∈ bvals l, u.oneCell' = true := by
  intro u hu
  obtain ⟨x, _, rfl⟩ := List.mem_map.1 hu
  rfl
theorem sclone_any (v : Value) (R : List UInt8) (w : World) (h : Buf w 5 v R) (hR : R.length ≤ 1000000) :
    Calls Try.prog 85 #[v] w (CloneEnd w R) := by
  obtain ⟨i1, hi1, hy0, hy1, hy2⟩ := info_parts (show (Try.prog.info? 5).map (fun i => (i.zero, i.size, i.bytes)) = some (some (.int .u8 0), 1, 1) by kernel_rfl)
  have q (w : World) (a : Option Addr) (n c : Nat) : (binOp .eql 35 (.slice a n c) (.slice none 0 0)).run Try.prog w = .ok (.bool a.isNone) w := Lib.run_eql_slice_nil w _ _ a n c 0 0 Try.underlying35
  rcases h with ⟨rfl, rfl⟩ | ⟨g, cap, rfl, hlt, hc, hall, hl⟩
  · go_enter Try.func85, Try.ntmps85
    go_wp2
    go_ret
    exact ⟨_, rfl, Buf.nil _ _, b0, fun g hg => by simp [foot] at hg⟩
  · have HC : Hid (∀ o, ∀ j u, (bvals R)[j]? = some u → (w.alloc o).cell? ((⟨g, 0, none⟩ : Addr).add j) = some u) := fun o j u hj => by
      rw [add_at]
      have hjl : j < R.length := by have := (List.getElem?_eq_some_iff.1 hj).1; rwa [bvals_length] at this
      rw [bvals_at R j hjl] at hj
      injection hj with hj
      subst hj
      have h1 := hl j hjl
      exact (World.cell?_of_block (w := w) (heap_alloc_old w o (World.block_lt_of_cell? w _ h1))).trans h1
    go_enter Try.func85, Try.ntmps85
    go_wp2_with (at_builtin; go_must (refine wpList_append_own _ rfl _ _ 35 rfl w.heap.size 5 i1 (.int .u8 0) 1 1 Try.underlying35 hi1 hy0 hy1 hy2 rfl (by decide) _ 0 [] rfl (World.ownsRow_made w #[] 0 (Nat.le_refl _) (by decide) rfl) ⟨g, 0, none⟩ R.length cap (bvals R) rfl (by rw [bvals_length, Nat.mul_one]) (HC.out _) (u8_one R) (by unfold maxLen; omega) (by omega) (by simp) ?_); intro v' w2 hown hg _; have HO := Lib.hid hown; have HG := Lib.hid hg; clear hown hg)
    go_ret
    have ho := Buf.ofOwn (n := 0 + R.length) (l := R) (by have := HO.out; rwa [List.nil_append] at this)
    exact ⟨_, rfl, ho.1, ba b0 _ |>.trans (below_of_row HG.out (Nat.le_refl _) (by simp)), ho.2⟩

/-- The end of Clone. -/
def CloneAt (w : World) (R : List UInt8) (need e count : Nat) (en : Ending) (w' : World) : Prop :=
  ∃ c v', en = .returned (.pointer (some ⟨c, 0, none⟩)) ∧ w.heap.size ≤ c ∧ Dfr w' c v' R need e count ∧ Below w.heap.size w w' ∧ ∀ g, foot v' = some g → w.heap.size ≤ g
theorem clone_any (d : Nat) (v : Value) (R : List UInt8) (need e count : Nat) (w : World) (h : Dfr w d v R need e count) (hR : R.length ≤ 1000000) :
    Calls Try.prog 68 #[.pointer (some ⟨d, 0, none⟩)] w (CloneAt w R need e count) := by
  have hb := h.2.1
  obtain ⟨A, c, rfl⟩ := hb.len
  have hd := h.1
  have c0 := hd.cell 0
  have c1 := hd.cell 1
  have c2 := hd.cell 2
  have c3 := hd.cell 3
  simp at c0 c1 c2 c3
  have HB := Lib.hid hb
  have HD := Lib.hid hd
  clear hb hd h
  have cn : ∀ o, (w.alloc o).cell? ⟨d, 0, none⟩ = some (.slice A R.length c) := fun o => (World.cell?_of_block (w := w) (heap_alloc_old w o (World.block_lt_of_cell? w _ c0))).trans c0
  go_enter Try.func68, Try.ntmps68
  go_wp2_with fail
  have hm := BlkAt.made w 102 #[.slice A R.length c, .int .i64 (need : Int), .int .i64 (e : Int), .int .i64 (count : Int)]
  have hbo := ba (a := w) b0 (.cells #[.slice A R.length c, .int .i64 (need : Int), .int .i64 (e : Int), .int .i64 (count : Int)] 102)
  generalize w.alloc (.cells #[.slice A R.length c, .int .i64 (need : Int), .int .i64 (e : Int), .int .i64 (count : Int)] 102) = W at hm hbo ⊢
  refine (sclone_any _ R W (HB.out.below hbo) hR).mono ?_
  rintro e' w1 ⟨v', rfl, hb1, hbel, hf⟩
  obtain ⟨A2, c', rfl⟩ := hb1.len
  have hm1 := hm.below hbel hm.lt
  have f0 := hm1.free 0
  have g0 := hm1.cell 0
  simp at g0
  have HM := Lib.hid hm1
  have HB1 := Lib.hid hb1
  have HW := Lib.hid (bb hbo hbel)
  have HF := Lib.hid (fun g hg => Nat.le_trans (Nat.le_of_lt_succ (by have := hm.lt; omega)) (hf g hg) : ∀ g, foot (.slice A2 R.length c') = some g → w.heap.size ≤ g)
  clear hm hbo hb1 hbel hf hm1 cn
  go_wp2
  go_ret
  have hne : foot (.slice A2 R.length c') ≠ some w.heap.size := HB1.out.ne_blk HM.out (by decide)
  refine ⟨_, _, rfl, Nat.le_refl _, ⟨HM.out.put 0 _, HB1.out.tch ((Tch.refl (fun k => k = w.heap.size) w1).put (p := ⟨w.heap.size, 0, none⟩) (fun _ => rfl) _) (fun g hg e => hne (e ▸ hg)), hne⟩, HW.out.setCell (Nat.le_refl _) _, HF.out⟩
end Go.Proofs.Ytlkdoahdcepncaa
