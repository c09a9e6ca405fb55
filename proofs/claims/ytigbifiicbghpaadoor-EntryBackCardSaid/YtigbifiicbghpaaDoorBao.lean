/-
  Texts of the proof, joined: EntryLaw. Conditions: as each names.
-/
import Derived.Test.YtigbifiicbghpaaDoorBan
import Derived.Deep.RegionHeld3
import Derived.Shelf.SlicesE.Equal

section
/-
  The walk of the statement of layer 11 that what may be is read as it was written. Conditions: texts of less than 2^47 bytes; Go's tables of UTF-8 lie in memory.
-/
namespace Go.Proofs.YtigbifiicbghpaaDoor
open Go.RowKit Go.PM
set_option maxRecDepth 100000
set_option maxHeartbeats 2000000
attribute [local go_sem ↓] Go.wp_at_zero Go.wp_at_succ

theorem ecmpB_any (ak av bk bv : ByteArray) (w : World) : Calls Tryd.prog 28 #[.agg #[.string ak, .string av], .agg #[.string bk, .string bv]] w fun e w' => e = .returned (.int .i64 (ecmp ak.data.toList av.data.toList bk.data.toList bv.data.toList)) ∧ Below w.heap.size w w' :=
  (ecmp_any ak av bk bv w).mono fun e w' h => ⟨h.1, by rw [h.2]; exact ba (ba b0 _) _⟩
theorem bool_neq (a b : Bool) (v : World) : (binOp .neq 4 (.bool a) (.bool b)).run Tryd.prog v = .ok (.bool (!(a == b))) v := (NeqAt.bool 4 Tryd.underlying4).1 a b v
theorem list_eq_iff (a b : ByteArray) : a.data.toList = b.data.toList ↔ a = b := ⟨fun h => by rw [txt_eq h]; exact txt_of b, fun h => by rw [h]⟩
theorem eback_walk (ak av bk bv ck cv behind : ByteArray) (w : World) (hT : Tabs w) (h1 : ak.size ≤ 140737488351232) (h2 : av.size ≤ 140737488351232) (h3 : bk.size ≤ 140737488351232) (h4 : bv.size ≤ 140737488351232) (h5 : ck.size ≤ 140737488351232) (h6 : cv.size ≤ 140737488351232) (h7 : behind.size ≤ 140737488351232) :
    Calls Tryd.prog 6 #[.agg #[.string ak, .string av], .agg #[.string bk, .string bv], .agg #[.string ck, .string cv], .string behind] w fun e w' => e = .returned (.bool true) ∧ Below w.heap.size w w' := by
  have hxa := ((BlkAt.made w 59 #[.string ak, .string av]).more (.cells #[.string bk, .string bv] 59)).more (.cells #[.string ck, .string cv] 59)
  have hxb := (BlkAt.made (w.alloc (.cells #[.string ak, .string av] 59)) 59 #[.string bk, .string bv]).more (.cells #[.string ck, .string cv] 59)
  have hxc := BlkAt.made ((w.alloc (.cells #[.string ak, .string av] 59)).alloc (.cells #[.string bk, .string bv] 59)) 59 #[.string ck, .string cv]
  have hb0 := ba (ba (ba (a := w) b0 (.cells #[.string ak, .string av] 59)) (.cells #[.string bk, .string bv] 59)) (.cells #[.string ck, .string cv] 59)
  simp only [World.size_alloc] at hxb hxc
  have HA := Lib.hid (awake11 _ (hT.below hb0))
  have HXa := Lib.hid hxa
  have HXb := Lib.hid hxb
  have HXc := Lib.hid hxc
  have HB := Lib.hid hb0
  have HT := Lib.hid (hT.below hb0)
  clear hxa hxb hxc hb0 hT
  go_enter Tryd.func6, Tryd.ntmps6
  go_wp2_with fail
  generalize ((w.alloc (.cells #[.string ak, .string av] 59)).alloc (.cells #[.string bk, .string bv] 59)).alloc (.cells #[.string ck, .string cv] 59) = wz at *
  have HCL : Hid (∀ x : World, Below wz.heap.size wz x → (x.cell? ⟨w.heap.size, 0, none⟩ = some (.string ak) ∧ x.cell? ⟨w.heap.size, 1, none⟩ = some (.string av) ∧ x.cell? ⟨w.heap.size + 1, 0, none⟩ = some (.string bk) ∧ x.cell? ⟨w.heap.size + 1, 1, none⟩ = some (.string bv) ∧ x.cell? ⟨w.heap.size + 1 + 1, 0, none⟩ = some (.string ck) ∧ x.cell? ⟨w.heap.size + 1 + 1, 1, none⟩ = some (.string cv))) := fun x hx =>
    ⟨(HXa.out.below hx HXa.out.lt).cell 0, (HXa.out.below hx HXa.out.lt).cell 1, (HXb.out.below hx HXb.out.lt).cell 0, (HXb.out.below hx HXb.out.lt).cell 1, (HXc.out.below hx HXc.out.lt).cell 0, (HXc.out.below hx HXc.out.lt).cell 1⟩
  have hg := ent_guard
  refine HA.out.mono ?_
  rintro e w1 ⟨rfl, hb1⟩
  have HB1 := Lib.hid hb1
  obtain ⟨p0, p1, p2, p3, p4, p5⟩ := HCL.out _ hb1
  clear hb1 HA HXa HXb HXc
  by_cases htot : 1000 < ak.size + av.size + bk.size + bv.size + ck.size + cv.size
  · have hti : (1000 : Int) < (ak.size : Int) + (av.size : Int) + (bk.size : Int) + (bv.size : Int) + (ck.size : Int) + (cv.size : Int) := by omega
    go_wp2_with fail
    go_ret
    exact ⟨rfl, bb HB.out HB1.out⟩
  have hti : (ak.size : Int) + (av.size : Int) + (bk.size : Int) + (bv.size : Int) + (ck.size : Int) + (cv.size : Int) ≤ 1000 := by omega
  by_cases hbe : 1000 < behind.size
  · have hbi : (1000 : Int) < (behind.size : Int) := by omega
    go_wp2_with fail
    go_ret
    exact ⟨rfl, bb HB.out HB1.out⟩
  have hbi : (behind.size : Int) ≤ 1000 := by omega
  have HP := Lib.hid (eput_any ak av w1 (by omega) (by omega))
  have hel := eput_length ak.data.toList av.data.toList
  rw [len_list, len_list, vput_length, vput_length] at hel
  have hv1 := vsz_le10 (n := ak.size) (by omega)
  have hv2 := vsz_le10 (n := av.size) (by omega)
  have HSZ : Hid ((eput ak.data.toList av.data.toList).length ≤ 2000) := by show _ ≤ _; omega
  have HNX : Hid (enx echk ((txt (eput ak.data.toList av.data.toList) ++ behind).data.toList) = if echk ak.data.toList av.data.toList ≠ 0 then (([], []), 0, echk ak.data.toList av.data.toList) else ((ak.data.toList, av.data.toList), (eput ak.data.toList av.data.toList).length, 0)) := by
    rw [app_listE, txt_list]
    exact enx_put echk _ _ _ (by rw [len_list]; omega) (by rw [len_list]; omega)
  have HRS : Hid ((txt (eput ak.data.toList av.data.toList) ++ behind).extract (eput ak.data.toList av.data.toList).length (txt (eput ak.data.toList av.data.toList) ++ behind).size = behind) := by
    have h : ((txt (eput ak.data.toList av.data.toList) ++ behind).extract (eput ak.data.toList av.data.toList).length (txt (eput ak.data.toList av.data.toList) ++ behind).size).data.toList = behind.data.toList := by
      rw [PM.ext_rest, app_listE, txt_list, List.drop_left]
    exact (txt_eq h).trans (txt_of behind)
  clear hel hv1 hv2
  generalize hE : eput ak.data.toList av.data.toList = E at *
  have hPS : (txt E).size ≤ 2000 := by rw [txt_size]; exact HSZ.out
  go_wp2_with fail
  refine HP.out.mono ?_
  rintro e w2 ⟨rfl, hb2⟩
  have HB2 := Lib.hid (bb HB1.out hb2)
  clear hb2 HP hE
  generalize hPP : txt E = P at *
  have hPB : (P ++ behind).size ≤ 4000 := by rw [ByteArray.size_append]; omega
  go_wp2_with fail
  obtain ⟨p, hpe⟩ : ∃ p, p = ecmp ak.data.toList av.data.toList bk.data.toList bv.data.toList := ⟨_, rfl⟩
  obtain ⟨q, hqe⟩ : ∃ q, q = ecmp bk.data.toList bv.data.toList ck.data.toList cv.data.toList := ⟨_, rfl⟩
  obtain ⟨r, hre⟩ : ∃ r, r = ecmp ak.data.toList av.data.toList ck.data.toList cv.data.toList := ⟨_, rfl⟩
  have hpr := ecmp_range ak.data.toList av.data.toList bk.data.toList bv.data.toList
  have hqr := ecmp_range bk.data.toList bv.data.toList ck.data.toList cv.data.toList
  have hrr := ecmp_range ak.data.toList av.data.toList ck.data.toList cv.data.toList
  have HTR := Lib.hid (ecmp_trans ak.data.toList av.data.toList bk.data.toList bv.data.toList ck.data.toList cv.data.toList)
  have HAB := Lib.hid (fun v : World => ecmpB_any ak av bk bv v)
  have HBA := Lib.hid (fun v : World => ecmpB_any bk bv ak av v)
  have HBC := Lib.hid (fun v : World => ecmpB_any bk bv ck cv v)
  have HAC := Lib.hid (fun v : World => ecmpB_any ak av ck cv v)
  rw [ecmp_neg ak.data.toList av.data.toList bk.data.toList bv.data.toList] at HBA
  have HEQ : Hid (decide (ak = bk ∧ av = bv) = decide (p = 0)) := by
    have h := ecmp_iff ak.data.toList av.data.toList bk.data.toList bv.data.toList
    rw [list_eq_iff, list_eq_iff, ← hpe] at h
    show _ = _
    rw [decide_eq_decide]
    exact h.symm
  rw [← hpe] at hpr HAB HBA HTR
  rw [← hqe] at hqr HBC HTR
  rw [← hre] at hrr HAC HTR
  clear hpe hqe hre
  refine (cur_over (P ++ behind) w2).mono ?_
  rintro e w3 ⟨rfl, rfl⟩
  have hc3 : Cur (w2.alloc (.cells #[.string (P ++ behind), .int .i64 0] 88)) w2.heap.size (P ++ behind) 0 := ⟨BlkAt.made w2 88 #[.string (P ++ behind), .int .i64 0], Nat.zero_le _, by omega⟩
  have hb3 := ba HB2.out (.cells #[.string (P ++ behind), .int .i64 0] 88)
  have HN := Lib.hid (enext_any wz HT.out w2.heap.size (P ++ behind) 0 (w2.alloc (.cells #[.string (P ++ behind), .int .i64 0] 88)) hb3 HB2.out.size hc3)
  unfold ENextEnd at HN
  rw [List.drop_zero, HNX.out] at HN
  have HB3 := Lib.hid hb3
  have hcb := HB2.out.size
  clear hc3 hb3 HNX HB2
  generalize w2.alloc (.cells #[.string (P ++ behind), .int .i64 0] 88) = w3 at HN HB3 ⊢
  generalize w2.heap.size = cb at *
  obtain ⟨C, hC⟩ : ∃ C, C = echk ak.data.toList av.data.toList := ⟨_, rfl⟩
  have HCK : Hid (∀ x : World, Below wz.heap.size wz x → Calls Tryd.prog 26 #[.agg #[.string ak, .string av]] x fun e w' => e = .returned (.int .i64 C) ∧ Below x.heap.size x w') := fun x hx => by
    rw [hC]
    exact echeck_any ak av x (by omega) (by omega) (HT.out.below hx)
  rw [← hC] at HN
  clear hC
  clear p0 p1 p2 p3 p4 p5
  go_wp2_with fail
  refine HN.out.mono ?_
  by_cases hCz : C = 0
  · subst hCz
    rw [if_neg (by simp)]
    rintro e w4 ⟨k', rfl, hc4, hk4, hg4⟩
    simp only [txt_of]
    have hk := hk4 rfl
    simp only [Nat.zero_add] at hk
    subst hk
    have hbW : Below wz.heap.size wz (w4.alloc (.cells #[.string ak, .string av] 59)) := ba (bg HB3.out hg4 hcb) _
    have HC4 : Hid (Cur (w4.alloc (.cells #[.string ak, .string av] 59)) cb (P ++ behind) E.length) := ⟨hc4.1.more _, hc4.2⟩
    have HX4 := Lib.hid (BlkAt.made w4 59 #[.string ak, .string av])
    have hne1 : ∀ v : World, (binOp .neq 59 (.agg #[.string ak, .string av]) (.agg #[.string ak, .string av])).run Tryd.prog v = .ok (.bool false) v := fun v => by rw [ent_neq]; simp
    clear hc4 hk4 hg4 HN
    obtain ⟨p0, p1, p2, p3, p4, p5⟩ := HCL.out _ hbW
    go_wp2_with fail
    refine (HCK.out _ hbW).mono ?_
    rintro e w5 ⟨rfl, hb5⟩
    replace hbW := bb hbW hb5
    have hx5 := HX4.out.below hb5 HX4.out.lt
    have s0 := hx5.cell 0
    have s1 := hx5.cell 1
    simp at s0 s1
    have HC5 : Hid (Cur w5 cb (P ++ behind) E.length) := ⟨HC4.out.1.below hb5 HC4.out.1.lt, HC4.out.2⟩
    have HRST := Lib.hid (cur_rest cb (P ++ behind) E.length w5 HC5.out)
    rw [HRS.out] at HRST
    clear hb5 hx5 HC4 HX4 p0 p1 p2 p3 p4 p5
    obtain ⟨p0, p1, p2, p3, p4, p5⟩ := HCL.out _ hbW
    go_wp2_with fail
    refine HRST.out.mono ?_
    rintro e w6 ⟨rfl, hb6⟩
    replace hbW := bb hbW hb6
    clear hb6 s0 s1 HRST HC5 p0 p1 p2 p3 p4 p5
    obtain ⟨p0, p1, p2, p3, p4, p5⟩ := HCL.out _ hbW
    rcases hpr with hp | hp | hp
    · have HCab := Lib.hid (fun v => by have := HAB.out v; rw [hp] at this; exact this : ∀ v : World, Calls Tryd.prog 28 #[.agg #[.string ak, .string av], .agg #[.string bk, .string bv]] v fun e w' => e = .returned (.int .i64 (-1)) ∧ Below v.heap.size v w')
      have HCba := Lib.hid (fun v => by have := HBA.out v; rw [hp] at this; exact this : ∀ v : World, Calls Tryd.prog 28 #[.agg #[.string bk, .string bv], .agg #[.string ak, .string av]] v fun e w' => e = .returned (.int .i64 1) ∧ Below v.heap.size v w')
      have heq : ∀ v : World, (binOp .eql 59 (.agg #[.string ak, .string av]) (.agg #[.string bk, .string bv])).run Tryd.prog v = .ok (.bool false) v := fun v => by rw [ent_eql, HEQ.out, hp]; rfl
      have HQ := Lib.hid (fun h => HTR.out (by rw [hp]; decide) h : q < 0 → r < 0)
      clear hp
      go_wp2_with fail
      have n0 : ∀ n : BelW w6, n.wld.cell? ⟨w.heap.size, 0, none⟩ = some (.string ak) := fun n => (HCL.out _ (bb hbW n.bel)).1
      have n1 : ∀ n : BelW w6, n.wld.cell? ⟨w.heap.size, 1, none⟩ = some (.string av) := fun n => (HCL.out _ (bb hbW n.bel)).2.1
      have n2 : ∀ n : BelW w6, n.wld.cell? ⟨w.heap.size + 1, 0, none⟩ = some (.string bk) := fun n => (HCL.out _ (bb hbW n.bel)).2.2.1
      have n3 : ∀ n : BelW w6, n.wld.cell? ⟨w.heap.size + 1, 1, none⟩ = some (.string bv) := fun n => (HCL.out _ (bb hbW n.bel)).2.2.2.1
      have n4 : ∀ n : BelW w6, n.wld.cell? ⟨w.heap.size + 1 + 1, 0, none⟩ = some (.string ck) := fun n => (HCL.out _ (bb hbW n.bel)).2.2.2.2.1
      have n5 : ∀ n : BelW w6, n.wld.cell? ⟨w.heap.size + 1 + 1, 1, none⟩ = some (.string cv) := fun n => (HCL.out _ (bb hbW n.bel)).2.2.2.2.2
      refine wp_region_below_lit (by kernel_rfl) (by kernel_rfl) ?_
      repeat (first | go_big_quiet_skip | (go_big_quiet_want; go_big_quiet_op; first | go_big_quiet_on | (apply Exists.intro; refine ⟨fun nq => ?_, ?_⟩; ((first | (go_at_call 28; with_reducible show Calls _ _ #[.agg #[.string ak, .string av], _] _ _; exact below_of (HCab.out _)) | (go_at_call 28; exact below_of (HCba.out _)))); go_big_quiet_on)))
      refine wpQuiet_nil ?_
      intro wq hnq
      obtain ⟨nq, rfl⟩ := hnq
      have hq := nq.bel
      generalize nq.wld = wq at hq ⊢
      clear nq
      replace hbW := bb hbW hq
      clear hq n0 n1 n2 n3 n4 n5 p0 p1 p2 p3 p4 p5
      obtain ⟨p0, p1, p2, p3, p4, p5⟩ := HCL.out _ hbW
      rcases hqr with hq | hq | hq
      · obtain hr | hr | hr := hrr
        · have HCbc := Lib.hid (fun v => by have := HBC.out v; rw [hq] at this; exact this : ∀ v : World, Calls Tryd.prog 28 #[.agg #[.string bk, .string bv], .agg #[.string ck, .string cv]] v fun e w' => e = .returned (.int .i64 (-1)) ∧ Below v.heap.size v w')
          have HCac := Lib.hid (fun v => by have := HAC.out v; rw [hr] at this; exact this : ∀ v : World, Calls Tryd.prog 28 #[.agg #[.string ak, .string av], .agg #[.string ck, .string cv]] v fun e w' => e = .returned (.int .i64 (-1)) ∧ Below v.heap.size v w')
          clear hq hr
          go_wp2_with fail
          refine (HCab.out _).mono ?_
          rintro e v1 ⟨rfl, hb2⟩
          replace hbW := bb hbW hb2
          clear hb2 p0 p1 p2 p3 p4 p5
          obtain ⟨p0, p1, p2, p3, p4, p5⟩ := HCL.out _ hbW
          go_wp2_with fail
          refine (HCbc.out _).mono ?_
          rintro e v2 ⟨rfl, hb2⟩
          replace hbW := bb hbW hb2
          clear hb2 p0 p1 p2 p3 p4 p5
          obtain ⟨p0, p1, p2, p3, p4, p5⟩ := HCL.out _ hbW
          go_wp2_with fail
          refine (HCac.out _).mono ?_
          rintro e v3 ⟨rfl, hb2⟩
          replace hbW := bb hbW hb2
          clear hb2 p0 p1 p2 p3 p4 p5
          obtain ⟨p0, p1, p2, p3, p4, p5⟩ := HCL.out _ hbW
          go_wp2_with fail
          go_ret
          exact ⟨rfl, bb HB.out hbW⟩
        · exact absurd (HQ.out (by omega)) (by omega)
        · exact absurd (HQ.out (by omega)) (by omega)
      · have HCbc := Lib.hid (fun v => by have := HBC.out v; rw [hq] at this; exact this : ∀ v : World, Calls Tryd.prog 28 #[.agg #[.string bk, .string bv], .agg #[.string ck, .string cv]] v fun e w' => e = .returned (.int .i64 0) ∧ Below v.heap.size v w')
        clear hq
        go_wp2_with fail
        refine (HCab.out _).mono ?_
        rintro e v1 ⟨rfl, hb2⟩
        replace hbW := bb hbW hb2
        clear hb2 p0 p1 p2 p3 p4 p5
        obtain ⟨p0, p1, p2, p3, p4, p5⟩ := HCL.out _ hbW
        go_wp2_with fail
        refine (HCbc.out _).mono ?_
        rintro e v2 ⟨rfl, hb2⟩
        replace hbW := bb hbW hb2
        clear hb2 p0 p1 p2 p3 p4 p5
        obtain ⟨p0, p1, p2, p3, p4, p5⟩ := HCL.out _ hbW
        go_wp2_with fail
        go_ret
        exact ⟨rfl, bb HB.out hbW⟩
      · have HCbc := Lib.hid (fun v => by have := HBC.out v; rw [hq] at this; exact this : ∀ v : World, Calls Tryd.prog 28 #[.agg #[.string bk, .string bv], .agg #[.string ck, .string cv]] v fun e w' => e = .returned (.int .i64 1) ∧ Below v.heap.size v w')
        clear hq
        go_wp2_with fail
        refine (HCab.out _).mono ?_
        rintro e v1 ⟨rfl, hb2⟩
        replace hbW := bb hbW hb2
        clear hb2 p0 p1 p2 p3 p4 p5
        obtain ⟨p0, p1, p2, p3, p4, p5⟩ := HCL.out _ hbW
        go_wp2_with fail
        refine (HCbc.out _).mono ?_
        rintro e v2 ⟨rfl, hb2⟩
        replace hbW := bb hbW hb2
        clear hb2 p0 p1 p2 p3 p4 p5
        obtain ⟨p0, p1, p2, p3, p4, p5⟩ := HCL.out _ hbW
        go_wp2_with fail
        go_ret
        exact ⟨rfl, bb HB.out hbW⟩
    · have HCab := Lib.hid (fun v => by have := HAB.out v; rw [hp] at this; exact this : ∀ v : World, Calls Tryd.prog 28 #[.agg #[.string ak, .string av], .agg #[.string bk, .string bv]] v fun e w' => e = .returned (.int .i64 0) ∧ Below v.heap.size v w')
      have HCba := Lib.hid (fun v => by have := HBA.out v; rw [hp] at this; exact this : ∀ v : World, Calls Tryd.prog 28 #[.agg #[.string bk, .string bv], .agg #[.string ak, .string av]] v fun e w' => e = .returned (.int .i64 0) ∧ Below v.heap.size v w')
      have heq : ∀ v : World, (binOp .eql 59 (.agg #[.string ak, .string av]) (.agg #[.string bk, .string bv])).run Tryd.prog v = .ok (.bool true) v := fun v => by rw [ent_eql, HEQ.out, hp]; rfl
      clear hp
      go_wp2_with fail
      have n0 : ∀ n : BelW w6, n.wld.cell? ⟨w.heap.size, 0, none⟩ = some (.string ak) := fun n => (HCL.out _ (bb hbW n.bel)).1
      have n1 : ∀ n : BelW w6, n.wld.cell? ⟨w.heap.size, 1, none⟩ = some (.string av) := fun n => (HCL.out _ (bb hbW n.bel)).2.1
      have n2 : ∀ n : BelW w6, n.wld.cell? ⟨w.heap.size + 1, 0, none⟩ = some (.string bk) := fun n => (HCL.out _ (bb hbW n.bel)).2.2.1
      have n3 : ∀ n : BelW w6, n.wld.cell? ⟨w.heap.size + 1, 1, none⟩ = some (.string bv) := fun n => (HCL.out _ (bb hbW n.bel)).2.2.2.1
      have n4 : ∀ n : BelW w6, n.wld.cell? ⟨w.heap.size + 1 + 1, 0, none⟩ = some (.string ck) := fun n => (HCL.out _ (bb hbW n.bel)).2.2.2.2.1
      have n5 : ∀ n : BelW w6, n.wld.cell? ⟨w.heap.size + 1 + 1, 1, none⟩ = some (.string cv) := fun n => (HCL.out _ (bb hbW n.bel)).2.2.2.2.2
      refine wp_region_below_lit (by kernel_rfl) (by kernel_rfl) ?_
      repeat (first | go_big_quiet_skip | (go_big_quiet_want; go_big_quiet_op; first | go_big_quiet_on | (apply Exists.intro; refine ⟨fun nq => ?_, ?_⟩; ((first | (go_at_call 28; with_reducible show Calls _ _ #[.agg #[.string ak, .string av], _] _ _; exact below_of (HCab.out _)) | (go_at_call 28; exact below_of (HCba.out _)))); go_big_quiet_on)))
      refine wpQuiet_nil ?_
      intro wq hnq
      obtain ⟨nq, rfl⟩ := hnq
      have hq := nq.bel
      generalize nq.wld = wq at hq ⊢
      clear nq
      replace hbW := bb hbW hq
      clear hq n0 n1 n2 n3 n4 n5 p0 p1 p2 p3 p4 p5
      obtain ⟨p0, p1, p2, p3, p4, p5⟩ := HCL.out _ hbW
      go_wp2_with fail
      refine (HCab.out _).mono ?_
      rintro e v1 ⟨rfl, hb2⟩
      replace hbW := bb hbW hb2
      clear hb2 p0 p1 p2 p3 p4 p5
      obtain ⟨p0, p1, p2, p3, p4, p5⟩ := HCL.out _ hbW
      go_wp2_with fail
      go_ret
      exact ⟨rfl, bb HB.out hbW⟩
    · have HCab := Lib.hid (fun v => by have := HAB.out v; rw [hp] at this; exact this : ∀ v : World, Calls Tryd.prog 28 #[.agg #[.string ak, .string av], .agg #[.string bk, .string bv]] v fun e w' => e = .returned (.int .i64 1) ∧ Below v.heap.size v w')
      have HCba := Lib.hid (fun v => by have := HBA.out v; rw [hp] at this; exact this : ∀ v : World, Calls Tryd.prog 28 #[.agg #[.string bk, .string bv], .agg #[.string ak, .string av]] v fun e w' => e = .returned (.int .i64 (-1)) ∧ Below v.heap.size v w')
      have heq : ∀ v : World, (binOp .eql 59 (.agg #[.string ak, .string av]) (.agg #[.string bk, .string bv])).run Tryd.prog v = .ok (.bool false) v := fun v => by rw [ent_eql, HEQ.out, hp]; rfl
      clear hp
      go_wp2_with fail
      have n0 : ∀ n : BelW w6, n.wld.cell? ⟨w.heap.size, 0, none⟩ = some (.string ak) := fun n => (HCL.out _ (bb hbW n.bel)).1
      have n1 : ∀ n : BelW w6, n.wld.cell? ⟨w.heap.size, 1, none⟩ = some (.string av) := fun n => (HCL.out _ (bb hbW n.bel)).2.1
      have n2 : ∀ n : BelW w6, n.wld.cell? ⟨w.heap.size + 1, 0, none⟩ = some (.string bk) := fun n => (HCL.out _ (bb hbW n.bel)).2.2.1
      have n3 : ∀ n : BelW w6, n.wld.cell? ⟨w.heap.size + 1, 1, none⟩ = some (.string bv) := fun n => (HCL.out _ (bb hbW n.bel)).2.2.2.1
      have n4 : ∀ n : BelW w6, n.wld.cell? ⟨w.heap.size + 1 + 1, 0, none⟩ = some (.string ck) := fun n => (HCL.out _ (bb hbW n.bel)).2.2.2.2.1
      have n5 : ∀ n : BelW w6, n.wld.cell? ⟨w.heap.size + 1 + 1, 1, none⟩ = some (.string cv) := fun n => (HCL.out _ (bb hbW n.bel)).2.2.2.2.2
      refine wp_region_below_lit (by kernel_rfl) (by kernel_rfl) ?_
      repeat (first | go_big_quiet_skip | (go_big_quiet_want; go_big_quiet_op; first | go_big_quiet_on | (apply Exists.intro; refine ⟨fun nq => ?_, ?_⟩; ((first | (go_at_call 28; with_reducible show Calls _ _ #[.agg #[.string ak, .string av], _] _ _; exact below_of (HCab.out _)) | (go_at_call 28; exact below_of (HCba.out _)))); go_big_quiet_on)))
      refine wpQuiet_nil ?_
      intro wq hnq
      obtain ⟨nq, rfl⟩ := hnq
      have hq := nq.bel
      generalize nq.wld = wq at hq ⊢
      clear nq
      replace hbW := bb hbW hq
      clear hq n0 n1 n2 n3 n4 n5 p0 p1 p2 p3 p4 p5
      obtain ⟨p0, p1, p2, p3, p4, p5⟩ := HCL.out _ hbW
      go_wp2_with fail
      refine (HCab.out _).mono ?_
      rintro e v1 ⟨rfl, hb2⟩
      replace hbW := bb hbW hb2
      clear hb2 p0 p1 p2 p3 p4 p5
      obtain ⟨p0, p1, p2, p3, p4, p5⟩ := HCL.out _ hbW
      go_wp2_with fail
      go_ret
      exact ⟨rfl, bb HB.out hbW⟩
  · rw [if_pos hCz]
    rintro e w4 ⟨k', rfl, hc4, hk4, hg4⟩
    have e0 : txt [] = ByteArray.empty := rfl
    simp only [e0]
    have hbW : Below wz.heap.size wz (w4.alloc (.cells #[.string ByteArray.empty, .string ByteArray.empty] 59)) := ba (bg HB3.out hg4 hcb) _
    have HX4 := Lib.hid (BlkAt.made w4 59 #[.string ByteArray.empty, .string ByteArray.empty])
    have hne1 : ∀ v : World, (binOp .neq 59 (.agg #[.string ByteArray.empty, .string ByteArray.empty]) (.agg #[.string ByteArray.empty, .string ByteArray.empty])).run Tryd.prog v = .ok (.bool false) v := fun v => by rw [ent_neq]; simp
    have hCi : (C == 0) = false := by rw [beq_eq_false_iff_ne]; exact hCz
    have hCi2 : (C != 0) = true := by rw [bne_iff_ne]; exact hCz
    clear hc4 hk4 hg4 HN e0 hCz
    obtain ⟨p0, p1, p2, p3, p4, p5⟩ := HCL.out _ hbW
    go_wp2_with fail
    refine (HCK.out _ hbW).mono ?_
    rintro e w5 ⟨rfl, hb5⟩
    replace hbW := bb hbW hb5
    have hx5 := HX4.out.below hb5 HX4.out.lt
    have s0 := hx5.cell 0
    have s1 := hx5.cell 1
    simp at s0 s1
    clear hb5 hx5 HX4 p0 p1 p2 p3 p4 p5
    obtain ⟨p0, p1, p2, p3, p4, p5⟩ := HCL.out _ hbW
    rcases hpr with hp | hp | hp
    · have HCab := Lib.hid (fun v => by have := HAB.out v; rw [hp] at this; exact this : ∀ v : World, Calls Tryd.prog 28 #[.agg #[.string ak, .string av], .agg #[.string bk, .string bv]] v fun e w' => e = .returned (.int .i64 (-1)) ∧ Below v.heap.size v w')
      have HCba := Lib.hid (fun v => by have := HBA.out v; rw [hp] at this; exact this : ∀ v : World, Calls Tryd.prog 28 #[.agg #[.string bk, .string bv], .agg #[.string ak, .string av]] v fun e w' => e = .returned (.int .i64 1) ∧ Below v.heap.size v w')
      have heq : ∀ v : World, (binOp .eql 59 (.agg #[.string ak, .string av]) (.agg #[.string bk, .string bv])).run Tryd.prog v = .ok (.bool false) v := fun v => by rw [ent_eql, HEQ.out, hp]; rfl
      have HQ := Lib.hid (fun h => HTR.out (by rw [hp]; decide) h : q < 0 → r < 0)
      clear hp
      go_wp2_with fail
      have n0 : ∀ n : BelW w5, n.wld.cell? ⟨w.heap.size, 0, none⟩ = some (.string ak) := fun n => (HCL.out _ (bb hbW n.bel)).1
      have n1 : ∀ n : BelW w5, n.wld.cell? ⟨w.heap.size, 1, none⟩ = some (.string av) := fun n => (HCL.out _ (bb hbW n.bel)).2.1
      have n2 : ∀ n : BelW w5, n.wld.cell? ⟨w.heap.size + 1, 0, none⟩ = some (.string bk) := fun n => (HCL.out _ (bb hbW n.bel)).2.2.1
      have n3 : ∀ n : BelW w5, n.wld.cell? ⟨w.heap.size + 1, 1, none⟩ = some (.string bv) := fun n => (HCL.out _ (bb hbW n.bel)).2.2.2.1
      have n4 : ∀ n : BelW w5, n.wld.cell? ⟨w.heap.size + 1 + 1, 0, none⟩ = some (.string ck) := fun n => (HCL.out _ (bb hbW n.bel)).2.2.2.2.1
      have n5 : ∀ n : BelW w5, n.wld.cell? ⟨w.heap.size + 1 + 1, 1, none⟩ = some (.string cv) := fun n => (HCL.out _ (bb hbW n.bel)).2.2.2.2.2
      refine wp_region_below_lit (by kernel_rfl) (by kernel_rfl) ?_
      repeat (first | go_big_quiet_skip | (go_big_quiet_want; go_big_quiet_op; first | go_big_quiet_on | (apply Exists.intro; refine ⟨fun nq => ?_, ?_⟩; ((first | (go_at_call 28; with_reducible show Calls _ _ #[.agg #[.string ak, .string av], _] _ _; exact below_of (HCab.out _)) | (go_at_call 28; exact below_of (HCba.out _)))); go_big_quiet_on)))
      refine wpQuiet_nil ?_
      intro wq hnq
      obtain ⟨nq, rfl⟩ := hnq
      have hq := nq.bel
      generalize nq.wld = wq at hq ⊢
      clear nq
      replace hbW := bb hbW hq
      clear hq n0 n1 n2 n3 n4 n5 p0 p1 p2 p3 p4 p5
      obtain ⟨p0, p1, p2, p3, p4, p5⟩ := HCL.out _ hbW
      rcases hqr with hq | hq | hq
      · obtain hr | hr | hr := hrr
        · have HCbc := Lib.hid (fun v => by have := HBC.out v; rw [hq] at this; exact this : ∀ v : World, Calls Tryd.prog 28 #[.agg #[.string bk, .string bv], .agg #[.string ck, .string cv]] v fun e w' => e = .returned (.int .i64 (-1)) ∧ Below v.heap.size v w')
          have HCac := Lib.hid (fun v => by have := HAC.out v; rw [hr] at this; exact this : ∀ v : World, Calls Tryd.prog 28 #[.agg #[.string ak, .string av], .agg #[.string ck, .string cv]] v fun e w' => e = .returned (.int .i64 (-1)) ∧ Below v.heap.size v w')
          clear hq hr
          go_wp2_with fail
          refine (HCab.out _).mono ?_
          rintro e v1 ⟨rfl, hb2⟩
          replace hbW := bb hbW hb2
          clear hb2 p0 p1 p2 p3 p4 p5
          obtain ⟨p0, p1, p2, p3, p4, p5⟩ := HCL.out _ hbW
          go_wp2_with fail
          refine (HCbc.out _).mono ?_
          rintro e v2 ⟨rfl, hb2⟩
          replace hbW := bb hbW hb2
          clear hb2 p0 p1 p2 p3 p4 p5
          obtain ⟨p0, p1, p2, p3, p4, p5⟩ := HCL.out _ hbW
          go_wp2_with fail
          refine (HCac.out _).mono ?_
          rintro e v3 ⟨rfl, hb2⟩
          replace hbW := bb hbW hb2
          clear hb2 p0 p1 p2 p3 p4 p5
          obtain ⟨p0, p1, p2, p3, p4, p5⟩ := HCL.out _ hbW
          go_wp2_with fail
          go_ret
          exact ⟨rfl, bb HB.out hbW⟩
        · exact absurd (HQ.out (by omega)) (by omega)
        · exact absurd (HQ.out (by omega)) (by omega)
      · have HCbc := Lib.hid (fun v => by have := HBC.out v; rw [hq] at this; exact this : ∀ v : World, Calls Tryd.prog 28 #[.agg #[.string bk, .string bv], .agg #[.string ck, .string cv]] v fun e w' => e = .returned (.int .i64 0) ∧ Below v.heap.size v w')
        clear hq
        go_wp2_with fail
        refine (HCab.out _).mono ?_
        rintro e v1 ⟨rfl, hb2⟩
        replace hbW := bb hbW hb2
        clear hb2 p0 p1 p2 p3 p4 p5
        obtain ⟨p0, p1, p2, p3, p4, p5⟩ := HCL.out _ hbW
        go_wp2_with fail
        refine (HCbc.out _).mono ?_
        rintro e v2 ⟨rfl, hb2⟩
        replace hbW := bb hbW hb2
        clear hb2 p0 p1 p2 p3 p4 p5
        obtain ⟨p0, p1, p2, p3, p4, p5⟩ := HCL.out _ hbW
        go_wp2_with fail
        go_ret
        exact ⟨rfl, bb HB.out hbW⟩
      · have HCbc := Lib.hid (fun v => by have := HBC.out v; rw [hq] at this; exact this : ∀ v : World, Calls Tryd.prog 28 #[.agg #[.string bk, .string bv], .agg #[.string ck, .string cv]] v fun e w' => e = .returned (.int .i64 1) ∧ Below v.heap.size v w')
        clear hq
        go_wp2_with fail
        refine (HCab.out _).mono ?_
        rintro e v1 ⟨rfl, hb2⟩
        replace hbW := bb hbW hb2
        clear hb2 p0 p1 p2 p3 p4 p5
        obtain ⟨p0, p1, p2, p3, p4, p5⟩ := HCL.out _ hbW
        go_wp2_with fail
        refine (HCbc.out _).mono ?_
        rintro e v2 ⟨rfl, hb2⟩
        replace hbW := bb hbW hb2
        clear hb2 p0 p1 p2 p3 p4 p5
        obtain ⟨p0, p1, p2, p3, p4, p5⟩ := HCL.out _ hbW
        go_wp2_with fail
        go_ret
        exact ⟨rfl, bb HB.out hbW⟩
    · have HCab := Lib.hid (fun v => by have := HAB.out v; rw [hp] at this; exact this : ∀ v : World, Calls Tryd.prog 28 #[.agg #[.string ak, .string av], .agg #[.string bk, .string bv]] v fun e w' => e = .returned (.int .i64 0) ∧ Below v.heap.size v w')
      have HCba := Lib.hid (fun v => by have := HBA.out v; rw [hp] at this; exact this : ∀ v : World, Calls Tryd.prog 28 #[.agg #[.string bk, .string bv], .agg #[.string ak, .string av]] v fun e w' => e = .returned (.int .i64 0) ∧ Below v.heap.size v w')
      have heq : ∀ v : World, (binOp .eql 59 (.agg #[.string ak, .string av]) (.agg #[.string bk, .string bv])).run Tryd.prog v = .ok (.bool true) v := fun v => by rw [ent_eql, HEQ.out, hp]; rfl
      clear hp
      go_wp2_with fail
      have n0 : ∀ n : BelW w5, n.wld.cell? ⟨w.heap.size, 0, none⟩ = some (.string ak) := fun n => (HCL.out _ (bb hbW n.bel)).1
      have n1 : ∀ n : BelW w5, n.wld.cell? ⟨w.heap.size, 1, none⟩ = some (.string av) := fun n => (HCL.out _ (bb hbW n.bel)).2.1
      have n2 : ∀ n : BelW w5, n.wld.cell? ⟨w.heap.size + 1, 0, none⟩ = some (.string bk) := fun n => (HCL.out _ (bb hbW n.bel)).2.2.1
      have n3 : ∀ n : BelW w5, n.wld.cell? ⟨w.heap.size + 1, 1, none⟩ = some (.string bv) := fun n => (HCL.out _ (bb hbW n.bel)).2.2.2.1
      have n4 : ∀ n : BelW w5, n.wld.cell? ⟨w.heap.size + 1 + 1, 0, none⟩ = some (.string ck) := fun n => (HCL.out _ (bb hbW n.bel)).2.2.2.2.1
      have n5 : ∀ n : BelW w5, n.wld.cell? ⟨w.heap.size + 1 + 1, 1, none⟩ = some (.string cv) := fun n => (HCL.out _ (bb hbW n.bel)).2.2.2.2.2
      refine wp_region_below_lit (by kernel_rfl) (by kernel_rfl) ?_
      repeat (first | go_big_quiet_skip | (go_big_quiet_want; go_big_quiet_op; first | go_big_quiet_on | (apply Exists.intro; refine ⟨fun nq => ?_, ?_⟩; ((first | (go_at_call 28; with_reducible show Calls _ _ #[.agg #[.string ak, .string av], _] _ _; exact below_of (HCab.out _)) | (go_at_call 28; exact below_of (HCba.out _)))); go_big_quiet_on)))
      refine wpQuiet_nil ?_
      intro wq hnq
      obtain ⟨nq, rfl⟩ := hnq
      have hq := nq.bel
      generalize nq.wld = wq at hq ⊢
      clear nq
      replace hbW := bb hbW hq
      clear hq n0 n1 n2 n3 n4 n5 p0 p1 p2 p3 p4 p5
      obtain ⟨p0, p1, p2, p3, p4, p5⟩ := HCL.out _ hbW
      go_wp2_with fail
      refine (HCab.out _).mono ?_
      rintro e v1 ⟨rfl, hb2⟩
      replace hbW := bb hbW hb2
      clear hb2 p0 p1 p2 p3 p4 p5
      obtain ⟨p0, p1, p2, p3, p4, p5⟩ := HCL.out _ hbW
      go_wp2_with fail
      go_ret
      exact ⟨rfl, bb HB.out hbW⟩
    · have HCab := Lib.hid (fun v => by have := HAB.out v; rw [hp] at this; exact this : ∀ v : World, Calls Tryd.prog 28 #[.agg #[.string ak, .string av], .agg #[.string bk, .string bv]] v fun e w' => e = .returned (.int .i64 1) ∧ Below v.heap.size v w')
      have HCba := Lib.hid (fun v => by have := HBA.out v; rw [hp] at this; exact this : ∀ v : World, Calls Tryd.prog 28 #[.agg #[.string bk, .string bv], .agg #[.string ak, .string av]] v fun e w' => e = .returned (.int .i64 (-1)) ∧ Below v.heap.size v w')
      have heq : ∀ v : World, (binOp .eql 59 (.agg #[.string ak, .string av]) (.agg #[.string bk, .string bv])).run Tryd.prog v = .ok (.bool false) v := fun v => by rw [ent_eql, HEQ.out, hp]; rfl
      clear hp
      go_wp2_with fail
      have n0 : ∀ n : BelW w5, n.wld.cell? ⟨w.heap.size, 0, none⟩ = some (.string ak) := fun n => (HCL.out _ (bb hbW n.bel)).1
      have n1 : ∀ n : BelW w5, n.wld.cell? ⟨w.heap.size, 1, none⟩ = some (.string av) := fun n => (HCL.out _ (bb hbW n.bel)).2.1
      have n2 : ∀ n : BelW w5, n.wld.cell? ⟨w.heap.size + 1, 0, none⟩ = some (.string bk) := fun n => (HCL.out _ (bb hbW n.bel)).2.2.1
      have n3 : ∀ n : BelW w5, n.wld.cell? ⟨w.heap.size + 1, 1, none⟩ = some (.string bv) := fun n => (HCL.out _ (bb hbW n.bel)).2.2.2.1
      have n4 : ∀ n : BelW w5, n.wld.cell? ⟨w.heap.size + 1 + 1, 0, none⟩ = some (.string ck) := fun n => (HCL.out _ (bb hbW n.bel)).2.2.2.2.1
      have n5 : ∀ n : BelW w5, n.wld.cell? ⟨w.heap.size + 1 + 1, 1, none⟩ = some (.string cv) := fun n => (HCL.out _ (bb hbW n.bel)).2.2.2.2.2
      refine wp_region_below_lit (by kernel_rfl) (by kernel_rfl) ?_
      repeat (first | go_big_quiet_skip | (go_big_quiet_want; go_big_quiet_op; first | go_big_quiet_on | (apply Exists.intro; refine ⟨fun nq => ?_, ?_⟩; ((first | (go_at_call 28; with_reducible show Calls _ _ #[.agg #[.string ak, .string av], _] _ _; exact below_of (HCab.out _)) | (go_at_call 28; exact below_of (HCba.out _)))); go_big_quiet_on)))
      refine wpQuiet_nil ?_
      intro wq hnq
      obtain ⟨nq, rfl⟩ := hnq
      have hq := nq.bel
      generalize nq.wld = wq at hq ⊢
      clear nq
      replace hbW := bb hbW hq
      clear hq n0 n1 n2 n3 n4 n5 p0 p1 p2 p3 p4 p5
      obtain ⟨p0, p1, p2, p3, p4, p5⟩ := HCL.out _ hbW
      go_wp2_with fail
      refine (HCab.out _).mono ?_
      rintro e v1 ⟨rfl, hb2⟩
      replace hbW := bb hbW hb2
      clear hb2 p0 p1 p2 p3 p4 p5
      obtain ⟨p0, p1, p2, p3, p4, p5⟩ := HCL.out _ hbW
      go_wp2_with fail
      go_ret
      exact ⟨rfl, bb HB.out hbW⟩
end Go.Proofs.YtigbifiicbghpaaDoor
end
