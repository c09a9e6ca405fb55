/-
  Texts of the proof, joined: EntryLaw2 Laid. Conditions: as each names.
-/
import Derived.Test.YtigbifiicbghpaaGreatDoorBal
import Derived.Test.YtigbifiicbghpaaGreatDoorRows
import Derived.Test.YtigbifiicbghpaaGreatDoorBaf
import Derived.PinnedBridge
import Derived.Lib.LaidIn
import Derived.Lib.LaidU8T
import Derived.Deep.DeepHandedRow
import Derived.Deep.DeepWitnessRowRef

section
/-
  The walk of the statement of layer 11 that any entry, and any bytes, are as the document says. Conditions: texts of less than 2^47 bytes; Go's tables of UTF-8 lie in memory.
-/
namespace Go.Proofs.YtigbifiicbghpaaGreatDoor
open Go.RowKit Go.PM
set_option maxRecDepth 100000
set_option maxHeartbeats 4000000
attribute [local go_sem ↓] Go.wp_at_zero Go.wp_at_succ

theorem etells_walk (ak av bk bv s : ByteArray) (w : World) (hT : Tabs w) (h1 : ak.size ≤ 140737488351232) (h2 : av.size ≤ 140737488351232) (h3 : bk.size ≤ 140737488351232) (h4 : bv.size ≤ 140737488351232) (h5 : s.size ≤ 140737488351232) :
    Calls Tryz.prog 3 #[.agg #[.string ak, .string av], .agg #[.string bk, .string bv], .string s] w fun e w' => e = .returned (.bool true) ∧ Below w.heap.size w w' := by
  have hxa := (BlkAt.made w 23 #[.string ak, .string av]).more (.cells #[.string bk, .string bv] 23)
  have hxb := BlkAt.made (w.alloc (.cells #[.string ak, .string av] 23)) 23 #[.string bk, .string bv]
  have hb0 := ba (ba (a := w) b0 (.cells #[.string ak, .string av] 23)) (.cells #[.string bk, .string bv] 23)
  simp only [World.size_alloc] at hxb
  have HA := Lib.hid (awake11 _ (hT.below hb0))
  have HXa := Lib.hid hxa
  have HXb := Lib.hid hxb
  have HB := Lib.hid hb0
  have HT := Lib.hid (hT.below hb0)
  clear hxa hxb hb0 hT
  go_enter Tryz.func3, Tryz.ntmps3
  go_wp2_with fail
  generalize (w.alloc (.cells #[.string ak, .string av] 23)).alloc (.cells #[.string bk, .string bv] 23) = wz at *
  refine HA.out.mono ?_
  rintro e w1 ⟨rfl, hb1⟩
  have HB1 := Lib.hid hb1
  have p0 := (HXa.out.below hb1 HXa.out.lt).cell 0
  have p1 := (HXa.out.below hb1 HXa.out.lt).cell 1
  have p2 := (HXb.out.below hb1 HXb.out.lt).cell 0
  have p3 := (HXb.out.below hb1 HXb.out.lt).cell 1
  simp at p0 p1 p2 p3
  clear hb1 HA
  by_cases htot : 1000 < ak.size + av.size + bk.size + bv.size
  · have hti : (1000 : Int) < (ak.size : Int) + (av.size : Int) + (bk.size : Int) + (bv.size : Int) := by omega
    go_wp2_with fail
    go_ret
    exact ⟨rfl, bb HB.out HB1.out⟩
  have hti : (ak.size : Int) + (av.size : Int) + (bk.size : Int) + (bv.size : Int) ≤ 1000 := by omega
  by_cases hbe : 1000 < s.size
  · have hbi : (1000 : Int) < (s.size : Int) := by omega
    go_wp2_with fail
    go_ret
    exact ⟨rfl, bb HB.out HB1.out⟩
  have hbi : (s.size : Int) ≤ 1000 := by omega
  obtain ⟨CA, hCA⟩ : ∃ CA, CA = echk ak.data.toList av.data.toList := ⟨_, rfl⟩
  obtain ⟨PA, hPA⟩ : ∃ PA, PA = txt (eput ak.data.toList av.data.toList) := ⟨_, rfl⟩
  obtain ⟨CM, hCM⟩ : ∃ CM, CM = ecmp ak.data.toList av.data.toList bk.data.toList bv.data.toList := ⟨_, rfl⟩
  have HC1 : Hid (∀ x : World, Below wz.heap.size wz x → Calls Tryz.prog 12 #[.agg #[.string ak, .string av]] x fun e w' => e = .returned (.int .i64 CA) ∧ Below x.heap.size x w') := fun x hx => by rw [hCA]; exact echeck_any ak av x (by omega) (by omega) (HT.out.below hx)
  have HC2 : Hid (∀ x : World, Below wz.heap.size wz x → Calls Tryz.prog 13 #[.agg #[.string ak, .string av]] x fun e w' => e = .returned (.int .i64 CA) ∧ Below x.heap.size x w') := fun x _ => by rw [hCA]; exact rcheckE_any ak av x (by omega) (by omega)
  have HP1 : Hid (∀ x : World, Below wz.heap.size wz x → Calls Tryz.prog 14 #[.agg #[.string ak, .string av]] x fun e w' => e = .returned (.string PA) ∧ Below x.heap.size x w') := fun x _ => by rw [hPA]; exact eput_any ak av x (by omega) (by omega)
  have HP2 : Hid (∀ x : World, Below wz.heap.size wz x → Calls Tryz.prog 15 #[.agg #[.string ak, .string av]] x fun e w' => e = .returned (.string PA) ∧ Below x.heap.size x w') := fun x _ => by rw [hPA]; exact rputE_any ak av x (by omega) (by omega)
  have HM1 : Hid (∀ x : World, Below wz.heap.size wz x → Calls Tryz.prog 16 #[.agg #[.string ak, .string av], .agg #[.string bk, .string bv]] x fun e w' => e = .returned (.int .i64 CM) ∧ Below x.heap.size x w') := fun x _ => by rw [hCM]; exact ecmpB_any ak av bk bv x
  have HM2 : Hid (∀ x : World, Below wz.heap.size wz x → Calls Tryz.prog 17 #[.agg #[.string ak, .string av], .agg #[.string bk, .string bv]] x fun e w' => e = .returned (.int .i64 CM) ∧ Below x.heap.size x w') := fun x _ => by rw [hCM]; exact rcmp_any ak av bk bv x (by omega) (by omega)
  clear hCA hPA hCM
  have HRN : Hid (∀ x : World, Calls Tryz.prog 11 #[.string s] x (RNextEEnd x s)) := fun x => rnextE_any s x (by omega)
  unfold RNextEEnd at HRN
  go_wp2_with fail
  refine (cur_over s w1).mono ?_
  rintro e w3 ⟨rfl, rfl⟩
  have hc3 : Cur (w1.alloc (.cells #[.string s, .int .i64 0] 68)) w1.heap.size s 0 := ⟨BlkAt.made w1 68 #[.string s, .int .i64 0], Nat.zero_le _, by omega⟩
  have hb3 := ba HB1.out (.cells #[.string s, .int .i64 0] 68)
  have HN := Lib.hid (enext_any wz HT.out w1.heap.size s 0 (w1.alloc (.cells #[.string s, .int .i64 0] 68)) hb3 HB1.out.size hc3)
  unfold ENextEnd at HN
  rw [List.drop_zero] at HN
  have HB3 := Lib.hid hb3
  have hcb := HB1.out.size
  have hct : w1.heap.size < (w1.alloc (.cells #[.string s, .int .i64 0] 68)).heap.size := by simp
  clear hc3 hb3 p0 p1 p2 p3
  generalize w1.alloc (.cells #[.string s, .int .i64 0] 68) = w3 at HN HB3 hct ⊢
  generalize w1.heap.size = cb at *
  generalize enx echk s.data.toList = X at *
  go_wp2_with fail
  refine HN.out.mono ?_
  rintro e w4 ⟨k', rfl, hc4, hk4, hg4⟩
  have hbx := BlkAt.made w4 23 #[.string (txt X.1.1), .string (txt X.1.2)]
  have HC4 : Hid (Cur (w4.alloc (.cells #[.string (txt X.1.1), .string (txt X.1.2)] 23)) cb s k') := ⟨hc4.1.more _, hc4.2⟩
  have HX4 := Lib.hid hbx
  have HB4 := Lib.hid (ba (bg HB3.out hg4 hcb) (.cells #[.string (txt X.1.1), .string (txt X.1.2)] 23) : Below wz.heap.size wz (w4.alloc (.cells #[.string (txt X.1.1), .string (txt X.1.2)] 23)))
  have HK4 := Lib.hid hk4
  clear hbx hc4 hg4 hk4 HN
  go_wp2_with fail
  generalize w4.alloc (.cells #[.string (txt X.1.1), .string (txt X.1.2)] 23) = w5 at HC4 HX4 HB4 ⊢
  generalize w4.heap.size = px at *
  refine (HRN.out _).mono ?_
  rintro e w6 ⟨R, rfl, hR, hb6⟩
  have HR := Lib.hid hR
  have HX6 := Lib.hid ((HX4.out.below hb6 HX4.out.lt).more (.cells #[.string (txt X.1.1), .string (txt X.1.2)] 30))
  have HY6 := Lib.hid (BlkAt.made w6 30 #[.string (txt X.1.1), .string (txt X.1.2)])
  have HC6 : Hid (Cur (w6.alloc (.cells #[.string (txt X.1.1), .string (txt X.1.2)] 30)) cb s k') := ⟨(HC4.out.1.below hb6 HC4.out.1.lt).more _, HC4.out.2⟩
  have HB6 := Lib.hid (ba (bb HB4.out hb6) (.cells #[.string (txt X.1.1), .string (txt X.1.2)] 30) : Below wz.heap.size wz (w6.alloc (.cells #[.string (txt X.1.1), .string (txt X.1.2)] 30)))
  clear hb6 hR HC4 HX4 HRN
  go_wp2_with fail
  generalize w6.alloc (.cells #[.string (txt X.1.1), .string (txt X.1.2)] 30) = w7 at HX6 HY6 HC6 HB6 ⊢
  generalize w6.heap.size = py at *
  refine (enext_nil _).mono ?_
  rintro e w8 ⟨rfl, hb8⟩
  have HXx := Lib.hid ((HX6.out.below hb8 HX6.out.lt).more (.cells #[.string ByteArray.empty, .string ByteArray.empty] 23))
  have HXy := Lib.hid ((HY6.out.below hb8 HY6.out.lt).more (.cells #[.string ByteArray.empty, .string ByteArray.empty] 23))
  have HC8 : Hid (Cur (w8.alloc (.cells #[.string ByteArray.empty, .string ByteArray.empty] 23)) cb s k') := ⟨(HC6.out.1.below hb8 HC6.out.1.lt).more _, HC6.out.2⟩
  have hbN := ba (bb HB6.out hb8) (.cells #[.string ByteArray.empty, .string ByteArray.empty] 23)
  clear hb8 HX6 HY6 HC6 HB6
  go_wp2_with fail
  generalize w8.alloc (.cells #[.string ByteArray.empty, .string ByteArray.empty] 23) = wN at HXx HXy HC8 hbN ⊢
  generalize hXc : X.2.2 = C at *
  by_cases hC : C = 0
  · subst hC
    have hex : s.extract k' s.size = R := by
      have h1 := HK4.out rfl
      have h2 := HR.out rfl
      rw [h2, h1, Nat.zero_add]
      exact txt_eq (by rw [PM.ext_rest])
    have HRS : Hid (∀ n : BelW wN, Calls Tryz.prog 18 #[.pointer (some ⟨cb, 0, none⟩)] n.wld fun e w' => e = .returned (.string R) ∧ Below n.wld.heap.size n.wld w') := fun n => by
      have := cur_rest cb s k' n.wld ⟨HC8.out.1.below n.bel HC8.out.1.lt, HC8.out.2⟩
      rw [hex] at this
      exact this
    clear hex hXc
    have n0 : ∀ n : BelW wN, n.wld.cell? ⟨w.heap.size, 0, none⟩ = some (.string ak) := fun n => (HXa.out.below (bb hbN n.bel) HXa.out.lt).cell 0
    have n1 : ∀ n : BelW wN, n.wld.cell? ⟨w.heap.size, 1, none⟩ = some (.string av) := fun n => (HXa.out.below (bb hbN n.bel) HXa.out.lt).cell 1
    have n2 : ∀ n : BelW wN, n.wld.cell? ⟨w.heap.size + 1, 0, none⟩ = some (.string bk) := fun n => (HXb.out.below (bb hbN n.bel) HXb.out.lt).cell 0
    have n3 : ∀ n : BelW wN, n.wld.cell? ⟨w.heap.size + 1, 1, none⟩ = some (.string bv) := fun n => (HXb.out.below (bb hbN n.bel) HXb.out.lt).cell 1
    have n4 : ∀ n : BelW wN, n.wld.cell? ⟨px, 0, none⟩ = some (.string (txt X.1.1)) := fun n => (HXx.out.below n.bel HXx.out.lt).cell 0
    have n5 : ∀ n : BelW wN, n.wld.cell? ⟨px, 1, none⟩ = some (.string (txt X.1.2)) := fun n => (HXx.out.below n.bel HXx.out.lt).cell 1
    have n6 : ∀ n : BelW wN, n.wld.cell? ⟨py, 0, none⟩ = some (.string (txt X.1.1)) := fun n => (HXy.out.below n.bel HXy.out.lt).cell 0
    have n7 : ∀ n : BelW wN, n.wld.cell? ⟨py, 1, none⟩ = some (.string (txt X.1.2)) := fun n => (HXy.out.below n.bel HXy.out.lt).cell 1
    have heq : ∀ v : World, (binOp .eql 30 (.agg #[.string (txt X.1.1), .string (txt X.1.2)]) (.agg #[.string (txt X.1.1), .string (txt X.1.2)])).run Tryz.prog v = .ok (.bool true) v := fun v => by rw [rent_eql]; simp
    have hg := rent_guard
    have HC1n : Hid (∀ n : BelW wN, Calls Tryz.prog 12 #[.agg #[.string ak, .string av]] n.wld fun e w' => e = .returned (.int .i64 CA) ∧ Below n.wld.heap.size n.wld w') := fun n => HC1.out _ (bb hbN n.bel)
    have HC2n : Hid (∀ n : BelW wN, Calls Tryz.prog 13 #[.agg #[.string ak, .string av]] n.wld fun e w' => e = .returned (.int .i64 CA) ∧ Below n.wld.heap.size n.wld w') := fun n => HC2.out _ (bb hbN n.bel)
    have HP1n : Hid (∀ n : BelW wN, Calls Tryz.prog 14 #[.agg #[.string ak, .string av]] n.wld fun e w' => e = .returned (.string PA) ∧ Below n.wld.heap.size n.wld w') := fun n => HP1.out _ (bb hbN n.bel)
    have HP2n : Hid (∀ n : BelW wN, Calls Tryz.prog 15 #[.agg #[.string ak, .string av]] n.wld fun e w' => e = .returned (.string PA) ∧ Below n.wld.heap.size n.wld w') := fun n => HP2.out _ (bb hbN n.bel)
    have HM1n : Hid (∀ n : BelW wN, Calls Tryz.prog 16 #[.agg #[.string ak, .string av], .agg #[.string bk, .string bv]] n.wld fun e w' => e = .returned (.int .i64 CM) ∧ Below n.wld.heap.size n.wld w') := fun n => HM1.out _ (bb hbN n.bel)
    have HM2n : Hid (∀ n : BelW wN, Calls Tryz.prog 17 #[.agg #[.string ak, .string av], .agg #[.string bk, .string bv]] n.wld fun e w' => e = .returned (.int .i64 CM) ∧ Below n.wld.heap.size n.wld w') := fun n => HM2.out _ (bb hbN n.bel)
    refine wp_region_below_lit (by kernel_rfl) (by kernel_rfl) ?_
    repeat (first | go_big_quiet_skip | (go_big_quiet_want; go_big_quiet_op; first | go_big_quiet_on | (apply Exists.intro; refine ⟨fun nq => ?_, ?_⟩; ((first | (go_at_call 12; exact below_of (HC1n.out _)) | (go_at_call 13; exact below_of (HC2n.out _)) | (go_at_call 14; exact below_of (HP1n.out _)) | (go_at_call 15; exact below_of (HP2n.out _)) | (go_at_call 16; exact below_of (HM1n.out _)) | (go_at_call 17; exact below_of (HM2n.out _)) | (go_at_call 18; exact below_of (HRS.out _)))); go_big_quiet_on)))
    refine wpQuiet_nil ?_
    intro wq hnq
    obtain ⟨nq, rfl⟩ := hnq
    have hq := nq.bel
    generalize nq.wld = wq at hq ⊢
    clear nq
    go_wp2_with fail
    go_ret
    exact ⟨rfl, bb HB.out (bb hbN hq)⟩
  · have hCi : (C != 0) = true := by rw [bne_iff_ne]; exact hC
    have HRS : Hid (∀ n : BelW wN, Calls Tryz.prog 18 #[.pointer (some ⟨cb, 0, none⟩)] n.wld fun e w' => e = .returned (.string (s.extract k' s.size)) ∧ Below n.wld.heap.size n.wld w') := fun n => cur_rest cb s k' n.wld ⟨HC8.out.1.below n.bel HC8.out.1.lt, HC8.out.2⟩
    clear hXc hC
    have n0 : ∀ n : BelW wN, n.wld.cell? ⟨w.heap.size, 0, none⟩ = some (.string ak) := fun n => (HXa.out.below (bb hbN n.bel) HXa.out.lt).cell 0
    have n1 : ∀ n : BelW wN, n.wld.cell? ⟨w.heap.size, 1, none⟩ = some (.string av) := fun n => (HXa.out.below (bb hbN n.bel) HXa.out.lt).cell 1
    have n2 : ∀ n : BelW wN, n.wld.cell? ⟨w.heap.size + 1, 0, none⟩ = some (.string bk) := fun n => (HXb.out.below (bb hbN n.bel) HXb.out.lt).cell 0
    have n3 : ∀ n : BelW wN, n.wld.cell? ⟨w.heap.size + 1, 1, none⟩ = some (.string bv) := fun n => (HXb.out.below (bb hbN n.bel) HXb.out.lt).cell 1
    have n4 : ∀ n : BelW wN, n.wld.cell? ⟨px, 0, none⟩ = some (.string (txt X.1.1)) := fun n => (HXx.out.below n.bel HXx.out.lt).cell 0
    have n5 : ∀ n : BelW wN, n.wld.cell? ⟨px, 1, none⟩ = some (.string (txt X.1.2)) := fun n => (HXx.out.below n.bel HXx.out.lt).cell 1
    have n6 : ∀ n : BelW wN, n.wld.cell? ⟨py, 0, none⟩ = some (.string (txt X.1.1)) := fun n => (HXy.out.below n.bel HXy.out.lt).cell 0
    have n7 : ∀ n : BelW wN, n.wld.cell? ⟨py, 1, none⟩ = some (.string (txt X.1.2)) := fun n => (HXy.out.below n.bel HXy.out.lt).cell 1
    have heq : ∀ v : World, (binOp .eql 30 (.agg #[.string (txt X.1.1), .string (txt X.1.2)]) (.agg #[.string (txt X.1.1), .string (txt X.1.2)])).run Tryz.prog v = .ok (.bool true) v := fun v => by rw [rent_eql]; simp
    have hg := rent_guard
    have HC1n : Hid (∀ n : BelW wN, Calls Tryz.prog 12 #[.agg #[.string ak, .string av]] n.wld fun e w' => e = .returned (.int .i64 CA) ∧ Below n.wld.heap.size n.wld w') := fun n => HC1.out _ (bb hbN n.bel)
    have HC2n : Hid (∀ n : BelW wN, Calls Tryz.prog 13 #[.agg #[.string ak, .string av]] n.wld fun e w' => e = .returned (.int .i64 CA) ∧ Below n.wld.heap.size n.wld w') := fun n => HC2.out _ (bb hbN n.bel)
    have HP1n : Hid (∀ n : BelW wN, Calls Tryz.prog 14 #[.agg #[.string ak, .string av]] n.wld fun e w' => e = .returned (.string PA) ∧ Below n.wld.heap.size n.wld w') := fun n => HP1.out _ (bb hbN n.bel)
    have HP2n : Hid (∀ n : BelW wN, Calls Tryz.prog 15 #[.agg #[.string ak, .string av]] n.wld fun e w' => e = .returned (.string PA) ∧ Below n.wld.heap.size n.wld w') := fun n => HP2.out _ (bb hbN n.bel)
    have HM1n : Hid (∀ n : BelW wN, Calls Tryz.prog 16 #[.agg #[.string ak, .string av], .agg #[.string bk, .string bv]] n.wld fun e w' => e = .returned (.int .i64 CM) ∧ Below n.wld.heap.size n.wld w') := fun n => HM1.out _ (bb hbN n.bel)
    have HM2n : Hid (∀ n : BelW wN, Calls Tryz.prog 17 #[.agg #[.string ak, .string av], .agg #[.string bk, .string bv]] n.wld fun e w' => e = .returned (.int .i64 CM) ∧ Below n.wld.heap.size n.wld w') := fun n => HM2.out _ (bb hbN n.bel)
    refine wp_region_below_lit (by kernel_rfl) (by kernel_rfl) ?_
    repeat (first | go_big_quiet_skip | (go_big_quiet_want; go_big_quiet_op; first | go_big_quiet_on | (apply Exists.intro; refine ⟨fun nq => ?_, ?_⟩; ((first | (go_at_call 12; exact below_of (HC1n.out _)) | (go_at_call 13; exact below_of (HC2n.out _)) | (go_at_call 14; exact below_of (HP1n.out _)) | (go_at_call 15; exact below_of (HP2n.out _)) | (go_at_call 16; exact below_of (HM1n.out _)) | (go_at_call 17; exact below_of (HM2n.out _)) | (go_at_call 18; exact below_of (HRS.out _)))); go_big_quiet_on)))
    refine wpQuiet_nil ?_
    intro wq hnq
    obtain ⟨nq, rfl⟩ := hnq
    have hq := nq.bel
    generalize nq.wld = wq at hq ⊢
    clear nq
    go_wp2_with fail
    go_ret
    exact ⟨rfl, bb HB.out (bb hbN hq)⟩
end Go.Proofs.YtigbifiicbghpaaGreatDoor
end

section
/-
  Go's two tables of UTF-8, as the rows list them: what they give a walk; a world that holds them. (The rows of this seat list the same two variables.)
-/
namespace Go.Proofs.YtigbifiicbghpaaGreatDoor
open Go.Lib
set_option maxRecDepth 100000
theorem accept_eq : (Rows.laid_unicode_utf8_acceptRanges : DataW Unit) = Lib.acceptData := by kernel_rfl
theorem tabs_of_laid {W : World} (h : laidMetH Tryz.prog [("unicode/utf8.acceptRanges", Rows.laid_unicode_utf8_acceptRanges), ("unicode/utf8.first", Rows.laid_unicode_utf8_first)] W) : Tabs W := by
  have h4 := Lib.laidMet.reads h (.head _)
  have h3 := Lib.laidMet.reads h (.tail _ (.head _))
  rw [accept_eq] at h4
  rw [show Rows.laid_unicode_utf8_first = Lib.firstData from Pinned.utf8First_eq] at h3
  exact utf8Tabs_of_readsT (U8Types.of196 Tryz.lays196) ⟨by kernel_rfl, by kernel_rfl, by kernel_rfl, by kernel_rfl, by kernel_rfl, by kernel_rfl, by kernel_rfl⟩ h3 h4
/-- The settled world, the two variables holding what their initialisers lay. -/
noncomputable def laidWorld (os : Os) : World :=
  let w0 := World.holding Tryz.prog os ⟨#[], #[], []⟩
  let put (h : Array Obj) (g : Nat) (cs : Array Value) : Array Obj := h.modify g fun
    | .cells _ t frozen => .cells cs t frozen
    | o => o
  let h1 := put w0.heap (Tryz.lays196_ren.g 3) (Lib.firstTab.map fun z => Value.int .u8 z).toArray
  let h2 := put h1 (Tryz.lays196_ren.g 4) ((List.range 16).flatMap fun i => [Value.int .u8 (Lib.accLo i), Value.int .u8 (Lib.accHi i)]).toArray
  { w0 with heap := h2 }
theorem laid_met (os : Os) (args : Array Value) : laidMet Tryz.prog [("unicode/utf8.acceptRanges", Rows.laid_unicode_utf8_acceptRanges), ("unicode/utf8.first", Rows.laid_unicode_utf8_first)] ((laidWorld os).forCall (fun _ _ => 0) ⟨#[], args, []⟩).memory :=
  (LaidIn.of_run (l := [("unicode/utf8.acceptRanges", Rows.laid_unicode_utf8_acceptRanges), ("unicode/utf8.first", Rows.laid_unicode_utf8_first)]) [Tryz.lays196_ren.g 4, Tryz.lays196_ren.g 3] 8 (by kernel_rfl) (by kernel_rfl) (by kernel_rfl) (by kernel_rfl)).met
theorem own : ownKnob Tryz.prog.godebug = none := by kernel_rfl
theorem laidOut : laidOutB Tryz.prog = true := by kernel_rfl
end Go.Proofs.YtigbifiicbghpaaGreatDoor
end
