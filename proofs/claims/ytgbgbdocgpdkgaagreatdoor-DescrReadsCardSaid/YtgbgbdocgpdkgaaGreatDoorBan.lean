/-
  Texts of the proof, joined: REntry RDescr1. Conditions: as each names.
-/
import Derived.Test.YtgbgbdocgpdkgaaGreatDoorBam
import Derived.Test.YtgbgbdocgpdkgaaGreatDoorBak
import Derived.Test.YtgbgbdocgpdkgaaGreatDoorBae
import Derived.Deep.RegionHeld3

section
/-
  Contracts of layer 11's reference. Conditions: texts within int.
-/
namespace Go.Proofs.YtgbgbdocgpdkgaaGreatDoor
open Go.RowKit Go.PM
set_option maxRecDepth 100000
set_option maxHeartbeats 2000000
attribute [local go_sem ↓] Go.wp_at_zero Go.wp_at_succ

theorem rcheckE_any (k v : ByteArray) (w : World) (hk : k.size ≤ 9223372036854775807) (hv : v.size ≤ 9223372036854775807) :
    Calls Tryz.prog 39 #[.agg #[.string k, .string v]] w fun e w' => e = .returned (.int .i64 (echk k.data.toList v.data.toList)) ∧ Below w.heap.size w w' := by
  have hx := BlkAt.made w 44 #[.string k, .string v]
  have HX := Lib.hid hx
  have hb0 := ba (a := w) b0 (.cells #[.string k, .string v] 44)
  have HB := Lib.hid hb0
  have H1 := Lib.hid (rcheck_any k 1 64 (w.alloc (.cells #[.string k, .string v] 44)) hk trivial)
  have H2 : Hid (∀ x : World, Below w.heap.size w x → Calls Tryz.prog 57 #[.string v, .int .i64 0, .int .i64 256] x fun e w' => e = .returned (.int .i64 (uchk v.data.toList 0 256)) ∧ Below x.heap.size x w') := fun x _ => rcheck_any v 0 256 x hv trivial
  unfold echk
  clear hx hb0
  generalize uchk k.data.toList 1 64 = a at *
  generalize uchk v.data.toList 0 256 = b at *
  by_cases ha : a = 0
  · subst ha
    rw [if_neg (by simp)]
    go_enter Tryz.func39, Tryz.ntmps39
    go_wp2_with fail
    refine H1.out.mono ?_
    rintro e w1 ⟨rfl, hb1⟩
    have hx1 := HX.out.below hb1 HX.out.lt
    have c1 := hx1.cell 1
    simp at c1
    have HB1 := Lib.hid (bb HB.out hb1)
    clear hb1 hx1
    go_wp2_with fail
    refine (H2.out _ HB1.out).mono ?_
    rintro e w2 ⟨rfl, hb2⟩
    have HB2 := Lib.hid (bb HB1.out hb2)
    clear hb2
    go_wp2
    go_ret
    exact ⟨rfl, HB2.out⟩
  · rw [if_pos ha]
    have hai : (a != 0) = true := by rw [bne_iff_ne]; exact ha
    clear ha
    go_enter Tryz.func39, Tryz.ntmps39
    go_wp2_with fail
    refine H1.out.mono ?_
    rintro e w1 ⟨rfl, hb1⟩
    have HB1 := Lib.hid (bb HB.out hb1)
    clear hb1
    go_wp2
    go_ret
    exact ⟨rfl, HB1.out⟩
theorem rputE_any (k v : ByteArray) (w : World) (hk : k.size ≤ 1000000) (hv : v.size ≤ 1000000) :
    Calls Tryz.prog 42 #[.agg #[.string k, .string v]] w fun e w' => e = .returned (.string (txt (eput k.data.toList v.data.toList))) ∧ Below w.heap.size w w' := by
  have hx := BlkAt.made w 44 #[.string k, .string v]
  have hb := ba (a := w) b0 (.cells #[.string k, .string v] 44)
  have HB := Lib.hid hb
  have H1 : Hid (∀ x : World, Calls Tryz.prog 41 #[.int .u64 (k.size : Int)] x fun e w' => e = .returned (.string (txt (vput k.size))) ∧ Below x.heap.size x w') := fun x => rput_any k.size x (by unfold In64; omega)
  have H2 : Hid (∀ x : World, Calls Tryz.prog 41 #[.int .u64 (v.size : Int)] x fun e w' => e = .returned (.string (txt (vput v.size))) ∧ Below x.heap.size x w') := fun x => rput_any v.size x (by unfold In64; omega)
  have HE : Hid (((txt (vput k.size) ++ k) ++ txt (vput v.size)) ++ v = txt (eput k.data.toList v.data.toList)) := by
    refine txt_eq ?_
    rw [app_listE, app_listE, app_listE, txt_list, txt_list, eput, len_list, len_list]
    simp
  have wk : IntKind.u64.wrap (k.size : Int) = (k.size : Int) := by rw [IntKind.wrap_u64]; omega
  have wv : IntKind.u64.wrap (v.size : Int) = (v.size : Int) := by rw [IntKind.wrap_u64]; omega
  have hP : (txt (vput k.size)).size ≤ 10 := by rw [txt_size, vput_length]; exact vsz_le10 (by omega)
  have hQ : (txt (vput v.size)).size ≤ 10 := by rw [txt_size, vput_length]; exact vsz_le10 (by omega)
  generalize txt (vput k.size) = P at *
  generalize txt (vput v.size) = Q at *
  have hr1 : ∀ x : World, (Op.stringOp .add P k).run Tryz.prog x = .ok (.string (P ++ k)) x := fun x => run_string_add_sum x P k (by omega)
  have hr2 : ∀ x : World, (Op.stringOp .add (P ++ k) Q).run Tryz.prog x = .ok (.string (P ++ k ++ Q)) x := fun x => run_string_add_sum x _ _ (by rw [ByteArray.size_append]; omega)
  have hr3 : ∀ x : World, (Op.stringOp .add (P ++ k ++ Q) v).run Tryz.prog x = .ok (.string (P ++ k ++ Q ++ v)) x := fun x => run_string_add_sum x _ _ (by rw [ByteArray.size_append, ByteArray.size_append]; omega)
  have HSB : Hid (∀ x : World, Below (w.alloc (.cells #[.string k, .string v] 44)).heap.size (w.alloc (.cells #[.string k, .string v] 44)) x → (x.cell? ⟨w.heap.size, 0, none⟩ = some (.string k) ∧ x.cell? ⟨w.heap.size, 1, none⟩ = some (.string v))) := fun x h => ⟨(hx.below h hx.lt).cell 0, (hx.below h hx.lt).cell 1⟩
  clear hx hb
  go_enter Tryz.func42, Tryz.ntmps42
  go_wp2_with fail
  generalize (w.alloc (.cells #[.string k, .string v] 44)) = wz at HSB HB ⊢
  have hbW : Below wz.heap.size wz wz := b0
  obtain ⟨k0, k1⟩ := HSB.out _ hbW
  go_region_held3 (fun x => x.cell? ⟨w.heap.size, 0, none⟩ = some (.string k) ∧ x.cell? ⟨w.heap.size, 1, none⟩ = some (.string v)) (first | exact HSB.out _ (by repeat (first | exact hbW | refine ba ?_ _ | refine bd ?_)) | go_keep)
    ((first
      | (go_at_call 41; with_reducible show Calls _ _ #[.int .u64 (k.size : Int)] _ _; refine (H1.out _).mono ?_; rintro e' W1 ⟨rfl, hb1'⟩; replace hbW : Below wz.heap.size wz W1 := bb (by repeat (first | exact hbW | refine ba ?_ _ | refine bd ?_)) hb1'; clear hb1'; obtain ⟨k0, k1⟩ := HSB.out _ hbW)
      | (go_at_call 41; refine (H2.out _).mono ?_; rintro e' W1 ⟨rfl, hb1'⟩; replace hbW : Below wz.heap.size wz W1 := bb (by repeat (first | exact hbW | refine ba ?_ _ | refine bd ?_)) hb1'; clear hb1'; obtain ⟨k0, k1⟩ := HSB.out _ hbW)))
  all_goals (go_wp2_with fail; go_ret; exact ⟨by rw [← HE.out]; rfl, bb HB.out (by repeat (first | exact hbW | refine ba ?_ _ | refine bd ?_))⟩)
theorem rless_any (a b : ByteArray) (w : World) (ha : a.size ≤ 9223372036854775807) :
    Calls Tryz.prog 58 #[.string a, .string b] w fun e w' => e = .returned (.bool (bless a.data.toList b.data.toList)) ∧ Below w.heap.size w w' := by
  generalize hr : bless a.data.toList b.data.toList = r
  have HR : Hid (bless (a.data.toList.drop 0) (b.data.toList.drop 0) = r) := by rw [List.drop_zero, List.drop_zero]; exact hr
  clear hr
  go_enter Tryz.func58, Tryz.ntmps58
  go_wp2_with fail
  go_loopg [5] a.size (fun gk vi wr => ∃ i : Nat, i ≤ a.size ∧ i ≤ b.size ∧ a.size - i ≤ gk ∧ vi = .int .i64 (i : Int) ∧ Below w.heap.size w wr ∧ Hid (bless (a.data.toList.drop i) (b.data.toList.drop i) = r))
  case atStart => exact ⟨0, Nat.zero_le _, Nat.zero_le _, by omega, rfl, b0, HR⟩
  case round =>
    obtain ⟨i, hia, hib, hgk, rfl, hbw, HI⟩ := hrel
    have HB := Lib.hid hbw
    clear hbw
    by_cases h1 : i < a.size
    · by_cases h2 : i < b.size
      · have hi := HI.out
        rw [drop_at a i h1, drop_at b i h2, bless] at hi
        have HI2 := Lib.hid hi
        clear hi HI
        have j1 : (i : Int) < (a.size : Int) := by omega
        have j2 : (i : Int) < (b.size : Int) := by omega
        by_cases he : a[i] = b[i]
        · have hi := HI2.out
          rw [if_neg (by simpa using he)] at hi
          have HI3 : Hid (bless (a.data.toList.drop (i + 1)) (b.data.toList.drop (i + 1)) = r) := hi
          have hne : (((a[i]).toNat : Int) != ((b[i]).toNat : Int)) = false := by rw [he]; simp
          clear hi HI2
          go_wp2_with fail
          go_quiet (fail)
          go_wp2_with fail
          go_roundg (a.size - (i + 1))
          case measure => omega
          case rel => exact ⟨i + 1, by omega, by omega, Nat.le_refl _, by go_num, bn HB.out _, HI3⟩
        · have hi := HI2.out
          rw [if_pos he] at hi
          have hne0 : (a[i]).toNat ≠ (b[i]).toNat := fun e => he (UInt8.toNat_inj.1 e)
          have hne : (((a[i]).toNat : Int) != ((b[i]).toNat : Int)) = true := by rw [bne_iff_ne]; omega
          have hlt : decide (((a[i]).toNat : Int) < ((b[i]).toNat : Int)) = r := by rw [← hi]; rw [decide_eq_decide]; omega
          have hltn : decide ((a[i]).toNat < (b[i]).toNat) = r := hi
          have HLT := Lib.hid hltn
          clear hi HI2 he hne0 hltn hlt
          go_wp2_with fail
          go_quiet (fail)
          go_wp2_with fail
          go_quiet (fail)
          go_wp2_with fail
          go_ret
          exact ⟨by rw [← HLT.out]; rfl, bn (bn HB.out _) _⟩
      · have hi := HI.out
        rw [drop_at a i h1, drop_end b i (by omega), bless] at hi
        subst hi
        have hlt : decide ((a.size : Int) < (b.size : Int)) = false := decide_eq_false (by omega)
        have hltn : decide (a.size < b.size) = false := decide_eq_false (by omega)
        clear HI
        go_wp2_with fail
        go_ret
        exact ⟨rfl, HB.out⟩
    · have hi := HI.out
      rw [drop_end a i (by omega)] at hi
      by_cases h2 : i < b.size
      · rw [drop_at b i h2, bless] at hi
        subst hi
        have hlt : decide ((a.size : Int) < (b.size : Int)) = true := decide_eq_true (by omega)
        have hltn : decide (a.size < b.size) = true := decide_eq_true (by omega)
        clear HI
        go_wp2_with fail
        go_ret
        exact ⟨rfl, HB.out⟩
      · rw [drop_end b i (by omega), bless] at hi
        subst hi
        have hlt : decide ((a.size : Int) < (b.size : Int)) = false := decide_eq_false (by omega)
        have hltn : decide (a.size < b.size) = false := decide_eq_false (by omega)
        clear HI
        go_wp2_with fail
        go_ret
        exact ⟨rfl, HB.out⟩
theorem rcmp_any (ak av bk bv : ByteArray) (w : World) (h1 : ak.size ≤ 9223372036854775807) (h2 : av.size ≤ 9223372036854775807) :
    Calls Tryz.prog 40 #[.agg #[.string ak, .string av], .agg #[.string bk, .string bv]] w fun e w' => e = .returned (.int .i64 (ecmp ak.data.toList av.data.toList bk.data.toList bv.data.toList)) ∧ Below w.heap.size w w' := by
  have hxa := (BlkAt.made w 44 #[.string ak, .string av]).more (.cells #[.string bk, .string bv] 44)
  have hxb := BlkAt.made (w.alloc (.cells #[.string ak, .string av] 44)) 44 #[.string bk, .string bv]
  simp only [World.size_alloc] at hxb
  have hb0 := ba (ba (a := w) b0 (.cells #[.string ak, .string av] 44)) (.cells #[.string bk, .string bv] 44)
  have HXa := Lib.hid hxa
  have HXb := Lib.hid hxb
  have HB := Lib.hid hb0
  have HK : Hid (∀ x : World, Calls Tryz.prog 58 #[.string ak, .string bk] x fun e w' => e = .returned (.bool (bless ak.data.toList bk.data.toList)) ∧ Below x.heap.size x w') := fun x => rless_any ak bk x h1
  have HV : Hid (∀ x : World, Calls Tryz.prog 58 #[.string av, .string bv] x fun e w' => e = .returned (.bool (bless av.data.toList bv.data.toList)) ∧ Below x.heap.size x w') := fun x => rless_any av bv x h2
  rw [bless_cmp] at HK HV
  have e1 : ak.data.toList = bk.data.toList ↔ ak = bk := ⟨fun h => by rw [txt_eq h]; exact txt_of bk, fun h => by rw [h]⟩
  have e2 : av.data.toList = bv.data.toList ↔ av = bv := ⟨fun h => by rw [txt_eq h]; exact txt_of bv, fun h => by rw [h]⟩
  have z1 := cmpB_iff ak.data.toList bk.data.toList
  have z2 := cmpB_iff av.data.toList bv.data.toList
  have r1 := cmpB_range ak.data.toList bk.data.toList
  have r2 := cmpB_range av.data.toList bv.data.toList
  rw [e1] at z1
  rw [e2] at z2
  have hg := rent_guard
  have hsq : ∀ (x : ByteArray), (x.toList == x.toList) = true := fun x => by simp
  unfold ecmp
  clear hxa hxb hb0 e1 e2
  generalize Lib.compareBytes ak.data.toList bk.data.toList = p at *
  generalize Lib.compareBytes av.data.toList bv.data.toList = q at *
  have HCL : Hid (∀ x : World, Below ((w.alloc (.cells #[.string ak, .string av] 44)).alloc (.cells #[.string bk, .string bv] 44)).heap.size ((w.alloc (.cells #[.string ak, .string av] 44)).alloc (.cells #[.string bk, .string bv] 44)) x → (x.cell? ⟨w.heap.size, 0, none⟩ = some (.string ak) ∧ x.cell? ⟨w.heap.size, 1, none⟩ = some (.string av) ∧ x.cell? ⟨w.heap.size + 1, 0, none⟩ = some (.string bk) ∧ x.cell? ⟨w.heap.size + 1, 1, none⟩ = some (.string bv))) := fun x hx =>
    ⟨(HXa.out.below hx HXa.out.lt).cell 0, (HXa.out.below hx HXa.out.lt).cell 1, (HXb.out.below hx HXb.out.lt).cell 0, (HXb.out.below hx HXb.out.lt).cell 1⟩
  have hbW : Below ((w.alloc (.cells #[.string ak, .string av] 44)).alloc (.cells #[.string bk, .string bv] 44)).heap.size ((w.alloc (.cells #[.string ak, .string av] 44)).alloc (.cells #[.string bk, .string bv] 44)) ((w.alloc (.cells #[.string ak, .string av] 44)).alloc (.cells #[.string bk, .string bv] 44)) := b0
  obtain ⟨p0, p1, p2, p3⟩ := HCL.out _ hbW
  rcases r1 with rfl | rfl | rfl
  · have HK2 : Hid (∀ x : World, Calls Tryz.prog 58 #[.string ak, .string bk] x fun e w' => e = .returned (.bool true) ∧ Below x.heap.size x w') := HK.out
    rw [if_pos (by decide)]
    clear HK HV z1 z2
    go_enter Tryz.func40, Tryz.ntmps40
    go_wp2_with fail
    refine (HK2.out _).mono ?_
    rintro e w1 ⟨rfl, hb2⟩
    replace hbW := bb hbW hb2
    clear hb2 p0 p1 p2 p3
    obtain ⟨p0, p1, p2, p3⟩ := HCL.out _ hbW
    go_wp2_with fail
    go_ret
    exact ⟨rfl, bb HB.out hbW⟩
  · obtain rfl := z1.1 rfl
    have HK2 : Hid (∀ x : World, Calls Tryz.prog 58 #[.string ak, .string ak] x fun e w' => e = .returned (.bool false) ∧ Below x.heap.size x w') := HK.out
    rw [if_neg (by decide)]
    clear HK z1
    rcases r2 with rfl | rfl | rfl
    · have HV2 : Hid (∀ x : World, Calls Tryz.prog 58 #[.string av, .string bv] x fun e w' => e = .returned (.bool true) ∧ Below x.heap.size x w') := HV.out
      clear HV z2
      go_enter Tryz.func40, Tryz.ntmps40
      go_wp2_with fail
      refine (HK2.out _).mono ?_
      rintro e w1 ⟨rfl, hb2⟩
      replace hbW := bb hbW hb2
      clear hb2 p0 p1 p2 p3
      obtain ⟨p0, p1, p2, p3⟩ := HCL.out _ hbW
      go_wp2_with fail
      refine (HV2.out _).mono ?_
      rintro e w2 ⟨rfl, hb2⟩
      replace hbW := bb hbW hb2
      clear hb2 p0 p1 p2 p3
      obtain ⟨p0, p1, p2, p3⟩ := HCL.out _ hbW
      go_wp2_with fail
      go_ret
      exact ⟨rfl, bb HB.out hbW⟩
    · obtain rfl := z2.1 rfl
      have HV2 : Hid (∀ x : World, Calls Tryz.prog 58 #[.string av, .string av] x fun e w' => e = .returned (.bool false) ∧ Below x.heap.size x w') := HV.out
      have heq : ∀ v : World, (binOp .eql 44 (.agg #[.string ak, .string av]) (.agg #[.string ak, .string av])).run Tryz.prog v = .ok (.bool true) v := fun v => by rw [rent_eql]; simp
      clear HV z2
      go_enter Tryz.func40, Tryz.ntmps40
      go_wp2_with fail
      refine (HK2.out _).mono ?_
      rintro e w1 ⟨rfl, hb2⟩
      replace hbW := bb hbW hb2
      clear hb2 p0 p1 p2 p3
      obtain ⟨p0, p1, p2, p3⟩ := HCL.out _ hbW
      go_wp2_with fail
      refine (HV2.out _).mono ?_
      rintro e w2 ⟨rfl, hb2⟩
      replace hbW := bb hbW hb2
      clear hb2 p0 p1 p2 p3
      obtain ⟨p0, p1, p2, p3⟩ := HCL.out _ hbW
      go_wp2_with fail
      go_ret
      exact ⟨rfl, bb HB.out hbW⟩
    · have hne : ¬ av = bv := fun h => absurd (z2.2 h) (by decide)
      have HV2 : Hid (∀ x : World, Calls Tryz.prog 58 #[.string av, .string bv] x fun e w' => e = .returned (.bool false) ∧ Below x.heap.size x w') := HV.out
      have heq : ∀ v : World, (binOp .eql 44 (.agg #[.string ak, .string av]) (.agg #[.string ak, .string bv])).run Tryz.prog v = .ok (.bool false) v := fun v => by rw [rent_eql]; simp [hne]
      clear HV z2 hne
      go_enter Tryz.func40, Tryz.ntmps40
      go_wp2_with fail
      refine (HK2.out _).mono ?_
      rintro e w1 ⟨rfl, hb2⟩
      replace hbW := bb hbW hb2
      clear hb2 p0 p1 p2 p3
      obtain ⟨p0, p1, p2, p3⟩ := HCL.out _ hbW
      go_wp2_with fail
      refine (HV2.out _).mono ?_
      rintro e w2 ⟨rfl, hb2⟩
      replace hbW := bb hbW hb2
      clear hb2 p0 p1 p2 p3
      obtain ⟨p0, p1, p2, p3⟩ := HCL.out _ hbW
      go_wp2_with fail
      go_ret
      exact ⟨rfl, bb HB.out hbW⟩
  · have hne : ¬ ak = bk := fun h => absurd (z1.2 h) (by decide)
    have HK2 : Hid (∀ x : World, Calls Tryz.prog 58 #[.string ak, .string bk] x fun e w' => e = .returned (.bool false) ∧ Below x.heap.size x w') := HK.out
    have heq : ∀ v : World, (binOp .eql 44 (.agg #[.string ak, .string av]) (.agg #[.string bk, .string bv])).run Tryz.prog v = .ok (.bool false) v := fun v => by rw [rent_eql]; simp [hne]
    have hsk : (ak.toList == bk.toList) = false := by rw [beq_eq_false_iff_ne, ByteArray.toList_eq, ByteArray.toList_eq]; exact fun h => hne (by rw [txt_eq h]; exact txt_of bk)
    rw [if_pos (by decide)]
    clear HK HV z1 z2 hne
    go_enter Tryz.func40, Tryz.ntmps40
    go_wp2_with fail
    refine (HK2.out _).mono ?_
    rintro e w1 ⟨rfl, hb2⟩
    replace hbW := bb hbW hb2
    clear hb2 p0 p1 p2 p3
    obtain ⟨p0, p1, p2, p3⟩ := HCL.out _ hbW
    go_wp2_with fail
    go_ret
    exact ⟨rfl, bb HB.out hbW⟩
/-- The end of the document's reading of a text. -/
def RTextEnd (w : World) (s : ByteArray) (e : Ending) (w' : World) : Prop :=
  ∃ R : ByteArray, e = .returned (.tuple #[.string (txt (etx s.data.toList).1), .string R, .int .i64 ((etx s.data.toList).2.2 : Int)]) ∧ ((etx s.data.toList).2.2 = 0 → R = txt (s.data.toList.drop (etx s.data.toList).2.1)) ∧ Below w.heap.size w w'
theorem rtextE_any (s : ByteArray) (w : World) (hs : s.size ≤ 1000000) : Calls Tryz.prog 62 #[.string s] w (RTextEnd w s) := by
  have HG := Lib.hid (rget_any s w (by omega))
  have hl : s.data.toList.length = s.size := len_list s
  unfold RTextEnd etx
  rw [hl]
  by_cases hv : (vget s.data.toList).2.2 = 0
  · obtain ⟨v1, v2, v3, v4, v5⟩ := vget_ok hv
    rw [hl] at v2
    rw [if_neg (by rw [hv]; simp)]
    have HG2 : Hid (Calls Tryz.prog 48 #[.string s] w fun e w' => e = .returned (.tuple #[.int .u64 ((vget s.data.toList).1 : Int), .int .i64 ((vget s.data.toList).2.1 : Int), .int .i64 0]) ∧ Below w.heap.size w w') := by
      have := HG.out
      rw [hv] at this
      exact this
    clear HG hv v5 hl
    generalize (vget s.data.toList).1 = n at *
    generalize (vget s.data.toList).2.1 = m at *
    obtain ⟨L, hL⟩ : ∃ L, s.size - m = L := ⟨_, rfl⟩
    have hLi : (s.size : Int) - (m : Int) = (L : Int) := by omega
    rw [hL]
    by_cases hn : L < n
    · rw [if_pos hn]
      have hni : (L : Int) < (n : Int) := by omega
      clear hL
      go_enter Tryz.func62, Tryz.ntmps62
      go_wp2_with fail
      refine HG2.out.mono ?_
      rintro e w1 ⟨rfl, hb1⟩
      go_wp2_with fail
      go_ret3
      exact ⟨_, rfl, fun h => by simp at h, hb1⟩
    · rw [if_neg hn]
      have hni : decide ((L : Int) < (n : Int)) = false := decide_eq_false (by omega)
      have hn6 : n ≤ 1000000 := by omega
      obtain ⟨E, hE⟩ : ∃ E, m + n = E := ⟨_, rfl⟩
      have hEi : (m : Int) + (n : Int) = (E : Int) := by omega
      have hmE : (m : Int) ≤ (E : Int) := by omega
      have hEs : (E : Int) ≤ (s.size : Int) := by omega
      have HX1 : Hid (s.extract m E = txt ((s.data.toList.drop m).take n)) := txt_eq (by rw [ext_list]; congr 1; omega)
      have HX2 : Hid (s.extract E s.size = txt (s.data.toList.drop E)) := txt_eq (by rw [PM.ext_rest])
      rw [hE]
      clear hL hE
      go_enter Tryz.func62, Tryz.ntmps62
      go_wp2_with fail
      refine HG2.out.mono ?_
      rintro e w1 ⟨rfl, hb1⟩
      have HB1 := Lib.hid hb1
      clear hb1
      go_wp2_with fail
      go_quiet (fail)
      go_wp2_with fail
      go_ret3
      exact ⟨s.extract E s.size, by rw [← HX1.out]; rfl, fun _ => HX2.out, bn HB1.out _⟩
  · rw [if_pos hv]
    have hvi : (((vget s.data.toList).2.2 : Int) != 0) = true := by rw [bne_iff_ne]; omega
    generalize (vget s.data.toList).2.2 = g at *
    clear hl
    go_enter Tryz.func62, Tryz.ntmps62
    go_wp2_with fail
    refine HG.out.mono ?_
    rintro e w1 ⟨rfl, hb1⟩
    go_wp2_with fail
    go_ret3
    exact ⟨_, rfl, fun h => absurd h hv, hb1⟩
/-- The end of the document's reading of an entry. -/
def RNextEEnd (w : World) (s : ByteArray) (e : Ending) (w' : World) : Prop :=
  ∃ R : ByteArray, e = .returned (.tuple #[.agg #[.string (txt (enx echk s.data.toList).1.1), .string (txt (enx echk s.data.toList).1.2)], .string R, .int .i64 (enx echk s.data.toList).2.2]) ∧ ((enx echk s.data.toList).2.2 = 0 → R = txt (s.data.toList.drop (enx echk s.data.toList).2.1)) ∧ Below w.heap.size w w'
theorem rnextE_any (s : ByteArray) (w : World) (hs : s.size ≤ 1000000) : Calls Tryz.prog 49 #[.string s] w (RNextEEnd w s) := by
  have hx := BlkAt.made w 44 #[.string ⟨#[]⟩, .string ⟨#[]⟩]
  have HX := Lib.hid hx
  have HB := Lib.hid (ba (a := w) b0 (.cells #[.string ⟨#[]⟩, .string ⟨#[]⟩] 44))
  have HT1 := Lib.hid (rtextE_any s (w.alloc (.cells #[.string ⟨#[]⟩, .string ⟨#[]⟩] 44)) hs)
  have hsz1 := etx_size s 0
  rw [List.drop_zero] at hsz1
  generalize hX : enx echk s.data.toList = X
  have HEND : Hid (∀ (e : Ending) (R : ByteArray) (w1 w' : World), e = .returned (.tuple #[.agg #[.string (txt X.1.1), .string (txt X.1.2)], .string R, .int .i64 X.2.2]) → (X.2.2 = 0 → R = txt (s.data.toList.drop X.2.1)) → Below w.heap.size w w1 → Tch (fun j => j = w.heap.size) w1 w' → RNextEEnd w s e w') := fun e R w1 w' he hk hb ht => by
    unfold RNextEEnd
    rw [hX]
    exact ⟨R, he, hk, hb.trans (ht.toBelowB hb.size fun g hg e => by omega)⟩
  unfold enx at hX
  unfold RTextEnd at HT1
  clear hx
  go_enter Tryz.func49, Tryz.ntmps49
  go_wp2_with fail
  refine HT1.out.mono ?_
  rintro e w1 ⟨R1, rfl, hk1, hb1⟩
  have HB1 := Lib.hid (bb HB.out hb1)
  have hx1 := HX.out.below hb1 HX.out.lt
  have HX1 := Lib.hid hx1
  have c0 := hx1.cell 0
  have c1 := hx1.cell 1
  have f0 := hx1.free 0
  have f1 := hx1.free 1
  simp at c0 c1
  clear hb1 hx1 HT1
  by_cases he1 : (etx s.data.toList).2.2 = 0
  · rw [if_neg (by rw [he1]; simp)] at hX
    obtain rfl := hk1 he1
    have hrl : (txt (s.data.toList.drop (etx s.data.toList).2.1)).data.toList = s.data.toList.drop (etx s.data.toList).2.1 := rfl
    have hrs : (txt (s.data.toList.drop (etx s.data.toList).2.1)).size ≤ 1000000 := by rw [txt_size, List.length_drop, len_list]; omega
    have HT2 := Lib.hid (rtextE_any (txt (s.data.toList.drop (etx s.data.toList).2.1)) w1 hrs)
    have hsz2 := etx_size s (etx s.data.toList).2.1
    unfold RTextEnd at HT2
    rw [hrl] at HT2
    have hdd : ∀ m : Nat, ((s.data.toList.drop (etx s.data.toList).2.1).drop m) = s.data.toList.drop ((etx s.data.toList).2.1 + m) := fun m => by rw [List.drop_drop]
    rw [hdd] at HT2
    rw [he1]
    clear hk1 he1 hrl hrs hdd
    generalize etx (s.data.toList.drop (etx s.data.toList).2.1) = Y at *
    generalize txt (s.data.toList.drop (etx s.data.toList).2.1) = R0 at *
    generalize (etx s.data.toList).1 = K at *
    generalize (etx s.data.toList).2.1 = m at *
    clear c0 c1 f0 f1
    go_wp2_with fail
    refine HT2.out.mono ?_
    rintro e w2 ⟨R2, rfl, hk2, hb2⟩
    have HB2 := Lib.hid (bb HB1.out hb2)
    have hx2 := HX1.out.below hb2 HX1.out.lt
    have HX2 := Lib.hid hx2
    have c0 := hx2.cell 0
    have c1 := hx2.cell 1
    have f0 := hx2.free 0
    have f1 := hx2.free 1
    simp at c0 c1
    clear hb2 hx2 HT2 HX1
    by_cases he2 : Y.2.2 = 0
    · rw [if_neg (by rw [he2]; simp)] at hX
      obtain rfl := hk2 he2
      rw [he2]
      have HBE := Lib.hid (BlkAt.made w2 44 #[.string (txt K), .string (txt Y.1)])
      have HCK := Lib.hid (rcheckE_any (txt K) (txt Y.1) (w2.alloc (.cells #[.string (txt K), .string (txt Y.1)] 44)) (by rw [txt_size]; omega) (by rw [txt_size]; omega))
      rw [txt_list, txt_list] at HCK
      have HXB := Lib.hid (HX2.out.more (.cells #[.string (txt K), .string (txt Y.1)] 44))
      have HBB := Lib.hid (ba HB2.out (.cells #[.string (txt K), .string (txt Y.1)] 44))
      clear c0 c1 f0 f1 HX2 hk2 he2
      by_cases hce : echk K Y.1 = 0
      · rw [if_neg (by simpa using hce)] at hX
        subst hX
        rw [hce] at HCK
        generalize txt (s.data.toList.drop (m + Y.2.1)) = RR at *
        clear hce
        go_wp2_with fail
        refine HCK.out.mono ?_
        rintro e w3 ⟨rfl, hb3⟩
        have hB3 := bb HBB.out hb3
        have HE3 : Hid (∀ w', Tch (fun j => j = w.heap.size) w3 w' → RNextEEnd w s (.returned (.tuple #[.agg #[.string (txt K), .string (txt Y.1)], .string RR, .int .i64 0])) w') := fun w' ht => HEND.out _ RR w3 w' rfl (fun _ => rfl) hB3 ht
        have hx3 := HXB.out.below hb3 HXB.out.lt
        have hy3 := HBE.out.below hb3 HBE.out.lt
        have e0 := hy3.cell 0
        have e1 := hy3.cell 1
        simp at e0 e1
        have c0 := hx3.cell 0
        have c1 := hx3.cell 1
        have f0 := hx3.free 0
        have f1 := hx3.free 1
        simp at c0 c1
        clear hx3 hy3 hb3 hB3 HEND
        go_wp2_with fail
        refine bodyPost_ret (v := .tuple #[.agg #[.string (txt K), .string (txt Y.1)], .string RR, .int .i64 0]) (by simp [results, Tryz.results49, go_sem, c0, c1]; try rfl) rfl (HE3.out _ (res_two _ _ _ _))
      · rw [if_pos (by simpa using hce)] at hX
        subst hX
        have hcei : (echk K Y.1 != 0) = true := by rw [bne_iff_ne]; exact hce
        generalize echk K Y.1 = C at *
        go_wp2_with fail
        refine HCK.out.mono ?_
        rintro e w3 ⟨rfl, hb3⟩
        have hB3 := bb HBB.out hb3
        have HE3 : Hid (∀ w', Tch (fun j => j = w.heap.size) w3 w' → RNextEEnd w s (.returned (.tuple #[.agg #[.string ByteArray.empty, .string ByteArray.empty], .string ByteArray.empty, .int .i64 C])) w') := fun w' ht => HEND.out _ ByteArray.empty w3 w' rfl (fun h => absurd h hce) hB3 ht
        have hx3 := HXB.out.below hb3 HXB.out.lt
        have c0 := hx3.cell 0
        have c1 := hx3.cell 1
        have f0 := hx3.free 0
        have f1 := hx3.free 1
        simp at c0 c1
        clear hx3 hb3 hB3 HEND hce
        go_wp2_with fail
        refine bodyPost_ret (v := .tuple #[.agg #[.string ByteArray.empty, .string ByteArray.empty], .string ByteArray.empty, .int .i64 C]) (by simp [results, Tryz.results49, go_sem, c0, c1]; try rfl) rfl (HE3.out _ (res_two _ _ _ _))
    · rw [if_pos he2] at hX
      subst hX
      have HE : Hid (∀ w', Tch (fun j => j = w.heap.size) w2 w' → RNextEEnd w s (.returned (.tuple #[.agg #[.string ByteArray.empty, .string ByteArray.empty], .string ByteArray.empty, .int .i64 (Y.2.2 : Int)])) w') := fun w' ht => HEND.out _ ByteArray.empty w2 w' rfl (fun h => by simp at h; exact absurd h he2) HB2.out ht
      have hte : ((Y.2.2 : Int) != 0) = true := by rw [bne_iff_ne]; omega
      generalize Y.2.2 = G at *
      clear he2 hk2 HEND
      go_wp2_with fail
      refine bodyPost_ret (v := .tuple #[.agg #[.string ByteArray.empty, .string ByteArray.empty], .string ByteArray.empty, .int .i64 (G : Int)]) (by simp [results, Tryz.results49, go_sem, c0, c1]; try rfl) rfl (HE.out _ (res_two _ _ _ _))
  · rw [if_pos he1] at hX
    subst hX
    have HE : Hid (∀ w', Tch (fun j => j = w.heap.size) w1 w' → RNextEEnd w s (.returned (.tuple #[.agg #[.string ByteArray.empty, .string ByteArray.empty], .string ByteArray.empty, .int .i64 ((etx s.data.toList).2.2 : Int)])) w') := fun w' ht => HEND.out _ ByteArray.empty w1 w' rfl (fun h => by simp at h; exact absurd h he1) HB1.out ht
    have hte : ((((etx s.data.toList).2.2 : Nat) : Int) != 0) = true := by rw [bne_iff_ne]; omega
    generalize (etx s.data.toList).2.2 = G at *
    clear he1 hk1 HEND
    go_wp2_with fail
    refine bodyPost_ret (v := .tuple #[.agg #[.string ByteArray.empty, .string ByteArray.empty], .string ByteArray.empty, .int .i64 (G : Int)]) (by simp [results, Tryz.results49, go_sem, c0, c1]; try rfl) rfl (HE.out _ (res_two _ _ _ _))
end Go.Proofs.YtgbgbdocgpdkgaaGreatDoor
end

section
/-
  Contracts of layer 12's reference: one behind another, whether some may be, their key, one text less than another. Conditions: texts within int; for the key at most a thousand entries of a million bytes.
-/
namespace Go.Proofs.YtgbgbdocgpdkgaaGreatDoor
open Go.RowKit Go.PM
set_option maxRecDepth 100000
set_option maxHeartbeats 2000000
attribute [local go_sem ↓] Go.wp_at_zero Go.wp_at_succ

theorem rbehind_any (x y : Ent) (w : World) (hx : x.1.length ≤ 9223372036854775807 ∧ x.2.length ≤ 9223372036854775807) :
    Calls Tryz.prog 44 #[.agg #[.string (txt x.1), .string (txt x.2)], .agg #[.string (txt y.1), .string (txt y.2)]] w fun e w' => e = .returned (.int .i64 (dbeh x.1 y.1)) ∧ Below w.heap.size w w' := by
  obtain ⟨x0, x1⟩ := x
  obtain ⟨y0, y1⟩ := y
  simp only at hx ⊢
  have hbx := (BlkAt.made w 44 #[.string (txt x0), .string (txt x1)]).more (.cells #[.string (txt y0), .string (txt y1)] 44)
  have hby := BlkAt.made (w.alloc (.cells #[.string (txt x0), .string (txt x1)] 44)) 44 #[.string (txt y0), .string (txt y1)]
  have HB := Lib.hid (ba (ba (a := w) b0 (.cells #[.string (txt x0), .string (txt x1)] 44)) (.cells #[.string (txt y0), .string (txt y1)] 44))
  have HC : Hid (∀ x : World, Calls Tryz.prog 40 #[.agg #[.string (txt x0), .string (txt x1)], .agg #[.string (txt y0), .string (txt y1)]] x fun e w' => e = .returned (.int .i64 (ecmp x0 x1 y0 y1)) ∧ Below x.heap.size x w') := fun x => rcmp_any _ _ _ _ x hx.1 hx.2
  unfold dbeh
  clear hbx hby hx
  by_cases h0 : y0 = x0
  · rw [if_pos h0]
    have hs : ((txt x0).toList == (txt y0).toList) = true := str_same (by rw [h0])
    clear h0
    go_enter Tryz.func44, Tryz.ntmps44
    go_wp2_with fail
    go_ret
    exact ⟨rfl, HB.out⟩
  · rw [if_neg h0]
    have hs : ((txt x0).toList == (txt y0).toList) = false := str_else fun e => h0 (txt_inj.1 e).symm
    have hk : Lib.compareBytes x0 y0 ≠ 0 := fun e => h0 ((cmpB_iff _ _).1 e).symm
    have hcm : ecmp x0 x1 y0 y1 = Lib.compareBytes x0 y0 := by unfold ecmp; exact if_pos hk
    have hng := cmpB_neg x0 y0
    rw [hcm] at HC
    generalize Lib.compareBytes x0 y0 = R at *
    by_cases h1 : Lib.compareBytes y0 x0 < 0
    · rw [if_pos h1]
      have hR : (0 : Int) < R := by omega
      clear h0 hk hcm hng h1
      go_enter Tryz.func44, Tryz.ntmps44
      go_wp2_with fail
      refine (HC.out _).mono ?_
      rintro e w1 ⟨rfl, hb1⟩
      have HB1 := Lib.hid (bb HB.out hb1)
      clear hb1
      go_wp2_with fail
      go_ret
      exact ⟨rfl, HB1.out⟩
    · rw [if_neg h1]
      have hR : ¬ (0 : Int) < R := by omega
      clear h0 hk hcm hng h1
      go_enter Tryz.func44, Tryz.ntmps44
      go_wp2_with fail
      refine (HC.out _).mono ?_
      rintro e w1 ⟨rfl, hb1⟩
      have HB1 := Lib.hid (bb HB.out hb1)
      clear hb1
      go_wp2_with fail
      go_ret
      exact ⟨rfl, HB1.out⟩
theorem rless12_any (a b : ByteArray) (w : World) (ha : a.size ≤ 9223372036854775807) :
    Calls Tryz.prog 17 #[.string a, .string b] w fun e w' => e = .returned (.bool (decide (Lib.compareBytes a.data.toList b.data.toList < 0))) ∧ Below w.heap.size w w' := by
  have he : ecmp a.data.toList [] b.data.toList [] = Lib.compareBytes a.data.toList b.data.toList := by
    unfold ecmp
    by_cases h : Lib.compareBytes a.data.toList b.data.toList ≠ 0
    · rw [if_pos h]
    · rw [if_neg h]
      have h2 : Lib.compareBytes a.data.toList b.data.toList = 0 := by omega
      rw [h2]
      exact (cmpB_iff [] []).2 rfl
  have HC : Hid (∀ x : World, Calls Tryz.prog 40 #[.agg #[.string a, .string ⟨#[]⟩], .agg #[.string b, .string ⟨#[]⟩]] x fun e w' => e = .returned (.int .i64 (Lib.compareBytes a.data.toList b.data.toList)) ∧ Below x.heap.size x w') := fun x => by
    have := rcmp_any a ⟨#[]⟩ b ⟨#[]⟩ x ha (by decide)
    rw [show (ByteArray.mk #[]).data.toList = [] from rfl, he] at this
    exact this
  clear he
  generalize Lib.compareBytes a.data.toList b.data.toList = R at *
  go_enter Tryz.func17, Tryz.ntmps17
  go_wp2_with fail
  refine (HC.out _).mono ?_
  rintro e w1 ⟨rfl, hb1⟩
  go_wp2_with fail
  go_ret
  exact ⟨rfl, hb1⟩
theorem rkey12_any (A : Option Addr) (c : Nat) (l : List Ent) (w : World) (hr : Rd w A (ents l)) (hz : EMil l) :
    Calls Tryz.prog 16 #[.slice A l.length c] w fun e w' => e = .returned (.string (txt (dkey l))) ∧ Below w.heap.size w w' := by
  have HR := Lib.hid hr
  have HZ := Lib.hid hz.2
  have hl := hz.1
  have wl : IntKind.u64.wrap (l.length : Int) = (l.length : Int) := by rw [IntKind.wrap_u64]; omega
  have HV : Hid (∀ x : World, Calls Tryz.prog 41 #[.int .u64 (l.length : Int)] x fun e w' => e = .returned (.string (txt (vput l.length))) ∧ Below x.heap.size x w') := fun x => rput_any l.length x (by unfold In64; omega)
  have hvl : (vput l.length).length ≤ 10 := by rw [vput_length]; exact vsz_le10 (by omega)
  have HSZ : Hid (∀ k, (vput l.length ++ dkeyL (l.take k)).length ≤ 3000000010) := fun k => by
    have h1 := dkeyL_len (l.take k) fun e he => HZ.out e (List.mem_of_mem_take he)
    have h2 : (l.take k).length ≤ 1000 := by rw [List.length_take]; omega
    rw [List.length_append]
    omega
  clear hr hz
  go_enter Tryz.func16, Tryz.ntmps16
  go_wp2_with fail
  refine (HV.out _).mono ?_
  rintro e w1 ⟨rfl, hb1⟩
  have H0 : Hid (vput l.length = vput l.length ++ dkeyL (l.take 0)) := by
    show _ = _
    rw [List.take_zero, show dkeyL [] = [] from rfl, List.append_nil]
  have HB1 := Lib.hid hb1
  clear hb1
  go_wp2_with fail
  go_loopg [3, 12] l.length (fun gk sv ki wr => ∃ (k : Nat) (K : List UInt8), k ≤ l.length ∧ l.length - k ≤ gk ∧ ki = .int .i64 (k : Int) ∧ sv = .string (txt K) ∧ Hid (K = vput l.length ++ dkeyL (l.take k)) ∧ Below w.heap.size w wr)
  case atStart => exact ⟨0, _, Nat.zero_le _, by omega, rfl, rfl, H0, HB1.out⟩
  case round =>
    obtain ⟨k, K, hk, hgk, rfl, rfl, HK, hbel⟩ := hrel
    have hszk := HSZ.out k
    rw [← HK.out] at hszk
    by_cases hlt : k < l.length
    · obtain ⟨b, off, rfl, hblt, c0, c1⟩ := (HR.out.below hbel).ent hlt
      obtain ⟨z0, z1⟩ := HZ.out _ (List.getElem_mem hlt)
      have htk : l.take (k + 1) = l.take k ++ [l[k]] := (List.take_append_getElem hlt).symm
      generalize l[k] = x at *
      obtain ⟨x0, x1⟩ := x
      simp only at c0 c1 z0 z1
      have HN : Hid (K ++ eput x0 x1 = vput l.length ++ dkeyL (l.take (k + 1))) := by
        show _ = _
        rw [htk, dkeyL_app, HK.out]
        simp [dkeyL]
      have hel := eput_len x0 x1 z0 z1
      have HP := Lib.hid (rputE_any (txt x0) (txt x1) (wr.alloc (.cells #[.string (txt x0), .string (txt x1)] 44)) (by rw [txt_size]; omega) (by rw [txt_size]; omega))
      rw [txt_list, txt_list] at HP
      have HBo := Lib.hid (ba hbel (.cells #[.string (txt x0), .string (txt x1)] 44))
      have hadd : ∀ x : World, (Op.stringOp .add (txt K) (txt (eput x0 x1))).run Tryz.prog x = .ok (.string (txt (K ++ eput x0 x1))) x := fun x => by
        have h1 := run_string_add_sum (P := Tryz.prog) x (txt K) (txt (eput x0 x1)) (by rw [txt_size, txt_size]; omega)
        rw [h1, txt_eq (app_listE (txt K) (txt (eput x0 x1)))]
        rfl
      clear hbel htk HK H0 hel hszk
      go_wp2_with fail
      refine HP.out.mono ?_
      rintro e w3 ⟨rfl, hb3⟩
      have HB3 := Lib.hid (bb HBo.out hb3)
      clear hb3 HP
      go_wp2_with fail
      go_roundg (l.length - (k + 1))
      case measure => omega
      case rel => exact ⟨k + 1, K ++ eput x0 x1, by omega, Nat.le_refl _, by go_num, rfl, HN, HB3.out⟩
    · obtain rfl : k = l.length := by omega
      have hkk : K = dkey l := by rw [HK.out, List.take_of_length_le (Nat.le_refl _)]; rfl
      subst hkk
      have HB := Lib.hid hbel
      clear hbel HK H0 hszk
      go_wp2_with fail
      go_ret
      exact ⟨rfl, HB.out⟩
theorem rcheck12_any (A : Option Addr) (c : Nat) (l : List Ent) (w : World) (hr : Rd w A (ents l)) (hz : ESz l) (hl : l.length ≤ 9223372036854775807) :
    Calls Tryz.prog 20 #[.slice A l.length c] w fun e w' => e = .returned (.int .i64 (dchk echk l)) ∧ Below w.heap.size w w' := by
  have HR := Lib.hid hr
  have HZ := Lib.hid hz
  have wl : IntKind.u64.wrap (l.length : Int) = (l.length : Int) := by rw [IntKind.wrap_u64]; omega
  have HM : Hid (∀ x : World, Calls Tryz.prog 38 #[.int .u64 (l.length : Int)] x fun e w' => e = .returned (.int .i64 (dmany l.length)) ∧ w' = x) := fun x => count_any12 l.length x
  have H0 : Hid (dchk echk l = if dmany l.length ≠ 0 then dmany l.length else dchk1 echk (pk l 0) (l.drop 0)) := rfl
  generalize dchk echk l = F at H0 ⊢
  generalize dmany l.length = M at *
  clear hr hz
  go_enter Tryz.func20, Tryz.ntmps20
  go_wp2_with fail
  refine (HM.out _).mono ?_
  rintro e w1 ⟨rfl, rfl⟩
  go_wp2_with fail
  go_loopg [3, 4] l.length (fun gk ei ki wr => ∃ (k : Nat) (E : Int), k ≤ l.length ∧ l.length - k ≤ gk ∧ ki = .int .i64 (k : Int) ∧ ei = .int .i64 E ∧ Hid (F = if E ≠ 0 then E else dchk1 echk (pk l k) (l.drop k)) ∧ Below w1.heap.size w1 wr)
  case atStart => exact ⟨0, M, Nat.zero_le _, by omega, rfl, rfl, H0, b0⟩
  case round =>
    obtain ⟨k, E, hk, hgk, rfl, rfl, HF, hbel⟩ := hrel
    have HB := Lib.hid hbel
    by_cases hE : E = 0
    · subst hE
      by_cases hlt : k < l.length
      · obtain ⟨b, off, hA, hbl, c0, c1⟩ := (HR.out.below hbel).ent hlt
        have hf := HF.out
        rw [if_neg (by simp), List.drop_eq_getElem_cons hlt, dchk1] at hf
        have hps := pk_succ l k hlt
        obtain ⟨z0, z1⟩ := HZ.out _ (List.getElem_mem hlt)
        generalize l[k] = x at *
        obtain ⟨x0, x1⟩ := x
        simp only at c0 c1 z0 z1 hps
        change F = if echk x0 x1 ≠ 0 then echk x0 x1 else if dbehO (pk l k) x0 ≠ 0 then dbehO (pk l k) x0 else dchk1 echk (some x0) (l.drop (k + 1)) at hf
        rw [← hps] at hf
        have HFF := Lib.hid hf
        have HC := Lib.hid (rcheckE_any (txt x0) (txt x1) wr (by rw [txt_size]; omega) (by rw [txt_size]; omega))
        rw [txt_list, txt_list] at HC
        clear hf hps hbel HF H0
        subst hA
        by_cases hC : echk x0 x1 = 0
        · rw [hC] at HC
          have hf := HFF.out
          rw [if_neg (by rw [hC]; simp)] at hf
          have HF2 := Lib.hid hf
          clear hf HFF hC
          by_cases hk0 : k = 0
          · have HN : Hid (F = if (0 : Int) ≠ 0 then 0 else dchk1 echk (pk l (k + 1)) (l.drop (k + 1))) := by
              show _ = _
              rw [HF2.out, hk0, pk_zero]
              rfl
            have hki : decide ((0 : Int) < (k : Int)) = false := decide_eq_false (by omega)
            have hkn : decide (0 < k) = false := decide_eq_false (by omega)
            clear HF2 hk0
            go_wp2_with fail
            refine HC.out.mono ?_
            rintro e w2 ⟨rfl, hb2⟩
            have HB2 := Lib.hid (bb HB.out hb2)
            clear hb2 HC
            go_wp2_with fail
            go_roundg (l.length - (k + 1))
            case measure => omega
            case rel => exact ⟨k + 1, _, by omega, Nat.le_refl _, by go_num, rfl, HN, HB2.out⟩
          · obtain ⟨j, rfl⟩ : ∃ j, k = j + 1 := ⟨k - 1, by omega⟩
            have hjl : j < l.length := by omega
            have hji : ((j + 1 : Nat) : Int) - 1 = (j : Int) := by omega
            have hj0 : (0 : Int) < ((j + 1 : Nat) : Int) := by omega
            have hj1 : (j : Int) < (l.length : Int) := by omega
            have hj2 : ((j + 1 : Nat) : Int) < (l.length : Int) := by omega
            go_wp2_with fail
            refine HC.out.mono ?_
            rintro e w2 ⟨rfl, hb2⟩
            have HB2 := Lib.hid (bb HB.out hb2)
            obtain ⟨b', off', hA', hbl', d0, d1⟩ := (HR.out.below HB2.out).ent hjl
            injection hA' with hA'
            injection hA' with e1 e2
            subst e1 e2
            obtain ⟨zy0, zy1⟩ := HZ.out _ (List.getElem_mem hjl)
            have hf := HF2.out
            rw [pk_succ l j hjl] at hf
            generalize l[j] = y at *
            obtain ⟨y0, y1⟩ := y
            simp only at d0 d1 zy0 zy1
            change F = if dbeh y0 x0 ≠ 0 then dbeh y0 x0 else dchk1 echk (pk l (j + 1 + 1)) (l.drop (j + 1 + 1)) at hf
            obtain ⟨D, hDd⟩ : ∃ D, D = dbeh y0 x0 := ⟨_, rfl⟩
            rw [← hDd] at hf
            have HN := Lib.hid hf
            have HBH : Hid (∀ n : BelW w2, Calls Tryz.prog 44 #[.agg #[.string (txt y0), .string (txt y1)], .agg #[.string (txt x0), .string (txt x1)]] n.wld fun e w' => e = .returned (.int .i64 D) ∧ Below n.wld.heap.size n.wld w') := fun n => by
              rw [hDd]
              exact rbehind_any (y0, y1) (x0, x1) n.wld ⟨by simp only; omega, by simp only; omega⟩
            have hbl2 : b < w2.heap.size := hbl'
            have n0 : ∀ n : BelW w2, n.wld.cell? ⟨b, off + j * 2, none⟩ = some (.string (txt y0)) := fun n => (World.cell?_of_block (a := ⟨b, off + j * 2, none⟩) (n.bel.block b hbl2)).trans d0
            have n1 : ∀ n : BelW w2, n.wld.cell? ⟨b, off + j * 2 + 1, none⟩ = some (.string (txt y1)) := fun n => (World.cell?_of_block (a := ⟨b, off + j * 2 + 1, none⟩) (n.bel.block b hbl2)).trans d1
            have n2 : ∀ n : BelW w2, n.wld.cell? ⟨b, off + (j + 1) * 2, none⟩ = some (.string (txt x0)) := fun n => (World.cell?_of_block (a := ⟨b, off + (j + 1) * 2, none⟩) (n.bel.block b hbl2)).trans ((World.cell?_of_block (a := ⟨b, off + (j + 1) * 2, none⟩) (hb2.block b hbl)).trans c0)
            have n3 : ∀ n : BelW w2, n.wld.cell? ⟨b, off + (j + 1) * 2 + 1, none⟩ = some (.string (txt x1)) := fun n => (World.cell?_of_block (a := ⟨b, off + (j + 1) * 2 + 1, none⟩) (n.bel.block b hbl2)).trans ((World.cell?_of_block (a := ⟨b, off + (j + 1) * 2 + 1, none⟩) (hb2.block b hbl)).trans c1)
            clear c0 c1 d0 d1 hf HF2 hDd hb2 HC
            go_wp2_with fail
            refine wp_region_below_lit (by kernel_rfl) (by kernel_rfl) ?_
            repeat (first | go_big_quiet_skip | (go_big_quiet_want; go_big_quiet_op; first | go_big_quiet_on | (apply Exists.intro; refine ⟨fun nq => ?_, ?_⟩; (go_at_call 44; exact below_of (HBH.out _)); go_big_quiet_on)))
            refine wpQuiet_nil ?_
            intro wq hnq
            obtain ⟨nq, rfl⟩ := hnq
            have hq := nq.bel
            generalize nq.wld = wq at hq ⊢
            clear nq
            have HBQ := Lib.hid (bb HB2.out hq)
            clear hq n0 n1 n2 n3 HBH
            go_wp2_with fail
            go_roundg (l.length - (j + 1 + 1))
            case measure => omega
            case rel => exact ⟨j + 1 + 1, _, by omega, Nat.le_refl _, by go_num, rfl, HN, HBQ.out⟩
        · have hf := HFF.out
          rw [if_pos hC] at hf
          obtain ⟨C, hCd⟩ : ∃ C, C = echk x0 x1 := ⟨_, rfl⟩
          rw [← hCd] at hC HC hf
          have hCi : (C == 0) = false := by rw [beq_eq_false_iff_ne]; exact hC
          have HN : Hid (F = if C ≠ 0 then C else dchk1 echk (pk l (k + 1)) (l.drop (k + 1))) := by
            show _ = _
            rw [if_pos hC]
            exact hf
          clear hf HFF hC hCd
          go_wp2_with fail
          refine HC.out.mono ?_
          rintro e w2 ⟨rfl, hb2⟩
          have HB2 := Lib.hid (bb HB.out hb2)
          clear hb2 HC
          go_wp2_with fail
          go_roundg (l.length - (k + 1))
          case measure => omega
          case rel => exact ⟨k + 1, _, by omega, Nat.le_refl _, by go_num, rfl, HN, HB2.out⟩
      · obtain rfl : k = l.length := by omega
        have hf := HF.out
        rw [if_neg (by simp), List.drop_of_length_le (Nat.le_refl _), dchk1] at hf
        subst hf
        clear hbel HF H0
        go_wp2_with fail
        go_ret
        exact ⟨rfl, HB.out⟩
    · have hf := HF.out
      rw [if_pos hE] at hf
      subst hf
      have hEi : (F == 0) = false := by rw [beq_eq_false_iff_ne]; exact hE
      clear hbel HF H0 hE
      by_cases hlt : k < l.length
      · have hli : (k : Int) < (l.length : Int) := by omega
        go_wp2_with fail
        go_ret
        exact ⟨rfl, HB.out⟩
      · have hli : ¬ (k : Int) < (l.length : Int) := by omega
        go_wp2_with fail
        go_ret
        exact ⟨rfl, HB.out⟩
end Go.Proofs.YtgbgbdocgpdkgaaGreatDoor
end
