/-
  The walks of FrameLong and CrcSums. Conditions: texts as they come in; the parts' bytes within 2^47.
-/
import Derived.Test.YtlkdoahdcepncaaFrameLaw
import Derived.Test.YtlkdoahdcepncaaJoin
namespace Go.Proofs.Ytlkdoahdcepncaa
open Go.RowKit Go.PM
set_option maxRecDepth 100000
set_option maxHeartbeats 1000000

theorem fparse_long (r : List UInt8) : fparse (81 :: 70 :: 129 :: 128 :: 4 :: r) = ([], 0, 4) := by
  have hv : vget (129 :: 128 :: 4 :: r) = (65537, 3, 0) := by
    unfold vget
    simp [vgetL]
  unfold fparse
  rw [if_neg (by simp [fmark])]
  unfold fbody
  simp only [List.drop_succ_cons, List.drop_zero]
  rw [hv]
  simp
theorem flat_mem : ∀ (l : List ByteArray) (x : ByteArray), x ∈ l → x.size ≤ (flat l).length
  | y :: r, x, h => by
    simp only [flat, List.flatMap_cons, List.length_append]
    rcases List.mem_cons.1 h with rfl | h
    · rw [len_list]; omega
    · have := flat_mem r x h
      unfold flat at this
      omega
theorem long_walk (w : World) :
    Calls Try.prog 14 #[] w fun e w' => e = .returned (.bool true) ∧ Below w.heap.size w w' := by
  obtain ⟨S, hS, hR⟩ : ∃ S : ByteArray, S.size = 65536 ∧ ∀ x : World, Calls Try.prog 69 #[.string ⟨#[120]⟩, .int .i64 65536] x fun e w' => e = .returned (.string S) ∧ Below x.heap.size x w' := by
    refine ⟨⟨(Lib.repeatL (ByteArray.mk #[120]).data.toList 65536).toArray⟩, ?_, fun x => Try.strings_Repeat ⟨#[120]⟩ 65536 x (by omega) (by show 1 * 65536 ≤ _; omega)⟩
    have := Lib.repeatL_length (ByteArray.mk #[120]).data.toList 65536
    generalize Lib.repeatL (ByteArray.mk #[120]).data.toList 65536 = L at this ⊢
    show L.toArray.size = _
    rw [List.size_toArray, this]
    show 65536 * 1 = _
    omega
  have HR := Lib.hid hR
  clear hR
  have hSl : S.data.toList.length = 65536 := by rw [len_list]; exact hS
  have HW1 : Hid (∀ x : World, Calls Try.prog 50 #[.string S] x fun e w' => e = .returned (.tuple #[.string (txt (ftext S.data.toList)), .int .i64 0]) ∧ Below x.heap.size x w') := fun x => wrap_any S x (by omega)
  have hF : fsize 65536 ≤ 70000 := by
    have hvl := vsz_le10 (n := 65536) (by omega)
    unfold fsize
    generalize vsz 65536 = v at hvl ⊢
    omega
  have hT : (txt (ftext S.data.toList)).size = fsize 65536 := by rw [txt_size, ftext_length, hSl]
  have HP1 : Hid (∀ x : World, Calls Try.prog 51 #[.string (txt (ftext S.data.toList))] x fun e w' => e = .returned (.tuple #[.string S, .int .i64 (fsize 65536 : Int), .int .i64 0]) ∧ Below x.heap.size x w') := fun x => by
    have := parse_any (txt (ftext S.data.toList)) x (by rw [hT]; exact Nat.le_trans hF (by omega))
    rw [txt_list] at this
    have e := fparse_text S.data.toList [] (by omega)
    rw [List.append_nil] at e
    rw [e, hSl, txt_of] at this
    exact this
  generalize txt (ftext S.data.toList) = T at HW1 HP1 hT
  have HW2 : Hid (∀ x : World, Calls Try.prog 50 #[.string (S ++ ⟨#[120]⟩)] x fun e w' => e = .returned (.tuple #[.string ByteArray.empty, .int .i64 4]) ∧ Below x.heap.size x w') := fun x => wrap_no _ x (by rw [ByteArray.size_append, hS]; show 65536 < 65536 + 1; omega)
  have HP2 : Hid (∀ x : World, Calls Try.prog 51 #[.string (⟨#[81, 70, 129, 128, 4]⟩ ++ S ++ ⟨#[120, 120, 120, 120, 120]⟩)] x fun e w' => e = .returned (.tuple #[.string (txt []), .int .i64 0, .int .i64 4]) ∧ Below x.heap.size x w') := fun x => by
    have := parse_any (⟨#[81, 70, 129, 128, 4]⟩ ++ S ++ ⟨#[120, 120, 120, 120, 120]⟩) x (by rw [ByteArray.size_append, ByteArray.size_append, hS]; show 5 + 65536 + 5 ≤ _; omega)
    rw [show (⟨#[81, 70, 129, 128, 4]⟩ ++ S ++ ⟨#[120, 120, 120, 120, 120]⟩ : ByteArray).data.toList = 81 :: 70 :: 129 :: 128 :: 4 :: (S.data.toList ++ [120, 120, 120, 120, 120]) by simp, fparse_long] at this
    exact this
  have HSZ : Hid (∀ x : World, Calls Try.prog 62 #[.int .i64 65537] x fun e w' => e = .returned (.int .i64 0) ∧ Below x.heap.size x w') := fun x => fsize_no 65537 x (by omega)
  clear hSl
  generalize fsize 65536 = fz at *
  have hb1 : Below w.heap.size w w := b0
  go_enter Try.func14, Try.ntmps14
  go_wp2_with fail
  refine (HR.out _).mono ?_
  rintro e w1 ⟨rfl, hb2⟩
  replace hb1 := bb hb1 hb2
  clear hb2
  go_wp2_with fail
  refine (HW1.out _).mono ?_
  rintro e w2 ⟨rfl, hb2⟩
  replace hb1 := bb hb1 hb2
  clear hb2
  go_wp2_with fail
  refine (HP1.out _).mono ?_
  rintro e w3 ⟨rfl, hb2⟩
  replace hb1 := bb hb1 hb2
  clear hb2
  go_wp2_with fail
  refine (HW2.out _).mono ?_
  rintro e w4 ⟨rfl, hb2⟩
  replace hb1 := bb hb1 hb2
  clear hb2
  go_wp2_with fail
  refine (HP2.out _).mono ?_
  rintro e w5 ⟨rfl, hb2⟩
  replace hb1 := bb hb1 hb2
  clear hb2
  go_wp2_with fail
  refine (awake05 _).mono ?_
  rintro e w6 ⟨rfl, hb2⟩
  replace hb1 := bb hb1 hb2
  clear hb2
  go_wp2_with fail
  refine (HSZ.out _).mono ?_
  rintro e w7 ⟨rfl, hb2⟩
  replace hb1 := bb hb1 hb2
  clear hb2
  go_wp2
  go_ret
  exact ⟨rfl, hb1⟩

theorem sums_walk (s : ByteArray) (A : Option Addr) (cap : Nat) (l : List ByteArray) (q : ByteArray) (n : Nat) (w : World) (hs : s.size ≤ 9223372036854775807) (hr : Rd w A (strs l)) (hc : l.length ≤ cap) (hll : l.length ≤ 140737488355328)
    (hfl : (flat l).length ≤ 140737488355328) (hq : q.size ≤ 9223372036854775807) (hn : n < 4294967296) :
    Calls Try.prog 11 #[.string s, .slice A l.length cap, .string q, .int .u32 (n : Int)] w fun e w' => e = .returned (.bool true) ∧ Below w.heap.size w w' := by
  have HJ : Hid (∀ x : World, Below w.heap.size w x → Calls Try.prog 52 #[.slice A l.length cap, .string ⟨#[]⟩] x fun e w' => e = .returned (.string (txt (flat l))) ∧ Below x.heap.size x w') :=
    fun x hx => join_any A cap l x (hr.below hx) hc hll hfl
  have hls : ∀ x ∈ l, x.size ≤ 9223372036854775807 := fun x hx => by
    have := flat_mem l x hx
    omega
  have HSA : Hid (∀ x : World, Below w.heap.size w x → Calls Try.prog 47 #[.slice A l.length cap] x fun e w' => e = .returned (.int .u32 (csum (txt (flat l)).data.toList : Int)) ∧ Below x.heap.size x w') :=
    fun x hx => csum_any A cap l x (hr.below hx) (by omega) hls
  have hF : (txt (flat l)).size ≤ 140737488355328 := hfl
  generalize txt (flat l) = F at HJ HSA hF
  have hb1 : Below w.heap.size w w := b0
  clear hr hls hfl hc
  by_cases h1 : 3000 < s.size
  · have hF : F.size ≤ 140737488355328 := by omega
    go_enter Try.func11, Try.ntmps11
    go_wp2_with fail
    refine (awake04 _).mono ?_
    rintro e w1 ⟨rfl, hb2⟩
    replace hb1 := bb hb1 hb2
    clear hb2
    go_wp2_with fail
    refine (HJ.out _ hb1).mono ?_
    rintro e w2 ⟨rfl, hb2⟩
    replace hb1 := bb hb1 hb2
    clear hb2
    go_wp2
    go_ret
    exact ⟨rfl, hb1⟩
  by_cases h2 : 60 < l.length
  · have hF : F.size ≤ 140737488355328 := by omega
    go_enter Try.func11, Try.ntmps11
    go_wp2_with fail
    refine (awake04 _).mono ?_
    rintro e w1 ⟨rfl, hb2⟩
    replace hb1 := bb hb1 hb2
    clear hb2
    go_wp2_with fail
    refine (HJ.out _ hb1).mono ?_
    rintro e w2 ⟨rfl, hb2⟩
    replace hb1 := bb hb1 hb2
    clear hb2
    go_wp2
    go_ret
    exact ⟨rfl, hb1⟩
  by_cases h3 : 3000 < F.size
  · have hF : F.size ≤ 140737488355328 := by omega
    go_enter Try.func11, Try.ntmps11
    go_wp2_with fail
    refine (awake04 _).mono ?_
    rintro e w1 ⟨rfl, hb2⟩
    replace hb1 := bb hb1 hb2
    clear hb2
    go_wp2_with fail
    refine (HJ.out _ hb1).mono ?_
    rintro e w2 ⟨rfl, hb2⟩
    replace hb1 := bb hb1 hb2
    clear hb2
    go_wp2
    go_ret
    exact ⟨rfl, hb1⟩
  by_cases h4 : 3000 < q.size
  · have hF : F.size ≤ 140737488355328 := by omega
    go_enter Try.func11, Try.ntmps11
    go_wp2_with fail
    refine (awake04 _).mono ?_
    rintro e w1 ⟨rfl, hb2⟩
    replace hb1 := bb hb1 hb2
    clear hb2
    go_wp2_with fail
    refine (HJ.out _ hb1).mono ?_
    rintro e w2 ⟨rfl, hb2⟩
    replace hb1 := bb hb1 hb2
    clear hb2
    go_wp2
    go_ret
    exact ⟨rfl, hb1⟩
  have HG : Hid (∀ x : World, Calls Try.prog 55 #[.string s] x fun e w' => e = .returned (.int .u32 (csum s.data.toList : Int)) ∧ Below x.heap.size x w') := fun x => rsum_any s x hs
  have HRF : Hid (∀ x : World, Calls Try.prog 55 #[.string F] x fun e w' => e = .returned (.int .u32 (csum F.data.toList : Int)) ∧ Below x.heap.size x w') := fun x => rsum_any F x (by omega)
  have hsF : (s ++ F).data.toList = s.data.toList ++ F.data.toList := by rw [ByteArray.data_append, Array.toList_append]
  have HRA : Hid (∀ x : World, Calls Try.prog 55 #[.string (s ++ F)] x fun e w' => e = .returned (.int .u32 (csum (s.data.toList ++ F.data.toList) : Int)) ∧ Below x.heap.size x w') := fun x => by
    have := rsum_any (s ++ F) x (by rw [ByteArray.size_append]; omega)
    rwa [hsF] at this
  have HMO : Hid (∀ x : World, Calls Try.prog 56 #[.int .u32 (csum s.data.toList : Int), .string F] x fun e w' => e = .returned (.int .u32 (csum (s.data.toList ++ F.data.toList) : Int)) ∧ Below x.heap.size x w') := fun x => by
    have := more_any (csum s.data.toList) F x (csum_lt _) (by omega)
    have e : 4294967295 ^^^ Go.PM.cover (4294967295 ^^^ csum s.data.toList) F.data.toList = csum (s.data.toList ++ F.data.toList) := by
      unfold csum
      rw [not_not, cover_append]
    rwa [e] at this
  have HS1 : Hid (∀ x : World, Calls Try.prog 47 #[.slice (some ⟨x.heap.size, 0, none⟩) 1 1] (x.alloc (.cells #[.string s] 9)) fun e w' => e = .returned (.int .u32 (csum s.data.toList : Int)) ∧ Below x.heap.size x w') := fun x =>
    (sum_one s x.heap.size _ (BlkAt.made x 9 #[.string s]) hs).mono fun e w' ⟨he, hb⟩ => ⟨he, bb (ba b0 _) hb⟩
  have HRP : Hid (∀ x : World, Calls Try.prog 54 #[.int .u32 (csum s.data.toList : Int)] x fun e w' => e = .returned (.string (txt (cput (csum s.data.toList)))) ∧ Below x.heap.size x w') := fun x => rcput_any _ x (csum_lt _)
  have HPN : Hid (∀ x : World, Calls Try.prog 46 #[.int .u32 (n : Int)] x fun e w' => e = .returned (.string (txt (cput n))) ∧ Below x.heap.size x w') := fun x => cput_any n x hn
  have HRN : Hid (∀ x : World, Calls Try.prog 54 #[.int .u32 (n : Int)] x fun e w' => e = .returned (.string (txt (cput n))) ∧ Below x.heap.size x w') := fun x => rcput_any n x hn
  have HGN : Hid (∀ x : World, Calls Try.prog 53 #[.string (txt (cput n))] x fun e w' => e = .returned (.tuple #[.int .u32 (n : Int), .bool true]) ∧ Below x.heap.size x w') := fun x => by
    have := cget_any (txt (cput n)) x rfl
    rwa [txt_list, cput_get n hn] at this
  have HCW : Hid (∀ x : World, Calls Try.prog 48 #[.string s, .string (txt (cput (csum s.data.toList)))] x fun e w' => e = .returned (.bool true) ∧ Below x.heap.size x w') := fun x => by
    have := check_any s (txt (cput (csum s.data.toList))) x hs rfl
    rwa [txt_list, cput_get _ (csum_lt _), decide_eq_true rfl] at this
  have hW4 : (txt (cput (csum s.data.toList))).size = 4 := rfl
  have hWl : (txt (cput (csum s.data.toList))).data.toList = cput (csum s.data.toList) := rfl
  generalize hWe : txt (cput (csum s.data.toList)) = W at *
  generalize txt (cput n) = T at *
  by_cases hq4 : q.size = 4
  · have HGQ : Hid (∀ x : World, Calls Try.prog 53 #[.string q] x fun e w' => e = .returned (.tuple #[.int .u32 (cget q.data.toList : Int), .bool true]) ∧ Below x.heap.size x w') := fun x => cget_any q x hq4
    have HPK : Hid (∀ x : World, Calls Try.prog 46 #[.int .u32 (cget q.data.toList : Int)] x fun e w' => e = .returned (.string q) ∧ Below x.heap.size x w') := fun x => by
      have := cput_any (cget q.data.toList) x (cget_lt _)
      rwa [cget_put _ (by rw [len_list]; exact hq4), txt_of] at this
    have hCK := fun x : World => check_any s q x hs hq4
    have hqW : decide (cget q.data.toList = csum s.data.toList) = decide (q = W) := by
      rw [decide_eq_decide]
      constructor
      · intro e
        rw [← hWe, ← e, cget_put _ (by rw [len_list]; exact hq4), txt_of]
      · rintro rfl
        rw [hWl, cput_get _ (csum_lt _)]
    rw [hqW] at hCK
    clear hqW
    by_cases hE : q = W
    · subst hE
      rw [decide_eq_true rfl] at hCK
      have HCK := Lib.hid hCK
      clear hCK
      generalize csum s.data.toList = c at *
      generalize csum F.data.toList = cF at *
      generalize csum (s.data.toList ++ F.data.toList) = cA at *
      generalize cget q.data.toList = k at *
      clear hWl hWe hsF hW4
      go_enter Try.func11, Try.ntmps11
      go_wp2_with fail
      refine (awake04 _).mono ?_
      rintro e w1 ⟨rfl, hb2⟩
      replace hb1 := bb hb1 hb2
      clear hb2
      go_wp2_with fail
      refine (HJ.out _ hb1).mono ?_
      rintro e w2 ⟨rfl, hb2⟩
      replace hb1 := bb hb1 hb2
      clear hb2
      go_wp2_with fail
      refine (HGQ.out _).mono ?_
      rintro e w0 ⟨rfl, hb2⟩
      replace hb1 := bb hb1 hb2
      clear hb2
      go_wp2_with fail
      refine (HPN.out _).mono ?_
      rintro e w4 ⟨rfl, hb2⟩
      replace hb1 := bb hb1 hb2
      clear hb2
      go_wp2_with fail
      refine (HGN.out _).mono ?_
      rintro e w5 ⟨rfl, hb2⟩
      replace hb1 := bb hb1 hb2
      clear hb2
      go_wp2_with fail
      refine (HG.out _).mono ?_
      rintro e w6 ⟨rfl, hb2⟩
      replace hb1 := bb hb1 hb2
      clear hb2
      go_wp2_with fail
      refine (HRP.out _).mono ?_
      rintro e w7 ⟨rfl, hb2⟩
      replace hb1 := bb hb1 hb2
      clear hb2
      go_wp2_with fail
      refine (HS1.out _).mono ?_
      rintro e w8 ⟨rfl, hb2⟩
      replace hb1 := bb hb1 hb2
      clear hb2
      go_wp2_with fail
      refine (HG.out _).mono ?_
      rintro e w9 ⟨rfl, hb2⟩
      replace hb1 := bb hb1 hb2
      clear hb2
      go_wp2_with fail
      refine (HSA.out _ hb1).mono ?_
      rintro e w10 ⟨rfl, hb2⟩
      replace hb1 := bb hb1 hb2
      clear hb2
      go_wp2_with fail
      refine (HRF.out _).mono ?_
      rintro e w11 ⟨rfl, hb2⟩
      replace hb1 := bb hb1 hb2
      clear hb2
      go_wp2_with fail
      refine (HPN.out _).mono ?_
      rintro e w12 ⟨rfl, hb2⟩
      replace hb1 := bb hb1 hb2
      clear hb2
      go_wp2_with fail
      refine (HRN.out _).mono ?_
      rintro e w13 ⟨rfl, hb2⟩
      replace hb1 := bb hb1 hb2
      clear hb2
      go_wp2_with fail
      refine (HPK.out _).mono ?_
      rintro e w14 ⟨rfl, hb2⟩
      replace hb1 := bb hb1 hb2
      clear hb2
      go_wp2_with fail
      refine (HCK.out _).mono ?_
      rintro e w15 ⟨rfl, hb2⟩
      replace hb1 := bb hb1 hb2
      clear hb2
      go_wp2_with fail
      refine (HCW.out _).mono ?_
      rintro e w16 ⟨rfl, hb2⟩
      replace hb1 := bb hb1 hb2
      clear hb2
      go_wp2_with fail
      refine (HS1.out _).mono ?_
      rintro e w17 ⟨rfl, hb2⟩
      replace hb1 := bb hb1 hb2
      clear hb2
      go_wp2_with fail
      refine (HMO.out _).mono ?_
      rintro e w18 ⟨rfl, hb2⟩
      replace hb1 := bb hb1 hb2
      clear hb2
      go_wp2_with fail
      refine (HRA.out _).mono ?_
      rintro e w19 ⟨rfl, hb2⟩
      replace hb1 := bb hb1 hb2
      clear hb2
      go_wp2
      go_ret
      exact ⟨rfl, hb1⟩
    · rw [decide_eq_false hE] at hCK
      have HCK := Lib.hid hCK
      have hne := str_else hE
      clear hCK
      generalize csum s.data.toList = c at *
      generalize csum F.data.toList = cF at *
      generalize csum (s.data.toList ++ F.data.toList) = cA at *
      generalize cget q.data.toList = k at *
      clear hWl hWe hsF hW4
      go_enter Try.func11, Try.ntmps11
      go_wp2_with fail
      refine (awake04 _).mono ?_
      rintro e w1 ⟨rfl, hb2⟩
      replace hb1 := bb hb1 hb2
      clear hb2
      go_wp2_with fail
      refine (HJ.out _ hb1).mono ?_
      rintro e w2 ⟨rfl, hb2⟩
      replace hb1 := bb hb1 hb2
      clear hb2
      go_wp2_with fail
      refine (HGQ.out _).mono ?_
      rintro e w0 ⟨rfl, hb2⟩
      replace hb1 := bb hb1 hb2
      clear hb2
      go_wp2_with fail
      refine (HPN.out _).mono ?_
      rintro e w4 ⟨rfl, hb2⟩
      replace hb1 := bb hb1 hb2
      clear hb2
      go_wp2_with fail
      refine (HGN.out _).mono ?_
      rintro e w5 ⟨rfl, hb2⟩
      replace hb1 := bb hb1 hb2
      clear hb2
      go_wp2_with fail
      refine (HG.out _).mono ?_
      rintro e w6 ⟨rfl, hb2⟩
      replace hb1 := bb hb1 hb2
      clear hb2
      go_wp2_with fail
      refine (HRP.out _).mono ?_
      rintro e w7 ⟨rfl, hb2⟩
      replace hb1 := bb hb1 hb2
      clear hb2
      go_wp2_with fail
      refine (HS1.out _).mono ?_
      rintro e w8 ⟨rfl, hb2⟩
      replace hb1 := bb hb1 hb2
      clear hb2
      go_wp2_with fail
      refine (HG.out _).mono ?_
      rintro e w9 ⟨rfl, hb2⟩
      replace hb1 := bb hb1 hb2
      clear hb2
      go_wp2_with fail
      refine (HSA.out _ hb1).mono ?_
      rintro e w10 ⟨rfl, hb2⟩
      replace hb1 := bb hb1 hb2
      clear hb2
      go_wp2_with fail
      refine (HRF.out _).mono ?_
      rintro e w11 ⟨rfl, hb2⟩
      replace hb1 := bb hb1 hb2
      clear hb2
      go_wp2_with fail
      refine (HPN.out _).mono ?_
      rintro e w12 ⟨rfl, hb2⟩
      replace hb1 := bb hb1 hb2
      clear hb2
      go_wp2_with fail
      refine (HRN.out _).mono ?_
      rintro e w13 ⟨rfl, hb2⟩
      replace hb1 := bb hb1 hb2
      clear hb2
      go_wp2_with fail
      refine (HPK.out _).mono ?_
      rintro e w14 ⟨rfl, hb2⟩
      replace hb1 := bb hb1 hb2
      clear hb2
      go_wp2_with fail
      refine (HCK.out _).mono ?_
      rintro e w15 ⟨rfl, hb2⟩
      replace hb1 := bb hb1 hb2
      clear hb2
      go_wp2_with fail
      refine (HCW.out _).mono ?_
      rintro e w16 ⟨rfl, hb2⟩
      replace hb1 := bb hb1 hb2
      clear hb2
      go_wp2_with fail
      refine (HS1.out _).mono ?_
      rintro e w17 ⟨rfl, hb2⟩
      replace hb1 := bb hb1 hb2
      clear hb2
      go_wp2_with fail
      refine (HMO.out _).mono ?_
      rintro e w18 ⟨rfl, hb2⟩
      replace hb1 := bb hb1 hb2
      clear hb2
      go_wp2_with fail
      refine (HRA.out _).mono ?_
      rintro e w19 ⟨rfl, hb2⟩
      replace hb1 := bb hb1 hb2
      clear hb2
      go_wp2
      go_ret
      exact ⟨rfl, hb1⟩
  · have HGQ : Hid (∀ x : World, Calls Try.prog 53 #[.string q] x fun e w' => e = .returned (.tuple #[.int .u32 0, .bool false]) ∧ Below x.heap.size x w') := fun x => cget_no q x hq4
    have HCK : Hid (∀ x : World, Calls Try.prog 48 #[.string s, .string q] x fun e w' => e = .returned (.bool false) ∧ Below x.heap.size x w') := fun x => check_no s q x hq4
    have hne := str_else (a := q) (b := W) (fun e => hq4 (by rw [e]; exact hW4))
    have hn4 : ((q.size : Int) == 4) = false := by rw [beq_eq_false_iff_ne]; omega
    generalize csum s.data.toList = c at *
    generalize csum F.data.toList = cF at *
    generalize csum (s.data.toList ++ F.data.toList) = cA at *
    clear hWl hWe hsF hW4
    go_enter Try.func11, Try.ntmps11
    go_wp2_with fail
    refine (awake04 _).mono ?_
    rintro e w1 ⟨rfl, hb2⟩
    replace hb1 := bb hb1 hb2
    clear hb2
    go_wp2_with fail
    refine (HJ.out _ hb1).mono ?_
    rintro e w2 ⟨rfl, hb2⟩
    replace hb1 := bb hb1 hb2
    clear hb2
    go_wp2_with fail
    refine (HGQ.out _).mono ?_
    rintro e w0 ⟨rfl, hb2⟩
    replace hb1 := bb hb1 hb2
    clear hb2
    go_wp2_with fail
    refine (HPN.out _).mono ?_
    rintro e w4 ⟨rfl, hb2⟩
    replace hb1 := bb hb1 hb2
    clear hb2
    go_wp2_with fail
    refine (HGN.out _).mono ?_
    rintro e w5 ⟨rfl, hb2⟩
    replace hb1 := bb hb1 hb2
    clear hb2
    go_wp2_with fail
    refine (HG.out _).mono ?_
    rintro e w6 ⟨rfl, hb2⟩
    replace hb1 := bb hb1 hb2
    clear hb2
    go_wp2_with fail
    refine (HRP.out _).mono ?_
    rintro e w7 ⟨rfl, hb2⟩
    replace hb1 := bb hb1 hb2
    clear hb2
    go_wp2_with fail
    refine (HS1.out _).mono ?_
    rintro e w8 ⟨rfl, hb2⟩
    replace hb1 := bb hb1 hb2
    clear hb2
    go_wp2_with fail
    refine (HG.out _).mono ?_
    rintro e w9 ⟨rfl, hb2⟩
    replace hb1 := bb hb1 hb2
    clear hb2
    go_wp2_with fail
    refine (HSA.out _ hb1).mono ?_
    rintro e w10 ⟨rfl, hb2⟩
    replace hb1 := bb hb1 hb2
    clear hb2
    go_wp2_with fail
    refine (HRF.out _).mono ?_
    rintro e w11 ⟨rfl, hb2⟩
    replace hb1 := bb hb1 hb2
    clear hb2
    go_wp2_with fail
    refine (HPN.out _).mono ?_
    rintro e w12 ⟨rfl, hb2⟩
    replace hb1 := bb hb1 hb2
    clear hb2
    go_wp2_with fail
    refine (HRN.out _).mono ?_
    rintro e w13 ⟨rfl, hb2⟩
    replace hb1 := bb hb1 hb2
    clear hb2
    go_wp2_with fail
    refine (HCK.out _).mono ?_
    rintro e w15 ⟨rfl, hb2⟩
    replace hb1 := bb hb1 hb2
    clear hb2
    go_wp2_with fail
    refine (HCW.out _).mono ?_
    rintro e w16 ⟨rfl, hb2⟩
    replace hb1 := bb hb1 hb2
    clear hb2
    go_wp2_with fail
    refine (HS1.out _).mono ?_
    rintro e w17 ⟨rfl, hb2⟩
    replace hb1 := bb hb1 hb2
    clear hb2
    go_wp2_with fail
    refine (HMO.out _).mono ?_
    rintro e w18 ⟨rfl, hb2⟩
    replace hb1 := bb hb1 hb2
    clear hb2
    go_wp2_with fail
    refine (HRA.out _).mono ?_
    rintro e w19 ⟨rfl, hb2⟩
    replace hb1 := bb hb1 hb2
    clear hb2
    go_wp2
    go_ret
    exact ⟨rfl, hb1⟩
end Go.Proofs.Ytlkdoahdcepncaa
