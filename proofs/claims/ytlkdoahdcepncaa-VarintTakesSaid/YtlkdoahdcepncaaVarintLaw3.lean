/-
  The walk of the statement VarintTakes (layer 2): it answers true. Conditions: numbers within uint64, texts within int.
-/
import Derived.Test.YtlkdoahdcepncaaVarintLaw2
namespace Go.Proofs.Ytlkdoahdcepncaa
open Go.RowKit Go.PM
set_option maxRecDepth 100000

/-- Numbers, one written behind the other. -/
def vputs (l : List Nat) : List UInt8 := (l.map vput).flatten
theorem vputs_snoc (l : List Nat) (n : Nat) : vputs (l ++ [n]) = vputs l ++ vput n := by simp [vputs]
theorem vputs_cons (l : List Nat) (n : Nat) : vputs (n :: l) = vput n ++ vputs l := by simp [vputs]
theorem vputs_length (l : List Nat) (h : ∀ n ∈ l, In64 n) : (vputs l).length ≤ 10 * l.length := by
  induction l with
  | nil => simp [vputs]
  | cons n l ih =>
    rw [vputs_cons, List.length_append, vput_length]
    have h1 := vsz_le10 (h n (by simp)).out
    have := ih (fun m hm => h m (by simp [hm]))
    simp; omega

theorem takes_walk (A : Option Addr) (cap : Nat) (l : List Nat) (s : ByteArray) (w : World) (hr : Rd w A (u64s l)) (hl : ∀ n ∈ l, In64 n) (hs : s.size ≤ 9223372036854775807) (hll : l.length ≤ 9223372036854775807) :
    Calls Try.prog 6 #[.slice A l.length cap, .string s] w fun e w' => e = .returned (.bool true) ∧ Below w.heap.size w w' := by
  by_cases hlen : 2000 < s.size
  · go_enter Try.func6, Try.ntmps6
    go_wp2_with (go_at_call 26; refine (awake02 _).mono ?_; rintro e w1 ⟨rfl, hb1⟩)
    go_ret
    exact ⟨rfl, hb1⟩
  by_cases hlen2 : 60 < l.length
  · go_enter Try.func6, Try.ntmps6
    go_wp2_with (go_at_call 26; refine (awake02 _).mono ?_; rintro e w1 ⟨rfl, hb1⟩)
    go_ret
    exact ⟨rfl, hb1⟩
  have HL := Lib.hid hl
  have HR := Lib.hid hr
  clear hl hr
  go_enter Try.func6, Try.ntmps6
  go_wp2_with (go_at_call 26; refine (awake02 _).mono ?_; rintro e w1 ⟨rfl, hb1⟩)
  go_loopw [5, 32] (fun tt k wr => ∃ (i : Nat) (t : ByteArray), i ≤ l.length ∧ k = .int .i64 (i : Int) ∧ tt = .string t ∧ t.data.toList = vputs (l.take i) ∧ Below w.heap.size w wr) (fun _ k _ => l.length - (intOf k).toNat)
  case atStart => exact ⟨0, ⟨#[]⟩, by omega, rfl, rfl, rfl, hb1⟩
  case round =>
    obtain ⟨i, t, hi, rfl, rfl, ht, hbel⟩ := hrel
    have HT := Lib.hid ht
    have HB := Lib.hid hbel
    have hts : t.size ≤ 600 := by
      have := vputs_length (l.take i) (fun n hn => HL.out n (List.mem_of_mem_take hn))
      rw [← ht, len_list, List.length_take] at this
      omega
    clear ht hbel
    by_cases hlt : i < l.length
    · obtain ⟨d, o, rfl, _, e1⟩ := (HR.out.below HB.out).at_ (k := i) (by rw [u64s_length]; exact hlt)
      rw [u64s_at l i hlt] at e1
      have hts2 : t.size + (vput l[i]).length ≤ 700 := by
        have := vsz_le10 (HL.out _ (List.getElem_mem hlt))
        rw [vput_length]; omega
      have htx : (txt (vput l[i])).size ≤ 10 := by rw [txt_size, vput_length]; exact vsz_le10 (HL.out _ (List.getElem_mem hlt))
      go_wp2_with (go_at_call 27; refine (put_any l[i] _ (HL.out _ (List.getElem_mem hlt))).mono ?_; rintro e w2 ⟨rfl, hb2⟩; rw [show ByteArray.mk (vput l[i]).toArray = txt (vput l[i]) from rfl])
      go_roundw
      case rel =>
        refine ⟨i + 1, _, by omega, by go_num, rfl, ?_, bb HB.out hb2⟩
        rw [ByteArray.data_append, Array.toList_append, HT.out, List.take_succ_eq_append_getElem hlt, vputs_snoc]
        rfl
      case measure => simp [intOf]; omega
    · have htl : t.data.toList = vputs l := by rw [HT.out, List.take_of_length_le (by omega)]
      have HTL := Lib.hid htl
      clear htl
      go_wp2_with (go_at_call 18; refine (cur_over _ _).mono ?_; rintro e w2 ⟨rfl, rfl⟩)
      have hc0 : Cur (wr.alloc (.cells #[.string (t ++ s), .int .i64 0] 115)) wr.heap.size (t ++ s) 0 := ⟨BlkAt.made _ _ _, by omega, by simp; omega⟩
      have hb0 := ba HB.out (.cells #[.string (t ++ s), .int .i64 0] 115)
      have hg0 := HB.out.size
      generalize wr.alloc (.cells #[.string (t ++ s), .int .i64 0] 115) = wc at hc0 hb0 ⊢
      generalize wr.heap.size = g at hc0 hg0 ⊢
      have HC0 := Lib.hid hc0
      have HB0 := Lib.hid hb0
      clear hc0 hb0
      go_loopw [47] (fun k wx => ∃ j : Nat, j ≤ l.length ∧ k = .int .i64 (j : Int) ∧ Cur wx g (t ++ s) (vputs (l.take j)).length ∧ Below w.heap.size w wx) (fun k _ => l.length - (intOf k).toNat)
      case atStart => exact ⟨0, by omega, rfl, HC0.out, HB0.out⟩
      case round =>
        obtain ⟨j, hj, rfl, hcj, hbj⟩ := hrel
        have HCJ := Lib.hid hcj
        have HBJ := Lib.hid hbj
        clear hcj hbj
        by_cases hjl : j < l.length
        · obtain ⟨d, o, rfl, _, e1⟩ := (HR.out.below HBJ.out).at_ (k := j) (by rw [u64s_length]; exact hjl)
          rw [u64s_at l j hjl] at e1
          have hvg : vget ((t ++ s).data.toList.drop (vputs (l.take j)).length) = (l[j], vsz l[j], 0) := by
            rw [ByteArray.data_append, Array.toList_append, HTL.out]
            have e : vputs l = vputs (l.take j) ++ (vput l[j] ++ vputs (l.drop (j + 1))) := by
              rw [← vputs_cons, ← List.drop_eq_getElem_cons hjl]
              unfold vputs
              rw [← List.flatten_append, ← List.map_append, List.take_append_drop]
            rw [e, List.append_assoc, List.drop_left, List.append_assoc]
            exact vget_put _ (HL.out _ (List.getElem_mem hjl)).out _
          have HVG := Lib.hid hvg
          clear hvg
          go_wp2_with fail
          refine (next_any g (t ++ s) _ _ HCJ.out).mono ?_
          rintro e w3 ⟨rfl, hc3, hg3⟩
          rw [HVG.out] at hc3
          rw [HVG.out]
          simp only at hc3
          have HC3 := Lib.hid hc3
          clear hc3
          go_wp2_with fail
          go_roundw
          case rel =>
            refine ⟨j + 1, by omega, by go_num, ?_, bg HBJ.out hg3 hg0⟩
            have e : (vputs (l.take (j + 1))).length = (vputs (l.take j)).length + vsz l[j] := by
              rw [List.take_succ_eq_append_getElem hjl, vputs_snoc, List.length_append, vput_length]
            rw [e]
            exact HC3.out
          case measure => simp [intOf]; omega
        · have hvl : (vputs (l.take j)).length = t.size := by
            rw [List.take_of_length_le (by omega), ← HTL.out, len_list]
          have hce := HCJ.out
          rw [hvl] at hce
          have HCE := Lib.hid hce
          have hd : (t ++ s).data.toList.drop t.size = s.data.toList := by
            rw [ByteArray.data_append, Array.toList_append, ← len_list t, List.drop_left]
          generalize hV : vget s.data.toList = V
          obtain ⟨x, m, q⟩ := V
          have HV := Lib.hid hV
          have HD := Lib.hid hd
          have hm : m ≤ s.size := by
            rcases vget_cases s.data.toList with ⟨e, he, _⟩ | ⟨n', k', hg', _, _, _, hk', _⟩
            · rw [hV] at he; simp at he; omega
            · rw [hV] at hg'; simp at hg'; rw [len_list] at hk'; omega
          have hrest : (t ++ s).extract (t.size + m) (t ++ s).size = s.extract m s.size := by
            apply ByteArray.ext
            apply Array.toList_inj.1
            rw [ext_rest, ext_rest, ← List.drop_drop, hd]
          have HREST := Lib.hid hrest
          clear hvl hce hd hV hrest
          go_wp2_with fail
          refine (next_any g (t ++ s) _ _ HCE.out).mono ?_
          rintro e w3 ⟨rfl, hc3, hg3⟩
          rw [HD.out, HV.out] at hc3
          rw [HD.out, HV.out]
          simp only at hc3
          have HC3 := Lib.hid hc3
          clear hc3
          go_wp2_with fail
          refine (get_any _ _ hs).mono ?_
          rintro e w4 ⟨rfl, hb4⟩
          rw [HV.out]
          go_wp2_with fail
          refine (next_nil _).mono ?_
          rintro e w5 ⟨rfl, hb5⟩
          have hc5 : Cur w5 g (t ++ s) (t.size + m) := ⟨(HC3.out.1.below hb4 HC3.out.1.lt).below hb5 (by have := hb4.size; have := HC3.out.1.lt; omega), HC3.out.2⟩
          have HC5 := Lib.hid hc5
          clear hc5
          have R5 : ∀ wx, Below w5.heap.size w5 wx → Calls Try.prog 23 #[.pointer (some ⟨g, 0, none⟩)] wx fun e w' => e = .returned (.string (s.extract m s.size)) ∧ Below wx.heap.size wx w' := fun wx hx => by
            have := cur_rest g (t ++ s) (t.size + m) wx ⟨HC5.out.1.below hx HC5.out.1.lt, HC5.out.2⟩
            rwa [HREST.out] at this
          have HR5 := Lib.hid R5
          clear R5
          go_wp2_with fail
          refine wp_region_below_lit (by kernel_rfl) (by kernel_rfl) ?_
          repeat (first | go_big_quiet_skip | (go_big_quiet_want; go_big_quiet_op; first | go_big_quiet_on | (apply Exists.intro; refine ⟨fun nq => ?_, ?_⟩; (go_at_call 23; exact below_of (HR5.out _ nq.bel)); go_big_quiet_on)))
          refine wpQuiet_nil ?_
          intro wq hnq
          obtain ⟨nq, rfl⟩ := hnq
          have hq := nq.bel
          generalize nq.wld = wq at hq ⊢
          clear nq
          go_wp2
          go_ret
          exact ⟨rfl, bb (bb (bb (bg HBJ.out hg3 hg0) hb4) hb5) hq⟩
end Go.Proofs.Ytlkdoahdcepncaa
