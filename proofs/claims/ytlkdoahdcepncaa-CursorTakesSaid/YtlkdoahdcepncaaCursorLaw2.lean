/-
  The walk of the statement CursorTakes (layer 1): it answers true. Conditions: the text and the acts as they come in.
-/
import Derived.Test.YtlkdoahdcepncaaCursorLaw
import Derived.Test.YtlkdoahdcepncaaSl
import Derived.Test.YtlkdoahdcepncaaReg
import Derived.Test.YtlkdoahdcepncaaVarint
namespace Go.Proofs.Ytlkdoahdcepncaa
open Go.RowKit Go.PM
set_option maxRecDepth 100000
set_option maxHeartbeats 4000000

theorem rtake_no (r : ByteArray) (k n : Nat) (w : World) (h : r.size < n) (hn : In64 n) (hr : r.size ≤ 9223372036854775807) :
    Calls Try.prog 19 #[.agg #[.string r, .int .i64 (k : Int)], .int .u64 (n : Int)] w fun e w' =>
      e = .returned (.tuple #[.agg #[.string r, .int .i64 (k : Int)], .string ByteArray.empty, .bool false]) ∧ Below w.heap.size w w' := by
  have HN := Lib.hid hn
  clear hn
  go_enter Try.func19, Try.ntmps19
  go_wp2
  exact bodyPost_ret (v := .tuple #[.agg #[.string r, .int .i64 (k : Int)], .string ByteArray.empty, .bool false]) (by simp [results, Try.results19, go_sem]; rfl) rfl ⟨rfl, ba (ba b0 _) _⟩

theorem rtake_yes (r : ByteArray) (k n : Nat) (w : World) (h : n ≤ r.size) (hr : (k : Int) + r.size ≤ 9223372036854775807) :
    Calls Try.prog 19 #[.agg #[.string r, .int .i64 (k : Int)], .int .u64 (n : Int)] w fun e w' =>
      e = .returned (.tuple #[.agg #[.string (r.extract n r.size), .int .i64 ((k : Int) + n)], .string (r.extract 0 n), .bool true]) ∧ Below w.heap.size w w' := by
  go_enter Try.func19, Try.ntmps19
  go_wp2
  go_region
  go_wp2
  exact bodyPost_ret (v := .tuple #[.agg #[.string (r.extract n r.size), .int .i64 ((k : Int) + n)], .string (r.extract 0 n), .bool true]) (by simp [results, Try.results19, go_sem]) rfl ⟨rfl, bd (ba (ba b0 _) _)⟩

/-- An act's two cells. -/
def Acts (w : World) (A : Option Addr) (l : List (Nat × Nat)) : Prop :=
  l = [] ∨ ∃ b off, A = some ⟨b, off, none⟩ ∧ b < w.heap.size ∧ ∀ j x, l[j]? = some x → w.cell? ⟨b, off + j * 2, none⟩ = some (.int .u8 (x.1 : Int)) ∧ w.cell? ⟨b, off + j * 2 + 1, none⟩ = some (.int .u64 (x.2 : Int))
theorem Acts.at_ {w w' : World} {A : Option Addr} {l : List (Nat × Nat)} (h : Acts w A l) (hb : Below w.heap.size w w') {k : Nat} (hk : k < l.length) :
    ∃ b off, A = some ⟨b, off, none⟩ ∧ b < w.heap.size ∧ w'.cell? ⟨b, off + k * 2, none⟩ = some (.int .u8 (l[k].1 : Int)) ∧ w'.cell? ⟨b, off + k * 2 + 1, none⟩ = some (.int .u64 (l[k].2 : Int)) := by
  rcases h with rfl | ⟨b, off, e, hl, hc⟩
  · simp at hk
  · obtain ⟨h1, h2⟩ := hc k _ (List.getElem?_eq_getElem hk)
    exact ⟨b, off, e, hl, (hb.cell (p := ⟨b, _, none⟩) hl).trans h1, (hb.cell (p := ⟨b, _, none⟩) hl).trans h2⟩

theorem ext_ext (s : ByteArray) (j n : Nat) : (s.extract j s.size).extract n (s.extract j s.size).size = s.extract (j + n) s.size := by
  apply ByteArray.ext
  apply Array.toList_inj.1
  rw [ext_rest, ext_rest, ext_rest, List.drop_drop]
theorem ext_join (s : ByteArray) (j n : Nat) : s.extract 0 j ++ (s.extract j s.size).extract 0 n = s.extract 0 (j + n) := by
  apply ByteArray.ext
  apply Array.toList_inj.1
  rw [ByteArray.data_append, Array.toList_append, ext_list s 0 j, ext_list _ 0 n, ext_rest, ext_list s 0]
  simp only [List.drop_zero, Nat.sub_zero]
  rw [List.take_add]
theorem ext_mid (s : ByteArray) (j n : Nat) : (s.extract j s.size).extract 0 n = s.extract j (j + n) := by
  apply ByteArray.ext
  apply Array.toList_inj.1
  rw [ext_list _ 0 n, ext_rest, ext_list s j]
  simp

theorem ext_nil (s : ByteArray) (j : Nat) : s.extract 0 j ++ ByteArray.empty = s.extract 0 j := by
  apply ByteArray.ext
  apply Array.toList_inj.1
  rw [ByteArray.data_append, Array.toList_append]
  simp


theorem ctakes_walk (s : ByteArray) (A : Option Addr) (cap : Nat) (l : List (Nat × Nat)) (w : World) (hr : Acts w A l) (hl : ∀ x ∈ l, x.1 < 256 ∧ In64 x.2) (hs : s.size ≤ 9223372036854775807) (hll : l.length ≤ 9223372036854775807) :
    Calls Try.prog 3 #[.string s, .slice A l.length cap] w fun e w' => e = .returned (.bool true) ∧ Below w.heap.size w w' := by
  by_cases hlen : 2000 < s.size
  · go_enter Try.func3, Try.ntmps3
    go_wp2_with (go_at_call 17; refine (awake01 _).mono ?_; rintro e w1 ⟨rfl, hb1⟩)
    go_ret
    exact ⟨rfl, hb1⟩
  by_cases hlen2 : 60 < l.length
  · go_enter Try.func3, Try.ntmps3
    go_wp2_with (go_at_call 17; refine (awake01 _).mono ?_; rintro e w1 ⟨rfl, hb1⟩)
    go_ret
    exact ⟨rfl, hb1⟩
  have HL := Lib.hid hl
  have HR := Lib.hid hr
  clear hl hr
  go_enter Try.func3, Try.ntmps3
  go_wp2_with (first
    | (go_at_call 17; refine (awake01 _).mono ?_; rintro e w1 ⟨rfl, hb1⟩)
    | (go_at_call 18; refine (cur_over _ _).mono ?_; rintro e w2 ⟨rfl, rfl⟩))
  have hc0 : Cur ((w1.alloc (.cells #[.string s, .int .i64 0] 115)).alloc (.cells #[.string s, .int .i64 0] 27)) w1.heap.size s 0 := ⟨(BlkAt.made _ _ _).more _, by omega, hs⟩
  have hd0 : BlkAt ((w1.alloc (.cells #[.string s, .int .i64 0] 115)).alloc (.cells #[.string s, .int .i64 0] 27)) (w1.heap.size + 1) 27 #[.string s, .int .i64 0] := by
    have := BlkAt.made (w1.alloc (.cells #[.string s, .int .i64 0] 115)) 27 #[.string s, .int .i64 0]
    simpa using this
  have hb0 := ba (ba hb1 (.cells #[.string s, .int .i64 0] 115)) (.cells #[.string s, .int .i64 0] 27)
  have hg0 := hb1.size
  generalize (w1.alloc (.cells #[.string s, .int .i64 0] 115)).alloc (.cells #[.string s, .int .i64 0] 27) = wc at hc0 hd0 hb0 ⊢
  generalize w1.heap.size = g at hc0 hd0 hg0 ⊢
  have HC0 := Lib.hid hc0
  have HD0 := Lib.hid hd0
  have HB0 := Lib.hid hb0
  clear hc0 hd0 hb0
  go_loopw [7, 36] (fun tt k wx => ∃ (i j : Nat) (t : ByteArray), i ≤ l.length ∧ k = .int .i64 (i : Int) ∧ tt = .string t ∧ t = s.extract 0 j ∧ Cur wx g s j ∧ BlkAt wx (g + 1) 27 #[.string (s.extract j s.size), .int .i64 (j : Int)] ∧ Below w.heap.size w wx) (fun _ k _ => l.length - (intOf k).toNat)
  case atStart => exact ⟨0, 0, _, by omega, rfl, rfl, by simp; rfl, HC0.out, by simpa using HD0.out, HB0.out⟩
  case round =>
    obtain ⟨i, j, t, hi, rfl, rfl, ht, hcj, hdj, hbj⟩ := hrel
    have HT := Lib.hid ht
    have HCJ := Lib.hid hcj
    have HDJ := Lib.hid hdj
    have HBJ := Lib.hid hbj
    have hj := hcj.2.1
    clear ht hcj hdj hbj
    by_cases hil : i < l.length
    · obtain ⟨d, o, rfl, hdl, e1, e2⟩ := HR.out.at_ HBJ.out hil
      obtain ⟨hdo, hN⟩ := HL.out _ (List.getElem_mem hil)
      generalize l[i].1 = D at e1 hdo
      generalize l[i].2 = N at e2 hN
      have HN := Lib.hid hN
      have hg1 : g + 1 < wr.heap.size := HDJ.out.lt
      have d0 : wr.cell? ⟨g + 1, 0, none⟩ = some (.string (s.extract j s.size)) := HDJ.out.cell 0
      have d1 : wr.cell? ⟨g + 1, 1, none⟩ = some (.int .i64 (j : Int)) := HDJ.out.cell 1
      have d2 := HDJ.out.free 0
      have d3 := HDJ.out.free 1
      clear hN
      by_cases hD : D % 3 = 0
      · have hD3 : ((D : Int) % 3 == 0) = true := by rw [beq_iff_eq]; omega
        clear hD
        by_cases hq : 1 ≤ s.size - j
        · have hjs : j < s.size := by omega
          have hw1 : (s.extract j s.size).extract 0 1 = txt [s[j]] := by
            apply ByteArray.ext
            apply Array.toList_inj.1
            rw [ext_list, ext_rest, drop_at s j hjs, txt_list]
            rfl
          have HW1 := Lib.hid hw1
          obtain ⟨J, hJ⟩ : ∃ J, J = j + 1 := ⟨_, rfl⟩
          have HU : Hid (s.extract 0 j ++ txt [s[j]] = s.extract 0 J) := by rw [hJ, ← hw1]; exact ext_join s j 1
          have HJ := Lib.hid hJ
          clear hw1 hJ
          go_wp2_with fail
          refine (rtake_yes (s.extract j s.size) j 1 _ (by simp; omega) (by simp; omega)).mono ?_
          rintro e w2 ⟨rfl, hb2⟩
          rw [HW1.out, ext_ext, ← HJ.out, show ((j : Int) + ((1 : Nat) : Int)) = (J : Int) by rw [HJ.out]; rfl]
          have hb2' := bb (ba HBJ.out _) hb2
          have hc2 : Cur w2 g s j := ⟨(HCJ.out.1.more _).below hb2 (by simp; omega), HCJ.out.2⟩
          have hd2 := (HDJ.out.more (.cells #[.int .u8 (D : Int), .int .u64 (N : Int)] 30)).below hb2 (by simp; omega)
          have k1 : w2.cell? ⟨wr.heap.size, 0, none⟩ = some (.int .u8 (D : Int)) := ((BlkAt.made wr 30 #[.int .u8 (D : Int), .int .u64 (N : Int)]).below hb2 (by simp)).cell 0
          have k3 : w2.cell? ⟨wr.heap.size, 1, none⟩ = some (.int .u64 (N : Int)) := ((BlkAt.made wr 30 #[.int .u8 (D : Int), .int .u64 (N : Int)]).below hb2 (by simp)).cell 1
          have k2 : wr.heap.size < w2.heap.size := by have := hb2.size; simp at this; omega
          have hgw : g < w2.heap.size := by omega
          have HB2 := Lib.hid hb2'
          have HC2 := Lib.hid hc2
          have HD2 := Lib.hid hd2
          clear hb2 hb2' hc2 hd2
          go_wp2_with fail
          refine (cur_byte_yes g s j _ ⟨HC2.out.1.more _, HC2.out.2⟩ hjs).mono ?_
          rintro e w3 ⟨rfl, hc3, hg3⟩
          rw [← HJ.out] at hc3
          have hnx : BlkAt w3 w2.heap.size 27 #[.string (s.extract J s.size), .int .i64 (J : Int)] := (BlkAt.made w2 _ _).step hg3 (by intro e; injection e with e; omega)
          have hd3 : BlkAt w3 (g + 1) 27 #[.string (s.extract j s.size), .int .i64 (j : Int)] := (HD2.out.more _).step hg3 (by intro e; injection e with e; omega)
          have hb3 := bg (ba HB2.out (.cells #[.string (s.extract J s.size), .int .i64 (J : Int)] 27)) hg3 hg0
          clear hg3
          have n0 := hnx.cell 0
          have n1 := hnx.cell 1
          have m0 := hd3.cell 0
          have m1 := hd3.cell 1
          have m2 := hd3.free 0
          have m3 := hd3.free 1
          have hlt3 : w2.heap.size < w3.heap.size := hnx.lt
          have hlg3 : g + 1 < w3.heap.size := hd3.lt
          simp at n0 n1 m0 m1
          have hts : t.size ≤ 2000 := by rw [HT.out]; simp; omega
          have HB3 := Lib.hid hb3
          have HC3 := Lib.hid hc3
          have HD3 := Lib.hid hd3
          clear hb3 hc3 hd3 hnx
          have hcv := run_row_string (P := Try.prog) (w3.alloc (.cells #[.int .u8 (s[j].toNat : Int)] 5)) 35 9 5 w3.heap.size 1 1 _ [s[j]] Try.underlying35 Try.underlying5 Try.underlying9 (BlkAt.made _ _ _) rfl (by simp [bvals])
          rw [show ByteArray.mk [s[j]].toArray = txt [s[j]] from rfl] at hcv
          have htx : (txt [s[j]]).size ≤ 2000 := by rw [txt_size]; simp
          go_wp2_with fail
          refine wp_world fun W hW => ?_
          have hdW : BlkAt W (g + 1) 27 #[.string (s.extract J s.size), .int .i64 (J : Int)] := by
            have := (HD3.out.put 0 (.string (s.extract J s.size))).put 1 (.int .i64 (J : Int))
            rw [hW]
            first
              | simpa using this.more _
              | simpa using this
          have hcW : Cur W g s J := by
            have := ((HC3.out.1.far (p := ⟨g + 1, 0, none⟩) (by simp) (.string (s.extract J s.size))).far (p := ⟨g + 1, 1, none⟩) (by simp) (.int .i64 (J : Int)))
            rw [hW]
            first
              | exact ⟨by simpa using this.more _, HC3.out.2⟩
              | exact ⟨by simpa using this, HC3.out.2⟩
          have hbW : Below w.heap.size w W := by
            have := bs (bs HB3.out (p := ⟨g + 1, 0, none⟩) (by simp; omega) (.string (s.extract J s.size))) (p := ⟨g + 1, 1, none⟩) (by simp; omega) (.int .i64 (J : Int))
            rw [hW]
            first
              | (simpa using ba this _)
              | (simpa using this)
          have l0 : ∀ n : BelW W, n.wld.cell? ⟨g + 1, 0, none⟩ = some (.string (s.extract J s.size)) := fun n => (hdW.below n.bel hdW.lt).cell 0
          have l1 : ∀ n : BelW W, n.wld.cell? ⟨g + 1, 1, none⟩ = some (.int .i64 (J : Int)) := fun n => (hdW.below n.bel hdW.lt).cell 1
          have HDW := Lib.hid hdW
          have HCW := Lib.hid hcW
          have HBW := Lib.hid hbW
          have hJs : J ≤ s.size := hcW.2.1
          have e9 : (((s.size : Int) - (J : Int)) != ((s.size - J : Nat) : Int)) = false := by rw [bne_eq_false_iff_eq]; omega
          clear hdW hcW hbW hW
          refine wp_region_below_lit (by kernel_rfl) (by kernel_rfl) ?_
          repeat (first | go_big_quiet_skip | (go_big_quiet_want; go_big_quiet_op; first | go_big_quiet_on | (apply Exists.intro; refine ⟨fun nq => ?_, ?_⟩; (first | (go_at_call 23; exact below_of (cur_rest g s J _ ⟨HCW.out.1.below nq.bel HCW.out.1.lt, HCW.out.2⟩)) | (go_at_call 25; exact below_of (cur_left g s J _ ⟨HCW.out.1.below nq.bel HCW.out.1.lt, HCW.out.2⟩)) | (go_at_call 24; exact below_of (cur_at g s J _ ⟨HCW.out.1.below nq.bel HCW.out.1.lt, HCW.out.2⟩))); go_big_quiet_on)))
          refine wpQuiet_nil ?_
          intro wq hnq
          obtain ⟨nq, rfl⟩ := hnq
          have hq := nq.bel
          generalize nq.wld = wq at hq ⊢
          clear nq
          go_wp2
          go_roundw
          case rel => exact ⟨i + 1, J, _, by omega, by go_num, rfl, by first | (rw [HT.out]; exact HU.out) | (rw [HT.out]), ⟨HCW.out.1.below hq HCW.out.1.lt, HCW.out.2⟩, HDW.out.below hq HDW.out.lt, bb HBW.out hq⟩
          case measure => simp [intOf]; omega
        · have hjs : s.size = j := by omega
          have HJS := Lib.hid hjs
          obtain ⟨J, hJ⟩ : ∃ J, J = j := ⟨_, rfl⟩
          have HU : Hid (s.extract 0 j ++ ByteArray.empty = s.extract 0 J) := by rw [hJ]; exact ext_nil s j
          subst hJ
          clear hjs
          go_wp2_with fail
          refine (rtake_no (s.extract J s.size) J 1 _ (by have := HJS.out; simp; omega) (by unfold In64; omega) (by simp; omega)).mono ?_
          rintro e w2 ⟨rfl, hb2⟩
          have hb2' := bb (ba HBJ.out _) hb2
          have hc2 : Cur w2 g s J := ⟨(HCJ.out.1.more _).below hb2 (by simp; omega), HCJ.out.2⟩
          have hd2 := (HDJ.out.more (.cells #[.int .u8 (D : Int), .int .u64 (N : Int)] 30)).below hb2 (by simp; omega)
          have k1 : w2.cell? ⟨wr.heap.size, 0, none⟩ = some (.int .u8 (D : Int)) := ((BlkAt.made wr 30 #[.int .u8 (D : Int), .int .u64 (N : Int)]).below hb2 (by simp)).cell 0
          have k3 : w2.cell? ⟨wr.heap.size, 1, none⟩ = some (.int .u64 (N : Int)) := ((BlkAt.made wr 30 #[.int .u8 (D : Int), .int .u64 (N : Int)]).below hb2 (by simp)).cell 1
          have k2 : wr.heap.size < w2.heap.size := by have := hb2.size; simp at this; omega
          have hgw : g < w2.heap.size := by omega
          have HB2 := Lib.hid hb2'
          have HC2 := Lib.hid hc2
          have HD2 := Lib.hid hd2
          clear hb2 hb2' hc2 hd2
          go_wp2_with fail
          refine (cur_byte_no g s J _ ⟨HC2.out.1.more _, HC2.out.2⟩ HJS.out).mono ?_
          rintro e w3 ⟨rfl, hg3⟩
          have hnx : BlkAt w3 w2.heap.size 27 #[.string (s.extract J s.size), .int .i64 (J : Int)] := (BlkAt.made w2 _ _).below hg3 (by simp)
          have hd3 : BlkAt w3 (g + 1) 27 #[.string (s.extract J s.size), .int .i64 (J : Int)] := (HD2.out.more _).below hg3 (by simp; have := HD2.out.lt; omega)
          have hc3 : Cur w3 g s J := ⟨(HC2.out.1.more _).below hg3 (by simp; omega), HC2.out.2⟩
          have hb3 := bb (ba HB2.out (.cells #[.string (s.extract J s.size), .int .i64 (J : Int)] 27)) hg3
          clear hg3
          have n0 := hnx.cell 0
          have n1 := hnx.cell 1
          have m0 := hd3.cell 0
          have m1 := hd3.cell 1
          have m2 := hd3.free 0
          have m3 := hd3.free 1
          have hlt3 : w2.heap.size < w3.heap.size := hnx.lt
          have hlg3 : g + 1 < w3.heap.size := hd3.lt
          simp at n0 n1 m0 m1
          have hts : t.size ≤ 2000 := by rw [HT.out]; simp; omega
          have HB3 := Lib.hid hb3
          have HC3 := Lib.hid hc3
          have HD3 := Lib.hid hd3
          clear hb3 hc3 hd3 hnx
          go_wp2_with fail
          refine wp_world fun W hW => ?_
          have hdW : BlkAt W (g + 1) 27 #[.string (s.extract J s.size), .int .i64 (J : Int)] := by
            have := (HD3.out.put 0 (.string (s.extract J s.size))).put 1 (.int .i64 (J : Int))
            rw [hW]
            first
              | simpa using this.more _
              | simpa using this
          have hcW : Cur W g s J := by
            have := ((HC3.out.1.far (p := ⟨g + 1, 0, none⟩) (by simp) (.string (s.extract J s.size))).far (p := ⟨g + 1, 1, none⟩) (by simp) (.int .i64 (J : Int)))
            rw [hW]
            first
              | exact ⟨by simpa using this.more _, HC3.out.2⟩
              | exact ⟨by simpa using this, HC3.out.2⟩
          have hbW : Below w.heap.size w W := by
            have := bs (bs HB3.out (p := ⟨g + 1, 0, none⟩) (by simp; omega) (.string (s.extract J s.size))) (p := ⟨g + 1, 1, none⟩) (by simp; omega) (.int .i64 (J : Int))
            rw [hW]
            first
              | (simpa using ba this _)
              | (simpa using this)
          have l0 : ∀ n : BelW W, n.wld.cell? ⟨g + 1, 0, none⟩ = some (.string (s.extract J s.size)) := fun n => (hdW.below n.bel hdW.lt).cell 0
          have l1 : ∀ n : BelW W, n.wld.cell? ⟨g + 1, 1, none⟩ = some (.int .i64 (J : Int)) := fun n => (hdW.below n.bel hdW.lt).cell 1
          have HDW := Lib.hid hdW
          have HCW := Lib.hid hcW
          have HBW := Lib.hid hbW
          have hJs : J ≤ s.size := hcW.2.1
          have e9 : (((s.size : Int) - (J : Int)) != ((s.size - J : Nat) : Int)) = false := by rw [bne_eq_false_iff_eq]; omega
          clear hdW hcW hbW hW
          refine wp_region_below_lit (by kernel_rfl) (by kernel_rfl) ?_
          repeat (first | go_big_quiet_skip | (go_big_quiet_want; go_big_quiet_op; first | go_big_quiet_on | (apply Exists.intro; refine ⟨fun nq => ?_, ?_⟩; (first | (go_at_call 23; exact below_of (cur_rest g s J _ ⟨HCW.out.1.below nq.bel HCW.out.1.lt, HCW.out.2⟩)) | (go_at_call 25; exact below_of (cur_left g s J _ ⟨HCW.out.1.below nq.bel HCW.out.1.lt, HCW.out.2⟩)) | (go_at_call 24; exact below_of (cur_at g s J _ ⟨HCW.out.1.below nq.bel HCW.out.1.lt, HCW.out.2⟩))); go_big_quiet_on)))
          refine wpQuiet_nil ?_
          intro wq hnq
          obtain ⟨nq, rfl⟩ := hnq
          have hq := nq.bel
          generalize nq.wld = wq at hq ⊢
          clear nq
          go_wp2
          go_roundw
          case rel => exact ⟨i + 1, J, _, by omega, by go_num, rfl, by first | (rw [HT.out]; exact HU.out) | (rw [HT.out]), ⟨HCW.out.1.below hq HCW.out.1.lt, HCW.out.2⟩, HDW.out.below hq HDW.out.lt, bb HBW.out hq⟩
          case measure => simp [intOf]; omega
      · have hD3 : ((D : Int) % 3 == 0) = false := by rw [beq_eq_false_iff_ne]; omega
        by_cases hD1 : D % 3 = 1
        · have hD4 : ((D : Int) % 3 == 1) = true := by rw [beq_iff_eq]; omega
          clear hD hD1
          by_cases hq : N ≤ s.size - j
          · obtain ⟨J, hJ⟩ : ∃ J, J = j + N := ⟨_, rfl⟩
            have hw1 : (s.extract j s.size).extract 0 N = s.extract j J := by rw [hJ]; exact ext_mid s j N
            have HW1 := Lib.hid hw1
            have HU : Hid (s.extract 0 j ++ s.extract j J = s.extract 0 J) := by rw [← hw1, hJ]; exact ext_join s j N
            have hjj : j ≤ J := by omega
            have hJs2 : J ≤ s.size := by omega
            have HJ := Lib.hid hJ
            clear hw1 hJ
            go_wp2_with fail
            refine (rtake_yes (s.extract j s.size) j N _ (by simp; omega) (by simp; omega)).mono ?_
            rintro e w2 ⟨rfl, hb2⟩
            rw [HW1.out, ext_ext, ← HJ.out, show ((j : Int) + (N : Int)) = (J : Int) by have := HJ.out; omega]
            have hb2' := bb (ba HBJ.out _) hb2
            have hc2 : Cur w2 g s j := ⟨(HCJ.out.1.more _).below hb2 (by simp; omega), HCJ.out.2⟩
            have hd2 := (HDJ.out.more (.cells #[.int .u8 (D : Int), .int .u64 (N : Int)] 30)).below hb2 (by simp; omega)
            have k1 : w2.cell? ⟨wr.heap.size, 0, none⟩ = some (.int .u8 (D : Int)) := ((BlkAt.made wr 30 #[.int .u8 (D : Int), .int .u64 (N : Int)]).below hb2 (by simp)).cell 0
            have k3 : w2.cell? ⟨wr.heap.size, 1, none⟩ = some (.int .u64 (N : Int)) := ((BlkAt.made wr 30 #[.int .u8 (D : Int), .int .u64 (N : Int)]).below hb2 (by simp)).cell 1
            have k2 : wr.heap.size < w2.heap.size := by have := hb2.size; simp at this; omega
            have hgw : g < w2.heap.size := by omega
            have HB2 := Lib.hid hb2'
            have HC2 := Lib.hid hc2
            have HD2 := Lib.hid hd2
            clear hb2 hb2' hc2 hd2
            have htx : (s.extract j J).size ≤ 2000 := by simp; omega
            go_wp2_with fail
            refine (cur_take_yes g s j (N : Int) _ ⟨HC2.out.1.more _, HC2.out.2⟩ (by omega) (by omega)).mono ?_
            rintro e w3 ⟨rfl, hc3, hg3⟩
            rw [Int.toNat_natCast, ← HJ.out] at hc3
            rw [Int.toNat_natCast, ← HJ.out]
            have hnx : BlkAt w3 w2.heap.size 27 #[.string (s.extract J s.size), .int .i64 (J : Int)] := (BlkAt.made w2 _ _).step hg3 (by intro e; injection e with e; omega)
            have hd3 : BlkAt w3 (g + 1) 27 #[.string (s.extract j s.size), .int .i64 (j : Int)] := (HD2.out.more _).step hg3 (by intro e; injection e with e; omega)
            have hb3 := bg (ba HB2.out (.cells #[.string (s.extract J s.size), .int .i64 (J : Int)] 27)) hg3 hg0
            clear hg3
            have n0 := hnx.cell 0
            have n1 := hnx.cell 1
            have m0 := hd3.cell 0
            have m1 := hd3.cell 1
            have m2 := hd3.free 0
            have m3 := hd3.free 1
            have hlt3 : w2.heap.size < w3.heap.size := hnx.lt
            have hlg3 : g + 1 < w3.heap.size := hd3.lt
            simp at n0 n1 m0 m1
            have hts : t.size ≤ 2000 := by rw [HT.out]; simp; omega
            have HB3 := Lib.hid hb3
            have HC3 := Lib.hid hc3
            have HD3 := Lib.hid hd3
            clear hb3 hc3 hd3 hnx
            go_wp2_with fail
            refine wp_world fun W hW => ?_
            have hdW : BlkAt W (g + 1) 27 #[.string (s.extract J s.size), .int .i64 (J : Int)] := by
              have := (HD3.out.put 0 (.string (s.extract J s.size))).put 1 (.int .i64 (J : Int))
              rw [hW]
              first
                | simpa using this.more _
                | simpa using this
            have hcW : Cur W g s J := by
              have := ((HC3.out.1.far (p := ⟨g + 1, 0, none⟩) (by simp) (.string (s.extract J s.size))).far (p := ⟨g + 1, 1, none⟩) (by simp) (.int .i64 (J : Int)))
              rw [hW]
              first
                | exact ⟨by simpa using this.more _, HC3.out.2⟩
                | exact ⟨by simpa using this, HC3.out.2⟩
            have hbW : Below w.heap.size w W := by
              have := bs (bs HB3.out (p := ⟨g + 1, 0, none⟩) (by simp; omega) (.string (s.extract J s.size))) (p := ⟨g + 1, 1, none⟩) (by simp; omega) (.int .i64 (J : Int))
              rw [hW]
              first
                | (simpa using ba this _)
                | (simpa using this)
            have l0 : ∀ n : BelW W, n.wld.cell? ⟨g + 1, 0, none⟩ = some (.string (s.extract J s.size)) := fun n => (hdW.below n.bel hdW.lt).cell 0
            have l1 : ∀ n : BelW W, n.wld.cell? ⟨g + 1, 1, none⟩ = some (.int .i64 (J : Int)) := fun n => (hdW.below n.bel hdW.lt).cell 1
            have HDW := Lib.hid hdW
            have HCW := Lib.hid hcW
            have HBW := Lib.hid hbW
            have hJs : J ≤ s.size := hcW.2.1
            have e9 : (((s.size : Int) - (J : Int)) != ((s.size - J : Nat) : Int)) = false := by rw [bne_eq_false_iff_eq]; omega
            clear hdW hcW hbW hW
            refine wp_region_below_lit (by kernel_rfl) (by kernel_rfl) ?_
            repeat (first | go_big_quiet_skip | (go_big_quiet_want; go_big_quiet_op; first | go_big_quiet_on | (apply Exists.intro; refine ⟨fun nq => ?_, ?_⟩; (first | (go_at_call 23; exact below_of (cur_rest g s J _ ⟨HCW.out.1.below nq.bel HCW.out.1.lt, HCW.out.2⟩)) | (go_at_call 25; exact below_of (cur_left g s J _ ⟨HCW.out.1.below nq.bel HCW.out.1.lt, HCW.out.2⟩)) | (go_at_call 24; exact below_of (cur_at g s J _ ⟨HCW.out.1.below nq.bel HCW.out.1.lt, HCW.out.2⟩))); go_big_quiet_on)))
            refine wpQuiet_nil ?_
            intro wq hnq
            obtain ⟨nq, rfl⟩ := hnq
            have hq := nq.bel
            generalize nq.wld = wq at hq ⊢
            clear nq
            go_wp2
            go_roundw
            case rel => exact ⟨i + 1, J, _, by omega, by go_num, rfl, by first | (rw [HT.out]; exact HU.out) | (rw [HT.out]), ⟨HCW.out.1.below hq HCW.out.1.lt, HCW.out.2⟩, HDW.out.below hq HDW.out.lt, bb HBW.out hq⟩
            case measure => simp [intOf]; omega
          · obtain ⟨J, hJ⟩ : ∃ J, J = j := ⟨_, rfl⟩
            have HU : Hid (s.extract 0 j ++ ByteArray.empty = s.extract 0 J) := by rw [hJ]; exact ext_nil s j
            subst hJ
            go_wp2_with fail
            refine (rtake_no (s.extract J s.size) J N _ (by simp; omega) HN.out (by simp; omega)).mono ?_
            rintro e w2 ⟨rfl, hb2⟩
            have hb2' := bb (ba HBJ.out _) hb2
            have hc2 : Cur w2 g s J := ⟨(HCJ.out.1.more _).below hb2 (by simp; omega), HCJ.out.2⟩
            have hd2 := (HDJ.out.more (.cells #[.int .u8 (D : Int), .int .u64 (N : Int)] 30)).below hb2 (by simp; omega)
            have k1 : w2.cell? ⟨wr.heap.size, 0, none⟩ = some (.int .u8 (D : Int)) := ((BlkAt.made wr 30 #[.int .u8 (D : Int), .int .u64 (N : Int)]).below hb2 (by simp)).cell 0
            have k3 : w2.cell? ⟨wr.heap.size, 1, none⟩ = some (.int .u64 (N : Int)) := ((BlkAt.made wr 30 #[.int .u8 (D : Int), .int .u64 (N : Int)]).below hb2 (by simp)).cell 1
            have k2 : wr.heap.size < w2.heap.size := by have := hb2.size; simp at this; omega
            have hgw : g < w2.heap.size := by omega
            have HB2 := Lib.hid hb2'
            have HC2 := Lib.hid hc2
            have HD2 := Lib.hid hd2
            clear hb2 hb2' hc2 hd2
            go_wp2_with fail
            refine (cur_take_no g s J (N : Int) _ ⟨HC2.out.1.more _, HC2.out.2⟩ (by omega) (by have := HN.out.out; omega)).mono ?_
            rintro e w3 ⟨rfl, hg3⟩
            have hnx : BlkAt w3 w2.heap.size 27 #[.string (s.extract J s.size), .int .i64 (J : Int)] := (BlkAt.made w2 _ _).below hg3 (by simp)
            have hd3 : BlkAt w3 (g + 1) 27 #[.string (s.extract J s.size), .int .i64 (J : Int)] := (HD2.out.more _).below hg3 (by simp; have := HD2.out.lt; omega)
            have hc3 : Cur w3 g s J := ⟨(HC2.out.1.more _).below hg3 (by simp; omega), HC2.out.2⟩
            have hb3 := bb (ba HB2.out (.cells #[.string (s.extract J s.size), .int .i64 (J : Int)] 27)) hg3
            clear hg3
            have n0 := hnx.cell 0
            have n1 := hnx.cell 1
            have m0 := hd3.cell 0
            have m1 := hd3.cell 1
            have m2 := hd3.free 0
            have m3 := hd3.free 1
            have hlt3 : w2.heap.size < w3.heap.size := hnx.lt
            have hlg3 : g + 1 < w3.heap.size := hd3.lt
            simp at n0 n1 m0 m1
            have hts : t.size ≤ 2000 := by rw [HT.out]; simp; omega
            have HB3 := Lib.hid hb3
            have HC3 := Lib.hid hc3
            have HD3 := Lib.hid hd3
            clear hb3 hc3 hd3 hnx
            go_wp2_with fail
            refine wp_world fun W hW => ?_
            have hdW : BlkAt W (g + 1) 27 #[.string (s.extract J s.size), .int .i64 (J : Int)] := by
              have := (HD3.out.put 0 (.string (s.extract J s.size))).put 1 (.int .i64 (J : Int))
              rw [hW]
              first
                | simpa using this.more _
                | simpa using this
            have hcW : Cur W g s J := by
              have := ((HC3.out.1.far (p := ⟨g + 1, 0, none⟩) (by simp) (.string (s.extract J s.size))).far (p := ⟨g + 1, 1, none⟩) (by simp) (.int .i64 (J : Int)))
              rw [hW]
              first
                | exact ⟨by simpa using this.more _, HC3.out.2⟩
                | exact ⟨by simpa using this, HC3.out.2⟩
            have hbW : Below w.heap.size w W := by
              have := bs (bs HB3.out (p := ⟨g + 1, 0, none⟩) (by simp; omega) (.string (s.extract J s.size))) (p := ⟨g + 1, 1, none⟩) (by simp; omega) (.int .i64 (J : Int))
              rw [hW]
              first
                | (simpa using ba this _)
                | (simpa using this)
            have l0 : ∀ n : BelW W, n.wld.cell? ⟨g + 1, 0, none⟩ = some (.string (s.extract J s.size)) := fun n => (hdW.below n.bel hdW.lt).cell 0
            have l1 : ∀ n : BelW W, n.wld.cell? ⟨g + 1, 1, none⟩ = some (.int .i64 (J : Int)) := fun n => (hdW.below n.bel hdW.lt).cell 1
            have HDW := Lib.hid hdW
            have HCW := Lib.hid hcW
            have HBW := Lib.hid hbW
            have hJs : J ≤ s.size := hcW.2.1
            have e9 : (((s.size : Int) - (J : Int)) != ((s.size - J : Nat) : Int)) = false := by rw [bne_eq_false_iff_eq]; omega
            clear hdW hcW hbW hW
            refine wp_region_below_lit (by kernel_rfl) (by kernel_rfl) ?_
            repeat (first | go_big_quiet_skip | (go_big_quiet_want; go_big_quiet_op; first | go_big_quiet_on | (apply Exists.intro; refine ⟨fun nq => ?_, ?_⟩; (first | (go_at_call 23; exact below_of (cur_rest g s J _ ⟨HCW.out.1.below nq.bel HCW.out.1.lt, HCW.out.2⟩)) | (go_at_call 25; exact below_of (cur_left g s J _ ⟨HCW.out.1.below nq.bel HCW.out.1.lt, HCW.out.2⟩)) | (go_at_call 24; exact below_of (cur_at g s J _ ⟨HCW.out.1.below nq.bel HCW.out.1.lt, HCW.out.2⟩))); go_big_quiet_on)))
            refine wpQuiet_nil ?_
            intro wq hnq
            obtain ⟨nq, rfl⟩ := hnq
            have hq := nq.bel
            generalize nq.wld = wq at hq ⊢
            clear nq
            go_wp2
            go_roundw
            case rel => exact ⟨i + 1, J, _, by omega, by go_num, rfl, by first | (rw [HT.out]; exact HU.out) | (rw [HT.out]), ⟨HCW.out.1.below hq HCW.out.1.lt, HCW.out.2⟩, HDW.out.below hq HDW.out.lt, bb HBW.out hq⟩
            case measure => simp [intOf]; omega
        · have hD4 : ((D : Int) % 3 == 1) = false := by rw [beq_eq_false_iff_ne]; omega
          clear hD hD1
          by_cases hq : N ≤ s.size - j
          · obtain ⟨J, hJ⟩ : ∃ J, J = j + N := ⟨_, rfl⟩
            have hw1 : (s.extract j s.size).extract 0 N = s.extract j J := by rw [hJ]; exact ext_mid s j N
            have HW1 := Lib.hid hw1
            have HU : Hid (s.extract 0 j ++ s.extract j J = s.extract 0 J) := by rw [← hw1, hJ]; exact ext_join s j N
            have hjj : j ≤ J := by omega
            have hJs2 : J ≤ s.size := by omega
            have HJ := Lib.hid hJ
            clear hw1 hJ
            go_wp2_with fail
            refine (rtake_yes (s.extract j s.size) j N _ (by simp; omega) (by simp; omega)).mono ?_
            rintro e w2 ⟨rfl, hb2⟩
            rw [HW1.out, ext_ext, ← HJ.out, show ((j : Int) + (N : Int)) = (J : Int) by have := HJ.out; omega]
            have hb2' := bb (ba HBJ.out _) hb2
            have hc2 : Cur w2 g s j := ⟨(HCJ.out.1.more _).below hb2 (by simp; omega), HCJ.out.2⟩
            have hd2 := (HDJ.out.more (.cells #[.int .u8 (D : Int), .int .u64 (N : Int)] 30)).below hb2 (by simp; omega)
            have k1 : w2.cell? ⟨wr.heap.size, 0, none⟩ = some (.int .u8 (D : Int)) := ((BlkAt.made wr 30 #[.int .u8 (D : Int), .int .u64 (N : Int)]).below hb2 (by simp)).cell 0
            have k3 : w2.cell? ⟨wr.heap.size, 1, none⟩ = some (.int .u64 (N : Int)) := ((BlkAt.made wr 30 #[.int .u8 (D : Int), .int .u64 (N : Int)]).below hb2 (by simp)).cell 1
            have k2 : wr.heap.size < w2.heap.size := by have := hb2.size; simp at this; omega
            have hgw : g < w2.heap.size := by omega
            have HB2 := Lib.hid hb2'
            have HC2 := Lib.hid hc2
            have HD2 := Lib.hid hd2
            clear hb2 hb2' hc2 hd2
            have htx : (s.extract j J).size ≤ 2000 := by simp; omega
            go_wp2_with fail
            refine (cur_sub_yes g s j (N : Int) _ ⟨HC2.out.1.more _, HC2.out.2⟩ (by omega) (by omega)).mono ?_
            rintro e w3 ⟨g2, rfl, hg2, hs3, hc3, hg3⟩
            rw [Int.toNat_natCast, ← HJ.out] at hc3 hs3
            have HS3 := Lib.hid hs3
            have hse : (s.extract j J).extract 0 (s.extract j J).size = s.extract j J := by
              apply ByteArray.ext
              apply Array.toList_inj.1
              rw [ext_rest]; rfl
            have HSE := Lib.hid hse
            have hnx : BlkAt w3 w2.heap.size 27 #[.string (s.extract J s.size), .int .i64 (J : Int)] := (BlkAt.made w2 _ _).step hg3 (by intro e; injection e with e; omega)
            have hd3 : BlkAt w3 (g + 1) 27 #[.string (s.extract j s.size), .int .i64 (j : Int)] := (HD2.out.more _).step hg3 (by intro e; injection e with e; omega)
            have hb3 := bg (ba HB2.out (.cells #[.string (s.extract J s.size), .int .i64 (J : Int)] 27)) hg3 hg0
            clear hg3
            have hlsub : (s.extract j J).size ≤ 2000 := by simp; omega
            clear hse hs3 hg2
            go_wp2_with fail
            refine (cur_rest g2 (s.extract j J) 0 _ HS3.out).mono ?_
            rintro e w4 ⟨rfl, hb4⟩
            rw [HSE.out]
            go_wp2_with fail
            refine (cur_at g2 (s.extract j J) 0 _ ⟨HS3.out.1.below hb4 HS3.out.1.lt, HS3.out.2⟩).mono ?_
            rintro e w5 ⟨rfl, hb5⟩
            replace hb4 := bb hb4 hb5
            go_wp2_with fail
            refine (cur_left g2 (s.extract j J) 0 _ ⟨HS3.out.1.below hb4 HS3.out.1.lt, HS3.out.2⟩).mono ?_
            rintro e w6 ⟨rfl, hb6⟩
            replace hb4 := bb hb4 hb6
            replace hnx := hnx.below hb4 hnx.lt
            replace hd3 := hd3.below hb4 hd3.lt
            replace hb3 := bb hb3 hb4
            replace hc3 : Cur w6 g s J := ⟨hc3.1.below hb4 hc3.1.lt, hc3.2⟩
            clear hb4 hb5 hb6
            have n0 := hnx.cell 0
            have n1 := hnx.cell 1
            have m0 := hd3.cell 0
            have m1 := hd3.cell 1
            have m2 := hd3.free 0
            have m3 := hd3.free 1
            have hlt3 : w2.heap.size < w6.heap.size := hnx.lt
            have hlg3 : g + 1 < w6.heap.size := hd3.lt
            simp at n0 n1 m0 m1
            have hts : t.size ≤ 2000 := by rw [HT.out]; simp; omega
            have HB3 := Lib.hid hb3
            have HC3 := Lib.hid hc3
            have HD3 := Lib.hid hd3
            clear hb3 hc3 hd3 hnx
            go_wp2_with fail
            refine wp_world fun W hW => ?_
            have hdW : BlkAt W (g + 1) 27 #[.string (s.extract J s.size), .int .i64 (J : Int)] := by
              have := (HD3.out.put 0 (.string (s.extract J s.size))).put 1 (.int .i64 (J : Int))
              rw [hW]
              first
                | simpa using this.more _
                | simpa using this
            have hcW : Cur W g s J := by
              have := ((HC3.out.1.far (p := ⟨g + 1, 0, none⟩) (by simp) (.string (s.extract J s.size))).far (p := ⟨g + 1, 1, none⟩) (by simp) (.int .i64 (J : Int)))
              rw [hW]
              first
                | exact ⟨by simpa using this.more _, HC3.out.2⟩
                | exact ⟨by simpa using this, HC3.out.2⟩
            have hbW : Below w.heap.size w W := by
              have := bs (bs HB3.out (p := ⟨g + 1, 0, none⟩) (by simp; omega) (.string (s.extract J s.size))) (p := ⟨g + 1, 1, none⟩) (by simp; omega) (.int .i64 (J : Int))
              rw [hW]
              first
                | (simpa using ba this _)
                | (simpa using this)
            have l0 : ∀ n : BelW W, n.wld.cell? ⟨g + 1, 0, none⟩ = some (.string (s.extract J s.size)) := fun n => (hdW.below n.bel hdW.lt).cell 0
            have l1 : ∀ n : BelW W, n.wld.cell? ⟨g + 1, 1, none⟩ = some (.int .i64 (J : Int)) := fun n => (hdW.below n.bel hdW.lt).cell 1
            have HDW := Lib.hid hdW
            have HCW := Lib.hid hcW
            have HBW := Lib.hid hbW
            have hJs : J ≤ s.size := hcW.2.1
            have e9 : (((s.size : Int) - (J : Int)) != ((s.size - J : Nat) : Int)) = false := by rw [bne_eq_false_iff_eq]; omega
            clear hdW hcW hbW hW
            refine wp_region_below_lit (by kernel_rfl) (by kernel_rfl) ?_
            repeat (first | go_big_quiet_skip | (go_big_quiet_want; go_big_quiet_op; first | go_big_quiet_on | (apply Exists.intro; refine ⟨fun nq => ?_, ?_⟩; (first | (go_at_call 23; exact below_of (cur_rest g s J _ ⟨HCW.out.1.below nq.bel HCW.out.1.lt, HCW.out.2⟩)) | (go_at_call 25; exact below_of (cur_left g s J _ ⟨HCW.out.1.below nq.bel HCW.out.1.lt, HCW.out.2⟩)) | (go_at_call 24; exact below_of (cur_at g s J _ ⟨HCW.out.1.below nq.bel HCW.out.1.lt, HCW.out.2⟩))); go_big_quiet_on)))
            refine wpQuiet_nil ?_
            intro wq hnq
            obtain ⟨nq, rfl⟩ := hnq
            have hq := nq.bel
            generalize nq.wld = wq at hq ⊢
            clear nq
            go_wp2
            go_roundw
            case rel => exact ⟨i + 1, J, _, by omega, by go_num, rfl, by first | (rw [HT.out]; exact HU.out) | (rw [HT.out]), ⟨HCW.out.1.below hq HCW.out.1.lt, HCW.out.2⟩, HDW.out.below hq HDW.out.lt, bb HBW.out hq⟩
            case measure => simp [intOf]; omega
          · obtain ⟨J, hJ⟩ : ∃ J, J = j := ⟨_, rfl⟩
            have HU : Hid (s.extract 0 j ++ ByteArray.empty = s.extract 0 J) := by rw [hJ]; exact ext_nil s j
            subst hJ
            go_wp2_with fail
            refine (rtake_no (s.extract J s.size) J N _ (by simp; omega) HN.out (by simp; omega)).mono ?_
            rintro e w2 ⟨rfl, hb2⟩
            have hb2' := bb (ba HBJ.out _) hb2
            have hc2 : Cur w2 g s J := ⟨(HCJ.out.1.more _).below hb2 (by simp; omega), HCJ.out.2⟩
            have hd2 := (HDJ.out.more (.cells #[.int .u8 (D : Int), .int .u64 (N : Int)] 30)).below hb2 (by simp; omega)
            have k1 : w2.cell? ⟨wr.heap.size, 0, none⟩ = some (.int .u8 (D : Int)) := ((BlkAt.made wr 30 #[.int .u8 (D : Int), .int .u64 (N : Int)]).below hb2 (by simp)).cell 0
            have k3 : w2.cell? ⟨wr.heap.size, 1, none⟩ = some (.int .u64 (N : Int)) := ((BlkAt.made wr 30 #[.int .u8 (D : Int), .int .u64 (N : Int)]).below hb2 (by simp)).cell 1
            have k2 : wr.heap.size < w2.heap.size := by have := hb2.size; simp at this; omega
            have hgw : g < w2.heap.size := by omega
            have HB2 := Lib.hid hb2'
            have HC2 := Lib.hid hc2
            have HD2 := Lib.hid hd2
            clear hb2 hb2' hc2 hd2
            go_wp2_with fail
            refine (cur_sub_no g s J (N : Int) _ ⟨HC2.out.1.more _, HC2.out.2⟩ (by omega) (by have := HN.out.out; omega)).mono ?_
            rintro e w3 ⟨rfl, hg3⟩
            have hnx : BlkAt w3 w2.heap.size 27 #[.string (s.extract J s.size), .int .i64 (J : Int)] := (BlkAt.made w2 _ _).below hg3 (by simp)
            have hd3 : BlkAt w3 (g + 1) 27 #[.string (s.extract J s.size), .int .i64 (J : Int)] := (HD2.out.more _).below hg3 (by simp; have := HD2.out.lt; omega)
            have hc3 : Cur w3 g s J := ⟨(HC2.out.1.more _).below hg3 (by simp; omega), HC2.out.2⟩
            have hb3 := bb (ba HB2.out (.cells #[.string (s.extract J s.size), .int .i64 (J : Int)] 27)) hg3
            clear hg3
            have n0 := hnx.cell 0
            have n1 := hnx.cell 1
            have m0 := hd3.cell 0
            have m1 := hd3.cell 1
            have m2 := hd3.free 0
            have m3 := hd3.free 1
            have hlt3 : w2.heap.size < w3.heap.size := hnx.lt
            have hlg3 : g + 1 < w3.heap.size := hd3.lt
            simp at n0 n1 m0 m1
            have hts : t.size ≤ 2000 := by rw [HT.out]; simp; omega
            have HB3 := Lib.hid hb3
            have HC3 := Lib.hid hc3
            have HD3 := Lib.hid hd3
            clear hb3 hc3 hd3 hnx
            go_wp2_with (first
              | (go_at_call 25; refine (nil_left _).mono ?_; rintro e w' ⟨rfl, rfl⟩)
              | (go_at_call 24; refine (nil_at _).mono ?_; rintro e w' ⟨rfl, rfl⟩)
              | (go_at_call 23; refine (nil_rest _).mono ?_; rintro e w' ⟨rfl, rfl⟩)
              | fail)
            refine wp_world fun W hW => ?_
            have hdW : BlkAt W (g + 1) 27 #[.string (s.extract J s.size), .int .i64 (J : Int)] := by
              have := (HD3.out.put 0 (.string (s.extract J s.size))).put 1 (.int .i64 (J : Int))
              rw [hW]
              first
                | simpa using this.more _
                | simpa using this
            have hcW : Cur W g s J := by
              have := ((HC3.out.1.far (p := ⟨g + 1, 0, none⟩) (by simp) (.string (s.extract J s.size))).far (p := ⟨g + 1, 1, none⟩) (by simp) (.int .i64 (J : Int)))
              rw [hW]
              first
                | exact ⟨by simpa using this.more _, HC3.out.2⟩
                | exact ⟨by simpa using this, HC3.out.2⟩
            have hbW : Below w.heap.size w W := by
              have := bs (bs HB3.out (p := ⟨g + 1, 0, none⟩) (by simp; omega) (.string (s.extract J s.size))) (p := ⟨g + 1, 1, none⟩) (by simp; omega) (.int .i64 (J : Int))
              rw [hW]
              first
                | (simpa using ba this _)
                | (simpa using this)
            have l0 : ∀ n : BelW W, n.wld.cell? ⟨g + 1, 0, none⟩ = some (.string (s.extract J s.size)) := fun n => (hdW.below n.bel hdW.lt).cell 0
            have l1 : ∀ n : BelW W, n.wld.cell? ⟨g + 1, 1, none⟩ = some (.int .i64 (J : Int)) := fun n => (hdW.below n.bel hdW.lt).cell 1
            have HDW := Lib.hid hdW
            have HCW := Lib.hid hcW
            have HBW := Lib.hid hbW
            have hJs : J ≤ s.size := hcW.2.1
            have e9 : (((s.size : Int) - (J : Int)) != ((s.size - J : Nat) : Int)) = false := by rw [bne_eq_false_iff_eq]; omega
            clear hdW hcW hbW hW
            refine wp_region_below_lit (by kernel_rfl) (by kernel_rfl) ?_
            repeat (first | go_big_quiet_skip | (go_big_quiet_want; go_big_quiet_op; first | go_big_quiet_on | (apply Exists.intro; refine ⟨fun nq => ?_, ?_⟩; (first | (go_at_call 23; exact below_of (cur_rest g s J _ ⟨HCW.out.1.below nq.bel HCW.out.1.lt, HCW.out.2⟩)) | (go_at_call 25; exact below_of (cur_left g s J _ ⟨HCW.out.1.below nq.bel HCW.out.1.lt, HCW.out.2⟩)) | (go_at_call 24; exact below_of (cur_at g s J _ ⟨HCW.out.1.below nq.bel HCW.out.1.lt, HCW.out.2⟩))); go_big_quiet_on)))
            refine wpQuiet_nil ?_
            intro wq hnq
            obtain ⟨nq, rfl⟩ := hnq
            have hq := nq.bel
            generalize nq.wld = wq at hq ⊢
            clear nq
            go_wp2
            go_roundw
            case rel => exact ⟨i + 1, J, _, by omega, by go_num, rfl, by first | (rw [HT.out]; exact HU.out) | (rw [HT.out]), ⟨HCW.out.1.below hq HCW.out.1.lt, HCW.out.2⟩, HDW.out.below hq HDW.out.lt, bb HBW.out hq⟩
            case measure => simp [intOf]; omega
    · have hts : t.size ≤ 2000 := by rw [HT.out]; simp; omega
      go_wp2_with fail
      refine (cur_rest g s j _ HCJ.out).mono ?_
      rintro e w4 ⟨rfl, hb4⟩
      have hj2 : t ++ s.extract j s.size = s := by
        rw [HT.out]
        apply ByteArray.ext
        apply Array.toList_inj.1
        rw [ByteArray.data_append, Array.toList_append, ext_list s 0, ext_rest]
        simp
      have hlr : (s.extract j s.size).size ≤ 2000 := by simp; omega
      go_wp2
      go_ret
      exact ⟨rfl, bb HBJ.out hb4⟩

theorem acts_of (w : World) (A : Option Addr) (z : List (Int × Int)) (hz : ∀ x ∈ z, (0 ≤ x.1 ∧ x.1 ≤ 255) ∧ (0 ≤ x.2 ∧ x.2 ≤ 18446744073709551615))
    (h : z = [] ∨ ∃ b off, A = some ⟨b, off, none⟩ ∧ b < w.heap.size ∧ ∀ j x, z[j]? = some x → w.cell? ⟨b, off + j * 2, none⟩ = some (.int .u8 x.1) ∧ w.cell? ⟨b, off + j * 2 + 1, none⟩ = some (.int .u64 x.2)) :
    ∃ l : List (Nat × Nat), l.length = z.length ∧ Acts w A l ∧ ∀ x ∈ l, x.1 < 256 ∧ In64 x.2 := by
  refine ⟨z.map fun x => (x.1.toNat, x.2.toNat), by simp, ?_, ?_⟩
  · rcases h with rfl | ⟨b, off, e, hl, hc⟩
    · exact .inl rfl
    · refine .inr ⟨b, off, e, hl, fun j x hj => ?_⟩
      rw [List.getElem?_map] at hj
      cases hy : z[j]? with
      | none => rw [hy] at hj; simp at hj
      | some y =>
        rw [hy] at hj
        simp at hj
        subst hj
        have hm := hz y (List.mem_of_getElem? hy)
        have := hc j y hy
        simp only [Int.toNat_of_nonneg hm.1.1, Int.toNat_of_nonneg hm.2.1]
        exact this
  · intro x hx
    obtain ⟨y, hy, rfl⟩ := List.mem_map.1 hx
    have := hz y hy
    simp only [In64]
    omega
end Go.Proofs.Ytlkdoahdcepncaa
