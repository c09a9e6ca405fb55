/-
  The walks of layer 3's example and of the statement ZigzagReads: they answer true. Conditions: numbers within int64 and uint64, texts within int.
-/
import Derived.Test.YtlkdoahdcepncaaVarintLaw2
import Derived.Test.YtlkdoahdcepncaaZigzag
namespace Go.Proofs.Ytlkdoahdcepncaa
open Go.RowKit Go.PM
set_option maxRecDepth 100000

theorem awake03 (w : World) : Calls Try.prog 36 #[] w fun e w' => e = .returned (.bool true) ∧ Below w.heap.size w w' := by
  go_enter Try.func36, Try.ntmps36
  go_wp2_with fail
  refine (awakeE02 _).mono ?_
  rintro e w1 ⟨rfl, hb1⟩
  go_wp2_with fail
  refine (map_any (-3) _ (by unfold InI64; omega)).mono ?_
  rintro e w2 ⟨rfl, hb2⟩
  rw [show zmap (-3) = 5 from by decide]
  go_wp2_with fail
  refine (back_any 5 _ (by unfold In64; omega)).mono ?_
  rintro e w3 ⟨rfl, hb3⟩
  rw [show zback 5 = -3 from by decide]
  go_wp2
  go_ret
  exact ⟨rfl, bb (bb hb1 hb2) hb3⟩
theorem awakeE03 (w : World) : Calls Try.prog 75 #[] w fun e w' => e = .returned (.bool true) ∧ Below w.heap.size w w' := by
  go_enter Try.func75, Try.ntmps75
  go_wp2_with (go_at_call 36; refine (awake03 _).mono ?_; rintro e w' ⟨rfl, hb⟩)
  go_ret
  exact ⟨rfl, hb⟩

theorem zreads_walk (n : Int) (z : Nat) (s : ByteArray) (w : World) (hn : InI64 n) (hz : In64 z) (hs : s.size ≤ 9223372036854775807) :
    Calls Try.prog 8 #[.int .i64 n, .int .u64 (z : Int), .string s] w fun e w' => e = .returned (.bool true) ∧ Below w.heap.size w w' := by
  by_cases hlen : 2000 < s.size
  · go_enter Try.func8, Try.ntmps8
    go_wp2_with (go_at_call 36; refine (awake03 _).mono ?_; rintro e w1 ⟨rfl, hb1⟩)
    go_ret
    exact ⟨rfl, hb1⟩
  generalize hZ : zget s.data.toList = Z
  obtain ⟨x, m, g⟩ := Z
  have HZ := Lib.hid hZ
  have HN := Lib.hid hn
  have HZ64 := Lib.hid hz
  clear hZ hn hz
  go_enter Try.func8, Try.ntmps8
  go_wp2_with (first
    | (go_at_call 36; refine (awake03 _).mono ?_; rintro e w1 ⟨rfl, hb1⟩)
    | (go_at_call 37; refine (zget_any s _ hs).mono ?_; rintro e w2 ⟨rfl, hb2⟩; rw [HZ.out])
    | (go_at_call 38; refine (rzget_any s _ hs).mono ?_; rintro e w3 ⟨rfl, hb3⟩; rw [HZ.out])
    | (go_at_call 18; refine (cur_over _ _).mono ?_; rintro e w4 ⟨rfl, rfl⟩))
  have hc0 : Cur (w3.alloc (.cells #[.string s, .int .i64 0] 115)) w3.heap.size s 0 := ⟨BlkAt.made _ _ _, by omega, hs⟩
  have hb0 := ba (bb (bb hb1 hb2) hb3) (.cells #[.string s, .int .i64 0] 115)
  have hg0 := (bb (bb hb1 hb2) hb3).size
  go_wp2_with fail
  refine (znext_any _ s 0 _ hc0).mono ?_
  rintro e w5 ⟨rfl, hc5, hg5⟩
  rw [List.drop_zero, HZ.out] at hc5
  rw [List.drop_zero, HZ.out]
  have hq := bg hb0 hg5 hg0
  have HC5 := Lib.hid hc5
  clear hc0 hb0 hc5 hg5
  have hq0 : Below w5.heap.size w5 w5 := b0
  go_wp2_with (first
    | (go_at_call 40; refine (map_any n _ HN.out).mono ?_; rintro e w6 ⟨rfl, hb6⟩; replace hq0 := bb hq0 hb6)
    | (go_at_call 41; refine (rmap_any n _ HN.out).mono ?_; rintro e w6 ⟨rfl, hb6⟩; replace hq0 := bb hq0 hb6)
    | (go_at_call 42; refine (back_any z _ HZ64.out).mono ?_; rintro e w6 ⟨rfl, hb6⟩; replace hq0 := bb hq0 hb6)
    | (go_at_call 43; refine (rback_any z _ HZ64.out).mono ?_; rintro e w6 ⟨rfl, hb6⟩; replace hq0 := bb hq0 hb6)
    | (go_at_call 44; refine (zput_any n _ HN.out).mono ?_; rintro e w6 ⟨rfl, hb6⟩; replace hq0 := bb hq0 hb6)
    | (go_at_call 33; refine (rput_any (zmap n) _ (zmap_64 HN.out)).mono ?_; rintro e w6 ⟨rfl, hb6⟩; replace hq0 := bb hq0 hb6)
    | (go_at_call 24; refine (cur_at _ s _ _ ⟨HC5.out.1.below hq0 HC5.out.1.lt, HC5.out.2⟩).mono ?_; rintro e w6 ⟨rfl, hb6⟩; replace hq0 := bb hq0 hb6))
  go_ret
  exact ⟨rfl, bb hq hq0⟩
end Go.Proofs.Ytlkdoahdcepncaa
