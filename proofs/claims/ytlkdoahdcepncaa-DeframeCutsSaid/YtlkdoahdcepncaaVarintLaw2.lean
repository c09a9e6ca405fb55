/-
  The walks of the statements VarintReads and VarintTakes (layer 2): they answer true. Conditions: numbers within uint64, texts within int.
-/
import Derived.Test.YtlkdoahdcepncaaVarintLaw
import Derived.Test.YtlkdoahdcepncaaRef02b
import Derived.Test.YtlkdoahdcepncaaPlainMore
namespace Go.Proofs.Ytlkdoahdcepncaa
open Go.RowKit Go.PM
set_option maxRecDepth 100000

theorem reads_walk (n : Nat) (s : ByteArray) (w : World) (hn : In64 n) (hs : s.size ≤ 9223372036854775807) :
    Calls Try.prog 7 #[.int .u64 (n : Int), .string s] w fun e w' => e = .returned (.bool true) ∧ Below w.heap.size w w' := by
  by_cases hlen : 2000 < s.size
  · go_enter Try.func7, Try.ntmps7
    go_wp2_with (go_at_call 26; refine (awake02 _).mono ?_; rintro e w1 ⟨rfl, hb1⟩)
    go_ret
    exact ⟨rfl, hb1⟩
  · generalize hV : vget s.data.toList = V
    obtain ⟨x, m, g⟩ := V
    have HV := Lib.hid hV
    have HN := Lib.hid hn
    clear hV hn
    go_enter Try.func7, Try.ntmps7
    go_wp2_with (go_at_call 26; refine (awake02 _).mono ?_; rintro e w1 ⟨rfl, hb1⟩)
    refine (get_any _ _ hs).mono ?_
    rintro e w2 ⟨rfl, hb2⟩
    rw [HV.out]
    go_wp2_with fail
    refine (rget_any _ _ hs).mono ?_
    rintro e w3 ⟨rfl, hb3⟩
    rw [HV.out]
    go_wp2_with fail
    refine (all_any _ _ (by omega)).mono ?_
    rintro e w4 ⟨v, rfl, ho4, hb4⟩
    obtain ⟨A1, c1, rfl, hr1, _⟩ := Rd.own ho4
    go_wp2_with fail
    refine (rall_any _ _ (by omega)).mono ?_
    rintro e w5 ⟨v, rfl, ho5, hb5⟩
    obtain ⟨A2, c2, rfl, hr2, _⟩ := Rd.own ho5
    have hr1 := hr1.below hb5
    have hsl : (vall s.data.toList).1.length ≤ 1000000 := by
      have := vall_length s.data.toList
      rw [len_list] at this
      omega
    generalize (vall s.data.toList).2 = c at *
    generalize (vall s.data.toList).1 = S at *
    have HR1 := Lib.hid hr1
    have HR2 := Lib.hid hr2
    have HSL := Lib.hid hsl
    have hput : (txt (vput n)).size = vsz n := by rw [txt_size, vput_length]
    clear hr1 hr2 hsl ho4 ho5
    have hq : Below w5.heap.size w5 w5 := b0
    go_wp2_with (first
      | (go_at_call 27; refine (put_any n _ HN.out).mono ?_; rintro e w6 ⟨rfl, hb6⟩; replace hq := bb hq hb6; rw [show ByteArray.mk (vput n).toArray = txt (vput n) from rfl])
      | (go_at_call 34; refine (size_any n _ HN.out).mono ?_; rintro e w8 ⟨rfl, rfl⟩)
      | (go_at_call 33; refine (rput_any n _ HN.out).mono ?_; rintro e w7 ⟨rfl, hb7⟩; replace hq := bb hq hb7)
      | (go_at_call 35; refine (equ64 A1 A2 c1 c2 S _ (HR1.out.below hq) (HR2.out.below hq) HSL.out).mono ?_; rintro e w9 ⟨rfl, hb9⟩; replace hq := bb hq hb9))
    go_ret
    exact ⟨rfl, bb (bb (bb (bb (bb hb1 hb2) hb3) hb4) hb5) hq⟩
end Go.Proofs.Ytlkdoahdcepncaa
