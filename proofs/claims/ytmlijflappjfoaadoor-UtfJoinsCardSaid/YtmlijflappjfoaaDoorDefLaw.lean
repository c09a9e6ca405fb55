/-
  The walks of the statements of layer 6, first part. Conditions: texts as they come in.
-/
import Derived.Test.YtmlijflappjfoaaDoorClone
import Derived.Test.YtmlijflappjfoaaDoorFrameLaw
namespace Go.Proofs.YtmlijflappjfoaaDoor
open Go.RowKit Go.PM
set_option maxRecDepth 100000
set_option maxHeartbeats 1000000

/-- A deframer of the call's own. -/
def Fd (B : Nat) (w : World) (d : Nat) (v : Value) (R : List UInt8) (need e count : Nat) : Prop := Dfr w d v R need e count ∧ St R need e ∧ B ≤ d ∧ ∀ g, foot v = some g → B ≤ g
theorem Fd.below {B : Nat} {w w' : World} {d : Nat} {v : Value} {R : List UInt8} {need e count : Nat} (h : Fd B w d v R need e count) (hb : Below w.heap.size w w') : Fd B w' d v R need e count :=
  ⟨h.1.below hb, h.2⟩
/-- It was fed. -/
def FedB (B : Nat) (w : World) (d : Nat) (v : Value) (count : Nat) (x : List (List UInt8) × Nat × List UInt8) (en : Ending) (w' : World) : Prop :=
  ∃ r v' need', en = .returned r ∧ w'.ownsRow w.heap.size 9 1 r x.1.length (strs (x.1.map txt)) ∧ Tch (fun k => k = d ∨ foot v = some k) w w' ∧ Below B w w' ∧ Fd B w' d v' x.2.2 need' x.2.1 (count + x.1.length) ∧
    (foot v' = foot v ∨ ∀ g, foot v' = some g → w.heap.size ≤ g)
theorem feed_B (B d : Nat) (v : Value) (R : List UInt8) (need e count : Nat) (A : Option Addr) (cap : Nat) (l : List ByteArray) (w : World) (h : Fd B w d v R need e count) (hB : B ≤ w.heap.size) (hr : Rd w A (strs l))
    (hA : ∀ b off, A = some ⟨b, off, none⟩ → b ≠ d ∧ foot v ≠ some b) (hn : R.length + (flat l).length ≤ 1000000) (hl : l.length ≤ 9223372036854775807) (hcn : count ≤ 3000000000000000000) :
    Calls Tryd.prog 81 #[.pointer (some ⟨d, 0, none⟩), .slice A l.length cap] w (FedB B w d v count (feedOf e R (flat l))) := by
  obtain ⟨h, hst, hd, hf⟩ := h
  refine (feed_any d v R need e count A cap l w h hst hr hA hn hl hcn).mono ?_
  rintro en w' ⟨r, v', need', he, ho, ht, hd', hst', hf'⟩
  refine ⟨r, v', need', he, ho, ht, ht.toBelowB hB fun g hg e => ?_, ⟨hd', hst', hd, fun g hg => ?_⟩, hf'⟩
  · rcases e with e | e
    · omega
    · have := hf g e; omega
  · rcases hf' with h | h
    · exact hf g (h ▸ hg)
    · exact Nat.le_trans hB (h g hg)
theorem feed_one (B d : Nat) (v : Value) (R : List UInt8) (need e count : Nat) (x : ByteArray) (g : Nat) (w : World) (h : Fd B w d v R need e count) (hB : B ≤ w.heap.size) (hg : BlkAt w g 9 #[.string x])
    (hn : R.length + x.size ≤ 1000000) (hcn : count ≤ 3000000000000000000) :
    Calls Tryd.prog 81 #[.pointer (some ⟨d, 0, none⟩), .slice (some ⟨g, 0, none⟩) 1 1] w (FedB B w d v count (feedOf e R x.data.toList)) := by
  have := feed_B B d v R need e count (some ⟨g, 0, none⟩) 1 [x] w h hB (.inr ⟨g, 0, rfl, hg.lt, fun j u hj => ?_⟩) (fun b off e => ?_) (by simpa [flat] using hn) (by simp) hcn
  · simpa [flat] using this
  · match j, hj with
    | 0, hj => rw [hg.cell]; simpa [strs] using hj
  · injection e with e
    injection e with e _
    subst e
    exact ⟨hg.apart h.1.1 (by decide), h.1.2.1.ne_blk hg (by decide)⟩

theorem nil_feed (A : Option Addr) (n c : Nat) (w : World) : Calls Tryd.prog 81 #[.pointer none, .slice A n c] w fun e w' => e = .returned (.slice none 0 0) ∧ Below w.heap.size w w' := by
  go_enter Tryd.func81, Tryd.ntmps81
  go_wp2
  go_ret
  exact ⟨rfl, b0⟩
theorem nil_err (w : World) : Calls Tryd.prog 82 #[.pointer none] w fun e w' => e = .returned (.int .i64 25) ∧ Below w.heap.size w w' := by
  go_enter Tryd.func82, Tryd.ntmps82
  go_wp2
  go_ret
  exact ⟨rfl, b0⟩

theorem new_B (w : World) :
    Calls Tryd.prog 80 #[] w fun e w' => ∃ d, e = .returned (.pointer (some ⟨d, 0, none⟩)) ∧ w.heap.size ≤ d ∧ Fd w.heap.size w' d (.slice none 0 0) [] 0 0 0 ∧ Below w.heap.size w w' :=
  (new_any w).mono fun e w' ⟨d, he, hd, hD, hb⟩ => ⟨d, he, hd, ⟨hD, St.new, hd, fun g hg => by simp [foot] at hg⟩, hb⟩
theorem fof_81 : fof [81] = ([], 0, [81]) := fof_short (by decide)
theorem fof_8171 : fof [81, 71] = ([], 5, []) := fof_bad (by decide) (by decide)
theorem awake06 (w : World) :
    Calls Tryd.prog 67 #[] w fun e w' => e = .returned (.bool true) ∧ Below w.heap.size w w' := by
  go_enter Tryd.func67, Tryd.ntmps67
  go_wp2_with fail
  refine (new_B _).mono ?_
  rintro e w1 ⟨d, rfl, hd1, hD1, hb1⟩
  have HD1 := Lib.hid hD1
  have HB1 := Lib.hid hb1
  have hs1 := hb1.size
  clear hD1 hb1
  go_wp2_with fail
  have hm := BlkAt.made w1 9 #[.string ⟨#[81]⟩]
  have hbo := ba (a := w1) b0 (.cells #[.string ⟨#[81]⟩] 9)
  generalize w1.alloc (.cells #[.string ⟨#[81]⟩] 9) = W at hm hbo ⊢
  have hs2 := Nat.le_trans hs1 hbo.size
  refine (feed_one w.heap.size d _ [] 0 0 0 _ _ W (HD1.out.below hbo) hs2 hm (by decide) (by decide)).mono ?_
  rw [show feedOf 0 [] (ByteArray.data ⟨#[81]⟩).toList = ([], 0, [81]) by rw [feedOf_start]; exact fof_81]
  rintro e w2 ⟨r, v2, need2, rfl, _, _, hb2, hd2, _⟩
  have HD2 := Lib.hid hd2
  have HB2 := Lib.hid ((HB1.out.trans (hbo.mono hs1)).trans hb2)
  clear hd2 hb2 hbo hm
  go_wp2_with fail
  refine (err_any d _ _ _ _ _ _ HD2.out.1).mono ?_
  rintro e w3 ⟨rfl, hb3⟩
  have HD3 := Lib.hid (HD2.out.below hb3)
  have HB3 := Lib.hid (bb HB2.out hb3)
  have hs3 := HB3.out.size
  clear hb3
  go_wp2_with fail
  have hm := BlkAt.made w3 9 #[.string ⟨#[71]⟩]
  have hbo := ba (a := w3) b0 (.cells #[.string ⟨#[71]⟩] 9)
  generalize w3.alloc (.cells #[.string ⟨#[71]⟩] 9) = W at hm hbo ⊢
  have hs4 := Nat.le_trans hs3 hbo.size
  refine (feed_one w.heap.size d _ [81] _ 0 _ _ _ W (HD3.out.below hbo) hs4 hm (by decide) (by decide)).mono ?_
  rw [show feedOf 0 [81] (ByteArray.data ⟨#[71]⟩).toList = ([], 5, []) by unfold feedOf; rw [if_pos rfl]; exact fof_8171]
  rintro e w4 ⟨r, v4, need4, rfl, _, _, hb4, hd4, _⟩
  have HD4 := Lib.hid hd4
  have HB4 := Lib.hid ((HB3.out.trans (hbo.mono hs3)).trans hb4)
  clear hd4 hb4 hbo hm
  go_wp2_with fail
  refine (awakeE05 _).mono ?_
  rintro e w5 ⟨rfl, hb5⟩
  have HD5 := Lib.hid (HD4.out.below hb5)
  have HB5 := Lib.hid (bb HB4.out hb5)
  clear hb5
  go_wp2_with fail
  refine (err_any d _ _ _ _ _ _ HD5.out.1).mono ?_
  rintro e w6 ⟨rfl, hb6⟩
  have HB6 := Lib.hid (bb HB5.out hb6)
  clear hb6
  go_wp2
  go_ret
  exact ⟨rfl, HB6.out⟩
theorem awakeE06 (w : World) : Calls Tryd.prog 45 #[] w fun e w' => e = .returned (.bool true) ∧ Below w.heap.size w w' := by
  go_enter Tryd.func45, Tryd.ntmps45
  go_wp2_with (go_at_call 67; refine (awake06 _).mono ?_; rintro e w' ⟨rfl, hb⟩)
  go_ret
  exact ⟨rfl, hb⟩

theorem none_fof : feedOf 0 [] (flat [⟨#[81, 70, 0, 0, 0, 0]⟩, ⟨#[0, 81]⟩]) = ([[]], 0, [81]) := by
  rw [feedOf_start]
  have h : fparse [81, 70, 0, 0, 0, 0, 0, 81] = ([], 7, 0) := by decide +kernel
  show fof [81, 70, 0, 0, 0, 0, 0, 81] = _
  rw [fof_ok (by rw [h]), h]
  show ([] :: (fof [81]).1, (fof [81]).2) = _
  rw [fof_81]
end Go.Proofs.YtmlijflappjfoaaDoor
