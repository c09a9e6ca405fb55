/-
  Texts of the proof, joined: Pick3 MapB Pick4 PickP2 FldLaw2 PickLaw2 Laid. Conditions: as each names.
-/
import Derived.Test.YtigbifiicbghpaaDoorBak
import Derived.Test.YtigbifiicbghpaaDoorBah
import Derived.Maps.OwnSet
import Derived.Test.YtigbifiicbghpaaDoorBaj
import Derived.Test.YtigbifiicbghpaaDoorBab
import Derived.Test.YtigbifiicbghpaaDoorRows
import Derived.PinnedBridge
import Derived.Lib.LaidIn
import Derived.Lib.LaidU8T
import Derived.Deep.DeepHandedRow
import Derived.Deep.DeepWitnessRowRef

section
/-
  Layer 10: all tags (pick.Tags), and the chapter's example. Conditions: at most a million fields; Go's tables of UTF-8 lie in memory.
-/
namespace Go.Proofs.YtigbifiicbghpaaDoor
open Go.RowKit Go.PM
set_option maxRecDepth 100000
set_option maxHeartbeats 2000000
attribute [local go_sem ↓] Go.wp_at_zero Go.wp_at_succ

theorem info_pu64 : (Tryd.prog.info? 39).map (fun i => (i.zero, i.size, i.bytes)) = some (some (.int .u64 0), 1, 8) := by kernel_rfl
/-- All fields' tags. -/
def ftags (f : Fs) : List Nat := f.toL.map Fl.tag
theorem ftags_len (f : Fs) : (ftags f).length = f.len := by rw [ftags, List.length_map, toL_len]
theorem slv_tag {w : World} {I : Nat → Prop} {A : Option Addr} {c : Nat} {f : Fs} (h : SlV w I (.slice A f.len c) f) (k : Nat) (hk : k < f.len) :
    ∃ b o, A = some ⟨b, o, none⟩ ∧ b < w.heap.size ∧ w.cell? ⟨b, o + k * 5, none⟩ = some (.int .u64 ((f.toL[k]'(by rw [toL_len]; exact hk)).tag : Int)) := by
  obtain ⟨A', c', hv, hc, hor⟩ := h
  injection hv with e1 e2 e3
  subst e1 e3
  rcases hor with h0 | ⟨b, o, rfl, hI, hb, hat⟩
  · omega
  · obtain ⟨t, y, n, s, i, hd, _⟩ := f.drop_cons k hk
    have h1 := hat.drop k
    rw [hd] at h1
    have h2 := toL_drop hd
    rw [List.getElem?_eq_getElem (by rw [toL_len]; exact hk)] at h2
    injection h2 with h2
    rw [h2]
    exact ⟨b, o, rfl, hb, h1.1⟩
theorem tags_any (A : Option Addr) (c : Nat) (f : Fs) (I : Nat → Prop) (w : World) (hr : SlV w I (.slice A f.len c) f) (hl : f.len ≤ 1000000) :
    Calls Tryd.prog 20 #[.slice A f.len c] w fun e w' => ∃ (A' : Option Addr) (c' : Nat), e = .returned (.slice A' f.len c') ∧ PM.Rd w' A' (u64s (ftags f)) ∧ f.len ≤ c' ∧ Below w.heap.size w w' := by
  obtain ⟨i0, hi0, hz0, hz1, hz2⟩ := info_parts info_pu64
  have HR := Lib.hid hr
  have hcc : f.len ≤ c := by obtain ⟨A', c', hv, hc, _⟩ := hr; injection hv with e1 e2 e3; omega
  have H0 : Hid (w.ownsRow w.heap.size 39 1 (.slice none 0 0) 0 (u64s ((ftags f).take 0))) := World.ownsRow_nil _ _ _ _
  clear hr
  go_enter Tryd.func20, Tryd.ntmps20
  go_wp2_with fail
  go_loopg [3, 7] f.len (fun gk vv ki wr => ∃ k : Nat, k ≤ f.len ∧ f.len - k ≤ gk ∧ ki = .int .i64 (k : Int) ∧ Hid (wr.ownsRow w.heap.size 39 1 vv k (u64s ((ftags f).take k))) ∧ Below w.heap.size w wr)
  case atStart => exact ⟨0, Nat.zero_le _, by omega, rfl, H0, b0⟩
  case round =>
    obtain ⟨k, hkl, hgk, rfl, HO, hb⟩ := hrel
    have HB := Lib.hid hb
    by_cases hlt : k < f.len
    · obtain ⟨b, o, rfl, hbl, hcell⟩ := slv_tag (HR.out.below hb) k hlt
      have hkt : k < f.toL.length := by rw [toL_len]; exact hlt
      have HTK : Hid (u64s ((ftags f).take (k + 1)) = u64s ((ftags f).take k) ++ [.int .u64 ((f.toL[k]'hkt).tag : Int)]) := by
        show _ = _
        rw [← List.take_append_getElem (show k < (ftags f).length by rw [ftags_len]; exact hlt)]
        simp [u64s, ftags]
      generalize (f.toL[k]'hkt).tag = t at *
      have hwz := hb.size
      clear hb hkt
      go_wp2_with (at_builtin; go_must (refine wpList_append_own _ rfl _ _ 40 rfl w.heap.size 39 i0 (.int .u64 0) 1 8 Tryd.underlying40 hi0 hz0 hz1 hz2 rfl (by decide) _ _ _ rfl (HO.out.alloc _) ⟨wr.heap.size, 0, none⟩ 1 1 [.int .u64 (t : Int)] rfl rfl (one_new _ _ _) (one_cell_int _ _) (by unfold maxLen; omega) (by omega) (by simp; omega) ?_); intro v1 w2 hown2 hg2 _)
      go_roundg (f.len - (k + 1))
      case measure => omega
      case rel =>
        refine ⟨k + 1, by omega, Nat.le_refl _, by go_num, ?_, below_append (ba HB.out _) (HO.out.alloc _) hg2⟩
        show World.ownsRow _ _ _ _ _ _ _
        rw [HTK.out]
        exact hown2
    · obtain rfl : k = f.len := by omega
      have ho := HO.out
      rw [List.take_of_length_le (by rw [ftags_len]; exact Nat.le_refl _)] at ho
      obtain ⟨A2, c2, rfl, hrd, hn, _⟩ := PM.Rd.own ho
      have HE := Lib.hid (And.intro hrd hn)
      clear ho hrd hn hb HO
      go_wp2_with fail
      go_ret
      exact ⟨A2, c2, rfl, HE.out.1, HE.out.2, HB.out⟩
theorem exam10 : fmerge [fnum 1 0 (fnum 3 0 .nil), fnum 2 0 .nil] = (fnum 1 0 (fnum 2 0 (fnum 3 0 .nil)), 0) := rfl
theorem exam10_kd : ∀ f ∈ [fnum 1 0 (fnum 3 0 .nil), fnum 2 0 .nil], f.All FKd := by
  intro f hf
  simp only [List.mem_cons, List.not_mem_nil, or_false] at hf
  rcases hf with rfl | rfl
  · exact ⟨⟨by unfold In64; omega, by unfold InI64; omega, by unfold In64; omega, by decide⟩, trivial, ⟨by unfold In64; omega, by unfold InI64; omega, by unfold In64; omega, by decide⟩, trivial, trivial⟩
  · exact ⟨⟨by unfold In64; omega, by unfold InI64; omega, by unfold In64; omega, by decide⟩, trivial, trivial⟩
theorem awake10 (w : World) (hT : Tabs w) :
    Calls Tryd.prog 7 #[] w fun e w' => e = .returned (.bool true) ∧ Below w.heap.size w w' := by
  have hb1 : Below w.heap.size w w := b0
  have HA : Hid (∀ x : World, Below w.heap.size w x → Calls Tryd.prog 30 #[] x fun e w' => e = .returned (.bool true) ∧ Below x.heap.size x w') := fun x hx => awakeE09 x (hT.below hx)
  clear hT
  go_enter Tryd.func7, Tryd.ntmps7
  go_wp2_with fail
  refine (ofnum_any 1 0 _).mono ?_
  rintro e w2 ⟨rfl, hb2⟩
  replace hb1 := bb hb1 hb2
  clear hb2
  go_wp2_with fail
  refine (ofnum_any 3 0 _).mono ?_
  rintro e w3 ⟨rfl, hb2⟩
  replace hb1 := bb hb1 hb2
  clear hb2
  go_wp2_with fail
  refine (ofnum_any 2 0 _).mono ?_
  rintro e w4 ⟨rfl, hb4⟩
  have hx1 := (((BlkAt.made w3 47 #[.int .u64 1, .int .i64 0, .int .u64 0, .string ByteArray.empty, .slice none 0 0, .int .u64 3, .int .i64 0, .int .u64 0, .string ByteArray.empty, .slice none 0 0]).below hb4 (by simp)).more (.cells #[.int .u64 2, .int .i64 0, .int .u64 0, .string ByteArray.empty, .slice none 0 0] 47)).more (.cells #[.slice (some ⟨w3.heap.size, 0, none⟩) 2 2, .slice (some ⟨w4.heap.size, 0, none⟩) 1 1] 28)
  have hx2 := (BlkAt.made w4 47 #[.int .u64 2, .int .i64 0, .int .u64 0, .string ByteArray.empty, .slice none 0 0]).more (.cells #[.slice (some ⟨w3.heap.size, 0, none⟩) 2 2, .slice (some ⟨w4.heap.size, 0, none⟩) 1 1] 28)
  have hx3 := BlkAt.made (w4.alloc (.cells #[.int .u64 2, .int .i64 0, .int .u64 0, .string ByteArray.empty, .slice none 0 0] 47)) 28 #[.slice (some ⟨w3.heap.size, 0, none⟩) 2 2, .slice (some ⟨w4.heap.size, 0, none⟩) 1 1]
  rw [World.size_alloc] at hx3
  have hs1 : SlV ((w4.alloc (.cells #[.int .u64 2, .int .i64 0, .int .u64 0, .string ByteArray.empty, .slice none 0 0] 47)).alloc (.cells #[.slice (some ⟨w3.heap.size, 0, none⟩) 2 2, .slice (some ⟨w4.heap.size, 0, none⟩) 1 1] 28)) (fun _ => True) (.slice (some ⟨w3.heap.size, 0, none⟩) 2 2) (fnum 1 0 (fnum 3 0 .nil)) := slv_blk (f := (fnum 1 0 (fnum 3 0 .nil))) hx1 ⟨rfl, rfl, rfl, rfl, SlV.nil _ _ _ _, rfl, rfl, rfl, rfl, SlV.nil _ _ _ _, trivial⟩ trivial (Nat.le_refl 2)
  have hs2 : SlV ((w4.alloc (.cells #[.int .u64 2, .int .i64 0, .int .u64 0, .string ByteArray.empty, .slice none 0 0] 47)).alloc (.cells #[.slice (some ⟨w3.heap.size, 0, none⟩) 2 2, .slice (some ⟨w4.heap.size, 0, none⟩) 1 1] 28)) (fun _ => True) (.slice (some ⟨w4.heap.size, 0, none⟩) 1 1) (fnum 2 0 .nil) := slv_blk (f := (fnum 2 0 .nil)) hx2 ⟨rfl, rfl, rfl, rfl, SlV.nil _ _ _ _, trivial⟩ trivial (Nat.le_refl 1)
  have hm := merge_any (some ⟨w4.heap.size + 1, 0, none⟩) 2 [(fnum 1 0 (fnum 3 0 .nil)), (fnum 2 0 .nil)] [.slice (some ⟨w3.heap.size, 0, none⟩) 2 2, .slice (some ⟨w4.heap.size, 0, none⟩) 1 1] (fun _ => True) ((w4.alloc (.cells #[.int .u64 2, .int .i64 0, .int .u64 0, .string ByteArray.empty, .slice none 0 0] 47)).alloc (.cells #[.slice (some ⟨w3.heap.size, 0, none⟩) 2 2, .slice (some ⟨w4.heap.size, 0, none⟩) 1 1] 28))
    (.inr ⟨_, 0, rfl, hx3.lt, fun j u hj => by rw [Nat.zero_add, hx3.cell j, ← Array.getElem?_toList]; exact hj⟩) ⟨hs1, hs2, trivial⟩
    exam10_kd (by decide) (by decide)
  rw [exam10] at hm
  have HM : Hid (Calls Tryd.prog 11 #[.slice (some ⟨w4.heap.size + 1, 0, none⟩) 2 2] ((w4.alloc (.cells #[.int .u64 2, .int .i64 0, .int .u64 0, .string ByteArray.empty, .slice none 0 0] 47)).alloc (.cells #[.slice (some ⟨w3.heap.size, 0, none⟩) 2 2, .slice (some ⟨w4.heap.size, 0, none⟩) 1 1] 28)) fun e w' => ∃ (A : Option Addr) (c : Nat), e = .returned (.tuple #[.slice A 3 c, .int .i64 0]) ∧ SlV w' (fun _ => True) (.slice A 3 c) (fnum 1 0 (fnum 2 0 (fnum 3 0 .nil))) ∧ Below w4.heap.size w4 w') := hm.mono fun e w' h => by
    obtain ⟨A, c, he, hs, hb⟩ := h
    exact ⟨A, c, he, hs.imp fun _ _ => trivial, bb (ba (ba b0 _) _) hb⟩
  replace hb1 := bb hb1 (bb (ba b0 _) hb4)
  clear hx1 hx2 hx3 hs1 hs2 hm hb4
  go_wp2_with fail
  refine HM.out.mono ?_
  rintro e w5 ⟨A5, c5, rfl, hs5, hb5⟩
  replace hb1 := bb hb1 hb5
  have HS5 := Lib.hid hs5
  clear HM hs5 hb5
  go_wp2_with fail
  refine (HA.out _ hb1).mono ?_
  rintro e w6 ⟨rfl, hb6⟩
  replace hb1 := bb hb1 hb6
  have HTG : Hid (Calls Tryd.prog 20 #[.slice A5 3 c5] w6 fun e w' => ∃ (A' : Option Addr) (c' : Nat), e = .returned (.slice A' 3 c') ∧ PM.Rd w' A' (u64s [1, 2, 3]) ∧ 3 ≤ c' ∧ Below w6.heap.size w6 w') := tags_any A5 c5 (fnum 1 0 (fnum 2 0 (fnum 3 0 .nil))) _ w6 (HS5.out.below hb6) (by decide)
  clear hb6
  go_wp2_with fail
  refine HTG.out.mono ?_
  rintro e w7 ⟨A7, c7, rfl, hr7, hc7, hb7⟩
  replace hb1 := bb hb1 hb7
  have hx7 := BlkAt.made w7 39 #[.int .u64 1, .int .u64 2, .int .u64 3]
  have HEQ : Hid (Calls Tryd.prog 19 #[.slice A7 3 c7, .slice (some ⟨w7.heap.size, 0, none⟩) 3 3] (w7.alloc (.cells #[.int .u64 1, .int .u64 2, .int .u64 3] 39)) fun e w' => e = .returned (.bool true) ∧ Below w7.heap.size w7 w') :=
    (equ64 A7 (some ⟨w7.heap.size, 0, none⟩) c7 3 [1, 2, 3] (w7.alloc (.cells #[.int .u64 1, .int .u64 2, .int .u64 3] 39)) (hr7.below (ba b0 _)) (.inr ⟨_, 0, rfl, hx7.lt, fun j u hj => by rw [Nat.zero_add, hx7.cell j, ← Array.getElem?_toList]; exact hj⟩) (by decide)).mono fun e w' h => ⟨h.1, bb (ba b0 _) h.2⟩
  clear hr7 hb7 hx7 HTG
  go_wp2_with fail
  refine HEQ.out.mono ?_
  rintro e w8 ⟨rfl, hb8⟩
  replace hb1 := bb hb1 hb8
  clear hb8
  go_wp2
  go_ret
  exact ⟨rfl, hb1⟩
theorem awakeE10 (w : World) (hT : Tabs w) : Calls Tryd.prog 40 #[] w fun e w' => e = .returned (.bool true) ∧ Below w.heap.size w w' := by
  have H := Lib.hid (awake10 w hT)
  clear hT
  go_enter Tryd.func40, Tryd.ntmps40
  go_wp2_with fail
  refine H.out.mono ?_
  rintro e w' ⟨rfl, hb⟩
  go_wp2
  go_ret
  exact ⟨rfl, hb⟩
end Go.Proofs.YtigbifiicbghpaaDoor
end

section
/-
  A map from whole numbers to true and false that the call has made: what a look-up gives. No program in sight.
-/
namespace Go.PM
open Go.Maps (Keyed)

section
variable {H : Type}
theorem plain_bool_inv {P : Program} {e : TypeId} (he : P.underlying e = some .bool) {v : Value} {z : DataW H × List MemPlace} (h : plainElem P e v = some z) : ∃ x, v = .bool x ∧ z = (.lit (.bool x), []) := by
  unfold plainElem at h
  rw [he] at h
  cases v <;> simp at h
  obtain rfl := h
  exact ⟨_, rfl, rfl⟩

theorem lookup_own_bool {P : Program} {k t e : TypeId} {w : World} {b n : Nat} {D : DataW H} (h : w.ownsMap P k (plainElem P e) b n D) (K : Keyed P k) (ht : P.underlying t = some (.map k e)) (he : P.underlying e = some .bool)
    (hz : (zeroValue e).run P w = .ok (.bool false) w) {key : Value} {kl : Lit} (hkey : keyOf P k key = some kl) :
    ∃ c, (Instr.lookup t (.map (some b)) key false).run P w = .ok (.bool c) w ∧ D.atKey kl (.lit (.bool false)) = .lit (.bool c) := by
  obtain ⟨v, ps, hrun, hv⟩ := h.lookup K ht hz (plainElem_bool he false) hkey
  obtain ⟨c, rfl, hc⟩ := plain_bool_inv he hv
  simp only [Prod.mk.injEq] at hc
  exact ⟨c, hrun, hc.1⟩

theorem wpList_lookup_own_bool {P : Program} (w : World) {ops : Array Oper} {rest : List Oper} {o : Oper} {a : Act} {Q : Exit → Act → World → Prop}
    (hg : o.guard = none) (m x : Operand) (t : TypeId) (hop : o.op = Op.lookup t m x false)
    (k e : TypeId) (K : Keyed P k) (ht : P.underlying t = some (.map k e)) (he : P.underlying e = some .bool) (hz : (zeroValue e).run P w = .ok (.bool false) w) (b n : Nat) (D : DataW H)
    (hm : a.eval m = .map (some b)) (hown : w.ownsMap P k (plainElem P e) b n D) (key : Value) (kl : Lit) (hx : a.eval x = key) (hkey : keyOf P k key = some kl)
    (hK : ∀ c : Bool, D.atKey kl (.lit (.bool false)) = .lit (.bool c) → wpList P ops Q rest (a.put o.dst (.bool c)) w) :
    wpList P ops Q (o :: rest) a w := by
  refine wpList_plain hg fun K' hK' => ?_
  obtain ⟨c, hrun, hat⟩ := lookup_own_bool hown K ht he hz hkey
  unfold Oper.wp
  simp [execOp, hop, hm, hx, hrun, Result.andThen]
  exact hK' _ _ (hK c hat)

/-- The set of the tags put in one after another. -/
def tagPut (D : DataW H) (t : Nat) : DataW H := D.put (.int .u64 (t : Int)) (.lit (.bool true))
def tagMap (l : List Nat) : DataW H := l.foldl tagPut (.map [])
theorem tagMap_snoc (l : List Nat) (t : Nat) : (tagMap (l ++ [t]) : DataW H) = (tagMap l : DataW H).put (.int .u64 (t : Int)) (.lit (.bool true)) := by
  rw [tagMap, List.foldl_append]
  rfl
theorem tagFold_at (x : Nat) : ∀ (l : List Nat) (D : DataW H), Maps.IsMap D → ∀ c : Bool, D.atKey (.int .u64 (x : Int)) (.lit (.bool false)) = .lit (.bool c) →
    (l.foldl tagPut D).atKey (.int .u64 (x : Int)) (.lit (.bool false)) = .lit (.bool (c || decide (x ∈ l)))
  | [], D, _, c, h => by simpa using h
  | t :: l, D, hD, c, h => by
    rw [List.foldl_cons]
    by_cases he : x = t
    · subst he
      have h1 : (tagPut D x).atKey (.int .u64 (x : Int)) (.lit (.bool false)) = .lit (.bool true) := Maps.atKey_put_same hD (by trivial) _ _
      rw [tagFold_at x l (tagPut D x) (hD.put _ _) true h1]
      simp
    · have h1 : (tagPut D t).atKey (.int .u64 (x : Int)) (.lit (.bool false)) = .lit (.bool c) := by
        rw [tagPut, Maps.atKey_put_other (by simp; omega)]
        exact h
      rw [tagFold_at x l (tagPut D t) (hD.put _ _) c h1]
      simp [he]
theorem tagMap_at (l : List Nat) (x : Nat) : (tagMap l : DataW H).atKey (.int .u64 (x : Int)) (.lit (.bool false)) = .lit (.bool (decide (x ∈ l))) := by
  have h := tagFold_at (H := H) x l (.map []) ⟨[], rfl⟩ false rfl
  simpa [tagMap] using h
end
#print axioms tagMap_at
end Go.PM
end

section
/-
  Layer 10: a list of fields split by tags (pick.Split). Conditions: at most a million fields, at most a million tags below 2^64.
-/
namespace Go.Proofs.YtigbifiicbghpaaDoor
open Go.RowKit Go.PM
set_option maxRecDepth 100000
set_option maxHeartbeats 2000000
attribute [local go_sem ↓] Go.wp_at_zero Go.wp_at_succ

/-- The fields whose tags the list names (yes), or does not (no). -/
def fpick (tags : List Nat) (yes : Bool) : Fs → Fs
  | .nil => .nil
  | .cons t y n s i r => if decide (t ∈ tags) = yes then .cons t y n s i (fpick tags yes r) else fpick tags yes r
theorem fpick_app (tags : List Nat) (yes : Bool) (g : Fs) : ∀ f : Fs, fpick tags yes (f.app g) = (fpick tags yes f).app (fpick tags yes g)
  | .nil => rfl
  | .cons t y n s i r => by
    rw [Fs.app, fpick, fpick, fpick_app tags yes g r]
    split <;> rfl
theorem fpick_count (tags : List Nat) (yes : Bool) : ∀ f : Fs, (fpick tags yes f).count ≤ f.count
  | .nil => Nat.le_refl _
  | .cons t y n s i r => by
    have := fpick_count tags yes r
    rw [fpick]
    split <;> simp only [Fs.count] <;> omega
theorem fpick_len (tags : List Nat) (yes : Bool) : ∀ f : Fs, (fpick tags yes f).len ≤ f.len
  | .nil => Nat.le_refl _
  | .cons t y n s i r => by
    have := fpick_len tags yes r
    rw [fpick]
    split <;> simp only [Fs.len] <;> omega
theorem run_makeMap_hint (w : World) (k : IntKind) (n : Int) : (Instr.makeMap 80 (some (.int k n))).run Tryd.prog w = .ok (.map (some w.heap.size)) (w.alloc (.map #[] 0)) := by
  simp [Instr.makeMap, run_underlying Tryd.underlying80, asInt, asIntOf, Result.andThen]
theorem key_u64 : Maps.Keyed Tryd.prog 39 := Maps.int_keyed Tryd.underlying39
theorem zero_bool (w : World) : (zeroValue 4).run Tryd.prog w = .ok (.bool false) w := rfl
/-- The map of the tags. -/
def TgMap (w : World) (m k : Nat) (tags : List Nat) : Prop := w.ownsMap (H := Unit) Tryd.prog 39 (plainElem Tryd.prog 4) m k (tagMap tags)
/-- Where the second loop of Split stands. -/
def SpAt (w : World) (tags : List Nat) (F : Fs) (v1 v2 : Value) (wr : World) : Prop :=
  ∃ (A B : Option Addr) (c d : Nat) (xs ys : List Value), v1 = .slice A (fpick tags true F).len c ∧ v2 = .slice B (fpick tags false F).len d ∧
    wr.ownsRow w.heap.size 47 5 v1 (fpick tags true F).len xs ∧ wr.ownsRow w.heap.size 47 5 v2 (fpick tags false F).len ys ∧
    Cls wr (fun q => q < w.heap.size) xs (fpick tags true F) ∧ Cls wr (fun q => q < w.heap.size) ys (fpick tags false F) ∧ (∀ g, v1.ownBlock = some g → v2.ownBlock ≠ some g) ∧
    v1.ownBlock ≠ some w.heap.size ∧ v2.ownBlock ≠ some w.heap.size ∧ TgMap wr w.heap.size tags.length tags ∧ Below w.heap.size w wr
/-- Fields that lie as cells, appended to a row of the call's own. -/
theorem fapp_cls (t ty e : TypeId) (i : TypeInfo) (ht : Tryd.prog.underlying t = some (.slice e)) (hi : Tryd.prog.info? e = some i) (hz : i.zero = some zfield) (hsz : i.size = 5) (hby : i.bytes = 64) {w : World}
    {base : Nat} {A : Option Addr} {c b d : Nat} {f g : Fs} {xs ys : List Value} (hown : w.ownsRow base e 5 (.slice A f.len c) f.len xs) {J : Nat → Prop} (hc : Cls w J xs f) (hJ : ∀ k, J k → (Value.slice A f.len c).ownBlock ≠ some k)
    (hy : Cls w J ys g) (hy2 : ∀ j u, ys[j]? = some u → w.cell? ((⟨b, 0, none⟩ : Addr).add j) = some u) (h0 : 0 < g.len) (h60 : f.len + g.len ≤ 2000000) (hb : base ≤ w.heap.size) :
    ∃ (A' : Option Addr) (c' : Nat) (w' : World) (xs' : List Value), (Builtin.append_ #[t, t] ty #[.slice A f.len c, .slice (some ⟨b, 0, none⟩) g.len d]).run Tryd.prog w = .ok (.slice A' (f.app g).len c') w' ∧ w'.ownsRow base e 5 (.slice A' (f.app g).len c') (f.app g).len xs' ∧
      Cls w' J xs' (f.app g) ∧ w.grownBy w' (Value.slice A f.len c).ownBlock ∧ ((Value.slice A' (f.app g).len c').ownBlock = (Value.slice A f.len c).ownBlock ∨ (Value.slice A' (f.app g).len c').ownBlock = some w.heap.size) := by
  have hyl := hy.length
  obtain ⟨g', cap, w', hr, h2, h3, h4, h5⟩ := run_append_lies (P := Tryd.prog) w t ty base e i zfield 5 64 ht hi hz hsz hby rfl (by decide) _ f.len xs hown ⟨b, 0, none⟩ g.len d ys (by omega) hy2 (cls_one hy) (by omega) (by unfold maxLen; omega) (by omega) hb w.heap.size rfl
  have hcl := ((hc.lt.app hy.lt).tch (S := fun k => (Value.slice A f.len c).ownBlock = some k) (Tch.grown h3 fun k hk _ => hk) fun k hk => hJ k hk.1).imp fun k hk => hk.1
  rw [Fs.app_len]
  refine ⟨some ⟨g', 0, none⟩, cap, w', _, hr, h2, hcl, h3, ?_⟩
  rcases h4 with h4 | h4
  · exact .inl h4.symm
  · right; rw [h4]; rfl
/-- One field more on one of the two rows; what else the call owns stays. -/
theorem sp_step {w wr W w' : World} {m : Nat} {tags : List Nat} {A A' : Option Addr} {c c' : Nat} {f1 f1' f2 : Fs} {v2 : Value} {xs ys : List Value} (hb : Below w.heap.size w wr) (hW : Below wr.heap.size wr W) (hm : m < wr.heap.size)
    (hown1 : wr.ownsRow w.heap.size 47 5 (.slice A f1.len c) f1.len xs) (hown2 : wr.ownsRow w.heap.size 47 5 v2 f2.len ys) (hcl2 : Cls wr (fun q => q < w.heap.size) ys f2) (hne : ∀ g, (Value.slice A f1.len c).ownBlock = some g → v2.ownBlock ≠ some g)
    (hn1 : (Value.slice A f1.len c).ownBlock ≠ some m) (hmap : TgMap wr m tags.length tags) (hg : W.grownBy w' (Value.slice A f1.len c).ownBlock)
    (hat : (Value.slice A' f1'.len c').ownBlock = (Value.slice A f1.len c).ownBlock ∨ (Value.slice A' f1'.len c').ownBlock = some W.heap.size) :
    w'.ownsRow w.heap.size 47 5 v2 f2.len ys ∧ Cls w' (fun q => q < w.heap.size) ys f2 ∧ (∀ g, (Value.slice A' f1'.len c').ownBlock = some g → v2.ownBlock ≠ some g) ∧ (Value.slice A' f1'.len c').ownBlock ≠ some m ∧ TgMap w' m tags.length tags ∧ Below w.heap.size w w' := by
  have hwz := hW.size
  have hbW : Below w.heap.size w W := hb.trans (hW.mono hb.size)
  have hge : ∀ g, (Value.slice A f1.len c).ownBlock = some g → w.heap.size ≤ g := fun g h => (hown1.lt g h).1
  have hmW : TgMap W m tags.length tags := by
    obtain ⟨es, clock, h1, h2⟩ := hmap
    exact ⟨es, clock, (hW.block m hm).trans h1, h2⟩
  refine ⟨?_, ?_, ?_, ?_, ?_, ?_⟩
  · refine World.ownsRow.kept (own_below hown2 hW) hg ?_
    cases h : v2.ownBlock with
    | none => exact .inl rfl
    | some g => exact .inr fun e => hne g e.symm h
  · exact (hcl2.below hW).tch (Tch.grown (S := fun k => (Value.slice A f1.len c).ownBlock = some k) hg fun k hk _ => hk) fun k hk h => by have := hge k h; omega
  · intro g h1 h2
    rcases hat with h | h
    · exact hne g (h ▸ h1) h2
    · have := (hown2.lt g h2).2
      rw [h] at h1
      injection h1 with h1
      omega
  · rcases hat with h | h
    · rw [h]; exact hn1
    · rw [h]
      intro h1
      injection h1 with h1
      omega
  · exact World.ownsMap.kept hmW hg fun h => hn1 h.symm
  · exact hbW.trans (Tch.grown (S := fun k => (Value.slice A f1.len c).ownBlock = some k) hg (fun k hk _ => hk) |>.toBelowB hbW.size fun k hk h => by have := hge k h; omega)
theorem own_slT {w : World} {base : Nat} {e : TypeId} {v : Value} {xs : List Value} {f : Fs} {J : Nat → Prop} (h : w.ownsRow base e 5 v f.len xs) (hc : Cls w J xs f) : SlV w (fun _ => True) v f := by
  rcases h.2 with ⟨rfl, h0⟩ | ⟨g, cap, cur, rfl, hb, hg, hn, _⟩
  · have := Fs.len_zero h0
    subst this
    exact SlV.nil _ _ _ _
  · refine ⟨some ⟨g, 0, none⟩, cap, rfl, hn, .inr ⟨g, 0, rfl, trivial, (Array.getElem?_eq_some_iff.1 hg).1, (hc.imp fun _ _ => trivial).at_ fun j u hj => ?_⟩⟩
    have := h.cells (g := g) rfl j u hj
    rwa [add_at, ← Nat.zero_add j] at this
/-- A clone, as a list of fields in new memory. -/
theorem clone_new {w : World} {f : Fs} {e : Ending} {w' : World} (h : FCloneEnd w f e w') : ∃ (A : Option Addr) (c : Nat), e = .returned (.slice A f.len c) ∧ SlV w' (w.heap.size ≤ ·) (.slice A f.len c) f ∧ Below w.heap.size w w' := by
  obtain ⟨A, c, g0, xs, rfl, hcc, hown, hcls, hg0, howng, hb⟩ := h
  obtain ⟨A9, c9, hv9, hs9⟩ := own_slv hown (hcls.imp (J := fun q => w.heap.size ≤ q) fun q hq => by have := hq.1; omega) fun q hq => hq
  injection hv9 with h1 h2 h3
  subst h1 h3
  exact ⟨A, c, rfl, hs9, hb⟩
/-- The end of Split. -/
def SplitEnd (w : World) (tags : List Nat) (f : Fs) (e : Ending) (w' : World) : Prop :=
  ∃ (A B : Option Addr) (c d : Nat), e = .returned (.tuple #[.slice A (fpick tags true f).len c, .slice B (fpick tags false f).len d]) ∧ SlV w' (w.heap.size ≤ ·) (.slice A (fpick tags true f).len c) (fpick tags true f) ∧
    SlV w' (w.heap.size ≤ ·) (.slice B (fpick tags false f).len d) (fpick tags false f) ∧ Below w.heap.size w w'

theorem split_any (A : Option Addr) (c : Nat) (f : Fs) (B : Option Addr) (d : Nat) (tags : List Nat) (I : Nat → Prop) (w : World) (hr : SlV w I (.slice A f.len c) f) (ht : Rd w B (u64s tags)) (hl : f.count ≤ 1000000) (htl : tags.length ≤ 1000000)
    (h64 : ∀ t ∈ tags, t < 18446744073709551616) (hf : f.All FKd) :
    Calls Tryd.prog 15 #[.slice A f.len c, .slice B tags.length d] w (SplitEnd w tags f) := by
  have HR := Lib.hid hr.lt
  have HT := Lib.hid ht
  have H64 := Lib.hid h64
  have HF := Lib.hid hf
  have hfl := Nat.le_trans f.len_count hl
  have HL := Lib.hid hl
  have hcc : f.len ≤ c := by obtain ⟨A', c', hv, hc, _⟩ := hr; injection hv with e1 e2 e3; omega
  have hmm := run_makeMap_hint
  obtain ⟨i0, hi0, hz0, hz1, hz2⟩ := info_parts info_field
  have H0 : Hid (TgMap (w.alloc (.map #[] 0)) w.heap.size 0 (tags.take 0)) := World.ownsMap_made _ _ _ _
  clear hr ht h64 hf
  go_enter Tryd.func15, Tryd.ntmps15
  go_wp2_with fail
  go_loopg [15] tags.length (fun gk ki wr => ∃ k : Nat, k ≤ tags.length ∧ tags.length - k ≤ gk ∧ ki = .int .i64 (k : Int) ∧ Hid (TgMap wr w.heap.size k (tags.take k)) ∧ Below w.heap.size w wr)
  case atStart => exact ⟨0, Nat.zero_le _, by omega, rfl, H0, ba b0 _⟩
  case round =>
    obtain ⟨k, hkl, hgk, rfl, HM, hb⟩ := hrel
    have HB := Lib.hid hb
    by_cases hlt : k < tags.length
    · obtain ⟨b, off, rfl, hbl, hcell⟩ := (HT.out.below hb).at_ (k := k) (by rw [u64s, List.length_map]; exact hlt)
      have HTK : Hid (tagMap (H := Unit) (tags.take (k + 1)) = (tagMap (tags.take k)).put (.int .u64 (tags[k] : Int)) (.lit (.bool true))) := by
        show _ = _
        rw [← List.take_append_getElem hlt, tagMap_snoc]
      have hwf : (Lit.int .u64 (tags[k] : Int)).wf = true := by
        have := H64.out _ (List.getElem_mem hlt)
        simp only [Lit.wf, show IntKind.u64.min = 0 from rfl, show IntKind.u64.max = 18446744073709551615 from rfl, Bool.and_eq_true, decide_eq_true_eq]
        omega
      simp only [u64s, List.getElem_map] at hcell
      generalize tags[k] = t at *
      clear hb
      go_wp2_with (at_mapUpdate; refine wpList_mapUpdate_own (H := Unit) _ rfl _ _ _ 80 rfl 39 4 key_u64 Tryd.underlying80 _ _ _ _ rfl HM.out (by unfold maxLen; omega) _ _ _ rfl rfl (Maps.keyOf_int_mk Tryd.underlying39 hwf) _ _ (plainElem_bool Tryd.underlying4 true) ?_; intro w1 hown1 hgrow1)
      go_roundg (tags.length - (k + 1))
      case measure => omega
      case rel =>
        refine ⟨k + 1, by omega, Nat.le_refl _, by go_num, ?_, bg HB.out hgrow1 (Nat.le_refl _)⟩
        show TgMap _ _ _ _
        unfold TgMap
        rw [HTK.out]
        exact hown1
    · obtain rfl : k = tags.length := by omega
      rw [List.take_of_length_le (Nat.le_refl _)] at HM
      have H1 : Hid (SpAt w tags (f.take 0) (.slice none 0 0) (.slice none 0 0) wr) := by
        have e : f.take 0 = .nil := by cases f <;> rfl
        rw [e]
        exact ⟨none, none, 0, 0, [], [], rfl, rfl, World.ownsRow_nil _ _ _ _, World.ownsRow_nil _ _ _ _, trivial, trivial, (fun g h => by cases h), (by simp [Value.ownBlock]), (by simp [Value.ownBlock]), HM.out, hb⟩
      clear hb HM HB
      go_wp2_with fail
      go_loopg [4, 5, 24] f.len (fun gk v1 v2 ki wr => ∃ k : Nat, k ≤ f.len ∧ f.len - k ≤ gk ∧ ki = .int .i64 (k : Int) ∧ Hid (SpAt w tags (f.take k) v1 v2 wr))
      case atStart => exact ⟨0, Nat.zero_le _, by omega, rfl, H1⟩
      case round =>
        obtain ⟨k, hkl, hgk, rfl, HS⟩ := hrel
        obtain ⟨A1, B1, c1, d1, xs, ys, rfl, rfl, hown1, hown2, hcl1, hcl2, hne, hn1, hn2, hmap, hb⟩ := HS.out
        by_cases hlt : k < f.len
        · obtain ⟨t, y, n, s, i, hdc, htk⟩ := f.drop_cons k hlt
          obtain ⟨A0, c0, hv, hc0, hor⟩ := HR.out.below hb
          injection hv with hv1 hv2 hv3
          subst hv1 hv3
          rcases hor with h0 | ⟨b, o, rfl, hIb, hbl, hat⟩
          · omega
          have hak := hat.drop k
          rw [hdc] at hak
          obtain ⟨d0, d1', d2, d3, ⟨Ai, ci, d4, hci, hin⟩, _⟩ := hak
          have HSI : Hid (SlV wr (fun q => q < w.heap.size) (.slice Ai i.len ci) i) := SlV.imp (I := fun k => I k ∧ k < w.heap.size) ⟨Ai, ci, rfl, hci, hin⟩ fun q hq => hq.2
          have HWF : Hid ((Lit.int .u64 (t : Int)).wf = true) := by
            have h1 := HF.out.drop k
            rw [hdc] at h1
            have h2 : t < 18446744073709551616 := h1.1.1
            show _ = true
            simp only [Lit.wf, show IntKind.u64.min = 0 from rfl, show IntKind.u64.max = 18446744073709551615 from rfl, Bool.and_eq_true, decide_eq_true_eq]
            omega
          have hpk : ∀ yes, fpick tags yes (f.take (k + 1)) = (fpick tags yes (f.take k)).app (if decide (t ∈ tags) = yes then .cons t y n s i .nil else .nil) := fun yes => by
            rw [htk, fpick_app, fpick, fpick]
          have hsw := hb.size
          have hbo := ba (a := wr) b0 (.cells #[.int .u64 (t : Int), .int .i64 y, .int .u64 (n : Int), .string s, .slice Ai i.len ci] 47)
          have hy2 := World.news_of_block (cs := #[.int .u64 (t : Int), .int .i64 y, .int .u64 (n : Int), .string s, .slice Ai i.len ci]) (t := 47) (fr := (0, 0)) (heap_alloc_new wr (.cells #[.int .u64 (t : Int), .int .i64 y, .int .u64 (n : Int), .string s, .slice Ai i.len ci] 47))
          have hy : Cls (wr.alloc (.cells #[.int .u64 (t : Int), .int .i64 y, .int .u64 (n : Int), .string s, .slice Ai i.len ci] 47)) (fun q => q < w.heap.size) [.int .u64 (t : Int), .int .i64 y, .int .u64 (n : Int), .string s, .slice Ai i.len ci] (.cons t y n s i .nil) :=
            ⟨rfl, rfl, rfl, rfl, SlV.below (f := i) HSI.out hbo, trivial⟩
          have hl1 := Nat.le_trans (fpick_len tags true (f.take k)) (Nat.le_trans (show (f.take k).len ≤ f.len by rw [f.take_len k hkl]; exact hkl) hfl)
          have hl2 := Nat.le_trans (fpick_len tags false (f.take k)) (Nat.le_trans (show (f.take k).len ≤ f.len by rw [f.take_len k hkl]; exact hkl) hfl)
          have hm0 : w.heap.size < wr.heap.size := hmap.lt
          have HAT : (tagMap (H := Unit) tags).atKey (.int .u64 (t : Int)) (.lit (.bool false)) = .lit (.bool (decide (t ∈ tags))) := tagMap_at tags t
          generalize hF1 : fpick tags true (f.take k) = F1 at *
          generalize hF2 : fpick tags false (f.take k) = F2 at *
          have hT := hpk true
          have hFa := hpk false
          rw [hF1] at hT
          rw [hF2] at hFa
          by_cases hin : t ∈ tags
          · simp only [hin, decide_true, reduceIte, Bool.true_eq_false, Fs.app_nil] at hT hFa HAT
            obtain ⟨A2, c2, w3, xs2, hrun, hown3, hcls3, hgr, hat3⟩ := fapp_cls 28 28 47 i0 Tryd.underlying28 hi0 hz0 hz1 hz2 (d := 1) (own_below hown1 hbo) (hcl1.below hbo) (fun q hq h => by have := (hown1.lt q h).1; omega) hy hy2 (by simp [Fs.len]) (by simp only [Fs.len]; omega) (Nat.le_trans hsw hbo.size)
            obtain ⟨k2, kc2, kne, kn1, kmap, kb⟩ := sp_step hb hbo hm0 hown1 hown2 hcl2 hne hn1 hmap hgr hat3
            have HN : Hid (SpAt w tags (f.take (k + 1)) (.slice A2 (F1.app (.cons t y n s i .nil)).len c2) (.slice B1 F2.len d1) w3) := by
              unfold SpAt
              rw [hT, hFa]
              refine ⟨A2, B1, c2, d1, xs2, ys, rfl, rfl, hown3, k2, hcls3, kc2, kne, kn1, ?_, kmap, kb⟩
              exact hn2
            have HRUN := Lib.hid hrun
            have HMAP := Lib.hid hmap
            have hlen1 : (Fs.cons t y n s i .nil).len = 1 := rfl
            rw [hlen1] at HRUN
            clear hown1 hown2 hcl1 hcl2 hne hn1 hn2 hmap hb hrun hown3 hcls3 hgr hat3 k2 kc2 kne kn1 kmap kb hy hy2 hbo hT hFa hpk hat hin HS
            go_wp2_with (first | (at_lookup; refine wpList_lookup_own_bool (H := Unit) _ rfl _ _ 80 rfl 39 4 key_u64 Tryd.underlying80 Tryd.underlying4 (zero_bool _) _ _ _ rfl HMAP.out _ _ rfl (Maps.keyOf_int_mk Tryd.underlying39 HWF.out) ?_; intro cc hcc2; rw [HAT] at hcc2; injection hcc2 with hcc2; injection hcc2 with hcc2; subst hcc2) | (at_builtin; (refine wpList_append_run rfl _ _ _ _ rfl _ _ _ rfl rfl HRUN.out ?_)))
            go_roundg (f.len - (k + 1))
            case measure => omega
            case rel => exact ⟨k + 1, by omega, Nat.le_refl _, by go_num, HN⟩
          · simp only [hin, decide_false, reduceIte, Bool.false_eq_true, Fs.app_nil] at hT hFa HAT
            obtain ⟨A2, c2, w3, xs2, hrun, hown3, hcls3, hgr, hat3⟩ := fapp_cls 28 28 47 i0 Tryd.underlying28 hi0 hz0 hz1 hz2 (d := 1) (own_below hown2 hbo) (hcl2.below hbo) (fun q hq h => by have := (hown2.lt q h).1; omega) hy hy2 (by simp [Fs.len]) (by simp only [Fs.len]; omega) (Nat.le_trans hsw hbo.size)
            obtain ⟨k2, kc2, kne, kn1, kmap, kb⟩ := sp_step hb hbo hm0 hown2 hown1 hcl1 (fun g h1 h2 => hne g h2 h1) hn2 hmap hgr hat3
            have HN : Hid (SpAt w tags (f.take (k + 1)) (.slice A1 F1.len c1) (.slice A2 (F2.app (.cons t y n s i .nil)).len c2) w3) := by
              unfold SpAt
              rw [hT, hFa]
              exact ⟨A1, A2, c1, c2, xs, xs2, rfl, rfl, k2, hown3, kc2, hcls3, fun g h1 h2 => kne g h2 h1, hn1, kn1, kmap, kb⟩
            have HRUN := Lib.hid hrun
            have HMAP := Lib.hid hmap
            have hlen1 : (Fs.cons t y n s i .nil).len = 1 := rfl
            rw [hlen1] at HRUN
            clear hown1 hown2 hcl1 hcl2 hne hn1 hn2 hmap hb hrun hown3 hcls3 hgr hat3 k2 kc2 kne kn1 kmap kb hy hy2 hbo hT hFa hpk hat hin HS
            go_wp2_with (first | (at_lookup; refine wpList_lookup_own_bool (H := Unit) _ rfl _ _ 80 rfl 39 4 key_u64 Tryd.underlying80 Tryd.underlying4 (zero_bool _) _ _ _ rfl HMAP.out _ _ rfl (Maps.keyOf_int_mk Tryd.underlying39 HWF.out) ?_; intro cc hcc2; rw [HAT] at hcc2; injection hcc2 with hcc2; injection hcc2 with hcc2; subst hcc2) | (at_builtin; (refine wpList_append_run rfl _ _ _ _ rfl _ _ _ rfl rfl HRUN.out ?_)))
            go_roundg (f.len - (k + 1))
            case measure => omega
            case rel => exact ⟨k + 1, by omega, Nat.le_refl _, by go_num, HN⟩
        · obtain rfl : k = f.len := by omega
          rw [Fs.take_all f _ (Nat.le_refl _)] at hown1 hown2 hcl1 hcl2 ⊢
          have h1 := Nat.le_trans (fpick_count tags true f) HL.out
          have h2 := Nat.le_trans (fpick_count tags false f) HL.out
          have hs1 := own_slT hown1 hcl1
          have hs2 := own_slT hown2 hcl2
          have HC1 : Hid (Calls Tryd.prog 35 #[.slice A1 (fpick tags true f).len c1] wr (FCloneEnd wr (fpick tags true f))) := clone_of _ _ _ _ hs1 h1
          have HC2 : Hid (∀ x : World, Below wr.heap.size wr x → Calls Tryd.prog 35 #[.slice B1 (fpick tags false f).len d1] x (FCloneEnd x (fpick tags false f))) := fun x hx => clone_of _ _ _ _ (hs2.below hx) h2
          have HE : Hid (∀ (A B : Option Addr) (c d : Nat) (w' : World), SlV w' (w.heap.size ≤ ·) (.slice A (fpick tags true f).len c) (fpick tags true f) → SlV w' (w.heap.size ≤ ·) (.slice B (fpick tags false f).len d) (fpick tags false f) → Below w.heap.size w w' →
              SplitEnd w tags f (.returned (.tuple #[.slice A (fpick tags true f).len c, .slice B (fpick tags false f).len d])) w') := fun A B c d w' a b cc => ⟨A, B, c, d, rfl, a, b, cc⟩
          have HB := Lib.hid hb
          clear hown1 hown2 hcl1 hcl2 hne hn1 hn2 hmap hb hs1 hs2 HS
          generalize fpick tags true f = F1 at *
          generalize fpick tags false f = F2 at *
          go_wp2_with fail
          refine HC1.out.mono ?_
          intro e w3 h3
          obtain ⟨A3, c3, rfl, hs3, hb3⟩ := clone_new h3
          have HS3 := Lib.hid hs3
          have HB3 := Lib.hid hb3
          clear h3 hs3 hb3
          go_wp2_with fail
          refine (HC2.out _ HB3.out).mono ?_
          intro e w4 h4
          obtain ⟨A4, c4, rfl, hs4, hb4⟩ := clone_new h4
          have HS4 : Hid (SplitEnd w tags f (.returned (.tuple #[.slice A3 F1.len c3, .slice A4 F2.len c4])) w4) := by
            have hw := HB.out.size
            have hw3 := HB3.out.size
            refine HE.out _ _ _ _ _ ((HS3.out.below hb4).imp fun q hq => ?_) (hs4.imp fun q hq => ?_) (bb (bb HB.out HB3.out) hb4)
            · exact Nat.le_trans hw hq
            · exact Nat.le_trans (Nat.le_trans hw hw3) hq
          clear h4 hs4 hb4
          go_wp2_with fail
          go_ret2
          exact HS4.out
end Go.Proofs.YtigbifiicbghpaaDoor
end

section
/-
  The plain law of layer 10, of fields split by tags and merged again. No program in sight but for names.
-/
namespace Go.Proofs.YtigbifiicbghpaaDoor
open Go.RowKit Go.PM

theorem fpick_all {P : Nat → Int → Nat → ByteArray → Prop} (tags : List Nat) (yes : Bool) : ∀ {f : Fs}, f.All P → (fpick tags yes f).All P
  | .nil, _ => trivial
  | .cons t y n s i r, h => by
    rw [fpick]
    split
    · exact ⟨h.1, h.2.1, fpick_all tags yes h.2.2⟩
    · exact fpick_all tags yes h.2.2
theorem fpick_checkP (tags : List Nat) (yes : Bool) : ∀ {f : Fs} {a w : Nat}, fcheckP f a w → fcheckP (fpick tags yes f) a w
  | .nil, _, _, _ => trivial
  | .cons t y n s i r, a, w, h => by
    rw [fpick]
    split
    · exact ⟨h.1, fpick_checkP tags yes h.2⟩
    · exact fcheckP_mono (by have := h.1.1; omega) (fpick_checkP tags yes h.2)
theorem fpick_check {f : Fs} (tags : List Nat) (yes : Bool) (hk : f.All FKd) (h : fcheck f 0 0 = 0) : fcheck (fpick tags yes f) 0 0 = 0 :=
  (fcheck_iff _ 0 0 (fpick_all tags yes hk) (by omega)).2 (fpick_checkP tags yes ((fcheck_iff f 0 0 hk (by omega)).1 h))
theorem fpick_toL (tags : List Nat) (yes : Bool) : ∀ f : Fs, (fpick tags yes f).toL = f.toL.filter fun x => decide (x.tag ∈ tags) == yes
  | .nil => rfl
  | .cons t y n s i r => by
    rw [fpick, Fs.toL, List.filter_cons]
    by_cases h : decide (t ∈ tags) = yes
    · rw [if_pos h, Fs.toL, fpick_toL tags yes r, if_pos (by simpa using h)]
    · rw [if_neg h, fpick_toL tags yes r, if_neg (by simpa using h)]
theorem fpick_perm (tags : List Nat) (yes : Bool) (f : Fs) : ((fpick tags yes f).app (fpick tags (!yes) f)).toL.Perm f.toL := by
  rw [toL_app, fpick_toL, fpick_toL]
  have h : (fun x : Fl => decide (x.tag ∈ tags) == !yes) = fun x => !(decide (x.tag ∈ tags) == yes) := by
    funext x
    cases decide (x.tag ∈ tags) <;> cases yes <;> rfl
  rw [h]
  exact List.filter_append_perm _ _
theorem check_rise : ∀ {f : Fs} {a w : Nat}, fcheckP f a w → f.toL.Pairwise (fun x y => x.tag < y.tag) ∧ ∀ x ∈ f.toL, a < x.tag
  | .nil, _, _, _ => ⟨List.Pairwise.nil, fun x hx => by cases hx⟩
  | .cons t y n s i r, a, w, h => by
    obtain ⟨h1, h2⟩ := check_rise h.2
    have h3 := h.1.1
    rw [Fs.toL]
    refine ⟨List.pairwise_cons.2 ⟨fun x hx => h2 x hx, h1⟩, fun x hx => ?_⟩
    rcases List.mem_cons.1 hx with rfl | hx
    · exact h3
    · exact Nat.lt_trans h3 (h2 x hx)
theorem fmrg_back {f l : Fs} (hp : f.toL.Perm l.toL) (h : fcheckP l 0 0) : fmrg f = (l, 0) := by
  have h1 := (check_rise h).1
  have h2 : (f.toL.map Fl.tag).Nodup := (hp.symm.map _).nodup (krise_nodup Fl.tag h1)
  unfold fmrg
  rw [if_pos h2, ← ksort_of Fl.tag hp (h1.imp fun h => Nat.le_of_lt h) h2, ofL_toL]
theorem fmerge_two {p q : Fs} (hp : fcheck p 0 0 = 0) (hq : fcheck q 0 0 = 0) : fmerge [p, q] = fmrg (p.app q) := by
  have e : fbad [p, q] = 0 := by
    rw [fbad, if_neg (by simpa using hp), fbad, if_neg (by simpa using hq)]
    rfl
  unfold fmerge
  rw [e, if_neg (by simp), fcat, fcat, fcat, Fs.app_nil]
/-- Split by any tags, and merged again, in any order. -/
theorem pick_back (tags : List Nat) (yes : Bool) {f : Fs} (hk : f.All FKd) (h : fcheck f 0 0 = 0) : fmerge [fpick tags yes f, fpick tags (!yes) f] = (f, 0) := by
  rw [fmerge_two (fpick_check _ _ hk h) (fpick_check _ _ hk h)]
  exact fmrg_back (fpick_perm tags yes f) ((fcheck_iff f 0 0 hk (by omega)).1 h)
theorem pick_twice (tags : List Nat) {f : Fs} (hk : f.All FKd) (h : fcheck f 0 0 = 0) : ((fmerge [f, fpick tags true f]).2 = 14) ↔ 0 < (fpick tags true f).len := by
  rw [fmerge_two h (fpick_check _ _ hk h)]
  by_cases h0 : (fpick tags true f).len = 0
  · rw [Fs.len_zero h0, Fs.app_nil, fmrg_back (List.Perm.refl _) ((fcheck_iff f 0 0 hk (by omega)).1 h)]
    simp [Fs.len]
  · have hne : (fpick tags true f).toL ≠ [] := fun e => h0 (by rw [← toL_len, e]; rfl)
    obtain ⟨x, hx⟩ := List.exists_mem_of_ne_nil _ hne
    have hxf : x ∈ f.toL := by
      rw [fpick_toL] at hx
      exact (List.mem_filter.1 hx).1
    have hnn : ¬ ((f.app (fpick tags true f)).toL.map Fl.tag).Nodup := fun hn => by
      rw [toL_app, List.map_append, List.nodup_append] at hn
      exact hn.2.2 _ (List.mem_map_of_mem hxf) _ (List.mem_map_of_mem hx) rfl
    unfold fmrg
    rw [if_neg hnn]
    simp
    omega
end Go.Proofs.YtigbifiicbghpaaDoor
end

section
/-
  The walk of the statement FieldTells. Conditions: numbers within their kinds; Go's tables of UTF-8 lie in memory.
-/
namespace Go.Proofs.YtigbifiicbghpaaDoor
open Go.RowKit Go.PM
set_option maxRecDepth 100000
set_option maxHeartbeats 4000000

end Go.Proofs.YtigbifiicbghpaaDoor
end

section
/-
  The walk of the statement of layer 10 that fields split by tags and merged again are as they were. Conditions: numbers within their kinds; Go's tables of UTF-8 lie in memory.
-/
namespace Go.Proofs.YtigbifiicbghpaaDoor
open Go.RowKit Go.PM
set_option maxRecDepth 100000
set_option maxHeartbeats 4000000
attribute [local go_sem ↓] Go.wp_at_zero Go.wp_at_succ

/-- Two lists of fields, merged, where the two lie as a call's arguments. -/
theorem merge_two {x : World} {A B : Option Addr} {c d : Nat} {f g : Fs} {r : Fs × Nat} (hf : SlV x (fun _ => True) (.slice A f.len c) f) (hg : SlV x (fun _ => True) (.slice B g.len d) g) (hkf : f.All FKd) (hkg : g.All FKd) (hc : f.count + g.count ≤ 1000000)
    (hm : fmerge [f, g] = r) : Calls Tryd.prog 11 #[.slice (some ⟨x.heap.size, 0, none⟩) 2 2] (x.alloc (.cells #[.slice A f.len c, .slice B g.len d] 28)) fun e w' => ∃ (A : Option Addr) (c : Nat), e = .returned (.tuple #[.slice A r.1.len c, .int .i64 (r.2 : Int)]) ∧
      SlV w' (fun _ => True) (.slice A r.1.len c) r.1 ∧ Below x.heap.size x w' := by
  have hb := ba (a := x) b0 (.cells #[.slice A f.len c, .slice B g.len d] 28)
  have hrd : Rd (x.alloc (.cells #[.slice A f.len c, .slice B g.len d] 28)) (some ⟨x.heap.size, 0, none⟩) [.slice A f.len c, .slice B g.len d] := by
    refine .inr ⟨_, _, rfl, by simp, fun j u hj => ?_⟩
    have := World.news_of_block (cs := #[.slice A f.len c, .slice B g.len d]) (t := 28) (fr := (0, 0)) (heap_alloc_new x (.cells #[.slice A f.len c, .slice B g.len d] 28)) j u hj
    rwa [add_at, ← Nat.zero_add j] at this
  have hcc : (fcat [f, g]).count ≤ 1000000 := by
    rw [fcat, fcat, fcat, Fs.app_nil, Fs.app_count]
    exact hc
  refine (merge_any _ 2 [f, g] _ (fun _ => True) _ hrd ⟨hf.below hb, hg.below hb, trivial⟩ (fun y hy => ?_) hcc (by simp)).mono ?_
  · simp at hy
    rcases hy with rfl | rfl
    · exact hkf
    · exact hkg
  · rintro e w' ⟨A', c', rfl, hs, hb2⟩
    rw [hm] at hs ⊢
    exact ⟨A', c', rfl, hs.imp fun _ _ => trivial, bb hb hb2⟩
theorem pback_walk (A A' : Option Addr) (cap cap' : Nat) (l : List One) (tags : List Nat) (w : World) (hT : Tabs w) (hr : OnesRd w.heap.size w A l) (hr' : Rd w A' (u64s tags)) (hok : ∀ x ∈ l, x.ok) (h64 : ∀ t ∈ tags, In64 t)
    (hl : l.length ≤ cap) (hc : cap ≤ 9223372036854775807) (htl : tags.length ≤ 9223372036854775807) :
    Calls Tryd.prog 5 #[.slice A l.length cap, .slice A' tags.length cap'] w fun e w' => e = .returned (.bool true) ∧ Below w.heap.size w w' := by
  have HA := Lib.hid (awake10 w hT)
  have hb1 : Below w.heap.size w w := b0
  have HF : Hid (∀ x : World, Below w.heap.size w x → Calls Tryd.prog 8 #[.slice A l.length cap] x fun e w' => e = .returned (.bool (few l)) ∧ Below x.heap.size x w') := fun x hx => few_any w.heap.size A cap l x (hr.belowB hx) hok (by omega)
  have HR := Lib.hid hr
  have HR' := Lib.hid hr'
  have HOK := Lib.hid hok
  have H64 : Hid (∀ t ∈ tags, t < 18446744073709551616) := fun t ht => h64 t ht
  have HL : Hid (l.length ≤ cap ∧ cap ≤ 9223372036854775807) := ⟨hl, hc⟩
  clear hT hr hr' hok h64
  generalize hfa : few l = fa at HF
  have HFA := Lib.hid hfa
  clear hfa
  cases fa with
  | false =>
    go_enter Tryd.func5, Tryd.ntmps5
    go_wp2_with fail
    refine (HA.out).mono ?_
    rintro e w1 ⟨rfl, hb2⟩
    replace hb1 := bb hb1 hb2
    clear hb2
    go_wp2_with fail
    refine (HF.out _ hb1).mono ?_
    rintro e w2 ⟨rfl, hb2⟩
    replace hb1 := bb hb1 hb2
    clear hb2
    go_wp2
    go_ret
    exact ⟨rfl, hb1⟩
  | true =>
  by_cases h40 : 40 < tags.length
  · have h40i : (40 : Int) < (tags.length : Int) := by omega
    go_enter Tryd.func5, Tryd.ntmps5
    go_wp2_with fail
    refine (HA.out).mono ?_
    rintro e w1 ⟨rfl, hb2⟩
    replace hb1 := bb hb1 hb2
    clear hb2
    go_wp2_with fail
    refine (HF.out _ hb1).mono ?_
    rintro e w2 ⟨rfl, hb2⟩
    replace hb1 := bb hb1 hb2
    clear hb2
    go_wp2
    go_ret
    exact ⟨rfl, hb1⟩
  · have h40i : ¬ (40 : Int) < (tags.length : Int) := by omega
    obtain ⟨ht3, h60⟩ := few_ok HFA.out
    have HM : Hid (∀ x : World, Below w.heap.size w x → Calls Tryd.prog 9 #[.slice A l.length cap] x (MakeEnd x l.length)) := fun x hx => make_any w.heap.size A cap l x hx.size (HR.out.belowB hx) (fun x hx => ⟨HOK.out x hx, ht3 x hx⟩) h60 HL.out.1 HL.out.2
    clear ht3
    go_enter Tryd.func5, Tryd.ntmps5
    go_wp2_with fail
    refine (HA.out).mono ?_
    rintro e w1 ⟨rfl, hb2⟩
    replace hb1 := bb hb1 hb2
    clear hb2
    go_wp2_with fail
    refine (HF.out _ hb1).mono ?_
    rintro e w2 ⟨rfl, hb2⟩
    replace hb1 := bb hb1 hb2
    clear hb2
    go_wp2_with fail
    refine (HM.out _ hb1).mono ?_
    rintro e w4 ⟨f, Af, cf, rfl, hfc, hfk, hfs, hb2⟩
    replace hb1 := bb hb1 hb2
    have HFC : Hid (f.count ≤ 1000 ∧ f.count ≤ 1000000) := by constructor <;> omega
    have HFK : Hid (f.All FKd) := hfk.imp fun _ _ _ _ h => h.kd
    have HFS : Hid (SlV w4 (fun _ => True) (.slice Af f.len cf) f) := hfs.imp fun _ _ => trivial
    have hx : Below w4.heap.size w4 w4 := b0
    have hfl := Nat.le_trans f.len_count HFC.out.2
    clear hb2 hfc hfk hfs HM
    have HC1 : Hid (∀ x : World, Below w4.heap.size w4 x → Calls Tryd.prog 14 #[.slice Af f.len cf] x fun e w' => e = .returned (.int .i64 (fcheck f 0 0 : Int)) ∧ Below x.heap.size x w') := fun x hx => check_of _ f _ x (HFS.out.below hx) HFK.out HFC.out.2
    by_cases hck : fcheck f 0 0 = 0
    · have HCK := Lib.hid hck
      have e0 : ((fcheck f 0 0 : Int)) = 0 := by omega
      rw [e0] at HC1
      clear hck e0
      go_wp2_with fail
      refine (HC1.out _ hx).mono ?_
      rintro e w5 ⟨rfl, hb2⟩
      replace hb1 := bb hb1 hb2
      replace hx := bb hx hb2
      have HSP := Lib.hid (split_any Af cf f A' cap' tags _ w5 (HFS.out.below hx) (HR'.out.below hb1) HFC.out.2 (by omega) H64.out HFK.out)
      clear hb2 HC1
      go_wp2_with fail
      refine HSP.out.mono ?_
      rintro e w6 ⟨B1, B2, c1, c2, rfl, hs1, hs2, hb2⟩
      replace hb1 := bb hb1 hb2
      replace hx := bb hx hb2
      have HS1 : Hid (SlV w6 (fun _ => True) (.slice B1 (fpick tags true f).len c1) (fpick tags true f)) := hs1.imp fun _ _ => trivial
      have HS2 : Hid (SlV w6 (fun _ => True) (.slice B2 (fpick tags false f).len c2) (fpick tags false f)) := hs2.imp fun _ _ => trivial
      have hy : Below w6.heap.size w6 w6 := b0
      have hn1 := fpick_count tags true f
      have hn2 := fpick_count tags false f
      have hln1 := Nat.le_trans (fpick_len tags true f) hfl
      have HN : Hid ((fpick tags true f).count ≤ 1000 ∧ (fpick tags false f).count ≤ 1000) := by have := HFC.out.1; constructor <;> omega
      have HK1 := Lib.hid (fpick_all tags true HFK.out)
      have HK2 := Lib.hid (fpick_all tags false HFK.out)
      have HMA : Hid (fmerge [fpick tags true f, fpick tags false f] = (f, 0)) := pick_back tags true HFK.out HCK.out
      have HMB : Hid (fmerge [fpick tags false f, fpick tags true f] = (f, 0)) := pick_back tags false HFK.out HCK.out
      have HMC : Hid (((fmerge [f, fpick tags true f]).2 = 14) ↔ 0 < (fpick tags true f).len) := pick_twice tags HFK.out HCK.out
      have HE1 : Hid (fcheck (fpick tags true f) 0 0 = 0) := fpick_check tags true HFK.out HCK.out
      have HE2 : Hid (fcheck (fpick tags false f) 0 0 = 0) := fpick_check tags false HFK.out HCK.out
      clear hb2 hs1 hs2 HSP hn1 hn2 HR HR' H64
      generalize fpick tags true f = F1 at *
      generalize fpick tags false f = F2 at *
      have HD1 : Hid (∀ x : World, Below w6.heap.size w6 x → Calls Tryd.prog 14 #[.slice B1 F1.len c1] x fun e w' => e = .returned (.int .i64 0) ∧ Below x.heap.size x w') := fun x hx => by
        have := check_of _ F1 _ x (HS1.out.below hx) HK1.out (by have := HN.out; omega)
        rwa [HE1.out] at this
      have HD2 : Hid (∀ x : World, Below w6.heap.size w6 x → Calls Tryd.prog 14 #[.slice B2 F2.len c2] x fun e w' => e = .returned (.int .i64 0) ∧ Below x.heap.size x w') := fun x hx => by
        have := check_of _ F2 _ x (HS2.out.below hx) HK2.out (by have := HN.out; omega)
        rwa [HE2.out] at this
      have HM1 := Lib.hid (merge_two HS1.out HS2.out HK1.out HK2.out (by have := HN.out; omega) HMA.out)
      go_wp2_with fail
      refine HM1.out.mono ?_
      rintro e w7 ⟨X, cX, rfl, hsX, hb2⟩
      replace hb1 := bb hb1 hb2
      replace hx := bb hx hb2
      replace hy := bb hy hb2
      have HSX := Lib.hid hsX
      have hp : Below w7.heap.size w7 w7 := b0
      have HM2 := Lib.hid (merge_two (HS2.out.below hy) (HS1.out.below hy) HK2.out HK1.out (by have := HN.out; omega) HMB.out)
      clear hb2 hsX HM1
      go_wp2_with fail
      refine HM2.out.mono ?_
      rintro e w8 ⟨Y, cY, rfl, hsY, hb2⟩
      replace hb1 := bb hb1 hb2
      replace hx := bb hx hb2
      replace hy := bb hy hb2
      replace hp := bb hp hb2
      have HSY := Lib.hid hsY
      have hq : Below w8.heap.size w8 w8 := b0
      have HM3 := Lib.hid (merge_two (r := fmerge [f, F1]) (HFS.out.below hx) (HS1.out.below hy) HFK.out HK1.out (by have := HN.out; have := HFC.out; omega) rfl)
      clear hb2 hsY HM2
      generalize fmerge [f, F1] = R at *
      obtain ⟨R, E⟩ := R
      go_wp2_with fail
      refine HM3.out.mono ?_
      rintro e w9 ⟨Z, cZ, rfl, _, hb2⟩
      replace hb1 := bb hb1 hb2
      replace hx := bb hx hb2
      replace hy := bb hy hb2
      replace hp := bb hp hb2
      replace hq := bb hq hb2
      have HT1 : Hid (∀ x : World, Below w7.heap.size w7 x → Below w4.heap.size w4 x → Calls Tryd.prog 21 #[.slice X f.len cX, .slice Af f.len cf] x fun e w' => e = .returned (.bool true) ∧ Below x.heap.size x w') := fun x hx hy => by
        have := same_of _ _ f f _ x (HSX.out.below hx) (HFS.out.below hy) HFC.out.2 HFC.out.2
        rwa [same_self] at this
      have HT2 : Hid (∀ x : World, Below w8.heap.size w8 x → Below w4.heap.size w4 x → Calls Tryd.prog 21 #[.slice Y f.len cY, .slice Af f.len cf] x fun e w' => e = .returned (.bool true) ∧ Below x.heap.size x w') := fun x hx hy => by
        have := same_of _ _ f f _ x (HSY.out.below hx) (HFS.out.below hy) HFC.out.2 HFC.out.2
        rwa [same_self] at this
      have HEQ : Hid ((((E : Int) == 14) == decide (0 < F1.len)) = true) := by
        have h1 := HMC.out
        show _ = _
        by_cases h : 0 < F1.len
        · have h2 := h1.2 h
          have h3 : ((E : Int) == 14) = true := by rw [beq_iff_eq]; omega
          rw [h3, decide_eq_true h]
          rfl
        · have h2 : ¬ E = 14 := fun e => h (h1.1 e)
          have h3 : ((E : Int) == 14) = false := by rw [beq_eq_false_iff_ne]; omega
          rw [h3, decide_eq_false h]
          rfl
      clear hb2 HM3 HMA HMB HMC
      go_wp2_with fail
      refine (HT1.out _ hp hx).mono ?_
      rintro e w10 ⟨rfl, hb2⟩
      replace hb1 := bb hb1 hb2
      replace hx := bb hx hb2
      replace hy := bb hy hb2
      replace hp := bb hp hb2
      replace hq := bb hq hb2
      clear hb2
      go_wp2_with fail
      refine (HT2.out _ hq hx).mono ?_
      rintro e w11 ⟨rfl, hb2⟩
      replace hb1 := bb hb1 hb2
      replace hx := bb hx hb2
      replace hy := bb hy hb2
      replace hp := bb hp hb2
      replace hq := bb hq hb2
      clear hb2
      go_wp2_with fail
      refine (HD1.out _ hy).mono ?_
      rintro e w12 ⟨rfl, hb2⟩
      replace hb1 := bb hb1 hb2
      replace hx := bb hx hb2
      replace hy := bb hy hb2
      replace hp := bb hp hb2
      replace hq := bb hq hb2
      clear hb2
      go_wp2_with fail
      refine (HD2.out _ hy).mono ?_
      rintro e w13 ⟨rfl, hb2⟩
      replace hb1 := bb hb1 hb2
      replace hx := bb hx hb2
      replace hy := bb hy hb2
      replace hp := bb hp hb2
      replace hq := bb hq hb2
      clear hb2
      have HEE : Hid (Ending.returned (Value.bool (((E : Int) == 14) == decide (0 < F1.len))) = .returned (.bool true)) := by
        show _ = _
        rw [HEQ.out]
      go_wp2
      go_ret
      exact ⟨HEE.out, hb1⟩
    · have hgi : (((fcheck f 0 0 : Nat) : Int) != 0) = true := by rw [bne_iff_ne]; omega
      generalize fcheck f 0 0 = E at *
      go_wp2_with fail
      refine (HC1.out _ hx).mono ?_
      rintro e w5 ⟨rfl, hb2⟩
      replace hb1 := bb hb1 hb2
      clear hb2
      go_wp2
      go_ret
      exact ⟨rfl, hb1⟩
end Go.Proofs.YtigbifiicbghpaaDoor
end

section
/-
  Go's two tables of UTF-8, as the rows list them: what they give a walk; a world that holds them. (The rows of this seat list the same two variables.)
-/
namespace Go.Proofs.YtigbifiicbghpaaDoor
open Go.Lib
set_option maxRecDepth 100000
theorem accept_eq : (Rows.laid_unicode_utf8_acceptRanges : DataW Unit) = Lib.acceptData := by kernel_rfl
theorem tabs_of_laid {W : World} (h : laidMetH Tryd.prog [("unicode/utf8.acceptRanges", Rows.laid_unicode_utf8_acceptRanges), ("unicode/utf8.first", Rows.laid_unicode_utf8_first)] W) : Tabs W := by
  have h4 := Lib.laidMet.reads h (.head _)
  have h3 := Lib.laidMet.reads h (.tail _ (.head _))
  rw [accept_eq] at h4
  rw [show Rows.laid_unicode_utf8_first = Lib.firstData from Pinned.utf8First_eq] at h3
  exact utf8Tabs_of_readsT (U8Types.of196 Tryd.lays196) ⟨by kernel_rfl, by kernel_rfl, by kernel_rfl, by kernel_rfl, by kernel_rfl, by kernel_rfl, by kernel_rfl⟩ h3 h4
/-- The settled world, the two variables holding what their initialisers lay. -/
noncomputable def laidWorld (os : Os) : World :=
  let w0 := World.holding Tryd.prog os ⟨#[], #[], []⟩
  let put (h : Array Obj) (g : Nat) (cs : Array Value) : Array Obj := h.modify g fun
    | .cells _ t frozen => .cells cs t frozen
    | o => o
  let h1 := put w0.heap (Tryd.lays196_ren.g 3) (Lib.firstTab.map fun z => Value.int .u8 z).toArray
  let h2 := put h1 (Tryd.lays196_ren.g 4) ((List.range 16).flatMap fun i => [Value.int .u8 (Lib.accLo i), Value.int .u8 (Lib.accHi i)]).toArray
  { w0 with heap := h2 }
theorem laid_met (os : Os) (args : Array Value) : laidMet Tryd.prog [("unicode/utf8.acceptRanges", Rows.laid_unicode_utf8_acceptRanges), ("unicode/utf8.first", Rows.laid_unicode_utf8_first)] ((laidWorld os).forCall (fun _ _ => 0) ⟨#[], args, []⟩).memory :=
  (LaidIn.of_run (l := [("unicode/utf8.acceptRanges", Rows.laid_unicode_utf8_acceptRanges), ("unicode/utf8.first", Rows.laid_unicode_utf8_first)]) [Tryd.lays196_ren.g 4, Tryd.lays196_ren.g 3] 8 (by kernel_rfl) (by kernel_rfl) (by kernel_rfl) (by kernel_rfl)).met
theorem own : ownKnob Tryd.prog.godebug = none := by kernel_rfl
theorem laidOut : laidOutB Tryd.prog = true := by kernel_rfl
end Go.Proofs.YtigbifiicbghpaaDoor
end
