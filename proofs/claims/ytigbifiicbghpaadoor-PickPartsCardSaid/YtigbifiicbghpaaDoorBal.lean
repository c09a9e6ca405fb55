/-
  Texts of the proof, joined: Pick3 MapB Pick4 RPick1 FldLaw3. Conditions: as each names.
-/
import Derived.Test.YtigbifiicbghpaaDoorBak
import Derived.Test.YtigbifiicbghpaaDoorBah
import Derived.Maps.OwnSet
import Derived.Test.YtigbifiicbghpaaDoorBaf
import Derived.Test.YtigbifiicbghpaaDoorBaj
import Derived.Test.YtigbifiicbghpaaDoorBad
import Derived.Test.YtigbifiicbghpaaDoorBae

section
/-
  Layer 10: all tags (pick.Tags), and the chapter's example. Conditions: at most a million fields; Go's tables of UTF-8 lie in memory.
-/
namespace Go.Proofs.YtigbifiicbghpaaDoor
open Go.RowKit Go.PM
set_option maxRecDepth 100000
set_option maxHeartbeats 2000000
attribute [local go_sem ↓] Go.wp_at_zero Go.wp_at_succ

theorem info_pu64 : (Tryd.prog.info? 39).map (fun i => (i.zero, i.size, i.bytes)) = some (some (.int .u64 0), 1, 8) := by kernel_rfl
/-- All fields' tags. -/
def ftags (f : Fs) : List Nat := f.toL.map Fl.tag
theorem ftags_len (f : Fs) : (ftags f).length = f.len := by rw [ftags, List.length_map, toL_len]
theorem slv_tag {w : World} {I : Nat → Prop} {A : Option Addr} {c : Nat} {f : Fs} (h : SlV w I (.slice A f.len c) f) (k : Nat) (hk : k < f.len) :
    ∃ b o, A = some ⟨b, o, none⟩ ∧ b < w.heap.size ∧ w.cell? ⟨b, o + k * 5, none⟩ = some (.int .u64 ((f.toL[k]'(by rw [toL_len]; exact hk)).tag : Int)) := by
  obtain ⟨A', c', hv, hc, hor⟩ := h
  injection hv with e1 e2 e3
  subst e1 e3
  rcases hor with h0 | ⟨b, o, rfl, hI, hb, hat⟩
  · omega
  · obtain ⟨t, y, n, s, i, hd, _⟩ := f.drop_cons k hk
    have h1 := hat.drop k
    rw [hd] at h1
    have h2 := toL_drop hd
    rw [List.getElem?_eq_getElem (by rw [toL_len]; exact hk)] at h2
    injection h2 with h2
    rw [h2]
    exact ⟨b, o, rfl, hb, h1.1⟩
theorem tags_any (A : Option Addr) (c : Nat) (f : Fs) (I : Nat → Prop) (w : World) (hr : SlV w I (.slice A f.len c) f) (hl : f.len ≤ 1000000) :
    Calls Tryd.prog 20 #[.slice A f.len c] w fun e w' => ∃ (A' : Option Addr) (c' : Nat), e = .returned (.slice A' f.len c') ∧ PM.Rd w' A' (u64s (ftags f)) ∧ f.len ≤ c' ∧ Below w.heap.size w w' := by
  obtain ⟨i0, hi0, hz0, hz1, hz2⟩ := info_parts info_pu64
  have HR := Lib.hid hr
  have hcc : f.len ≤ c := by obtain ⟨A', c', hv, hc, _⟩ := hr; injection hv with e1 e2 e3; omega
  have H0 : Hid (w.ownsRow w.heap.size 39 1 (.slice none 0 0) 0 (u64s ((ftags f).take 0))) := World.ownsRow_nil _ _ _ _
  clear hr
  go_enter Tryd.func20, Tryd.ntmps20
  go_wp2_with fail
  go_loopg [3, 7] f.len (fun gk vv ki wr => ∃ k : Nat, k ≤ f.len ∧ f.len - k ≤ gk ∧ ki = .int .i64 (k : Int) ∧ Hid (wr.ownsRow w.heap.size 39 1 vv k (u64s ((ftags f).take k))) ∧ Below w.heap.size w wr)
  case atStart => exact ⟨0, Nat.zero_le _, by omega, rfl, H0, b0⟩
  case round =>
    obtain ⟨k, hkl, hgk, rfl, HO, hb⟩ := hrel
    have HB := Lib.hid hb
    by_cases hlt : k < f.len
    · obtain ⟨b, o, rfl, hbl, hcell⟩ := slv_tag (HR.out.below hb) k hlt
      have hkt : k < f.toL.length := by rw [toL_len]; exact hlt
      have HTK : Hid (u64s ((ftags f).take (k + 1)) = u64s ((ftags f).take k) ++ [.int .u64 ((f.toL[k]'hkt).tag : Int)]) := by
        show _ = _
        rw [← List.take_append_getElem (show k < (ftags f).length by rw [ftags_len]; exact hlt)]
        simp [u64s, ftags]
      generalize (f.toL[k]'hkt).tag = t at *
      have hwz := hb.size
      clear hb hkt
      go_wp2_with (at_builtin; go_must (refine wpList_append_own _ rfl _ _ 40 rfl w.heap.size 39 i0 (.int .u64 0) 1 8 Tryd.underlying40 hi0 hz0 hz1 hz2 rfl (by decide) _ _ _ rfl (HO.out.alloc _) ⟨wr.heap.size, 0, none⟩ 1 1 [.int .u64 (t : Int)] rfl rfl (one_new _ _ _) (one_cell_int _ _) (by unfold maxLen; omega) (by omega) (by simp; omega) ?_); intro v1 w2 hown2 hg2 _)
      go_roundg (f.len - (k + 1))
      case measure => omega
      case rel =>
        refine ⟨k + 1, by omega, Nat.le_refl _, by go_num, ?_, below_append (ba HB.out _) (HO.out.alloc _) hg2⟩
        show World.ownsRow _ _ _ _ _ _ _
        rw [HTK.out]
        exact hown2
    · obtain rfl : k = f.len := by omega
      have ho := HO.out
      rw [List.take_of_length_le (by rw [ftags_len]; exact Nat.le_refl _)] at ho
      obtain ⟨A2, c2, rfl, hrd, hn, _⟩ := PM.Rd.own ho
      have HE := Lib.hid (And.intro hrd hn)
      clear ho hrd hn hb HO
      go_wp2_with fail
      go_ret
      exact ⟨A2, c2, rfl, HE.out.1, HE.out.2, HB.out⟩
theorem exam10 : fmerge [fnum 1 0 (fnum 3 0 .nil), fnum 2 0 .nil] = (fnum 1 0 (fnum 2 0 (fnum 3 0 .nil)), 0) := rfl
theorem exam10_kd : ∀ f ∈ [fnum 1 0 (fnum 3 0 .nil), fnum 2 0 .nil], f.All FKd := by
  intro f hf
  simp only [List.mem_cons, List.not_mem_nil, or_false] at hf
  rcases hf with rfl | rfl
  · exact ⟨⟨by unfold In64; omega, by unfold InI64; omega, by unfold In64; omega, by decide⟩, trivial, ⟨by unfold In64; omega, by unfold InI64; omega, by unfold In64; omega, by decide⟩, trivial, trivial⟩
  · exact ⟨⟨by unfold In64; omega, by unfold InI64; omega, by unfold In64; omega, by decide⟩, trivial, trivial⟩
theorem awake10 (w : World) (hT : Tabs w) :
    Calls Tryd.prog 7 #[] w fun e w' => e = .returned (.bool true) ∧ Below w.heap.size w w' := by
  have hb1 : Below w.heap.size w w := b0
  have HA : Hid (∀ x : World, Below w.heap.size w x → Calls Tryd.prog 30 #[] x fun e w' => e = .returned (.bool true) ∧ Below x.heap.size x w') := fun x hx => awakeE09 x (hT.below hx)
  clear hT
  go_enter Tryd.func7, Tryd.ntmps7
  go_wp2_with fail
  refine (ofnum_any 1 0 _).mono ?_
  rintro e w2 ⟨rfl, hb2⟩
  replace hb1 := bb hb1 hb2
  clear hb2
  go_wp2_with fail
  refine (ofnum_any 3 0 _).mono ?_
  rintro e w3 ⟨rfl, hb2⟩
  replace hb1 := bb hb1 hb2
  clear hb2
  go_wp2_with fail
  refine (ofnum_any 2 0 _).mono ?_
  rintro e w4 ⟨rfl, hb4⟩
  have hx1 := (((BlkAt.made w3 47 #[.int .u64 1, .int .i64 0, .int .u64 0, .string ByteArray.empty, .slice none 0 0, .int .u64 3, .int .i64 0, .int .u64 0, .string ByteArray.empty, .slice none 0 0]).below hb4 (by simp)).more (.cells #[.int .u64 2, .int .i64 0, .int .u64 0, .string ByteArray.empty, .slice none 0 0] 47)).more (.cells #[.slice (some ⟨w3.heap.size, 0, none⟩) 2 2, .slice (some ⟨w4.heap.size, 0, none⟩) 1 1] 28)
  have hx2 := (BlkAt.made w4 47 #[.int .u64 2, .int .i64 0, .int .u64 0, .string ByteArray.empty, .slice none 0 0]).more (.cells #[.slice (some ⟨w3.heap.size, 0, none⟩) 2 2, .slice (some ⟨w4.heap.size, 0, none⟩) 1 1] 28)
  have hx3 := BlkAt.made (w4.alloc (.cells #[.int .u64 2, .int .i64 0, .int .u64 0, .string ByteArray.empty, .slice none 0 0] 47)) 28 #[.slice (some ⟨w3.heap.size, 0, none⟩) 2 2, .slice (some ⟨w4.heap.size, 0, none⟩) 1 1]
  rw [World.size_alloc] at hx3
  have hs1 : SlV ((w4.alloc (.cells #[.int .u64 2, .int .i64 0, .int .u64 0, .string ByteArray.empty, .slice none 0 0] 47)).alloc (.cells #[.slice (some ⟨w3.heap.size, 0, none⟩) 2 2, .slice (some ⟨w4.heap.size, 0, none⟩) 1 1] 28)) (fun _ => True) (.slice (some ⟨w3.heap.size, 0, none⟩) 2 2) (fnum 1 0 (fnum 3 0 .nil)) := slv_blk (f := (fnum 1 0 (fnum 3 0 .nil))) hx1 ⟨rfl, rfl, rfl, rfl, SlV.nil _ _ _ _, rfl, rfl, rfl, rfl, SlV.nil _ _ _ _, trivial⟩ trivial (Nat.le_refl 2)
  have hs2 : SlV ((w4.alloc (.cells #[.int .u64 2, .int .i64 0, .int .u64 0, .string ByteArray.empty, .slice none 0 0] 47)).alloc (.cells #[.slice (some ⟨w3.heap.size, 0, none⟩) 2 2, .slice (some ⟨w4.heap.size, 0, none⟩) 1 1] 28)) (fun _ => True) (.slice (some ⟨w4.heap.size, 0, none⟩) 1 1) (fnum 2 0 .nil) := slv_blk (f := (fnum 2 0 .nil)) hx2 ⟨rfl, rfl, rfl, rfl, SlV.nil _ _ _ _, trivial⟩ trivial (Nat.le_refl 1)
  have hm := merge_any (some ⟨w4.heap.size + 1, 0, none⟩) 2 [(fnum 1 0 (fnum 3 0 .nil)), (fnum 2 0 .nil)] [.slice (some ⟨w3.heap.size, 0, none⟩) 2 2, .slice (some ⟨w4.heap.size, 0, none⟩) 1 1] (fun _ => True) ((w4.alloc (.cells #[.int .u64 2, .int .i64 0, .int .u64 0, .string ByteArray.empty, .slice none 0 0] 47)).alloc (.cells #[.slice (some ⟨w3.heap.size, 0, none⟩) 2 2, .slice (some ⟨w4.heap.size, 0, none⟩) 1 1] 28))
    (.inr ⟨_, 0, rfl, hx3.lt, fun j u hj => by rw [Nat.zero_add, hx3.cell j, ← Array.getElem?_toList]; exact hj⟩) ⟨hs1, hs2, trivial⟩
    exam10_kd (by decide) (by decide)
  rw [exam10] at hm
  have HM : Hid (Calls Tryd.prog 11 #[.slice (some ⟨w4.heap.size + 1, 0, none⟩) 2 2] ((w4.alloc (.cells #[.int .u64 2, .int .i64 0, .int .u64 0, .string ByteArray.empty, .slice none 0 0] 47)).alloc (.cells #[.slice (some ⟨w3.heap.size, 0, none⟩) 2 2, .slice (some ⟨w4.heap.size, 0, none⟩) 1 1] 28)) fun e w' => ∃ (A : Option Addr) (c : Nat), e = .returned (.tuple #[.slice A 3 c, .int .i64 0]) ∧ SlV w' (fun _ => True) (.slice A 3 c) (fnum 1 0 (fnum 2 0 (fnum 3 0 .nil))) ∧ Below w4.heap.size w4 w') := hm.mono fun e w' h => by
    obtain ⟨A, c, he, hs, hb⟩ := h
    exact ⟨A, c, he, hs.imp fun _ _ => trivial, bb (ba (ba b0 _) _) hb⟩
  replace hb1 := bb hb1 (bb (ba b0 _) hb4)
  clear hx1 hx2 hx3 hs1 hs2 hm hb4
  go_wp2_with fail
  refine HM.out.mono ?_
  rintro e w5 ⟨A5, c5, rfl, hs5, hb5⟩
  replace hb1 := bb hb1 hb5
  have HS5 := Lib.hid hs5
  clear HM hs5 hb5
  go_wp2_with fail
  refine (HA.out _ hb1).mono ?_
  rintro e w6 ⟨rfl, hb6⟩
  replace hb1 := bb hb1 hb6
  have HTG : Hid (Calls Tryd.prog 20 #[.slice A5 3 c5] w6 fun e w' => ∃ (A' : Option Addr) (c' : Nat), e = .returned (.slice A' 3 c') ∧ PM.Rd w' A' (u64s [1, 2, 3]) ∧ 3 ≤ c' ∧ Below w6.heap.size w6 w') := tags_any A5 c5 (fnum 1 0 (fnum 2 0 (fnum 3 0 .nil))) _ w6 (HS5.out.below hb6) (by decide)
  clear hb6
  go_wp2_with fail
  refine HTG.out.mono ?_
  rintro e w7 ⟨A7, c7, rfl, hr7, hc7, hb7⟩
  replace hb1 := bb hb1 hb7
  have hx7 := BlkAt.made w7 39 #[.int .u64 1, .int .u64 2, .int .u64 3]
  have HEQ : Hid (Calls Tryd.prog 19 #[.slice A7 3 c7, .slice (some ⟨w7.heap.size, 0, none⟩) 3 3] (w7.alloc (.cells #[.int .u64 1, .int .u64 2, .int .u64 3] 39)) fun e w' => e = .returned (.bool true) ∧ Below w7.heap.size w7 w') :=
    (equ64 A7 (some ⟨w7.heap.size, 0, none⟩) c7 3 [1, 2, 3] (w7.alloc (.cells #[.int .u64 1, .int .u64 2, .int .u64 3] 39)) (hr7.below (ba b0 _)) (.inr ⟨_, 0, rfl, hx7.lt, fun j u hj => by rw [Nat.zero_add, hx7.cell j, ← Array.getElem?_toList]; exact hj⟩) (by decide)).mono fun e w' h => ⟨h.1, bb (ba b0 _) h.2⟩
  clear hr7 hb7 hx7 HTG
  go_wp2_with fail
  refine HEQ.out.mono ?_
  rintro e w8 ⟨rfl, hb8⟩
  replace hb1 := bb hb1 hb8
  clear hb8
  go_wp2
  go_ret
  exact ⟨rfl, hb1⟩
theorem awakeE10 (w : World) (hT : Tabs w) : Calls Tryd.prog 40 #[] w fun e w' => e = .returned (.bool true) ∧ Below w.heap.size w w' := by
  have H := Lib.hid (awake10 w hT)
  clear hT
  go_enter Tryd.func40, Tryd.ntmps40
  go_wp2_with fail
  refine H.out.mono ?_
  rintro e w' ⟨rfl, hb⟩
  go_wp2
  go_ret
  exact ⟨rfl, hb⟩
end Go.Proofs.YtigbifiicbghpaaDoor
end

section
/-
  A map from whole numbers to true and false that the call has made: what a look-up gives. No program in sight.
-/
namespace Go.PM
open Go.Maps (Keyed)

section
variable {H : Type}
theorem plain_bool_inv {P : Program} {e : TypeId} (he : P.underlying e = some .bool) {v : Value} {z : DataW H × List MemPlace} (h : plainElem P e v = some z) : ∃ x, v = .bool x ∧ z = (.lit (.bool x), []) := by
  unfold plainElem at h
  rw [he] at h
  cases v <;> simp at h
  obtain rfl := h
  exact ⟨_, rfl, rfl⟩

theorem lookup_own_bool {P : Program} {k t e : TypeId} {w : World} {b n : Nat} {D : DataW H} (h : w.ownsMap P k (plainElem P e) b n D) (K : Keyed P k) (ht : P.underlying t = some (.map k e)) (he : P.underlying e = some .bool)
    (hz : (zeroValue e).run P w = .ok (.bool false) w) {key : Value} {kl : Lit} (hkey : keyOf P k key = some kl) :
    ∃ c, (Instr.lookup t (.map (some b)) key false).run P w = .ok (.bool c) w ∧ D.atKey kl (.lit (.bool false)) = .lit (.bool c) := by
  obtain ⟨v, ps, hrun, hv⟩ := h.lookup K ht hz (plainElem_bool he false) hkey
  obtain ⟨c, rfl, hc⟩ := plain_bool_inv he hv
  simp only [Prod.mk.injEq] at hc
  exact ⟨c, hrun, hc.1⟩

theorem wpList_lookup_own_bool {P : Program} (w : World) {ops : Array Oper} {rest : List Oper} {o : Oper} {a : Act} {Q : Exit → Act → World → Prop}
    (hg : o.guard = none) (m x : Operand) (t : TypeId) (hop : o.op = Op.lookup t m x false)
    (k e : TypeId) (K : Keyed P k) (ht : P.underlying t = some (.map k e)) (he : P.underlying e = some .bool) (hz : (zeroValue e).run P w = .ok (.bool false) w) (b n : Nat) (D : DataW H)
    (hm : a.eval m = .map (some b)) (hown : w.ownsMap P k (plainElem P e) b n D) (key : Value) (kl : Lit) (hx : a.eval x = key) (hkey : keyOf P k key = some kl)
    (hK : ∀ c : Bool, D.atKey kl (.lit (.bool false)) = .lit (.bool c) → wpList P ops Q rest (a.put o.dst (.bool c)) w) :
    wpList P ops Q (o :: rest) a w := by
  refine wpList_plain hg fun K' hK' => ?_
  obtain ⟨c, hrun, hat⟩ := lookup_own_bool hown K ht he hz hkey
  unfold Oper.wp
  simp [execOp, hop, hm, hx, hrun, Result.andThen]
  exact hK' _ _ (hK c hat)

/-- The set of the tags put in one after another. -/
def tagPut (D : DataW H) (t : Nat) : DataW H := D.put (.int .u64 (t : Int)) (.lit (.bool true))
def tagMap (l : List Nat) : DataW H := l.foldl tagPut (.map [])
theorem tagMap_snoc (l : List Nat) (t : Nat) : (tagMap (l ++ [t]) : DataW H) = (tagMap l : DataW H).put (.int .u64 (t : Int)) (.lit (.bool true)) := by
  rw [tagMap, List.foldl_append]
  rfl
theorem tagFold_at (x : Nat) : ∀ (l : List Nat) (D : DataW H), Maps.IsMap D → ∀ c : Bool, D.atKey (.int .u64 (x : Int)) (.lit (.bool false)) = .lit (.bool c) →
    (l.foldl tagPut D).atKey (.int .u64 (x : Int)) (.lit (.bool false)) = .lit (.bool (c || decide (x ∈ l)))
  | [], D, _, c, h => by simpa using h
  | t :: l, D, hD, c, h => by
    rw [List.foldl_cons]
    by_cases he : x = t
    · subst he
      have h1 : (tagPut D x).atKey (.int .u64 (x : Int)) (.lit (.bool false)) = .lit (.bool true) := Maps.atKey_put_same hD (by trivial) _ _
      rw [tagFold_at x l (tagPut D x) (hD.put _ _) true h1]
      simp
    · have h1 : (tagPut D t).atKey (.int .u64 (x : Int)) (.lit (.bool false)) = .lit (.bool c) := by
        rw [tagPut, Maps.atKey_put_other (by simp; omega)]
        exact h
      rw [tagFold_at x l (tagPut D t) (hD.put _ _) c h1]
      simp [he]
theorem tagMap_at (l : List Nat) (x : Nat) : (tagMap l : DataW H).atKey (.int .u64 (x : Int)) (.lit (.bool false)) = .lit (.bool (decide (x ∈ l))) := by
  have h := tagFold_at (H := H) x l (.map []) ⟨[], rfl⟩ false rfl
  simpa [tagMap] using h
end
#print axioms tagMap_at
end Go.PM
end

section
/-
  Layer 10: a list of fields split by tags (pick.Split). Conditions: at most a million fields, at most a million tags below 2^64.
-/
namespace Go.Proofs.YtigbifiicbghpaaDoor
open Go.RowKit Go.PM
set_option maxRecDepth 100000
set_option maxHeartbeats 2000000
attribute [local go_sem ↓] Go.wp_at_zero Go.wp_at_succ

/-- The fields whose tags the list names (yes), or does not (no). -/
def fpick (tags : List Nat) (yes : Bool) : Fs → Fs
  | .nil => .nil
  | .cons t y n s i r => if decide (t ∈ tags) = yes then .cons t y n s i (fpick tags yes r) else fpick tags yes r
theorem fpick_app (tags : List Nat) (yes : Bool) (g : Fs) : ∀ f : Fs, fpick tags yes (f.app g) = (fpick tags yes f).app (fpick tags yes g)
  | .nil => rfl
  | .cons t y n s i r => by
    rw [Fs.app, fpick, fpick, fpick_app tags yes g r]
    split <;> rfl
theorem fpick_count (tags : List Nat) (yes : Bool) : ∀ f : Fs, (fpick tags yes f).count ≤ f.count
  | .nil => Nat.le_refl _
  | .cons t y n s i r => by
    have := fpick_count tags yes r
    rw [fpick]
    split <;> simp only [Fs.count] <;> omega
theorem fpick_len (tags : List Nat) (yes : Bool) : ∀ f : Fs, (fpick tags yes f).len ≤ f.len
  | .nil => Nat.le_refl _
  | .cons t y n s i r => by
    have := fpick_len tags yes r
    rw [fpick]
    split <;> simp only [Fs.len] <;> omega
theorem run_makeMap_hint (w : World) (k : IntKind) (n : Int) : (Instr.makeMap 80 (some (.int k n))).run Tryd.prog w = .ok (.map (some w.heap.size)) (w.alloc (.map #[] 0)) := by
  simp [Instr.makeMap, run_underlying Tryd.underlying80, asInt, asIntOf, Result.andThen]
theorem key_u64 : Maps.Keyed Tryd.prog 39 := Maps.int_keyed Tryd.underlying39
theorem zero_bool (w : World) : (zeroValue 4).run Tryd.prog w = .ok (.bool false) w := rfl
/-- The map of the tags. -/
def TgMap (w : World) (m k : Nat) (tags : List Nat) : Prop := w.ownsMap (H := Unit) Tryd.prog 39 (plainElem Tryd.prog 4) m k (tagMap tags)
/-- Where the second loop of Split stands. -/
def SpAt (w : World) (tags : List Nat) (F : Fs) (v1 v2 : Value) (wr : World) : Prop :=
  ∃ (A B : Option Addr) (c d : Nat) (xs ys : List Value), v1 = .slice A (fpick tags true F).len c ∧ v2 = .slice B (fpick tags false F).len d ∧
    wr.ownsRow w.heap.size 47 5 v1 (fpick tags true F).len xs ∧ wr.ownsRow w.heap.size 47 5 v2 (fpick tags false F).len ys ∧
    Cls wr (fun q => q < w.heap.size) xs (fpick tags true F) ∧ Cls wr (fun q => q < w.heap.size) ys (fpick tags false F) ∧ (∀ g, v1.ownBlock = some g → v2.ownBlock ≠ some g) ∧
    v1.ownBlock ≠ some w.heap.size ∧ v2.ownBlock ≠ some w.heap.size ∧ TgMap wr w.heap.size tags.length tags ∧ Below w.heap.size w wr
/-- Fields that lie as cells, appended to a row of the call's own. -/
theorem fapp_cls (t ty e : TypeId) (i : TypeInfo) (ht : Tryd.prog.underlying t = some (.slice e)) (hi : Tryd.prog.info? e = some i) (hz : i.zero = some zfield) (hsz : i.size = 5) (hby : i.bytes = 64) {w : World}
    {base : Nat} {A : Option Addr} {c b d : Nat} {f g : Fs} {xs ys : List Value} (hown : w.ownsRow base e 5 (.slice A f.len c) f.len xs) {J : Nat → Prop} (hc : Cls w J xs f) (hJ : ∀ k, J k → (Value.slice A f.len c).ownBlock ≠ some k)
    (hy : Cls w J ys g) (hy2 : ∀ j u, ys[j]? = some u → w.cell? ((⟨b, 0, none⟩ : Addr).add j) = some u) (h0 : 0 < g.len) (h60 : f.len + g.len ≤ 2000000) (hb : base ≤ w.heap.size) :
    ∃ (A' : Option Addr) (c' : Nat) (w' : World) (xs' : List Value), (Builtin.append_ #[t, t] ty #[.slice A f.len c, .slice (some ⟨b, 0, none⟩) g.len d]).run Tryd.prog w = .ok (.slice A' (f.app g).len c') w' ∧ w'.ownsRow base e 5 (.slice A' (f.app g).len c') (f.app g).len xs' ∧
      Cls w' J xs' (f.app g) ∧ w.grownBy w' (Value.slice A f.len c).ownBlock ∧ ((Value.slice A' (f.app g).len c').ownBlock = (Value.slice A f.len c).ownBlock ∨ (Value.slice A' (f.app g).len c').ownBlock = some w.heap.size) := by
  have hyl := hy.length
  obtain ⟨g', cap, w', hr, h2, h3, h4, h5⟩ := run_append_lies (P := Tryd.prog) w t ty base e i zfield 5 64 ht hi hz hsz hby rfl (by decide) _ f.len xs hown ⟨b, 0, none⟩ g.len d ys (by omega) hy2 (cls_one hy) (by omega) (by unfold maxLen; omega) (by omega) hb w.heap.size rfl
  have hcl := ((hc.lt.app hy.lt).tch (S := fun k => (Value.slice A f.len c).ownBlock = some k) (Tch.grown h3 fun k hk _ => hk) fun k hk => hJ k hk.1).imp fun k hk => hk.1
  rw [Fs.app_len]
  refine ⟨some ⟨g', 0, none⟩, cap, w', _, hr, h2, hcl, h3, ?_⟩
  rcases h4 with h4 | h4
  · exact .inl h4.symm
  · right; rw [h4]; rfl
/-- One field more on one of the two rows; what else the call owns stays. -/
theorem sp_step {w wr W w' : World} {m : Nat} {tags : List Nat} {A A' : Option Addr} {c c' : Nat} {f1 f1' f2 : Fs} {v2 : Value} {xs ys : List Value} (hb : Below w.heap.size w wr) (hW : Below wr.heap.size wr W) (hm : m < wr.heap.size)
    (hown1 : wr.ownsRow w.heap.size 47 5 (.slice A f1.len c) f1.len xs) (hown2 : wr.ownsRow w.heap.size 47 5 v2 f2.len ys) (hcl2 : Cls wr (fun q => q < w.heap.size) ys f2) (hne : ∀ g, (Value.slice A f1.len c).ownBlock = some g → v2.ownBlock ≠ some g)
    (hn1 : (Value.slice A f1.len c).ownBlock ≠ some m) (hmap : TgMap wr m tags.length tags) (hg : W.grownBy w' (Value.slice A f1.len c).ownBlock)
    (hat : (Value.slice A' f1'.len c').ownBlock = (Value.slice A f1.len c).ownBlock ∨ (Value.slice A' f1'.len c').ownBlock = some W.heap.size) :
    w'.ownsRow w.heap.size 47 5 v2 f2.len ys ∧ Cls w' (fun q => q < w.heap.size) ys f2 ∧ (∀ g, (Value.slice A' f1'.len c').ownBlock = some g → v2.ownBlock ≠ some g) ∧ (Value.slice A' f1'.len c').ownBlock ≠ some m ∧ TgMap w' m tags.length tags ∧ Below w.heap.size w w' := by
  have hwz := hW.size
  have hbW : Below w.heap.size w W := hb.trans (hW.mono hb.size)
  have hge : ∀ g, (Value.slice A f1.len c).ownBlock = some g → w.heap.size ≤ g := fun g h => (hown1.lt g h).1
  have hmW : TgMap W m tags.length tags := by
    obtain ⟨es, clock, h1, h2⟩ := hmap
    exact ⟨es, clock, (hW.block m hm).trans h1, h2⟩
  refine ⟨?_, ?_, ?_, ?_, ?_, ?_⟩
  · refine World.ownsRow.kept (own_below hown2 hW) hg ?_
    cases h : v2.ownBlock with
    | none => exact .inl rfl
    | some g => exact .inr fun e => hne g e.symm h
  · exact (hcl2.below hW).tch (Tch.grown (S := fun k => (Value.slice A f1.len c).ownBlock = some k) hg fun k hk _ => hk) fun k hk h => by have := hge k h; omega
  · intro g h1 h2
    rcases hat with h | h
    · exact hne g (h ▸ h1) h2
    · have := (hown2.lt g h2).2
      rw [h] at h1
      injection h1 with h1
      omega
  · rcases hat with h | h
    · rw [h]; exact hn1
    · rw [h]
      intro h1
      injection h1 with h1
      omega
  · exact World.ownsMap.kept hmW hg fun h => hn1 h.symm
  · exact hbW.trans (Tch.grown (S := fun k => (Value.slice A f1.len c).ownBlock = some k) hg (fun k hk _ => hk) |>.toBelowB hbW.size fun k hk h => by have := hge k h; omega)
theorem own_slT {w : World} {base : Nat} {e : TypeId} {v : Value} {xs : List Value} {f : Fs} {J : Nat → Prop} (h : w.ownsRow base e 5 v f.len xs) (hc : Cls w J xs f) : SlV w (fun _ => True) v f := by
  rcases h.2 with ⟨rfl, h0⟩ | ⟨g, cap, cur, rfl, hb, hg, hn, _⟩
  · have := Fs.len_zero h0
    subst this
    exact SlV.nil _ _ _ _
  · refine ⟨some ⟨g, 0, none⟩, cap, rfl, hn, .inr ⟨g, 0, rfl, trivial, (Array.getElem?_eq_some_iff.1 hg).1, (hc.imp fun _ _ => trivial).at_ fun j u hj => ?_⟩⟩
    have := h.cells (g := g) rfl j u hj
    rwa [add_at, ← Nat.zero_add j] at this
/-- A clone, as a list of fields in new memory. -/
theorem clone_new {w : World} {f : Fs} {e : Ending} {w' : World} (h : FCloneEnd w f e w') : ∃ (A : Option Addr) (c : Nat), e = .returned (.slice A f.len c) ∧ SlV w' (w.heap.size ≤ ·) (.slice A f.len c) f ∧ Below w.heap.size w w' := by
  obtain ⟨A, c, g0, xs, rfl, hcc, hown, hcls, hg0, howng, hb⟩ := h
  obtain ⟨A9, c9, hv9, hs9⟩ := own_slv hown (hcls.imp (J := fun q => w.heap.size ≤ q) fun q hq => by have := hq.1; omega) fun q hq => hq
  injection hv9 with h1 h2 h3
  subst h1 h3
  exact ⟨A, c, rfl, hs9, hb⟩
/-- The end of Split. -/
def SplitEnd (w : World) (tags : List Nat) (f : Fs) (e : Ending) (w' : World) : Prop :=
  ∃ (A B : Option Addr) (c d : Nat), e = .returned (.tuple #[.slice A (fpick tags true f).len c, .slice B (fpick tags false f).len d]) ∧ SlV w' (w.heap.size ≤ ·) (.slice A (fpick tags true f).len c) (fpick tags true f) ∧
    SlV w' (w.heap.size ≤ ·) (.slice B (fpick tags false f).len d) (fpick tags false f) ∧ Below w.heap.size w w'

theorem split_any (A : Option Addr) (c : Nat) (f : Fs) (B : Option Addr) (d : Nat) (tags : List Nat) (I : Nat → Prop) (w : World) (hr : SlV w I (.slice A f.len c) f) (ht : Rd w B (u64s tags)) (hl : f.count ≤ 1000000) (htl : tags.length ≤ 1000000)
    (h64 : ∀ t ∈ tags, t < 18446744073709551616) (hf : f.All FKd) :
    Calls Tryd.prog 15 #[.slice A f.len c, .slice B tags.length d] w (SplitEnd w tags f) := by
  have HR := Lib.hid hr.lt
  have HT := Lib.hid ht
  have H64 := Lib.hid h64
  have HF := Lib.hid hf
  have hfl := Nat.le_trans f.len_count hl
  have HL := Lib.hid hl
  have hcc : f.len ≤ c := by obtain ⟨A', c', hv, hc, _⟩ := hr; injection hv with e1 e2 e3; omega
  have hmm := run_makeMap_hint
  obtain ⟨i0, hi0, hz0, hz1, hz2⟩ := info_parts info_field
  have H0 : Hid (TgMap (w.alloc (.map #[] 0)) w.heap.size 0 (tags.take 0)) := World.ownsMap_made _ _ _ _
  clear hr ht h64 hf
  go_enter Tryd.func15, Tryd.ntmps15
  go_wp2_with fail
  go_loopg [15] tags.length (fun gk ki wr => ∃ k : Nat, k ≤ tags.length ∧ tags.length - k ≤ gk ∧ ki = .int .i64 (k : Int) ∧ Hid (TgMap wr w.heap.size k (tags.take k)) ∧ Below w.heap.size w wr)
  case atStart => exact ⟨0, Nat.zero_le _, by omega, rfl, H0, ba b0 _⟩
  case round =>
    obtain ⟨k, hkl, hgk, rfl, HM, hb⟩ := hrel
    have HB := Lib.hid hb
    by_cases hlt : k < tags.length
    · obtain ⟨b, off, rfl, hbl, hcell⟩ := (HT.out.below hb).at_ (k := k) (by rw [u64s, List.length_map]; exact hlt)
      have HTK : Hid (tagMap (H := Unit) (tags.take (k + 1)) = (tagMap (tags.take k)).put (.int .u64 (tags[k] : Int)) (.lit (.bool true))) := by
        show _ = _
        rw [← List.take_append_getElem hlt, tagMap_snoc]
      have hwf : (Lit.int .u64 (tags[k] : Int)).wf = true := by
        have := H64.out _ (List.getElem_mem hlt)
        simp only [Lit.wf, show IntKind.u64.min = 0 from rfl, show IntKind.u64.max = 18446744073709551615 from rfl, Bool.and_eq_true, decide_eq_true_eq]
        omega
      simp only [u64s, List.getElem_map] at hcell
      generalize tags[k] = t at *
      clear hb
      go_wp2_with (at_mapUpdate; refine wpList_mapUpdate_own (H := Unit) _ rfl _ _ _ 80 rfl 39 4 key_u64 Tryd.underlying80 _ _ _ _ rfl HM.out (by unfold maxLen; omega) _ _ _ rfl rfl (Maps.keyOf_int_mk Tryd.underlying39 hwf) _ _ (plainElem_bool Tryd.underlying4 true) ?_; intro w1 hown1 hgrow1)
      go_roundg (tags.length - (k + 1))
      case measure => omega
      case rel =>
        refine ⟨k + 1, by omega, Nat.le_refl _, by go_num, ?_, bg HB.out hgrow1 (Nat.le_refl _)⟩
        show TgMap _ _ _ _
        unfold TgMap
        rw [HTK.out]
        exact hown1
    · obtain rfl : k = tags.length := by omega
      rw [List.take_of_length_le (Nat.le_refl _)] at HM
      have H1 : Hid (SpAt w tags (f.take 0) (.slice none 0 0) (.slice none 0 0) wr) := by
        have e : f.take 0 = .nil := by cases f <;> rfl
        rw [e]
        exact ⟨none, none, 0, 0, [], [], rfl, rfl, World.ownsRow_nil _ _ _ _, World.ownsRow_nil _ _ _ _, trivial, trivial, (fun g h => by cases h), (by simp [Value.ownBlock]), (by simp [Value.ownBlock]), HM.out, hb⟩
      clear hb HM HB
      go_wp2_with fail
      go_loopg [4, 5, 24] f.len (fun gk v1 v2 ki wr => ∃ k : Nat, k ≤ f.len ∧ f.len - k ≤ gk ∧ ki = .int .i64 (k : Int) ∧ Hid (SpAt w tags (f.take k) v1 v2 wr))
      case atStart => exact ⟨0, Nat.zero_le _, by omega, rfl, H1⟩
      case round =>
        obtain ⟨k, hkl, hgk, rfl, HS⟩ := hrel
        obtain ⟨A1, B1, c1, d1, xs, ys, rfl, rfl, hown1, hown2, hcl1, hcl2, hne, hn1, hn2, hmap, hb⟩ := HS.out
        by_cases hlt : k < f.len
        · obtain ⟨t, y, n, s, i, hdc, htk⟩ := f.drop_cons k hlt
          obtain ⟨A0, c0, hv, hc0, hor⟩ := HR.out.below hb
          injection hv with hv1 hv2 hv3
          subst hv1 hv3
          rcases hor with h0 | ⟨b, o, rfl, hIb, hbl, hat⟩
          · omega
          have hak := hat.drop k
          rw [hdc] at hak
          obtain ⟨d0, d1', d2, d3, ⟨Ai, ci, d4, hci, hin⟩, _⟩ := hak
          have HSI : Hid (SlV wr (fun q => q < w.heap.size) (.slice Ai i.len ci) i) := SlV.imp (I := fun k => I k ∧ k < w.heap.size) ⟨Ai, ci, rfl, hci, hin⟩ fun q hq => hq.2
          have HWF : Hid ((Lit.int .u64 (t : Int)).wf = true) := by
            have h1 := HF.out.drop k
            rw [hdc] at h1
            have h2 : t < 18446744073709551616 := h1.1.1
            show _ = true
            simp only [Lit.wf, show IntKind.u64.min = 0 from rfl, show IntKind.u64.max = 18446744073709551615 from rfl, Bool.and_eq_true, decide_eq_true_eq]
            omega
          have hpk : ∀ yes, fpick tags yes (f.take (k + 1)) = (fpick tags yes (f.take k)).app (if decide (t ∈ tags) = yes then .cons t y n s i .nil else .nil) := fun yes => by
            rw [htk, fpick_app, fpick, fpick]
          have hsw := hb.size
          have hbo := ba (a := wr) b0 (.cells #[.int .u64 (t : Int), .int .i64 y, .int .u64 (n : Int), .string s, .slice Ai i.len ci] 47)
          have hy2 := World.news_of_block (cs := #[.int .u64 (t : Int), .int .i64 y, .int .u64 (n : Int), .string s, .slice Ai i.len ci]) (t := 47) (fr := (0, 0)) (heap_alloc_new wr (.cells #[.int .u64 (t : Int), .int .i64 y, .int .u64 (n : Int), .string s, .slice Ai i.len ci] 47))
          have hy : Cls (wr.alloc (.cells #[.int .u64 (t : Int), .int .i64 y, .int .u64 (n : Int), .string s, .slice Ai i.len ci] 47)) (fun q => q < w.heap.size) [.int .u64 (t : Int), .int .i64 y, .int .u64 (n : Int), .string s, .slice Ai i.len ci] (.cons t y n s i .nil) :=
            ⟨rfl, rfl, rfl, rfl, SlV.below (f := i) HSI.out hbo, trivial⟩
          have hl1 := Nat.le_trans (fpick_len tags true (f.take k)) (Nat.le_trans (show (f.take k).len ≤ f.len by rw [f.take_len k hkl]; exact hkl) hfl)
          have hl2 := Nat.le_trans (fpick_len tags false (f.take k)) (Nat.le_trans (show (f.take k).len ≤ f.len by rw [f.take_len k hkl]; exact hkl) hfl)
          have hm0 : w.heap.size < wr.heap.size := hmap.lt
          have HAT : (tagMap (H := Unit) tags).atKey (.int .u64 (t : Int)) (.lit (.bool false)) = .lit (.bool (decide (t ∈ tags))) := tagMap_at tags t
          generalize hF1 : fpick tags true (f.take k) = F1 at *
          generalize hF2 : fpick tags false (f.take k) = F2 at *
          have hT := hpk true
          have hFa := hpk false
          rw [hF1] at hT
          rw [hF2] at hFa
          by_cases hin : t ∈ tags
          · simp only [hin, decide_true, reduceIte, Bool.true_eq_false, Fs.app_nil] at hT hFa HAT
            obtain ⟨A2, c2, w3, xs2, hrun, hown3, hcls3, hgr, hat3⟩ := fapp_cls 28 28 47 i0 Tryd.underlying28 hi0 hz0 hz1 hz2 (d := 1) (own_below hown1 hbo) (hcl1.below hbo) (fun q hq h => by have := (hown1.lt q h).1; omega) hy hy2 (by simp [Fs.len]) (by simp only [Fs.len]; omega) (Nat.le_trans hsw hbo.size)
            obtain ⟨k2, kc2, kne, kn1, kmap, kb⟩ := sp_step hb hbo hm0 hown1 hown2 hcl2 hne hn1 hmap hgr hat3
            have HN : Hid (SpAt w tags (f.take (k + 1)) (.slice A2 (F1.app (.cons t y n s i .nil)).len c2) (.slice B1 F2.len d1) w3) := by
              unfold SpAt
              rw [hT, hFa]
              refine ⟨A2, B1, c2, d1, xs2, ys, rfl, rfl, hown3, k2, hcls3, kc2, kne, kn1, ?_, kmap, kb⟩
              exact hn2
            have HRUN := Lib.hid hrun
            have HMAP := Lib.hid hmap
            have hlen1 : (Fs.cons t y n s i .nil).len = 1 := rfl
            rw [hlen1] at HRUN
            clear hown1 hown2 hcl1 hcl2 hne hn1 hn2 hmap hb hrun hown3 hcls3 hgr hat3 k2 kc2 kne kn1 kmap kb hy hy2 hbo hT hFa hpk hat hin HS
            go_wp2_with (first | (at_lookup; refine wpList_lookup_own_bool (H := Unit) _ rfl _ _ 80 rfl 39 4 key_u64 Tryd.underlying80 Tryd.underlying4 (zero_bool _) _ _ _ rfl HMAP.out _ _ rfl (Maps.keyOf_int_mk Tryd.underlying39 HWF.out) ?_; intro cc hcc2; rw [HAT] at hcc2; injection hcc2 with hcc2; injection hcc2 with hcc2; subst hcc2) | (at_builtin; (refine wpList_append_run rfl _ _ _ _ rfl _ _ _ rfl rfl HRUN.out ?_)))
            go_roundg (f.len - (k + 1))
            case measure => omega
            case rel => exact ⟨k + 1, by omega, Nat.le_refl _, by go_num, HN⟩
          · simp only [hin, decide_false, reduceIte, Bool.false_eq_true, Fs.app_nil] at hT hFa HAT
            obtain ⟨A2, c2, w3, xs2, hrun, hown3, hcls3, hgr, hat3⟩ := fapp_cls 28 28 47 i0 Tryd.underlying28 hi0 hz0 hz1 hz2 (d := 1) (own_below hown2 hbo) (hcl2.below hbo) (fun q hq h => by have := (hown2.lt q h).1; omega) hy hy2 (by simp [Fs.len]) (by simp only [Fs.len]; omega) (Nat.le_trans hsw hbo.size)
            obtain ⟨k2, kc2, kne, kn1, kmap, kb⟩ := sp_step hb hbo hm0 hown2 hown1 hcl1 (fun g h1 h2 => hne g h2 h1) hn2 hmap hgr hat3
            have HN : Hid (SpAt w tags (f.take (k + 1)) (.slice A1 F1.len c1) (.slice A2 (F2.app (.cons t y n s i .nil)).len c2) w3) := by
              unfold SpAt
              rw [hT, hFa]
              exact ⟨A1, A2, c1, c2, xs, xs2, rfl, rfl, k2, hown3, kc2, hcls3, fun g h1 h2 => kne g h2 h1, hn1, kn1, kmap, kb⟩
            have HRUN := Lib.hid hrun
            have HMAP := Lib.hid hmap
            have hlen1 : (Fs.cons t y n s i .nil).len = 1 := rfl
            rw [hlen1] at HRUN
            clear hown1 hown2 hcl1 hcl2 hne hn1 hn2 hmap hb hrun hown3 hcls3 hgr hat3 k2 kc2 kne kn1 kmap kb hy hy2 hbo hT hFa hpk hat hin HS
            go_wp2_with (first | (at_lookup; refine wpList_lookup_own_bool (H := Unit) _ rfl _ _ 80 rfl 39 4 key_u64 Tryd.underlying80 Tryd.underlying4 (zero_bool _) _ _ _ rfl HMAP.out _ _ rfl (Maps.keyOf_int_mk Tryd.underlying39 HWF.out) ?_; intro cc hcc2; rw [HAT] at hcc2; injection hcc2 with hcc2; injection hcc2 with hcc2; subst hcc2) | (at_builtin; (refine wpList_append_run rfl _ _ _ _ rfl _ _ _ rfl rfl HRUN.out ?_)))
            go_roundg (f.len - (k + 1))
            case measure => omega
            case rel => exact ⟨k + 1, by omega, Nat.le_refl _, by go_num, HN⟩
        · obtain rfl : k = f.len := by omega
          rw [Fs.take_all f _ (Nat.le_refl _)] at hown1 hown2 hcl1 hcl2 ⊢
          have h1 := Nat.le_trans (fpick_count tags true f) HL.out
          have h2 := Nat.le_trans (fpick_count tags false f) HL.out
          have hs1 := own_slT hown1 hcl1
          have hs2 := own_slT hown2 hcl2
          have HC1 : Hid (Calls Tryd.prog 35 #[.slice A1 (fpick tags true f).len c1] wr (FCloneEnd wr (fpick tags true f))) := clone_of _ _ _ _ hs1 h1
          have HC2 : Hid (∀ x : World, Below wr.heap.size wr x → Calls Tryd.prog 35 #[.slice B1 (fpick tags false f).len d1] x (FCloneEnd x (fpick tags false f))) := fun x hx => clone_of _ _ _ _ (hs2.below hx) h2
          have HE : Hid (∀ (A B : Option Addr) (c d : Nat) (w' : World), SlV w' (w.heap.size ≤ ·) (.slice A (fpick tags true f).len c) (fpick tags true f) → SlV w' (w.heap.size ≤ ·) (.slice B (fpick tags false f).len d) (fpick tags false f) → Below w.heap.size w w' →
              SplitEnd w tags f (.returned (.tuple #[.slice A (fpick tags true f).len c, .slice B (fpick tags false f).len d])) w') := fun A B c d w' a b cc => ⟨A, B, c, d, rfl, a, b, cc⟩
          have HB := Lib.hid hb
          clear hown1 hown2 hcl1 hcl2 hne hn1 hn2 hmap hb hs1 hs2 HS
          generalize fpick tags true f = F1 at *
          generalize fpick tags false f = F2 at *
          go_wp2_with fail
          refine HC1.out.mono ?_
          intro e w3 h3
          obtain ⟨A3, c3, rfl, hs3, hb3⟩ := clone_new h3
          have HS3 := Lib.hid hs3
          have HB3 := Lib.hid hb3
          clear h3 hs3 hb3
          go_wp2_with fail
          refine (HC2.out _ HB3.out).mono ?_
          intro e w4 h4
          obtain ⟨A4, c4, rfl, hs4, hb4⟩ := clone_new h4
          have HS4 : Hid (SplitEnd w tags f (.returned (.tuple #[.slice A3 F1.len c3, .slice A4 F2.len c4])) w4) := by
            have hw := HB.out.size
            have hw3 := HB3.out.size
            refine HE.out _ _ _ _ _ ((HS3.out.below hb4).imp fun q hq => ?_) (hs4.imp fun q hq => ?_) (bb (bb HB.out HB3.out) hb4)
            · exact Nat.le_trans hw hq
            · exact Nat.le_trans (Nat.le_trans hw hw3) hq
          clear h4 hs4 hb4
          go_wp2_with fail
          go_ret2
          exact HS4.out
end Go.Proofs.YtigbifiicbghpaaDoor
end

section
/-
  Layer 10: the document's way to bring lists together: how one field is put at its place. Conditions: at most a million fields.
-/
namespace Go.Proofs.YtigbifiicbghpaaDoor
open Go.RowKit Go.PM
set_option maxRecDepth 100000
set_option maxHeartbeats 1000000

theorem own_base {w : World} {base base' n size : Nat} {e : TypeId} {v : Value} {xs : List Value} (h : w.ownsRow base e size v n xs) (hb : base' ≤ base) : w.ownsRow base' e size v n xs := by
  refine ⟨h.1, h.2.imp id ?_⟩
  rintro ⟨g, cap, cur, h1, h2, h3⟩
  exact ⟨g, cap, cur, h1, Nat.le_trans hb h2, h3⟩
theorem take_ofL : ∀ (f : Fs) (k : Nat), f.take k = ofL (f.toL.take k)
  | f, 0 => by cases f <;> rfl
  | .nil, _ + 1 => rfl
  | .cons t y n s i r, k + 1 => by rw [Fs.take, Fs.toL, List.take_succ_cons, ofL, take_ofL r k]
theorem drop_ofL : ∀ (f : Fs) (k : Nat), f.drop k = ofL (f.toL.drop k)
  | f, 0 => by
    rw [List.drop_zero, ofL_toL]
    cases f <;> rfl
  | .nil, _ + 1 => rfl
  | .cons t y n s i r, k + 1 => by rw [Fs.drop, Fs.toL, List.drop_succ_cons, drop_ofL r k]
/-- A row of one field. -/
theorem slv_one2 {x : World} {b : Nat} {T : TypeId} {J : Nat → Prop} {t n : Nat} {y : Int} {s : ByteArray} {i : Fs} {A : Option Addr} {c : Nat} (h : BlkAt x b T #[.int .u64 (t : Int), .int .i64 y, .int .u64 (n : Int), .string s, .slice A i.len c]) (hs : SlV x J (.slice A i.len c) i) (hJ : J b) :
    SlV x J (.slice (some ⟨b, 0, none⟩) 1 1) (.cons t y n s i .nil) := by
  refine ⟨some ⟨b, 0, none⟩, 1, rfl, Nat.le_refl _, .inr ⟨b, 0, rfl, hJ, h.lt, ?_⟩⟩
  obtain ⟨A', c', hv, hc, hor⟩ := hs
  injection hv with h1 h2 h3
  subst h1 h3
  exact ⟨h.cell 0, h.cell 1, h.cell 2, h.cell 3, ⟨A, c, h.cell 4, hc, hor⟩, trivial⟩
theorem rins_run {W1 : World} {I : Nat → Prop} {F : Fs} {a d1 d3 t n : Nat} {y : Int} {s : ByteArray} {i : Fs} {B1 B3 Ai : Option Addr} {ci : Nat}
    (h1 : SlV W1 I (.slice B1 a d1) (F.take a)) (h3 : SlV W1 I (.slice B3 (F.len - a) d3) (F.drop a)) (hi : SlV W1 I (.slice Ai i.len ci) i) (ha : a ≤ F.len) (h60 : F.len ≤ 1000000) :
    ∃ (A2 : Option Addr) (c2 : Nat) (W2 : World), (Builtin.append_ #[30, 30] 30 #[.slice none 0 0, .slice B1 a d1]).run Tryd.prog W1 = .ok (.slice A2 a c2) W2 ∧ Below W1.heap.size W1 W2 ∧
    ∃ (A3 : Option Addr) (c3 : Nat) (W3 : World), (Builtin.append_ #[30, 30] 30 #[.slice A2 a c2, .slice (some ⟨W2.heap.size, 0, none⟩) 1 1]).run Tryd.prog (W2.alloc (.cells #[.int .u64 (t : Int), .int .i64 y, .int .u64 (n : Int), .string s, .slice Ai i.len ci] 51)) = .ok (.slice A3 (a + 1) c3) W3 ∧
    ∃ (A4 : Option Addr) (c4 : Nat) (W4 : World) (xs : List Value), (Builtin.append_ #[30, 30] 30 #[.slice A3 (a + 1) c3, .slice B3 (F.len - a) d3]).run Tryd.prog W3 = .ok (.slice A4 (F.len + 1) c4) W4 ∧
      W4.ownsRow W1.heap.size 51 5 (.slice A4 (F.len + 1) c4) (F.len + 1) xs ∧ Cls W4 (fun q => (Value.slice A4 (F.len + 1) c4).ownBlock ≠ some q) xs (ofL (F.toL.take a ++ ⟨t, y, n, s, i⟩ :: F.toL.drop a)) ∧ Below W1.heap.size W1 W4 := by
  obtain ⟨i0, hi0, hz0, hz1, hz2⟩ := info_parts info_rfield
  have htl := F.take_len a ha
  have hdl := F.drop_len a
  have l1 := h1.lt.imp (J := fun q => q < W1.heap.size) fun q hq => hq.2
  have l3 := h3.lt.imp (J := fun q => q < W1.heap.size) fun q hq => hq.2
  have li := hi.lt.imp (J := fun q => q < W1.heap.size) fun q hq => hq.2
  -- the beginning
  obtain ⟨A2, c2, W2, xs2, hrun2, own2, cls2, gr2, lie2⟩ := fapp_run (P := Tryd.prog) 30 30 51 i0 Tryd.underlying30 hi0 hz0 hz1 hz2
    (w := W1) (base := W1.heap.size) (A := none) (c := 0) (f := .nil) (xs := []) (J := fun q => q < W1.heap.size) (World.ownsRow_nil _ _ _ _) trivial (fun q hq h => by cases h) (by rw [htl]; exact l1) (fun q hq h => by cases h) (by simp only [Fs.len]; omega) (Nat.le_refl _)
  have e2 : (Fs.nil.app (F.take a)).len = a := htl
  rw [e2] at hrun2 own2 lie2
  have hfn : Fs.nil.app (F.take a) = F.take a := rfl
  rw [hfn] at cls2
  rw [show (Fs.nil).len = 0 from rfl, htl] at hrun2
  have hb2 : Below W1.heap.size W1 W2 := below_of_grown gr2
  have hw2 := hb2.size
  -- the field
  have hx2 := BlkAt.made W2 51 #[.int .u64 (t : Int), .int .i64 y, .int .u64 (n : Int), .string s, .slice Ai i.len ci]
  have own2' := own2.alloc (.cells #[.int .u64 (t : Int), .int .i64 y, .int .u64 (n : Int), .string s, .slice Ai i.len ci] 51)
  have cls2' := (cls2.below (ba (a := W2) b0 (.cells #[.int .u64 (t : Int), .int .i64 y, .int .u64 (n : Int), .string s, .slice Ai i.len ci] 51))).imp (J := fun q => q < W1.heap.size) fun q hq => hq.2
  have hb2' : Below W1.heap.size W1 (W2.alloc (.cells #[.int .u64 (t : Int), .int .i64 y, .int .u64 (n : Int), .string s, .slice Ai i.len ci] 51)) := ba hb2 _
  have hsx := slv_one2 (J := fun q => q < W1.heap.size ∨ q = W2.heap.size) hx2 ((li.below hb2').imp fun q hq => .inl hq) (.inr rfl)
  have hob2 : ∀ q, (Value.slice A2 a c2).ownBlock = some q → W1.heap.size ≤ q ∧ q < W2.heap.size := fun q hq => own2.lt q hq
  have e3 : (F.take a).len = a := htl
  have own2'' : (W2.alloc (.cells #[.int .u64 (t : Int), .int .i64 y, .int .u64 (n : Int), .string s, .slice Ai i.len ci] 51)).ownsRow W1.heap.size 51 5 (.slice A2 (F.take a).len c2) (F.take a).len xs2 := by rw [e3]; exact own2'
  obtain ⟨A3, c3, W3, xs3, hrun3, own3, cls3, gr3, lie3⟩ := fapp_run (P := Tryd.prog) 30 30 51 i0 Tryd.underlying30 hi0 hz0 hz1 hz2
    (g := .cons t y n s i .nil) own2'' cls2' (fun q hq h => by rw [e3] at h; have := (hob2 q h).1; omega) hsx (fun q hq h => by rw [e3] at h; have := hob2 q h; rcases hq with hq | hq <;> omega) (by rw [e3]; simp only [Fs.len]; omega) (by rw [World.size_alloc]; omega)
  have e4 : ((F.take a).app (.cons t y n s i .nil)).len = a + 1 := by rw [Fs.app_len, e3]; rfl
  rw [e4] at hrun3 own3 lie3
  rw [e3] at hrun3 gr3 lie3
  have hb3 : Below W1.heap.size W1 W3 := hb2'.trans (Tch.grown (S := fun q => (Value.slice A2 a c2).ownBlock = some q) gr3 (fun q hq _ => hq) |>.toBelowB hb2'.size fun q hq h => by have := (hob2 q h).1; omega)
  have hob3 : ∀ q, (Value.slice A3 (a + 1) c3).ownBlock = some q → W1.heap.size ≤ q ∧ q < W3.heap.size ∧ q ≠ W2.heap.size := fun q hq => by
    have h5 := own3.lt q hq
    refine ⟨h5.1, h5.2, ?_⟩
    rcases lie3 with h6 | h6
    · rw [h6] at hq; have := (hob2 q hq).2; omega
    · rw [h6, World.size_alloc] at hq; injection hq with hq; omega
  have cls3' := cls3.imp (J := fun q => q < W1.heap.size ∨ q = W2.heap.size) fun q hq => by
    rcases hq.1 with h | h
    · exact .inl h
    · exact h
  have own3' : W3.ownsRow W1.heap.size 51 5 (.slice A3 ((F.take a).app (.cons t y n s i .nil)).len c3) ((F.take a).app (.cons t y n s i .nil)).len xs3 := by rw [e4]; exact own3
  have l3' := l3.below hb3
  rw [← hdl] at l3'
  obtain ⟨A4, c4, W4, xs4, hrun4, own4, cls4, gr4, lie4⟩ := fapp_run (P := Tryd.prog) 30 30 51 i0 Tryd.underlying30 hi0 hz0 hz1 hz2
    (g := F.drop a) own3' cls3' (fun q hq h => by rw [e4] at h; have := hob3 q h; rcases hq with hq | hq <;> omega) l3' (fun q hq h => by rw [e4] at h; have := hob3 q h; omega) (by rw [e4, hdl]; omega) hb3.size
  have e5 : (((F.take a).app (.cons t y n s i .nil)).app (F.drop a)).len = F.len + 1 := by rw [Fs.app_len, e4, hdl]; omega
  rw [e5] at hrun4 own4 lie4
  rw [e4] at hrun4 gr4 lie4
  rw [hdl] at hrun4
  refine ⟨A2, c2, W2, hrun2, hb2, A3, c3, W3, hrun3, A4, c4, W4, xs4, hrun4, own4, ?_, ?_⟩
  · have e6 : ((F.take a).app (.cons t y n s i .nil)).app (F.drop a) = ofL (F.toL.take a ++ ⟨t, y, n, s, i⟩ :: F.toL.drop a) := by
      rw [ofL_app, take_ofL, drop_ofL, Fs.app_assoc]
      rfl
    rw [e6] at cls4
    refine cls4.imp fun q hq h => ?_
    rcases lie4 with h6 | h6
    · rw [h6] at h
      have h7 := hob3 q h
      rcases hq.1 with (h8 | h8) | h8 <;> omega
    · rw [h6] at h; injection h with h; have := hq.2; omega
  · exact hb3.trans (Tch.grown (S := fun q => (Value.slice A3 (a + 1) c3).ownBlock = some q) gr4 (fun q hq _ => hq) |>.toBelowB hb3.size fun q hq h => by have := (hob3 q h).1; omega)
/-- How one field is put at its place. -/
def InsAt (W1 : World) (S : List Fl) (L a la d1 d3 t n : Nat) (y : Int) (s : ByteArray) (i : Fs) (B1 B3 Ai : Option Addr) (ci : Nat) : Prop :=
  ∃ (A2 : Option Addr) (c2 : Nat) (W2 : World), (Builtin.append_ #[30, 30] 30 #[.slice none 0 0, .slice B1 a d1]).run Tryd.prog W1 = .ok (.slice A2 a c2) W2 ∧ Below W1.heap.size W1 W2 ∧
    ∃ (A3 : Option Addr) (c3 : Nat) (W3 : World), (Builtin.append_ #[30, 30] 30 #[.slice A2 a c2, .slice (some ⟨W2.heap.size, 0, none⟩) 1 1]).run Tryd.prog (W2.alloc (.cells #[.int .u64 (t : Int), .int .i64 y, .int .u64 (n : Int), .string s, .slice Ai i.len ci] 51)) = .ok (.slice A3 (a + 1) c3) W3 ∧
    ∃ (A4 : Option Addr) (c4 : Nat) (W4 : World) (xs : List Value), (Builtin.append_ #[30, 30] 30 #[.slice A3 (a + 1) c3, .slice B3 la d3]).run Tryd.prog W3 = .ok (.slice A4 (L + 1) c4) W4 ∧
      W4.ownsRow W1.heap.size 51 5 (.slice A4 (L + 1) c4) (L + 1) xs ∧ Cls W4 (fun q => (Value.slice A4 (L + 1) c4).ownBlock ≠ some q) xs (ofL (S.take a ++ ⟨t, y, n, s, i⟩ :: S.drop a)) ∧ Below W1.heap.size W1 W4
theorem ins_at {W1 : World} {I : Nat → Prop} {S : List Fl} {L a la d1 d3 t n : Nat} {y : Int} {s : ByteArray} {i : Fs} {B1 B3 Ai : Option Addr} {ci : Nat} (hL : S.length = L) (hla : la = L - a)
    (h1 : SlV W1 I (.slice B1 a d1) ((ofL S).take a)) (h3 : SlV W1 I (.slice B3 la d3) ((ofL S).drop a)) (hi : SlV W1 I (.slice Ai i.len ci) i) (ha : a ≤ L) (h60 : L ≤ 1000000) :
    InsAt W1 S L a la d1 d3 t n y s i B1 B3 Ai ci := by
  have e : (ofL S).len = L := by rw [ofL_len, hL]
  subst hla
  have := rins_run (t := t) (n := n) (y := y) (s := s) h1 (by rw [e]; exact h3) hi (by rw [e]; exact ha) (by rw [e]; exact h60)
  rw [e, toL_ofL] at this
  exact this
end Go.Proofs.YtigbifiicbghpaaDoor
end

section
/-
  The walk of the statement FieldRests. Conditions: numbers within their kinds; Go's tables of UTF-8 lie in memory.
-/
namespace Go.PM
open Go.RowKit
theorem own_slv2 {w : World} {base : Nat} {e : TypeId} {v : Value} {xs : List Value} {f : Fs} {J : Nat → Prop} (h : w.ownsRow base e 5 v f.len xs) (hc : Cls w J xs f) : ∃ A c, v = .slice A f.len c ∧ SlV w (fun _ => True) (.slice A f.len c) f := by
  rcases h.2 with ⟨rfl, h0⟩ | ⟨g, cap, cur, rfl, hb, hg, hn, _⟩
  · have := Fs.len_zero h0
    subst this
    exact ⟨none, 0, rfl, SlV.nil _ _ _ _⟩
  · refine ⟨some ⟨g, 0, none⟩, cap, rfl, some ⟨g, 0, none⟩, cap, rfl, hn, .inr ⟨g, 0, rfl, trivial, (Array.getElem?_eq_some_iff.1 hg).1, (hc.imp fun _ _ => trivial).at_ fun j u hj => ?_⟩⟩
    have := h.cells (g := g) rfl j u hj
    rwa [add_at, ← Nat.zero_add j] at this
end Go.PM
namespace Go.Proofs.YtigbifiicbghpaaDoor
open Go.RowKit Go.PM
set_option maxRecDepth 100000
set_option maxHeartbeats 4000000
attribute [local go_sem ↓] Go.wp_at_zero Go.wp_at_succ

end Go.Proofs.YtigbifiicbghpaaDoor
end
