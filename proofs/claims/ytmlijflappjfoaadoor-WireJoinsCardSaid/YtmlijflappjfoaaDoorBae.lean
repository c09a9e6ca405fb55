/-
  Texts of the proof, joined: RefFld3 FSame FSame2 RefFld4. Conditions: as each names.
-/
import Derived.Test.YtmlijflappjfoaaDoorBad

section
/-
  Contracts of the document's answers for layer 8: how deep fields stand; whether two lists are the same.
-/
namespace Go.PM
theorem depth_app : ∀ f g : Fs, (f.app g).depth = max f.depth g.depth
  | .nil, g => by simp [Fs.app, Fs.depth]
  | .cons t y n s i r, g => by
    simp only [Fs.app, Fs.depth, depth_app r g]
    split <;> omega
end Go.PM
namespace Go.Proofs.YtmlijflappjfoaaDoor
open Go.RowKit Go.PM
set_option maxRecDepth 100000
set_option maxHeartbeats 2000000
attribute [local go_sem ↓] Go.wp_at_zero Go.wp_at_succ

theorem rdepth_any8 (N : Nat) : ∀ (A : Option Addr) (c : Nat) (f : Fs) (I : Nat → Prop) (w : World), f.count ≤ N → SlV w I (.slice A f.len c) f → f.count ≤ 1000000 →
    Calls Tryd.prog 37 #[.slice A f.len c] w fun e w' => e = .returned (.int .i64 (f.depth : Int)) ∧ Below w.heap.size w w' := by
  induction N with
  | zero =>
    intro A c f I w hN hr h60
    have : f = .nil := Fs.len_zero (by have := f.len_count; omega)
    subst this
    go_enter Tryd.func37, Tryd.ntmps37
    go_wp2_with fail
    go_loopw [3, 8] (fun nn kk wr => nn = .int .i64 0 ∧ kk = .int .i64 0 ∧ wr = w) (fun _ _ _ => 0)
    case atStart => exact ⟨rfl, rfl, rfl⟩
    case round =>
      obtain ⟨rfl, rfl, rfl⟩ := hrel
      go_wp2_with fail
      go_ret
      exact ⟨rfl, b0⟩
  | succ N ih =>
    intro A c f I w hN hr h60
    have IH := Lib.hid ih
    have HR := Lib.hid hr
    clear ih hr
    have hfl := f.len_count
    have H0 : Hid ((f.take 0).depth = 0) := by cases f <;> rfl
    generalize hT : f.depth = T at *
    have HT := Lib.hid hT
    clear hT
    go_enter Tryd.func37, Tryd.ntmps37
    go_wp2_with fail
    go_loopw [3, 8] (fun nn kk wr => ∃ k n : Nat, k ≤ f.len ∧ kk = .int .i64 (k : Int) ∧ nn = .int .i64 (n : Int) ∧ n ≤ 1000000 ∧ Hid ((f.take k).depth = n) ∧ Below w.heap.size w wr) (fun _ kk _ => f.len - (intOf kk).toNat)
    case atStart => exact ⟨0, 0, by omega, rfl, rfl, by omega, H0, b0⟩
    case round =>
      obtain ⟨k, n, hk, rfl, rfl, hn, hnt, hbel⟩ := hrel
      by_cases hlt : k < f.len
      · obtain ⟨t, y, n', s, i, hdc, htk⟩ := f.drop_cons k hlt
        obtain ⟨A0, c0, hv, hc0, hor⟩ := HR.out.below hbel
        injection hv with hv1 hv2 hv3
        subst hv1 hv3
        rcases hor with h0 | ⟨b, o, rfl, hIb, hbl, hat⟩
        · omega
        have hak := hat.drop k
        rw [hdc] at hak
        obtain ⟨d0, d1, d2, d3, ⟨Ai, ci, d4, hci, hin⟩, _⟩ := hak
        have hdcc := f.drop_count k
        rw [hdc] at hdcc
        simp only [Fs.count] at hdcc
        have hid := depth_le i
        have hil := i.len_count
        have hic : i.count ≤ N ∧ i.count ≤ 1000000 ∧ i.depth ≤ 1000000 ∧ i.len ≤ 1000000 := by omega
        have HSI : Hid (SlV wr I (.slice Ai i.len ci) i) := ⟨Ai, ci, rfl, hci, hin⟩
        have HBEL := Lib.hid hbel
        have HCA : Hid (∀ x : World, Below wr.heap.size wr x → Calls Tryd.prog 37 #[.slice Ai i.len ci] x fun e w' => e = .returned (.int .i64 (i.depth : Int)) ∧ Below x.heap.size x w') := fun x hx =>
          IH.out Ai ci i I x hic.1 (HSI.out.below hx) hic.2.1
        have HN : Hid ((f.take (k + 1)).depth = if y = 2 ∨ 0 < i.len then max n (1 + i.depth) else n) := by
          show _ = _
          rw [htk, depth_app, hnt.out]
          simp only [Fs.depth]
          split <;> omega
        obtain ⟨_, _, h2, h3⟩ := hic
        clear hid hil hdcc hdc htk hat hin hbel hv2 hnt
        generalize i.depth = D at *
        have hm5 := BlkAt.made wr 65 #[.int .u64 (t : Int), .int .i64 y, .int .u64 (n' : Int), .string s, .slice Ai i.len ci]
        have e4 := hm5.cell 4
        have e1 := hm5.cell 1
        simp at e4 e1
        clear hm5
        by_cases hdeep : y = 2 ∨ 0 < i.len
        · have HN2 : Hid ((f.take (k + 1)).depth = max n (1 + D)) := by have := HN.out; rw [if_pos hdeep] at this; exact this
          have hmx : max n (1 + D) ≤ 1000000 := by
            have h1 := depth_le (f.take (k + 1))
            have h2 := f.take_count (k + 1)
            rw [HN2.out] at h1
            omega
          have hmi : (max (n : Int) (1 + (D : Int))) = ((max n (1 + D) : Nat) : Int) := by omega
          have HMI := Lib.hid hmi
          clear hmi
          by_cases hy : y = 2
          · subst hy
            clear hdeep
            go_wp2_with (go_at_call 37; refine (HCA.out _ (by first | exact ba b0 _ | exact bd (ba b0 _))).mono ?_; rintro e' W1 ⟨rfl, hb1⟩)
            go_roundw
            case rel => exact ⟨k + 1, max n (1 + D), by omega, by go_num, by first | go_num | (rw [HMI.out]) | (congr 1; omega), hmx, HN2, HBEL.out.trans ((bb (ba b0 _) hb1).mono HBEL.out.size)⟩
            case measure => simp [intOf]; omega
          · have hip : 0 < i.len := by rcases hdeep with h | h; exact absurd h hy; exact h
            have hipi : (0 : Int) < (i.len : Int) := by omega
            have hyi : (y == 2) = false := by rw [beq_eq_false_iff_ne]; exact hy
            clear hdeep hy
            go_wp2_with (go_at_call 37; refine (HCA.out _ (by first | exact ba b0 _ | exact bd (ba b0 _))).mono ?_; rintro e' W1 ⟨rfl, hb1⟩)
            go_roundw
            case rel => exact ⟨k + 1, max n (1 + D), by omega, by go_num, by first | go_num | (rw [HMI.out]) | (congr 1; omega), hmx, HN2, HBEL.out.trans ((bb (ba b0 _) hb1).mono HBEL.out.size)⟩
            case measure => simp [intOf]; omega
        · have HN2 : Hid ((f.take (k + 1)).depth = n) := by have := HN.out; rw [if_neg hdeep] at this; exact this
          have hyi : (y == 2) = false := by rw [beq_eq_false_iff_ne]; exact fun h => hdeep (.inl h)
          have hi0 : i.len = 0 := by have := fun h => hdeep (.inr h); omega
          have : i = .nil := Fs.len_zero hi0
          subst this
          clear hdeep hi0
          go_wp2_with fail
          go_roundw
          case rel => exact ⟨k + 1, n, by omega, by go_num, rfl, hn, HN2, HBEL.out.trans ((ba b0 _ : Below wr.heap.size wr _).mono HBEL.out.size)⟩
          case measure => simp [intOf]; omega
      · obtain rfl : k = f.len := by omega
        have e : n = T := by have := hnt.out; rw [f.take_all _ (Nat.le_refl _), HT.out] at this; exact this.symm
        subst e
        have HB := Lib.hid hbel
        clear hnt hbel HT
        go_wp2_with fail
        go_ret
        exact ⟨rfl, HB.out⟩
end Go.Proofs.YtmlijflappjfoaaDoor
end

section
/-
  Contracts of layer 8: whether two lists of fields are the same.
-/
namespace Go.PM
/-- Values that read, two by two, as pairs of lists of fields. -/
def W2 (w : World) (I : Nat → Prop) (xs : List Value) (L : List (Fs × Fs)) : Prop :=
  xs.length = 2 * L.length ∧ ∀ (j : Nat) (p : Fs × Fs), L[j]? = some p → ∃ x y, xs[2 * j]? = some x ∧ xs[2 * j + 1]? = some y ∧ SlV w I x p.1 ∧ SlV w I y p.2
theorem W2.nil {w : World} {I : Nat → Prop} : W2 w I [] [] := ⟨rfl, fun j p h => by simp at h⟩
theorem W2.push {w : World} {I : Nat → Prop} {xs : List Value} {L : List (Fs × Fs)} {x y : Value} {p : Fs × Fs} (h : W2 w I xs L) (hx : SlV w I x p.1) (hy : SlV w I y p.2) : W2 w I (xs ++ [x, y]) (L ++ [p]) := by
  refine ⟨by simp [h.1]; omega, fun j q hq => ?_⟩
  by_cases hj : j < L.length
  · rw [List.getElem?_append_left hj] at hq
    obtain ⟨a, b, h1, h2, h3⟩ := h.2 j q hq
    exact ⟨a, b, by rw [List.getElem?_append_left (by rw [h.1]; omega)]; exact h1, by rw [List.getElem?_append_left (by rw [h.1]; omega)]; exact h2, h3⟩
  · have hj2 : j = L.length := by
      have := (List.getElem?_eq_some_iff.1 hq).1
      simp at this; omega
    subst hj2
    rw [List.getElem?_append_right (Nat.le_refl _), Nat.sub_self] at hq
    injection hq with hq
    subst hq
    refine ⟨x, y, ?_, ?_, hx, hy⟩
    · rw [List.getElem?_append_right (by rw [h.1]; omega), h.1, Nat.sub_self]; rfl
    · rw [List.getElem?_append_right (by rw [h.1]; omega), h.1, show 2 * L.length + 1 - 2 * L.length = 1 by omega]; rfl
theorem W2.pop {w : World} {I : Nat → Prop} {xs : List Value} {L : List (Fs × Fs)} {n : Nat} (h : W2 w I xs L) (hn : L.length = n + 1) :
    ∃ L' p x y, L = L' ++ [p] ∧ L'.length = n ∧ xs[2 * n]? = some x ∧ xs[2 * n + 1]? = some y ∧ SlV w I x p.1 ∧ SlV w I y p.2 ∧ W2 w I (xs.take (n * 2)) L' := by
  have hL : n < L.length := by omega
  obtain ⟨x, y, h1, h2, h3, h4⟩ := h.2 n _ (List.getElem?_eq_getElem hL)
  refine ⟨L.take n, L[n], x, y, ?_, by rw [List.length_take]; omega, h1, h2, h3, h4, by rw [List.length_take, List.length_take, h.1]; omega, fun j q hq => ?_⟩
  · have h1 := List.take_append_getElem hL
    rw [h1, List.take_of_length_le (by omega)]
  · rw [List.getElem?_take] at hq
    by_cases hj : j < n
    · rw [if_pos hj] at hq
      obtain ⟨a, b, h1, h2, h3⟩ := h.2 j q hq
      exact ⟨a, b, by rw [List.getElem?_take, if_pos (by omega)]; exact h1, by rw [List.getElem?_take, if_pos (by omega)]; exact h2, h3⟩
    · rw [if_neg hj] at hq
      cases hq
def psum : List (Fs × Fs) → Nat
  | [] => 0
  | p :: L => p.1.count + p.2.count + psum L
theorem psum_app : ∀ (L M : List (Fs × Fs)), psum (L ++ M) = psum L + psum M
  | [], M => by simp [psum]
  | f :: L, M => by simp only [List.cons_append, psum, psum_app L M]; omega
theorem lsame_app (L M : List (Fs × Fs)) : lsame (L ++ M) = (lsame L && lsame M) := by simp [lsame]
theorem lsame_one (p : Fs × Fs) : lsame [p] = p.1.same p.2 := by simp [lsame]
theorem str_ne {a b : ByteArray} (h : a ≠ b) : (a.toList == b.toList) = false := by
  rw [beq_eq_false_iff_ne, ByteArray.toList_eq, ByteArray.toList_eq]
  intro e
  exact h (ByteArray.ext (Array.toList_inj.1 e))
def likeB (t t' : Nat) (y y' : Int) (n n' : Nat) (s s' : ByteArray) : Bool := decide (t = t' ∧ y = y' ∧ n = n' ∧ s = s')
end Go.PM
namespace Go.Proofs.YtmlijflappjfoaaDoor
open Go.RowKit Go.PM
set_option maxRecDepth 100000
set_option maxHeartbeats 4000000

theorem alike_any (b o b' o' : Nat) (t t' : Nat) (y y' : Int) (n n' : Nat) (s s' : ByteArray) (w : World)
    (h0 : w.cell? ⟨b, o, none⟩ = some (.int .u64 (t : Int))) (h1 : w.cell? ⟨b, o + 1, none⟩ = some (.int .i64 y)) (h2 : w.cell? ⟨b, o + 2, none⟩ = some (.int .u64 (n : Int))) (h3 : w.cell? ⟨b, o + 3, none⟩ = some (.string s))
    (k0 : w.cell? ⟨b', o', none⟩ = some (.int .u64 (t' : Int))) (k1 : w.cell? ⟨b', o' + 1, none⟩ = some (.int .i64 y')) (k2 : w.cell? ⟨b', o' + 2, none⟩ = some (.int .u64 (n' : Int))) (k3 : w.cell? ⟨b', o' + 3, none⟩ = some (.string s')) :
    Calls Tryd.prog 60 #[.pointer (some ⟨b, o, none⟩), .pointer (some ⟨b', o', none⟩)] w fun e w' => e = .returned (.bool (likeB t t' y y' n n' s s')) ∧ Below w.heap.size w w' := by
  generalize hB : likeB t t' y y' n n' s s' = B
  unfold likeB at hB
  by_cases e0 : t = t'
  · subst e0
    by_cases e1 : y = y'
    · subst e1
      by_cases e2 : n = n'
      · subst e2
        by_cases e3 : s = s'
        · subst e3
          obtain rfl : true = B := by rw [← hB]; simp
          clear hB
          go_enter Tryd.func60, Tryd.ntmps60
          go_wp2_with fail
          go_quiet (fail)
          go_wp2_with fail
          go_ret
          exact ⟨rfl, bn b0 _⟩
        · obtain rfl : false = B := by rw [← hB]; simp [e3]
          have e4 := str_ne e3
          clear hB e3
          go_enter Tryd.func60, Tryd.ntmps60
          go_wp2_with fail
          go_quiet (fail)
          go_wp2_with fail
          go_ret
          exact ⟨rfl, bn b0 _⟩
      · obtain rfl : false = B := by rw [← hB]; simp [e2]
        have e4 : ((n : Int) == (n' : Int)) = false := by rw [beq_eq_false_iff_ne]; omega
        clear hB e2
        go_enter Tryd.func60, Tryd.ntmps60
        go_wp2_with fail
        go_quiet (fail)
        go_wp2_with fail
        go_ret
        exact ⟨rfl, bn b0 _⟩
    · obtain rfl : false = B := by rw [← hB]; simp [e1]
      have e4 : (y == y') = false := by rw [beq_eq_false_iff_ne]; exact e1
      clear hB e1
      go_enter Tryd.func60, Tryd.ntmps60
      go_wp2_with fail
      go_quiet (fail)
      go_wp2_with fail
      go_ret
      exact ⟨rfl, bn b0 _⟩
  · obtain rfl : false = B := by rw [← hB]; simp [e0]
    have e4 : ((t : Int) == (t' : Int)) = false := by rw [beq_eq_false_iff_ne]; omega
    clear hB e0
    go_enter Tryd.func60, Tryd.ntmps60
    go_wp2_with fail
    go_quiet (fail)
    go_wp2_with fail
    go_ret
    exact ⟨rfl, bn b0 _⟩
end Go.Proofs.YtmlijflappjfoaaDoor
end

section
/-
  Contracts of layer 8: whether two lists of fields are the same: the walk over the work list.
-/
namespace Go.Proofs.YtmlijflappjfoaaDoor
open Go.RowKit Go.PM
set_option maxRecDepth 100000
set_option maxHeartbeats 4000000
attribute [local go_sem ↓] Go.wp_at_zero Go.wp_at_succ

theorem info_both : (Tryd.prog.info? 83).map (fun i => (i.zero, i.size, i.bytes)) = some (some (.agg #[.slice none 0 0, .slice none 0 0]), 2, 48) := by kernel_rfl
/-- Where the walk over the work list stands. -/
def PkAt (w : World) (I : Nat → Prop) (v : Value) (L : List (Fs × Fs)) (wr : World) : Prop :=
  ∃ (g cap : Nat) (xs : List Value), v = .slice (some ⟨g, 0, none⟩) L.length cap ∧ wr.ownsRow w.heap.size 83 2 v L.length xs ∧ W2 w I xs L ∧ Below w.heap.size w wr
/-- So, and a block apart from the row. -/
def PxAt (w : World) (I : Nat → Prop) (gb : Nat) (va vb v : Value) (L : List (Fs × Fs)) (wr : World) : Prop :=
  ∃ (g cap : Nat) (xs : List Value), v = .slice (some ⟨g, 0, none⟩) L.length cap ∧ wr.ownsRow w.heap.size 83 2 v L.length xs ∧ W2 w I xs L ∧ Below w.heap.size w wr ∧ g ≠ gb ∧ w.heap.size ≤ gb ∧ BlkAt wr gb 83 #[va, vb]
theorem PkAt.step {w wr w3 : World} {I : Nat → Prop} {gb g2 g3 cap3 cap2 M2 : Nat} {va vb x y : Value} {L2 : List (Fs × Fs)} {p : Fs × Fs} {xs2 : List Value} (hM : L2.length = M2) (hB2 : Below w.heap.size w wr) (hgb : w.heap.size ≤ gb) (hblk : BlkAt wr gb 83 #[va, vb]) (hne : g2 ≠ gb)
    (hW2 : W2 w I xs2 L2) (hx : SlV w I x p.1) (hy : SlV w I y p.2) (hg2 : w.heap.size ≤ g2)
    (hown3 : w3.ownsRow w.heap.size 83 2 (.slice (some ⟨g3, 0, none⟩) (M2 + 1) cap3) (M2 + 1) (xs2 ++ [x, y])) (hg3 : wr.grownBy w3 (Value.slice (some ⟨g2, 0, none⟩) M2 cap2).ownBlock) (hat : (Value.slice (some ⟨g2, 0, none⟩) M2 cap2).ownBlock = some g3 ∨ wr.heap.size ≤ g3) :
    PxAt w I gb va vb (.slice (some ⟨g3, 0, none⟩) (M2 + 1) cap3) (L2 ++ [p]) w3 := by
  refine ⟨g3, cap3, _, by simp [hM], by simp only [List.length_append, List.length_cons, List.length_nil, hM]; exact hown3, hW2.push hx hy, ?_, ?_, hgb, ?_⟩
  · exact hB2.trans (Tch.grown (S := fun k => some g2 = some k) hg3 (fun k hk _ => hk) |>.toBelowB hB2.size fun k hk e => by injection e with e; omega)
  · rcases hat with h | h
    · simp only [Value.ownBlock, Option.some.injEq] at h; omega
    · have := hblk.lt; omega
  · exact hblk.step hg3 (by intro e; simp only [Value.ownBlock, Option.some.injEq] at e; exact hne e.symm)
theorem same_of (va vb : Value) (f g : Fs) (I : Nat → Prop) (w : World) (ha : SlV w I va f) (hb : SlV w I vb g) (h60 : f.count ≤ 1000000) (h61 : g.count ≤ 1000000) :
    Calls Tryd.prog 40 #[va, vb] w fun e w' => e = .returned (.bool (f.same g)) ∧ Below w.heap.size w w' := by
  have HA := Lib.hid ha
  have HB := Lib.hid hb
  obtain ⟨A, c, rfl, ha'⟩ := ha
  obtain ⟨A', c', rfl, hb'⟩ := hb
  clear ha' hb'
  generalize hT : f.same g = T
  have HT := Lib.hid hT
  have H6 : Hid (f.count ≤ 1000000 ∧ g.count ≤ 1000000) := ⟨h60, h61⟩
  obtain ⟨i0, hi0, hz0, hz1, hz2⟩ := info_parts info_both
  clear hT h60 h61
  go_enter Tryd.func40, Tryd.ntmps40
  go_wp2_with fail
  go_loopg [5] 4000001 (fun gk vv wr => ∃ (L : List (Fs × Fs)), Hid (lsame L = T ∧ 2 * psum L + L.length ≤ gk ∧ gk ≤ 4000001) ∧ PkAt w I vv L wr)
  case atStart =>
    refine ⟨[(f, g)], ⟨by rw [lsame_one]; exact HT.out, by have := H6.out; simp [psum]; omega, Nat.le_refl _⟩, w.heap.size, 1, [.slice A f.len c, .slice A' g.len c'], rfl, World.ownsRow_lit w #[.slice A f.len c, .slice A' g.len c'] 1 (Nat.le_refl _) (by decide) rfl, ?_, ba b0 _⟩
    exact W2.push (p := (f, g)) W2.nil HA.out HB.out
  case round =>
    obtain ⟨L, hn, g0, cap, xs, rfl, hown, hwl, hbel⟩ := hrel
    cases hL : L.length with
    | zero =>
      obtain rfl : L = [] := List.eq_nil_of_length_eq_zero hL
      obtain rfl : true = T := hn.out.1
      have HBE := Lib.hid hbel
      clear hown hwl hbel hL hn
      go_wp2_with fail
      go_ret
      exact ⟨rfl, HBE.out⟩
    | succ m =>
      obtain ⟨L', ⟨f1, g1⟩, x, y, rfl, hL', hx, hy, hsx, hsy, hwl'⟩ := hwl.pop hL
      simp only at hsx hsy
      have HSX := Lib.hid hsx
      have HSY := Lib.hid hsy
      obtain ⟨A1, c1, rfl, hc1, hor1⟩ := hsx
      obtain ⟨A2, c2, rfl, hc2, hor2⟩ := hsy
      have hcell0 := hown.cellAt (m * 2) (by rw [hL]; omega)
      have hcell1 := hown.cellAt (m * 2 + 1) (by rw [hL]; omega)
      rw [Nat.mul_comm m 2, hx, Nat.mul_comm 2 m] at hcell0
      rw [Nat.mul_comm m 2, hy, Nat.mul_comm 2 m] at hcell1
      rw [hL] at hown
      have hg0 := hown.lt g0 rfl
      have HO := Lib.hid (own_pop hown)
      obtain ⟨hmc, hcap⟩ := own_cap hown
      have hmi : (m : Int) ≤ (cap : Int) := by omega
      have HWL := Lib.hid hwl'
      have HBEL := Lib.hid hbel
      obtain ⟨hn0, hn2, hgT⟩ := hn.out
      rw [lsame_app, lsame_one] at hn0
      rw [psum_app] at hn2
      simp only [psum, List.length_append, List.length_cons, List.length_nil] at hn2 hn0
      have hfc := f1.count_in
      have hgc := g1.count_in
      have hm4 : m ≤ 4000001 := by omega
      have hfl4 : f1.len ≤ 4000001 ∧ g1.len ≤ 4000001 := by omega
      obtain ⟨hf4, hg4⟩ := hfl4
      have hblk := BlkAt.made wr 83 #[.slice A1 f1.len c1, .slice A2 g1.len c2]
      have hbo := ba (a := wr) b0 (.cells #[.slice A1 f1.len c1, .slice A2 g1.len c2] 83)
      have H0 : Hid ((lsame L' && f1.same g1) = T ∧ (f1.len = g1.len → 2 * psum L' + L'.length + 2 * (f1.icount + g1.icount) + f1.len + 1 ≤ gk) ∧ gk ≤ 4000001) := ⟨hn0, fun _ => by omega, hgT⟩
      have HM := Lib.hid hL'
      have HBLK := Lib.hid hblk
      have HBO := Lib.hid hbo
      obtain ⟨G, hG⟩ : ∃ G, G = gk := ⟨gk, rfl⟩
      rw [← hG] at H0
      have HG := Lib.hid hG
      clear hG
      clear hn hn0 hn2 hgT hfc hgc hown hwl' hbel hor1 hor2 hL hL' hx hy hblk hbo hwl
      by_cases hlen : f1.len = g1.len
      · have HLEN := Lib.hid hlen
        have hli : ((f1.len : Int) != (g1.len : Int)) = false := by simp; omega
        clear hlen
        go_wp2_with fail
        generalize hgbe : wr.heap.size = gb
        rw [hgbe] at HBLK
        have HGBE := Lib.hid hgbe
        clear hgbe
        go_loopg [5, 38] f1.len (fun gj vv kk w2 => ∃ (k : Nat) (L2 : List (Fs × Fs)), k + gj = f1.len ∧ kk = .int .i64 (k : Int) ∧ Hid ((lsame L2 && (f1.drop k).same (g1.drop k)) = T ∧ 2 * psum L2 + L2.length + 2 * ((f1.drop k).icount + (g1.drop k).icount) + (f1.drop k).len + 1 ≤ G) ∧ PxAt w I gb (.slice A1 f1.len c1) (.slice A2 g1.len c2) vv L2 w2)
        case atStart =>
          have hd0 : ∀ h : Fs, h.drop 0 = h := fun h => by cases h <;> rfl
          refine ⟨0, L', by omega, rfl, ?_, g0, cap, _, by rw [HM.out], by rw [HM.out]; exact own_below HO.out HBO.out, HWL.out, HBEL.out.trans (HBO.out.mono HBEL.out.size), by have := HGBE.out; omega, by have := HGBE.out; have := HBEL.out.size; omega, HBLK.out⟩
          rw [hd0, hd0]
          exact ⟨H0.out.1, H0.out.2.1 HLEN.out⟩
        case round =>
          obtain ⟨k, L2, hkj, rfl, hn3, g2, cap2, xs2, rfl, hown2, hwl2, hbel2, hne2, hgb2, hblk2⟩ := hrel
          by_cases hlt : k < f1.len
          · have hle : f1.len = g1.len := HLEN.out
            obtain ⟨t, y, n, s, i, hdc, _⟩ := f1.drop_cons k hlt
            obtain ⟨t', y', n', s', i', hdc', _⟩ := g1.drop_cons k (by omega)
            have hsx := HSX.out
            have hsy := HSY.out
            obtain ⟨A0, c0, hv, hc0, hor⟩ := hsx
            injection hv with hv1 hv2 hv3
            subst hv1 hv3
            obtain ⟨A0, c0, hv', hc0', hor'⟩ := hsy
            injection hv' with hv1 hv2' hv3
            subst hv1 hv3
            rcases hor with h0 | ⟨b, o, rfl, hIb, hbl, hat⟩
            · omega
            rcases hor' with h0 | ⟨b', o', rfl, hIb', hbl', hat'⟩
            · omega
            have hak := hat.drop k
            have hak' := hat'.drop k
            rw [hdc] at hak
            rw [hdc'] at hak'
            obtain ⟨a0, a1, a2, a3, ⟨Ai, ci, a4, hci, hin⟩, _⟩ := hak
            obtain ⟨a0', a1', a2', a3', ⟨Ai', ci', a4', hci', hin'⟩, _⟩ := hak'
            have hbk := hbel2.block b hbl
            have hbk' := hbel2.block b' hbl'
            have HALC : Hid (∀ x : World, Below wr.heap.size wr x → Calls Tryd.prog 60 #[.pointer (some ⟨b, o + k * 5, none⟩), .pointer (some ⟨b', o' + k * 5, none⟩)] x fun e w' => e = .returned (.bool (likeB t t' y y' n n' s s')) ∧ Below x.heap.size x w') := fun x hx => by
              have hz := hbel2.size
              have e := fun j => World.cell?_of_block (a := ⟨b, j, none⟩) ((hx.block b (by omega)).trans hbk)
              have e' := fun j => World.cell?_of_block (a := ⟨b', j, none⟩) ((hx.block b' (by omega)).trans hbk')
              exact alike_any b (o + k * 5) b' (o' + k * 5) t t' y y' n n' s s' x ((e _).trans a0) ((e _).trans a1) ((e _).trans a2) ((e _).trans a3) ((e' _).trans a0') ((e' _).trans a1') ((e' _).trans a2') ((e' _).trans a3')
            have c4 := (World.cell?_of_block (a := ⟨b, o + k * 5 + 4, none⟩) hbk).trans a4
            have c4' := (World.cell?_of_block (a := ⟨b', o' + k * 5 + 4, none⟩) hbk').trans a4'
            have HLT : Hid (b < wr.heap.size ∧ b' < wr.heap.size ∧ b < w.heap.size ∧ b' < w.heap.size) := ⟨Nat.lt_of_lt_of_le hbl hbel2.size, Nat.lt_of_lt_of_le hbl' hbel2.size, hbl, hbl'⟩
            have HSI : Hid (SlV w I (.slice Ai i.len ci) i ∧ SlV w I (.slice Ai' i'.len ci') i') := ⟨⟨Ai, ci, rfl, hci, hin⟩, ⟨Ai', ci', rfl, hci', hin'⟩⟩
            have bx0 := hblk2.cell 0
            have bx1 := hblk2.cell 1
            simp at bx0 bx1
            have hkf : (k : Int) < (f1.len : Int) := by omega
            have hkg : (k : Int) < (g1.len : Int) := by omega
            clear hle
            have hn3' := hn3.out
            rw [hdc, hdc'] at hn3'
            simp only [Fs.icount, Fs.len, Fs.same] at hn3'
            have hif := f1.drop_count k
            have hig := g1.drop_count k
            rw [hdc] at hif
            rw [hdc'] at hig
            simp only [Fs.count] at hif hig
            have hil := i.len_count
            have hil' := i'.len_count
            have HB2 := Lib.hid hbel2
            clear hdc hdc' hat hat' hv2 hv2' a0 a1 a2 a3 a4 a0' a1' a2' a3' a4' hin hin' hbk hbk' hn3
            cases hlk : likeB t t' y y' n n' s s' with
            | false =>
              rw [hlk] at HALC
              have HAL := HALC
              have HF : Hid (false = T) := by
                have h1 := hn3'.1
                unfold likeB at hlk
                rw [hlk] at h1
                simp at h1
                exact h1.symm
              clear hlk hn3' hown2 hwl2 hblk2 hbel2 HALC
              obtain rfl : false = T := HF.out
              clear HF
              go_wp2_with fail
              go_quiet (fail)
              go_wp2_with (go_at_call 60; refine (HAL.out _ (bn b0 _)).mono ?_; rintro e' W1 ⟨rfl, hb1⟩; have hbW1 : Below wr.heap.size wr W1 := bb (bn b0 _) hb1; have e4 := (World.cell?_of_block (hbW1.block b HLT.out.1)).trans c4; have e4' := (World.cell?_of_block (hbW1.block b' HLT.out.2.1)).trans c4')
              go_ret
              exact ⟨rfl, HB2.out.trans (hbW1.mono HB2.out.size)⟩
            | true =>
              rw [hlk] at HALC
              have HAL := HALC
              have hsame : (lsame L2 && (i.same i' && (f1.drop (k + 1)).same (g1.drop (k + 1)))) = T := by
                have h1 := hn3'.1
                unfold likeB at hlk
                rw [hlk, Bool.true_and] at h1
                exact h1
              have HSAME := Lib.hid hsame
              have hci2 := i.count_in
              have hci2' := i'.count_in
              have hn3 := Lib.hid (And.intro hsame hn3'.2)
              have HW2 := Lib.hid hwl2
              have HO2 := Lib.hid hown2
              have HGB : Hid (g2 ≠ gb ∧ w.heap.size ≤ gb ∧ BlkAt wr gb 83 #[.slice (some ⟨_, _, none⟩) f1.len _, .slice (some ⟨_, _, none⟩) g1.len _]) := ⟨hne2, hgb2, hblk2⟩
              have hiL : i.len ≤ 4000001 ∧ i'.len ≤ 4000001 := by have := hn3.out.2; have := H0.out.2.2; omega
              obtain ⟨hiL1, hiL2⟩ := hiL
              clear hlk hn3' hsame hown2 hwl2 hblk2 hbel2 HALC hif hig hil hil' hci2 hci2'
              by_cases hi1 : 0 < i.len
              · have hip : (0 : Int) < (i.len : Int) := by omega
                have HNN : Hid ((lsame (L2 ++ [(i, i')]) && (f1.drop (k + 1)).same (g1.drop (k + 1))) = T ∧ 2 * psum (L2 ++ [(i, i')]) + (L2 ++ [(i, i')]).length + 2 * ((f1.drop (k + 1)).icount + (g1.drop (k + 1)).icount) + (f1.drop (k + 1)).len + 1 ≤ G) := by
                  rw [lsame_app, lsame_one, Bool.and_assoc, psum_app]
                  simp only [psum, List.length_append, List.length_cons, List.length_nil]
                  exact ⟨HSAME.out, by have := hn3.out.2; omega⟩
                have HL4 : Hid (L2.length ≤ 4000001) := by have := hn3.out.2; have := H0.out.2.2; show _ ≤ _; omega
                have hL4 := HL4.out
                generalize hM2 : L2.length = M2 at *
                have HM2 := Lib.hid hM2
                clear hM2 hn3 HSAME
                go_wp2_with fail
                go_quiet (fail)
                go_wp2_with (go_at_call 60; refine (HAL.out _ (bn b0 _)).mono ?_; rintro e' W1 ⟨rfl, hb1⟩; have hbW1 : Below wr.heap.size wr W1 := bb (bn b0 _) hb1; have e4 := (World.cell?_of_block (hbW1.block b HLT.out.1)).trans c4; have e4' := (World.cell?_of_block (hbW1.block b' HLT.out.2.1)).trans c4')
                have hown1 := own_below HO2.out hbW1
                have HOW := Lib.hid hown1
                have hwz := hbW1.size
                have hg2z := HO2.out.lt g2 rfl
                have HBW1 := Lib.hid hbW1
                clear hown1
                go_region_held3 (fun w' => w'.cell? ⟨b, o + k * 5 + 4, none⟩ = some (.slice Ai i.len ci) ∧ w'.cell? ⟨b', o' + k * 5 + 4, none⟩ = some (.slice Ai' i'.len ci')) (go_keep)
                  ((refine step_append_lies _ (by rfl) _ _ _ (by rfl) w.heap.size 83 i0 _ 2 48 Tryd.underlying84 hi0 hz0 hz1 hz2 rfl (by omega) (.slice (some ⟨g2, 0, none⟩) M2 cap2) M2 xs2 (by rfl) ((HOW.out.drew).alloc _) ⟨W1.heap.size, 0, none⟩ 1 1 [.slice Ai i.len ci, .slice Ai' i'.len ci'] (by rfl) (by rfl) (World.news_of_block (cs := #[.slice Ai i.len ci, .slice Ai' i'.len ci']) (t := 83) (fr := (0, 0)) (heap_alloc_new W1.drew _)) (by simp [Value.oneCell']) (by omega) (by unfold maxLen; omega) (by omega) (by simp; omega) (W1.heap.size + 1) (by simp) ?_; intro g3 cap3 w3 hown3 hg3 hat3 hlt3; have HO3 := Lib.hid hown3; have HG3 := Lib.hid hg3; have HAT3 := Lib.hid hat3; have e5 := (World.cell?_of_block (a := ⟨b, o + k * 5 + 4, none⟩) ((HG3.out.block b (by simp; omega) (by simp [Value.ownBlock]; omega)).trans ((ba (a := W1) b0 (.cells #[.slice Ai i.len ci, .slice Ai' i'.len ci'] 83)).block b (by omega)))).trans e4; have e5' := (World.cell?_of_block (a := ⟨b', o' + k * 5 + 4, none⟩) ((HG3.out.block b' (by simp; omega) (by simp [Value.ownBlock]; omega)).trans ((ba (a := W1) b0 (.cells #[.slice Ai i.len ci, .slice Ai' i'.len ci'] 83)).block b' (by omega)))).trans e4'; clear hown3 hg3 hat3 hlt3))
                go_wp2_with fail
                go_roundg (f1.len - (k + 1))
                case measure => omega
                case rel =>
                  have hbq : Below wr.heap.size wr (W1.drew.alloc (.cells #[.slice Ai i.len ci, .slice Ai' i'.len ci'] 83)) := ba (bd HBW1.out) _
                  refine ⟨k + 1, L2 ++ [(i, i')], by omega, by go_num, HNN.out, ?_⟩
                  exact PkAt.step HM2.out (HB2.out.trans (hbq.mono HB2.out.size)) HGB.out.2.1 (HGB.out.2.2.below hbq HGB.out.2.2.lt) HGB.out.1 HW2.out HSI.out.1 HSI.out.2 hg2z.1 HO3.out HG3.out (HAT3.out.imp id fun h => by rw [h]; simp)
              · have hip : decide ((0 : Int) < (i.len : Int)) = false := by simp; omega
                by_cases hi2 : 0 < i'.len
                · have hip2 : (0 : Int) < (i'.len : Int) := by omega
                  have HNN : Hid ((lsame (L2 ++ [(i, i')]) && (f1.drop (k + 1)).same (g1.drop (k + 1))) = T ∧ 2 * psum (L2 ++ [(i, i')]) + (L2 ++ [(i, i')]).length + 2 * ((f1.drop (k + 1)).icount + (g1.drop (k + 1)).icount) + (f1.drop (k + 1)).len + 1 ≤ G) := by
                    rw [lsame_app, lsame_one, Bool.and_assoc, psum_app]
                    simp only [psum, List.length_append, List.length_cons, List.length_nil]
                    exact ⟨HSAME.out, by have := hn3.out.2; omega⟩
                  have HL4 : Hid (L2.length ≤ 4000001) := by have := hn3.out.2; have := H0.out.2.2; show _ ≤ _; omega
                  have hL4 := HL4.out
                  generalize hM2 : L2.length = M2 at *
                  have HM2 := Lib.hid hM2
                  clear hM2 hn3 HSAME
                  go_wp2_with fail
                  go_quiet (fail)
                  go_wp2_with (go_at_call 60; refine (HAL.out _ (bn b0 _)).mono ?_; rintro e' W1 ⟨rfl, hb1⟩; have hbW1 : Below wr.heap.size wr W1 := bb (bn b0 _) hb1; have e4 := (World.cell?_of_block (hbW1.block b HLT.out.1)).trans c4; have e4' := (World.cell?_of_block (hbW1.block b' HLT.out.2.1)).trans c4')
                  have hown1 := own_below HO2.out hbW1
                  have HOW := Lib.hid hown1
                  have hwz := hbW1.size
                  have hg2z := HO2.out.lt g2 rfl
                  have HBW1 := Lib.hid hbW1
                  clear hown1
                  go_region_held3 (fun w' => w'.cell? ⟨b, o + k * 5 + 4, none⟩ = some (.slice Ai i.len ci) ∧ w'.cell? ⟨b', o' + k * 5 + 4, none⟩ = some (.slice Ai' i'.len ci')) (go_keep)
                    ((refine step_append_lies _ (by rfl) _ _ _ (by rfl) w.heap.size 83 i0 _ 2 48 Tryd.underlying84 hi0 hz0 hz1 hz2 rfl (by omega) (.slice (some ⟨g2, 0, none⟩) M2 cap2) M2 xs2 (by rfl) ((HOW.out.drew).alloc _) ⟨W1.heap.size, 0, none⟩ 1 1 [.slice Ai i.len ci, .slice Ai' i'.len ci'] (by rfl) (by rfl) (World.news_of_block (cs := #[.slice Ai i.len ci, .slice Ai' i'.len ci']) (t := 83) (fr := (0, 0)) (heap_alloc_new W1.drew _)) (by simp [Value.oneCell']) (by omega) (by unfold maxLen; omega) (by omega) (by simp; omega) (W1.heap.size + 1) (by simp) ?_; intro g3 cap3 w3 hown3 hg3 hat3 hlt3; have HO3 := Lib.hid hown3; have HG3 := Lib.hid hg3; have HAT3 := Lib.hid hat3; have e5 := (World.cell?_of_block (a := ⟨b, o + k * 5 + 4, none⟩) ((HG3.out.block b (by simp; omega) (by simp [Value.ownBlock]; omega)).trans ((ba (a := W1) b0 (.cells #[.slice Ai i.len ci, .slice Ai' i'.len ci'] 83)).block b (by omega)))).trans e4; have e5' := (World.cell?_of_block (a := ⟨b', o' + k * 5 + 4, none⟩) ((HG3.out.block b' (by simp; omega) (by simp [Value.ownBlock]; omega)).trans ((ba (a := W1) b0 (.cells #[.slice Ai i.len ci, .slice Ai' i'.len ci'] 83)).block b' (by omega)))).trans e4'; clear hown3 hg3 hat3 hlt3))
                  go_wp2_with fail
                  go_roundg (f1.len - (k + 1))
                  case measure => omega
                  case rel =>
                    have hbq : Below wr.heap.size wr (W1.drew.alloc (.cells #[.slice Ai i.len ci, .slice Ai' i'.len ci'] 83)) := ba (bd HBW1.out) _
                    refine ⟨k + 1, L2 ++ [(i, i')], by omega, by go_num, HNN.out, ?_⟩
                    exact PkAt.step HM2.out (HB2.out.trans (hbq.mono HB2.out.size)) HGB.out.2.1 (HGB.out.2.2.below hbq HGB.out.2.2.lt) HGB.out.1 HW2.out HSI.out.1 HSI.out.2 hg2z.1 HO3.out HG3.out (HAT3.out.imp id fun h => by rw [h]; simp)
                · have hip2 : decide ((0 : Int) < (i'.len : Int)) = false := by simp; omega
                  have hni : i = .nil := Fs.len_zero (by omega)
                  have hni' : i' = .nil := Fs.len_zero (by omega)
                  have HNN : Hid ((lsame L2 && (f1.drop (k + 1)).same (g1.drop (k + 1))) = T ∧ 2 * psum L2 + L2.length + 2 * ((f1.drop (k + 1)).icount + (g1.drop (k + 1)).icount) + (f1.drop (k + 1)).len + 1 ≤ G) := by
                    refine ⟨?_, by have := hn3.out.2; omega⟩
                    have h1 := HSAME.out
                    rw [hni, hni'] at h1
                    exact h1
                  have HL4 : Hid (L2.length ≤ 4000001) := by have := hn3.out.2; have := H0.out.2.2; show _ ≤ _; omega
                  clear hn3 HSAME hni hni'
                  go_wp2_with fail
                  go_quiet (fail)
                  go_wp2_with (go_at_call 60; refine (HAL.out _ (bn b0 _)).mono ?_; rintro e' W1 ⟨rfl, hb1⟩; have hbW1 : Below wr.heap.size wr W1 := bb (bn b0 _) hb1; have e4 := (World.cell?_of_block (hbW1.block b HLT.out.1)).trans c4; have e4' := (World.cell?_of_block (hbW1.block b' HLT.out.2.1)).trans c4')
                  have HBW1 := Lib.hid hbW1
                  go_wp2_with fail
                  go_roundg (f1.len - (k + 1))
                  case measure => omega
                  case rel => exact ⟨k + 1, L2, by omega, by go_num, HNN.out, g2, cap2, xs2, rfl, own_below HO2.out HBW1.out, HW2.out, HB2.out.trans (HBW1.out.mono HB2.out.size), HGB.out.1, HGB.out.2.1, HGB.out.2.2.below HBW1.out HGB.out.2.2.lt⟩
          · obtain rfl : k = f1.len := by omega
            have h1 : f1.drop f1.len = .nil := Fs.len_zero (by rw [Fs.drop_len]; omega)
            have h2 : g1.drop f1.len = .nil := Fs.len_zero (by rw [Fs.drop_len]; have := HLEN.out; omega)
            rw [h1, h2] at hn3
            have HE : Hid (lsame L2 = T ∧ 2 * psum L2 + L2.length < G) := by
              have := hn3.out
              simp only [Fs.icount, Fs.len, Fs.same, Bool.and_true] at this
              exact ⟨this.1, by omega⟩
            have HP : Hid (PkAt w I (.slice (some ⟨g2, 0, none⟩) L2.length cap2) L2 wr) := ⟨g2, cap2, xs2, rfl, hown2, hwl2, hbel2⟩
            clear hn3 hown2 hwl2 hbel2 h1 h2 hblk2
            go_wp2_with fail
            go_roundg (2 * psum L2 + L2.length)
            case measure => rw [← HG.out]; exact HE.out.2
            case rel => exact ⟨L2, ⟨HE.out.1, Nat.le_refl _, by have := HE.out.2; have := H0.out.2.2; omega⟩, HP.out⟩
      · obtain rfl : false = T := by rw [← H0.out.1, same_len hlen, Bool.and_false]
        have hli : ((f1.len : Int) != (g1.len : Int)) = true := by simp; omega
        clear hlen
        go_wp2_with fail
        go_ret
        exact ⟨rfl, HBEL.out.trans (HBO.out.mono HBEL.out.size)⟩
end Go.Proofs.YtmlijflappjfoaaDoor
end

section
/-
  Contracts of the document's answers for layer 8: whether two lists are the same.
-/
namespace Go.Proofs.YtmlijflappjfoaaDoor
open Go.RowKit Go.PM
set_option maxRecDepth 100000
set_option maxHeartbeats 4000000
attribute [local go_sem ↓] Go.wp_at_zero Go.wp_at_succ

theorem rsame_any8 (N : Nat) : ∀ (A A' : Option Addr) (c c' : Nat) (f g : Fs) (I : Nat → Prop) (w : World), f.count ≤ N → SlV w I (.slice A f.len c) f → SlV w I (.slice A' g.len c') g → f.count ≤ 1000000 → g.count ≤ 1000000 →
    Calls Tryd.prog 28 #[.slice A f.len c, .slice A' g.len c'] w fun e w' => e = .returned (.bool (f.same g)) ∧ Below w.heap.size w w' := by
  induction N with
  | zero =>
    intro A A' c c' f g I w hN hr hr' h60 h61
    have : f = .nil := Fs.len_zero (by have := f.len_count; omega)
    subst this
    have hgl := g.len_count
    by_cases hg : g.len = 0
    · have : g = .nil := Fs.len_zero hg
      subst this
      go_enter Tryd.func28, Tryd.ntmps28
      go_wp2_with fail
      go_loopw [13] (fun kk wr => kk = .int .i64 0 ∧ wr = w) (fun _ _ => 0)
      case atStart => exact ⟨rfl, rfl⟩
      case round =>
        obtain ⟨rfl, rfl⟩ := hrel
        go_wp2_with fail
        go_ret
        exact ⟨rfl, b0⟩
    · have hs : Fs.nil.same g = false := same_len (by simp only [Fs.len]; omega)
      rw [hs]
      have hi : ((Fs.nil.len : Int) != (g.len : Int)) = true := by simp [Fs.len]; omega
      clear hs hg
      go_enter Tryd.func28, Tryd.ntmps28
      go_wp2_with fail
      go_ret
      exact ⟨rfl, b0⟩
  | succ N ih =>
    intro A A' c c' f g I w hN hr hr' h60 h61
    have IH := Lib.hid ih
    have HR := Lib.hid hr
    have HR' := Lib.hid hr'
    clear ih hr hr'
    have hfl := f.len_count
    have hgl := g.len_count
    generalize hT : f.same g = T
    by_cases hlen : f.len = g.len
    · have H0 : Hid ((f.drop 0).same (g.drop 0) = T) := by
        have hd0 : ∀ h : Fs, h.drop 0 = h := fun h => by cases h <;> rfl
        rw [hd0, hd0]; exact hT
      have HLEN := Lib.hid hlen
      have hli : ((f.len : Int) != (g.len : Int)) = false := by simp; omega
      clear hlen hT
      go_enter Tryd.func28, Tryd.ntmps28
      go_wp2_with fail
      go_loopw [13] (fun kk wr => ∃ k : Nat, k ≤ f.len ∧ kk = .int .i64 (k : Int) ∧ Hid ((f.drop k).same (g.drop k) = T) ∧ Below w.heap.size w wr) (fun kk _ => f.len - (intOf kk).toNat)
      case atStart => exact ⟨0, by omega, rfl, H0, b0⟩
      case round =>
        obtain ⟨k, hk, rfl, hnt, hbel⟩ := hrel
        by_cases hlt : k < f.len
        · have hle : f.len = g.len := HLEN.out
          obtain ⟨t, y, n, s, i, hdc, _⟩ := f.drop_cons k hlt
          obtain ⟨t', y', n', s', i', hdc', _⟩ := g.drop_cons k (by omega)
          obtain ⟨A0, c0, hv, hc0, hor⟩ := HR.out.below hbel
          injection hv with hv1 hv2 hv3
          subst hv1 hv3
          obtain ⟨A0, c0, hv', hc0', hor'⟩ := HR'.out.below hbel
          injection hv' with hv1 hv2' hv3
          subst hv1 hv3
          rcases hor with h0 | ⟨b, o, rfl, hIb, hbl, hat⟩
          · omega
          rcases hor' with h0 | ⟨b', o', rfl, hIb', hbl', hat'⟩
          · omega
          have hak := hat.drop k
          have hak' := hat'.drop k
          rw [hdc] at hak
          rw [hdc'] at hak'
          obtain ⟨a0, a1, a2, a3, ⟨Ai, ci, a4, hci, hin⟩, _⟩ := hak
          obtain ⟨a0', a1', a2', a3', ⟨Ai', ci', a4', hci', hin'⟩, _⟩ := hak'
          have HSI : Hid (SlV wr I (.slice Ai i.len ci) i ∧ SlV wr I (.slice Ai' i'.len ci') i') := ⟨⟨Ai, ci, rfl, hci, hin⟩, ⟨Ai', ci', rfl, hci', hin'⟩⟩
          have HBEL := Lib.hid hbel
          have hkf : (k : Int) < (f.len : Int) := by omega
          have hkg : (k : Int) < (g.len : Int) := by omega
          have hif := f.drop_count k
          have hig := g.drop_count k
          have hn3 := hnt.out
          rw [hdc, hdc'] at hn3
          rw [hdc] at hif
          rw [hdc'] at hig
          simp only [Fs.count, Fs.same] at hif hig hn3
          have hic : i.count ≤ N ∧ i.count ≤ 1000000 ∧ i'.count ≤ 1000000 := by omega
          have HCA : Hid (∀ x : World, Below wr.heap.size wr x → Calls Tryd.prog 28 #[.slice Ai i.len ci, .slice Ai' i'.len ci'] x fun e w' => e = .returned (.bool (i.same i')) ∧ Below x.heap.size x w') := fun x hx =>
            IH.out Ai Ai' ci ci' i i' I x hic.1 (HSI.out.1.below hx) (HSI.out.2.below hx) hic.2.1 hic.2.2
          clear hle hdc hdc' hat hat' hin hin' hv2 hv2' hbel hnt hic hif hig
          by_cases e0 : t = t'
          · subst e0
            by_cases e1 : y = y'
            · subst e1
              by_cases e2 : n = n'
              · subst e2
                by_cases e3 : s = s'
                · subst e3
                  have HCS : Hid (∀ W1 : World, Below wr.heap.size wr W1 → (W1.cell? ⟨b, o + k * 5, none⟩ = some (.int .u64 (t : Int)) ∧ W1.cell? ⟨b, o + k * 5 + 1, none⟩ = some (.int .i64 y) ∧ W1.cell? ⟨b, o + k * 5 + 2, none⟩ = some (.int .u64 (n : Int)) ∧ W1.cell? ⟨b, o + k * 5 + 3, none⟩ = some (.string s) ∧ W1.cell? ⟨b, o + k * 5 + 4, none⟩ = some (.slice Ai i.len ci)) ∧
                      (W1.cell? ⟨b', o' + k * 5, none⟩ = some (.int .u64 (t : Int)) ∧ W1.cell? ⟨b', o' + k * 5 + 1, none⟩ = some (.int .i64 y) ∧ W1.cell? ⟨b', o' + k * 5 + 2, none⟩ = some (.int .u64 (n : Int)) ∧ W1.cell? ⟨b', o' + k * 5 + 3, none⟩ = some (.string s) ∧ W1.cell? ⟨b', o' + k * 5 + 4, none⟩ = some (.slice Ai' i'.len ci'))) := fun W1 hx => by
                    have e := fun j => World.cell?_of_block (a := ⟨b, j, none⟩) (hx.block b hbl)
                    have e' := fun j => World.cell?_of_block (a := ⟨b', j, none⟩) (hx.block b' hbl')
                    exact ⟨⟨(e _).trans a0, (e _).trans a1, (e _).trans a2, (e _).trans a3, (e _).trans a4⟩, (e' _).trans a0', (e' _).trans a1', (e' _).trans a2', (e' _).trans a3', (e' _).trans a4'⟩
                  simp only [decide_true, and_self, Bool.true_and] at hn3
                  generalize hii : i.same i' = B at hn3 HCA
                  have HN3 : Hid ((B && (f.drop (k + 1)).same (g.drop (k + 1))) = T) := hn3
                  clear hn3 hii
                  go_wp2_with fail
                  go_region_held3 (fun w' => (w'.cell? ⟨b, o + k * 5, none⟩ = some (.int .u64 (t : Int)) ∧ w'.cell? ⟨b, o + k * 5 + 1, none⟩ = some (.int .i64 y) ∧ w'.cell? ⟨b, o + k * 5 + 2, none⟩ = some (.int .u64 (n : Int)) ∧ w'.cell? ⟨b, o + k * 5 + 3, none⟩ = some (.string s) ∧ w'.cell? ⟨b, o + k * 5 + 4, none⟩ = some (.slice Ai i.len ci)) ∧
                      (w'.cell? ⟨b', o' + k * 5, none⟩ = some (.int .u64 (t : Int)) ∧ w'.cell? ⟨b', o' + k * 5 + 1, none⟩ = some (.int .i64 y) ∧ w'.cell? ⟨b', o' + k * 5 + 2, none⟩ = some (.int .u64 (n : Int)) ∧ w'.cell? ⟨b', o' + k * 5 + 3, none⟩ = some (.string s) ∧ w'.cell? ⟨b', o' + k * 5 + 4, none⟩ = some (.slice Ai' i'.len ci'))) (go_keep)
                    ((go_at_call 28; refine (HCA.out _ (bd b0)).mono ?_; rintro e' W1 ⟨rfl, hb1⟩; have hbW1 : Below wr.heap.size wr W1 := bb (bd b0) hb1; have q0 := HCS.out W1 hbW1; obtain ⟨⟨q0, q1, q2, q3, q4⟩, q5, q6, q7, q8, q9⟩ := q0))
                  cases B with
                  | false =>
                    obtain rfl : false = T := HN3.out
                    go_wp2_with fail
                    go_ret
                    exact ⟨rfl, HBEL.out.trans (hbW1.mono HBEL.out.size)⟩
                  | true =>
                    go_wp2_with fail
                    go_roundw
                    case rel => exact ⟨k + 1, by omega, by go_num, HN3, HBEL.out.trans (hbW1.mono HBEL.out.size)⟩
                    case measure => simp [intOf]; omega
                · have e4 := str_ne e3
                  have e5 : (s.toList != s'.toList) = true := by rw [bne, e4]; rfl
                  have HF : Hid (false = T) := by
                    have h1 := hn3
                    simp [e3] at h1
                    exact h1.symm
                  clear hn3 HCA
                  obtain rfl : false = T := HF.out
                  clear HF
                  go_wp2_with fail
                  go_quiet (fail)
                  go_wp2_with fail
                  go_ret
                  exact ⟨rfl, HBEL.out.trans ((bn b0 _ : Below wr.heap.size wr _).mono HBEL.out.size)⟩
              · have e4 : ((n : Int) != (n' : Int)) = true := by rw [bne_iff_ne]; omega
                have HF : Hid (false = T) := by
                  have h1 := hn3
                  simp [e2] at h1
                  exact h1.symm
                clear hn3 HCA
                obtain rfl : false = T := HF.out
                clear HF
                go_wp2_with fail
                go_quiet (fail)
                go_wp2_with fail
                go_ret
                exact ⟨rfl, HBEL.out.trans ((bn b0 _ : Below wr.heap.size wr _).mono HBEL.out.size)⟩
            · have e4 : (y != y') = true := by rw [bne_iff_ne]; exact e1
              have HF : Hid (false = T) := by
                have h1 := hn3
                simp [e1] at h1
                exact h1.symm
              clear hn3 HCA
              obtain rfl : false = T := HF.out
              clear HF
              go_wp2_with fail
              go_quiet (fail)
              go_wp2_with fail
              go_ret
              exact ⟨rfl, HBEL.out.trans ((bn b0 _ : Below wr.heap.size wr _).mono HBEL.out.size)⟩
          · have e4 : ((t : Int) != (t' : Int)) = true := by rw [bne_iff_ne]; omega
            have HF : Hid (false = T) := by
              have h1 := hn3
              simp [e0] at h1
              exact h1.symm
            clear hn3 HCA
            obtain rfl : false = T := HF.out
            clear HF
            go_wp2_with fail
            go_quiet (fail)
            go_wp2_with fail
            go_ret
            exact ⟨rfl, HBEL.out.trans ((bn b0 _ : Below wr.heap.size wr _).mono HBEL.out.size)⟩
        · obtain rfl : k = f.len := by omega
          have h1 : f.drop f.len = .nil := Fs.len_zero (by rw [Fs.drop_len]; omega)
          have h2 : g.drop f.len = .nil := Fs.len_zero (by rw [Fs.drop_len]; have := HLEN.out; omega)
          rw [h1, h2] at hnt
          obtain rfl : true = T := hnt.out
          have HB := Lib.hid hbel
          clear hnt hbel h1 h2
          go_wp2_with fail
          go_ret
          exact ⟨rfl, HB.out⟩
    · obtain rfl : false = T := by rw [← hT, same_len hlen]
      have hli : ((f.len : Int) != (g.len : Int)) = true := by simp; omega
      clear hlen hT
      go_enter Tryd.func28, Tryd.ntmps28
      go_wp2_with fail
      go_ret
      exact ⟨rfl, b0⟩
end Go.Proofs.YtmlijflappjfoaaDoor
end
