/-
  Texts of the proof, joined: DefLaw PlainUtf PlainUtf2. Conditions: as each names.
-/
import Derived.Test.YtigbifiicbghpaaGreatDoorBad
import Derived.Test.YtigbifiicbghpaaGreatDoorBac
import Derived.Lib.ValidU
import Derived.Lib.RuneCount

section
/-
  The walks of the statements of layer 6, first part. Conditions: texts as they come in.
-/
namespace Go.Proofs.YtigbifiicbghpaaGreatDoor
open Go.RowKit Go.PM
set_option maxRecDepth 100000
set_option maxHeartbeats 1000000

/-- A deframer of the call's own. -/
def Fd (B : Nat) (w : World) (d : Nat) (v : Value) (R : List UInt8) (need e count : Nat) : Prop := Dfr w d v R need e count ∧ St R need e ∧ B ≤ d ∧ ∀ g, foot v = some g → B ≤ g
theorem Fd.below {B : Nat} {w w' : World} {d : Nat} {v : Value} {R : List UInt8} {need e count : Nat} (h : Fd B w d v R need e count) (hb : Below w.heap.size w w') : Fd B w' d v R need e count :=
  ⟨h.1.below hb, h.2⟩
/-- It was fed. -/
def FedB (B : Nat) (w : World) (d : Nat) (v : Value) (count : Nat) (x : List (List UInt8) × Nat × List UInt8) (en : Ending) (w' : World) : Prop :=
  ∃ r v' need', en = .returned r ∧ w'.ownsRow w.heap.size 9 1 r x.1.length (strs (x.1.map txt)) ∧ Tch (fun k => k = d ∨ foot v = some k) w w' ∧ Below B w w' ∧ Fd B w' d v' x.2.2 need' x.2.1 (count + x.1.length) ∧
    (foot v' = foot v ∨ ∀ g, foot v' = some g → w.heap.size ≤ g)
theorem feed_B (B d : Nat) (v : Value) (R : List UInt8) (need e count : Nat) (A : Option Addr) (cap : Nat) (l : List ByteArray) (w : World) (h : Fd B w d v R need e count) (hB : B ≤ w.heap.size) (hr : Rd w A (strs l))
    (hA : ∀ b off, A = some ⟨b, off, none⟩ → b ≠ d ∧ foot v ≠ some b) (hn : R.length + (flat l).length ≤ 1000000) (hl : l.length ≤ 9223372036854775807) (hcn : count ≤ 3000000000000000000) :
    Calls Tryz.prog 128 #[.pointer (some ⟨d, 0, none⟩), .slice A l.length cap] w (FedB B w d v count (feedOf e R (flat l))) := by
  obtain ⟨h, hst, hd, hf⟩ := h
  refine (feed_any d v R need e count A cap l w h hst hr hA hn hl hcn).mono ?_
  rintro en w' ⟨r, v', need', he, ho, ht, hd', hst', hf'⟩
  refine ⟨r, v', need', he, ho, ht, ht.toBelowB hB fun g hg e => ?_, ⟨hd', hst', hd, fun g hg => ?_⟩, hf'⟩
  · rcases e with e | e
    · omega
    · have := hf g e; omega
  · rcases hf' with h | h
    · exact hf g (h ▸ hg)
    · exact Nat.le_trans hB (h g hg)
theorem feed_one (B d : Nat) (v : Value) (R : List UInt8) (need e count : Nat) (x : ByteArray) (g : Nat) (w : World) (h : Fd B w d v R need e count) (hB : B ≤ w.heap.size) (hg : BlkAt w g 9 #[.string x])
    (hn : R.length + x.size ≤ 1000000) (hcn : count ≤ 3000000000000000000) :
    Calls Tryz.prog 128 #[.pointer (some ⟨d, 0, none⟩), .slice (some ⟨g, 0, none⟩) 1 1] w (FedB B w d v count (feedOf e R x.data.toList)) := by
  have := feed_B B d v R need e count (some ⟨g, 0, none⟩) 1 [x] w h hB (.inr ⟨g, 0, rfl, hg.lt, fun j u hj => ?_⟩) (fun b off e => ?_) (by simpa [flat] using hn) (by simp) hcn
  · simpa [flat] using this
  · match j, hj with
    | 0, hj => rw [hg.cell]; simpa [strs] using hj
  · injection e with e
    injection e with e _
    subst e
    exact ⟨hg.apart h.1.1 (by decide), h.1.2.1.ne_blk hg (by decide)⟩

theorem nil_feed (A : Option Addr) (n c : Nat) (w : World) : Calls Tryz.prog 128 #[.pointer none, .slice A n c] w fun e w' => e = .returned (.slice none 0 0) ∧ Below w.heap.size w w' := by
  go_enter Tryz.func128, Tryz.ntmps128
  go_wp2
  go_ret
  exact ⟨rfl, b0⟩
theorem nil_err (w : World) : Calls Tryz.prog 129 #[.pointer none] w fun e w' => e = .returned (.int .i64 25) ∧ Below w.heap.size w w' := by
  go_enter Tryz.func129, Tryz.ntmps129
  go_wp2
  go_ret
  exact ⟨rfl, b0⟩

theorem new_B (w : World) :
    Calls Tryz.prog 127 #[] w fun e w' => ∃ d, e = .returned (.pointer (some ⟨d, 0, none⟩)) ∧ w.heap.size ≤ d ∧ Fd w.heap.size w' d (.slice none 0 0) [] 0 0 0 ∧ Below w.heap.size w w' :=
  (new_any w).mono fun e w' ⟨d, he, hd, hD, hb⟩ => ⟨d, he, hd, ⟨hD, St.new, hd, fun g hg => by simp [foot] at hg⟩, hb⟩
theorem fof_81 : fof [81] = ([], 0, [81]) := fof_short (by decide)
theorem fof_8171 : fof [81, 71] = ([], 5, []) := fof_bad (by decide) (by decide)
theorem awake06 (w : World) :
    Calls Tryz.prog 126 #[] w fun e w' => e = .returned (.bool true) ∧ Below w.heap.size w w' := by
  go_enter Tryz.func126, Tryz.ntmps126
  go_wp2_with fail
  refine (new_B _).mono ?_
  rintro e w1 ⟨d, rfl, hd1, hD1, hb1⟩
  have HD1 := Lib.hid hD1
  have HB1 := Lib.hid hb1
  have hs1 := hb1.size
  clear hD1 hb1
  go_wp2_with fail
  have hm := BlkAt.made w1 9 #[.string ⟨#[81]⟩]
  have hbo := ba (a := w1) b0 (.cells #[.string ⟨#[81]⟩] 9)
  generalize w1.alloc (.cells #[.string ⟨#[81]⟩] 9) = W at hm hbo ⊢
  have hs2 := Nat.le_trans hs1 hbo.size
  refine (feed_one w.heap.size d _ [] 0 0 0 _ _ W (HD1.out.below hbo) hs2 hm (by decide) (by decide)).mono ?_
  rw [show feedOf 0 [] (ByteArray.data ⟨#[81]⟩).toList = ([], 0, [81]) by rw [feedOf_start]; exact fof_81]
  rintro e w2 ⟨r, v2, need2, rfl, _, _, hb2, hd2, _⟩
  have HD2 := Lib.hid hd2
  have HB2 := Lib.hid ((HB1.out.trans (hbo.mono hs1)).trans hb2)
  clear hd2 hb2 hbo hm
  go_wp2_with fail
  refine (err_any d _ _ _ _ _ _ HD2.out.1).mono ?_
  rintro e w3 ⟨rfl, hb3⟩
  have HD3 := Lib.hid (HD2.out.below hb3)
  have HB3 := Lib.hid (bb HB2.out hb3)
  have hs3 := HB3.out.size
  clear hb3
  go_wp2_with fail
  have hm := BlkAt.made w3 9 #[.string ⟨#[71]⟩]
  have hbo := ba (a := w3) b0 (.cells #[.string ⟨#[71]⟩] 9)
  generalize w3.alloc (.cells #[.string ⟨#[71]⟩] 9) = W at hm hbo ⊢
  have hs4 := Nat.le_trans hs3 hbo.size
  refine (feed_one w.heap.size d _ [81] _ 0 _ _ _ W (HD3.out.below hbo) hs4 hm (by decide) (by decide)).mono ?_
  rw [show feedOf 0 [81] (ByteArray.data ⟨#[71]⟩).toList = ([], 5, []) by unfold feedOf; rw [if_pos rfl]; exact fof_8171]
  rintro e w4 ⟨r, v4, need4, rfl, _, _, hb4, hd4, _⟩
  have HD4 := Lib.hid hd4
  have HB4 := Lib.hid ((HB3.out.trans (hbo.mono hs3)).trans hb4)
  clear hd4 hb4 hbo hm
  go_wp2_with fail
  refine (awakeE05 _).mono ?_
  rintro e w5 ⟨rfl, hb5⟩
  have HD5 := Lib.hid (HD4.out.below hb5)
  have HB5 := Lib.hid (bb HB4.out hb5)
  clear hb5
  go_wp2_with fail
  refine (err_any d _ _ _ _ _ _ HD5.out.1).mono ?_
  rintro e w6 ⟨rfl, hb6⟩
  have HB6 := Lib.hid (bb HB5.out hb6)
  clear hb6
  go_wp2
  go_ret
  exact ⟨rfl, HB6.out⟩
theorem awakeE06 (w : World) : Calls Tryz.prog 125 #[] w fun e w' => e = .returned (.bool true) ∧ Below w.heap.size w w' := by
  go_enter Tryz.func125, Tryz.ntmps125
  go_wp2_with (go_at_call 126; refine (awake06 _).mono ?_; rintro e w' ⟨rfl, hb⟩)
  go_ret
  exact ⟨rfl, hb⟩

theorem none_fof : feedOf 0 [] (flat [⟨#[81, 70, 0, 0, 0, 0]⟩, ⟨#[0, 81]⟩]) = ([[]], 0, [81]) := by
  rw [feedOf_start]
  have h : fparse [81, 70, 0, 0, 0, 0, 0, 81] = ([], 7, 0) := by decide +kernel
  show fof [81, 70, 0, 0, 0, 0, 0, 81] = _
  rw [fof_ok (by rw [h]), h]
  show ([] :: (fof [81]).1, (fof [81]).2) = _
  rw [fof_81]
end Go.Proofs.YtigbifiicbghpaaGreatDoor
end

section
/-
  Plain laws of layer 7: texts of code points; no program in sight. Against the model's own decoding of UTF-8, too.
-/
namespace Go.PM

/-- A byte that goes on. -/
def ucont (b : UInt8) : Bool := 128 ≤ b.toNat && b.toNat < 192
/-- The first byte: how many bytes, what it brings, the least number. -/
def uclass (a : Nat) : Option (Nat × Nat × Nat) :=
  if 192 ≤ a ∧ a < 224 then some (2, a - 192, 128) else if 224 ≤ a ∧ a < 240 then some (3, a - 224, 2048) else if 240 ≤ a ∧ a < 248 then some (4, a - 240, 65536) else none
/-- The next k bytes go on. -/
def uacc (n : Nat) : Nat → List UInt8 → Option Nat
  | 0, _ => some n
  | _ + 1, [] => none
  | k + 1, d :: r => if ucont d then uacc (64 * n + (d.toNat - 128)) k r else none
def ubad (n least : Nat) : Bool := decide (n < least) || decide (1114111 < n) || (decide (55296 ≤ n) && decide (n < 57344))
/-- How many bytes the code point has that a text begins with. -/
def ufirst : List UInt8 → Nat
  | [] => 0
  | a :: r =>
    if a.toNat < 128 then 1
    else match uclass a.toNat with
      | none => 0
      | some (size, n0, least) =>
        match uacc n0 (size - 1) r with
        | none => 0
        | some n => if ubad n least then 0 else size

theorem ufirst_lo {a : UInt8} {r : List UInt8} (h : a.toNat < 128) : ufirst (a :: r) = 1 := by simp [ufirst, h]
theorem ufirst_hi {a : UInt8} {r : List UInt8} (h : ¬ a.toNat < 128) : ufirst (a :: r) = match uclass a.toNat with
    | none => 0
    | some (size, n0, least) =>
      match uacc n0 (size - 1) r with
      | none => 0
      | some n => if ubad n least then 0 else size := by
  rw [ufirst, if_neg h]
theorem uclass_size {a size n0 least : Nat} (h : uclass a = some (size, n0, least)) : 2 ≤ size ∧ size ≤ 4 := by
  unfold uclass at h
  split at h
  · injection h with h; injection h with h _; omega
  · split at h
    · injection h with h; injection h with h _; omega
    · split at h
      · injection h with h; injection h with h _; omega
      · cases h
theorem uacc_len : ∀ (k n m : Nat) (r : List UInt8), uacc n k r = some m → k ≤ r.length
  | 0, _, _, _, _ => Nat.zero_le _
  | _ + 1, _, _, [], h => by simp [uacc] at h
  | k + 1, n, m, d :: r, h => by
    rw [uacc] at h
    split at h
    · have := uacc_len k _ _ r h
      simp only [List.length_cons]
      omega
    · cases h
theorem uacc_take : ∀ (k n : Nat) (r t : List UInt8), r.take k = t.take k → uacc n k r = uacc n k t
  | 0, _, _, _, _ => rfl
  | _ + 1, _, [], [], _ => rfl
  | _ + 1, _, [], _ :: _, h => by simp at h
  | _ + 1, _, _ :: _, [], h => by simp at h
  | k + 1, n, d :: r, e :: t, h => by
    simp only [List.take_succ_cons, List.cons.injEq] at h
    rw [uacc, uacc, h.1, uacc_take k _ r t h.2]
theorem uacc_cont : ∀ (k n m : Nat) (r : List UInt8), uacc n k r = some m → ∀ j (_ : j < k) (h' : j < r.length), ucont r[j] = true
  | 0, _, _, _, _, j, h, _ => by omega
  | _ + 1, _, _, [], h, _, _, _ => by simp [uacc] at h
  | k + 1, n, m, d :: r, h, j, hj, hl => by
    rw [uacc] at h
    by_cases hc : ucont d = true
    · rw [if_pos hc] at h
      cases j with
      | zero => exact hc
      | succ j =>
        simp only [List.getElem_cons_succ]
        exact uacc_cont k _ _ r h j (by omega) _
    · rw [if_neg hc] at h; cases h

/-- A code point is there. -/
theorem ufirst_some {s : List UInt8} (h : ufirst s ≠ 0) : ∃ a r, s = a :: r ∧ ((a.toNat < 128 ∧ ufirst s = 1) ∨
    (¬ a.toNat < 128 ∧ ∃ size n0 least n, uclass a.toNat = some (size, n0, least) ∧ uacc n0 (size - 1) r = some n ∧ ubad n least = false ∧ ufirst s = size)) := by
  match s, h with
  | a :: r, h =>
    refine ⟨a, r, rfl, ?_⟩
    by_cases h1 : a.toNat < 128
    · exact .inl ⟨h1, ufirst_lo h1⟩
    · rw [ufirst_hi h1] at h ⊢
      refine .inr ⟨h1, ?_⟩
      cases hc : uclass a.toNat with
      | none => rw [hc] at h; simp at h
      | some x =>
        obtain ⟨size, n0, least⟩ := x
        rw [hc] at h
        simp only at h ⊢
        cases hu : uacc n0 (size - 1) r with
        | none => rw [hu] at h; simp at h
        | some n =>
          rw [hu] at h
          simp only at h
          by_cases hb : ubad n least = true
          · rw [if_pos hb] at h; simp at h
          · exact ⟨size, n0, least, n, rfl, hu, by simpa using hb, by simp [hb]⟩
theorem ufirst_le {s : List UInt8} (h : ufirst s ≠ 0) : 1 ≤ ufirst s ∧ ufirst s ≤ s.length ∧ ufirst s ≤ 4 := by
  obtain ⟨a, r, rfl, h1 | ⟨_, size, n0, least, n, hc, hu, _, he⟩⟩ := ufirst_some h
  · rw [h1.2]; simp
  · have := uclass_size hc
    have := uacc_len _ _ _ _ hu
    rw [he]
    simp only [List.length_cons]
    omega
theorem ufirst_le4 (s : List UInt8) : ufirst s ≤ 4 := by
  by_cases h : ufirst s = 0
  · omega
  · exact (ufirst_le h).2.2
theorem ufirst_nil : ufirst [] = 0 := rfl
/-- Only its own bytes tell. -/
theorem ufirst_take {s t : List UInt8} (h : ufirst s ≠ 0) (e : s.take (ufirst s) = t.take (ufirst s)) : ufirst t = ufirst s := by
  obtain ⟨a, r, rfl, h1 | ⟨h0, size, n0, least, n, hc, hu, hb, he⟩⟩ := ufirst_some h
  · rw [h1.2] at e ⊢
    match t, e with
    | b :: t, e =>
      simp at e
      subst e
      exact ufirst_lo h1.1
  · rw [he] at e ⊢
    have hs := uclass_size hc
    match t, e with
    | [], e =>
      obtain ⟨k, rfl⟩ : ∃ k, size = k + 1 := ⟨size - 1, by omega⟩
      simp at e
    | b :: t, e =>
      obtain ⟨k, rfl⟩ : ∃ k, size = k + 1 := ⟨size - 1, by omega⟩
      simp only [List.take_succ_cons, List.cons.injEq] at e
      obtain ⟨rfl, e⟩ := e
      rw [Nat.add_sub_cancel] at hu
      rw [ufirst_hi h0, hc]
      simp only [Nat.add_sub_cancel]
      rw [← uacc_take k n0 r t e, hu]
      simp [hb]
theorem ufirst_append {s : List UInt8} (t : List UInt8) (h : ufirst s ≠ 0) : ufirst (s ++ t) = ufirst s :=
  ufirst_take h (by rw [List.take_append_of_le_length (ufirst_le h).2.1])
theorem ufirst_cut {s : List UInt8} {n : Nat} (h : ufirst s ≠ 0) (hn : ufirst s ≤ n) : ufirst (s.take n) = ufirst s :=
  ufirst_take h (by rw [List.take_take, Nat.min_eq_left hn])
/-- The first byte doesn't go on; the others do. -/
theorem ufirst_head {s : List UInt8} (h : ufirst s ≠ 0) (h0 : 0 < s.length) : ucont s[0] = false := by
  obtain ⟨a, r, rfl, h1 | ⟨h1, size, n0, least, n, hc, hu, hb, he⟩⟩ := ufirst_some h
  · simp [ucont]; omega
  · have : 192 ≤ a.toNat := by
      unfold uclass at hc
      repeat (split at hc; omega)
      cases hc
    simp [ucont]; omega
theorem ufirst_tail {s : List UInt8} (h : ufirst s ≠ 0) : ∀ j (hj : j < s.length), 0 < j → j < ufirst s → ucont s[j] = true := by
  intro j hj h0 hk
  obtain ⟨a, r, rfl, h1 | ⟨h1, size, n0, least, n, hc, hu, hb, he⟩⟩ := ufirst_some h
  · omega
  · rw [he] at hk
    cases j with
    | zero => omega
    | succ j =>
      simp only [List.getElem_cons_succ]
      exact uacc_cont _ _ _ _ hu j (by omega) _

/-! ### Good texts -/
def ugood (s : List UInt8) : Bool := if _h : ufirst s = 0 then decide (s = []) else ugood (s.drop (ufirst s))
termination_by s.length
decreasing_by
  have := ufirst_le _h
  simp; omega
def ucount (s : List UInt8) : Nat := if _h : s = [] then 0 else 1 + ucount (s.drop (max 1 (ufirst s)))
termination_by s.length
decreasing_by
  have : s.length ≠ 0 := fun e => _h (List.eq_nil_of_length_eq_zero e)
  simp; omega
theorem ugood_nil : ugood [] = true := by rw [ugood, dif_pos ufirst_nil]; rfl
theorem ugood_step {s : List UInt8} (h : ufirst s ≠ 0) : ugood s = ugood (s.drop (ufirst s)) := by rw [ugood, dif_neg h]
theorem ugood_zero {s : List UInt8} (h : ufirst s = 0) (hs : s ≠ []) : ugood s = false := by rw [ugood, dif_pos h]; simpa using hs
theorem ucount_nil : ucount [] = 0 := by rw [ucount, dif_pos rfl]
theorem ucount_step {s : List UInt8} (h : s ≠ []) : ucount s = 1 + ucount (s.drop (max 1 (ufirst s))) := by rw [ucount, dif_neg h]
theorem ugood_first {s : List UInt8} (h : ugood s = true) (hs : s ≠ []) : ufirst s ≠ 0 := fun e => by rw [ugood_zero e hs] at h; cases h
theorem ugood_ind {P : List UInt8 → Prop} (h0 : P []) (h1 : ∀ s, ugood s = true → ufirst s ≠ 0 → ugood (s.drop (ufirst s)) = true → P (s.drop (ufirst s)) → P s) : ∀ s, ugood s = true → P s := by
  intro s
  induction hn : s.length using Nat.strongRecOn generalizing s with
  | _ n ih =>
    intro hg
    by_cases hs : s = []
    · exact hs ▸ h0
    · have hf := ugood_first hg hs
      have hl := ufirst_le hf
      have hg' := (ugood_step hf) ▸ hg
      exact h1 s hg hf hg' (ih _ (by rw [← hn, List.length_drop]; omega) _ rfl hg')
theorem ugood_append (t : List UInt8) : ∀ s, ugood s = true → ugood (s ++ t) = ugood t ∧ ucount (s ++ t) = ucount s + ucount t := by
  refine ugood_ind ?_ ?_
  · simp [ucount_nil]
  · intro s hg hf hg' ih
    have hl := ufirst_le hf
    have ha := ufirst_append t hf
    have hne : s ≠ [] := fun e => by subst e; exact hf rfl
    refine ⟨?_, ?_⟩
    · rw [ugood_step (by rw [ha]; exact hf), ha, List.drop_append_of_le_length hl.2.1]
      exact ih.1
    · rw [ucount_step (by simp [hne]), ha, ucount_step hne, Nat.max_eq_right hl.1, List.drop_append_of_le_length hl.2.1, ih.2]
      omega
/-- Where the whole and its end are good its beginning is. -/
theorem ugood_left (t : List UInt8) (ht : ugood t = true) : ∀ s, ugood (s ++ t) = true → ugood s = true := by
  intro s
  induction hn : s.length using Nat.strongRecOn generalizing s with
  | _ n ih =>
    intro hg
    by_cases hs : s = []
    · rw [hs]; exact ugood_nil
    · have hf := ugood_first hg (by simp [hs])
      by_cases hk : ufirst (s ++ t) ≤ s.length
      · have e := ufirst_take (s := s ++ t) (t := s) hf (by rw [List.take_append_of_le_length hk])
        have hf' : ufirst s ≠ 0 := by rw [e]; exact hf
        rw [ugood_step hf'] 
        rw [ugood_step hf, ← e, List.drop_append_of_le_length (by rw [e]; exact hk)] at hg
        have := ufirst_le hf'
        exact ih _ (by rw [← hn, List.length_drop]; omega) _ rfl hg
      · exfalso
        have hl := ufirst_le hf
        rw [List.length_append] at hl
        have ht0 : 0 < t.length := by omega
        have hpos : 0 < s.length := Nat.pos_of_ne_zero fun e => hs (List.eq_nil_of_length_eq_zero e)
        have h1 := ufirst_tail hf s.length (by rw [List.length_append]; omega) hpos (by omega)
        have h2 := ufirst_head (ugood_first ht (fun e => by subst e; simp at ht0)) ht0
        rw [List.getElem_append_right (Nat.le_refl _)] at h1
        simp only [Nat.sub_self] at h1
        rw [h1] at h2
        cases h2

/-! ### Cut -/
/-- As the program cuts: from m down to a byte that doesn't go on. -/
def ptrim (s : List UInt8) : Nat → Nat
  | 0 => 0
  | m + 1 => if ucont (s.getD (m + 1) 0) then ptrim s m else m + 1
theorem ptrim_le (s : List UInt8) : ∀ m, ptrim s m ≤ m
  | 0 => Nat.le_refl _
  | m + 1 => by
    have := ptrim_le s m
    unfold ptrim
    split <;> omega
/-- As the document has it: the code points that end within m bytes. -/
def utrim (s : List UInt8) (m : Nat) : Nat := if _h : ufirst s = 0 then 0 else if ufirst s ≤ m then ufirst s + utrim (s.drop (ufirst s)) (m - ufirst s) else 0
termination_by s.length
decreasing_by
  have := ufirst_le _h
  simp; omega
theorem utrim_zero {s : List UInt8} {m : Nat} (h : ufirst s = 0) : utrim s m = 0 := by rw [utrim, dif_pos h]
theorem utrim_stop {s : List UInt8} {m : Nat} (h : m < ufirst s) : utrim s m = 0 := by
  rw [utrim, dif_neg (by omega), if_neg (by omega)]
theorem utrim_go {s : List UInt8} {m : Nat} (h : ufirst s ≠ 0) (hm : ufirst s ≤ m) : utrim s m = ufirst s + utrim (s.drop (ufirst s)) (m - ufirst s) := by rw [utrim, dif_neg h, if_pos hm]
theorem ptrim_shift (s : List UInt8) (k : Nat) (hk : 0 < k) (hc : ucont (s.getD k 0) = false) : ∀ j, ptrim s (k + j) = k + ptrim (s.drop k) j
  | 0 => by
    obtain ⟨k, rfl⟩ : ∃ i, k = i + 1 := ⟨k - 1, by omega⟩
    have e : ptrim s (k + 1) = k + 1 := by rw [ptrim, hc]; rfl
    exact e
  | j + 1 => by
    have ih := ptrim_shift s k hk hc j
    rw [show k + (j + 1) = (k + j) + 1 by omega, ptrim, ptrim, show (s.drop k).getD (j + 1) 0 = s.getD (k + j + 1) 0 by simp [List.getD_eq_getElem?_getD, List.getElem?_drop, Nat.add_assoc]]
    split
    · exact ih
    · omega
theorem ptrim_down (s : List UInt8) : ∀ m, (∀ j, 0 < j → j ≤ m → ucont (s.getD j 0) = true) → ptrim s m = 0
  | 0, _ => rfl
  | m + 1, h => by
    rw [ptrim, if_pos (h _ (by omega) (Nat.le_refl _))]
    exact ptrim_down s m fun j h0 hj => h j h0 (by omega)
theorem ptrim_utrim : ∀ s, ugood s = true → ∀ m, m < s.length → ptrim s m = utrim s m := by
  refine ugood_ind (fun m h => by simp at h) ?_
  intro s hg hf hg' ih m hm
  have hl := ufirst_le hf
  by_cases hk : ufirst s ≤ m
  · rw [utrim_go hf hk]
    have hlt : ufirst s < s.length := by omega
    have hd : s.drop (ufirst s) ≠ [] := fun e => by have := congrArg List.length e; simp at this; omega
    have hd0 : 0 < (s.drop (ufirst s)).length := by rw [List.length_drop]; omega
    have hc := ufirst_head (ugood_first hg' hd) hd0
    have hc' : ucont (s.getD (ufirst s) 0) = false := by
      rw [List.getD_eq_getElem?_getD, List.getElem?_eq_getElem hlt]
      simpa using hc
    have := ptrim_shift s (ufirst s) (by omega) hc' (m - ufirst s)
    rw [show ufirst s + (m - ufirst s) = m by omega] at this
    rw [this, ih (m - ufirst s) (by rw [List.length_drop]; omega)]
  · rw [utrim_stop (by omega)]
    refine ptrim_down s m fun j h0 hj => ?_
    rw [List.getD_eq_getElem?_getD, List.getElem?_eq_getElem (by omega)]
    exact ufirst_tail hf j (by omega) h0 (by omega)
theorem utrim_le (m : Nat) : ∀ s, ugood s = true → utrim s m ≤ s.length := by
  intro s hg
  revert m
  refine ugood_ind (P := fun s => ∀ m, utrim s m ≤ s.length) (fun m => ?_) ?_ s hg
  · rw [utrim_zero rfl]; simp
  · intro s hg hf hg' ih m
    have hl := ufirst_le hf
    by_cases hk : ufirst s ≤ m
    · rw [utrim_go hf hk]
      have := ih (m - ufirst s)
      rw [List.length_drop] at this
      omega
    · rw [utrim_stop (by omega)]; omega
theorem utrim_all : ∀ s, ugood s = true → ∀ m, s.length ≤ m → utrim s m = s.length := by
  refine ugood_ind (fun m _ => ?_) ?_
  · rw [utrim_zero rfl]; rfl
  · intro s hg hf hg' ih m hm
    have hl := ufirst_le hf
    rw [utrim_go hf (by omega), ih _ (by rw [List.length_drop]; omega), List.length_drop]
    omega
/-- What is cut of a good one is good. -/
theorem utrim_good : ∀ s, ugood s = true → ∀ m, ugood (s.take (utrim s m)) = true := by
  refine ugood_ind (fun m => by simp [ugood_nil]) ?_
  intro s hg hf hg' ih m
  have hl := ufirst_le hf
  by_cases hk : ufirst s ≤ m
  · rw [utrim_go hf hk, List.take_add]
    have h1 : ufirst (s.take (ufirst s)) = ufirst s := ufirst_cut hf (Nat.le_refl _)
    have h2 : ugood (s.take (ufirst s)) = true := by
      rw [ugood_step (by rw [h1]; exact hf), h1, List.drop_eq_nil_of_le (by simp; omega)]
      exact ugood_nil
    rw [(ugood_append _ _ h2).1]
    exact ih _
  · rw [utrim_stop (by omega)]
    simp [ugood_nil]
end Go.PM
end

section
/-
  Plain laws of layer 7: the library's words for UTF-8 (Lib.validD, Lib.runeCount) are the document's.
-/
namespace Go.PM

/-- The model's decoding, of a list. -/
def udec (l : List UInt8) : Nat × Nat :=
  let at' (k : Nat) : Nat := (l.getD k 0).toNat
  let cont (k : Nat) : Bool := decide (k < l.length) && at' k / 64 == 2
  let b0 := at' 0
  if b0 < 0x80 then (b0, 1)
  else if b0 / 32 == 6 && cont 1 then
    let c := (b0 % 32) * 64 + at' 1 % 64
    if c ≥ 0x80 then (c, 2) else (Utf8.runeError, 1)
  else if b0 / 16 == 14 && cont 1 && cont 2 then
    let c := (b0 % 16) * 4096 + (at' 1 % 64) * 64 + at' 2 % 64
    if c ≥ 0x800 && Utf8.valid c then (c, 3) else (Utf8.runeError, 1)
  else if b0 / 8 == 30 && cont 1 && cont 2 && cont 3 then
    let c := (b0 % 8) * 262144 + (at' 1 % 64) * 4096 + (at' 2 % 64) * 64 + at' 3 % 64
    if c ≥ 0x10000 && Utf8.valid c then (c, 4) else (Utf8.runeError, 1)
  else (Utf8.runeError, 1)
theorem get_list (s : ByteArray) (i k : Nat) : s.get! (i + k) = (s.data.toList.drop i).getD k 0 := by
  rw [List.getD_eq_getElem?_getD, List.getElem?_drop, Array.getElem?_toList]
  show s.data[i + k]! = _
  rw [getElem!_def]
  cases s.data[i + k]? <;> rfl
theorem decode_list (s : ByteArray) (i : Nat) : Utf8.decode s i = udec (s.data.toList.drop i) := by
  have hl : ∀ k, decide (i + k < s.size) = decide (k < (s.data.toList.drop i).length) := fun k => by
    rw [List.length_drop, Array.length_toList]
    show decide (i + k < s.size) = decide (k < s.size - i)
    rw [decide_eq_decide]; omega
  unfold Utf8.decode udec
  simp only [get_list, hl]
theorem ucont_iff (b : UInt8) : (b.toNat / 64 == 2) = ucont b := by
  unfold ucont
  rw [Bool.eq_iff_iff]
  simp only [beq_iff_eq, Bool.and_eq_true, decide_eq_true_eq]
  omega
theorem uvalid_iff (n : Nat) : Utf8.valid (n : Int) = !(decide (1114111 < n) || (decide (55296 ≤ n) && decide (n < 57344))) := by
  unfold Utf8.valid
  rw [Bool.eq_iff_iff]
  simp only [Bool.or_eq_true, Bool.and_eq_true, decide_eq_true_eq, Bool.not_eq_true', Bool.or_eq_false_iff, decide_eq_false_iff_not, Bool.and_eq_false_imp]
  omega
theorem ucond (n least : Nat) : (decide (n ≥ least) && Utf8.valid (n : Int)) = !ubad n least := by
  rw [uvalid_iff]
  unfold ubad
  rw [Bool.eq_iff_iff]
  simp only [Bool.and_eq_true, decide_eq_true_eq, Bool.not_eq_true', Bool.or_eq_false_iff, decide_eq_false_iff_not, Bool.and_eq_false_imp]
  omega
theorem udec3 (a b c : UInt8) (r : List UInt8) (h1 : ¬ a.toNat < 128) (h2 : ¬ a.toNat / 32 = 6) (h3 : a.toNat / 16 = 14) :
    udec (a :: b :: c :: r) = if (ucont b && ucont c) = true then (if (!ubad ((a.toNat % 16) * 4096 + (b.toNat % 64) * 64 + c.toNat % 64) 2048) = true then ((a.toNat % 16) * 4096 + (b.toNat % 64) * 64 + c.toNat % 64, 3) else (65533, 1)) else (65533, 1) := by
  have e : udec (a :: b :: c :: r) = (if a.toNat < 0x80 then (a.toNat, 1)
    else if (a.toNat / 32 == 6 && (decide (1 < (a :: b :: c :: r).length) && b.toNat / 64 == 2)) = true then
      (if (a.toNat % 32) * 64 + b.toNat % 64 ≥ 0x80 then ((a.toNat % 32) * 64 + b.toNat % 64, 2) else (Utf8.runeError, 1))
    else if (a.toNat / 16 == 14 && (decide (1 < (a :: b :: c :: r).length) && b.toNat / 64 == 2) && (decide (2 < (a :: b :: c :: r).length) && c.toNat / 64 == 2)) = true then
      (if (decide ((a.toNat % 16) * 4096 + (b.toNat % 64) * 64 + c.toNat % 64 ≥ 0x800) && Utf8.valid (((a.toNat % 16) * 4096 + (b.toNat % 64) * 64 + c.toNat % 64 : Nat) : Int)) = true then ((a.toNat % 16) * 4096 + (b.toNat % 64) * 64 + c.toNat % 64, 3) else (Utf8.runeError, 1))
    else if (a.toNat / 8 == 30 && (decide (1 < (a :: b :: c :: r).length) && b.toNat / 64 == 2) && (decide (2 < (a :: b :: c :: r).length) && c.toNat / 64 == 2) && (decide (3 < (a :: b :: c :: r).length) && ((a :: b :: c :: r).getD 3 0).toNat / 64 == 2)) = true then
      (if (decide ((a.toNat % 8) * 262144 + (b.toNat % 64) * 4096 + (c.toNat % 64) * 64 + ((a :: b :: c :: r).getD 3 0).toNat % 64 ≥ 0x10000) && Utf8.valid (((a.toNat % 8) * 262144 + (b.toNat % 64) * 4096 + (c.toNat % 64) * 64 + ((a :: b :: c :: r).getD 3 0).toNat % 64 : Nat) : Int)) = true then
        ((a.toNat % 8) * 262144 + (b.toNat % 64) * 4096 + (c.toNat % 64) * 64 + ((a :: b :: c :: r).getD 3 0).toNat % 64, 4) else (Utf8.runeError, 1))
    else (Utf8.runeError, 1)) := rfl
  have l1 : decide (1 < (a :: b :: c :: r).length) = true := by simp
  have l2 : decide (2 < (a :: b :: c :: r).length) = true := by simp
  rw [e, if_neg h1, if_neg (by simp [h2]), ucont_iff, ucont_iff, ucond, l1, l2]
  have h4 : (a.toNat / 8 == 30) = false := by rw [beq_eq_false_iff_ne]; omega
  rw [show (a.toNat / 16 == 14) = true by simp [h3], h4]
  simp only [Bool.true_and, Bool.false_and]
  rw [if_neg (c := false = true) (by simp)]
  rfl
theorem udec4 (a b c d : UInt8) (r : List UInt8) (h1 : ¬ a.toNat < 128) (h2 : ¬ a.toNat / 32 = 6) (h3 : ¬ a.toNat / 16 = 14) (h4 : a.toNat / 8 = 30) :
    udec (a :: b :: c :: d :: r) = if (ucont b && ucont c && ucont d) = true then (if (!ubad ((a.toNat % 8) * 262144 + (b.toNat % 64) * 4096 + (c.toNat % 64) * 64 + d.toNat % 64) 65536) = true then
      ((a.toNat % 8) * 262144 + (b.toNat % 64) * 4096 + (c.toNat % 64) * 64 + d.toNat % 64, 4) else (65533, 1)) else (65533, 1) := by
  have e : udec (a :: b :: c :: d :: r) = (if a.toNat < 0x80 then (a.toNat, 1)
    else if (a.toNat / 32 == 6 && (decide (1 < (a :: b :: c :: d :: r).length) && b.toNat / 64 == 2)) = true then
      (if (a.toNat % 32) * 64 + b.toNat % 64 ≥ 0x80 then ((a.toNat % 32) * 64 + b.toNat % 64, 2) else (Utf8.runeError, 1))
    else if (a.toNat / 16 == 14 && (decide (1 < (a :: b :: c :: d :: r).length) && b.toNat / 64 == 2) && (decide (2 < (a :: b :: c :: d :: r).length) && c.toNat / 64 == 2)) = true then
      (if (decide ((a.toNat % 16) * 4096 + (b.toNat % 64) * 64 + c.toNat % 64 ≥ 0x800) && Utf8.valid (((a.toNat % 16) * 4096 + (b.toNat % 64) * 64 + c.toNat % 64 : Nat) : Int)) = true then ((a.toNat % 16) * 4096 + (b.toNat % 64) * 64 + c.toNat % 64, 3) else (Utf8.runeError, 1))
    else if (a.toNat / 8 == 30 && (decide (1 < (a :: b :: c :: d :: r).length) && b.toNat / 64 == 2) && (decide (2 < (a :: b :: c :: d :: r).length) && c.toNat / 64 == 2) && (decide (3 < (a :: b :: c :: d :: r).length) && d.toNat / 64 == 2)) = true then
      (if (decide ((a.toNat % 8) * 262144 + (b.toNat % 64) * 4096 + (c.toNat % 64) * 64 + d.toNat % 64 ≥ 0x10000) && Utf8.valid (((a.toNat % 8) * 262144 + (b.toNat % 64) * 4096 + (c.toNat % 64) * 64 + d.toNat % 64 : Nat) : Int)) = true then
        ((a.toNat % 8) * 262144 + (b.toNat % 64) * 4096 + (c.toNat % 64) * 64 + d.toNat % 64, 4) else (Utf8.runeError, 1))
    else (Utf8.runeError, 1)) := rfl
  have l1 : decide (1 < (a :: b :: c :: d :: r).length) = true := by simp
  have l2 : decide (2 < (a :: b :: c :: d :: r).length) = true := by simp
  have l3 : decide (3 < (a :: b :: c :: d :: r).length) = true := by simp
  rw [e, if_neg h1, if_neg (by simp [h2]), if_neg (by simp [h3]), ucont_iff, ucont_iff, ucont_iff, ucond, l1, l2, l3]
  rw [show (a.toNat / 8 == 30) = true by simp [h4]]
  simp only [Bool.true_and]
  rfl
theorem udec_first (a : UInt8) (r : List UInt8) : (udec (a :: r)).2 = max 1 (ufirst (a :: r)) ∧ (((udec (a :: r)).1 = 65533 ∧ (udec (a :: r)).2 = 1) ↔ ufirst (a :: r) = 0) := by
  by_cases h1 : a.toNat < 128
  · rw [ufirst_lo h1]
    unfold udec
    simp [h1]
    omega
  · rw [ufirst_hi h1]
    by_cases h2 : a.toNat / 32 = 6
    · have hc : uclass a.toNat = some (2, a.toNat - 192, 128) := by unfold uclass; rw [if_pos (by omega)]
      rw [hc]
      unfold udec
      match r with
      | [] => simp [h1, h2, uacc, Utf8.runeError]
      | b :: r =>
        by_cases hb : ucont b = true
        · have hbi := hb
          unfold ucont at hbi
          simp only [Bool.and_eq_true, decide_eq_true_eq] at hbi
          by_cases hn : 128 ≤ (a.toNat % 32) * 64 + b.toNat % 64
          · have hu : ubad (64 * (a.toNat - 192) + (b.toNat - 128)) 128 = false := by unfold ubad; simp; omega
            simp [h1, h2, uacc, ucont_iff, hb, hn, hu]
          · have hu : ubad (64 * (a.toNat - 192) + (b.toNat - 128)) 128 = true := by unfold ubad; simp; omega
            simp [h1, h2, uacc, ucont_iff, hb, hn, hu, Utf8.runeError]
        · simp [h1, h2, uacc, ucont_iff, hb, Utf8.runeError]
    · by_cases h3 : a.toNat / 16 = 14
      · have hc : uclass a.toNat = some (3, a.toNat - 224, 2048) := by unfold uclass; rw [if_neg (by omega), if_pos (by omega)]
        rw [hc]
        match r with
        | [] => simp [udec, h1, uacc, Utf8.runeError]
        | [b] =>
          by_cases hb : ucont b = true
          · simp [udec, h1, h2, uacc, ucont_iff, hb, Utf8.runeError]
          · simp [udec, h1, uacc, ucont_iff, hb, Utf8.runeError]
        | b :: c :: r =>
          rw [udec3 a b c r h1 h2 h3]
          by_cases hb : ucont b = true
          · by_cases hd : ucont c = true
            · have hbi := hb
              have hdi := hd
              unfold ucont at hbi hdi
              simp only [Bool.and_eq_true, decide_eq_true_eq] at hbi hdi
              have e : 64 * (64 * (a.toNat - 224) + (b.toNat - 128)) + (c.toNat - 128) = (a.toNat % 16) * 4096 + (b.toNat % 64) * 64 + c.toNat % 64 := by omega
              simp only [uacc, hb, hd, e, if_true, Bool.and_self, Nat.add_one_sub_one]
              cases ubad ((a.toNat % 16) * 4096 + (b.toNat % 64) * 64 + c.toNat % 64) 2048 <;> simp
            · simp [uacc, hb, hd]
          · simp [uacc, hb]
      · by_cases h4 : a.toNat / 8 = 30
        · have hc : uclass a.toNat = some (4, a.toNat - 240, 65536) := by unfold uclass; rw [if_neg (by omega), if_neg (by omega), if_pos (by omega)]
          rw [hc]
          match r with
          | [] => simp [udec, h1, uacc, Utf8.runeError]
          | [b] =>
            by_cases hb : ucont b = true
            · simp [udec, h1, h2, uacc, ucont_iff, hb, Utf8.runeError]
            · simp [udec, h1, uacc, ucont_iff, hb, Utf8.runeError]
          | [b, c] => by_cases hb : ucont b = true <;> by_cases hd : ucont c = true <;> simp [udec, h1, h2, h3, uacc, ucont_iff, hb, hd, Utf8.runeError]
          | b :: c :: d :: r =>
            rw [udec4 a b c d r h1 h2 h3 h4]
            by_cases hb : ucont b = true
            · by_cases hd : ucont c = true
              · by_cases hf : ucont d = true
                · have hbi := hb
                  have hdi := hd
                  have hfi := hf
                  unfold ucont at hbi hdi hfi
                  simp only [Bool.and_eq_true, decide_eq_true_eq] at hbi hdi hfi
                  have e : 64 * (64 * (64 * (a.toNat - 240) + (b.toNat - 128)) + (c.toNat - 128)) + (d.toNat - 128) = (a.toNat % 8) * 262144 + (b.toNat % 64) * 4096 + (c.toNat % 64) * 64 + d.toNat % 64 := by omega
                  simp only [uacc, hb, hd, hf, e, if_true, Bool.and_self, Nat.add_one_sub_one]
                  cases ubad ((a.toNat % 8) * 262144 + (b.toNat % 64) * 4096 + (c.toNat % 64) * 64 + d.toNat % 64) 65536 <;> simp
                · simp [uacc, hb, hd, hf]
              · simp [uacc, hb, hd]
            · simp [uacc, hb]
        · have hc : uclass a.toNat = none := by unfold uclass; rw [if_neg (by omega), if_neg (by omega), if_neg (by omega)]
          rw [hc]
          simp [udec, h1, h2, h3, h4, Utf8.runeError]
theorem decode_first (s : ByteArray) (i : Nat) (h : i < s.size) : (Utf8.decode s i).2 = max 1 (ufirst (s.data.toList.drop i)) ∧ (((Utf8.decode s i).1 = 65533 ∧ (Utf8.decode s i).2 = 1) ↔ ufirst (s.data.toList.drop i) = 0) := by
  rw [decode_list]
  cases hl : s.data.toList.drop i with
  | nil =>
    have := congrArg List.length hl
    rw [List.length_drop, Array.length_toList] at this
    have e : s.data.size = s.size := rfl
    simp at this
    omega
  | cons a r => exact udec_first a r

theorem validGo_good : ∀ (n : Nat) (l : List UInt8), l.length ≤ n → Lib.validGoD n l = ugood l
  | 0, l, h => by
    have : l = [] := List.eq_nil_of_length_eq_zero (by omega)
    subst this
    rw [ugood_nil]; rfl
  | n + 1, l, h => by
    rw [Lib.validGoD]
    by_cases hl : l = []
    · rw [if_pos hl, hl, ugood_nil]
    · rw [if_neg hl]
      have hd : (Lib.decodeL l).2 = max 1 (ufirst l) ∧ (((Lib.decodeL l).1 = 65533 ∧ (Lib.decodeL l).2 = 1) ↔ ufirst l = 0) := by
        have := decode_first ⟨l.toArray⟩ 0 (by show 0 < l.toArray.size; rw [List.size_toArray]; exact Nat.pos_of_ne_zero fun e => hl (List.eq_nil_of_length_eq_zero e))
        exact this
      by_cases h0 : ufirst l = 0
      · rw [if_pos (hd.2.2 h0), ugood_zero h0 hl]
      · rw [if_neg (fun e => h0 (hd.2.1 e)), hd.1, ugood_step h0]
        have hk := ufirst_le h0
        rw [Nat.max_eq_right hk.1]
        exact validGo_good n _ (by rw [List.length_drop]; omega)
theorem valid_good (l : List UInt8) : Lib.validD l = ugood l := validGo_good _ l (Nat.le_refl _)
theorem runeFrom_count (s : ByteArray) : ∀ (n i : Nat), s.size ≤ i + n → Lib.runeCountFrom s n i = ucount (s.data.toList.drop i)
  | 0, i, h => by
    rw [List.drop_eq_nil_of_le (by rw [Array.length_toList]; exact h), ucount_nil]; rfl
  | n + 1, i, h => by
    rw [Lib.runeCountFrom]
    by_cases hi : i < s.size
    · have hd := decode_first s i hi
      rw [if_pos hi, hd.1, runeFrom_count s n _ (by omega)]
      have hne : s.data.toList.drop i ≠ [] := fun e => by
        have := congrArg List.length e
        rw [List.length_drop, Array.length_toList] at this
        have e : s.data.size = s.size := rfl
        simp at this
        omega
      rw [ucount_step hne, List.drop_drop]
    · rw [if_neg hi, List.drop_eq_nil_of_le (by rw [Array.length_toList]; exact Nat.le_of_not_lt hi), ucount_nil]
theorem rune_count (s : ByteArray) : Lib.runeCount s = ucount s.data.toList := by
  unfold Lib.runeCount
  rw [runeFrom_count s s.size 0 (by omega), List.drop_zero]
end Go.PM
end
