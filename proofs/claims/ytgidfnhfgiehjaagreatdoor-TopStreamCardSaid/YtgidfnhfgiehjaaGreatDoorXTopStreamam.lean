/-
  Texts of the proof, joined: Read4 Read5 WBack EntRow TabRow Descr1 EntEq Descr2 Entry. Conditions: as each names.
-/
import Derived.Test.YtgidfnhfgiehjaaGreatDoorXTopStreamal
import Derived.Deep.LoopGhost
import Derived.Test.YtgidfnhfgiehjaaGreatDoorXTopStreamak
import Derived.Test.YtgidfnhfgiehjaaGreatDoorXTopStreamaa
import Derived.Test.YtgidfnhfgiehjaaGreatDoorXTopStreamad
import Derived.Test.YtgidfnhfgiehjaaGreatDoorXTopStreamab
import Derived.Test.YtgidfnhfgiehjaaGreatDoorXTopStreamac
import Derived.Test.YtgidfnhfgiehjaaGreatDoorXTopStreamah
import Derived.Laws.StructEq
import Derived.Shelf.SlicesE.Kit
import Derived.Test.YtgidfnhfgiehjaaGreatDoorXTopStreamaj
import Derived.Test.YtgidfnhfgiehjaaGreatDoorXTopStreamag

section
namespace Go.Proofs.YtgidfnhfgiehjaaGreatDoor
open Go.RowKit Go.PM
set_option maxRecDepth 100000
set_option maxHeartbeats 1500000
attribute [local go_sem ↓] Go.wp_at_zero Go.wp_at_succ
theorem fthen_app (f g : Fs) (q : Fs × Nat) : fthen (f.app g) q = fthen f (fthen g q) := by
  by_cases h : q.2 = 0
  · rw [fthen_yes h, fthen_yes h, fthen_yes rfl, Fs.app_assoc]
  · rw [fthen_err h, fthen_err h]; exact (fthen_err (f := f) (q := (.nil, q.2)) h).symm
/-- Where the loop stands. -/
def RAt (w : World) (rb cb d : Nat) (s : ByteArray) (R : Fs × Nat) (vv : Value) (kk : Nat) (wr : World) : Prop :=
  ∃ (a : Nat) (F : Fs) (xs : List Value), Cur wr cb s kk ∧ Rdr wr rb cb d a ∧ wr.ownsRow w.heap.size 47 5 vv F.len xs ∧ Cls wr (fun q => w.heap.size ≤ q ∧ vv.ownBlock ≠ some q) xs F ∧ Tch (S2 cb rb) w wr ∧ R = fthen F (fget (lft s kk) d a) ∧ F.len ≤ kk
theorem rat_step {w wr w4 wq w5 : World} {rb cb d k m t n g cap3 : Nat} {s : ByteArray} {R : Fs × Nat} {vv : Value} {y : Int} {x : ByteArray} {i : Fs} {A : Option Addr} {c a : Nat} {F : Fs} {xs : List Value}
    (hcb : cb < w.heap.size) (hrb : rb < w.heap.size) (hown : wr.ownsRow w.heap.size 47 5 vv F.len xs) (hcls : Cls wr (fun q => w.heap.size ≤ q ∧ vv.ownBlock ≠ some q) xs F) (ht : Tch (S2 cb rb) w wr) (hR : R = fthen F (fget (lft s k) d a)) (hF : F.len ≤ k)
    (hk : k < s.size) (hf : ffirst (lft s k) d a = (.cons t y n x i .nil, m, 0)) (ht4 : Tch (S2 cb rb) wr w4) (hc4 : Cur w4 cb s (k + m)) (hr4 : Rdr w4 rb cb d t) (hs4 : SlV w4 (wr.heap.size ≤ ·) (.slice A i.len c) i) (hbq : Below w4.heap.size w4 wq)
    (hown5 : w5.ownsRow w.heap.size 47 5 (.slice (some ⟨g, 0, none⟩) (F.len + 1) cap3) (F.len + 1) (xs ++ [.int .u64 (t : Int), .int .i64 y, .int .u64 (n : Int), .string x, .slice A i.len c])) (hg5 : wq.grownBy w5 vv.ownBlock) (hat : vv.ownBlock = some g ∨ g = wq.heap.size) :
    RAt w rb cb d s R (.slice (some ⟨g, 0, none⟩) (F.len + 1) cap3) (k + m) w5 := by
  have hl : (F.app (.cons t y n x i .nil)).len = F.len + 1 := by rw [Fs.app_len]; simp [Fs.len]
  have hS : ∀ q, w.heap.size ≤ q → ¬ S2 cb rb q := fun q hq h => by rcases h with h | h <;> omega
  have hoq : ∀ g', vv.ownBlock = some g' → w.heap.size ≤ g' ∧ g' < wr.heap.size := fun g' h => hown.lt g' h
  have hm : 2 ≤ m := by
    obtain ⟨t', y', n', x', i', m', e1, e2, _⟩ := fone_ok (rec := fun t => fget t (d + 1) 0) (s := lft s k) (deep := d) (last := a) (by
      have : fone (fun t => fget t (d + 1) 0) (lft s k) d a = _ := hf
      rw [this])
    have : ffirst (lft s k) d a = _ := e1
    rw [hf] at this
    simp only [Prod.mk.injEq] at this
    omega
  have htq : Tch (fun q => vv.ownBlock = some q) wq w5 := Tch.grown hg5 fun q hq _ => hq
  have hnc : cb < wq.heap.size := Nat.lt_of_lt_of_le (Nat.lt_of_lt_of_le hcb ht.size) (Nat.le_trans ht4.size hbq.size)
  have hnr : rb < wq.heap.size := Nat.lt_of_lt_of_le (Nat.lt_of_lt_of_le hrb ht.size) (Nat.le_trans ht4.size hbq.size)
  refine ⟨t, F.app (.cons t y n x i .nil), xs ++ [.int .u64 (t : Int), .int .i64 y, .int .u64 (n : Int), .string x, .slice A i.len c], ⟨((hc4.1.below hbq hc4.1.lt).tch htq fun e => by have := hoq _ e; omega), hc4.2⟩, BlkAt.tch (BlkAt.below hr4 hbq hr4.lt) htq (fun e => by have := hoq _ e; omega), by rw [hl]; exact hown5, ?_, ?_, ?_, by rw [hl]; omega⟩
  · have h1 := ((hcls.lt.tch ht4 fun q hq => hS q hq.1.1).below hbq).imp (J := fun q => w.heap.size ≤ q ∧ vv.ownBlock ≠ some q) fun q hq => hq.1
    have h2 := ((hs4.lt.below hbq).imp (J := fun q => w.heap.size ≤ q ∧ vv.ownBlock ≠ some q) fun q hq => ⟨Nat.le_trans ht.size hq.1, fun e => by have := (hoq _ e).2; have := hq.1; omega⟩)
    have h3 := h1.app (show Cls wq (fun q => w.heap.size ≤ q ∧ vv.ownBlock ≠ some q) [.int .u64 (t : Int), .int .i64 y, .int .u64 (n : Int), .string x, .slice A i.len c] (.cons t y n x i .nil) from ⟨rfl, rfl, rfl, rfl, h2, trivial⟩)
    exact Cls.grow (v := vv) h3 hg5 hat
  · exact ((ht.trans ht4 fun _ _ h => h).bel hbq).trans htq fun q hq e => by have := (hoq q e).1; omega
  · have h0 : (lft s k).length ≠ 0 := by rw [lft_length]; omega
    rw [hR, fget_step h0 (by rw [hf]), hf, fthen_app]
    show fthen F (fthen (.cons t y n x i .nil) (fget ((lft s k).drop m) d t)) = _
    rw [lft_drop]
theorem all_zero : AllOk 0 := by
  intro rb cb s k d a w hN hd ha hs hr hc
  have HC := Lib.hid hc
  have hk : k = s.size := by have := hc.2.1; omega
  have hl : lft s k = [] := List.eq_nil_of_length_eq_zero (by rw [lft_length]; omega)
  have HE : Hid (∀ w', Below w.heap.size w w' → AllEnd w rb cb d a s k (.returned (.tuple #[.slice none 0 0, .int .i64 0])) w') := fun w' hb => by
    refine ⟨none, 0, by rw [hl, fget_nil]; rfl, ?_, Tch.below hb⟩
    rw [hl, fget_nil]
    exact SlV.nil _ _ _ _
  have r0 := hr.cell 0
  simp at r0
  have hki : (k : Int) = (s.size : Int) := by omega
  obtain ⟨kk, hkk⟩ : ∃ kk, kk = k := ⟨k, rfl⟩
  rw [← hkk] at HC hki
  clear hr hc hl hk hkk
  go_enter Tryz.func81, Tryz.ntmps81
  go_wp2_with fail
  go_loopg [4] 0 (fun gk vv wr => vv = .slice none 0 0 ∧ wr = w)
  case atStart => exact ⟨rfl, rfl⟩
  case round =>
    obtain ⟨rfl, rfl⟩ := hrel
    go_wp2_with fail
    refine (cur_left cb s _ _ HC.out).mono ?_
    rintro e w2 ⟨rfl, hb2⟩
    go_wp2_with fail
    go_ret2
    exact HE.out _ hb2
theorem all_step {N : Nat} (hall : AllOk N) : AllOk (N + 1) := by
  intro rb cb s k d a w hN hd ha hs hr hc
  have HALL := Lib.hid hall
  have hrl := hr.lt
  have hcl := hc.1.lt
  have hks := hc.2.1
  obtain ⟨i0, hi0, hz0, hz1, hz2⟩ := info_parts info_field
  generalize hR : fget (lft s k) d a = R
  have HR := Lib.hid hR
  have H0 : Hid (RAt w rb cb d s R (.slice none 0 0) k w) := ⟨a, .nil, [], hc, hr, World.ownsRow_nil _ _ _ _, trivial, Tch.refl _ _, by
    have e : ∀ q : Fs × Nat, (q.2 ≠ 0 → q.1 = .nil) → fthen .nil q = q := fun q hq => by
      by_cases h : q.2 = 0
      · rw [fthen_yes h]; exact Prod.ext rfl h.symm
      · rw [fthen_err h]; exact Prod.ext (hq h).symm rfl
    rw [← hR, e]
    intro hne
    by_cases h0 : (lft s k).length = 0
    · rw [List.eq_nil_of_length_eq_zero h0] at hne; exact absurd rfl hne
    by_cases h1 : (ffirst (lft s k) d a).2.2 ≠ 0
    · rw [fget_err h0 h1]
    · rw [fget_step h0 (Classical.not_not.1 h1)] at hne ⊢
      generalize fget ((lft s k).drop (ffirst (lft s k) d a).2.1) d (ffirst (lft s k) d a).1.tag = q at *
      by_cases hq : q.2 = 0
      · rw [fthen_yes hq] at hne; exact absurd rfl hne
      · rw [fthen_err hq], Nat.zero_le _⟩
  have HD : Hid (∀ e w', (e = .returned (.tuple #[.slice none 0 0, .int .i64 (R.2 : Int)]) ∧ R.1 = .nil ∨ ∃ A c, e = .returned (.tuple #[.slice A R.1.len c, .int .i64 (R.2 : Int)]) ∧ SlV w' (w.heap.size ≤ ·) (.slice A R.1.len c) R.1) → Tch (S2 cb rb) w w' → AllEnd w rb cb d a s k e w') := fun e w' h ht => by
    unfold AllEnd
    rw [hR]
    rcases h with ⟨rfl, h⟩ | ⟨A, c, rfl, h⟩
    · rw [h]; exact ⟨none, 0, rfl, SlV.nil _ _ _ _, ht⟩
    · exact ⟨A, c, rfl, h, ht⟩
  clear hr hc hall hR
  go_enter Tryz.func81, Tryz.ntmps81
  go_wp2_with fail
  go_loopg [4] (s.size - k) (fun gk vv wr => ∃ kk : Nat, kk ≤ s.size ∧ k ≤ kk ∧ s.size - kk ≤ gk ∧ Hid (RAt w rb cb d s R vv kk wr))
  case atStart => exact ⟨k, hks, Nat.le_refl _, Nat.le_refl _, H0⟩
  case round =>
    obtain ⟨kk, hkk, hkk2, hgk, HRA⟩ := hrel
    obtain ⟨a', F, xs, hc, hr, hown, hcls, ht, hRR, hF⟩ := HRA.out
    have HC := Lib.hid hc
    have r0 := hr.cell 0
    simp at r0
    by_cases hlt : kk < s.size
    · have hki : (kk : Int) < (s.size : Int) := by omega
      have HRR := Lib.hid hRR
      have HRD := Lib.hid hr
      have HOWN := Lib.hid hown
      have HCLS := Lib.hid hcls
      have HT := Lib.hid ht
      clear hc hr hown hcls ht hRR
      go_wp2_with fail
      refine (cur_left cb s _ _ HC.out).mono ?_
      rintro e w2 ⟨rfl, hb2⟩
      have HB2 := Lib.hid hb2
      have HRD2 : Hid (Rdr w2 rb cb d a') := BlkAt.below HRD.out hb2 HRD.out.lt
      have HC2 : Hid (Cur w2 cb s kk) := ⟨HC.out.1.below hb2 HC.out.1.lt, HC.out.2⟩
      clear hb2
      go_wp2_with fail
      refine (rnext_any HALL.out rb cb d a' s kk w2 HRD2.out HC2.out (by omega) hs hd).mono ?_
      rintro e w4 ⟨ht4, ⟨hne, rfl⟩ | ⟨t, n, m, y, x, i, A, c, hf, rfl, hc4, hr4, hs4⟩⟩
      · have HE : Hid (∀ w', Below w4.heap.size w4 w' → AllEnd w rb cb d a s k (.returned (.tuple #[.slice none 0 0, .int .i64 ((ffirst (lft s kk) d a').2.2 : Int)])) w') := fun w' hb => by
          have h0 : (lft s kk).length ≠ 0 := by rw [lft_length]; omega
          have h1 : R = (.nil, (ffirst (lft s kk) d a').2.2) := by rw [HRR.out, fget_err h0 hne, fthen_err hne]
          have h2 := HD.out (.returned (.tuple #[.slice none 0 0, .int .i64 ((ffirst (lft s kk) d a').2.2 : Int)])) w'
          rw [h1] at h2
          exact h2 (.inl ⟨rfl, rfl⟩) (((HT.out.bel HB2.out).trans ht4 fun _ _ h => h).bel hb)
        generalize (ffirst (lft s kk) d a').2.2 = G at *
        have hgi : ((G : Int) != 0) = true := by rw [bne_iff_ne]; omega
        clear ht4 hne
        go_wp2_with fail
        go_ret2
        exact HE.out _ (ba b0 _)
      · have HF2 := Lib.hid (And.intro hf (And.intro ht4 (And.intro hc4 (And.intro hr4 hs4))))
        have hw2z := HB2.out.size
        have hw4z := ht4.size
        have htz := HT.out.size
        have hS : ∀ q, w.heap.size ≤ q → ¬ S2 cb rb q := fun q hq h => by rcases h with h | h <;> omega
        have how4 := own_tch (own_below HOWN.out HB2.out) ht4 fun g hg => hS g (HOWN.out.lt g hg).1
        have HO4 := Lib.hid ((how4.alloc (.cells #[.int .u64 (t : Int), .int .i64 y, .int .u64 (n : Int), .string x, .slice A i.len c] 47)).alloc (.cells #[.int .u64 (t : Int), .int .i64 y, .int .u64 (n : Int), .string x, .slice A i.len c] 47))
        have hnb := BlkAt.made (w4.alloc (.cells #[.int .u64 (t : Int), .int .i64 y, .int .u64 (n : Int), .string x, .slice A i.len c] 47)) 47 #[.int .u64 (t : Int), .int .i64 y, .int .u64 (n : Int), .string x, .slice A i.len c]
        rw [World.size_alloc] at hnb
        have HNB := Lib.hid hnb
        have hF6 : F.len ≤ 1000000 := by omega
        clear hf ht4 hc4 hr4 hs4 how4 hnb hS
        go_wp2_with (at_builtin; go_must (refine wpList_append_lies _ rfl _ _ 33 rfl w.heap.size 47 i0 _ 5 64 Tryz.underlying33 hi0 hz0 hz1 hz2 rfl (by decide) u4 F.len xs rfl HO4.out ⟨w4.heap.size + 1, 0, none⟩ 1 1 [.int .u64 (t : Int), .int .i64 y, .int .u64 (n : Int), .string x, .slice A i.len c] rfl rfl HNB.out.news (by simp [Value.oneCell']) (by decide) (by unfold maxLen; omega) (by omega) (by simp; omega) (w4.heap.size + 1 + 1) (by simp) ?_); intro g3 cap3 w5 hown5 hg5 hat5 hlt5; have HO5 := Lib.hid hown5; have HG5 := Lib.hid hg5; have HAT5 := Lib.hid hat5; clear hown5 hg5 hat5 hlt5)
        have hm1 : kk + m ≤ s.size ∧ 1 ≤ m := by
          obtain ⟨t', y', n', x', i', m', e1, e2, e3, _⟩ := fone_ok (rec := fun t => fget t (d + 1) 0) (s := lft s kk) (deep := d) (last := a') (by
            have : fone (fun t => fget t (d + 1) 0) (lft s kk) d a' = _ := HF2.out.1
            rw [this])
          have h1 : ffirst (lft s kk) d a' = _ := e1
          rw [HF2.out.1] at h1
          simp only [Prod.mk.injEq] at h1
          rw [lft_length] at e3
          omega
        go_roundg (s.size - (kk + m))
        case measure => omega
        case rel =>
          refine ⟨kk + m, hm1.1, by omega, Nat.le_refl _, ?_⟩
          have htw : Tch (S2 cb rb) wr w4 := (Tch.below HB2.out).trans HF2.out.2.1 fun _ _ h => h
          exact rat_step hcl hrl HOWN.out HCLS.out HT.out HRR.out hF hlt HF2.out.1 htw HF2.out.2.2.1 HF2.out.2.2.2.1 (HF2.out.2.2.2.2.imp fun q hq => Nat.le_trans HB2.out.size hq) (ba (ba b0 _) _) HO5.out HG5.out (HAT5.out.imp id fun h => by rw [h]; simp)
    · obtain rfl : kk = s.size := by omega
      have h0 : lft s s.size = [] := List.eq_nil_of_length_eq_zero (by rw [lft_length]; omega)
      rw [h0, fget_nil, fthen_yes rfl, Fs.app_nil] at hRR
      subst hRR
      obtain ⟨A, c, rfl, hsl⟩ := own_slv hown hcls fun q hq => hq.1
      have HE : Hid (∀ w', Below wr.heap.size wr w' → AllEnd w rb cb d a s k (.returned (.tuple #[.slice A F.len c, .int .i64 0])) w') := fun w' hb => HD.out _ w' (.inr ⟨A, c, rfl, hsl.below hb⟩) (ht.bel hb)
      clear hc hr hown hcls ht hsl h0 HRA
      go_wp2_with fail
      refine (cur_left cb s _ _ HC.out).mono ?_
      rintro e w2 ⟨rfl, hb2⟩
      go_wp2_with fail
      go_ret2
      exact HE.out _ hb2
theorem all_any : ∀ N, AllOk N
  | 0 => all_zero
  | N + 1 => all_step (all_any N)
end Go.Proofs.YtgidfnhfgiehjaaGreatDoor
end

section
namespace Go.Proofs.YtgidfnhfgiehjaaGreatDoor
open Go.RowKit Go.PM
set_option maxRecDepth 100000
set_option maxHeartbeats 1500000
attribute [local go_sem ↓] Go.wp_at_zero Go.wp_at_succ
/-- The fields that a text is. -/
def fgets (s : List UInt8) : Fs × Nat := if 65536 < s.length then (.nil, 4) else fget s 0 0
def GetEnd (w : World) (s : ByteArray) (e : Ending) (w' : World) : Prop :=
  ∃ (A : Option Addr) (c : Nat), e = .returned (.tuple #[.slice A (fgets s.data.toList).1.len c, .int .i64 ((fgets s.data.toList).2 : Int)]) ∧ SlV w' (w.heap.size ≤ ·) (.slice A (fgets s.data.toList).1.len c) (fgets s.data.toList).1 ∧ Below w.heap.size w w'
theorem wget_any (s : ByteArray) (w : World) (hs : s.size ≤ 1000000) : Calls Tryz.prog 38 #[.string s] w (GetEnd w s) := by
  by_cases hbig : 65536 < s.size
  · have HE : Hid (GetEnd w s (.returned (.tuple #[.slice none 0 0, .int .i64 4])) w) := by
      have h : fgets s.data.toList = (.nil, 4) := by unfold fgets; rw [len_list, if_pos hbig]
      unfold Hid GetEnd
      rw [h]
      exact ⟨none, 0, rfl, SlV.nil _ _ _ _, b0⟩
    go_enter Tryz.func38, Tryz.ntmps38
    go_wp2
    go_ret2
    exact HE.out
  · have hf : fgets s.data.toList = fget s.data.toList 0 0 := by unfold fgets; rw [len_list, if_neg hbig]
    have hcb : Cur (w.alloc (.cells #[.string s, .int .i64 0] 228)) w.heap.size s 0 := ⟨BlkAt.made w _ _, Nat.zero_le _, by omega⟩
    have hrb : Rdr ((w.alloc (.cells #[.string s, .int .i64 0] 228)).alloc (.cells #[.pointer (some ⟨w.heap.size, 0, none⟩), .int .i64 0, .int .u64 0] 151)) (w.heap.size + 1) w.heap.size 0 0 := by
      have := BlkAt.made (w.alloc (.cells #[.string s, .int .i64 0] 228)) 151 #[.pointer (some ⟨w.heap.size, 0, none⟩), .int .i64 0, .int .u64 0]
      rw [World.size_alloc] at this
      exact this
    have hcb2 : Cur ((w.alloc (.cells #[.string s, .int .i64 0] 228)).alloc (.cells #[.pointer (some ⟨w.heap.size, 0, none⟩), .int .i64 0, .int .u64 0] 151)) w.heap.size s 0 := ⟨hcb.1.more _, hcb.2⟩
    have HAL := Lib.hid (all_any s.size (w.heap.size + 1) w.heap.size s 0 0 0 _ (by omega) (by omega) (by omega) hs hrb hcb2)
    have HGE : Hid (∀ e w', AllEnd ((w.alloc (.cells #[.string s, .int .i64 0] 228)).alloc (.cells #[.pointer (some ⟨w.heap.size, 0, none⟩), .int .i64 0, .int .u64 0] 151)) (w.heap.size + 1) w.heap.size 0 0 s 0 e w' → ∃ A c, e = .returned (.tuple #[.slice A (fgets s.data.toList).1.len c, .int .i64 ((fgets s.data.toList).2 : Int)]) ∧ GetEnd w s e w') := fun e w' h => by
      obtain ⟨A, c, rfl, h1, h2⟩ := h
      have hl : lft s 0 = s.data.toList := rfl
      rw [hl, ← hf] at h1 ⊢
      refine ⟨A, c, rfl, A, c, rfl, h1.imp fun q hq => ?_, ?_⟩
      · simp only [World.size_alloc] at hq; omega
      · have hb : Below w.heap.size w ((w.alloc (.cells #[.string s, .int .i64 0] 228)).alloc (.cells #[.pointer (some ⟨w.heap.size, 0, none⟩), .int .i64 0, .int .u64 0] 151)) := ba (ba b0 _) _
        exact hb.trans (h2.toBelowB hb.size fun g hg hh => by rcases hh with hh | hh <;> omega)
    clear hcb hrb hcb2 hf
    go_enter Tryz.func38, Tryz.ntmps38
    go_wp2_with fail
    refine (cur_over s w).mono ?_
    rintro e w1 ⟨rfl, rfl⟩
    go_wp2_with fail
    refine HAL.out.mono ?_
    intro e w2 h
    obtain ⟨A, c, rfl, hge⟩ := HGE.out e w2 h
    have HG := Lib.hid hge
    clear h hge
    generalize (fgets s.data.toList).2 = G at *
    generalize (fgets s.data.toList).1.len = LL at *
    go_wp2_with fail
    go_ret2
    exact HG.out
def FirstEnd (w : World) (s : ByteArray) (e : Ending) (w' : World) : Prop :=
  Below w.heap.size w w' ∧ (((ffirst s.data.toList 0 0).2.2 ≠ 0 ∧ e = .returned (.tuple #[.agg #[.int .u64 0, .int .i64 0, .int .u64 0, .string ByteArray.empty, .slice none 0 0], .int .i64 0, .int .i64 ((ffirst s.data.toList 0 0).2.2 : Int)])) ∨
    ∃ (t n m : Nat) (y : Int) (x : ByteArray) (i : Fs) (A : Option Addr) (c : Nat), ffirst s.data.toList 0 0 = (.cons t y n x i .nil, m, 0) ∧ e = .returned (.tuple #[.agg #[.int .u64 (t : Int), .int .i64 y, .int .u64 (n : Int), .string x, .slice A i.len c], .int .i64 (m : Int), .int .i64 0]) ∧ SlV w' (w.heap.size ≤ ·) (.slice A i.len c) i)
end Go.Proofs.YtgidfnhfgiehjaaGreatDoor
end

section
namespace Go.Proofs.YtgidfnhfgiehjaaGreatDoor
open Go.RowKit Go.PM
set_option maxRecDepth 100000
set_option maxHeartbeats 1500000
theorem fcheckP_kd : ∀ {f : Fs} {a w : Nat}, fcheckP f a w → f.All FKd
  | .nil, _, _, _ => trivial
  | .cons t y n s i r, a, w, h => by
    obtain ⟨⟨h1, h2, h3, h4, h5⟩, h6⟩ := h
    have hr := fcheckP_kd h6
    have ht : In64 t := by show t < 18446744073709551616; omega
    rcases h5 with ⟨rfl, rfl, rfl⟩ | ⟨rfl, rfl, rfl, h7⟩ | ⟨rfl, rfl, rfl, h8, h9⟩
    · exact ⟨⟨ht, by unfold InI64; omega, h4, by simp⟩, trivial, hr⟩
    · exact ⟨⟨ht, by unfold InI64; omega, h4, h7⟩, trivial, hr⟩
    · exact ⟨⟨ht, by unfold InI64; omega, h4, by simp⟩, fcheckP_kd h9, hr⟩
/-- What was written is read as it was. -/
theorem fgets_text {f : Fs} (hk : f.All FKd) (h : fcheck f 0 0 = 0) (hL : (ftx f).length ≤ 65536) : fgets (ftx f) = (f, 0) := by
  have hp := (fcheck_iff f 0 0 hk (by omega)).1 h
  have := fget_text [] f 0 0 (by omega) hp (by omega)
  rw [List.append_nil, fget_nil, fthen_yes rfl, Fs.app_nil] at this
  unfold fgets
  rw [if_neg (by omega), this]
theorem fput_yes {f : Fs} (h : fcheck f 0 0 = 0) (hL : (ftx f).length ≤ 65536) : fput f = (ftx f, 0) := by
  unfold fput
  rw [if_neg (by rw [h]; simp), if_neg (by omega)]
/-- What reads well is written as it was. -/
theorem fgets_back {s : List UInt8} (hs : s.length ≤ 65536) (h : (fgets s).2 = 0) :
    (fgets s).1.All FKd ∧ (fgets s).1.count ≤ 1000000 ∧ fcheck (fgets s).1 0 0 = 0 ∧ ftx (fgets s).1 = s ∧ fput (fgets s).1 = (s, 0) ∧ fszB (fgets s).1 = s.length := by
  have e : fgets s = fget s 0 0 := by unfold fgets; rw [if_neg (by omega)]
  rw [e] at h ⊢
  obtain ⟨h1, h2, h3⟩ := fget_ok s.length s 0 0 (Nat.le_refl _) (by omega) (by omega) h
  generalize (fget s 0 0).1 = l at *
  have hk := fcheckP_kd h2
  have hc := (fcheck_iff l 0 0 hk (by omega)).2 h2
  refine ⟨hk, by omega, hc, h1, ?_, ?_⟩
  · rw [fput_yes hc (by rw [h1]; omega), h1]
  · unfold fszB; rw [if_neg (by rw [hc]; simp), h1]
/-- The end of a reading whose fields are known. -/
def GotEnd (f : Fs) (G : Nat) (w : World) (e : Ending) (w' : World) : Prop :=
  ∃ (A : Option Addr) (c : Nat), e = .returned (.tuple #[.slice A f.len c, .int .i64 (G : Int)]) ∧ SlV w' (fun _ => True) (.slice A f.len c) f ∧ Below w.heap.size w w'
end Go.Proofs.YtgidfnhfgiehjaaGreatDoor
end

section
namespace Go.PM
open Go.RowKit
/-- An entry's cells. -/
def encE (e : Ent) : List Value := [.string (txt e.1), .string (txt e.2)]
theorem encE_len (e : Ent) : (encE e).length = 2 := rfl
theorem encE_one (e : Ent) : ∀ v ∈ encE e, v.oneCell' = true := by
  intro v hv
  simp only [encE, List.mem_cons, List.not_mem_nil, or_false] at hv
  rcases hv with rfl | rfl <;> rfl
def ents (l : List Ent) : List Value := l.flatMap encE
theorem ents_len : ∀ l : List Ent, (ents l).length = l.length * 2
  | [] => rfl
  | a :: r => by
    show (ents r).length + 1 + 1 = (r.length + 1) * 2
    rw [ents_len r]
    omega
theorem ents_app (l m : List Ent) : ents (l ++ m) = ents l ++ ents m := by simp [ents]
theorem ents_at : ∀ (l : List Ent) (k : Nat) (h : k < l.length), (ents l)[k * 2]? = some (.string (txt l[k].1)) ∧ (ents l)[k * 2 + 1]? = some (.string (txt l[k].2))
  | a :: r, 0, _ => ⟨rfl, rfl⟩
  | a :: r, k + 1, h => by
    have ih := ents_at r k (by simpa using h)
    rw [show (k + 1) * 2 = k * 2 + 1 + 1 by omega]
    exact ih
theorem ents_one (l : List Ent) : ∀ u ∈ ents l, u.oneCell' = true := fun u hu => by
  obtain ⟨a, _, h⟩ := List.mem_flatMap.1 hu
  exact encE_one a u h
theorem ents_drop (l : List Ent) (k : Nat) : (ents l).drop (k * 2) = ents (l.drop k) := by
  induction l generalizing k with
  | nil => simp [ents]
  | cons a r ih =>
    cases k with
    | zero => simp
    | succ k =>
      rw [show (k + 1) * 2 = k * 2 + 1 + 1 by omega]
      show (ents r).drop (k * 2) = ents (r.drop k)
      rw [ih]
section
variable {w : World} {A : Option Addr} {l : List Ent}
theorem Rd.ent (h : Rd w A (ents l)) {k : Nat} (hk : k < l.length) : ∃ b off, A = some ⟨b, off, none⟩ ∧ b < w.heap.size ∧ w.cell? ⟨b, off + k * 2, none⟩ = some (.string (txt l[k].1)) ∧ w.cell? ⟨b, off + k * 2 + 1, none⟩ = some (.string (txt l[k].2)) := by
  obtain ⟨h1, h2⟩ := ents_at l k hk
  rcases h with h | ⟨b, off, e, hb, hc⟩
  · rw [h] at h1; simp at h1
  · exact ⟨b, off, e, hb, hc _ _ h1, hc _ _ h2⟩
theorem Rd.sub {b o : Nat} (h : Rd w (some ⟨b, o, none⟩) (ents l)) (k : Nat) : Rd w (some ⟨b, o + k * 2, none⟩) (ents (l.drop k)) := by
  rcases h with h | ⟨b', off, e, hb, hc⟩
  · left
    rw [← ents_drop, h, List.drop_nil]
  · injection e with e
    injection e with e1 e2
    subst e1 e2
    refine .inr ⟨b, o + k * 2, rfl, hb, fun j u hj => ?_⟩
    rw [← ents_drop, List.getElem?_drop] at hj
    rw [Nat.add_assoc]
    exact hc _ _ hj
end
def zent : Value := .agg #[.string ByteArray.empty, .string ByteArray.empty]
section
variable {P : Program} {w : World}
/-- Entries appended to a row of the call's own. -/
theorem eapp_run (t ty e : TypeId) (i : TypeInfo) (ht : P.underlying t = some (.slice e)) (hi : P.info? e = some i) (hz : i.zero = some zent) (hsz : i.size = 2) (hby : i.bytes = 32)
    {base : Nat} {A B : Option Addr} {c d : Nat} {l m : List Ent} (hown : w.ownsRow base e 2 (.slice A l.length c) l.length (ents l)) (hB : Rd w B (ents m)) (hlm : l.length + m.length ≤ 1000000) (hb : base ≤ w.heap.size) :
    ∃ (A' : Option Addr) (c' : Nat) (w' : World), (Builtin.append_ #[t, t] ty #[.slice A l.length c, .slice B m.length d]).run P w = .ok (.slice A' (l.length + m.length) c') w' ∧ w'.ownsRow base e 2 (.slice A' (l.length + m.length) c') (l.length + m.length) (ents (l ++ m)) ∧
      w.grownBy w' (Value.slice A l.length c).ownBlock ∧ ((Value.slice A' (l.length + m.length) c').ownBlock = (Value.slice A l.length c).ownBlock ∨ (Value.slice A' (l.length + m.length) c').ownBlock = some w.heap.size) := by
  by_cases h0 : m = []
  · subst h0
    have hnc : l.length ≤ c := by
      rcases hown.2 with ⟨h1, h2⟩ | ⟨g', cap, cur, h1, _, _, h2, _⟩
      · omega
      · simp only [Value.slice.injEq] at h1; omega
    rw [List.append_nil, List.length_nil, Nat.add_zero]
    exact ⟨A, c, w, append_empty t ty e i ht hi A B l.length c d hnc, hown, grown_refl _ _, .inl rfl⟩
  · rcases hB with h | ⟨b, o, rfl, hbl, hc⟩
    · have h1 := ents_len m
      rw [h] at h1
      exact absurd (List.eq_nil_of_length_eq_zero (by simp only [List.length_nil] at h1; omega)) h0
    have hpos : 0 < m.length := List.length_pos_iff.2 h0
    have hnews : ∀ j u, (ents m)[j]? = some u → w.cell? ((⟨b, o, none⟩ : Addr).add j) = some u := fun j u hj => by
      have ha : (⟨b, o, none⟩ : Addr).add j = ⟨b, o + j, none⟩ := by unfold Addr.add; split <;> simp_all
      rw [ha]; exact hc j u hj
    obtain ⟨g', cap, w', hr, h2, h3, h4, h5⟩ := run_append_lies (P := P) w t ty base e i zent 2 32 ht hi hz hsz hby rfl (by decide) _ l.length (ents l) hown ⟨b, o, none⟩ m.length d (ents m) (ents_len m) hnews (ents_one m) hpos (by unfold maxLen; omega) (by omega) hb w.heap.size rfl
    refine ⟨some ⟨g', 0, none⟩, cap, w', hr, by rw [ents_app]; exact h2, h3, ?_⟩
    rcases h4 with h4 | h4
    · exact .inl h4.symm
    · right; rw [h4]; rfl
end
/-- An own row of entries is read so. -/
theorem own_rd {w : World} {base e n : Nat} {v : Value} {l : List Ent} (h : w.ownsRow base e 2 v n (ents l)) : n = l.length ∧ ∃ A c, v = .slice A l.length c ∧ Rd w A (ents l) ∧ l.length ≤ c ∧ (∀ b off, A = some ⟨b, off, none⟩ → v.ownBlock = some b ∧ base ≤ b) := by
  have hn : n = l.length := by have h1 := h.1; rw [ents_len] at h1; omega
  subst hn
  exact ⟨rfl, Rd.own h⟩
end Go.PM
end

section
namespace Go.PM
open Go.RowKit
/-- A counter as it lies: where its entries lie. -/
structure Rv where
  d : List Ent
  A : Option Addr
  c : Nat
  n : Nat
def Rv.rw (r : Rv) : Rw := (r.d, r.n)
def encR (r : Rv) : List Value := [.slice r.A r.d.length r.c, .int .u64 (r.n : Int)]
def rvs (l : List Rv) : List Value := l.flatMap encR
theorem rvs_len : ∀ l : List Rv, (rvs l).length = l.length * 2
  | [] => rfl
  | a :: r => by
    show (rvs r).length + 1 + 1 = (r.length + 1) * 2
    rw [rvs_len r]
    omega
theorem rvs_app (l m : List Rv) : rvs (l ++ m) = rvs l ++ rvs m := by simp [rvs]
theorem rvs_at : ∀ (l : List Rv) (k : Nat) (h : k < l.length), (rvs l)[k * 2]? = some (.slice l[k].A l[k].d.length l[k].c) ∧ (rvs l)[k * 2 + 1]? = some (.int .u64 (l[k].n : Int))
  | a :: r, 0, _ => ⟨rfl, rfl⟩
  | a :: r, k + 1, h => by
    have ih := rvs_at r k (by simpa using h)
    rw [show (k + 1) * 2 = k * 2 + 1 + 1 by omega]
    exact ih
theorem rvs_one (l : List Rv) : ∀ u ∈ rvs l, u.oneCell' = true := fun u hu => by
  obtain ⟨a, _, h⟩ := List.mem_flatMap.1 hu
  simp only [encR, List.mem_cons, List.not_mem_nil, or_false] at h
  rcases h with rfl | rfl <;> rfl
/-- Entries that lie in blocks of which I holds. -/
def RdI (w : World) (I : Nat → Prop) (A : Option Addr) (l : List Ent) : Prop := l = [] ∨ ∃ b off, A = some ⟨b, off, none⟩ ∧ I b ∧ b < w.heap.size ∧ ∀ j u, (ents l)[j]? = some u → w.cell? ⟨b, off + j, none⟩ = some u
section
variable {w w' : World} {I J S : Nat → Prop} {A : Option Addr} {l : List Ent}
theorem RdI.rd (h : RdI w I A l) : Rd w A (ents l) := by
  rcases h with rfl | ⟨b, off, e, _, hb, hc⟩
  · exact .inl rfl
  · exact .inr ⟨b, off, e, hb, hc⟩
theorem RdI.imp (h : RdI w I A l) (hi : ∀ b, b < w.heap.size → I b → J b) : RdI w J A l := Or.imp id (fun ⟨b, off, e, hI, hb, hc⟩ => ⟨b, off, e, hi b hb hI, hb, hc⟩) h
theorem RdI.tch (h : RdI w I A l) (hg : Tch S w w') (hs : ∀ b, I b → ¬ S b) : RdI w' I A l := Or.imp id (fun ⟨b, off, e, hI, hb, hc⟩ => ⟨b, off, e, hI, Nat.lt_of_lt_of_le hb hg.size, fun j u hj => (World.cell?_of_block (a := ⟨b, off + j, none⟩) (hg.block b hb (hs b hI))).trans (hc j u hj)⟩) h
theorem RdI.below (h : RdI w I A l) (hb : Below w.heap.size w w') : RdI w' I A l := h.tch (S := fun _ => False) (Tch.below hb) fun _ _ => id
theorem Rd.rdI (h : Rd w A (ents l)) (hf : ∀ b off, A = some ⟨b, off, none⟩ → I b) : RdI w I A l := by
  rcases h with h | ⟨b, off, e, hb, hc⟩
  · left
    have h1 := ents_len l
    rw [h] at h1
    exact List.eq_nil_of_length_eq_zero (by simp only [List.length_nil] at h1; omega)
  · exact .inr ⟨b, off, e, hf b off e, hb, hc⟩
end
def RvOk (w : World) (I : Nat → Prop) (r : Rv) : Prop := r.d.length ≤ r.c ∧ RdI w I r.A r.d
theorem RvOk.tch {w w' : World} {I S : Nat → Prop} {r : Rv} (h : RvOk w I r) (hg : Tch S w w') (hs : ∀ b, I b → ¬ S b) : RvOk w' I r := ⟨h.1, h.2.tch hg hs⟩
theorem RvOk.below {w w' : World} {I : Nat → Prop} {r : Rv} (h : RvOk w I r) (hb : Below w.heap.size w w') : RvOk w' I r := ⟨h.1, h.2.below hb⟩
theorem RvOk.imp {w : World} {I J : Nat → Prop} {r : Rv} (h : RvOk w I r) (hi : ∀ b, b < w.heap.size → I b → J b) : RvOk w J r := ⟨h.1, h.2.imp hi⟩
theorem Rd.row {w : World} {A : Option Addr} {l : List Rv} (h : Rd w A (rvs l)) {k : Nat} (hk : k < l.length) : ∃ b off, A = some ⟨b, off, none⟩ ∧ b < w.heap.size ∧ w.cell? ⟨b, off + k * 2, none⟩ = some (.slice l[k].A l[k].d.length l[k].c) ∧ w.cell? ⟨b, off + k * 2 + 1, none⟩ = some (.int .u64 (l[k].n : Int)) := by
  obtain ⟨h1, h2⟩ := rvs_at l k hk
  rcases h with h | ⟨b, off, e, hb, hc⟩
  · rw [h] at h1; simp at h1
  · exact ⟨b, off, e, hb, hc _ _ h1, hc _ _ h2⟩
/-- A table: rows that lie so. -/
def TbV (w : World) (I : Nat → Prop) (v : Value) (t : List Rw) : Prop := ∃ (l : List Rv) (A : Option Addr) (c : Nat), v = .slice A l.length c ∧ t = l.map Rv.rw ∧ Rd w A (rvs l) ∧ (∀ r ∈ l, RvOk w I r) ∧ l.length ≤ c
theorem TbV.below {w w' : World} {I : Nat → Prop} {v : Value} {t : List Rw} (h : TbV w I v t) (hb : Below w.heap.size w w') : TbV w' I v t := by
  obtain ⟨l, A, c, h1, h2, h3, h4, h5⟩ := h
  exact ⟨l, A, c, h1, h2, h3.below hb, fun r hr => (h4 r hr).below hb, h5⟩
theorem TbV.nil (w : World) (I : Nat → Prop) : TbV w I (.slice none 0 0) [] := ⟨[], none, 0, rfl, rfl, .inl rfl, by simp, Nat.le_refl _⟩
def zrow : Value := .agg #[.slice none 0 0, .int .u64 0]
/-- A row appended to rows of the call's own. -/
theorem rapp_run {P : Program} {w : World} (t ty e : TypeId) (i : TypeInfo) (ht : P.underlying t = some (.slice e)) (hi : P.info? e = some i) (hz : i.zero = some zrow) (hsz : i.size = 2) (hby : i.bytes = 32)
    {base : Nat} {A : Option Addr} {g c d : Nat} {l : List Rv} {r : Rv} (hown : w.ownsRow base e 2 (.slice A l.length c) l.length (rvs l)) (hB : Rd w (some ⟨g, 0, none⟩) (rvs [r])) (hl : l.length ≤ 100000) (hb : base ≤ w.heap.size) :
    ∃ (A' : Option Addr) (c' : Nat) (w' : World), (Builtin.append_ #[t, t] ty #[.slice A l.length c, .slice (some ⟨g, 0, none⟩) 1 d]).run P w = .ok (.slice A' (l.length + 1) c') w' ∧ w'.ownsRow base e 2 (.slice A' (l.length + 1) c') (l.length + 1) (rvs (l ++ [r])) ∧
      w.grownBy w' (Value.slice A l.length c).ownBlock ∧ ((Value.slice A' (l.length + 1) c').ownBlock = (Value.slice A l.length c).ownBlock ∨ (Value.slice A' (l.length + 1) c').ownBlock = some w.heap.size) := by
  have hc : ∀ j u, (rvs [r])[j]? = some u → w.cell? ⟨g, 0 + j, none⟩ = some u := by
    rcases hB with h | ⟨b, o, e, _, hc⟩
    · have h1 := rvs_len [r]
      rw [h] at h1
      simp at h1
    · injection e with e
      injection e with e1 e2
      subst e1 e2
      exact hc
  have hnews : ∀ j u, (rvs [r])[j]? = some u → w.cell? ((⟨g, 0, none⟩ : Addr).add j) = some u := fun j u hj => by rw [add_at, ← Nat.zero_add j]; exact hc j u hj
  obtain ⟨g', cap, w', hr, h2, h3, h4, h5⟩ := run_append_lies (P := P) w t ty base e i zrow 2 32 ht hi hz hsz hby rfl (by decide) _ l.length (rvs l) hown ⟨g, 0, none⟩ 1 d (rvs [r]) rfl hnews (rvs_one [r]) (by decide) (by unfold maxLen; omega) (by omega) hb w.heap.size rfl
  refine ⟨some ⟨g', 0, none⟩, cap, w', hr, by rw [rvs_app]; exact h2, h3, ?_⟩
  rcases h4 with h4 | h4
  · exact .inl h4.symm
  · right; rw [h4]; rfl
end Go.PM
end

section
namespace Go.Proofs.YtgidfnhfgiehjaaGreatDoor
open Go.RowKit Go.PM
set_option maxRecDepth 100000
set_option maxHeartbeats 1000000
attribute [local go_sem ↓] Go.wp_at_zero Go.wp_at_succ
theorem many_any (n : Nat) (w : World) : Calls Tryz.prog 181 #[.int .u64 (n : Int)] w fun e w' => e = .returned (.int .i64 (dmany n)) ∧ w' = w := by
  unfold dmany
  by_cases h0 : n = 0
  · subst h0
    rw [if_pos rfl]
    go_enter Tryz.func181, Tryz.ntmps181
    go_wp2
    go_ret
    exact ⟨rfl, rfl⟩
  · rw [if_neg h0]
    have i0 : ((n : Int) == 0) = false := by rw [beq_eq_false_iff_ne]; omega
    by_cases h1 : 16 < n
    · rw [if_pos h1]
      have i1 : (16 : Int) < (n : Int) := by omega
      go_enter Tryz.func181, Tryz.ntmps181
      go_wp2
      go_ret
      exact ⟨rfl, rfl⟩
    · rw [if_neg h1]
      have i1 : ¬ (16 : Int) < (n : Int) := by omega
      go_enter Tryz.func181, Tryz.ntmps181
      go_wp2
      go_ret
      exact ⟨rfl, rfl⟩
theorem behind_any (a k : ByteArray) (w : World) : Calls Tryz.prog 183 #[.string a, .string k] w fun e w' => e = .returned (.int .i64 (dbeh a.data.toList k.data.toList)) ∧ w' = w := by
  unfold dbeh
  have hl := less_cmp k.data.toList a.data.toList
  rw [← ByteArray.toList_eq, ← ByteArray.toList_eq] at hl
  rw [← ByteArray.toList_eq, ← ByteArray.toList_eq]
  by_cases h0 : k.toList = a.toList
  · rw [if_pos h0]
    have i0 : (k.toList == a.toList) = true := by rw [beq_iff_eq]; exact h0
    clear h0 hl
    go_enter Tryz.func183, Tryz.ntmps183
    go_wp2
    go_ret
    exact ⟨rfl, rfl⟩
  · rw [if_neg h0]
    have i0 : (k.toList == a.toList) = false := by rw [beq_eq_false_iff_ne]; exact h0
    clear h0
    by_cases h1 : Lib.compareBytes k.toList a.toList < 0
    · rw [if_pos h1]
      rw [decide_eq_true h1] at hl
      clear h1
      go_enter Tryz.func183, Tryz.ntmps183
      go_wp2
      go_ret
      exact ⟨rfl, rfl⟩
    · rw [if_neg h1]
      rw [decide_eq_false h1] at hl
      clear h1
      go_enter Tryz.func183, Tryz.ntmps183
      go_wp2
      go_ret
      exact ⟨rfl, rfl⟩
/-- At most 40, of 600 bytes each. -/
def efew (l : List Ent) : Bool := l.all (fun e => decide (e.1.length + e.2.length ≤ 600)) && decide (l.length ≤ 40)
/-- Texts that a machine can hold. -/
def ESz (l : List Ent) : Prop := ∀ e ∈ l, e.1.length ≤ 140737488351232 ∧ e.2.length ≤ 140737488351232
/-- A slice of entries. -/
def SlE (w : World) (v : Value) (l : List Ent) : Prop := ∃ A c, v = .slice A l.length c ∧ Rd w A (ents l) ∧ l.length ≤ c
/-- Where the loop of To stands. -/
def ToAt (T : TypeId) (w : World) (l : List Ent) (out : Value) (wr : World) : Prop := wr.ownsRow w.heap.size T 2 out l.length (ents l) ∧ Below w.heap.size w wr
theorem info_ent : (Tryz.prog.info? 132).map (fun i => (i.zero, i.size, i.bytes)) = some (some zent, 2, 32) := by kernel_rfl
end Go.Proofs.YtgidfnhfgiehjaaGreatDoor
end

section
namespace Go.Proofs.YtgidfnhfgiehjaaGreatDoor
open Go.RowKit Go.PM
set_option maxRecDepth 100000
set_option maxHeartbeats 1000000
end Go.Proofs.YtgidfnhfgiehjaaGreatDoor
end

section
namespace Go.Proofs.YtgidfnhfgiehjaaGreatDoor
open Go.RowKit Go.PM
set_option maxRecDepth 100000
set_option maxHeartbeats 1000000
attribute [local go_sem ↓] Go.wp_at_zero Go.wp_at_succ
theorem txt_inj {a b : List UInt8} : txt a = txt b ↔ a = b := ⟨fun h => by have := congrArg (fun s : ByteArray => s.data.toList) h; exact this, fun h => by rw [h]⟩
/-- The value of the first entry of a key. -/
def dget (key : List UInt8) : List Ent → List UInt8 × Bool
  | [] => ([], false)
  | e :: r => if e.1 = key then (e.2, true) else dget key r
end Go.Proofs.YtgidfnhfgiehjaaGreatDoor
end

section
namespace Go.Proofs.YtgidfnhfgiehjaaGreatDoor
open Go.RowKit Go.PM
set_option maxRecDepth 100000
set_option maxHeartbeats 1000000
/-- Whether an entry may be: the code. -/
def echk (k v : List UInt8) : Int := if uchk k 1 64 ≠ 0 then uchk k 1 64 else uchk v 0 256
theorem echeck_any (k v : ByteArray) (w : World) (hk : k.size ≤ 9223372036854775807) (hv : v.size ≤ 9223372036854775807) (hT : Tabs w) :
    Calls Tryz.prog 182 #[.agg #[.string k, .string v]] w fun e w' => e = .returned (.int .i64 (echk k.data.toList v.data.toList)) ∧ Below w.heap.size w w' := by
  have hx := BlkAt.made w 132 #[.string k, .string v]
  have HX := Lib.hid hx
  have hb0 := ba (a := w) b0 (.cells #[.string k, .string v] 132)
  have HB := Lib.hid hb0
  have H1 := Lib.hid (ucheck_any k 1 64 (w.alloc (.cells #[.string k, .string v] 132)) hk (hT.below hb0))
  have H2 : Hid (∀ x : World, Below w.heap.size w x → Calls Tryz.prog 141 #[.string v, .int .i64 0, .int .i64 256] x fun e w' => e = .returned (.int .i64 (uchk v.data.toList 0 256)) ∧ Below x.heap.size x w') := fun x hx => ucheck_any v 0 256 x hv (hT.below hx)
  unfold echk
  clear hx hb0 hT
  generalize uchk k.data.toList 1 64 = a at *
  generalize uchk v.data.toList 0 256 = b at *
  by_cases ha : a = 0
  · subst ha
    rw [if_neg (by simp)]
    go_enter Tryz.func182, Tryz.ntmps182
    go_wp2_with fail
    refine H1.out.mono ?_
    rintro e w1 ⟨rfl, hb1⟩
    have hx1 := HX.out.below hb1 HX.out.lt
    have c1 := hx1.cell 1
    simp at c1
    have HB1 := Lib.hid (bb HB.out hb1)
    clear hb1 hx1
    go_wp2_with fail
    refine (H2.out _ HB1.out).mono ?_
    rintro e w2 ⟨rfl, hb2⟩
    have HB2 := Lib.hid (bb HB1.out hb2)
    clear hb2
    go_wp2
    go_ret
    exact ⟨rfl, HB2.out⟩
  · rw [if_pos ha]
    have hai : (a != 0) = true := by rw [bne_iff_ne]; exact ha
    clear ha
    go_enter Tryz.func182, Tryz.ntmps182
    go_wp2_with fail
    refine H1.out.mono ?_
    rintro e w1 ⟨rfl, hb1⟩
    have HB1 := Lib.hid (bb HB.out hb1)
    clear hb1
    go_wp2
    go_ret
    exact ⟨rfl, HB1.out⟩
theorem ecmp_any (ak av bk bv : ByteArray) (w : World) :
    Calls Tryz.prog 289 #[.agg #[.string ak, .string av], .agg #[.string bk, .string bv]] w fun e w' => e = .returned (.int .i64 (ecmp ak.data.toList av.data.toList bk.data.toList bv.data.toList)) ∧ w' = (w.alloc (.cells #[.string ak, .string av] 132)).alloc (.cells #[.string bk, .string bv] 132) := by
  have H1 : Hid (∀ x : World, Calls Tryz.prog 250 #[.string ak, .string bk] x fun e w' => e = .returned (.int .i64 (Lib.compareBytes ak.data.toList bk.data.toList)) ∧ w' = x) := fun x => Tryz.strings_Compare ak bk x
  have H2 : Hid (∀ x : World, Calls Tryz.prog 250 #[.string av, .string bv] x fun e w' => e = .returned (.int .i64 (Lib.compareBytes av.data.toList bv.data.toList)) ∧ w' = x) := fun x => Tryz.strings_Compare av bv x
  unfold ecmp
  generalize Lib.compareBytes ak.data.toList bk.data.toList = a at *
  generalize Lib.compareBytes av.data.toList bv.data.toList = b at *
  by_cases ha : a = 0
  · subst ha
    rw [if_neg (by simp)]
    go_enter Tryz.func289, Tryz.ntmps289
    go_wp2_with fail
    refine (H1.out _).mono ?_
    rintro e w1 ⟨rfl, rfl⟩
    go_wp2_with fail
    refine (H2.out _).mono ?_
    rintro e w2 ⟨rfl, rfl⟩
    go_wp2
    go_ret
    exact ⟨rfl, rfl⟩
  · rw [if_pos ha]
    have hai : (a != 0) = true := by rw [bne_iff_ne]; exact ha
    clear ha
    go_enter Tryz.func289, Tryz.ntmps289
    go_wp2_with fail
    refine (H1.out _).mono ?_
    rintro e w1 ⟨rfl, rfl⟩
    go_wp2
    go_ret
    exact ⟨rfl, rfl⟩
/-- The end of reading a text with its length ahead. -/
def ETextEnd (w : World) (b : Nat) (s : ByteArray) (k : Nat) (e : Ending) (w' : World) : Prop :=
  ∃ k' : Nat, e = .returned (.tuple #[.string (txt (etx (s.data.toList.drop k)).1), .int .i64 ((etx (s.data.toList.drop k)).2.2 : Int)]) ∧ Cur w' b s k' ∧ ((etx (s.data.toList.drop k)).2.2 = 0 → k' = k + (etx (s.data.toList.drop k)).2.1) ∧ w.grownBy w' (some b)
theorem etext_any (b : Nat) (s : ByteArray) (k : Nat) (w : World) (h : Cur w b s k) :
    Calls Tryz.prog 233 #[.pointer (some ⟨b, 0, none⟩)] w (ETextEnd w b s k) := by
  have HN := Lib.hid (next_any b s k w h)
  have hks := h.2.1
  have hss := h.2.2
  clear h
  have hl : (s.data.toList.drop k).length = s.size - k := by rw [List.length_drop, len_list]
  unfold ETextEnd etx
  rw [hl]
  by_cases hv : (vget (s.data.toList.drop k)).2.2 = 0
  · obtain ⟨v1, v2, v3, v4, v5⟩ := vget_ok hv
    rw [hl] at v2
    rw [if_neg (by rw [hv]; simp)]
    have HN2 : Hid (Calls Tryz.prog 174 #[.pointer (some ⟨b, 0, none⟩)] w fun e w' => e = .returned (.tuple #[.int .u64 ((vget (s.data.toList.drop k)).1 : Int), .int .i64 0]) ∧ Cur w' b s (k + (vget (s.data.toList.drop k)).2.1) ∧ w.grownBy w' (some b)) := by
      have := HN.out
      rw [hv] at this
      exact this
    clear HN hv v5
    have hdd : ∀ m : Nat, ((s.data.toList.drop k).drop m) = s.data.toList.drop (k + m) := fun m => by rw [List.drop_drop]
    rw [hdd]
    generalize (vget (s.data.toList.drop k)).1 = n at *
    generalize (vget (s.data.toList.drop k)).2.1 = m at *
    clear hl hdd
    have hkm : k + m ≤ s.size := by omega
    by_cases hn : s.size - k - m < n
    · rw [if_pos hn]
      go_enter Tryz.func233, Tryz.ntmps233
      go_wp2_with fail
      refine HN2.out.mono ?_
      rintro e w1 ⟨rfl, hc1, hg1⟩
      have HC1 := Lib.hid hc1
      have HG1 := Lib.hid hg1
      clear hc1 hg1
      go_wp2_with fail
      refine (cur_take_no b s (k + m) (n : Int) w1 HC1.out (by omega) (by omega)).mono ?_
      rintro e w2 ⟨rfl, hb2⟩
      have HC2 : Hid (Cur w2 b s (k + m)) := ⟨HC1.out.1.below hb2 HC1.out.1.lt, HC1.out.2⟩
      have HG2 := Lib.hid (grown_trans HG1.out (grown_of_below hb2 (some b)) fun x e _ => e)
      clear hb2
      go_wp2_with fail
      go_ret2
      exact ⟨k + m, rfl, HC2.out, fun h => by simp at h, HG2.out⟩
    · rw [if_neg hn]
      have hex : s.extract (k + m) (k + m + (n : Int).toNat) = txt ((s.data.toList.drop (k + m)).take n) := by
        refine txt_eq ?_
        rw [ext_list]
        congr 1
        omega
      have HEX := Lib.hid hex
      clear hex
      go_enter Tryz.func233, Tryz.ntmps233
      go_wp2_with fail
      refine HN2.out.mono ?_
      rintro e w1 ⟨rfl, hc1, hg1⟩
      have HC1 := Lib.hid hc1
      have HG1 := Lib.hid hg1
      clear hc1 hg1
      go_wp2_with fail
      refine (cur_take_yes b s (k + m) (n : Int) w1 HC1.out (by omega) (by omega)).mono ?_
      rintro e w2 ⟨rfl, hc2, hg2⟩
      rw [HEX.out, Int.toNat_natCast] at *
      have HC2 := Lib.hid hc2
      have HG2 := Lib.hid (grown_trans HG1.out hg2 fun x e _ => e)
      clear hc2 hg2 HEX
      go_wp2_with fail
      go_ret2
      exact ⟨k + m + n, rfl, HC2.out, fun _ => by omega, HG2.out⟩
  · have hve := vget_err hv
    rw [if_pos hv]
    have hvi : (((vget (s.data.toList.drop k)).2.2 : Int) != 0) = true := by rw [bne_iff_ne]; omega
    generalize (vget (s.data.toList.drop k)).2.2 = g at *
    clear hl hve
    go_enter Tryz.func233, Tryz.ntmps233
    go_wp2_with fail
    refine HN.out.mono ?_
    rintro e w1 ⟨rfl, hc1, hg1⟩
    have HC1 := Lib.hid hc1
    have HG1 := Lib.hid hg1
    clear hc1 hg1
    go_wp2_with fail
    go_ret2
    exact ⟨_, rfl, HC1.out, fun h => absurd h hv, HG1.out⟩
theorem etx_size (s : ByteArray) (k : Nat) : (etx (s.data.toList.drop k)).1.length ≤ s.size := by
  unfold etx
  split
  · simp
  · split
    · simp
    · rw [List.length_take, List.length_drop, List.length_drop, len_list]; omega
/-- The end of reading an entry. -/
def ENextEnd (w : World) (b : Nat) (s : ByteArray) (k : Nat) (e : Ending) (w' : World) : Prop :=
  ∃ k' : Nat, e = .returned (.tuple #[.agg #[.string (txt (enx echk (s.data.toList.drop k)).1.1), .string (txt (enx echk (s.data.toList.drop k)).1.2)], .int .i64 (enx echk (s.data.toList.drop k)).2.2]) ∧ Cur w' b s k' ∧ ((enx echk (s.data.toList.drop k)).2.2 = 0 → k' = k + (enx echk (s.data.toList.drop k)).2.1) ∧ w.grownBy w' (some b)
theorem res_two (w : World) (r : Nat) (v0 v1 : Value) : Tch (fun j => j = r) w ((w.setCell ⟨r, 0, none⟩ v0).setCell ⟨r, 1, none⟩ v1) :=
  ((Tch.refl (fun j => j = r) w).put (p := ⟨r, 0, none⟩) (fun _ => rfl) v0).put (p := ⟨r, 1, none⟩) (fun _ => rfl) v1
theorem tch_grown {w w1 w2 : World} {b r : Nat} (hg : w.grownBy w1 (some b)) (hr : w.heap.size ≤ r) (ht : Tch (fun j => j = r) w1 w2) : w.grownBy w2 (some b) :=
  ⟨ht.os.trans hg.os, ht.tape.trans hg.tape, ht.output.trans hg.output, Nat.le_trans hg.size ht.size, fun k hk hne => (ht.block k (Nat.lt_of_lt_of_le hk hg.size) (by omega)).trans (hg.block k hk hne)⟩
theorem enext_any (W0 : World) (hT : Tabs W0) (b : Nat) (s : ByteArray) (k : Nat) (w : World) (h0 : Below W0.heap.size W0 w) (hWb : W0.heap.size ≤ b) (h : Cur w b s k) :
    Calls Tryz.prog 217 #[.pointer (some ⟨b, 0, none⟩)] w (ENextEnd w b s k) := by
  have hbl := h.1.lt
  have hss := h.2.2
  have hx := BlkAt.made w 132 #[.string ⟨#[]⟩, .string ⟨#[]⟩]
  have HX := Lib.hid hx
  have hg0 := grown_of_below (ba (a := w) b0 (.cells #[.string ⟨#[]⟩, .string ⟨#[]⟩] 132)) (some b)
  have HG0 := Lib.hid hg0
  have HT1 := Lib.hid (etext_any b s k (w.alloc (.cells #[.string ⟨#[]⟩, .string ⟨#[]⟩] 132)) ⟨h.1.more _, h.2⟩)
  have H0 := Lib.hid h0
  have HT := Lib.hid hT
  have hsz1 := etx_size s k
  clear hx hg0 h h0 hT
  generalize hX : enx echk (s.data.toList.drop k) = X
  have HXX := Lib.hid hX
  have HEND : Hid (∀ (e : Ending) (k' : Nat) (w1 w' : World), e = .returned (.tuple #[.agg #[.string (txt X.1.1), .string (txt X.1.2)], .int .i64 X.2.2]) → Cur w1 b s k' → (X.2.2 = 0 → k' = k + X.2.1) → w.grownBy w1 (some b) → Tch (fun j => j = w.heap.size) w1 w' → ENextEnd w b s k e w') := fun e k' w1 w' he hc hk hg ht => by
    unfold ENextEnd
    rw [hX]
    exact ⟨k', he, ⟨hc.1.tch ht (by omega), hc.2⟩, hk, tch_grown hg (Nat.le_refl _) ht⟩
  unfold enx at hX
  clear hX
  have hX := HXX.out
  unfold enx at hX
  clear HXX
  go_enter Tryz.func217, Tryz.ntmps217
  go_wp2_with fail
  refine HT1.out.mono ?_
  rintro e w1 ⟨k1, rfl, hc1, hk1, hg1⟩
  have HC1 := Lib.hid hc1
  have hgw1 := grown_trans HG0.out hg1 fun x e _ => e
  have HG1 := Lib.hid hgw1
  have hx1 := HX.out.step hg1 (by intro e; injection e with e; omega)
  have HX1 := Lib.hid hx1
  have c0 := hx1.cell 0
  have c1 := hx1.cell 1
  have f0 := hx1.free 0
  have f1 := hx1.free 1
  simp at c0 c1
  have hlw := hx1.lt
  clear hc1 hg1 hgw1 hx1 HT1
  by_cases he1 : (etx (s.data.toList.drop k)).2.2 = 0
  · rw [if_neg (by rw [he1]; simp)] at hX
    obtain rfl := hk1 he1
    have hdd : (s.data.toList.drop k).drop (etx (s.data.toList.drop k)).2.1 = s.data.toList.drop (k + (etx (s.data.toList.drop k)).2.1) := by rw [List.drop_drop]
    rw [hdd] at hX
    have HT2 := Lib.hid (etext_any b s (k + (etx (s.data.toList.drop k)).2.1) w1 HC1.out)
    have hsz2 := etx_size s (k + (etx (s.data.toList.drop k)).2.1)
    rw [he1]
    clear hk1 hdd he1
    unfold ETextEnd at HT2
    generalize (etx (s.data.toList.drop k)).1 = K at *
    generalize hk1e : k + (etx (s.data.toList.drop k)).2.1 = k1 at *
    have HK1E := Lib.hid hk1e
    clear hk1e
    generalize etx (s.data.toList.drop k1) = Y at *
    clear c0 c1 f0 f1 hlw
    go_wp2_with fail
    refine HT2.out.mono ?_
    rintro e w2 ⟨k2, rfl, hc2, hk2, hg2⟩
    have HC2 := Lib.hid hc2
    have HG2 := Lib.hid (grown_trans HG1.out hg2 fun x e _ => e)
    have hx2 := HX1.out.step hg2 (by intro e; injection e with e; omega)
    have HX2 := Lib.hid hx2
    have c0 := hx2.cell 0
    have c1 := hx2.cell 1
    have f0 := hx2.free 0
    have f1 := hx2.free 1
    simp at c0 c1
    have hlw := hx2.lt
    clear hc2 hg2 hx2 HT2 HX1
    by_cases he2 : Y.2.2 = 0
    · rw [if_neg (by rw [he2]; simp)] at hX
      obtain rfl := hk2 he2
      rw [he2]
      have hbe := BlkAt.made w2 132 #[.string (txt K), .string (txt Y.1)]
      have HBE := Lib.hid hbe
      have HCK := Lib.hid (echeck_any (txt K) (txt Y.1) (w2.alloc (.cells #[.string (txt K), .string (txt Y.1)] 132)) (by rw [txt_size]; omega) (by rw [txt_size]; omega) (HT.out.below (ba (bg H0.out HG2.out hWb) _)))
      rw [txt_list, txt_list] at HCK
      have HXB := Lib.hid (HX2.out.more (.cells #[.string (txt K), .string (txt Y.1)] 132))
      clear c0 c1 f0 f1 hlw hbe HX2 hk2 he2
      by_cases hce : echk K Y.1 = 0
      · rw [if_neg (by simpa using hce)] at hX
        subst hX
        have HE : Hid (∀ (w3 w' : World), Below (w2.alloc (.cells #[.string (txt K), .string (txt Y.1)] 132)).heap.size (w2.alloc (.cells #[.string (txt K), .string (txt Y.1)] 132)) w3 → Tch (fun j => j = w.heap.size) w3 w' → ENextEnd w b s k (.returned (.tuple #[.agg #[.string (txt K), .string (txt Y.1)], .int .i64 0])) w') := fun w3 w' hb3 ht => by
          have hb := bb (ba (a := w2) b0 (.cells #[.string (txt K), .string (txt Y.1)] 132)) hb3
          exact HEND.out _ (k1 + Y.2.1) w3 w' rfl ⟨HC2.out.1.below hb HC2.out.1.lt, HC2.out.2⟩ (fun _ => by have := HK1E.out; simp only; omega) (grown_trans HG2.out (grown_of_below hb (some b)) fun x e _ => e) ht
        rw [hce] at HCK
        clear hce HEND
        go_wp2_with fail
        refine HCK.out.mono ?_
        rintro e w3 ⟨rfl, hb3⟩
        have HE3 : Hid (∀ w', Tch (fun j => j = w.heap.size) w3 w' → ENextEnd w b s k (.returned (.tuple #[.agg #[.string (txt K), .string (txt Y.1)], .int .i64 0])) w') := fun w' ht => HE.out w3 w' hb3 ht
        have hx3 := HXB.out.below hb3 HXB.out.lt
        have hy3 := HBE.out.below hb3 HBE.out.lt
        have e0 := hy3.cell 0
        have e1 := hy3.cell 1
        simp at e0 e1
        have c0 := hx3.cell 0
        have c1 := hx3.cell 1
        have f0 := hx3.free 0
        have f1 := hx3.free 1
        simp at c0 c1
        have hlw := hx3.lt
        clear hx3 hy3 hb3 HE
        go_wp2_with fail
        refine bodyPost_ret (v := .tuple #[.agg #[.string (txt K), .string (txt Y.1)], .int .i64 0]) (by simp [results, Tryz.results217, go_sem, c0, c1]; try rfl) rfl (HE3.out _ (res_two _ _ _ _))
      · rw [if_pos (by simpa using hce)] at hX
        subst hX
        have HE : Hid (∀ (w3 w' : World), Below (w2.alloc (.cells #[.string (txt K), .string (txt Y.1)] 132)).heap.size (w2.alloc (.cells #[.string (txt K), .string (txt Y.1)] 132)) w3 → Tch (fun j => j = w.heap.size) w3 w' → ENextEnd w b s k (.returned (.tuple #[.agg #[.string ByteArray.empty, .string ByteArray.empty], .int .i64 (echk K Y.1)])) w') := fun w3 w' hb3 ht => by
          have hb := bb (ba (a := w2) b0 (.cells #[.string (txt K), .string (txt Y.1)] 132)) hb3
          exact HEND.out _ (k1 + Y.2.1) w3 w' rfl ⟨HC2.out.1.below hb HC2.out.1.lt, HC2.out.2⟩ (fun h => absurd h hce) (grown_trans HG2.out (grown_of_below hb (some b)) fun x e _ => e) ht
        have hcei : (echk K Y.1 != 0) = true := by rw [bne_iff_ne]; exact hce
        generalize echk K Y.1 = C at *
        clear hce HEND
        go_wp2_with fail
        refine HCK.out.mono ?_
        rintro e w3 ⟨rfl, hb3⟩
        have HE3 : Hid (∀ w', Tch (fun j => j = w.heap.size) w3 w' → ENextEnd w b s k (.returned (.tuple #[.agg #[.string ByteArray.empty, .string ByteArray.empty], .int .i64 C])) w') := fun w' ht => HE.out w3 w' hb3 ht
        have hx3 := HXB.out.below hb3 HXB.out.lt
        have c0 := hx3.cell 0
        have c1 := hx3.cell 1
        have f0 := hx3.free 0
        have f1 := hx3.free 1
        simp at c0 c1
        have hlw := hx3.lt
        clear hx3 hb3 HE
        go_wp2_with fail
        refine bodyPost_ret (v := .tuple #[.agg #[.string ByteArray.empty, .string ByteArray.empty], .int .i64 C]) (by simp [results, Tryz.results217, go_sem, c0, c1]; try rfl) rfl (HE3.out _ (res_two _ _ _ _))
    · rw [if_pos he2] at hX
      subst hX
      have HE : Hid (∀ w', Tch (fun j => j = w.heap.size) w2 w' → ENextEnd w b s k (.returned (.tuple #[.agg #[.string ByteArray.empty, .string ByteArray.empty], .int .i64 (Y.2.2 : Int)])) w') := fun w' ht => HEND.out _ k2 w2 w' rfl HC2.out (fun h => by simp at h; exact absurd h he2) HG2.out ht
      have hte : ((Y.2.2 : Int) != 0) = true := by rw [bne_iff_ne]; omega
      generalize Y.2.2 = G at *
      clear he2 hk2 HEND
      go_wp2_with fail
      refine bodyPost_ret (v := .tuple #[.agg #[.string ByteArray.empty, .string ByteArray.empty], .int .i64 (G : Int)]) (by simp [results, Tryz.results217, go_sem, c0, c1]; try rfl) rfl (HE.out _ (res_two _ _ _ _))
  · rw [if_pos he1] at hX
    subst hX
    have HE : Hid (∀ w', Tch (fun j => j = w.heap.size) w1 w' → ENextEnd w b s k (.returned (.tuple #[.agg #[.string ByteArray.empty, .string ByteArray.empty], .int .i64 ((etx (s.data.toList.drop k)).2.2 : Int)])) w') := fun w' ht => HEND.out _ k1 w1 w' rfl HC1.out (fun h => by simp at h; exact absurd h he1) HG1.out ht
    have hte : ((((etx (s.data.toList.drop k)).2.2 : Nat) : Int) != 0) = true := by rw [bne_iff_ne]; omega
    generalize (etx (s.data.toList.drop k)).2.2 = G at *
    clear he1 hk1 HEND
    go_wp2_with fail
    refine bodyPost_ret (v := .tuple #[.agg #[.string ByteArray.empty, .string ByteArray.empty], .int .i64 (G : Int)]) (by simp [results, Tryz.results217, go_sem, c0, c1]; try rfl) rfl (HE.out _ (res_two _ _ _ _))
end Go.Proofs.YtgidfnhfgiehjaaGreatDoor
end
