/-
  Texts of the proof, joined: FTurn FldLaw4 FldLaw5. Conditions: as each names.
-/
import Derived.Test.YtmlijflappjfoaaDoorBal

section
/-
  The statement FieldClones' 'turn': all tags are others. Plain part and walk.
-/
namespace Go.PM
open Go.RowKit
/-- Worlds of which some numbers have turned, in some blocks. -/
structure TW (S : Nat → Prop) (w w' : World) : Prop where
  tch : Tch S w w'
  cell : ∀ p, w'.cell? p = w.cell? p ∨ ∃ n n' : Nat, w.cell? p = some (.int .u64 (n : Int)) ∧ w'.cell? p = some (.int .u64 (n' : Int)) ∧ In64 n'
  size : w'.heap.size = w.heap.size
  fb : ∀ T k, FB w T k → FB w' T k
section
variable {S S' : Nat → Prop} {w a w' : World}
theorem TW.refl (S : Nat → Prop) (w : World) : TW S w w := ⟨Tch.refl S w, fun _ => .inl rfl, rfl, fun _ _ h => h⟩
theorem TW.trans (h : TW S a w) (k : TW S w w') : TW S a w' := by
  refine ⟨h.tch.trans k.tch fun _ _ h => h, fun p => ?_, k.size.trans h.size, fun T j hj => k.fb T j (h.fb T j hj)⟩
  rcases h.cell p with e | ⟨n, n', e1, e2, e3⟩
  · rcases k.cell p with f | ⟨m, m', f1, f2, f3⟩
    · exact .inl (f.trans e)
    · exact .inr ⟨m, m', e ▸ f1, f2, f3⟩
  · rcases k.cell p with f | ⟨m, m', f1, f2, f3⟩
    · exact .inr ⟨n, n', e1, f.trans e2, e3⟩
    · exact .inr ⟨n, m', e1, f2, f3⟩
theorem TW.imp (h : TW S a w) (hS : ∀ k, S k → S' k) : TW S' a w := ⟨h.tch.imp fun g _ hg => hS g hg, h.cell, h.size, h.fb⟩
theorem TW.put {b i n n' : Nat} (hc : w.cell? ⟨b, i, none⟩ = some (.int .u64 (n : Int))) (hn : In64 n') (hS : S b) : TW S w (w.setCell ⟨b, i, none⟩ (.int .u64 (n' : Int))) := by
  refine ⟨(Tch.refl S w).put (p := ⟨b, i, none⟩) (fun _ => hS) _, fun p => ?_, by simp [World.setCell], fun T k hk => hk.put _⟩
  by_cases e : (⟨b, i, none⟩ : Addr) = p
  · subst e
    exact .inr ⟨n, n', hc, World.cell?_setCell_same _ _ _ hc, hn⟩
  · exact .inl (World.cell?_setCell_other _ _ _ _ e)
/-- Tag and number within their kind. -/
def FKd' (t : Nat) (_ : Int) (n : Nat) (_ : ByteArray) : Prop := In64 t ∧ In64 n
/-- What was fields is fields, of other tags and numbers. -/
def like : Fs → Fs → Prop
  | .nil, .nil => True
  | .cons _ y _ s i r, .cons _ y' _ s' i' r' => y = y' ∧ s = s' ∧ like i i' ∧ like r r'
  | _, _ => False
theorem like.len : ∀ {f g : Fs}, like f g → f.len = g.len
  | .nil, .nil, _ => rfl
  | .cons .., .cons .., h => by rw [Fs.len, Fs.len, like.len h.2.2.2]
  | .nil, .cons .., h => h.elim
  | .cons .., .nil, h => h.elim
theorem like.count : ∀ {f g : Fs}, like f g → f.count = g.count
  | .nil, .nil, _ => rfl
  | .cons .., .cons .., h => by rw [Fs.count, Fs.count, like.count h.2.2.1, like.count h.2.2.2]
  | .nil, .cons .., h => h.elim
  | .cons .., .nil, h => h.elim
theorem FsAt.and {I J : Nat → Prop} : ∀ {f : Fs} {b o : Nat}, FsAt w I f b o → FsAt w J f b o → FsAt w (fun k => I k ∧ J k) f b o
  | .nil, _, _, _, _ => trivial
  | .cons t y n s i r, b, o, h, k => by
    obtain ⟨h1, h2, h3, h4, ⟨A, c, h5, hc, h6⟩, h7⟩ := h
    obtain ⟨_, _, _, _, ⟨A', c', k5, _, k6⟩, k7⟩ := k
    refine ⟨h1, h2, h3, h4, ⟨A, c, h5, hc, ?_⟩, FsAt.and h7 k7⟩
    rcases h6 with h6 | ⟨b', o', hA, hI, hb, h8⟩
    · exact .inl h6
    · rcases k6 with k6 | ⟨b2, o2, hA2, hJ, _, k8⟩
      · exact .inl k6
      · rw [h5] at k5
        injection k5 with k5
        injection k5 with e1 _ _
        rw [← e1, hA] at hA2
        injection hA2 with hA2
        injection hA2 with e2 e3
        subst e2 e3
        exact .inr ⟨b', o', hA, ⟨hI, hJ⟩, hb, FsAt.and h8 k8⟩
theorem FsAt.turn {I : Nat → Prop} (h : TW S w w') : ∀ {f : Fs} {b o : Nat}, f.All FKd' → FsAt w I f b o → ∃ f', like f f' ∧ f'.All FKd' ∧ FsAt w' I f' b o
  | .nil, _, _, _, _ => ⟨.nil, trivial, trivial, trivial⟩
  | .cons t y n s i r, b, o, hk, hf => by
    obtain ⟨h1, h2, h3, h4, ⟨A, c, h5, hc, h6⟩, h7⟩ := hf
    obtain ⟨r', hr1, hr2, hr3⟩ := FsAt.turn h hk.2.2 h7
    have keep : ∀ {p v}, w.cell? p = some v → (∀ n : Nat, v ≠ .int .u64 (n : Int)) → w'.cell? p = some v := fun {p v} hp hv => by
      rcases h.cell p with e | ⟨m, m', e1, _⟩
      · exact e.trans hp
      · rw [hp] at e1; injection e1 with e1; exact absurd e1 (hv m)
    have num : ∀ {p} {m : Nat}, w.cell? p = some (.int .u64 (m : Int)) → In64 m → ∃ m' : Nat, w'.cell? p = some (.int .u64 (m' : Int)) ∧ In64 m' := fun {p m} hp hm => by
      rcases h.cell p with e | ⟨_, m', _, e2, e3⟩
      · exact ⟨m, e.trans hp, hm⟩
      · exact ⟨m', e2, e3⟩
    obtain ⟨t', ht1, ht2⟩ := num h1 hk.1.1
    obtain ⟨n', hn1, hn2⟩ := num h3 hk.1.2
    have hi : ∃ i', like i i' ∧ i'.All FKd' ∧ (i.len = 0 ∨ ∃ b' o', A = some ⟨b', o', none⟩ ∧ I b' ∧ b' < w'.heap.size ∧ FsAt w' I i' b' o') := by
      rcases h6 with h6 | ⟨b', o', hA, hI, hb, h8⟩
      · have : i = .nil := Fs.len_zero h6
        subst this
        exact ⟨.nil, trivial, trivial, .inl rfl⟩
      · obtain ⟨i', e1, e2, e3⟩ := FsAt.turn h hk.2.1 h8
        exact ⟨i', e1, e2, .inr ⟨b', o', hA, hI, by rw [h.size]; exact hb, e3⟩⟩
    obtain ⟨i', hi1, hi2, hi3⟩ := hi
    have hl := hi1.len
    refine ⟨.cons t' y n' s i' r', ⟨rfl, rfl, hi1, hr1⟩, ⟨⟨ht2, hn2⟩, hi2, hr2⟩, ht1, keep h2 (by simp), hn1, keep h4 (by simp), ⟨A, c, by rw [← hl]; exact keep h5 (by simp), by omega, ?_⟩, hr3⟩
    rcases hi3 with hi3 | hi3
    · left; omega
    · exact .inr hi3
end
end Go.PM

namespace Go.Proofs.YtmlijflappjfoaaDoor
open Go.RowKit Go.PM
set_option maxRecDepth 100000
set_option maxHeartbeats 4000000
attribute [local go_sem ↓] Go.wp_at_zero Go.wp_at_succ

/-- What 'turn' leaves: tags have turned in the list's own blocks; the first one is the next number, where no list within lies in its block. -/
def TurnEnd (I : Nat → Prop) (A : Option Addr) (f : Fs) (w : World) (e : Ending) (w' : World) : Prop :=
  e = .returned (.tuple #[]) ∧ TW I w w' ∧ ∀ b o t y n s i r, A = some ⟨b, o, none⟩ → f = .cons t y n s i r → FsAt w (fun k => k ≠ b) f b o → w'.cell? ⟨b, o, none⟩ = some (.int .u64 (((t + 1) % 18446744073709551616 : Nat) : Int))
/-- Where its loop stands. -/
def TurnAt (I : Nat → Prop) (A : Option Addr) (f : Fs) (w : World) (k : Nat) (w' : World) : Prop :=
  TW I w w' ∧ (k = 0 → w' = w) ∧ (0 < k → ∀ b o t y n s i r, A = some ⟨b, o, none⟩ → f = .cons t y n s i r → FsAt w (fun k => k ≠ b) f b o → w'.cell? ⟨b, o, none⟩ = some (.int .u64 (((t + 1) % 18446744073709551616 : Nat) : Int)))
theorem turn_any (N : Nat) : ∀ (A : Option Addr) (c : Nat) (f : Fs) (I : Nat → Prop) (w : World), f.count ≤ N → SlV w I (.slice A f.len c) f → f.All FKd' → (∀ k, I k → FB w 41 k) → f.count ≤ 1000000 →
    Calls Tryd.prog 29 #[.slice A f.len c] w (TurnEnd I A f w) := by
  induction N with
  | zero =>
    intro A c f I w hN hr hk hI h60
    have : f = .nil := Fs.len_zero (by have := f.len_count; omega)
    subst this
    have HE : Hid (TurnEnd I A .nil w (.returned (.tuple #[])) w) := ⟨rfl, TW.refl _ _, fun _ _ _ _ _ _ _ _ _ h => by cases h⟩
    go_enter Tryd.func29, Tryd.ntmps29
    go_wp2_with fail
    go_loopw [5] (fun kk wr => kk = .int .i64 0 ∧ wr = w) (fun _ _ => 0)
    case atStart => exact ⟨rfl, rfl⟩
    case round =>
      obtain ⟨rfl, rfl⟩ := hrel
      go_wp2_with fail
      go_end0
      exact HE.out
  | succ N ih =>
    intro A c f I w hN hr hk hI h60
    have IH := Lib.hid ih
    have HR := Lib.hid hr
    have HK := Lib.hid hk
    have HI := Lib.hid hI
    have H60 := Lib.hid h60
    have HN := Lib.hid hN
    have hfl := f.len_count
    clear ih hr hk hI
    go_enter Tryd.func29, Tryd.ntmps29
    go_wp2_with fail
    go_loopw [5] (fun kk wr => ∃ k : Nat, k ≤ f.len ∧ kk = .int .i64 (k : Int) ∧ Hid (TurnAt I A f w k wr)) (fun kk _ => f.len - (intOf kk).toNat)
    case atStart => exact ⟨0, by omega, rfl, TW.refl _ _, fun _ => rfl, fun h => by omega⟩
    case round =>
      obtain ⟨k, hk, rfl, hrel⟩ := hrel
      by_cases hlt : k < f.len
      · obtain ⟨A0, c0, hv, hc0, hor⟩ := HR.out
        injection hv with hv1 hv2 hv3
        subst hv1 hv3
        rcases hor with h0 | ⟨b, o, rfl, hIb, hbl, hat⟩
        · omega
        obtain ⟨f', hlk, hfk', hat'⟩ := hat.turn hrel.out.1 HK.out
        have hll := hlk.len
        have hlc := hlk.count
        obtain ⟨t, y, n, s, i, hdc, _⟩ := f'.drop_cons k (by omega)
        have hak := hat'.drop k
        have hkk := hfk'.drop k
        have hcc := f'.drop_count k
        rw [hdc] at hak hkk hcc
        simp only [Fs.count] at hcc
        obtain ⟨d0, d1, d2, d3, ⟨Ai, ci, d4, hci, hin⟩, _⟩ := hak
        have hF := hrel.out.1.fb _ b (HI.out b hIb)
        obtain ⟨cs, hcs⟩ := hF
        have hfr := hcs.free (o + k * 5)
        obtain ⟨T, hTT⟩ : ∃ T : Nat, T = (t + 1) % 18446744073709551616 := ⟨_, rfl⟩
        have hT64 : In64 T := by rw [hTT]; exact Nat.mod_lt _ (by decide)
        have hwr : IntKind.u64.wrap ((t : Int) + 1) = (T : Int) := by rw [hTT, IntKind.wrap_u64]; omega
        have htw : TW I wr (wr.setCell ⟨b, o + k * 5, none⟩ (.int .u64 (T : Int))) := TW.put d0 hT64 hIb
        have e4 : (wr.setCell ⟨b, o + k * 5, none⟩ (.int .u64 (T : Int))).cell? ⟨b, o + k * 5 + 4, none⟩ = some (.slice Ai i.len ci) := by
          rw [World.cell?_setCell_other _ _ _ _ (by intro e; injection e with _ e; omega)]
          exact d4
        have hsz2 : (wr.setCell ⟨b, o + k * 5, none⟩ (.int .u64 (T : Int))).heap.size = wr.heap.size := by simp [World.setCell]
        have hFI : ∀ q, I q → FB (wr.setCell ⟨b, o + k * 5, none⟩ (.int .u64 (T : Int))) 41 q := fun q hq => htw.fb _ _ (hrel.out.1.fb _ q (HI.out q hq))
        have HC : Hid (Calls Tryd.prog 29 #[.slice Ai i.len ci] (wr.setCell ⟨b, o + k * 5, none⟩ (.int .u64 (T : Int))) fun e w3 => e = .returned (.tuple #[]) ∧ TW I (wr.setCell ⟨b, o + k * 5, none⟩ (.int .u64 (T : Int))) w3 ∧ (FsAt w (fun k => k ≠ b) f b o → w3.cell? ⟨b, o, none⟩ = (wr.setCell ⟨b, o + k * 5, none⟩ (.int .u64 (T : Int))).cell? ⟨b, o, none⟩)) := by
          by_cases hD : FsAt w (fun k => k ≠ b) f b o
          · obtain ⟨g1, hg1, hg2, hg3⟩ := (hat.and hD).turn (hrel.out.1.trans htw) HK.out
            obtain ⟨t', y', n', s', i', hdc', _⟩ := g1.drop_cons k (by have := hg1.len; omega)
            have hgk := hg3.drop k
            have hgkk := hg2.drop k
            have hgcc := g1.drop_count k
            rw [hdc'] at hgk hgkk hgcc
            simp only [Fs.count] at hgcc
            obtain ⟨_, _, _, _, ⟨Aj, cj, g4, hcj, hgin⟩, _⟩ := hgk
            rw [e4] at g4
            simp only [Option.some.injEq, Value.slice.injEq] at g4
            obtain ⟨rfl, hlen, rfl⟩ := g4
            have hgc := hg1.count
            have h1 := IH.out Ai ci i' (fun q => I q ∧ q ≠ b) (wr.setCell ⟨b, o + k * 5, none⟩ (.int .u64 (T : Int))) (by have := HN.out; omega) ⟨Ai, ci, rfl, hcj, hgin⟩ hgkk.2.1 (fun q hq => hFI q hq.1) (by have := H60.out; omega)
            rw [← hlen] at h1
            refine h1.mono fun e w3 ⟨e1, e2, _⟩ => ⟨e1, e2.imp fun _ h => h.1, fun _ => ?_⟩
            exact World.cell?_of_block (a := ⟨b, o, none⟩) (e2.tch.block b (by rw [hsz2, hrel.out.1.size]; exact hbl) (fun h => h.2 rfl))
          · obtain ⟨g1, hg1, hg2, hg3⟩ := hat.turn (hrel.out.1.trans htw) HK.out
            obtain ⟨t', y', n', s', i', hdc', _⟩ := g1.drop_cons k (by have := hg1.len; omega)
            have hgk := hg3.drop k
            have hgkk := hg2.drop k
            have hgcc := g1.drop_count k
            rw [hdc'] at hgk hgkk hgcc
            simp only [Fs.count] at hgcc
            obtain ⟨_, _, _, _, ⟨Aj, cj, g4, hcj, hgin⟩, _⟩ := hgk
            rw [e4] at g4
            simp only [Option.some.injEq, Value.slice.injEq] at g4
            obtain ⟨rfl, hlen, rfl⟩ := g4
            have hgc := hg1.count
            have h1 := IH.out Ai ci i' I (wr.setCell ⟨b, o + k * 5, none⟩ (.int .u64 (T : Int))) (by have := HN.out; omega) ⟨Ai, ci, rfl, hcj, hgin⟩ hgkk.2.1 hFI (by have := H60.out; omega)
            rw [← hlen] at h1
            exact h1.mono fun e w3 ⟨e1, e2, _⟩ => ⟨e1, e2, fun h => absurd h hD⟩
        have hkf : (k : Int) < (f.len : Int) := by omega
        have hfl6 : f.len ≤ 1000000 := by have := H60.out; omega
        have HTW := Lib.hid htw
        have HD0 := Lib.hid d0
        have HTT := Lib.hid hTT
        have HAT := Lib.hid hat
        have HAK := Lib.hid hkk
        have hd0 := d0
        clear hTT hT64 htw hFI hkk hcc hat hat' hfk' hlk hll hlc hin hv2 hdc hcs hsz2 d1 d2 d3
        go_wp2_with (go_at_call 29; refine HC.out.mono ?_; rintro e' w3 ⟨rfl, htw3, hcell3⟩)
        go_roundw
        case rel =>
          refine ⟨k + 1, by omega, by go_num, (hrel.out.1.trans HTW.out).trans htw3, fun h => by omega, fun _ b2 o2 t2 y2 n2 s2 i2 r2 hA hf hD => ?_⟩
          injection hA with hA
          injection hA with hA1 hA2
          subst hA1 hA2
          rw [hcell3 hD]
          by_cases hk0 : k = 0
          · subst hk0
            have hw := hrel.out.2.1 rfl
            have h0 := HAT.out
            rw [hf] at h0
            have h1 := h0.1
            have h2 := HD0.out
            rw [hw, Nat.zero_mul, Nat.add_zero, h1] at h2
            simp only [Option.some.injEq, Value.int.injEq, true_and, Int.natCast_inj] at h2
            have h3 : wr.cell? ⟨b, o + 0 * 5, none⟩ = some (.int .u64 (t : Int)) := HD0.out
            rw [Nat.zero_mul, Nat.add_zero] at h3 ⊢
            rw [World.cell?_setCell_same _ _ _ h3, HTT.out, h2]
          · rw [World.cell?_setCell_other _ _ _ _ (by intro e; injection e with _ e; omega)]
            exact hrel.out.2.2 (by omega) b o t2 y2 n2 s2 i2 r2 rfl hf hD
        case measure => simp [intOf]; omega
      · obtain rfl : k = f.len := by omega
        have HE : Hid (TurnEnd I A f w (.returned (.tuple #[])) wr) := ⟨rfl, hrel.out.1, fun b o t y n s i r hA hf => hrel.out.2.2 (by rw [hf]; simp [Fs.len]) b o t y n s i r hA hf⟩
        clear hrel
        go_wp2_with fail
        go_end0
        exact HE.out
end Go.Proofs.YtmlijflappjfoaaDoor
end

section
/-
  The walk of the statement FieldClones. Conditions: numbers within their kinds; Go's tables of UTF-8 lie in memory.
-/
namespace Go.Proofs.YtmlijflappjfoaaDoor
open Go.RowKit Go.PM
set_option maxRecDepth 100000
set_option maxHeartbeats 4000000
attribute [local go_sem ↓] Go.wp_at_zero Go.wp_at_succ

/-- A field with a clone of some fields. -/
def OfListEnd (t : Nat) (w : World) (f : Fs) (e : Ending) (w' : World) : Prop :=
  ∃ (A : Option Addr) (c g0 : Nat) (xs : List Value), e = .returned (.agg #[.int .u64 (t : Int), .int .i64 2, .int .u64 0, .string ByteArray.empty, .slice A f.len c]) ∧ w'.ownsRow w.heap.size 41 5 (.slice A f.len c) f.len xs ∧ Cls w' (fun k => g0 < k ∧ FB w' 41 k) xs f ∧
    w.heap.size ≤ g0 ∧ Below w.heap.size w w'
theorem oflist_tch {w w1 w2 : World} {f : Fs} {A : Option Addr} {c g0 b : Nat} {xs : List Value} (hown : w1.ownsRow w.heap.size 41 5 (.slice A f.len c) f.len xs) (hcls : Cls w1 (fun k => g0 < k ∧ FB w1 41 k) xs f)
    (hb : Below w.heap.size w w1) (ht : Tch (fun k => k = b) w1 w2) (hbw : w.heap.size ≤ b) (hbg : b < g0) (hog : ∀ g, (Value.slice A f.len c).ownBlock = some g → g ≠ b) :
    w2.ownsRow w.heap.size 41 5 (.slice A f.len c) f.len xs ∧ Cls w2 (fun k => g0 < k ∧ FB w2 41 k) xs f ∧ Below w.heap.size w w2 := by
  refine ⟨own_tch hown ht hog, ?_, hb.trans (ht.toBelowB hb.size fun g hg e => by omega)⟩
  exact (hcls.tch ht fun k hk e => by omega).imp fun k hk => ⟨hk.1, hk.2.tch ht (by omega)⟩
theorem oflist_any (t : Nat) (v : Value) (f : Fs) (I : Nat → Prop) (w : World) (hr : SlV w I v f) (h60 : f.count ≤ 1000000) : Calls Tryd.prog 27 #[.int .u64 (t : Int), v] w (OfListEnd t w f) := by
  have HC : Hid (∀ x : World, Below w.heap.size w x → Calls Tryd.prog 26 #[v] x (FCloneEnd x f)) := fun x hx => clone_of v f I x (hr.below hx) h60
  clear hr
  go_enter Tryd.func27, Tryd.ntmps27
  go_wp2_with fail
  refine (HC.out _ (ba b0 _)).mono ?_
  rintro e w1 ⟨A, c, g0, xs, rfl, hc, hown, hcls, hg0, hog, hb⟩
  have hb' : Below w.heap.size w w1 := bb (ba b0 _) hb
  have hz := hb.size
  simp only [World.size_alloc] at hz
  have hbx := (BlkAt.made w 41 #[.int .u64 0, .int .i64 0, .int .u64 0, .string ByteArray.empty, .slice none 0 0]).below hb (by simp)
  have c0 := hbx.cell 0
  have c1 := hbx.cell 1
  have c2 := hbx.cell 2
  have c3 := hbx.cell 3
  have c4 := hbx.cell 4
  have f0 := hbx.free 0
  have f1 := hbx.free 1
  have f2 := hbx.free 2
  have f3 := hbx.free 3
  have f4 := hbx.free 4
  simp at c0 c1 c2 c3 c4
  have HOG : Hid (w.heap.size < g0 ∧ ∀ g, (Value.slice A f.len c).ownBlock = some g → g ≠ w.heap.size) := by
    rw [World.size_alloc] at hg0
    exact ⟨by omega, fun g hg => by have := (hog g hg).1; omega⟩
  have HB' := Lib.hid hb'
  have HOWN := Lib.hid hown
  have HCLS := Lib.hid hcls
  clear hown hcls hg0 hog hb hb' hbx
  go_wp2_with fail
  refine bodyPost_ret (v := .agg #[.int .u64 (t : Int), .int .i64 2, .int .u64 0, .string ByteArray.empty, .slice A f.len c]) (by simp [results, Tryd.results27, go_sem, c0, c1, c2, c3, c4]; try rfl) rfl ?_
  have hown : w1.ownsRow w.heap.size 41 5 (.slice A f.len c) f.len xs := by
    refine ⟨HOWN.out.1, HOWN.out.2.imp id ?_⟩
    rintro ⟨g, cap, cur, e1, e2, e3⟩
    rw [World.size_alloc] at e2
    exact ⟨g, cap, cur, e1, by omega, e3⟩
  obtain ⟨k1, k2, k3⟩ := oflist_tch hown HCLS.out HB'.out ((((((Tch.refl (fun k => k = w.heap.size) w1).put (p := ⟨w.heap.size, 0, none⟩) (fun _ => rfl) (.int .u64 (t : Int))).put (p := ⟨w.heap.size, 1, none⟩) (fun _ => rfl) (.int .i64 2)).put (p := ⟨w.heap.size, 2, none⟩) (fun _ => rfl) (.int .u64 0)).put (p := ⟨w.heap.size, 3, none⟩) (fun _ => rfl) (.string ⟨#[]⟩)).put (p := ⟨w.heap.size, 4, none⟩) (fun _ => rfl) (.slice A f.len c)) (Nat.le_refl _) HOG.out.1 HOG.out.2
  exact ⟨A, c, g0, xs, rfl, k1, k2, Nat.le_of_lt HOG.out.1, k3⟩
end Go.Proofs.YtmlijflappjfoaaDoor
end

section
/-
  The walk of the statement FieldClones. Conditions: numbers within their kinds; Go's tables of UTF-8 lie in memory.
-/
namespace Go.Proofs.YtmlijflappjfoaaDoor
open Go.RowKit Go.PM
set_option maxRecDepth 100000
set_option maxHeartbeats 8000000
attribute [local go_sem ↓] Go.wp_at_zero Go.wp_at_succ

theorem clone_parts {w w' : World} {f : Fs} {A : Option Addr} {c g0 : Nat} {xs : List Value} (hown : w'.ownsRow w.heap.size 41 5 (.slice A f.len c) f.len xs) (hcls : Cls w' (fun k => g0 < k ∧ FB w' 41 k) xs f)
    (hog : ∀ g, (Value.slice A f.len c).ownBlock = some g → g = g0 ∧ FB w' 41 g) : f.len ≤ c ∧ (f.len = 0 ∨ A = some ⟨g0, 0, none⟩ ∧ FB w' 41 g0 ∧ FsAt w' (fun k => g0 < k ∧ FB w' 41 k) f g0 0) := by
  rcases hown.2 with ⟨h1, h0⟩ | ⟨g, cap, cur, h1, hb, hg, hn, _⟩
  · exact ⟨by omega, .inl h0⟩
  · simp only [Value.slice.injEq] at h1
    obtain ⟨rfl, _, rfl⟩ := h1
    obtain ⟨rfl, hF⟩ := hog g rfl
    refine ⟨hn, .inr ⟨rfl, hF, hcls.at_ fun j u hj => ?_⟩⟩
    have := hown.cells (g := g) rfl j u hj
    rwa [add_at, ← Nat.zero_add j] at this
theorem fclones_walk (A : Option Addr) (cap : Nat) (l : List One) (n : Nat) (w : World) (hT : Tabs w) (hr : OnesRd w.heap.size w A l) (hok : ∀ x ∈ l, x.ok)
    (hl : l.length ≤ cap) (hc : cap ≤ 9223372036854775807) :
    Calls Tryd.prog 5 #[.slice A l.length cap, .int .u64 (n : Int)] w fun e w' => e = .returned (.bool true) ∧ Below w.heap.size w w' := by
  have HA := Lib.hid (awake08 w hT)
  have hb1 : Below w.heap.size w w := b0
  have HF : Hid (∀ x : World, Below w.heap.size w x → Calls Tryd.prog 23 #[.slice A l.length cap] x fun e w' => e = .returned (.bool (few l)) ∧ Below x.heap.size x w') := fun x hx => few_any w.heap.size A cap l x (hr.belowB hx) hok (by omega)
  have HR := Lib.hid hr
  have HOK := Lib.hid hok
  have HL : Hid (l.length ≤ cap ∧ cap ≤ 9223372036854775807) := ⟨hl, hc⟩
  clear hT hr hok
  generalize hfa : few l = fa at HF
  have HFA := Lib.hid hfa
  clear hfa
  cases fa with
  | false =>
    go_enter Tryd.func5, Tryd.ntmps5
    go_wp2_with fail
    refine (HA.out).mono ?_
    rintro e w1 ⟨rfl, hb2⟩
    replace hb1 := bb hb1 hb2
    clear hb2
    go_wp2_with fail
    refine (HF.out _ hb1).mono ?_
    rintro e w2 ⟨rfl, hb2⟩
    replace hb1 := bb hb1 hb2
    clear hb2
    go_wp2
    go_ret
    exact ⟨rfl, hb1⟩
  | true =>
    obtain ⟨ht3, h60⟩ := few_ok HFA.out
    have HM : Hid (∀ x : World, Below w.heap.size w x → Calls Tryd.prog 24 #[.slice A l.length cap] x (MakeEnd x l.length)) := fun x hx => make_any w.heap.size A cap l x hx.size (HR.out.belowB hx) (fun x hx => ⟨HOK.out x hx, ht3 x hx⟩) h60 HL.out.1 HL.out.2
    clear ht3
    go_enter Tryd.func5, Tryd.ntmps5
    go_wp2_with fail
    refine (HA.out).mono ?_
    rintro e w1 ⟨rfl, hb2⟩
    replace hb1 := bb hb1 hb2
    clear hb2
    go_wp2_with fail
    refine (HF.out _ hb1).mono ?_
    rintro e w2 ⟨rfl, hb2⟩
    replace hb1 := bb hb1 hb2
    clear hb2
    go_wp2_with fail
    refine (HM.out _ hb1).mono ?_
    rintro e w4 ⟨f, Af, cf, rfl, hfc, hfk, hfs, hb2⟩
    replace hb1 := bb hb1 hb2
    have HFC := Lib.hid hfc
    have HFK : Hid (f.All FKd') := hfk.imp fun _ _ _ _ h => ⟨h.1, h.2.2.1⟩
    have HFS : Hid (SlV w4 (fun k => k < w4.heap.size) (.slice Af f.len cf) f) := hfs.lt.imp fun k hk => hk.2
    have hx : Below w4.heap.size w4 w4 := b0
    have hf60 : f.count ≤ 1000000 := by omega
    have H60 := Lib.hid hf60
    have hfl := Nat.le_trans f.len_count hf60
    clear hb2 hfk hfs hf60 hfc
    go_wp2_with fail
    refine (of_any f.count Af cf f _ w4 (Nat.le_refl _) HFS.out H60.out).mono ?_
    rintro e w5 ⟨Aw, cw, rfl, hws, hb2⟩
    replace hb1 := bb hb1 hb2
    have h45 := hb2
    have HWZ := Lib.hid hb1.size
    have HWS : Hid (SlV w5 (fun k => k < w5.heap.size) (.slice Aw f.len cw) f) := hws.lt.imp fun k hk => hk.2
    clear hb2 hws hx
    go_wp2_with fail
    refine (clone_of _ f _ w5 (HFS.out.below h45) H60.out).mono ?_
    rintro e w6 ⟨Ac, cc, g0, xs, rfl, _, hown, hcls, hg0, hog, hb2⟩
    replace hb1 := bb hb1 hb2
    have h56 := hb2
    have HCP := Lib.hid (clone_parts hown hcls hog)
    have HG0 := Lib.hid hg0
    clear hb2 hown hcls hog hg0
    go_wp2_with fail
    refine (oflist_any n _ f _ w6 ((HFS.out.below h45).below h56) H60.out).mono ?_
    rintro e w7 ⟨Al, cl, h0, ys, rfl, hown, hcls, hh0, hb2⟩
    replace hb1 := bb hb1 hb2
    have h67 := hb2
    have HLS : Hid (SlV w7 (fun k => w6.heap.size ≤ k) (.slice Al f.len cl) f) := by
      obtain ⟨A9, c9, hv, hs⟩ := own_slv hown (hcls.imp (J := fun k => w6.heap.size ≤ k) fun k hk => by omega) (fun k hk => hk)
      injection hv with e1 _ e3
      subst e1 e3
      exact hs
    have hbox := BlkAt.made w7 41 #[.int .u64 (n : Int), .int .i64 2, .int .u64 0, .string ByteArray.empty, .slice Al f.len cl]
    have hbo := ba (a := w7) b0 (.cells #[.int .u64 (n : Int), .int .i64 2, .int .u64 0, .string ByteArray.empty, .slice Al f.len cl] 41)
    clear hb2 hown hcls hh0
    go_wp2_with fail
    generalize w7.alloc (.cells #[.int .u64 (n : Int), .int .i64 2, .int .u64 0, .string ByteArray.empty, .slice Al f.len cl] 41) = W0 at hbox hbo ⊢
    replace hb1 := bb hb1 hbo
    have h60' : Below w6.heap.size w6 W0 := bb h67 hbo
    have h50 : Below w5.heap.size w5 W0 := bb h56 h60'
    have hz : Below W0.heap.size W0 W0 := b0
    have HX0 : Hid (SlV W0 (fun k => k < w5.heap.size) (.slice Af f.len cf) f) := ((HFS.out.below h45).below h50).imp fun k hk => Nat.lt_of_lt_of_le hk h45.size
    have HW0 : Hid (SlV W0 (fun k => k < w5.heap.size) (.slice Aw f.len cw) f) := HWS.out.below h50
    have HL0 : Hid (SlV W0 (fun k => w6.heap.size ≤ k) (.slice Al f.len cl) f) := HLS.out.below hbo
    have HF6 : Hid (∀ k, FB w6 41 k → k < w6.heap.size) := fun k hk => hk.lt
    have HC6 : Hid (SlV w6 (fun k => w5.heap.size ≤ k ∧ FB w6 41 k) (.slice Ac f.len cc) f) := by
      rcases HCP.out.2 with h | ⟨rfl, h2, h3⟩
      · exact ⟨Ac, cc, rfl, HCP.out.1, .inl h⟩
      · exact ⟨_, cc, rfl, HCP.out.1, .inr ⟨g0, 0, rfl, ⟨HG0.out, h2⟩, h2.lt, h3.imp fun k hk => ⟨by have := HG0.out; omega, hk.2⟩⟩⟩
    have HC0 : Hid (SlV W0 (fun k => w5.heap.size ≤ k ∧ FB w6 41 k) (.slice Ac f.len cc) f) := HC6.out.below h60'
    have HBX : Hid (∀ W : World, Below W0.heap.size W0 W → W.cell? ⟨w7.heap.size, 0, none⟩ = some (.int .u64 (n : Int)) ∧ W.cell? ⟨w7.heap.size, 1, none⟩ = some (.int .i64 2) ∧ W.cell? ⟨w7.heap.size, 4, none⟩ = some (.slice Al f.len cl)) := fun W hW => by
      have h1 := hbox.below hW hbox.lt
      have e0 := h1.cell 0
      have e1 := h1.cell 1
      have e4 := h1.cell 4
      simp at e0 e1 e4
      exact ⟨e0, e1, e4⟩
    have HBOX := Lib.hid hbox
    have H67 := Lib.hid h67.size
    have H60' := Lib.hid h60'
    have hsame := same_self f
    have HSA : Hid (∀ (P : Option Addr) (q : Nat) (W W' : World), SlV W (fun _ => True) (.slice P f.len q) f → Below W0.heap.size W0 W' → Below W.heap.size W W' → Calls Tryd.prog 28 #[.slice P f.len q, .slice Aw f.len cw] W' fun e w' => e = .returned (.bool true) ∧ Below W'.heap.size W' w') := fun P q W W' hs hw hw' => by
      have := rsame_any8 f.count P Aw q cw f f (fun _ => True) W' (Nat.le_refl _) (hs.below hw') ((HW0.out.below hw).imp fun _ _ => trivial) H60.out H60.out
      rwa [same_self] at this
    clear hsame hbox hbo h60' h50 h67 h56 h45
    go_wp2_with fail
    refine (of_any f.count Ac cc f _ _ (Nat.le_refl _) (HC0.out.below hz) H60.out).mono ?_
    rintro e w8 ⟨P8, q8, rfl, hps, hb2⟩
    replace hb1 := bb hb1 hb2
    replace hz := bb hz hb2
    have HP8 : Hid (SlV w8 (fun _ => True) (.slice P8 (f).len q8) f) := hps.imp fun _ _ => trivial
    clear hb2 hps
    go_wp2_with fail
    refine (HSA.out _ _ _ _ HP8.out hz b0).mono ?_
    rintro e w9 ⟨rfl, hb2⟩
    replace hb1 := bb hb1 hb2
    replace hz := bb hz hb2
    obtain ⟨q0, q1, q4⟩ := HBX.out _ hz
    clear hb2
    go_wp2_with fail
    refine (of_any f.count Al cl f _ _ (Nat.le_refl _) (HL0.out.below hz) H60.out).mono ?_
    rintro e w10 ⟨P10, q10, rfl, hps, hb2⟩
    replace hb1 := bb hb1 hb2
    replace hz := bb hz hb2
    have HP10 : Hid (SlV w10 (fun _ => True) (.slice P10 (f).len q10) f) := hps.imp fun _ _ => trivial
    clear hb2 hps
    clear q0 q1 q4
    go_wp2_with fail
    refine (HSA.out _ _ _ _ HP10.out hz b0).mono ?_
    rintro e w11 ⟨rfl, hb2⟩
    replace hb1 := bb hb1 hb2
    replace hz := bb hz hb2
    obtain ⟨q0, q1, q4⟩ := HBX.out _ hz
    clear hb2
    have hc11 := HC0.out.below hz
    have hcp := HCP.out.2
    go_wp2_with fail
    refine (turn_any f.count Ac cc f (fun k => w5.heap.size ≤ k ∧ FB w6 41 k) w11 (Nat.le_refl _) hc11 HFK.out (fun k hk => (hk.2.below H60'.out).below hz) H60.out).mono ?_
    rintro e w12 ⟨rfl, htw, hfirst⟩
    have hnI : ∀ k, k < w5.heap.size → ¬ (w5.heap.size ≤ k ∧ FB w6 41 k) := fun k hk h => by omega
    have hnI2 : ∀ k, w6.heap.size ≤ k → ¬ (w5.heap.size ≤ k ∧ FB w6 41 k) := fun k hk h => by have := HF6.out k h.2; omega
    have HX12 : Hid (SlV w12 (fun k => k < w5.heap.size) (.slice Af f.len cf) f) := (HX0.out.below hz).tch htw.tch hnI
    have HW12 : Hid (SlV w12 (fun k => k < w5.heap.size) (.slice Aw f.len cw) f) := (HW0.out.below hz).tch htw.tch hnI
    have HL12 : Hid (SlV w12 (fun k => w6.heap.size ≤ k) (.slice Al f.len cl) f) := (HL0.out.below hz).tch htw.tch hnI2
    have hbox12 := ((HBOX.out.below hz HBOX.out.lt).tch htw.tch (hnI2 _ H67.out))
    have hb12 : Below w.heap.size w w12 := hb1.trans (htw.tch.toBelowB hb1.size fun g hg h => by have := HWZ.out; omega)
    have HSA2 : Hid (∀ (P : Option Addr) (q : Nat) (g : Fs) (W W' : World), g.count = f.count → SlV W (fun _ => True) (.slice P g.len q) g → Below w12.heap.size w12 W' → Below W.heap.size W W' → Calls Tryd.prog 28 #[.slice P g.len q, .slice Aw f.len cw] W' fun e w' => e = .returned (.bool (g.same f)) ∧ Below W'.heap.size W' w') := fun P q g W W' hg hs hw hw' =>
      rsame_any8 f.count P Aw q cw g f (fun _ => True) W' (by omega) (hs.below hw') ((HW12.out.below hw).imp fun _ _ => trivial) (by have := H60.out; omega) H60.out
    have HBX2 : Hid (∀ W : World, Below w12.heap.size w12 W → W.cell? ⟨w7.heap.size, 4, none⟩ = some (.slice Al f.len cl)) := fun W hW => by
      have h1 := hbox12.below hW hbox12.lt
      have e4 := h1.cell 4
      simp at e4
      exact e4
    have HT12 := Lib.hid hfirst
    have HC11 := Lib.hid hc11
    have HTW := Lib.hid htw
    have HZ11 := Lib.hid hz
    clear hfirst hnI hnI2 hbox12 hc11 htw hcp q0 q1 q4 hb1
    have hb1 := hb12
    clear hb12 hz
    have hz : Below w12.heap.size w12 w12 := b0
    go_wp2_with fail
    refine (of_any f.count Af cf f _ _ (Nat.le_refl _) (HX12.out.below hz) H60.out).mono ?_
    rintro e w13 ⟨P13, q13, rfl, hps, hb2⟩
    replace hb1 := bb hb1 hb2
    replace hz := bb hz hb2
    have HP13 : Hid (SlV w13 (fun _ => True) (.slice P13 (f).len q13) f) := hps.imp fun _ _ => trivial
    clear hb2 hps
    have hs := HSA2.out P13 q13 f _ _ rfl HP13.out hz b0
    rw [same_self] at hs
    go_wp2_with fail
    refine hs.mono ?_
    clear hs
    rintro e w14 ⟨rfl, hb2⟩
    replace hb1 := bb hb1 hb2
    replace hz := bb hz hb2
    have q4 := HBX2.out _ hz
    clear hb2
    go_wp2_with fail
    refine (of_any f.count Al cl f _ _ (Nat.le_refl _) (HL12.out.below hz) H60.out).mono ?_
    rintro e w15 ⟨P15, q15, rfl, hps, hb2⟩
    replace hb1 := bb hb1 hb2
    replace hz := bb hz hb2
    have HP15 : Hid (SlV w15 (fun _ => True) (.slice P15 (f).len q15) f) := hps.imp fun _ _ => trivial
    clear hb2 hps
    clear q4
    have hs := HSA2.out P15 q15 f _ _ rfl HP15.out hz b0
    rw [same_self] at hs
    go_wp2_with fail
    refine hs.mono ?_
    clear hs
    rintro e w16 ⟨rfl, hb2⟩
    replace hb1 := bb hb1 hb2
    replace hz := bb hz hb2
    clear hb2
    by_cases h0 : l.length = 0
    · have hl0 : ((l.length : Int) == 0) = true := by simp; exact List.eq_nil_of_length_eq_zero h0
      go_wp2
      go_ret
      exact ⟨rfl, hb1⟩
    · have hl0 : ((l.length : Int) == 0) = false := by rw [beq_eq_false_iff_ne]; omega
      have hne : f.len ≠ 0 := fun h => by
        have := Fs.len_zero h
        rw [this] at HFC
        exact h0 HFC.out.symm
      obtain ⟨h1, hF, hat⟩ : Ac = some ⟨g0, 0, none⟩ ∧ FB w6 41 g0 ∧ FsAt w6 (fun k => g0 < k ∧ FB w6 41 k) f g0 0 := by
        rcases HCP.out.2 with h | h
        · exact absurd h hne
        · exact h
      subst h1
      obtain ⟨A9, c9, hv9, hc9, hor9⟩ := HC11.out
      injection hv9 with e1 _ e3
      subst e1 e3
      obtain ⟨b9, o9, hA9, hI9, hb9, hf9⟩ : ∃ b o, some (⟨g0, 0, none⟩ : Addr) = some ⟨b, o, none⟩ ∧ (w5.heap.size ≤ b ∧ FB w6 41 b) ∧ b < w11.heap.size ∧ FsAt w11 (fun k => w5.heap.size ≤ k ∧ FB w6 41 k) f b o := by
        rcases hor9 with h | h
        · exact absurd h hne
        · exact h
      injection hA9 with hA9
      injection hA9 with e4 e5
      subst e4 e5
      obtain ⟨f', hlk, hfk', hf'⟩ := hf9.turn HTW.out HFK.out
      have hll := hlk.len
      have hlc := hlk.count
      obtain ⟨t, y, m, s, i, hdc, _⟩ := f.drop_cons 0 (by omega)
      obtain ⟨t', y', m', s', i', hdc', _⟩ := f'.drop_cons 0 (by omega)
      have hd0 : ∀ h : Fs, h.drop 0 = h := fun h => by cases h <;> rfl
      rw [hd0] at hdc hdc'
      have hat11 : FsAt w11 (fun k => k ≠ g0) f g0 0 := by
        have h2 := (hat.keep H60'.out.size (fun k hk hl => H60'.out.block k hl) (H60'.out.block g0 hF.lt)).keep HZ11.out.size (fun k hk hl => HZ11.out.block k hl) (HZ11.out.block g0 (Nat.lt_of_lt_of_le hF.lt H60'.out.size))
        exact h2.imp fun k hk => by omega
      have hcell := HT12.out g0 0 t y m s i _ rfl hdc hat11
      have ht64 : In64 t := by
        have := HFK.out
        rw [hdc] at this
        exact this.1.1
      have hne2 : f'.same f = false := by
        refine same_no fun e => ?_
        rw [hdc'] at hf'
        have h3 := hf'.1
        rw [h3] at hcell
        simp only [Option.some.injEq, Value.int.injEq, true_and, Int.natCast_inj] at hcell
        rw [hdc', hdc] at e
        injection e with e _
        unfold In64 at ht64
        omega
      have HS' : Hid (SlV w12 (fun _ => True) (.slice (some ⟨g0, 0, none⟩) f'.len cc) f') := ⟨_, cc, rfl, by omega, .inr ⟨g0, 0, rfl, trivial, by rw [HTW.out.size]; exact hb9, hf'.imp fun _ _ => trivial⟩⟩
      have hll2 := hll
      rw [hll] at hne
      have H1 : Hid (∀ x : World, Below w12.heap.size w12 x → Calls Tryd.prog 25 #[.slice (some ⟨g0, 0, none⟩) f.len cc] x (CopyEnd x f')) := fun x hx => by
        rw [hll]
        exact of_any f'.count _ cc f' _ x (Nat.le_refl _) (HS'.out.below hx) (by have := H60.out; omega)
      have HLL := Lib.hid hll
      have HLC := Lib.hid hlc
      have HNE2 := Lib.hid hne2
      clear hll hlc hne2 hcell hat11 hdc hdc' hd0 hf' hfk' hf9 hat hlk hor9 hc9 hne hll2
      go_wp2_with fail
      refine (H1.out _ hz).mono ?_
      rintro e w17 ⟨P17, q17, rfl, hps, hb2⟩
      replace hb1 := bb hb1 hb2
      replace hz := bb hz hb2
      have hs := HSA2.out P17 q17 f' w17 w17 HLC.out.symm (hps.imp fun _ _ => trivial) hz b0
      rw [HNE2.out] at hs
      clear hb2 hps
      go_wp2_with fail
      refine hs.mono ?_
      clear hs
      rintro e w18 ⟨rfl, hb2⟩
      replace hb1 := bb hb1 hb2
      clear hb2
      go_wp2
      go_ret
      exact ⟨rfl, hb1⟩
end Go.Proofs.YtmlijflappjfoaaDoor
end
