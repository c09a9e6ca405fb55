/-
  Texts of the proof, joined: From Of FCheck. Conditions: as each names.
-/
import Derived.Test.YtigbifiicbghpaaDoorBaa

section
/-
  What 'from' makes of a list of 'One's: fields. Conditions: numbers within their kinds; at most 60, of texts of 300 bytes.
-/
namespace Go.Proofs.YtigbifiicbghpaaDoor
open Go.RowKit Go.PM
set_option maxRecDepth 100000
set_option maxHeartbeats 2000000
attribute [local go_sem ↓] Go.wp_at_zero Go.wp_at_succ

/-- What holds of each field that was made. -/
def FOk (t : Nat) (y : Int) (n : Nat) (s : ByteArray) : Prop := In64 t ∧ (-128 ≤ y ∧ y ≤ 127) ∧ In64 n ∧ s.size ≤ 300
def FromEnd (H : Nat) (w : World) (l : List One) (deep : Nat) (e : Ending) (w' : World) : Prop :=
  ∃ (f : Fs) (A : Option Addr) (c : Nat) (A' : Option Addr) (c' : Nat), e = .returned (.tuple #[.slice A f.len c, .slice A' (l.length - f.count) c']) ∧ f.count ≤ l.length ∧ (deep = 0 → f.count = l.length) ∧ f.All FOk ∧
    SlV w' (w.heap.size ≤ ·) (.slice A f.len c) f ∧ OnesRd H w' A' (l.drop f.count) ∧ l.length - f.count ≤ c' ∧ c' ≤ 9223372036854775807 ∧ Below w.heap.size w w'
/-- Where the loop of 'from' stands: the fields so far, and what is left. -/
def FromAt (H : Nat) (w : World) (l : List One) (sl out : Value) (wr : World) : Prop :=
  ∃ (f : Fs) (A' : Option Addr) (c' : Nat) (xs : List Value), sl = .slice A' (l.length - f.count) c' ∧ f.count ≤ l.length ∧ f.All FOk ∧ wr.ownsRow w.heap.size 47 5 out f.len xs ∧
    Cls wr (fun k => w.heap.size ≤ k ∧ out.ownBlock ≠ some k) xs f ∧ OnesRd H wr A' (l.drop f.count) ∧ l.length - f.count ≤ c' ∧ c' ≤ 9223372036854775807 ∧ Below w.heap.size w wr
theorem from_step {H : Nat} {w wq w3 : World} {l : List One} {f fi : Fs} {xs : List Value} {out vi : Value} {xt xn g cap3 c2 : Nat} {xy : Int} {xs' : ByteArray} {A2 : Option Addr} (hHw : H ≤ w.heap.size) (hfo : f.All FOk)
    (hcls : Cls wq (fun k => w.heap.size ≤ k ∧ out.ownBlock ≠ some k) xs f) (hout : ∀ k, out.ownBlock = some k → w.heap.size ≤ k) (hbel : Below w.heap.size w wq)
    (hown3 : w3.ownsRow w.heap.size 47 5 (.slice (some ⟨g, 0, none⟩) (f.len + 1) cap3) (f.len + 1) (xs ++ [.int .u64 (xt : Int), .int .i64 xy, .int .u64 (xn : Int), .string xs', vi]))
    (hg3 : wq.grownBy w3 out.ownBlock) (hat : out.ownBlock = some g ∨ g = wq.heap.size) (hi : SlV wq (fun k => w.heap.size ≤ k ∧ out.ownBlock ≠ some k) vi fi) (hok : FOk xt xy xn xs') (hfi : fi.All FOk)
    (hcnt : f.count + 1 + fi.count ≤ l.length) (hrd : OnesRd H wq A2 (l.drop (f.count + 1 + fi.count))) (hc2 : l.length - (f.count + 1 + fi.count) ≤ c2) (hcc : c2 ≤ 9223372036854775807) :
    FromAt H w l (.slice A2 (l.length - (f.count + 1 + fi.count)) c2) (.slice (some ⟨g, 0, none⟩) (f.len + 1) cap3) w3 := by
  have hcnt2 : (f.app (.cons xt xy xn xs' fi .nil)).count = f.count + 1 + fi.count := by rw [Fs.app_count]; simp [Fs.count]; omega
  have hlen2 : (f.app (.cons xt xy xn xs' fi .nil)).len = f.len + 1 := by rw [Fs.app_len]; simp [Fs.len]
  have hw3 : Below w.heap.size w w3 := hbel.trans (Tch.grown (S := fun k => out.ownBlock = some k) hg3 (fun k hk _ => hk) |>.toBelowB hbel.size fun k hk e => by have := hout k e; omega)
  refine ⟨f.app (.cons xt xy xn xs' fi .nil), A2, c2, xs ++ [.int .u64 (xt : Int), .int .i64 xy, .int .u64 (xn : Int), .string xs', vi], by rw [hcnt2], by rw [hcnt2]; exact hcnt, hfo.app ⟨hok, hfi, trivial⟩, by rw [hlen2]; exact hown3, ?_, ?_, by rw [hcnt2]; exact hc2, hcc, hw3⟩
  · refine Cls.grow (v := out) (hcls.app (?_ : Cls _ _ _ (.cons xt xy xn xs' fi .nil))) hg3 hat
    exact ⟨rfl, rfl, rfl, rfl, hi, trivial⟩
  · rw [hcnt2]
    exact hrd.belowB (Tch.grown (S := fun k => out.ownBlock = some k) hg3 (fun k hk _ => hk) |>.toBelowB (Nat.le_trans hHw hbel.size) fun k hk e => by have := hout k e; omega)
theorem own_slv {w : World} {base : Nat} {e : TypeId} {v : Value} {xs : List Value} {f : Fs} {J : Nat → Prop} (h : w.ownsRow base e 5 v f.len xs) (hc : Cls w J xs f) (hJ : ∀ k, J k → base ≤ k) : ∃ A c, v = .slice A f.len c ∧ SlV w (base ≤ ·) (.slice A f.len c) f := by
  rcases h.2 with ⟨rfl, h0⟩ | ⟨g, cap, cur, rfl, hb, hg, hn, _⟩
  · have := Fs.len_zero h0
    subst this
    exact ⟨none, 0, rfl, SlV.nil _ _ _ _⟩
  · refine ⟨some ⟨g, 0, none⟩, cap, rfl, some ⟨g, 0, none⟩, cap, rfl, hn, .inr ⟨g, 0, rfl, hb, (Array.getElem?_eq_some_iff.1 hg).1, (hc.imp hJ).at_ fun j u hj => ?_⟩⟩
    have := h.cells (g := g) rfl j u hj
    rwa [add_at, ← Nat.zero_add j] at this
theorem from_stop {H : Nat} {w wr : World} {l : List One} {deep : Nat} {f : Fs} {A' : Option Addr} {c' : Nat} {xs : List Value} {out : Value} (hfc : f.count ≤ l.length) (hd : deep = 0 → f.count = l.length) (hfo : f.All FOk)
    (hown : wr.ownsRow w.heap.size 47 5 out f.len xs) (hcls : Cls wr (fun k => w.heap.size ≤ k ∧ out.ownBlock ≠ some k) xs f) (hrd : OnesRd H wr A' (l.drop f.count)) (hlc : l.length - f.count ≤ c') (hcc : c' ≤ 9223372036854775807)
    (hbel : Below w.heap.size w wr) : FromEnd H w l deep (.returned (.tuple #[out, .slice A' (l.length - f.count) c'])) wr := by
  obtain ⟨A, c, rfl, h⟩ := own_slv hown hcls fun k hk => hk.1
  exact ⟨f, A, c, A', c', rfl, hfc, hd, hfo, h, hrd, hlc, hcc, hbel⟩
theorem info_field : (Tryd.prog.info? 47).map (fun i => (i.zero, i.size, i.bytes)) = some (some (.agg #[.int .u64 0, .int .i64 0, .int .u64 0, .string ByteArray.empty, .slice none 0 0]), 5, 64) := by kernel_rfl
theorem from_any (H : Nat) (N : Nat) : ∀ (A : Option Addr) (cap : Nat) (l : List One) (deep : Nat) (w : World), l.length ≤ N → H ≤ w.heap.size → OnesRd H w A l → (∀ x ∈ l, x.ok ∧ x.text.size ≤ 300) → l.length ≤ 60 → l.length ≤ cap → cap ≤ 9223372036854775807 → deep < 256 →
    Calls Tryd.prog 31 #[.slice A l.length cap, .int .u8 (deep : Int)] w (FromEnd H w l deep) := by
  induction N with
  | zero =>
    intro A cap l deep w hN hHw hr hok h60 hc hcm hd
    have : l = [] := List.eq_nil_of_length_eq_zero (by omega)
    subst this
    go_enter Tryd.func31, Tryd.ntmps31
    go_wp2_with fail
    go_loopw [0, 6] (fun sl out wr => sl = .slice A 0 cap ∧ out = .slice none 0 0 ∧ wr = w) (fun _ _ _ => 0)
    case atStart => exact ⟨rfl, rfl, rfl⟩
    case round =>
      obtain ⟨rfl, rfl, rfl⟩ := hrel
      go_wp2_with fail
      go_ret2
      exact ⟨.nil, none, 0, A, cap, rfl, by simp [Fs.count], fun _ => rfl, trivial, SlV.nil _ _ _ _, .inl rfl, by omega, hcm, b0⟩
  | succ N ih =>
    intro A cap l deep w hN hHw hr hok h60 hc hcm hd
    have HOK := Lib.hid hok
    have H0 : Hid (FromAt H w l (.slice A l.length cap) (.slice none 0 0) w) := ⟨.nil, A, cap, [], rfl, by simp [Fs.count], trivial, World.ownsRow_nil _ _ _ _, trivial, hr, hc, hcm, b0⟩
    have IH := Lib.hid ih
    clear hr hok ih
    obtain ⟨i0, hi0, hz0, hz1, hz2⟩ := info_parts info_field
    go_enter Tryd.func31, Tryd.ntmps31
    go_wp2_with fail
    go_loopw [0, 6] (fun sl out wr => FromAt H w l sl out wr) (fun sl _ _ => match sl with | .slice _ n _ => n | _ => 0)
    case atStart => exact H0.out
    case round =>
      obtain ⟨f, A', c', xs, rfl, hfc, hfo, hown, hcls, hrd, hlc, hcc, hbel⟩ := hrel
      by_cases hz : l.length - f.count = 0
      · have HE := Lib.hid (from_stop (deep := deep) hfc (fun _ => by omega) hfo hown hcls hrd hlc hcc hbel)
        clear hown hcls hrd hbel hfo H0
        rw [hz] at HE
        rw [hz]
        go_wp2_with fail
        go_ret2
        exact HE.out
      · have hpos : 0 < l.length - f.count := by omega
        have hpi : (0 : Int) < ((l.length - f.count : Nat) : Int) := by omega
        cases hl : l.drop f.count with
        | nil => 
          have := congrArg List.length hl
          rw [List.length_drop] at this
          simp at this
          omega
        | cons x r =>
          rw [hl] at hrd
          rcases hrd with h0 | ⟨b, o, rfl, hbl, hHl, hat⟩
          · cases h0
          obtain ⟨c0, c1, c2, c3, c4⟩ := hat 0 x rfl
          simp only [Nat.zero_mul, Nat.add_zero] at c0 c1 c2 c3 c4
          have hmem : x ∈ l := List.mem_of_mem_drop (by rw [hl]; exact List.mem_cons_self)
          obtain ⟨⟨o1, o2, o3, o4, o5⟩, o6⟩ := HOK.out x hmem
          by_cases hdp : x.deep < deep
          · have HE := Lib.hid (from_stop (deep := deep) hfc (fun e => by omega) hfo hown hcls (show OnesRd H wr (some ⟨b, o, none⟩) (l.drop f.count) by rw [hl]; exact .inr ⟨b, o, rfl, hbl, hHl, hat⟩) hlc hcc hbel)
            clear hown hcls hat hbel hfo H0 hl hmem o2 o4
            generalize l.length - f.count = M at *
            go_wp2_with fail
            go_ret2
            exact HE.out
          · have hge : (deep : Int) ≤ (x.deep : Int) := by omega
            have HOWN := Lib.hid hown
            have HCLS := Lib.hid hcls
            have HAT := Lib.hid hat
            have HBEL := Lib.hid hbel
            have HL := Lib.hid hl
            have HMEM := Lib.hid hmem
            have HFO := Lib.hid hfo
            have O2 := Lib.hid (And.intro o2 o4)
            clear hown hcls hat hbel hl hmem hfo o2 o4 H0
            obtain ⟨xd, xt, xy, xn, xs'⟩ := x
            simp only at c0 c1 c2 c3 c4 o1 o3 o5 o6 hdp hge
            generalize hM : l.length - f.count = M at *
            by_cases h255 : xd = 255
            · have heq : ((xd : Int) == 255) = true := by rw [beq_iff_eq]; omega
              clear h255
              have hrl : r.length + 1 = M := by
                have := congrArg List.length HL.out
                rw [List.length_drop, hM] at this
                simp at this
                omega
              have hrdr : r = l.drop (f.count + 1) := by rw [← List.drop_drop, HL.out]; rfl
              have hb3 := ba (ba (ba (a := wr) b0 (.cells #[.int .u8 (xd : Int), .int .u64 (xt : Int), .int .i8 xy, .int .u64 (xn : Int), .string xs'] 71)) (.cells #[.int .u64 (xt : Int), .int .i64 xy, .int .u64 (xn : Int), .string xs', .slice none 0 0] 47)) (.cells #[.int .u64 (xt : Int), .int .i64 xy, .int .u64 (xn : Int), .string xs', .slice none 0 0] 47)
              have hnb : BlkAt (((wr.alloc (.cells #[.int .u8 (xd : Int), .int .u64 (xt : Int), .int .i8 xy, .int .u64 (xn : Int), .string xs'] 71)).alloc (.cells #[.int .u64 (xt : Int), .int .i64 xy, .int .u64 (xn : Int), .string xs', .slice none 0 0] 47)).alloc (.cells #[.int .u64 (xt : Int), .int .i64 xy, .int .u64 (xn : Int), .string xs', .slice none 0 0] 47)) (wr.heap.size + 2) 47 #[.int .u64 (xt : Int), .int .i64 xy, .int .u64 (xn : Int), .string xs', .slice none 0 0] := by
                have := BlkAt.made ((wr.alloc (.cells #[.int .u8 (xd : Int), .int .u64 (xt : Int), .int .i8 xy, .int .u64 (xn : Int), .string xs'] 71)).alloc (.cells #[.int .u64 (xt : Int), .int .i64 xy, .int .u64 (xn : Int), .string xs', .slice none 0 0] 47)) 47 #[.int .u64 (xt : Int), .int .i64 xy, .int .u64 (xn : Int), .string xs', .slice none 0 0]
                simpa using this
              have HNB := Lib.hid hnb
              have HB3 := Lib.hid hb3
              have HO3 := Lib.hid (own_below HOWN.out hb3)
              have HRL := Lib.hid (And.intro hrl hrdr)
              have hwz := HBEL.out.size
              have hflen := Nat.le_trans f.len_count hfc
              have hMi : (1 : Int) ≤ (M : Int) := by omega
              have hMc : (M : Int) ≤ (c' : Int) := by omega
              clear hnb hb3 hrl hrdr
              by_cases hc1 : c' = 1
              · subst hc1
                obtain rfl : M = 1 := by omega
                go_wp2_with (at_builtin; go_must (refine wpList_append_lies _ rfl _ _ 28 rfl w.heap.size 47 i0 _ 5 64 Tryd.underlying28 hi0 hz0 hz1 hz2 rfl (by decide) u6 f.len xs rfl HO3.out ⟨wr.heap.size + 2, 0, none⟩ 1 1 [.int .u64 (xt : Int), .int .i64 xy, .int .u64 (xn : Int), .string xs', .slice none 0 0] rfl rfl HNB.out.news (by simp [Value.oneCell']) (by decide) (by unfold maxLen; omega) (by omega) (by simp; omega) (wr.heap.size + 3) (by simp) ?_); intro g cap3 w3 hown3 hg3 hat3 hlt3)
                have hrl := HRL.out.1
                have hcq := ((HCLS.out.below HB3.out)).imp (J := fun k => w.heap.size ≤ k ∧ u6.ownBlock ≠ some k) fun k hk => hk
                have hbq := HBEL.out.trans (HB3.out.mono hwz)
                have hrq : OnesRd H wr (some ⟨b, o, none⟩) (l.drop (f.count + 1 + Fs.nil.count)) := by
                  show OnesRd H wr _ (l.drop (f.count + 1))
                  rw [← HRL.out.2]
                  by_cases hr0 : r = []
                  · exact .inl hr0
                  · exact .inr ⟨b, o + 5, by first | rfl | exact absurd (List.eq_nil_of_length_eq_zero (by omega)) hr0, hbl, hHl, fun j y hj => by
                      have := HAT.out (j + 1) y hj
                      rw [show o + (j + 1) * 5 = o + 5 + j * 5 by omega] at this
                      exact this⟩
                have hfin := from_step (fi := .nil) hHw HFO.out hcq (fun k hk => (HOWN.out.lt k hk).1) hbq hown3 hg3 (hat3.imp id fun h => by rw [h]; simp) (SlV.nil _ _ _ _) ⟨O2.out.1, o3, O2.out.2, o6⟩ trivial (by simp only [Fs.count]; omega) (hrq.below HB3.out) (c2 := 1 - 1) (by simp only [Fs.count]; omega) (by omega)
                rw [show l.length - (f.count + 1 + Fs.nil.count) = 1 - 1 by simp only [Fs.count]; omega] at hfin
                refine ⟨hfin, ?_⟩
                show 1 - 1 < 1
                omega
              · go_wp2_with (at_builtin; go_must (refine wpList_append_lies _ rfl _ _ 28 rfl w.heap.size 47 i0 _ 5 64 Tryd.underlying28 hi0 hz0 hz1 hz2 rfl (by decide) u6 f.len xs rfl HO3.out ⟨wr.heap.size + 2, 0, none⟩ 1 1 [.int .u64 (xt : Int), .int .i64 xy, .int .u64 (xn : Int), .string xs', .slice none 0 0] rfl rfl HNB.out.news (by simp [Value.oneCell']) (by decide) (by unfold maxLen; omega) (by omega) (by simp; omega) (wr.heap.size + 3) (by simp) ?_); intro g cap3 w3 hown3 hg3 hat3 hlt3)
                have hrl := HRL.out.1
                have hcq := ((HCLS.out.below HB3.out)).imp (J := fun k => w.heap.size ≤ k ∧ u6.ownBlock ≠ some k) fun k hk => hk
                have hbq := HBEL.out.trans (HB3.out.mono hwz)
                have hrq : OnesRd H wr (some ⟨b, o + 5, none⟩) (l.drop (f.count + 1 + Fs.nil.count)) := by
                  show OnesRd H wr _ (l.drop (f.count + 1))
                  rw [← HRL.out.2]
                  by_cases hr0 : r = []
                  · exact .inl hr0
                  · exact .inr ⟨b, o + 5, by first | rfl | exact absurd (List.eq_nil_of_length_eq_zero (by omega)) hr0, hbl, hHl, fun j y hj => by
                      have := HAT.out (j + 1) y hj
                      rw [show o + (j + 1) * 5 = o + 5 + j * 5 by omega] at this
                      exact this⟩
                have hfin := from_step (fi := .nil) hHw HFO.out hcq (fun k hk => (HOWN.out.lt k hk).1) hbq hown3 hg3 (hat3.imp id fun h => by rw [h]; simp) (SlV.nil _ _ _ _) ⟨O2.out.1, o3, O2.out.2, o6⟩ trivial (by simp only [Fs.count]; omega) (hrq.below HB3.out) (c2 := c' - 1) (by simp only [Fs.count]; omega) (by omega)
                rw [show l.length - (f.count + 1 + Fs.nil.count) = M - 1 by simp only [Fs.count]; omega] at hfin
                refine ⟨hfin, ?_⟩
                show M - 1 < M
                omega
            · have h254 : xd < 255 := by omega
              have hne : ((xd : Int) == 255) = false := by rw [beq_eq_false_iff_ne]; omega
              have hrl : r.length + 1 = M := by
                have := congrArg List.length HL.out
                rw [List.length_drop, hM] at this
                simp at this
                omega
              have hb7 := BlkAt.made wr 71 #[.int .u8 (xd : Int), .int .u64 (xt : Int), .int .i8 xy, .int .u64 (xn : Int), .string xs']
              have hbo7 := ba (a := wr) b0 (.cells #[.int .u8 (xd : Int), .int .u64 (xt : Int), .int .i8 xy, .int .u64 (xn : Int), .string xs'] 71)
              have hsz7 : (wr.alloc (.cells #[.int .u8 (xd : Int), .int .u64 (xt : Int), .int .i8 xy, .int .u64 (xn : Int), .string xs'] 71)).heap.size = wr.heap.size + 1 := by simp
              have hb8 := BlkAt.made (wr.alloc (.cells #[.int .u8 (xd : Int), .int .u64 (xt : Int), .int .i8 xy, .int .u64 (xn : Int), .string xs'] 71)) 47 #[.int .u64 (xt : Int), .int .i64 xy, .int .u64 (xn : Int), .string xs', .slice none 0 0]
              have hbo8 := ba hbo7 (.cells #[.int .u64 (xt : Int), .int .i64 xy, .int .u64 (xn : Int), .string xs', .slice none 0 0] 47)
              have hb7' := hb7.more (.cells #[.int .u64 (xt : Int), .int .i64 xy, .int .u64 (xn : Int), .string xs', .slice none 0 0] 47)
              rw [hsz7] at hb8
              have HB7 := Lib.hid hb7'
              have HB8 := Lib.hid hb8
              have HBO := Lib.hid hbo8
              clear hb7 hb7' hb8 hbo7 hbo8 hsz7
              have HRL := Lib.hid hrl
              have hMi : (1 : Int) ≤ (M : Int) := by omega
              have hMc : (M : Int) ≤ (c' : Int) := by omega
              clear hrl
              by_cases hc1 : c' = 1
              · subst hc1
                obtain rfl : M = 1 := by omega
                go_wp2_with fail
                refine wp_world fun W hW => ?_
                rw [← hW] at HB7 HB8 HBO
                clear hW
                have hbW := HBO.out
                have HC : Hid (∀ x : World, Below W.heap.size W x → Calls Tryd.prog 31 #[.slice (some ⟨b, o, none⟩) 0 0, .int .u8 ((xd : Int) + 1)] x (FromEnd H x r (xd + 1))) := fun x hx => by
                  have hr0 : r = [] := List.eq_nil_of_length_eq_zero (by have := HRL.out; omega)
                  subst hr0
                  exact IH.out (some ⟨b, o, none⟩) 0 [] (xd + 1) x (by simp) (Nat.le_trans (Nat.le_trans hHl hbW.size) hx.size) (.inl rfl) (by simp) (by simp) (by simp) (by omega) (by omega)
                have e7 := HB7.out.cell 0
                simp at e7
                have hl7 := HB7.out.lt
                have hl8 := HB8.out.lt
                have hwr : IntKind.u8.wrap ((xd : Int) + 1) = (xd : Int) + 1 := by simp [IntKind.wrap, IntKind.signed, IntKind.bits]; omega
                clear hbW
                go_region_held3 (fun w' => w'.cell? ⟨wr.heap.size, 0, none⟩ = some (.int .u8 (xd : Int))) (go_keep)
                  ((go_at_call 31; refine (HC.out _ (bd b0)).mono ?_; rintro e' W1 ⟨fi, Ai, ci, A2, c2, rfl, hi1, hi2, hi3, hi4, hi5, hi6, hi8, hi7⟩; have hbW1 : Below W.heap.size W W1 := bb (bd b0) hi7; have hb81 := HB8.out.below hbW1 HB8.out.lt; have e7' := (HB7.out.below hbW1 HB7.out.lt).cell 0; have e80 := hb81.cell 0; have e81 := hb81.cell 1; have e82 := hb81.cell 2; have e83 := hb81.cell 3; have e8 := hb81.cell 4; have f8 := hb81.free 4; simp at e7' e80 e81 e82 e83 e8; have HI := Lib.hid (And.intro hi1 (And.intro hi3 (And.intro hi4 (And.intro hi5 (And.intro hi6 (And.intro hi8 hbW1)))))); have HB81 := Lib.hid hb81; clear hi1 hi2 hi3 hi4 hi5 hi6 hi7 hi8 hbW1 hb81))
                have hsz1 := HI.out.2.2.2.2.2.2.size
                have hwz := HBEL.out.size
                have hWz := HBO.out.size
                have hown1 := own_tch (S := fun k => k = wr.heap.size + 1) (own_below (own_below HOWN.out HBO.out) HI.out.2.2.2.2.2.2) ((Tch.refl (fun k => k = wr.heap.size + 1) W1).put (p := ⟨wr.heap.size + 1, 4, none⟩) (fun _ => rfl) (.slice Ai fi.len ci)) fun g hg e => by have := (HOWN.out.lt g hg).2; omega
                have hnb : BlkAt ((W1.setCell ⟨wr.heap.size + 1, 4, none⟩ (.slice Ai fi.len ci)).alloc (.cells #[.int .u64 (xt : Int), .int .i64 xy, .int .u64 (xn : Int), .string xs', .slice Ai fi.len ci] 47)) W1.heap.size 47 #[.int .u64 (xt : Int), .int .i64 xy, .int .u64 (xn : Int), .string xs', .slice Ai fi.len ci] := by
                  have := BlkAt.made (W1.setCell ⟨wr.heap.size + 1, 4, none⟩ (.slice Ai fi.len ci)) 47 #[.int .u64 (xt : Int), .int .i64 xy, .int .u64 (xn : Int), .string xs', .slice Ai fi.len ci]
                  rwa [show (W1.setCell ⟨wr.heap.size + 1, 4, none⟩ (.slice Ai fi.len ci)).heap.size = W1.heap.size by simp [World.setCell]] at this
                have HOWN1 := Lib.hid hown1
                have HNB := Lib.hid hnb
                have hflen := Nat.le_trans f.len_count hfc
                clear hown1 hnb
                go_wp2_with (at_builtin; go_must (refine wpList_append_lies _ rfl _ _ 28 rfl w.heap.size 47 i0 _ 5 64 Tryd.underlying28 hi0 hz0 hz1 hz2 rfl (by decide) u6 f.len xs rfl (HOWN1.out.alloc _) ⟨W1.heap.size, 0, none⟩ 1 1 [.int .u64 (xt : Int), .int .i64 xy, .int .u64 (xn : Int), .string xs', .slice Ai fi.len ci] rfl rfl HNB.out.news (by simp [Value.oneCell']) (by decide) (by unfold maxLen; omega) (by omega) (by simp [World.setCell]; omega) (W1.heap.size + 1) (by simp [World.setCell]) ?_); intro g cap3 w3 hown3 hg3 hat3 hlt3)
                have hrM := HRL.out
                obtain ⟨k1, k3, k4, k5, k6, k8, kb⟩ := HI.out
                have hbq : Below w.heap.size w ((W1.setCell ⟨wr.heap.size + 1, 4, none⟩ (.slice Ai fi.len ci)).alloc (.cells #[.int .u64 (xt : Int), .int .i64 xy, .int .u64 (xn : Int), .string xs', .slice Ai fi.len ci] 47)) :=
                  (((HBEL.out.trans (HBO.out.mono hwz)).trans (kb.mono (Nat.le_trans hwz hWz))).setCell (by show w.heap.size ≤ wr.heap.size + 1; omega) _).alloc (by simp [World.setCell]; omega) _
                have hsq : (W1.setCell ⟨wr.heap.size + 1, 4, none⟩ (.slice Ai fi.len ci)).heap.size = W1.heap.size := by simp [World.setCell]
                have htp := (Tch.refl (fun k => k = wr.heap.size + 1) W1).put (p := ⟨wr.heap.size + 1, 4, none⟩) (fun _ => rfl) (.slice Ai fi.len ci)
                have hcq := ((((HCLS.out.lt.below HBO.out).below kb).tch htp fun k hk e => by have := hk.2; omega).below (ba b0 (.cells #[.int .u64 (xt : Int), .int .i64 xy, .int .u64 (xn : Int), .string xs', .slice Ai fi.len ci] 47))).imp (J := fun k => w.heap.size ≤ k ∧ u6.ownBlock ≠ some k) fun k hk => hk.1
                have hiq := ((k4.tch htp fun k (hk : W.heap.size ≤ k) e => by have := HB8.out.lt; omega).below (ba b0 (.cells #[.int .u64 (xt : Int), .int .i64 xy, .int .u64 (xn : Int), .string xs', .slice Ai fi.len ci] 47))).imp (J := fun k => w.heap.size ≤ k ∧ u6.ownBlock ≠ some k) fun k (hk : W.heap.size ≤ k) => ⟨by omega, fun e => by have := (HOWN.out.lt k e).2; omega⟩
                have hrdr : r = l.drop (f.count + 1) := by rw [← List.drop_drop, HL.out]; rfl
                have hrq := ((k5.belowB (htp.toBelowB (B := H) (by omega) fun k hk e => by omega)).below (ba b0 (.cells #[.int .u64 (xt : Int), .int .i64 xy, .int .u64 (xn : Int), .string xs', .slice Ai fi.len ci] 47)))
                rw [hrdr, List.drop_drop] at hrq
                have hcnt : f.count + 1 + fi.count ≤ l.length := by omega
                have hxok : FOk xt xy xn xs' := ⟨O2.out.1, o3, O2.out.2, o6⟩
                have hfin := from_step hHw HFO.out hcq (fun k hk => (HOWN.out.lt k hk).1) hbq hown3 hg3 (hat3.imp id fun h => by rw [h]; simp [World.setCell]) hiq hxok k3 hcnt hrq (by omega) k8
                rw [show l.length - (f.count + 1 + fi.count) = r.length - fi.count by omega] at hfin
                refine ⟨hfin, ?_⟩
                show r.length - fi.count < 1
                omega
              · go_wp2_with fail
                refine wp_world fun W hW => ?_
                rw [← hW] at HB7 HB8 HBO
                clear hW
                have hbW := HBO.out
                have hat2 : OnesAt W b (o + 5) r := fun j y hj => by
                  have := (HAT.out.below hbW (Nat.lt_of_lt_of_le hbl hHl)) (j + 1) y hj
                  rw [show o + (j + 1) * 5 = o + 5 + j * 5 by omega] at this
                  exact this
                have HC : Hid (∀ x : World, Below W.heap.size W x → Calls Tryd.prog 31 #[.slice (some ⟨b, o + 5, none⟩) (M - 1) (c' - 1), .int .u8 ((xd : Int) + 1)] x (FromEnd H x r (xd + 1))) := fun x hx => by
                  have hrM : r.length = M - 1 := by have := HRL.out; omega
                  have hsub : ∀ y ∈ r, y ∈ l := fun y hy => List.mem_of_mem_drop (by rw [HL.out]; exact List.mem_cons_of_mem _ hy)
                  have := IH.out (some ⟨b, o + 5, none⟩) (c' - 1) r (xd + 1) x (by omega) (Nat.le_trans (Nat.le_trans hHl hbW.size) hx.size) ((OnesRd.below (w := W) (.inr ⟨b, o + 5, rfl, hbl, Nat.le_trans hHl hbW.size, hat2⟩)) hx) (fun y hy => HOK.out y (hsub y hy)) (by omega) (by omega) (by omega) (by omega)
                  rw [hrM] at this
                  exact this
                clear hat2
                have e7 := HB7.out.cell 0
                simp at e7
                have hl7 := HB7.out.lt
                have hl8 := HB8.out.lt
                have hwr : IntKind.u8.wrap ((xd : Int) + 1) = (xd : Int) + 1 := by simp [IntKind.wrap, IntKind.signed, IntKind.bits]; omega
                clear hbW
                go_region_held3 (fun w' => w'.cell? ⟨wr.heap.size, 0, none⟩ = some (.int .u8 (xd : Int))) (go_keep)
                  ((go_at_call 31; refine (HC.out _ (bd b0)).mono ?_; rintro e' W1 ⟨fi, Ai, ci, A2, c2, rfl, hi1, hi2, hi3, hi4, hi5, hi6, hi8, hi7⟩; have hbW1 : Below W.heap.size W W1 := bb (bd b0) hi7; have hb81 := HB8.out.below hbW1 HB8.out.lt; have e7' := (HB7.out.below hbW1 HB7.out.lt).cell 0; have e80 := hb81.cell 0; have e81 := hb81.cell 1; have e82 := hb81.cell 2; have e83 := hb81.cell 3; have e8 := hb81.cell 4; have f8 := hb81.free 4; simp at e7' e80 e81 e82 e83 e8; have HI := Lib.hid (And.intro hi1 (And.intro hi3 (And.intro hi4 (And.intro hi5 (And.intro hi6 (And.intro hi8 hbW1)))))); have HB81 := Lib.hid hb81; clear hi1 hi2 hi3 hi4 hi5 hi6 hi7 hi8 hbW1 hb81))
                have hsz1 := HI.out.2.2.2.2.2.2.size
                have hwz := HBEL.out.size
                have hWz := HBO.out.size
                have hown1 := own_tch (S := fun k => k = wr.heap.size + 1) (own_below (own_below HOWN.out HBO.out) HI.out.2.2.2.2.2.2) ((Tch.refl (fun k => k = wr.heap.size + 1) W1).put (p := ⟨wr.heap.size + 1, 4, none⟩) (fun _ => rfl) (.slice Ai fi.len ci)) fun g hg e => by have := (HOWN.out.lt g hg).2; omega
                have hnb : BlkAt ((W1.setCell ⟨wr.heap.size + 1, 4, none⟩ (.slice Ai fi.len ci)).alloc (.cells #[.int .u64 (xt : Int), .int .i64 xy, .int .u64 (xn : Int), .string xs', .slice Ai fi.len ci] 47)) W1.heap.size 47 #[.int .u64 (xt : Int), .int .i64 xy, .int .u64 (xn : Int), .string xs', .slice Ai fi.len ci] := by
                  have := BlkAt.made (W1.setCell ⟨wr.heap.size + 1, 4, none⟩ (.slice Ai fi.len ci)) 47 #[.int .u64 (xt : Int), .int .i64 xy, .int .u64 (xn : Int), .string xs', .slice Ai fi.len ci]
                  rwa [show (W1.setCell ⟨wr.heap.size + 1, 4, none⟩ (.slice Ai fi.len ci)).heap.size = W1.heap.size by simp [World.setCell]] at this
                have HOWN1 := Lib.hid hown1
                have HNB := Lib.hid hnb
                have hflen := Nat.le_trans f.len_count hfc
                clear hown1 hnb
                go_wp2_with (at_builtin; go_must (refine wpList_append_lies _ rfl _ _ 28 rfl w.heap.size 47 i0 _ 5 64 Tryd.underlying28 hi0 hz0 hz1 hz2 rfl (by decide) u6 f.len xs rfl (HOWN1.out.alloc _) ⟨W1.heap.size, 0, none⟩ 1 1 [.int .u64 (xt : Int), .int .i64 xy, .int .u64 (xn : Int), .string xs', .slice Ai fi.len ci] rfl rfl HNB.out.news (by simp [Value.oneCell']) (by decide) (by unfold maxLen; omega) (by omega) (by simp [World.setCell]; omega) (W1.heap.size + 1) (by simp [World.setCell]) ?_); intro g cap3 w3 hown3 hg3 hat3 hlt3)
                have hrM := HRL.out
                obtain ⟨k1, k3, k4, k5, k6, k8, kb⟩ := HI.out
                have hbq : Below w.heap.size w ((W1.setCell ⟨wr.heap.size + 1, 4, none⟩ (.slice Ai fi.len ci)).alloc (.cells #[.int .u64 (xt : Int), .int .i64 xy, .int .u64 (xn : Int), .string xs', .slice Ai fi.len ci] 47)) :=
                  (((HBEL.out.trans (HBO.out.mono hwz)).trans (kb.mono (Nat.le_trans hwz hWz))).setCell (by show w.heap.size ≤ wr.heap.size + 1; omega) _).alloc (by simp [World.setCell]; omega) _
                have hsq : (W1.setCell ⟨wr.heap.size + 1, 4, none⟩ (.slice Ai fi.len ci)).heap.size = W1.heap.size := by simp [World.setCell]
                have htp := (Tch.refl (fun k => k = wr.heap.size + 1) W1).put (p := ⟨wr.heap.size + 1, 4, none⟩) (fun _ => rfl) (.slice Ai fi.len ci)
                have hcq := ((((HCLS.out.lt.below HBO.out).below kb).tch htp fun k hk e => by have := hk.2; omega).below (ba b0 (.cells #[.int .u64 (xt : Int), .int .i64 xy, .int .u64 (xn : Int), .string xs', .slice Ai fi.len ci] 47))).imp (J := fun k => w.heap.size ≤ k ∧ u6.ownBlock ≠ some k) fun k hk => hk.1
                have hiq := ((k4.tch htp fun k (hk : W.heap.size ≤ k) e => by have := HB8.out.lt; omega).below (ba b0 (.cells #[.int .u64 (xt : Int), .int .i64 xy, .int .u64 (xn : Int), .string xs', .slice Ai fi.len ci] 47))).imp (J := fun k => w.heap.size ≤ k ∧ u6.ownBlock ≠ some k) fun k (hk : W.heap.size ≤ k) => ⟨by omega, fun e => by have := (HOWN.out.lt k e).2; omega⟩
                have hrdr : r = l.drop (f.count + 1) := by rw [← List.drop_drop, HL.out]; rfl
                have hrq := ((k5.belowB (htp.toBelowB (B := H) (by omega) fun k hk e => by omega)).below (ba b0 (.cells #[.int .u64 (xt : Int), .int .i64 xy, .int .u64 (xn : Int), .string xs', .slice Ai fi.len ci] 47)))
                rw [hrdr, List.drop_drop] at hrq
                have hcnt : f.count + 1 + fi.count ≤ l.length := by omega
                have hxok : FOk xt xy xn xs' := ⟨O2.out.1, o3, O2.out.2, o6⟩
                have hfin := from_step hHw HFO.out hcq (fun k hk => (HOWN.out.lt k hk).1) hbq hown3 hg3 (hat3.imp id fun h => by rw [h]; simp [World.setCell]) hiq hxok k3 hcnt hrq (by omega) k8
                rw [show l.length - (f.count + 1 + fi.count) = r.length - fi.count by omega] at hfin
                refine ⟨hfin, ?_⟩
                show r.length - fi.count < M
                omega
end Go.Proofs.YtigbifiicbghpaaDoor
end

section
/-
  Make, and the document's fields of some. Conditions: numbers within their kinds; at most 60 fields.
-/
namespace Go.Proofs.YtigbifiicbghpaaDoor
open Go.RowKit Go.PM
set_option maxRecDepth 100000
set_option maxHeartbeats 2000000
attribute [local go_sem ↓] Go.wp_at_zero Go.wp_at_succ

/-- What Make makes. -/
def MakeEnd (w : World) (n : Nat) (e : Ending) (w' : World) : Prop :=
  ∃ (f : Fs) (A : Option Addr) (c : Nat), e = .returned (.slice A f.len c) ∧ f.count = n ∧ f.All FOk ∧ SlV w' (w.heap.size ≤ ·) (.slice A f.len c) f ∧ Below w.heap.size w w'
theorem make_any (H : Nat) (A : Option Addr) (cap : Nat) (l : List One) (w : World) (hHw : H ≤ w.heap.size) (hr : OnesRd H w A l) (hok : ∀ x ∈ l, x.ok ∧ x.text.size ≤ 300) (h60 : l.length ≤ 60) (hc : l.length ≤ cap) (hcm : cap ≤ 9223372036854775807) :
    Calls Tryd.prog 9 #[.slice A l.length cap] w (MakeEnd w l.length) := by
  have HF := Lib.hid (from_any H l.length A cap l 0 w (Nat.le_refl _) hHw hr hok h60 hc hcm (by omega))
  clear hr hok
  go_enter Tryd.func9, Tryd.ntmps9
  go_wp2_with fail
  refine HF.out.mono ?_
  rintro e w1 ⟨f, A1, c1, A2, c2, rfl, h1, h2, h3, h4, h5, h6, h7, h8⟩
  have HE := Lib.hid (And.intro (h2 rfl) (And.intro h3 (And.intro h4 h8)))
  clear h1 h2 h3 h4 h5 h6 h7 h8
  go_wp2
  go_ret
  exact ⟨f, A1, c1, rfl, HE.out.1, HE.out.2.1, HE.out.2.2.1, HE.out.2.2.2⟩

/-- A copy of fields, in new memory. -/
def CopyEnd (w : World) (f : Fs) (e : Ending) (w' : World) : Prop :=
  ∃ (A : Option Addr) (c : Nat), e = .returned (.slice A f.len c) ∧ SlV w' (w.heap.size ≤ ·) (.slice A f.len c) f ∧ Below w.heap.size w w'
/-- Where the loop of Of stands. -/
def OfAt (w : World) (f : Fs) (k : Nat) (out : Value) (wr : World) : Prop :=
  ∃ xs, wr.ownsRow w.heap.size 51 5 out k xs ∧ Cls wr (fun k => w.heap.size ≤ k ∧ out.ownBlock ≠ some k) xs (f.take k) ∧ Below w.heap.size w wr
theorem info_rfield : (Tryd.prog.info? 51).map (fun i => (i.zero, i.size, i.bytes)) = some (some (.agg #[.int .u64 0, .int .i64 0, .int .u64 0, .string ByteArray.empty, .slice none 0 0]), 5, 64) := by kernel_rfl
theorem of_any (N : Nat) : ∀ (A : Option Addr) (c : Nat) (f : Fs) (I : Nat → Prop) (w : World), f.count ≤ N → SlV w I (.slice A f.len c) f → f.count ≤ 1000000 →
    Calls Tryd.prog 10 #[.slice A f.len c] w (CopyEnd w f) := by
  induction N with
  | zero =>
    intro A c f I w hN hr h60
    have : f = .nil := Fs.len_zero (by have := f.len_count; omega)
    subst this
    go_enter Tryd.func10, Tryd.ntmps10
    go_wp2_with fail
    go_loopw [3, 8] (fun out kk wr => out = .slice none 0 0 ∧ kk = .int .i64 0 ∧ wr = w) (fun _ _ _ => 0)
    case atStart => exact ⟨rfl, rfl, rfl⟩
    case round =>
      obtain ⟨rfl, rfl, rfl⟩ := hrel
      go_wp2_with fail
      go_ret
      exact ⟨none, 0, rfl, SlV.nil _ _ _ _, b0⟩
  | succ N ih =>
    intro A c f I w hN hr h60
    have IH := Lib.hid ih
    have HR := Lib.hid hr
    have H0 : Hid (OfAt w f 0 (.slice none 0 0) w) := ⟨[], World.ownsRow_nil _ _ _ _, by cases f <;> trivial, b0⟩
    clear ih hr
    have hfl := f.len_count
    obtain ⟨i0, hi0, hz0, hz1, hz2⟩ := info_parts info_rfield
    go_enter Tryd.func10, Tryd.ntmps10
    go_wp2_with fail
    go_loopw [3, 8] (fun out kk wr => ∃ k : Nat, k ≤ f.len ∧ kk = .int .i64 (k : Int) ∧ OfAt w f k out wr) (fun _ kk _ => f.len - (intOf kk).toNat)
    case atStart => exact ⟨0, by omega, rfl, H0.out⟩
    case round =>
      obtain ⟨k, hk, rfl, xs, hown, hcls, hbel⟩ := hrel
      by_cases hlt : k < f.len
      · obtain ⟨t, y, n, s, i, hdc, htk⟩ := f.drop_cons k hlt
        obtain ⟨A0, c0, hv, hc0, hor⟩ := HR.out.below hbel
        injection hv with hv1 hv2 hv3
        subst hv1 hv3
        rcases hor with h0 | ⟨b, o, rfl, hIb, hbl, hat⟩
        · omega
        have hak := hat.drop k
        rw [hdc] at hak
        obtain ⟨d0, d1, d2, d3, ⟨Ai, ci, d4, hci, hin⟩, _⟩ := hak
        have HIN := Lib.hid hin
        have HOWN := Lib.hid hown
        have HCLS := Lib.hid hcls
        have HBEL := Lib.hid hbel
        have HTK := Lib.hid htk
        have hic : i.count ≤ N ∧ i.count ≤ 1000000 := by
          have h1 := f.take_count (k + 1)
          rw [htk, Fs.app_count] at h1
          simp only [Fs.count] at h1
          omega
        clear hin hown hcls hbel htk hdc hat hv2
        go_wp2_with fail
        have hm5 := BlkAt.made wr 47 #[.int .u64 (t : Int), .int .i64 y, .int .u64 (n : Int), .string s, .slice Ai i.len ci]
        have hbo := ba (a := wr) b0 (.cells #[.int .u64 (t : Int), .int .i64 y, .int .u64 (n : Int), .string s, .slice Ai i.len ci] 47)
        generalize wr.alloc (.cells #[.int .u64 (t : Int), .int .i64 y, .int .u64 (n : Int), .string s, .slice Ai i.len ci] 47) = W at hm5 hbo ⊢
        have HC : Hid (∀ x : World, Below W.heap.size W x → Calls Tryd.prog 10 #[.slice Ai i.len ci] x (CopyEnd x i)) := fun x hx =>
          IH.out Ai ci i I x hic.1 ((SlV.below (f := i) (I := I) (w := wr) ⟨Ai, ci, rfl, hci, HIN.out⟩ hbo).below hx) hic.2
        have HM5 := Lib.hid hm5
        have HBO := Lib.hid hbo
        have hwz := HBEL.out.size
        have hWz := hbo.size
        have HOW := Lib.hid (own_below HOWN.out hbo)
        have e0 := hm5.cell 0
        have e1 := hm5.cell 1
        have e2 := hm5.cell 2
        have e3 := hm5.cell 3
        have e4 := hm5.cell 4
        simp at e0 e1 e2 e3 e4
        clear hm5 hbo d0 d1 d2 d3 d4
        go_region_held3 (fun w' => w'.cell? ⟨wr.heap.size, 0, none⟩ = some (.int .u64 (t : Int)) ∧ w'.cell? ⟨wr.heap.size, 1, none⟩ = some (.int .i64 y) ∧ w'.cell? ⟨wr.heap.size, 2, none⟩ = some (.int .u64 (n : Int)) ∧
            w'.cell? ⟨wr.heap.size, 3, none⟩ = some (.string s) ∧ w'.cell? ⟨wr.heap.size, 4, none⟩ = some (.slice Ai i.len ci)) (go_keep)
          (first
            | (go_at_call 10; refine (HC.out _ (bd b0)).mono ?_; rintro e' W1 ⟨A1, c1, rfl, hs1, hb1'⟩; have hbW1 : Below W.heap.size W W1 := bb (bd b0) hb1'; have hm51 := HM5.out.below hbW1 HM5.out.lt; have e0' := hm51.cell 0; have e1' := hm51.cell 1; have e2' := hm51.cell 2; have e3' := hm51.cell 3; have e4' := hm51.cell 4; simp at e0' e1' e2' e3' e4')
            | (refine step_append_lies _ (by rfl) _ _ _ (by rfl) w.heap.size 51 i0 _ 5 64 Tryd.underlying30 hi0 hz0 hz1 hz2 rfl (by omega) u3 k xs (by rfl) ((own_below HOW.out hbW1).alloc _) ⟨W1.heap.size, 0, none⟩ 1 1 [.int .u64 (t : Int), .int .i64 y, .int .u64 (n : Int), .string s, .slice A1 i.len c1] (by rfl) (by rfl) (World.news_of_block (cs := #[.int .u64 (t : Int), .int .i64 y, .int .u64 (n : Int), .string s, .slice A1 i.len c1]) (t := 51) (fr := (0, 0)) (heap_alloc_new W1 _)) (by simp [Value.oneCell']) (by omega) (by unfold maxLen; omega) (by omega) (by have := hbW1.size; simp; omega) (W1.heap.size + 1) (by simp) ?_; intro g cap3 w3 hown3 hg3 hat3 hlt3; have HG3 := Lib.hid hg3; have f0' := (((HM5.out.below hbW1 HM5.out.lt).more (.cells #[.int .u64 (t : Int), .int .i64 y, .int .u64 (n : Int), .string s, .slice A1 i.len c1] 51)).step hg3 (by intro e; have := (HOWN.out.lt _ e.symm).2; omega)); have g0 := f0'.cell 0; have g1 := f0'.cell 1; have g2 := f0'.cell 2; have g3 := f0'.cell 3; have g4 := f0'.cell 4; simp at g0 g1 g2 g3 g4))
        go_wp2
        go_roundw
        case rel =>
          have hbq : Below wr.heap.size wr (W1.alloc (.cells #[.int .u64 (t : Int), .int .i64 y, .int .u64 (n : Int), .string s, .slice A1 i.len c1] 51)) := ba (bb HBO.out hbW1) _
          have hs1' : SlV W1 (W.heap.size ≤ ·) (.slice A1 i.len c1) i := hs1
          have hiq := (hs1'.below (ba b0 (.cells #[.int .u64 (t : Int), .int .i64 y, .int .u64 (n : Int), .string s, .slice A1 i.len c1] 51))).imp (J := fun k => w.heap.size ≤ k ∧ u3.ownBlock ≠ some k) fun k (hk : W.heap.size ≤ k) => ⟨by omega, fun e => by have := (HOWN.out.lt k e).2; omega⟩
          have hcq := (HCLS.out.below hbq).app (show Cls _ (fun k => w.heap.size ≤ k ∧ u3.ownBlock ≠ some k) [.int .u64 (t : Int), .int .i64 y, .int .u64 (n : Int), .string s, .slice A1 i.len c1] (.cons t y n s i .nil) from ⟨rfl, rfl, rfl, rfl, hiq, trivial⟩)
          rw [← HTK.out] at hcq
          refine ⟨k + 1, by omega, by go_num, _, hown3, Cls.grow (v := u3) hcq HG3.out (hat3.imp id fun h => by rw [h]; simp), ?_⟩
          exact (HBEL.out.trans (hbq.mono hwz)).trans (Tch.grown (S := fun k => u3.ownBlock = some k) HG3.out (fun k hk _ => hk) |>.toBelowB (Nat.le_trans hwz hbq.size) fun k hk e => by have := (HOWN.out.lt k e).1; omega)
        case measure => simp [intOf]; omega
      · obtain rfl : k = f.len := by omega
        rw [f.take_all _ (Nat.le_refl _)] at hcls
        obtain ⟨A1, c1, rfl, hs⟩ := own_slv hown hcls fun k hk => hk.1
        have HE := Lib.hid (And.intro hs hbel)
        clear hown hcls hs hbel H0
        go_wp2_with fail
        go_ret
        exact ⟨A1, c1, rfl, HE.out.1, HE.out.2⟩
end Go.Proofs.YtigbifiicbghpaaDoor
end

section
/-
  Contracts of layer 8: whether fields may be. Conditions: numbers within their kinds.
-/
namespace Go.Proofs.YtigbifiicbghpaaDoor
open Go.RowKit Go.PM
set_option maxRecDepth 100000
set_option maxHeartbeats 1000000

def ftyped (y : Int) (n : Nat) (s : ByteArray) (len : Nat) : Bool :=
  if y = 0 then decide (s.size = 0) && decide (len = 0) else if y = 1 then decide (n = 0) && decide (len = 0) else if y = 2 then decide (n = 0) && decide (s.size = 0) else false
theorem size_zero {s : ByteArray} (h : s.size = 0) : s = ⟨#[]⟩ := ByteArray.ext (Array.eq_empty_of_size_eq_zero h)
theorem size_some {s : ByteArray} (h : s.size ≠ 0) : s.toList.isEmpty = false ∧ s.toList ≠ [] := by
  have : s.toList ≠ [] := fun e => h (by rw [ByteArray.toList_eq] at e; have := congrArg List.length e; simpa using this)
  exact ⟨by simpa using this, this⟩
theorem typed_any (t : Nat) (y : Int) (n : Nat) (s : ByteArray) (A : Option Addr) (len c : Nat) (w : World) (hy : InI64 y) (hl : len ≤ 9223372036854775807) :
    Calls Tryd.prog 49 #[.agg #[.int .u64 (t : Int), .int .i64 y, .int .u64 (n : Int), .string s, .slice A len c]] w fun e w' => e = .returned (.bool (ftyped y n s len)) ∧ Below w.heap.size w w' := by
  unfold ftyped
  by_cases y0 : y = 0
  · subst y0
    rw [if_pos rfl]
    by_cases hs : s.size = 0
    · obtain rfl := size_zero hs
      by_cases h0 : len = 0
      · subst h0
        go_enter Tryd.func49, Tryd.ntmps49
        go_wp2
        go_ret
        exact ⟨rfl, ba b0 _⟩
      · have hd : decide (len = 0) = false := by simp; exact h0
        have hi : ((len : Int) == 0) = false := by rw [beq_eq_false_iff_ne]; omega
        rw [hd]
        clear hd
        go_enter Tryd.func49, Tryd.ntmps49
        go_wp2
        go_ret
        exact ⟨rfl, ba b0 _⟩
    · obtain ⟨e1, e2⟩ := size_some hs
      rw [decide_eq_false hs]
      go_enter Tryd.func49, Tryd.ntmps49
      go_wp2
      go_ret
      exact ⟨rfl, ba b0 _⟩
  · rw [if_neg y0]
    by_cases y1 : y = 1
    · subst y1
      rw [if_pos rfl]
      by_cases hn : n = 0
      · subst hn
        by_cases h0 : len = 0
        · subst h0
          go_enter Tryd.func49, Tryd.ntmps49
          go_wp2
          go_ret
          exact ⟨rfl, ba b0 _⟩
        · have hd : decide (len = 0) = false := by simp; exact h0
          have hi : ((len : Int) == 0) = false := by rw [beq_eq_false_iff_ne]; omega
          rw [hd]
          clear hd
          go_enter Tryd.func49, Tryd.ntmps49
          go_wp2
          go_ret
          exact ⟨rfl, ba b0 _⟩
      · have hi : ((n : Int) == 0) = false := by rw [beq_eq_false_iff_ne]; omega
        rw [decide_eq_false hn]
        go_enter Tryd.func49, Tryd.ntmps49
        go_wp2
        go_ret
        exact ⟨rfl, ba b0 _⟩
    · rw [if_neg y1]
      have i0 : ((y : Int) == 0) = false := by rw [beq_eq_false_iff_ne]; exact y0
      have i1 : ((y : Int) == 1) = false := by rw [beq_eq_false_iff_ne]; exact y1
      by_cases y2 : y = 2
      · subst y2
        rw [if_pos rfl]
        clear y0 y1 i0 i1
        by_cases hn : n = 0
        · subst hn
          by_cases hs : s.size = 0
          · obtain rfl := size_zero hs
            go_enter Tryd.func49, Tryd.ntmps49
            go_wp2
            go_ret
            exact ⟨rfl, ba b0 _⟩
          · obtain ⟨e1, e2⟩ := size_some hs
            rw [decide_eq_false hs]
            go_enter Tryd.func49, Tryd.ntmps49
            go_wp2
            go_ret
            exact ⟨rfl, ba b0 _⟩
        · have hi : ((n : Int) == 0) = false := by rw [beq_eq_false_iff_ne]; omega
          rw [decide_eq_false hn]
          go_enter Tryd.func49, Tryd.ntmps49
          go_wp2
          go_ret
          exact ⟨rfl, ba b0 _⟩
      · rw [if_neg y2]
        have i2 : ((y : Int) == 2) = false := by rw [beq_eq_false_iff_ne]; exact y2
        clear y0 y1 y2
        go_enter Tryd.func49, Tryd.ntmps49
        go_wp2
        go_ret
        exact ⟨rfl, ba b0 _⟩
/-- Whether fields may be that stand within so many lists, behind a tag: the code. -/
def fcheck : Fs → Nat → Nat → Nat
  | .nil, _, _ => 0
  | .cons t y n s i r, ahead, within =>
    if t = 0 ∨ 4294967296 < t then 18 else if t ≤ ahead then 7 else if ftyped y n s i.len = false then 8 else if y ≠ 2 then fcheck r t within else if 8 ≤ within then 9
    else if fcheck i 0 (within + 1) ≠ 0 then fcheck i 0 (within + 1) else fcheck r t within
/-- Numbers within their kinds. -/
def FKd (t : Nat) (y : Int) (n : Nat) (s : ByteArray) : Prop := In64 t ∧ InI64 y ∧ In64 n ∧ s.size ≤ 9223372036854775807
theorem FOk.kd {t : Nat} {y : Int} {n : Nat} {s : ByteArray} (h : FOk t y n s) : FKd t y n s := ⟨h.1, by have := h.2.1; unfold InI64; omega, h.2.2.1, by have := h.2.2.2; omega⟩
theorem check_any8 (N : Nat) : ∀ (A : Option Addr) (c : Nat) (f : Fs) (I : Nat → Prop) (within : Nat) (w : World), f.count ≤ N → SlV w I (.slice A f.len c) f → f.All FKd → f.count ≤ 1000000 → within ≤ 8 →
    Calls Tryd.prog 37 #[.slice A f.len c, .int .i64 (within : Int)] w fun e w' => e = .returned (.int .i64 (fcheck f 0 within : Int)) ∧ Below w.heap.size w w' := by
  induction N with
  | zero =>
    intro A c f I within w hN hr hk h60 hw
    have : f = .nil := Fs.len_zero (by have := f.len_count; omega)
    subst this
    go_enter Tryd.func37, Tryd.ntmps37
    go_wp2_with fail
    go_loopw [5, 11] (fun _ kk wr => kk = .int .i64 0 ∧ wr = w) (fun _ _ _ => 0)
    case atStart => exact ⟨rfl, rfl⟩
    case round =>
      obtain ⟨rfl, rfl⟩ := hrel
      go_wp2_with fail
      go_ret
      exact ⟨rfl, b0⟩
  | succ N ih =>
    intro A c f I within w hN hr hk h60 hw
    have IH := Lib.hid ih
    have HR := Lib.hid hr
    have HK := Lib.hid hk
    have hfl := f.len_count
    generalize hRR : fcheck f 0 within = R
    have H0 : Hid (fcheck (f.drop 0) 0 within = R) := by show _ = _; rw [← hRR]; cases f <;> rfl
    clear hRR ih hr hk
    go_enter Tryd.func37, Tryd.ntmps37
    go_wp2_with fail
    go_loopw [5, 11] (fun aa kk wr => ∃ k ahead : Nat, k ≤ f.len ∧ kk = .int .i64 (k : Int) ∧ aa = .int .u64 (ahead : Int) ∧ ahead ≤ 4294967296 ∧ Hid (fcheck (f.drop k) ahead within = R) ∧ Below w.heap.size w wr) (fun _ kk _ => f.len - (intOf kk).toNat)
    case atStart => exact ⟨0, 0, by omega, rfl, rfl, by omega, H0, b0⟩
    case round =>
      obtain ⟨k, ahead, hk, rfl, rfl, hah, hR', hbel⟩ := hrel
      have HBEL := Lib.hid hbel
      have hR := hR'.out
      by_cases hlt : k < f.len
      · obtain ⟨t, y, n, s, i, hdc, _⟩ := f.drop_cons k hlt
        obtain ⟨A0, c0, hv, hc0, hor⟩ := HR.out.below hbel
        injection hv with hv1 hv2 hv3
        subst hv1 hv3
        rcases hor with h0 | ⟨b, o, rfl, hIb, hbl, hat⟩
        · omega
        have hak := hat.drop k
        have hkk := HK.out.drop k
        have hcc := f.drop_count k
        rw [hdc] at hak hkk hR hcc
        obtain ⟨d0, d1, d2, d3, ⟨Ai, ci, d4, hin⟩, _⟩ := hak
        obtain ⟨⟨ht64, hy64, hn64, hs63⟩, hki, _⟩ := hkk
        have hic : i.count ≤ N ∧ i.count ≤ 1000000 ∧ i.len ≤ 1000000 := by
          have := i.len_count
          simp only [Fs.count] at hcc
          omega
        have HTY : Hid (∀ x : World, Calls Tryd.prog 49 #[.agg #[.int .u64 (t : Int), .int .i64 y, .int .u64 (n : Int), .string s, .slice Ai i.len ci]] x fun e w' => e = .returned (.bool (ftyped y n s i.len)) ∧ Below x.heap.size x w') := fun x => typed_any t y n s Ai i.len ci x hy64 (by omega)
        have HIN := Lib.hid hin
        have HKI := Lib.hid hki
        have HT64 := Lib.hid ht64
        clear hdc hat hin hki hbel hv2 hy64 hn64 hR' ht64 hcc H0
        rw [fcheck] at hR
        by_cases ht0 : t = 0
        · subst ht0
          rw [if_pos (.inl rfl)] at hR
          subst hR
          go_wp2_with (first | (go_at_call 49; refine (HTY.out _).mono ?_; rintro e wt ⟨rfl, hbt⟩; have hm := (BlkAt.made wr 47 #[.int .u64 (t : Int), .int .i64 y, .int .u64 (n : Int), .string s, .slice Ai i.len ci]).below hbt (by simp); have q1 := hm.cell 1; have q4 := hm.cell 4; simp at q1 q4))
          go_ret
          exact ⟨rfl, HBEL.out.trans (by first | exact (bb (ba b0 _) hbt).mono HBEL.out.size | exact (ba b0 _ : Below wr.heap.size wr _).mono HBEL.out.size)⟩
        by_cases ht1 : 4294967296 < t
        · have hti : ((t : Int) == 0) = false := by rw [beq_eq_false_iff_ne]; omega
          rw [if_pos (.inr ht1)] at hR
          subst hR
          go_wp2_with (first | (go_at_call 49; refine (HTY.out _).mono ?_; rintro e wt ⟨rfl, hbt⟩; have hm := (BlkAt.made wr 47 #[.int .u64 (t : Int), .int .i64 y, .int .u64 (n : Int), .string s, .slice Ai i.len ci]).below hbt (by simp); have q1 := hm.cell 1; have q4 := hm.cell 4; simp at q1 q4))
          go_ret
          exact ⟨rfl, HBEL.out.trans (by first | exact (bb (ba b0 _) hbt).mono HBEL.out.size | exact (ba b0 _ : Below wr.heap.size wr _).mono HBEL.out.size)⟩
        rw [if_neg (by omega)] at hR
        have hti : ((t : Int) == 0) = false := by rw [beq_eq_false_iff_ne]; omega
        by_cases hta : t ≤ ahead
        · rw [if_pos hta] at hR
          subst hR
          go_wp2_with (first | (go_at_call 49; refine (HTY.out _).mono ?_; rintro e wt ⟨rfl, hbt⟩; have hm := (BlkAt.made wr 47 #[.int .u64 (t : Int), .int .i64 y, .int .u64 (n : Int), .string s, .slice Ai i.len ci]).below hbt (by simp); have q1 := hm.cell 1; have q4 := hm.cell 4; simp at q1 q4))
          go_ret
          exact ⟨rfl, HBEL.out.trans (by first | exact (bb (ba b0 _) hbt).mono HBEL.out.size | exact (ba b0 _ : Below wr.heap.size wr _).mono HBEL.out.size)⟩
        rw [if_neg hta] at hR
        cases hty : ftyped y n s i.len with
        | false =>
          rw [hty] at HTY hR
          rw [if_pos rfl] at hR
          clear hty
          subst hR
          go_wp2_with (first | (go_at_call 49; refine (HTY.out _).mono ?_; rintro e wt ⟨rfl, hbt⟩; have hm := (BlkAt.made wr 47 #[.int .u64 (t : Int), .int .i64 y, .int .u64 (n : Int), .string s, .slice Ai i.len ci]).below hbt (by simp); have q1 := hm.cell 1; have q4 := hm.cell 4; simp at q1 q4))
          go_ret
          exact ⟨rfl, HBEL.out.trans (by first | exact (bb (ba b0 _) hbt).mono HBEL.out.size | exact (ba b0 _ : Below wr.heap.size wr _).mono HBEL.out.size)⟩
        | true =>
          rw [hty] at HTY hR
          rw [if_neg (by simp)] at hR
          clear hty
          by_cases hy2 : y = 2
          · subst hy2
            rw [if_neg (by simp)] at hR
            by_cases hwi : 8 ≤ within
            · rw [if_pos hwi] at hR
              subst hR
              go_wp2_with (first | (go_at_call 49; refine (HTY.out _).mono ?_; rintro e wt ⟨rfl, hbt⟩; have hm := (BlkAt.made wr 47 #[.int .u64 (t : Int), .int .i64 2, .int .u64 (n : Int), .string s, .slice Ai i.len ci]).below hbt (by simp); have q1 := hm.cell 1; have q4 := hm.cell 4; simp at q1 q4))
              go_ret
              exact ⟨rfl, HBEL.out.trans ((bb (ba b0 _) hbt).mono HBEL.out.size)⟩
            rw [if_neg hwi] at hR
            have HSL : Hid (SlV wr I (.slice Ai i.len ci) i) := ⟨Ai, ci, rfl, HIN.out⟩
            generalize hE : fcheck i 0 (within + 1) = E at hR
            have HE := Lib.hid hE
            clear hE
            by_cases he : E = 0
            · subst he
              rw [if_neg (by simp)] at hR
              have HR2 := Lib.hid hR
              clear hR
              go_wp2_with (first | (go_at_call 49; refine (HTY.out _).mono ?_; rintro e wt ⟨rfl, hbt⟩; have hm := (BlkAt.made wr 47 #[.int .u64 (t : Int), .int .i64 2, .int .u64 (n : Int), .string s, .slice Ai i.len ci]).below hbt (by simp); have q1 := hm.cell 1; have q4 := hm.cell 4; simp at q1 q4) | (go_at_call 37; refine (IH.out Ai ci i I (within + 1) _ hic.1 (HSL.out.below (bb (ba b0 _) hbt)) HKI.out hic.2.1 (by omega)).mono ?_; rw [HE.out]; rintro e2 w2 ⟨rfl, hb2⟩))
              go_roundw
              case rel => exact ⟨k + 1, t, by omega, by go_num, rfl, by omega, HR2, HBEL.out.trans ((bb (bb (ba b0 _) hbt) hb2).mono HBEL.out.size)⟩
              case measure => simp [intOf]; omega
            · rw [if_pos he] at hR
              have hei : ((E : Int) != 0) = true := by rw [bne_iff_ne]; omega
              subst hR
              go_wp2_with (first | (go_at_call 49; refine (HTY.out _).mono ?_; rintro e wt ⟨rfl, hbt⟩; have hm := (BlkAt.made wr 47 #[.int .u64 (t : Int), .int .i64 2, .int .u64 (n : Int), .string s, .slice Ai i.len ci]).below hbt (by simp); have q1 := hm.cell 1; have q4 := hm.cell 4; simp at q1 q4) | (go_at_call 37; refine (IH.out Ai ci i I (within + 1) _ hic.1 (HSL.out.below (bb (ba b0 _) hbt)) HKI.out hic.2.1 (by omega)).mono ?_; rw [HE.out]; rintro e2 w2 ⟨rfl, hb2⟩))
              go_ret
              exact ⟨rfl, HBEL.out.trans ((bb (bb (ba b0 _) hbt) hb2).mono HBEL.out.size)⟩
          · rw [if_pos hy2] at hR
            have hyi : (y != 2) = true := by rw [bne_iff_ne]; exact hy2
            have HR2 := Lib.hid hR
            clear hR hy2
            go_wp2_with (first | (go_at_call 49; refine (HTY.out _).mono ?_; rintro e wt ⟨rfl, hbt⟩; have hm := (BlkAt.made wr 47 #[.int .u64 (t : Int), .int .i64 y, .int .u64 (n : Int), .string s, .slice Ai i.len ci]).below hbt (by simp); have q1 := hm.cell 1; have q4 := hm.cell 4; simp at q1 q4))
            go_roundw
            case rel => exact ⟨k + 1, t, by omega, by go_num, rfl, by omega, HR2, HBEL.out.trans ((bb (ba b0 _) hbt).mono HBEL.out.size)⟩
            case measure => simp [intOf]; omega
      · obtain rfl : k = f.len := by omega
        have hn : f.drop f.len = .nil := Fs.len_zero (by rw [Fs.drop_len]; omega)
        rw [hn, fcheck] at hR
        subst hR
        clear hR' hbel H0
        go_wp2_with fail
        go_ret
        exact ⟨rfl, HBEL.out⟩
theorem check_of (v : Value) (f : Fs) (I : Nat → Prop) (w : World) (hr : SlV w I v f) (hk : f.All FKd) (h60 : f.count ≤ 1000000) :
    Calls Tryd.prog 14 #[v] w fun e w' => e = .returned (.int .i64 (fcheck f 0 0 : Int)) ∧ Below w.heap.size w w' := by
  obtain ⟨A, c, rfl, hr'⟩ := hr
  have HC := Lib.hid (check_any8 f.count A c f I 0 w (Nat.le_refl _) ⟨A, c, rfl, hr'⟩ hk h60 (by omega))
  clear hr' hk
  generalize fcheck f 0 0 = E at HC ⊢
  go_enter Tryd.func14, Tryd.ntmps14
  go_wp2_with (first | (go_at_call 37; refine HC.out.mono ?_; rintro e wt ⟨rfl, hbt⟩))
  go_ret
  exact ⟨rfl, hbt⟩
end Go.Proofs.YtigbifiicbghpaaDoor
end
