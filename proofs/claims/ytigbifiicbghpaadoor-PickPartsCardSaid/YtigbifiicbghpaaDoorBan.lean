/-
  Texts of the proof, joined: PickP2 FldLaw2 PickLaw2 PickLaw3 Laid. Conditions: as each names.
-/
import Derived.Test.YtigbifiicbghpaaDoorBal
import Derived.Test.YtigbifiicbghpaaDoorBaj
import Derived.Test.YtigbifiicbghpaaDoorBab
import Derived.Test.YtigbifiicbghpaaDoorBam
import Derived.Test.YtigbifiicbghpaaDoorRows
import Derived.PinnedBridge
import Derived.Lib.LaidIn
import Derived.Lib.LaidU8T
import Derived.Deep.DeepHandedRow
import Derived.Deep.DeepWitnessRowRef

section
/-
  The plain law of layer 10, of fields split by tags and merged again. No program in sight but for names.
-/
namespace Go.Proofs.YtigbifiicbghpaaDoor
open Go.RowKit Go.PM

theorem fpick_all {P : Nat → Int → Nat → ByteArray → Prop} (tags : List Nat) (yes : Bool) : ∀ {f : Fs}, f.All P → (fpick tags yes f).All P
  | .nil, _ => trivial
  | .cons t y n s i r, h => by
    rw [fpick]
    split
    · exact ⟨h.1, h.2.1, fpick_all tags yes h.2.2⟩
    · exact fpick_all tags yes h.2.2
theorem fpick_checkP (tags : List Nat) (yes : Bool) : ∀ {f : Fs} {a w : Nat}, fcheckP f a w → fcheckP (fpick tags yes f) a w
  | .nil, _, _, _ => trivial
  | .cons t y n s i r, a, w, h => by
    rw [fpick]
    split
    · exact ⟨h.1, fpick_checkP tags yes h.2⟩
    · exact fcheckP_mono (by have := h.1.1; omega) (fpick_checkP tags yes h.2)
theorem fpick_check {f : Fs} (tags : List Nat) (yes : Bool) (hk : f.All FKd) (h : fcheck f 0 0 = 0) : fcheck (fpick tags yes f) 0 0 = 0 :=
  (fcheck_iff _ 0 0 (fpick_all tags yes hk) (by omega)).2 (fpick_checkP tags yes ((fcheck_iff f 0 0 hk (by omega)).1 h))
theorem fpick_toL (tags : List Nat) (yes : Bool) : ∀ f : Fs, (fpick tags yes f).toL = f.toL.filter fun x => decide (x.tag ∈ tags) == yes
  | .nil => rfl
  | .cons t y n s i r => by
    rw [fpick, Fs.toL, List.filter_cons]
    by_cases h : decide (t ∈ tags) = yes
    · rw [if_pos h, Fs.toL, fpick_toL tags yes r, if_pos (by simpa using h)]
    · rw [if_neg h, fpick_toL tags yes r, if_neg (by simpa using h)]
theorem fpick_perm (tags : List Nat) (yes : Bool) (f : Fs) : ((fpick tags yes f).app (fpick tags (!yes) f)).toL.Perm f.toL := by
  rw [toL_app, fpick_toL, fpick_toL]
  have h : (fun x : Fl => decide (x.tag ∈ tags) == !yes) = fun x => !(decide (x.tag ∈ tags) == yes) := by
    funext x
    cases decide (x.tag ∈ tags) <;> cases yes <;> rfl
  rw [h]
  exact List.filter_append_perm _ _
theorem check_rise : ∀ {f : Fs} {a w : Nat}, fcheckP f a w → f.toL.Pairwise (fun x y => x.tag < y.tag) ∧ ∀ x ∈ f.toL, a < x.tag
  | .nil, _, _, _ => ⟨List.Pairwise.nil, fun x hx => by cases hx⟩
  | .cons t y n s i r, a, w, h => by
    obtain ⟨h1, h2⟩ := check_rise h.2
    have h3 := h.1.1
    rw [Fs.toL]
    refine ⟨List.pairwise_cons.2 ⟨fun x hx => h2 x hx, h1⟩, fun x hx => ?_⟩
    rcases List.mem_cons.1 hx with rfl | hx
    · exact h3
    · exact Nat.lt_trans h3 (h2 x hx)
theorem fmrg_back {f l : Fs} (hp : f.toL.Perm l.toL) (h : fcheckP l 0 0) : fmrg f = (l, 0) := by
  have h1 := (check_rise h).1
  have h2 : (f.toL.map Fl.tag).Nodup := (hp.symm.map _).nodup (krise_nodup Fl.tag h1)
  unfold fmrg
  rw [if_pos h2, ← ksort_of Fl.tag hp (h1.imp fun h => Nat.le_of_lt h) h2, ofL_toL]
theorem fmerge_two {p q : Fs} (hp : fcheck p 0 0 = 0) (hq : fcheck q 0 0 = 0) : fmerge [p, q] = fmrg (p.app q) := by
  have e : fbad [p, q] = 0 := by
    rw [fbad, if_neg (by simpa using hp), fbad, if_neg (by simpa using hq)]
    rfl
  unfold fmerge
  rw [e, if_neg (by simp), fcat, fcat, fcat, Fs.app_nil]
/-- Split by any tags, and merged again, in any order. -/
theorem pick_back (tags : List Nat) (yes : Bool) {f : Fs} (hk : f.All FKd) (h : fcheck f 0 0 = 0) : fmerge [fpick tags yes f, fpick tags (!yes) f] = (f, 0) := by
  rw [fmerge_two (fpick_check _ _ hk h) (fpick_check _ _ hk h)]
  exact fmrg_back (fpick_perm tags yes f) ((fcheck_iff f 0 0 hk (by omega)).1 h)
theorem pick_twice (tags : List Nat) {f : Fs} (hk : f.All FKd) (h : fcheck f 0 0 = 0) : ((fmerge [f, fpick tags true f]).2 = 14) ↔ 0 < (fpick tags true f).len := by
  rw [fmerge_two h (fpick_check _ _ hk h)]
  by_cases h0 : (fpick tags true f).len = 0
  · rw [Fs.len_zero h0, Fs.app_nil, fmrg_back (List.Perm.refl _) ((fcheck_iff f 0 0 hk (by omega)).1 h)]
    simp [Fs.len]
  · have hne : (fpick tags true f).toL ≠ [] := fun e => h0 (by rw [← toL_len, e]; rfl)
    obtain ⟨x, hx⟩ := List.exists_mem_of_ne_nil _ hne
    have hxf : x ∈ f.toL := by
      rw [fpick_toL] at hx
      exact (List.mem_filter.1 hx).1
    have hnn : ¬ ((f.app (fpick tags true f)).toL.map Fl.tag).Nodup := fun hn => by
      rw [toL_app, List.map_append, List.nodup_append] at hn
      exact hn.2.2 _ (List.mem_map_of_mem hxf) _ (List.mem_map_of_mem hx) rfl
    unfold fmrg
    rw [if_neg hnn]
    simp
    omega
end Go.Proofs.YtigbifiicbghpaaDoor
end

section
/-
  The walk of the statement FieldTells. Conditions: numbers within their kinds; Go's tables of UTF-8 lie in memory.
-/
namespace Go.Proofs.YtigbifiicbghpaaDoor
open Go.RowKit Go.PM
set_option maxRecDepth 100000
set_option maxHeartbeats 4000000

end Go.Proofs.YtigbifiicbghpaaDoor
end

section
/-
  The walk of the statement of layer 10 that fields split by tags and merged again are as they were. Conditions: numbers within their kinds; Go's tables of UTF-8 lie in memory.
-/
namespace Go.Proofs.YtigbifiicbghpaaDoor
open Go.RowKit Go.PM
set_option maxRecDepth 100000
set_option maxHeartbeats 4000000
attribute [local go_sem ↓] Go.wp_at_zero Go.wp_at_succ

/-- Two lists of fields, merged, where the two lie as a call's arguments. -/
theorem merge_two {x : World} {A B : Option Addr} {c d : Nat} {f g : Fs} {r : Fs × Nat} (hf : SlV x (fun _ => True) (.slice A f.len c) f) (hg : SlV x (fun _ => True) (.slice B g.len d) g) (hkf : f.All FKd) (hkg : g.All FKd) (hc : f.count + g.count ≤ 1000000)
    (hm : fmerge [f, g] = r) : Calls Tryd.prog 11 #[.slice (some ⟨x.heap.size, 0, none⟩) 2 2] (x.alloc (.cells #[.slice A f.len c, .slice B g.len d] 28)) fun e w' => ∃ (A : Option Addr) (c : Nat), e = .returned (.tuple #[.slice A r.1.len c, .int .i64 (r.2 : Int)]) ∧
      SlV w' (fun _ => True) (.slice A r.1.len c) r.1 ∧ Below x.heap.size x w' := by
  have hb := ba (a := x) b0 (.cells #[.slice A f.len c, .slice B g.len d] 28)
  have hrd : Rd (x.alloc (.cells #[.slice A f.len c, .slice B g.len d] 28)) (some ⟨x.heap.size, 0, none⟩) [.slice A f.len c, .slice B g.len d] := by
    refine .inr ⟨_, _, rfl, by simp, fun j u hj => ?_⟩
    have := World.news_of_block (cs := #[.slice A f.len c, .slice B g.len d]) (t := 28) (fr := (0, 0)) (heap_alloc_new x (.cells #[.slice A f.len c, .slice B g.len d] 28)) j u hj
    rwa [add_at, ← Nat.zero_add j] at this
  have hcc : (fcat [f, g]).count ≤ 1000000 := by
    rw [fcat, fcat, fcat, Fs.app_nil, Fs.app_count]
    exact hc
  refine (merge_any _ 2 [f, g] _ (fun _ => True) _ hrd ⟨hf.below hb, hg.below hb, trivial⟩ (fun y hy => ?_) hcc (by simp)).mono ?_
  · simp at hy
    rcases hy with rfl | rfl
    · exact hkf
    · exact hkg
  · rintro e w' ⟨A', c', rfl, hs, hb2⟩
    rw [hm] at hs ⊢
    exact ⟨A', c', rfl, hs.imp fun _ _ => trivial, bb hb hb2⟩
theorem pback_walk (A A' : Option Addr) (cap cap' : Nat) (l : List One) (tags : List Nat) (w : World) (hT : Tabs w) (hr : OnesRd w.heap.size w A l) (hr' : Rd w A' (u64s tags)) (hok : ∀ x ∈ l, x.ok) (h64 : ∀ t ∈ tags, In64 t)
    (hl : l.length ≤ cap) (hc : cap ≤ 9223372036854775807) (htl : tags.length ≤ 9223372036854775807) :
    Calls Tryd.prog 5 #[.slice A l.length cap, .slice A' tags.length cap'] w fun e w' => e = .returned (.bool true) ∧ Below w.heap.size w w' := by
  have HA := Lib.hid (awake10 w hT)
  have hb1 : Below w.heap.size w w := b0
  have HF : Hid (∀ x : World, Below w.heap.size w x → Calls Tryd.prog 8 #[.slice A l.length cap] x fun e w' => e = .returned (.bool (few l)) ∧ Below x.heap.size x w') := fun x hx => few_any w.heap.size A cap l x (hr.belowB hx) hok (by omega)
  have HR := Lib.hid hr
  have HR' := Lib.hid hr'
  have HOK := Lib.hid hok
  have H64 : Hid (∀ t ∈ tags, t < 18446744073709551616) := fun t ht => h64 t ht
  have HL : Hid (l.length ≤ cap ∧ cap ≤ 9223372036854775807) := ⟨hl, hc⟩
  clear hT hr hr' hok h64
  generalize hfa : few l = fa at HF
  have HFA := Lib.hid hfa
  clear hfa
  cases fa with
  | false =>
    go_enter Tryd.func5, Tryd.ntmps5
    go_wp2_with fail
    refine (HA.out).mono ?_
    rintro e w1 ⟨rfl, hb2⟩
    replace hb1 := bb hb1 hb2
    clear hb2
    go_wp2_with fail
    refine (HF.out _ hb1).mono ?_
    rintro e w2 ⟨rfl, hb2⟩
    replace hb1 := bb hb1 hb2
    clear hb2
    go_wp2
    go_ret
    exact ⟨rfl, hb1⟩
  | true =>
  by_cases h40 : 40 < tags.length
  · have h40i : (40 : Int) < (tags.length : Int) := by omega
    go_enter Tryd.func5, Tryd.ntmps5
    go_wp2_with fail
    refine (HA.out).mono ?_
    rintro e w1 ⟨rfl, hb2⟩
    replace hb1 := bb hb1 hb2
    clear hb2
    go_wp2_with fail
    refine (HF.out _ hb1).mono ?_
    rintro e w2 ⟨rfl, hb2⟩
    replace hb1 := bb hb1 hb2
    clear hb2
    go_wp2
    go_ret
    exact ⟨rfl, hb1⟩
  · have h40i : ¬ (40 : Int) < (tags.length : Int) := by omega
    obtain ⟨ht3, h60⟩ := few_ok HFA.out
    have HM : Hid (∀ x : World, Below w.heap.size w x → Calls Tryd.prog 9 #[.slice A l.length cap] x (MakeEnd x l.length)) := fun x hx => make_any w.heap.size A cap l x hx.size (HR.out.belowB hx) (fun x hx => ⟨HOK.out x hx, ht3 x hx⟩) h60 HL.out.1 HL.out.2
    clear ht3
    go_enter Tryd.func5, Tryd.ntmps5
    go_wp2_with fail
    refine (HA.out).mono ?_
    rintro e w1 ⟨rfl, hb2⟩
    replace hb1 := bb hb1 hb2
    clear hb2
    go_wp2_with fail
    refine (HF.out _ hb1).mono ?_
    rintro e w2 ⟨rfl, hb2⟩
    replace hb1 := bb hb1 hb2
    clear hb2
    go_wp2_with fail
    refine (HM.out _ hb1).mono ?_
    rintro e w4 ⟨f, Af, cf, rfl, hfc, hfk, hfs, hb2⟩
    replace hb1 := bb hb1 hb2
    have HFC : Hid (f.count ≤ 1000 ∧ f.count ≤ 1000000) := by constructor <;> omega
    have HFK : Hid (f.All FKd) := hfk.imp fun _ _ _ _ h => h.kd
    have HFS : Hid (SlV w4 (fun _ => True) (.slice Af f.len cf) f) := hfs.imp fun _ _ => trivial
    have hx : Below w4.heap.size w4 w4 := b0
    have hfl := Nat.le_trans f.len_count HFC.out.2
    clear hb2 hfc hfk hfs HM
    have HC1 : Hid (∀ x : World, Below w4.heap.size w4 x → Calls Tryd.prog 14 #[.slice Af f.len cf] x fun e w' => e = .returned (.int .i64 (fcheck f 0 0 : Int)) ∧ Below x.heap.size x w') := fun x hx => check_of _ f _ x (HFS.out.below hx) HFK.out HFC.out.2
    by_cases hck : fcheck f 0 0 = 0
    · have HCK := Lib.hid hck
      have e0 : ((fcheck f 0 0 : Int)) = 0 := by omega
      rw [e0] at HC1
      clear hck e0
      go_wp2_with fail
      refine (HC1.out _ hx).mono ?_
      rintro e w5 ⟨rfl, hb2⟩
      replace hb1 := bb hb1 hb2
      replace hx := bb hx hb2
      have HSP := Lib.hid (split_any Af cf f A' cap' tags _ w5 (HFS.out.below hx) (HR'.out.below hb1) HFC.out.2 (by omega) H64.out HFK.out)
      clear hb2 HC1
      go_wp2_with fail
      refine HSP.out.mono ?_
      rintro e w6 ⟨B1, B2, c1, c2, rfl, hs1, hs2, hb2⟩
      replace hb1 := bb hb1 hb2
      replace hx := bb hx hb2
      have HS1 : Hid (SlV w6 (fun _ => True) (.slice B1 (fpick tags true f).len c1) (fpick tags true f)) := hs1.imp fun _ _ => trivial
      have HS2 : Hid (SlV w6 (fun _ => True) (.slice B2 (fpick tags false f).len c2) (fpick tags false f)) := hs2.imp fun _ _ => trivial
      have hy : Below w6.heap.size w6 w6 := b0
      have hn1 := fpick_count tags true f
      have hn2 := fpick_count tags false f
      have hln1 := Nat.le_trans (fpick_len tags true f) hfl
      have HN : Hid ((fpick tags true f).count ≤ 1000 ∧ (fpick tags false f).count ≤ 1000) := by have := HFC.out.1; constructor <;> omega
      have HK1 := Lib.hid (fpick_all tags true HFK.out)
      have HK2 := Lib.hid (fpick_all tags false HFK.out)
      have HMA : Hid (fmerge [fpick tags true f, fpick tags false f] = (f, 0)) := pick_back tags true HFK.out HCK.out
      have HMB : Hid (fmerge [fpick tags false f, fpick tags true f] = (f, 0)) := pick_back tags false HFK.out HCK.out
      have HMC : Hid (((fmerge [f, fpick tags true f]).2 = 14) ↔ 0 < (fpick tags true f).len) := pick_twice tags HFK.out HCK.out
      have HE1 : Hid (fcheck (fpick tags true f) 0 0 = 0) := fpick_check tags true HFK.out HCK.out
      have HE2 : Hid (fcheck (fpick tags false f) 0 0 = 0) := fpick_check tags false HFK.out HCK.out
      clear hb2 hs1 hs2 HSP hn1 hn2 HR HR' H64
      generalize fpick tags true f = F1 at *
      generalize fpick tags false f = F2 at *
      have HD1 : Hid (∀ x : World, Below w6.heap.size w6 x → Calls Tryd.prog 14 #[.slice B1 F1.len c1] x fun e w' => e = .returned (.int .i64 0) ∧ Below x.heap.size x w') := fun x hx => by
        have := check_of _ F1 _ x (HS1.out.below hx) HK1.out (by have := HN.out; omega)
        rwa [HE1.out] at this
      have HD2 : Hid (∀ x : World, Below w6.heap.size w6 x → Calls Tryd.prog 14 #[.slice B2 F2.len c2] x fun e w' => e = .returned (.int .i64 0) ∧ Below x.heap.size x w') := fun x hx => by
        have := check_of _ F2 _ x (HS2.out.below hx) HK2.out (by have := HN.out; omega)
        rwa [HE2.out] at this
      have HM1 := Lib.hid (merge_two HS1.out HS2.out HK1.out HK2.out (by have := HN.out; omega) HMA.out)
      go_wp2_with fail
      refine HM1.out.mono ?_
      rintro e w7 ⟨X, cX, rfl, hsX, hb2⟩
      replace hb1 := bb hb1 hb2
      replace hx := bb hx hb2
      replace hy := bb hy hb2
      have HSX := Lib.hid hsX
      have hp : Below w7.heap.size w7 w7 := b0
      have HM2 := Lib.hid (merge_two (HS2.out.below hy) (HS1.out.below hy) HK2.out HK1.out (by have := HN.out; omega) HMB.out)
      clear hb2 hsX HM1
      go_wp2_with fail
      refine HM2.out.mono ?_
      rintro e w8 ⟨Y, cY, rfl, hsY, hb2⟩
      replace hb1 := bb hb1 hb2
      replace hx := bb hx hb2
      replace hy := bb hy hb2
      replace hp := bb hp hb2
      have HSY := Lib.hid hsY
      have hq : Below w8.heap.size w8 w8 := b0
      have HM3 := Lib.hid (merge_two (r := fmerge [f, F1]) (HFS.out.below hx) (HS1.out.below hy) HFK.out HK1.out (by have := HN.out; have := HFC.out; omega) rfl)
      clear hb2 hsY HM2
      generalize fmerge [f, F1] = R at *
      obtain ⟨R, E⟩ := R
      go_wp2_with fail
      refine HM3.out.mono ?_
      rintro e w9 ⟨Z, cZ, rfl, _, hb2⟩
      replace hb1 := bb hb1 hb2
      replace hx := bb hx hb2
      replace hy := bb hy hb2
      replace hp := bb hp hb2
      replace hq := bb hq hb2
      have HT1 : Hid (∀ x : World, Below w7.heap.size w7 x → Below w4.heap.size w4 x → Calls Tryd.prog 21 #[.slice X f.len cX, .slice Af f.len cf] x fun e w' => e = .returned (.bool true) ∧ Below x.heap.size x w') := fun x hx hy => by
        have := same_of _ _ f f _ x (HSX.out.below hx) (HFS.out.below hy) HFC.out.2 HFC.out.2
        rwa [same_self] at this
      have HT2 : Hid (∀ x : World, Below w8.heap.size w8 x → Below w4.heap.size w4 x → Calls Tryd.prog 21 #[.slice Y f.len cY, .slice Af f.len cf] x fun e w' => e = .returned (.bool true) ∧ Below x.heap.size x w') := fun x hx hy => by
        have := same_of _ _ f f _ x (HSY.out.below hx) (HFS.out.below hy) HFC.out.2 HFC.out.2
        rwa [same_self] at this
      have HEQ : Hid ((((E : Int) == 14) == decide (0 < F1.len)) = true) := by
        have h1 := HMC.out
        show _ = _
        by_cases h : 0 < F1.len
        · have h2 := h1.2 h
          have h3 : ((E : Int) == 14) = true := by rw [beq_iff_eq]; omega
          rw [h3, decide_eq_true h]
          rfl
        · have h2 : ¬ E = 14 := fun e => h (h1.1 e)
          have h3 : ((E : Int) == 14) = false := by rw [beq_eq_false_iff_ne]; omega
          rw [h3, decide_eq_false h]
          rfl
      clear hb2 HM3 HMA HMB HMC
      go_wp2_with fail
      refine (HT1.out _ hp hx).mono ?_
      rintro e w10 ⟨rfl, hb2⟩
      replace hb1 := bb hb1 hb2
      replace hx := bb hx hb2
      replace hy := bb hy hb2
      replace hp := bb hp hb2
      replace hq := bb hq hb2
      clear hb2
      go_wp2_with fail
      refine (HT2.out _ hq hx).mono ?_
      rintro e w11 ⟨rfl, hb2⟩
      replace hb1 := bb hb1 hb2
      replace hx := bb hx hb2
      replace hy := bb hy hb2
      replace hp := bb hp hb2
      replace hq := bb hq hb2
      clear hb2
      go_wp2_with fail
      refine (HD1.out _ hy).mono ?_
      rintro e w12 ⟨rfl, hb2⟩
      replace hb1 := bb hb1 hb2
      replace hx := bb hx hb2
      replace hy := bb hy hb2
      replace hp := bb hp hb2
      replace hq := bb hq hb2
      clear hb2
      go_wp2_with fail
      refine (HD2.out _ hy).mono ?_
      rintro e w13 ⟨rfl, hb2⟩
      replace hb1 := bb hb1 hb2
      replace hx := bb hx hb2
      replace hy := bb hy hb2
      replace hp := bb hp hb2
      replace hq := bb hq hb2
      clear hb2
      have HEE : Hid (Ending.returned (Value.bool (((E : Int) == 14) == decide (0 < F1.len))) = .returned (.bool true)) := by
        show _ = _
        rw [HEQ.out]
      go_wp2
      go_ret
      exact ⟨HEE.out, hb1⟩
    · have hgi : (((fcheck f 0 0 : Nat) : Int) != 0) = true := by rw [bne_iff_ne]; omega
      generalize fcheck f 0 0 = E at *
      go_wp2_with fail
      refine (HC1.out _ hx).mono ?_
      rintro e w5 ⟨rfl, hb2⟩
      replace hb1 := bb hb1 hb2
      clear hb2
      go_wp2
      go_ret
      exact ⟨rfl, hb1⟩
end Go.Proofs.YtigbifiicbghpaaDoor
end

section
/-
  The walk of the statement of layer 10 on the one of any tag, those of some, the others, and all tags. Conditions: numbers within their kinds; Go's tables of UTF-8 lie in memory.
-/
namespace Go.Proofs.YtigbifiicbghpaaDoor
open Go.RowKit Go.PM
set_option maxRecDepth 100000
set_option maxHeartbeats 4000000
attribute [local go_sem ↓] Go.wp_at_zero Go.wp_at_succ

theorem fpick_none {t : Nat} : ∀ {g : Fs}, (∀ x ∈ g.toL, x.tag ≠ t) → fpick [t] true g = .nil
  | .nil, _ => rfl
  | .cons u y n s i r, h => by
    have h1 : u ≠ t := h ⟨u, y, n, s, i⟩ (by simp [Fs.toL])
    rw [fpick, if_neg (by simpa using h1), fpick_none fun x hx => h x (by simp [Fs.toL, hx])]
theorem fpick_one {f : Fs} {k t n : Nat} {y : Int} {s : ByteArray} {i : Fs} (h : fcheckP f 0 0) (hd : f.drop k = .cons t y n s i (f.drop (k + 1))) : fpick [t] true f = .cons t y n s i .nil := by
  have h1 := (check_rise h).1
  have h2 := Fs.take_drop f k
  rw [← h2, toL_app, hd, Fs.toL, List.pairwise_append] at h1
  have h3 := (List.pairwise_cons.1 h1.2.1).1
  rw [← h2, fpick_app, hd, fpick, fpick_none (g := f.take k) (fun x hx => by have := h1.2.2 x hx _ (List.mem_cons_self); simp only at this; omega), fpick_none (g := f.drop (k + 1)) (fun x hx => by have := h3 x hx; simp only at this; omega), if_pos (by simp)]
  rfl
theorem pparts_walk (A A' : Option Addr) (cap cap' : Nat) (l : List One) (tg : Nat) (tags : List Nat) (w : World) (hT : Tabs w) (hr : OnesRd w.heap.size w A l) (hr' : Rd w A' (u64s tags)) (hok : ∀ x ∈ l, x.ok) (h64 : ∀ t ∈ tags, In64 t)
    (hl : l.length ≤ cap) (hc : cap ≤ 9223372036854775807) (htl : tags.length ≤ 9223372036854775807) :
    Calls Tryd.prog 4 #[.slice A l.length cap, .int .u64 (tg : Int), .slice A' tags.length cap'] w fun e w' => e = .returned (.bool true) ∧ Below w.heap.size w w' := by
  have HA := Lib.hid (awake10 w hT)
  have hb1 : Below w.heap.size w w := b0
  have HF : Hid (∀ x : World, Below w.heap.size w x → Calls Tryd.prog 8 #[.slice A l.length cap] x fun e w' => e = .returned (.bool (few l)) ∧ Below x.heap.size x w') := fun x hx => few_any w.heap.size A cap l x (hr.belowB hx) hok (by omega)
  have HR := Lib.hid hr
  have HR' := Lib.hid hr'
  have HOK := Lib.hid hok
  have H64 : Hid (∀ t ∈ tags, t < 18446744073709551616) := fun t ht => h64 t ht
  have HL : Hid (l.length ≤ cap ∧ cap ≤ 9223372036854775807) := ⟨hl, hc⟩
  clear hT hr hr' hok h64
  generalize hfa : few l = fa at HF
  have HFA := Lib.hid hfa
  clear hfa
  cases fa with
  | false =>
    go_enter Tryd.func4, Tryd.ntmps4
    go_wp2_with fail
    refine (HA.out).mono ?_
    rintro e w1 ⟨rfl, hb2⟩
    replace hb1 := bb hb1 hb2
    clear hb2
    go_wp2_with fail
    refine (HF.out _ hb1).mono ?_
    rintro e w2 ⟨rfl, hb2⟩
    replace hb1 := bb hb1 hb2
    clear hb2
    go_wp2
    go_ret
    exact ⟨rfl, hb1⟩
  | true =>
  by_cases h40 : 40 < tags.length
  · have h40i : (40 : Int) < (tags.length : Int) := by omega
    go_enter Tryd.func4, Tryd.ntmps4
    go_wp2_with fail
    refine (HA.out).mono ?_
    rintro e w1 ⟨rfl, hb2⟩
    replace hb1 := bb hb1 hb2
    clear hb2
    go_wp2_with fail
    refine (HF.out _ hb1).mono ?_
    rintro e w2 ⟨rfl, hb2⟩
    replace hb1 := bb hb1 hb2
    clear hb2
    go_wp2
    go_ret
    exact ⟨rfl, hb1⟩
  · have h40i : ¬ (40 : Int) < (tags.length : Int) := by omega
    obtain ⟨j0, hj0, hk0, hk1, hk2⟩ := info_parts info_pu64
    obtain ⟨ht3, h60⟩ := few_ok HFA.out
    have HM : Hid (∀ x : World, Below w.heap.size w x → Calls Tryd.prog 9 #[.slice A l.length cap] x (MakeEnd x l.length)) := fun x hx => make_any w.heap.size A cap l x hx.size (HR.out.belowB hx) (fun x hx => ⟨HOK.out x hx, ht3 x hx⟩) h60 HL.out.1 HL.out.2
    clear ht3
    go_enter Tryd.func4, Tryd.ntmps4
    go_wp2_with fail
    refine (HA.out).mono ?_
    rintro e w1 ⟨rfl, hb2⟩
    replace hb1 := bb hb1 hb2
    clear hb2
    go_wp2_with fail
    refine (HF.out _ hb1).mono ?_
    rintro e w2 ⟨rfl, hb2⟩
    replace hb1 := bb hb1 hb2
    clear hb2
    go_wp2_with fail
    refine (HM.out _ hb1).mono ?_
    rintro e w4 ⟨f, Af, cf, rfl, hfc, hfk, hfs, hb2⟩
    replace hb1 := bb hb1 hb2
    have HFC : Hid (f.count ≤ 1000 ∧ f.count ≤ 1000000) := by constructor <;> omega
    have HFK : Hid (f.All FKd) := hfk.imp fun _ _ _ _ h => h.kd
    have HFS : Hid (SlV w4 (fun _ => True) (.slice Af f.len cf) f) := hfs.imp fun _ _ => trivial
    have hx : Below w4.heap.size w4 w4 := b0
    have hfl := Nat.le_trans f.len_count HFC.out.2
    clear hb2 hfc hfk hfs HM
    have HC1 : Hid (∀ x : World, Below w4.heap.size w4 x → Calls Tryd.prog 14 #[.slice Af f.len cf] x fun e w' => e = .returned (.int .i64 (fcheck f 0 0 : Int)) ∧ Below x.heap.size x w') := fun x hx => check_of _ f _ x (HFS.out.below hx) HFK.out HFC.out.2
    by_cases hck : fcheck f 0 0 = 0
    · have HCK : Hid (fcheckP f 0 0) := (fcheck_iff f 0 0 HFK.out (by omega)).1 hck
      have e0 : ((fcheck f 0 0 : Int)) = 0 := by omega
      rw [e0] at HC1
      clear hck e0
      go_wp2_with fail
      refine (HC1.out _ hx).mono ?_
      rintro e w5 ⟨rfl, hb2⟩
      replace hb1 := bb hb1 hb2
      replace hx := bb hx hb2
      have HSP := Lib.hid (split_any Af cf f A' cap' tags _ w5 (HFS.out.below hx) (HR'.out.below hb1) HFC.out.2 (by omega) H64.out HFK.out)
      clear hb2 HC1
      go_wp2_with fail
      refine HSP.out.mono ?_
      rintro e w6 ⟨B1, B2, c1, c2, rfl, hs1, hs2, hb2⟩
      replace hb1 := bb hb1 hb2
      replace hx := bb hx hb2
      have HS1 : Hid (SlV w6 (fun _ => True) (.slice B1 (fpick tags true f).len c1) (fpick tags true f)) := hs1.imp fun _ _ => trivial
      have HS2 : Hid (SlV w6 (fun _ => True) (.slice B2 (fpick tags false f).len c2) (fpick tags false f)) := hs2.imp fun _ _ => trivial
      have hy : Below w6.heap.size w6 w6 := b0
      have HOFa := Lib.hid (of_any f.count Af cf f _ w6 (Nat.le_refl _) (HFS.out.below hx) HFC.out.2)
      clear hb2 hs1 hs2 HSP
      go_wp2_with fail
      refine HOFa.out.mono ?_
      rintro e w7 ⟨Ap, cp, rfl, hps, hb2⟩
      replace hb1 := bb hb1 hb2
      replace hx := bb hx hb2
      replace hy := bb hy hb2
      have HRS := Lib.hid (rsplit_any Ap cp f A' cap' tags _ w7 hps (HR'.out.below hb1) HFC.out.2 (by omega))
      clear hb2 hps HOFa
      go_wp2_with fail
      refine HRS.out.mono ?_
      rintro e w8 ⟨X1, X2, cx1, cx2, rfl, hs1, hs2, hb2⟩
      replace hb1 := bb hb1 hb2
      replace hx := bb hx hb2
      replace hy := bb hy hb2
      have HX1 := Lib.hid hs1
      have HX2 := Lib.hid hs2
      have hp : Below w8.heap.size w8 w8 := b0
      have HOFb := Lib.hid (of_any f.count Af cf f _ w8 (Nat.le_refl _) (HFS.out.below hx) HFC.out.2)
      clear hb2 hs1 hs2 HRS
      go_wp2_with fail
      refine HOFb.out.mono ?_
      rintro e w9 ⟨Aq, cq, rfl, hqs, hb2⟩
      replace hb1 := bb hb1 hb2
      replace hx := bb hx hb2
      replace hy := bb hy hb2
      replace hp := bb hp hb2
      have hbo := ba (a := w9) b0 (.cells #[.int .u64 (tg : Int)] 39)
      have hrd : Rd (w9.alloc (.cells #[.int .u64 (tg : Int)] 39)) (some ⟨w9.heap.size, 0, none⟩) (u64s [tg]) := by
        refine .inr ⟨_, _, rfl, by simp, fun j u hj => ?_⟩
        have := World.news_of_block (cs := #[.int .u64 (tg : Int)]) (t := 39) (fr := (0, 0)) (heap_alloc_new w9 (.cells #[.int .u64 (tg : Int)] 39)) j u hj
        rwa [add_at, ← Nat.zero_add j] at this
      have HRO : Hid (Calls Tryd.prog 16 #[.slice Aq f.len cq, .slice (some ⟨w9.heap.size, 0, none⟩) 1 1] (w9.alloc (.cells #[.int .u64 (tg : Int)] 39)) (RSplitEnd (w9.alloc (.cells #[.int .u64 (tg : Int)] 39)) [tg] f)) :=
        rsplit_any Aq cq f _ 1 [tg] _ _ (hqs.below hbo) hrd HFC.out.2 (by simp)
      have HBO := Lib.hid hbo
      clear hb2 hqs HOFb hrd hbo
      go_wp2_with fail
      refine HRO.out.mono ?_
      rintro e w10 ⟨O1, O2, co1, co2, rfl, hs1, _, hb2⟩
      replace hb2 := bb HBO.out hb2
      replace hb1 := bb hb1 hb2
      replace hx := bb hx hb2
      replace hy := bb hy hb2
      replace hp := bb hp hb2
      have HO1 := Lib.hid hs1
      have hq : Below w10.heap.size w10 w10 := b0
      clear hb2 hs1 HRO HBO
      go_wp2_with fail
      refine (find_any Af cf f tg _ w10 (HFS.out.below hx) HFC.out.2).mono ?_
      rintro e w11 ⟨hb2, hor⟩
      replace hb1 := bb hb1 hb2
      replace hx := bb hx hb2
      replace hy := bb hy hb2
      replace hp := bb hp hb2
      replace hq := bb hq hb2
      clear hb2
      rcases hor with ⟨hno, rfl⟩ | ⟨k, n, y, s, i, Ai, ci, hdc, rfl, hsi⟩
      · have e1 : fpick [tg] true f = .nil := fpick_none hno
        rw [e1] at HO1
        clear hno
        go_wp2_with fail
        have hm2 := BlkAt.made (w11.alloc (.cells #[.int .u64 0, .int .i64 0, .int .u64 0, .string ByteArray.empty, .slice none 0 0] 47)) 47 #[.int .u64 0, .int .i64 0, .int .u64 0, .string ByteArray.empty, .slice none 0 0]
        rw [World.size_alloc] at hm2
        have hbo2 : Below w11.heap.size w11 ((w11.alloc (.cells #[.int .u64 0, .int .i64 0, .int .u64 0, .string ByteArray.empty, .slice none 0 0] 47)).alloc (.cells #[.int .u64 0, .int .i64 0, .int .u64 0, .string ByteArray.empty, .slice none 0 0] 47)) := ba (ba b0 _) _
        have HOF : Hid (Calls Tryd.prog 10 #[.slice (some ⟨w11.heap.size + 1, 0, none⟩) 1 1] ((w11.alloc (.cells #[.int .u64 0, .int .i64 0, .int .u64 0, .string ByteArray.empty, .slice none 0 0] 47)).alloc (.cells #[.int .u64 0, .int .i64 0, .int .u64 0, .string ByteArray.empty, .slice none 0 0] 47)) (CopyEnd ((w11.alloc (.cells #[.int .u64 0, .int .i64 0, .int .u64 0, .string ByteArray.empty, .slice none 0 0] 47)).alloc (.cells #[.int .u64 0, .int .i64 0, .int .u64 0, .string ByteArray.empty, .slice none 0 0] 47)) (Fs.cons 0 0 0 ByteArray.empty .nil .nil))) :=
          of_any _ _ 1 (Fs.cons 0 0 0 ByteArray.empty .nil .nil) (fun _ => True) _ (Nat.le_refl _) (slv_blk (f := (Fs.cons 0 0 0 ByteArray.empty .nil .nil)) hm2 ⟨rfl, rfl, rfl, rfl, SlV.nil _ _ _ _, trivial⟩ trivial (by simp [Fs.len])) (by decide)
        clear hm2
        refine HOF.out.mono ?_
        rintro e w12 ⟨Az, cz, rfl, hzs, hb2⟩
        replace hb2 := bb hbo2 hb2
        replace hb1 := bb hb1 hb2
        replace hx := bb hx hb2
        replace hy := bb hy hb2
        replace hp := bb hp hb2
        replace hq := bb hq hb2
        have HZ : Hid (SlV w12 (fun _ => True) (.slice Az 1 cz) (Fs.cons 0 0 0 ByteArray.empty .nil .nil)) := hzs.imp fun _ _ => trivial
        clear hb2 hzs hbo2 HOF
        have hlz : ((Fs.cons 0 0 0 ByteArray.empty .nil .nil)).len = 1 := rfl
        rw [hlz]
        have hm3 := BlkAt.made w12 51 #[.int .u64 0, .int .i64 0, .int .u64 0, .string ByteArray.empty, .slice none 0 0]
        have HSM : Hid (Calls Tryd.prog 13 #[.slice Az 1 cz, .slice (some ⟨w12.heap.size, 0, none⟩) 1 1] (w12.alloc (.cells #[.int .u64 0, .int .i64 0, .int .u64 0, .string ByteArray.empty, .slice none 0 0] 51)) fun e w' => e = .returned (.bool true) ∧ Below (w12.alloc (.cells #[.int .u64 0, .int .i64 0, .int .u64 0, .string ByteArray.empty, .slice none 0 0] 51)).heap.size (w12.alloc (.cells #[.int .u64 0, .int .i64 0, .int .u64 0, .string ByteArray.empty, .slice none 0 0] 51)) w') := by
          have := rsame_any8 _ Az (some ⟨w12.heap.size, 0, none⟩) cz 1 (Fs.cons 0 0 0 ByteArray.empty .nil .nil) (Fs.cons 0 0 0 ByteArray.empty .nil .nil) (fun _ => True) _ (Nat.le_refl _) (HZ.out.below (ba b0 _)) (slv_blk (f := (Fs.cons 0 0 0 ByteArray.empty .nil .nil)) hm3 ⟨rfl, rfl, rfl, rfl, SlV.nil _ _ _ _, trivial⟩ trivial (by simp [Fs.len])) (by decide) (by decide)
          rwa [same_self] at this
        clear hm3
        go_wp2_with fail
        refine HSM.out.mono ?_
        rintro e w13 ⟨rfl, hb2⟩
        replace hb2 := bb (ba b0 _) hb2
        replace hb1 := bb hb1 hb2
        replace hx := bb hx hb2
        replace hy := bb hy hb2
        replace hp := bb hp hb2
        clear hb2 hq HSM HZ HO1
        have hz : Below w13.heap.size w13 w13 := b0
        have H0 : Hid (w13.ownsRow w13.heap.size 39 1 (.slice none 0 0) 0 (u64s ((ftags f).take 0))) := World.ownsRow_nil _ _ _ _
        have HB1 := Lib.hid hb1
        have HX := Lib.hid hx
        have HY := Lib.hid hy
        have HP := Lib.hid hp
        clear hb1 hx hy hp
        go_wp2_with fail
        go_loopg [16, 92] f.len (fun gk vv ki wr => ∃ k : Nat, k ≤ f.len ∧ f.len - k ≤ gk ∧ ki = .int .i64 (k : Int) ∧ Hid (wr.ownsRow w13.heap.size 39 1 vv k (u64s ((ftags f).take k))) ∧ Below w13.heap.size w13 wr)
        case atStart => exact ⟨0, Nat.zero_le _, by omega, rfl, H0, hz⟩
        case round =>
          obtain ⟨k, hkl, hgk, rfl, HO, hb⟩ := hrel
          have HB := Lib.hid hb
          by_cases hlt : k < f.len
          · obtain ⟨t, ty, tn, ts, ti, hdc, htk⟩ := f.drop_cons k hlt
            obtain ⟨A0, c0, hv, hc0, hor⟩ := HFS.out.below (bb HX.out hb)
            injection hv with hv1 hv2 hv3
            subst hv1 hv3
            rcases hor with h0 | ⟨b, o, rfl, hIb, hbl, hat⟩
            · omega
            have hak := hat.drop k
            have hdt := toL_drop hdc
            rw [hdc] at hak
            obtain ⟨d0, d1, d2, d3, ⟨Bi, di, d4, _, _⟩, _⟩ := hak
            have HTK : Hid (u64s ((ftags f).take (k + 1)) = u64s ((ftags f).take k) ++ [.int .u64 (t : Int)]) := by
              show _ = _
              have hkt : k < f.toL.length := by rw [toL_len]; exact hlt
              rw [List.getElem?_eq_getElem hkt] at hdt
              injection hdt with hdt
              rw [← List.take_append_getElem (show k < (ftags f).length by rw [ftags_len]; exact hlt)]
              simp [u64s, ftags, hdt]
            have hwz := hb.size
            clear hb hdt hat hdc htk hv2
            go_wp2_with (at_builtin; go_must (refine wpList_append_own _ rfl _ _ 40 rfl w13.heap.size 39 j0 (.int .u64 0) 1 8 Tryd.underlying40 hj0 hk0 hk1 hk2 rfl (by decide) _ _ _ rfl ((HO.out.alloc _).alloc _) ⟨wr.heap.size + 1, 0, none⟩ 1 1 [.int .u64 (t : Int)] rfl rfl (by simpa using one_new (wr.alloc (.cells #[.int .u64 (t : Int), .int .i64 ty, .int .u64 (tn : Int), .string ts, .slice Bi ti.len di] 47)) _ _) (one_cell_int _ _) (by unfold maxLen; omega) (by omega) (by simp; omega) ?_); intro v1 w2 hown2 hg2 _)
            go_roundg (f.len - (k + 1))
            case measure => omega
            case rel =>
              refine ⟨k + 1, by omega, Nat.le_refl _, by go_num, ?_, below_append (ba (ba HB.out _) _) ((HO.out.alloc _).alloc _) hg2⟩
              show World.ownsRow _ _ _ _ _ _ _
              rw [HTK.out]
              exact hown2
          · obtain rfl : k = f.len := by omega
            have ho := HO.out
            rw [List.take_of_length_le (by rw [ftags_len]; exact Nat.le_refl _)] at ho
            obtain ⟨G2, d2, rfl, hrd, hn, _⟩ := PM.Rd.own ho
            have HG : Hid (Rd wr G2 (u64s (ftags f))) := hrd
            have hb1 := bb HB1.out hb
            have hx := bb HX.out hb
            have hy := bb HY.out hb
            have hp := bb HP.out hb
            have hq : Below wr.heap.size wr wr := b0
            clear ho hrd hn hb HO HB
            have hpc1 := Nat.le_trans (fpick_count tags true f) HFC.out.2
            have hpc2 := Nat.le_trans (fpick_count tags false f) HFC.out.2
            have HWT : Hid (∀ x : World, Below w4.heap.size w4 x → Below w.heap.size w x → Calls Tryd.prog 18 #[.slice Af f.len cf, .slice A' tags.length cap'] x fun e w' => ∃ (A' : Option Addr) (c' : Nat), e = .returned (.slice A' (fpick tags false f).len c') ∧
                SlV w' (x.heap.size ≤ ·) (.slice A' (fpick tags false f).len c') (fpick tags false f) ∧ Below x.heap.size x w') := fun x hx hy => without_any Af cf f A' cap' tags _ x (HFS.out.below hx) (HR'.out.below hy) HFC.out.2 (by omega) H64.out HFK.out
            have HTG : Hid (∀ x : World, Below w4.heap.size w4 x → Calls Tryd.prog 20 #[.slice Af f.len cf] x fun e w' => ∃ (A' : Option Addr) (c' : Nat), e = .returned (.slice A' f.len c') ∧ PM.Rd w' A' (u64s (ftags f)) ∧ f.len ≤ c' ∧ Below x.heap.size x w') := fun x hx => tags_any Af cf f _ x (HFS.out.below hx) hfl
            have HEQ : Hid (∀ (x : World) (K2 : Option Addr) (k2 : Nat), Rd x K2 (u64s (ftags f)) → Rd x G2 (u64s (ftags f)) → Calls Tryd.prog 19 #[.slice K2 f.len k2, .slice G2 f.len d2] x fun e w' => e = .returned (.bool true) ∧ Below x.heap.size x w') := fun x K2 k2 h1 h2 => by
              have := equ64 K2 G2 k2 d2 (ftags f) x h1 h2 (by rw [ftags_len]; exact hfl)
              rwa [ftags_len] at this
            have HN := Lib.hid (And.intro hpc1 hpc2)
            clear hpc1 hpc2 HFK HFC HFS H64 HR' HR HOK
            generalize fpick tags true f = F1 at *
            generalize fpick tags false f = F2 at *
            go_wp2_with fail
            refine (of_any F1.count B1 c1 F1 _ _ (Nat.le_refl _) (HS1.out.below hy) HN.out.1).mono ?_
            rintro e v1 ⟨P1, p1, rfl, hps, hb2⟩
            replace hb1 := bb hb1 hb2
            replace hx := bb hx hb2
            replace hy := bb hy hb2
            replace hp := bb hp hb2
            replace hq := bb hq hb2
            clear hb2
            have HP1 : Hid (Calls Tryd.prog 13 #[.slice P1 F1.len p1, .slice X1 F1.len cx1] v1 fun e w' => e = .returned (.bool true) ∧ Below v1.heap.size v1 w') := by
              have := rsame_any8 _ P1 X1 p1 cx1 F1 F1 (fun _ => True) v1 (Nat.le_refl _) (hps.imp fun _ _ => trivial) (HX1.out.below hp) HN.out.1 HN.out.1
              rwa [same_self] at this
            clear hps
            go_wp2_with fail
            refine HP1.out.mono ?_
            rintro e v2 ⟨rfl, hb2⟩
            replace hb1 := bb hb1 hb2
            replace hx := bb hx hb2
            replace hy := bb hy hb2
            replace hp := bb hp hb2
            replace hq := bb hq hb2
            clear hb2
            go_wp2_with fail
            refine (of_any F2.count B2 c2 F2 _ _ (Nat.le_refl _) (HS2.out.below hy) HN.out.2).mono ?_
            rintro e v3 ⟨P2, p2, rfl, hps, hb2⟩
            replace hb1 := bb hb1 hb2
            replace hx := bb hx hb2
            replace hy := bb hy hb2
            replace hp := bb hp hb2
            replace hq := bb hq hb2
            clear hb2
            have HP2 : Hid (Calls Tryd.prog 13 #[.slice P2 F2.len p2, .slice X2 F2.len cx2] v3 fun e w' => e = .returned (.bool true) ∧ Below v3.heap.size v3 w') := by
              have := rsame_any8 _ P2 X2 p2 cx2 F2 F2 (fun _ => True) v3 (Nat.le_refl _) (hps.imp fun _ _ => trivial) (HX2.out.below hp) HN.out.2 HN.out.2
              rwa [same_self] at this
            clear hps
            go_wp2_with fail
            refine HP2.out.mono ?_
            rintro e v4 ⟨rfl, hb2⟩
            replace hb1 := bb hb1 hb2
            replace hx := bb hx hb2
            replace hy := bb hy hb2
            replace hp := bb hp hb2
            replace hq := bb hq hb2
            clear hb2
            go_wp2_with fail
            refine (HWT.out _ hx hb1).mono ?_
            rintro e v5 ⟨P3, p3, rfl, hps, hb2⟩
            replace hb1 := bb hb1 hb2
            replace hx := bb hx hb2
            replace hy := bb hy hb2
            replace hp := bb hp hb2
            replace hq := bb hq hb2
            clear hb2
            have HO3 := Lib.hid (of_any F2.count P3 p3 F2 _ v5 (Nat.le_refl _) hps HN.out.2)
            clear hps
            go_wp2_with fail
            refine HO3.out.mono ?_
            rintro e v6 ⟨P4, p4, rfl, hps, hb2⟩
            replace hb1 := bb hb1 hb2
            replace hx := bb hx hb2
            replace hy := bb hy hb2
            replace hp := bb hp hb2
            replace hq := bb hq hb2
            clear hb2
            have HP4 : Hid (Calls Tryd.prog 13 #[.slice P4 F2.len p4, .slice X2 F2.len cx2] v6 fun e w' => e = .returned (.bool true) ∧ Below v6.heap.size v6 w') := by
              have := rsame_any8 _ P4 X2 p4 cx2 F2 F2 (fun _ => True) v6 (Nat.le_refl _) (hps.imp fun _ _ => trivial) (HX2.out.below hp) HN.out.2 HN.out.2
              rwa [same_self] at this
            clear hps
            go_wp2_with fail
            refine HP4.out.mono ?_
            rintro e v7 ⟨rfl, hb2⟩
            replace hb1 := bb hb1 hb2
            replace hx := bb hx hb2
            replace hy := bb hy hb2
            replace hp := bb hp hb2
            replace hq := bb hq hb2
            clear hb2
            go_wp2_with fail
            refine (HTG.out _ hx).mono ?_
            rintro e v8 ⟨K2, k2, rfl, hrk, _, hb2⟩
            replace hb1 := bb hb1 hb2
            replace hx := bb hx hb2
            replace hy := bb hy hb2
            replace hp := bb hp hb2
            replace hq := bb hq hb2
            clear hb2
            have HQ := Lib.hid (HEQ.out v8 K2 k2 hrk (HG.out.below hq))
            clear hrk
            go_wp2_with fail
            refine HQ.out.mono ?_
            rintro e v9 ⟨rfl, hb2⟩
            replace hb1 := bb hb1 hb2
            replace hx := bb hx hb2
            replace hy := bb hy hb2
            replace hp := bb hp hb2
            replace hq := bb hq hb2
            clear hb2
            go_wp2
            go_ret
            exact ⟨rfl, hb1⟩
      · have e1 := fpick_one HCK.out hdc
        rw [e1] at HO1
        have hl1 : (Fs.cons tg y n s i .nil).len = 1 := rfl
        rw [hl1] at HO1
        rw [e1, hl1]
        clear hdc
        have HSI := Lib.hid hsi
        have HCN : Hid ((Fs.cons tg y n s i .nil).count ≤ 1000000) := by
          have h1 := fpick_count [tg] true f
          rw [e1] at h1
          exact Nat.le_trans h1 HFC.out.2
        clear hsi e1
        go_wp2_with fail
        have hm2 := BlkAt.made (w11.alloc (.cells #[.int .u64 (tg : Int), .int .i64 y, .int .u64 (n : Int), .string s, .slice Ai i.len ci] 47)) 47 #[.int .u64 (tg : Int), .int .i64 y, .int .u64 (n : Int), .string s, .slice Ai i.len ci]
        rw [World.size_alloc] at hm2
        have hbo2 : Below w11.heap.size w11 ((w11.alloc (.cells #[.int .u64 (tg : Int), .int .i64 y, .int .u64 (n : Int), .string s, .slice Ai i.len ci] 47)).alloc (.cells #[.int .u64 (tg : Int), .int .i64 y, .int .u64 (n : Int), .string s, .slice Ai i.len ci] 47)) := ba (ba b0 _) _
        have HOF : Hid (Calls Tryd.prog 10 #[.slice (some ⟨w11.heap.size + 1, 0, none⟩) 1 1] ((w11.alloc (.cells #[.int .u64 (tg : Int), .int .i64 y, .int .u64 (n : Int), .string s, .slice Ai i.len ci] 47)).alloc (.cells #[.int .u64 (tg : Int), .int .i64 y, .int .u64 (n : Int), .string s, .slice Ai i.len ci] 47)) (CopyEnd ((w11.alloc (.cells #[.int .u64 (tg : Int), .int .i64 y, .int .u64 (n : Int), .string s, .slice Ai i.len ci] 47)).alloc (.cells #[.int .u64 (tg : Int), .int .i64 y, .int .u64 (n : Int), .string s, .slice Ai i.len ci] 47)) (Fs.cons tg y n s i .nil))) :=
          of_any _ _ 1 (Fs.cons tg y n s i .nil) (fun _ => True) _ (Nat.le_refl _) (slv_blk (f := (Fs.cons tg y n s i .nil)) hm2 ⟨rfl, rfl, rfl, rfl, (HSI.out.below (ba (ba b0 _) _)).imp fun _ _ => trivial, trivial⟩ trivial (by simp [Fs.len])) HCN.out
        clear hm2
        refine HOF.out.mono ?_
        rintro e w12 ⟨Az, cz, rfl, hzs, hb2⟩
        replace hb2 := bb hbo2 hb2
        replace hb1 := bb hb1 hb2
        replace hx := bb hx hb2
        replace hy := bb hy hb2
        replace hp := bb hp hb2
        replace hq := bb hq hb2
        have HZ : Hid (SlV w12 (fun _ => True) (.slice Az 1 cz) (Fs.cons tg y n s i .nil)) := hzs.imp fun _ _ => trivial
        clear hb2 hzs hbo2 HOF
        have hlz : ((Fs.cons tg y n s i .nil)).len = 1 := rfl
        rw [hlz]
        have HSM : Hid (Calls Tryd.prog 13 #[.slice Az 1 cz, .slice O1 1 co1] w12 fun e w' => e = .returned (.bool true) ∧ Below w12.heap.size w12 w') := by
          have := rsame_any8 _ Az O1 cz co1 (Fs.cons tg y n s i .nil) (Fs.cons tg y n s i .nil) (fun _ => True) _ (Nat.le_refl _) HZ.out (HO1.out.below hq) HCN.out HCN.out
          rwa [same_self] at this
        go_wp2_with fail
        refine HSM.out.mono ?_
        rintro e w13 ⟨rfl, hb2⟩
        replace hb1 := bb hb1 hb2
        replace hx := bb hx hb2
        replace hy := bb hy hb2
        replace hp := bb hp hb2
        clear hb2 hq HSM HZ HO1
        have hz : Below w13.heap.size w13 w13 := b0
        have H0 : Hid (w13.ownsRow w13.heap.size 39 1 (.slice none 0 0) 0 (u64s ((ftags f).take 0))) := World.ownsRow_nil _ _ _ _
        have HB1 := Lib.hid hb1
        have HX := Lib.hid hx
        have HY := Lib.hid hy
        have HP := Lib.hid hp
        clear hb1 hx hy hp
        go_wp2_with fail
        go_loopg [16, 92] f.len (fun gk vv ki wr => ∃ k : Nat, k ≤ f.len ∧ f.len - k ≤ gk ∧ ki = .int .i64 (k : Int) ∧ Hid (wr.ownsRow w13.heap.size 39 1 vv k (u64s ((ftags f).take k))) ∧ Below w13.heap.size w13 wr)
        case atStart => exact ⟨0, Nat.zero_le _, by omega, rfl, H0, hz⟩
        case round =>
          obtain ⟨k, hkl, hgk, rfl, HO, hb⟩ := hrel
          have HB := Lib.hid hb
          by_cases hlt : k < f.len
          · obtain ⟨t, ty, tn, ts, ti, hdc, htk⟩ := f.drop_cons k hlt
            obtain ⟨A0, c0, hv, hc0, hor⟩ := HFS.out.below (bb HX.out hb)
            injection hv with hv1 hv2 hv3
            subst hv1 hv3
            rcases hor with h0 | ⟨b, o, rfl, hIb, hbl, hat⟩
            · omega
            have hak := hat.drop k
            have hdt := toL_drop hdc
            rw [hdc] at hak
            obtain ⟨d0, d1, d2, d3, ⟨Bi, di, d4, _, _⟩, _⟩ := hak
            have HTK : Hid (u64s ((ftags f).take (k + 1)) = u64s ((ftags f).take k) ++ [.int .u64 (t : Int)]) := by
              show _ = _
              have hkt : k < f.toL.length := by rw [toL_len]; exact hlt
              rw [List.getElem?_eq_getElem hkt] at hdt
              injection hdt with hdt
              rw [← List.take_append_getElem (show k < (ftags f).length by rw [ftags_len]; exact hlt)]
              simp [u64s, ftags, hdt]
            have hwz := hb.size
            clear hb hdt hat hdc htk hv2
            go_wp2_with (at_builtin; go_must (refine wpList_append_own _ rfl _ _ 40 rfl w13.heap.size 39 j0 (.int .u64 0) 1 8 Tryd.underlying40 hj0 hk0 hk1 hk2 rfl (by decide) _ _ _ rfl ((HO.out.alloc _).alloc _) ⟨wr.heap.size + 1, 0, none⟩ 1 1 [.int .u64 (t : Int)] rfl rfl (by simpa using one_new (wr.alloc (.cells #[.int .u64 (t : Int), .int .i64 ty, .int .u64 (tn : Int), .string ts, .slice Bi ti.len di] 47)) _ _) (one_cell_int _ _) (by unfold maxLen; omega) (by omega) (by simp; omega) ?_); intro v1 w2 hown2 hg2 _)
            go_roundg (f.len - (k + 1))
            case measure => omega
            case rel =>
              refine ⟨k + 1, by omega, Nat.le_refl _, by go_num, ?_, below_append (ba (ba HB.out _) _) ((HO.out.alloc _).alloc _) hg2⟩
              show World.ownsRow _ _ _ _ _ _ _
              rw [HTK.out]
              exact hown2
          · obtain rfl : k = f.len := by omega
            have ho := HO.out
            rw [List.take_of_length_le (by rw [ftags_len]; exact Nat.le_refl _)] at ho
            obtain ⟨G2, d2, rfl, hrd, hn, _⟩ := PM.Rd.own ho
            have HG : Hid (Rd wr G2 (u64s (ftags f))) := hrd
            have hb1 := bb HB1.out hb
            have hx := bb HX.out hb
            have hy := bb HY.out hb
            have hp := bb HP.out hb
            have hq : Below wr.heap.size wr wr := b0
            clear ho hrd hn hb HO HB
            have hpc1 := Nat.le_trans (fpick_count tags true f) HFC.out.2
            have hpc2 := Nat.le_trans (fpick_count tags false f) HFC.out.2
            have HWT : Hid (∀ x : World, Below w4.heap.size w4 x → Below w.heap.size w x → Calls Tryd.prog 18 #[.slice Af f.len cf, .slice A' tags.length cap'] x fun e w' => ∃ (A' : Option Addr) (c' : Nat), e = .returned (.slice A' (fpick tags false f).len c') ∧
                SlV w' (x.heap.size ≤ ·) (.slice A' (fpick tags false f).len c') (fpick tags false f) ∧ Below x.heap.size x w') := fun x hx hy => without_any Af cf f A' cap' tags _ x (HFS.out.below hx) (HR'.out.below hy) HFC.out.2 (by omega) H64.out HFK.out
            have HTG : Hid (∀ x : World, Below w4.heap.size w4 x → Calls Tryd.prog 20 #[.slice Af f.len cf] x fun e w' => ∃ (A' : Option Addr) (c' : Nat), e = .returned (.slice A' f.len c') ∧ PM.Rd w' A' (u64s (ftags f)) ∧ f.len ≤ c' ∧ Below x.heap.size x w') := fun x hx => tags_any Af cf f _ x (HFS.out.below hx) hfl
            have HEQ : Hid (∀ (x : World) (K2 : Option Addr) (k2 : Nat), Rd x K2 (u64s (ftags f)) → Rd x G2 (u64s (ftags f)) → Calls Tryd.prog 19 #[.slice K2 f.len k2, .slice G2 f.len d2] x fun e w' => e = .returned (.bool true) ∧ Below x.heap.size x w') := fun x K2 k2 h1 h2 => by
              have := equ64 K2 G2 k2 d2 (ftags f) x h1 h2 (by rw [ftags_len]; exact hfl)
              rwa [ftags_len] at this
            have HN := Lib.hid (And.intro hpc1 hpc2)
            clear hpc1 hpc2 HFK HFC HFS H64 HR' HR HOK
            generalize fpick tags true f = F1 at *
            generalize fpick tags false f = F2 at *
            go_wp2_with fail
            refine (of_any F1.count B1 c1 F1 _ _ (Nat.le_refl _) (HS1.out.below hy) HN.out.1).mono ?_
            rintro e v1 ⟨P1, p1, rfl, hps, hb2⟩
            replace hb1 := bb hb1 hb2
            replace hx := bb hx hb2
            replace hy := bb hy hb2
            replace hp := bb hp hb2
            replace hq := bb hq hb2
            clear hb2
            have HP1 : Hid (Calls Tryd.prog 13 #[.slice P1 F1.len p1, .slice X1 F1.len cx1] v1 fun e w' => e = .returned (.bool true) ∧ Below v1.heap.size v1 w') := by
              have := rsame_any8 _ P1 X1 p1 cx1 F1 F1 (fun _ => True) v1 (Nat.le_refl _) (hps.imp fun _ _ => trivial) (HX1.out.below hp) HN.out.1 HN.out.1
              rwa [same_self] at this
            clear hps
            go_wp2_with fail
            refine HP1.out.mono ?_
            rintro e v2 ⟨rfl, hb2⟩
            replace hb1 := bb hb1 hb2
            replace hx := bb hx hb2
            replace hy := bb hy hb2
            replace hp := bb hp hb2
            replace hq := bb hq hb2
            clear hb2
            go_wp2_with fail
            refine (of_any F2.count B2 c2 F2 _ _ (Nat.le_refl _) (HS2.out.below hy) HN.out.2).mono ?_
            rintro e v3 ⟨P2, p2, rfl, hps, hb2⟩
            replace hb1 := bb hb1 hb2
            replace hx := bb hx hb2
            replace hy := bb hy hb2
            replace hp := bb hp hb2
            replace hq := bb hq hb2
            clear hb2
            have HP2 : Hid (Calls Tryd.prog 13 #[.slice P2 F2.len p2, .slice X2 F2.len cx2] v3 fun e w' => e = .returned (.bool true) ∧ Below v3.heap.size v3 w') := by
              have := rsame_any8 _ P2 X2 p2 cx2 F2 F2 (fun _ => True) v3 (Nat.le_refl _) (hps.imp fun _ _ => trivial) (HX2.out.below hp) HN.out.2 HN.out.2
              rwa [same_self] at this
            clear hps
            go_wp2_with fail
            refine HP2.out.mono ?_
            rintro e v4 ⟨rfl, hb2⟩
            replace hb1 := bb hb1 hb2
            replace hx := bb hx hb2
            replace hy := bb hy hb2
            replace hp := bb hp hb2
            replace hq := bb hq hb2
            clear hb2
            go_wp2_with fail
            refine (HWT.out _ hx hb1).mono ?_
            rintro e v5 ⟨P3, p3, rfl, hps, hb2⟩
            replace hb1 := bb hb1 hb2
            replace hx := bb hx hb2
            replace hy := bb hy hb2
            replace hp := bb hp hb2
            replace hq := bb hq hb2
            clear hb2
            have HO3 := Lib.hid (of_any F2.count P3 p3 F2 _ v5 (Nat.le_refl _) hps HN.out.2)
            clear hps
            go_wp2_with fail
            refine HO3.out.mono ?_
            rintro e v6 ⟨P4, p4, rfl, hps, hb2⟩
            replace hb1 := bb hb1 hb2
            replace hx := bb hx hb2
            replace hy := bb hy hb2
            replace hp := bb hp hb2
            replace hq := bb hq hb2
            clear hb2
            have HP4 : Hid (Calls Tryd.prog 13 #[.slice P4 F2.len p4, .slice X2 F2.len cx2] v6 fun e w' => e = .returned (.bool true) ∧ Below v6.heap.size v6 w') := by
              have := rsame_any8 _ P4 X2 p4 cx2 F2 F2 (fun _ => True) v6 (Nat.le_refl _) (hps.imp fun _ _ => trivial) (HX2.out.below hp) HN.out.2 HN.out.2
              rwa [same_self] at this
            clear hps
            go_wp2_with fail
            refine HP4.out.mono ?_
            rintro e v7 ⟨rfl, hb2⟩
            replace hb1 := bb hb1 hb2
            replace hx := bb hx hb2
            replace hy := bb hy hb2
            replace hp := bb hp hb2
            replace hq := bb hq hb2
            clear hb2
            go_wp2_with fail
            refine (HTG.out _ hx).mono ?_
            rintro e v8 ⟨K2, k2, rfl, hrk, _, hb2⟩
            replace hb1 := bb hb1 hb2
            replace hx := bb hx hb2
            replace hy := bb hy hb2
            replace hp := bb hp hb2
            replace hq := bb hq hb2
            clear hb2
            have HQ := Lib.hid (HEQ.out v8 K2 k2 hrk (HG.out.below hq))
            clear hrk
            go_wp2_with fail
            refine HQ.out.mono ?_
            rintro e v9 ⟨rfl, hb2⟩
            replace hb1 := bb hb1 hb2
            replace hx := bb hx hb2
            replace hy := bb hy hb2
            replace hp := bb hp hb2
            replace hq := bb hq hb2
            clear hb2
            go_wp2
            go_ret
            exact ⟨rfl, hb1⟩
    · have hgi : (((fcheck f 0 0 : Nat) : Int) != 0) = true := by rw [bne_iff_ne]; omega
      generalize fcheck f 0 0 = E at *
      go_wp2_with fail
      refine (HC1.out _ hx).mono ?_
      rintro e w5 ⟨rfl, hb2⟩
      replace hb1 := bb hb1 hb2
      clear hb2
      go_wp2
      go_ret
      exact ⟨rfl, hb1⟩
end Go.Proofs.YtigbifiicbghpaaDoor
end

section
/-
  Go's two tables of UTF-8, as the rows list them: what they give a walk; a world that holds them. (The rows of this seat list the same two variables.)
-/
namespace Go.Proofs.YtigbifiicbghpaaDoor
open Go.Lib
set_option maxRecDepth 100000
theorem accept_eq : (Rows.laid_unicode_utf8_acceptRanges : DataW Unit) = Lib.acceptData := by kernel_rfl
theorem tabs_of_laid {W : World} (h : laidMetH Tryd.prog [("unicode/utf8.acceptRanges", Rows.laid_unicode_utf8_acceptRanges), ("unicode/utf8.first", Rows.laid_unicode_utf8_first)] W) : Tabs W := by
  have h4 := Lib.laidMet.reads h (.head _)
  have h3 := Lib.laidMet.reads h (.tail _ (.head _))
  rw [accept_eq] at h4
  rw [show Rows.laid_unicode_utf8_first = Lib.firstData from Pinned.utf8First_eq] at h3
  exact utf8Tabs_of_readsT (U8Types.of196 Tryd.lays196) ⟨by kernel_rfl, by kernel_rfl, by kernel_rfl, by kernel_rfl, by kernel_rfl, by kernel_rfl, by kernel_rfl⟩ h3 h4
/-- The settled world, the two variables holding what their initialisers lay. -/
noncomputable def laidWorld (os : Os) : World :=
  let w0 := World.holding Tryd.prog os ⟨#[], #[], []⟩
  let put (h : Array Obj) (g : Nat) (cs : Array Value) : Array Obj := h.modify g fun
    | .cells _ t frozen => .cells cs t frozen
    | o => o
  let h1 := put w0.heap (Tryd.lays196_ren.g 3) (Lib.firstTab.map fun z => Value.int .u8 z).toArray
  let h2 := put h1 (Tryd.lays196_ren.g 4) ((List.range 16).flatMap fun i => [Value.int .u8 (Lib.accLo i), Value.int .u8 (Lib.accHi i)]).toArray
  { w0 with heap := h2 }
theorem laid_met (os : Os) (args : Array Value) : laidMet Tryd.prog [("unicode/utf8.acceptRanges", Rows.laid_unicode_utf8_acceptRanges), ("unicode/utf8.first", Rows.laid_unicode_utf8_first)] ((laidWorld os).forCall (fun _ _ => 0) ⟨#[], args, []⟩).memory :=
  (LaidIn.of_run (l := [("unicode/utf8.acceptRanges", Rows.laid_unicode_utf8_acceptRanges), ("unicode/utf8.first", Rows.laid_unicode_utf8_first)]) [Tryd.lays196_ren.g 4, Tryd.lays196_ren.g 3] 8 (by kernel_rfl) (by kernel_rfl) (by kernel_rfl) (by kernel_rfl)).met
theorem own : ownKnob Tryd.prog.godebug = none := by kernel_rfl
theorem laidOut : laidOutB Tryd.prog = true := by kernel_rfl
end Go.Proofs.YtigbifiicbghpaaDoor
end
