/-
  Texts of the proof, joined: Same3 PlainMsg5 TopO Laid. Conditions: as each names.
-/
import Derived.Test.YtgidfnhfgiehjaaGreatDoorXTopOnebb
import Derived.Test.YtgidfnhfgiehjaaGreatDoorXTopOneas
import Derived.Test.YtgidfnhfgiehjaaGreatDoorXTopOneaw
import Derived.Test.YtgidfnhfgiehjaaGreatDoorRows
import Derived.Test.YtgidfnhfgiehjaaGreatDoorXTopOneaj
import Derived.PinnedBridge
import Derived.Lib.LaidIn
import Derived.Lib.LaidU8T
import Derived.Deep.DeepHandedRow
import Derived.Deep.DeepWitnessRowRef

section
namespace Go.Proofs.YtgidfnhfgiehjaaGreatDoor
open Go.RowKit Go.PM
set_option maxRecDepth 100000
set_option maxHeartbeats 4000000
attribute [local go_sem ↓] Go.wp_at_zero Go.wp_at_succ
theorem val_of {m : Mp} {d : List Ent} : ∀ i, i < 22 → m.val i = .of d → d = m.d := by
  refine cases22 ?_ ?_ ?_ ?_ ?_ ?_ ?_ ?_ ?_ ?_ ?_ ?_ ?_ ?_ ?_ ?_ ?_ ?_ ?_ ?_ ?_ ?_ <;> (intro h; simp only [Mp.val] at h; first | (cases h; done) | (injection h with h; exact h.symm))
theorem val_rows {m : Mp} {t : List Rw} : ∀ i, i < 22 → m.val i = .rows t → t = m.t := by
  refine cases22 ?_ ?_ ?_ ?_ ?_ ?_ ?_ ?_ ?_ ?_ ?_ ?_ ?_ ?_ ?_ ?_ ?_ ?_ ?_ ?_ ?_ ?_ <;> (intro h; simp only [Mp.val] at h; first | (cases h; done) | (injection h with h; exact h.symm))
theorem alike18 {I : Nat → Prop} {m m' : Mp} {dv tv rv dv' tv' rv' : Value} {b b' : Nat} (w : World) (hb : BlkAt w b 35 (mvs m dv tv rv)) (hb' : BlkAt w b' 35 (mvs m' dv' tv' rv')) (hv : MgV w I m dv tv rv) (hv' : MgV w I m' dv' tv' rv') (hz : Msz m) (i : Nat) (hi : i < 22) :
    Calls Tryz.prog 58 #[plc b i, plc b' i] w fun e w' => (∃ F : Bool, e = .returned (.bool F) ∧ (F = true ↔ m.val i = m'.val i)) ∧ Below w.heap.size w w' := by
  have hu := m.val_use i
  have hu' := m'.val_use i
  have c1 := (hb.cell (cellIx i)).trans (mvs_at m dv tv rv i hi)
  have c2 := (hb'.cell (cellIx i)).trans (mvs_at m' dv' tv' rv' i hi)
  unfold mvv at c1 c2
  unfold plc
  rw [← hu]
  rw [← hu] at hu'
  cases hq : m.val i <;> cases hq' : m'.val i <;> rw [hq] at hu' c1 <;> rw [hq'] at hu' c2 <;> first | (exfalso; simp [Mv.use] at hu'; done) | skip
  · exact (alike0 b _ b' _ _ _ w hb.lt hb'.lt c1 c2).mono fun e w' ⟨h1, h2⟩ => ⟨⟨_, h1, by rw [decide_eq_true_iff, Mv.num.injEq]⟩, h2⟩
  · exact (alike1 b _ b' _ _ _ w hb.lt hb'.lt c1 c2).mono fun e w' ⟨h1, h2⟩ => ⟨⟨_, h1, by rw [decide_eq_true_iff, Mv.flag.injEq]⟩, h2⟩
  · exact (alike2 b _ b' _ _ _ w hb.lt hb'.lt c1 c2).mono fun e w' ⟨h1, h2⟩ => ⟨⟨_, h1, by rw [decide_eq_true_iff, Mv.sgn.injEq]⟩, h2⟩
  · exact (alike3 b _ b' _ _ _ w hb.lt hb'.lt c1 c2).mono fun e w' ⟨h1, h2⟩ => ⟨⟨_, h1, by rw [decide_eq_true_iff, Mv.word.injEq]⟩, h2⟩
  · rename_i d d'
    obtain rfl := val_of i hi hq
    obtain rfl := val_of i hi hq'
    obtain ⟨⟨A, c, rfl, _, hr⟩, _⟩ := hv
    obtain ⟨⟨B, c', rfl, _, hr'⟩, _⟩ := hv'
    exact (alike4 b _ b' _ _ _ A B c c' w hb.lt hb'.lt c1 c2 hr.rd hr'.rd hz.dl).mono fun e w' ⟨h1, h2⟩ => ⟨⟨_, h1, by rw [decide_eq_true_iff, Mv.of.injEq]⟩, h2⟩
  · rename_i t t'
    obtain rfl := val_rows i hi hq
    obtain rfl := val_rows i hi hq'
    exact (alike5 b _ b' _ _ _ _ _ I w hb.lt hb'.lt c1 c2 hv.2.1 hv'.2.1 (fun r hr => (hz.t r hr).2) hz.tl).mono fun e w' ⟨h1, h2⟩ => ⟨⟨_, h1, by rw [decide_eq_true_iff, Mv.rows.injEq]⟩, h2⟩
theorem mp_ext {m m' : Mp} (hk : m.kind = m'.kind) (h : ∀ i, i < 22 → m.val i = m'.val i) : m = m' ↔ m.rest = m'.rest := ⟨fun e => by rw [e], fun e => Mp.ext_val hk e h⟩
theorem msame_any {I : Nat → Prop} {m m' : Mp} {dv tv rv dv' tv' rv' : Value} (w : World) (hv : MgV w I m dv tv rv) (hv' : MgV w I m' dv' tv' rv') (hz : Msz m) (hr' : m'.rest.count ≤ 1000000) :
    Calls Tryz.prog 20 #[.agg (mvs m dv tv rv), .agg (mvs m' dv' tv' rv')] w fun e w' => (∃ F : Bool, e = .returned (.bool F) ∧ (F = true ↔ m = m')) ∧ Below w.heap.size w w' := by
  obtain ⟨dA, dc, tA, tc, rA, rc, rfl, rfl, rfl⟩ := hv.slices
  obtain ⟨dA', dc', tA', tc', rA', rc', rfl, rfl, rfl⟩ := hv'.slices
  have hm1 := (BlkAt.made w 35 (mvs m (.slice dA m.d.length dc) (.slice tA m.t.length tc) (.slice rA m.rest.len rc))).more (.cells (mvs m' (.slice dA' m'.d.length dc') (.slice tA' m'.t.length tc') (.slice rA' m'.rest.len rc')) 35)
  have hm2 := BlkAt.made (w.alloc (.cells (mvs m (.slice dA m.d.length dc) (.slice tA m.t.length tc) (.slice rA m.rest.len rc)) 35)) 35 (mvs m' (.slice dA' m'.d.length dc') (.slice tA' m'.t.length tc') (.slice rA' m'.rest.len rc'))
  have hbm := ba (ba (a := w) b0 (.cells (mvs m (.slice dA m.d.length dc) (.slice tA m.t.length tc) (.slice rA m.rest.len rc)) 35)) (.cells (mvs m' (.slice dA' m'.d.length dc') (.slice tA' m'.t.length tc') (.slice rA' m'.rest.len rc')) 35)
  obtain ⟨wz, hwz⟩ : ∃ wz, wz = (w.alloc (.cells (mvs m (.slice dA m.d.length dc) (.slice tA m.t.length tc) (.slice rA m.rest.len rc)) 35)).alloc (.cells (mvs m' (.slice dA' m'.d.length dc') (.slice tA' m'.t.length tc') (.slice rA' m'.rest.len rc')) 35) := ⟨_, rfl⟩
  rw [← hwz] at hm1 hm2 hbm
  simp only [World.size_alloc] at hm2
  have HM1 := Lib.hid hm1
  have HM2 := Lib.hid hm2
  have HBM := Lib.hid hbm
  have HV := Lib.hid (hv.below hbm)
  have HV2 := Lib.hid (hv'.below hbm)
  have HZ := Lib.hid hz
  have HR2 := Lib.hid hr'
  clear hm1 hm2 hbm hv hv' hz hr'
  simp only [mvs] at hwz
  show Calls _ _ #[.agg #[.int .i64 m.kind, .int .u64 (m.id : Int), .int .u64 (m.min_ : Int), .int .u64 (m.max_ : Int), .int .u64 (m.chosen : Int), .int .u64 (m.flags : Int), .int .u64 (m.cost : Int), .int .u64 (m.prio : Int), .int .u64 (m.dead : Int), .int .u64 (m.retry : Int), .int .u64 (m.epoch : Int), .int .u64 (m.base : Int), .int .u64 (m.digest : Int), .int .u64 (m.lag : Int), .int .u64 (m.code : Int), .int .u64 (m.want : Int), .int .i64 m.rem, .bool m.al, .string (txt m.nm), .string (txt m.rg), .string (txt m.nt), .slice dA m.d.length dc, .slice tA m.t.length tc, .slice rA m.rest.len rc], .agg #[.int .i64 m'.kind, .int .u64 (m'.id : Int), .int .u64 (m'.min_ : Int), .int .u64 (m'.max_ : Int), .int .u64 (m'.chosen : Int), .int .u64 (m'.flags : Int), .int .u64 (m'.cost : Int), .int .u64 (m'.prio : Int), .int .u64 (m'.dead : Int), .int .u64 (m'.retry : Int), .int .u64 (m'.epoch : Int), .int .u64 (m'.base : Int), .int .u64 (m'.digest : Int), .int .u64 (m'.lag : Int), .int .u64 (m'.code : Int), .int .u64 (m'.want : Int), .int .i64 m'.rem, .bool m'.al, .string (txt m'.nm), .string (txt m'.rg), .string (txt m'.nt), .slice dA' m'.d.length dc', .slice tA' m'.t.length tc', .slice rA' m'.rest.len rc']] _ _
  by_cases hk : m.kind = m'.kind
  · have hkn : (m.kind != m'.kind) = false := by rw [hk]; simp
    have HK := Lib.hid hk
    clear hk
    go_enter Tryz.func20, Tryz.ntmps20
    go_wp2_with fail
    rw [← hwz]
    clear hwz hkn
    have HNM := Lib.hid (names18 wz)
    refine HNM.out.mono ?_
    rintro e w4 ⟨g, cg, rfl, hg, hnm, hb4⟩
    have HB4 := Lib.hid hb4
    have HNR := Lib.hid hnm
    have HN0 : Hid (∀ i, i < 0 → m.val i = m'.val i) := fun i hi => absurd hi (by omega)
    clear hnm hb4 HNM hg
    go_wp2_with fail
    go_loopg [14] 22 (fun gk ki wr => ∃ j : Nat, j ≤ 22 ∧ 22 - j ≤ gk ∧ ki = .int .i64 (j : Int) ∧ Hid (∀ i, i < j → m.val i = m'.val i) ∧ Hid (Below w4.heap.size w4 wr))
    case atStart => exact ⟨0, by omega, by omega, rfl, HN0, b0⟩
    case round =>
      obtain ⟨j, hj, hgj, rfl, HN, HB⟩ := hrel
      have HBW : Hid (Below wz.heap.size wz wr) := bb HB4.out HB.out
      by_cases hltj : j < 22
      · obtain ⟨b, off, hAe, hbl, hcn⟩ := (HNR.out.below HB.out).at_ (k := j) (by simpa [nmv, mnames] using hltj)
        injection hAe with hAe
        injection hAe with e1 e2
        subst e1 e2
        rw [nmv_at, Nat.zero_add] at hcn
        have HP1 := Lib.hid (fun x => place_any w.heap.size x j hltj)
        have HP2 := Lib.hid (fun x => place_any (w.heap.size + 1) x j hltj)
        have HAL : Hid (∀ x, Below wr.heap.size wr x → Calls Tryz.prog 58 #[plc w.heap.size j, plc (w.heap.size + 1) j] x fun e w' => (∃ F : Bool, e = .returned (.bool F) ∧ (F = true ↔ m.val j = m'.val j)) ∧ Below x.heap.size x w') := fun x hx =>
          alike18 x (HM1.out.below (bb HBW.out hx) HM1.out.lt) (HM2.out.below (bb HBW.out hx) HM2.out.lt) (HV.out.below (bb HBW.out hx)) (HV2.out.below (bb HBW.out hx)) HZ.out j hltj
        generalize nmAt j = N at *
        generalize plc w.heap.size j = P1 at *
        generalize plc (w.heap.size + 1) j = P2 at *
        clear HN0
        go_wp2_with fail
        refine (HP1.out _).mono ?_
        rintro e w5 ⟨rfl, hb5⟩
        have HB5 := Lib.hid hb5
        clear hb5 HP1
        go_wp2_with fail
        refine (HP2.out _).mono ?_
        rintro e w6 ⟨rfl, hb6⟩
        have HB6 := Lib.hid (bb HB5.out hb6)
        clear hb6 HP2 HB5
        go_wp2_with fail
        refine (HAL.out _ HB6.out).mono ?_
        rintro e w7 ⟨⟨F, rfl, hF⟩, hb7⟩
        have HB7 := Lib.hid (bb HB6.out hb7)
        have HF := Lib.hid hF
        clear hb7 HAL HB6 hF
        cases F with
        | true =>
          have HN2 : Hid (∀ i, i < j + 1 → m.val i = m'.val i) := fun i hi => by
            rcases Nat.lt_or_ge i j with h2 | h2
            · exact HN.out i h2
            · obtain rfl : i = j := by omega
              exact HF.out.1 rfl
          clear HN HF
          go_wp2_with fail
          go_roundg (22 - (j + 1))
          case measure => omega
          case rel => exact ⟨j + 1, by omega, Nat.le_refl _, by go_num, HN2, bb HB.out HB7.out⟩
        | false =>
          have HE : Hid (∀ w', Below wr.heap.size wr w' → (∃ F : Bool, Ending.returned (.bool false) = Ending.returned (.bool F) ∧ (F = true ↔ m = m')) ∧ Below w.heap.size w w') := fun w' h => ⟨⟨false, rfl, fun h => (by cases h), fun h => by rw [h] at HF; exact absurd (HF.out.2 rfl) (by simp)⟩, bb HBM.out (bb HBW.out h)⟩
          clear HN HF
          go_wp2_with fail
          go_ret
          exact HE.out _ HB7.out
      · obtain rfl : j = 22 := by omega
        have c1 : wr.cell? ⟨w.heap.size, 23, none⟩ = some (.slice rA m.rest.len rc) := (HM1.out.below HBW.out HM1.out.lt).cell 23
        have c2 : wr.cell? ⟨w.heap.size + 1, 23, none⟩ = some (.slice rA' m'.rest.len rc') := (HM2.out.below HBW.out HM2.out.lt).cell 23
        have HS := Lib.hid (same_of _ _ m.rest m'.rest I wr (HV.out.below HBW.out).2.2 (HV2.out.below HBW.out).2.2 (by have := HZ.out.rest; omega) HR2.out)
        have HE : Hid (∀ w', Below wr.heap.size wr w' → (∃ F : Bool, Ending.returned (.bool (m.rest.same m'.rest)) = Ending.returned (.bool F) ∧ (F = true ↔ m = m')) ∧ Below w.heap.size w w') := fun w' h => ⟨⟨_, rfl, by rw [same_iff, mp_ext HK.out HN.out]⟩, bb HBM.out (bb HBW.out h)⟩
        clear HN HN0 HB
        generalize m.rest.same m'.rest = F at *
        go_wp2_with fail
        refine HS.out.mono ?_
        rintro e w5 ⟨rfl, hb5⟩
        have HB5 := Lib.hid hb5
        clear hb5
        go_wp2_with fail
        go_ret
        exact HE.out _ HB5.out
  · have hkn : (m.kind != m'.kind) = true := by simpa using hk
    have HE : Hid (∀ w', Below w.heap.size w w' → (∃ F : Bool, Ending.returned (.bool false) = Ending.returned (.bool F) ∧ (F = true ↔ m = m')) ∧ Below w.heap.size w w') := fun w' h => ⟨⟨false, rfl, fun h => (by cases h), fun h => absurd (congrArg Mp.kind h) hk⟩, h⟩
    clear hk
    go_enter Tryz.func20, Tryz.ntmps20
    go_wp2_with fail
    rw [← hwz]
    go_ret
    exact HE.out _ HBM.out
end Go.Proofs.YtgidfnhfgiehjaaGreatDoor
end

section
namespace Go.Proofs.YtgidfnhfgiehjaaGreatDoor
open Go.RowKit Go.PM
theorem mwiths_mok {l : List Sp} (hl : SpOk l) : ∀ (F : List Fl) (m : Mp), Mok m → (∀ f ∈ F, f.num < 18446744073709551616 ∧ ∃ s ∈ l, s.tag = f.tag) → (mwiths l m F).2 = 0 → Mok (mwiths l m F).1
  | [], m, h, _, _ => h
  | f :: r, m, h, hf, h0 => by
    rw [mwiths_step] at h0 ⊢
    obtain ⟨hn, s, hs, ht⟩ := hf f List.mem_cons_self
    have hi : ktix l f.tag < 22 := by rw [← ht, ktix_of hl hs]; exact (hl.2 s hs).1
    by_cases hc : (setc (nmUse (ktix l f.tag)) f.ty f.num f.text.data.toList).2 ≠ 0
    · rw [if_pos hc] at h0; exact absurd h0 hc
    · rw [if_neg hc] at h0 ⊢
      exact mwiths_mok hl r _ (h.put hi hn (by simpa using hc)) (fun x hx => hf x (List.mem_cons_of_mem _ hx)) h0
theorem mdecode_msz {s : List UInt8} {v : Nat} (h : (mdecode s v).2 = 0) : Msz (mdecode s v).1 := by
  unfold mdecode at h ⊢
  by_cases h1 : 65536 < s.length
  · rw [if_pos h1] at h; exact absurd h (by decide)
  rw [if_neg h1] at h ⊢
  by_cases h2 : (vget s).2.2 ≠ 0
  · rw [if_pos h2] at h; omega
  rw [if_neg h2] at h ⊢
  by_cases h3 : kfrom (kind8 (vget s).1) = 0 ∨ v < kfrom (kind8 (vget s).1)
  · rw [if_pos h3] at h; exact absurd h (by decide)
  rw [if_neg h3] at h ⊢
  by_cases h4 : (fgets (s.drop (vget s).2.1)).2 ≠ 0
  · rw [if_pos h4] at h; omega
  rw [if_neg h4] at h ⊢
  have hk8 : kind8 (vget s).1 ≤ 8 := by unfold kind8; split <;> omega
  obtain ⟨b1, b2, b3, b4, b5, b6⟩ := fgets_back (s := s.drop (vget s).2.1) (by rw [List.length_drop]; omega) (by omega)
  have hcn := fgets_count (s := s.drop (vget s).2.1) (by rw [List.length_drop]; omega) (by omega)
  have hdl : (s.drop (vget s).2.1).length ≤ 65536 := by rw [List.length_drop]; omega
  generalize kind8 (vget s).1 = k at *
  generalize fgets (s.drop (vget s).2.1) = G at *
  unfold mread at h ⊢
  by_cases c1 : (mwiths (kknown k v) { m0 with kind := (k : Int) } (fpick (ktags k v) true G.1).toL).2 ≠ 0
  · rw [if_pos c1] at h; exact absurd h c1
  rw [if_neg c1] at h ⊢
  by_cases c2 : mcheck { (mwiths (kknown k v) { m0 with kind := (k : Int) } (fpick (ktags k v) true G.1).toL).1 with rest := fpick (ktags k v) false G.1 } v ≠ 0
  · rw [if_pos c2] at h; exact absurd h c2
  rw [if_neg c2]
  have hM := mwiths_mok (known_ok k v) (fpick (ktags k v) true G.1).toL _ (Mok.zero k hk8) (fun x hx => by
    have hk := (ofL_all (P := FKd) (fpick (ktags k v) true G.1).toL).1 (by rw [ofL_toL]; exact fpick_all _ _ b1) x hx
    refine ⟨hk.1.2.2.1, ?_⟩
    rw [fpick_toL] at hx
    obtain ⟨s', hs', e⟩ := ktags_iff.1 (by simpa using (List.mem_filter.1 hx).2)
    exact ⟨s', hs', e⟩) (by omega)
  have hp := pick_sz (ktags k v) false G.1
  have hq := fpick_count (ktags k v) false G.1
  have hc1 : (fpick (ktags k v) false G.1).count ≤ 900000 := by omega
  have hc2 : (ftx (fpick (ktags k v) false G.1)).length ≤ 100000000 := by
    have := congrArg List.length b4
    omega
  exact msz_of hM.kind hM.may hM.good (fpick_all _ _ b1) hc1 hc2
end Go.Proofs.YtgidfnhfgiehjaaGreatDoor
end

section
namespace Go.Proofs.YtgidfnhfgiehjaaGreatDoor
open Go.RowKit Go.PM
set_option maxRecDepth 100000
set_option maxHeartbeats 4000000
theorem one_walk (a b : ByteArray) (n : Nat) (w : World) (hT : Tabs w) (ha : a.size ≤ 9223372036854775807) (hb : b.size ≤ 9223372036854775807) (hn : n < 256) :
    Calls Tryz.prog 5 #[.string a, .string b, .int .u8 (n : Int)] w fun e w' => e = .returned (.bool true) ∧ Below w.heap.size w w' := by
  have HA := Lib.hid (alive20 w hT)
  by_cases h1 : 6000 < a.size
  · have h1i : (6000 : Int) < (a.size : Int) := by omega
    clear hT
    go_enter Tryz.func5, Tryz.ntmps5
    go_wp2_with fail
    refine HA.out.mono ?_
    rintro e w1 ⟨rfl, hb1⟩
    go_wp2
    go_ret
    exact ⟨rfl, hb1⟩
  have h1i : ¬ (6000 : Int) < (a.size : Int) := by omega
  by_cases h2 : 6000 < b.size
  · have h2i : (6000 : Int) < (b.size : Int) := by omega
    clear hT
    go_enter Tryz.func5, Tryz.ntmps5
    go_wp2_with fail
    refine HA.out.mono ?_
    rintro e w1 ⟨rfl, hb1⟩
    go_wp2
    go_ret
    exact ⟨rfl, hb1⟩
  have h2i : ¬ (6000 : Int) < (b.size : Int) := by omega
  have hr3 : n % 3 < 3 := Nat.mod_lt _ (by omega)
  have hwm : (n : Int) % 3 = ((n % 3 : Nat) : Int) := by simp
  obtain ⟨XA, hXA⟩ : ∃ XA, XA = mdecode a.data.toList (n % 3 + 1) := ⟨_, rfl⟩
  obtain ⟨XB, hXB⟩ : ∃ XB, XB = mdecode b.data.toList (n % 3 + 1) := ⟨_, rfl⟩
  have hvi : ((n % 3 + 1 : Nat) : Int) = ((n % 3 : Nat) : Int) + 1 := by omega
  have HDA : Hid (∀ x, Below w.heap.size w x → Calls Tryz.prog 12 #[.string a, .int .i64 (((n % 3 : Nat) : Int) + 1)] x (DecEnd x XA)) := fun x hx => by
    have := decode19 (n % 3 + 1) (by omega) (by omega) a (by omega) x (hT.below hx)
    rw [hvi, ← hXA] at this
    exact this
  have HDB : Hid (∀ x, Below w.heap.size w x → Calls Tryz.prog 12 #[.string b, .int .i64 (((n % 3 : Nat) : Int) + 1)] x (DecEnd x XB)) := fun x hx => by
    have := decode19 (n % 3 + 1) (by omega) (by omega) b (by omega) x (hT.below hx)
    rw [hvi, ← hXB] at this
    exact this
  have HEN : Hid (∀ (x : World) (I : Nat → Prop) (dv tv rv : Value), Below w.heap.size w x → XA.2 = 0 → MgV x I XA.1 dv tv rv → Calls Tryz.prog 11 #[.agg (mvs XA.1 dv tv rv), .int .i64 (((n % 3 : Nat) : Int) + 1)] x fun e w' => e = .returned (.tuple #[.string a, .int .i64 0]) ∧ Below x.heap.size x w') := fun x I dv tv rv hx h0 hv => by
    have h9 := mdecode_ok (s := a.data.toList) (v := n % 3 + 1) (by rw [← hXA]; exact h0)
    have h8 := mdecode_msz (s := a.data.toList) (v := n % 3 + 1) (by rw [← hXA]; exact h0)
    rw [← hXA] at h9 h8
    have := encode19 (n % 3 + 1) (by omega) (by omega) x hv h8 (hT.below hx)
    unfold TxEnd at this
    rw [hvi, h9.2.2] at this
    exact this
  have HGD : Hid (∀ (x : World) (I : Nat → Prop) (dv tv rv : Value), Below w.heap.size w x → XA.2 = 0 → MgV x I XA.1 dv tv rv → Calls Tryz.prog 19 #[.agg (mvs XA.1 dv tv rv), .int .i64 (((n % 3 : Nat) : Int) + 1)] x fun e w' => e = .returned (.bool true) ∧ Below x.heap.size x w') := fun x I dv tv rv hx h0 hv => by
    have h9 := mdecode_ok (s := a.data.toList) (v := n % 3 + 1) (by rw [← hXA]; exact h0)
    have h8 := mdecode_msz (s := a.data.toList) (v := n % 3 + 1) (by rw [← hXA]; exact h0)
    rw [← hXA] at h9 h8
    have := good19 (n % 3 + 1) (by omega) (by omega) x hv h8 (hT.below hx)
    rw [hvi, h9.2.2] at this
    exact this
  have HSM : Hid (∀ (x : World) (I : Nat → Prop) (dv tv rv dv' tv' rv' : Value), XA.2 = 0 → XB.2 = 0 → MgV x I XA.1 dv tv rv → MgV x I XB.1 dv' tv' rv' → Calls Tryz.prog 20 #[.agg (mvs XA.1 dv tv rv), .agg (mvs XB.1 dv' tv' rv')] x fun e w' => e = .returned (.bool (a.toList == b.toList)) ∧ Below x.heap.size x w') := fun x I dv tv rv dv' tv' rv' h0 k0 hv hv' => by
    have h9 := mdecode_ok (s := a.data.toList) (v := n % 3 + 1) (by rw [← hXA]; exact h0)
    have h8 := mdecode_msz (s := a.data.toList) (v := n % 3 + 1) (by rw [← hXA]; exact h0)
    have k9 := mdecode_ok (s := b.data.toList) (v := n % 3 + 1) (by rw [← hXB]; exact k0)
    have k8 := mdecode_msz (s := b.data.toList) (v := n % 3 + 1) (by rw [← hXB]; exact k0)
    rw [← hXA] at h9 h8
    rw [← hXB] at k9 k8
    refine (msame_any x hv hv' h8 (by have := k8.rest; omega)).mono fun e w' ⟨⟨F, he, hF⟩, hbel⟩ => ⟨?_, hbel⟩
    rw [he]
    congr 2
    rw [Bool.eq_iff_iff, hF, ByteArray.toList_eq, ByteArray.toList_eq, beq_iff_eq]
    constructor
    · intro e1
      have := h9.2.2
      rw [e1, k9.2.2] at this
      exact (congrArg Prod.fst this).symm
    · intro e1
      rw [hXA, hXB, e1]
  clear hT hXA hXB hvi
  obtain ⟨MA, EA⟩ := XA
  obtain ⟨MB, EB⟩ := XB
  simp only at HDA HDB HEN HGD HSM
  generalize n % 3 = r at *
  generalize hFB : (a.toList == b.toList) = FB at *
  have hwr : IntKind.i64.wrap ((r : Int) + 1) = (r : Int) + 1 := by rw [IntKind.wrap_i64]; omega
  have HR3 := Lib.hid hr3
  go_enter Tryz.func5, Tryz.ntmps5
  go_wp2_with fail
  refine HA.out.mono ?_
  rintro e w1 ⟨rfl, hb1⟩
  have HB1 := Lib.hid hb1
  clear hb1 HA
  go_wp2_with fail
  refine (HDA.out _ HB1.out).mono ?_
  rintro e w2 ⟨dv, tv, rv, rfl, hmg, hb2⟩
  have HB2 := Lib.hid (bb HB1.out hb2)
  clear hb2
  obtain ⟨dA1, dc1, tA1, tc1, rA1, rc1, rfl, rfl, rfl⟩ := hmg.slices
  have hm1 := BlkAt.made w2 35 zmvs
  have hm2 := putAll_at (ds := mvs MA (.slice dA1 MA.d.length dc1) (.slice tA1 MA.t.length tc1) (.slice rA1 MA.rest.len rc1)) hm1 rfl
  have hb1 : Below w2.heap.size w2 (World.putAll (w2.alloc (.cells zmvs 35)) w2.heap.size (mvs MA (.slice dA1 MA.d.length dc1) (.slice tA1 MA.t.length tc1) (.slice rA1 MA.rest.len rc1))) :=
    (ba (a := w2) b0 (.cells zmvs 35)).trans ((putAll_tch _ w2.heap.size _).toBelowB (by simp) fun g hg e => by omega)
  obtain ⟨w3, hwv⟩ : ∃ wv, wv = World.putAll (w2.alloc (.cells zmvs 35)) w2.heap.size (mvs MA (.slice dA1 MA.d.length dc1) (.slice tA1 MA.t.length tc1) (.slice rA1 MA.rest.len rc1)) := ⟨_, rfl⟩
  rw [← hwv] at hm2 hb1
  have HM1 := Lib.hid hm1
  have HX1 := Lib.hid hm2
  have HBT1 := Lib.hid hb1
  have HV1 := Lib.hid (hmg.below hb1)
  simp only [zmvs] at HM1 hwv
  clear hm1 hm2 hb1 hmg
  go_wp2_with
    (with_reducible show wpList _ _ _ (Oper.mk _ (Op.store 35 _ _) _ _ _ _ :: _) _ _; apply pin)
  refine wpList_store_blk rfl _ _ _ rfl _ (mvs MA (.slice dA1 MA.d.length dc1) (.slice tA1 MA.t.length tc1) (.slice rA1 MA.rest.len rc1)) rfl rfl HM1.out rfl (info_msg _ _ _ _) mvs_one ?_
  rw [← hwv]
  clear hwv HM1
  simp only [Act.put]
  have HB3 := Lib.hid (bb HB2.out HBT1.out)
  have HV1b := Lib.hid (HV1.out.mono HB1.out.size)
  clear HV1 HBT1 HB2 HDA
  go_wp2_with fail
  refine (HDB.out _ HB3.out).mono ?_
  rintro e w4 ⟨dv, tv, rv, rfl, hmg, hb4⟩
  have HB4 := Lib.hid (bb HB3.out hb4)
  have HX1b := Lib.hid (HX1.out.below hb4 HX1.out.lt)
  have HV1 := Lib.hid (HV1b.out.below hb4)
  clear hb4 HX1 HV1b
  obtain ⟨dA2, dc2, tA2, tc2, rA2, rc2, rfl, rfl, rfl⟩ := hmg.slices
  have hm1 := BlkAt.made w4 35 zmvs
  have hm2 := putAll_at (ds := mvs MB (.slice dA2 MB.d.length dc2) (.slice tA2 MB.t.length tc2) (.slice rA2 MB.rest.len rc2)) hm1 rfl
  have hb1 : Below w4.heap.size w4 (World.putAll (w4.alloc (.cells zmvs 35)) w4.heap.size (mvs MB (.slice dA2 MB.d.length dc2) (.slice tA2 MB.t.length tc2) (.slice rA2 MB.rest.len rc2))) :=
    (ba (a := w4) b0 (.cells zmvs 35)).trans ((putAll_tch _ w4.heap.size _).toBelowB (by simp) fun g hg e => by omega)
  obtain ⟨w5, hwv⟩ : ∃ wv, wv = World.putAll (w4.alloc (.cells zmvs 35)) w4.heap.size (mvs MB (.slice dA2 MB.d.length dc2) (.slice tA2 MB.t.length tc2) (.slice rA2 MB.rest.len rc2)) := ⟨_, rfl⟩
  rw [← hwv] at hm2 hb1
  have HM1 := Lib.hid hm1
  have HX2 := Lib.hid hm2
  have HBT2 := Lib.hid hb1
  have HV2 := Lib.hid (hmg.below hb1)
  simp only [zmvs] at HM1 hwv
  clear hm1 hm2 hb1 hmg
  go_wp2_with
    (with_reducible show wpList _ _ _ (Oper.mk _ (Op.store 35 _ _) _ _ _ _ :: _) _ _; apply pin)
  refine wpList_store_blk rfl _ _ _ rfl _ (mvs MB (.slice dA2 MB.d.length dc2) (.slice tA2 MB.t.length tc2) (.slice rA2 MB.rest.len rc2)) rfl rfl HM1.out rfl (info_msg _ _ _ _) mvs_one ?_
  rw [← hwv]
  clear hwv HM1
  simp only [Act.put]
  have HB5 := Lib.hid (bb HB4.out HBT2.out)
  have HX1 := Lib.hid (HX1b.out.below HBT2.out HX1b.out.lt)
  have HV1b := Lib.hid (HV1.out.below HBT2.out)
  have HV2b := Lib.hid (HV2.out.mono HB3.out.size)
  clear HV1 HV2 HBT2 HB4 HB3 HDB HX1b
  by_cases hEA : EA = 0
  · subst hEA
    go_wp2_with
      (with_reducible show wpList _ _ _ (Oper.mk _ (Op.load 35 _) _ _ _ _ :: _) _ _; apply pin)
    refine wpList_load_blk_w (by rfl) _ _ rfl _ rfl _ HX1.out Tryz.underlying35 rfl (info_msg _ _ _ _) ?_
    go_wp2_with fail
    refine (HEN.out _ _ _ _ _ HB5.out trivial HV1b.out.v).mono ?_
    rintro e w6 ⟨rfl, hb6⟩
    have HB6 := Lib.hid (bb HB5.out hb6)
    have HX1b := Lib.hid (HX1.out.below hb6 HX1.out.lt)
    have HX2b := Lib.hid (HX2.out.below hb6 HX2.out.lt)
    have HV1 := Lib.hid (HV1b.out.below hb6)
    have HV2 := Lib.hid (HV2b.out.below hb6)
    clear hb6 HX1 HX2 HV1b HV2b HB5 HEN
    go_wp2_with
      (with_reducible show wpList _ _ _ (Oper.mk _ (Op.load 35 _) _ _ _ _ :: _) _ _; apply pin)
    refine wpList_load_blk_w (by rfl) _ _ rfl _ rfl _ HX1b.out Tryz.underlying35 rfl (info_msg _ _ _ _) ?_
    go_wp2_with fail
    refine (HGD.out _ _ _ _ _ HB6.out trivial HV1.out.v).mono ?_
    rintro e w7 ⟨rfl, hb7⟩
    have HB7 := Lib.hid (bb HB6.out hb7)
    have HX1 := Lib.hid (HX1b.out.below hb7 HX1b.out.lt)
    have HX2 := Lib.hid (HX2b.out.below hb7 HX2b.out.lt)
    have HV1b := Lib.hid (HV1.out.below hb7)
    have HV2b := Lib.hid (HV2.out.below hb7)
    clear hb7 HX1b HX2b HV1 HV2 HB6 HGD
    by_cases hEB : EB = 0
    · subst hEB
      go_wp2_with
        (with_reducible show wpList _ _ _ (Oper.mk _ (Op.load 35 _) _ _ _ _ :: _) _ _; apply pin)
      refine wpList_load_blk_w (by rfl) _ _ rfl _ rfl _ HX1.out Tryz.underlying35 rfl (info_msg _ _ _ _) ?_
      go_wp2_with
        (with_reducible show wpList _ _ _ (Oper.mk _ (Op.load 35 _) _ _ _ _ :: _) _ _; apply pin)
      refine wpList_load_blk_w (by rfl) _ _ rfl _ rfl _ HX2.out Tryz.underlying35 rfl (info_msg _ _ _ _) ?_
      go_wp2_with fail
      refine (HSM.out _ _ _ _ _ _ _ _ trivial trivial HV1b.out.v HV2b.out.v).mono ?_
      rintro e w8 ⟨rfl, hb8⟩
      have HB8 := Lib.hid (bb HB7.out hb8)
      clear hb8 HSM
      go_wp2_with fail
      go_ret
      exact ⟨rfl, HB8.out⟩
    · have hz : (EB != 0) = true := by simpa using hEB
      go_wp2_with fail
      go_ret
      exact ⟨rfl, HB7.out⟩
  · have hz0 : (EA == 0) = false := by simpa using hEA
    have hz1 : (EA != 0) = true := by simpa using hEA
    clear hEA
    go_wp2_with fail
    go_ret
    exact ⟨rfl, HB5.out⟩
end Go.Proofs.YtgidfnhfgiehjaaGreatDoor
end

section
namespace Go.Proofs.YtgidfnhfgiehjaaGreatDoor
open Go.Lib
set_option maxRecDepth 100000
theorem accept_eq : (Rows.laid_unicode_utf8_acceptRanges : DataW Unit) = Lib.acceptData := by kernel_rfl
theorem tabs_of_laid {W : World} (h : laidMetH Tryz.prog [("unicode/utf8.acceptRanges", Rows.laid_unicode_utf8_acceptRanges), ("unicode/utf8.first", Rows.laid_unicode_utf8_first)] W) : Tabs W := by
  have h4 := Lib.laidMet.reads h (.head _)
  have h3 := Lib.laidMet.reads h (.tail _ (.head _))
  rw [accept_eq] at h4
  rw [show Rows.laid_unicode_utf8_first = Lib.firstData from Pinned.utf8First_eq] at h3
  exact utf8Tabs_of_readsT (U8Types.of196 Tryz.lays196) ⟨by kernel_rfl, by kernel_rfl, by kernel_rfl, by kernel_rfl, by kernel_rfl, by kernel_rfl, by kernel_rfl⟩ h3 h4
noncomputable def laidWorld (os : Os) : World :=
  let w0 := World.holding Tryz.prog os ⟨#[], #[], []⟩
  let put (h : Array Obj) (g : Nat) (cs : Array Value) : Array Obj := h.modify g fun
    | .cells _ t frozen => .cells cs t frozen
    | o => o
  let h1 := put w0.heap (Tryz.lays196_ren.g 3) (Lib.firstTab.map fun z => Value.int .u8 z).toArray
  let h2 := put h1 (Tryz.lays196_ren.g 4) ((List.range 16).flatMap fun i => [Value.int .u8 (Lib.accLo i), Value.int .u8 (Lib.accHi i)]).toArray
  { w0 with heap := h2 }
theorem laid_met (os : Os) (args : Array Value) : laidMet Tryz.prog [("unicode/utf8.acceptRanges", Rows.laid_unicode_utf8_acceptRanges), ("unicode/utf8.first", Rows.laid_unicode_utf8_first)] ((laidWorld os).forCall (fun _ _ => 0) ⟨#[], args, []⟩).memory :=
  (LaidIn.of_run (l := [("unicode/utf8.acceptRanges", Rows.laid_unicode_utf8_acceptRanges), ("unicode/utf8.first", Rows.laid_unicode_utf8_first)]) [Tryz.lays196_ren.g 4, Tryz.lays196_ren.g 3] 8 (by kernel_rfl) (by kernel_rfl) (by kernel_rfl) (by kernel_rfl)).met
theorem own : ownKnob Tryz.prog.godebug = none := by kernel_rfl
theorem laidOut : laidOutB Tryz.prog = true := by kernel_rfl
end Go.Proofs.YtgidfnhfgiehjaaGreatDoor
end
