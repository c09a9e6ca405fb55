/-
  Texts of the proof, joined: RDescr2 DescrLaw3 Laid Open. Conditions: as each names.
-/
import Derived.Test.YtgbgbdocgpdkgaaGreatDoorBan
import Derived.Test.YtgbgbdocgpdkgaaGreatDoorBam
import Derived.Test.YtgbgbdocgpdkgaaGreatDoorRows
import Derived.Test.YtgbgbdocgpdkgaaGreatDoorBah
import Derived.PinnedBridge
import Derived.Lib.LaidIn
import Derived.Lib.LaidU8T
import Derived.Deep.DeepHandedRow
import Derived.Deep.DeepWitnessRowRef
import Derived.Test.YtgbgbdocgpdkgaaGreatDoorBab
import Derived.ProofKit
import Derived.OpenShut
import Derived.Deep.SlicePairs

section
/-
  The contract of layer 12's reference of what comes of any entries. Conditions: texts within int.
-/
namespace Go.Proofs.YtgbgbdocgpdkgaaGreatDoor
open Go.RowKit Go.PM
set_option maxRecDepth 100000
set_option maxHeartbeats 4000000
attribute [local go_sem ↓] Go.wp_at_zero Go.wp_at_succ

theorem own_cap {w : World} {base e n c : Nat} {A : Option Addr} {xs : List Value} (h : w.ownsRow base e 2 (.slice A n c) n xs) : c ≤ 9223372036854775807 := by
  rcases h.2 with ⟨h1, _⟩ | ⟨g', cap, cur, h1, _, _, _, h2, _⟩
  · injection h1 with _ _ h1; omega
  · injection h1 with _ _ h1
    unfold maxLen at h2
    omega
/-- Where the outer loop of the document's Of stands. -/
def RoAt (w : World) (l : List Ent) (k : Nat) (out : Value) (wr : World) : Prop :=
  ∃ (O : List Ent) (A : Option Addr) (c : Nat), out = .slice A k c ∧ O.length = k ∧ Rd wr A (ents O) ∧ k ≤ c ∧ c ≤ 9223372036854775807 ∧ esort l = efold O (l.drop k) ∧ Below w.heap.size w wr ∧ (k = 0 → A = none ∧ c = 0) ∧ ESz O
/-- The three appends. -/
theorem ins_run {W : World} {A B : Option Addr} {c k j cB : Nat} {O : List Ent} {x : Ent} (hO : O.length = k) (hr : Rd W A (ents O)) (hk : k ≤ 1000) (hj : j ≤ k) (hB : (B = A ∧ k - j = 0) ∨ ∃ b o, A = some ⟨b, o, none⟩ ∧ B = some ⟨b, o + j * 2, none⟩) (hx : eins x O = O.take j ++ x :: O.drop j) :
    ∃ (A1 : Option Addr) (c1 : Nat) (w1 : World), (Builtin.append_ #[35, 35] 35 #[.slice none 0 0, .slice A j c]).run Tryz.prog W = .ok (.slice A1 j c1) w1 ∧ Below W.heap.size W w1 ∧
    ∃ (A2 : Option Addr) (c2 : Nat) (w2 : World), (Builtin.append_ #[35, 35] 35 #[.slice A1 j c1, .slice (some ⟨w1.heap.size, 0, none⟩) 1 1]).run Tryz.prog (w1.alloc (.cells #[.string (txt x.1), .string (txt x.2)] 44)) = .ok (.slice A2 (j + 1) c2) w2 ∧ Below W.heap.size W w2 ∧
    ∃ (A3 : Option Addr) (c3 : Nat) (w3 : World), (Builtin.append_ #[35, 35] 35 #[.slice A2 (j + 1) c2, .slice B (k - j) cB]).run Tryz.prog w2 = .ok (.slice A3 (k + 1) c3) w3 ∧ Below W.heap.size W w3 ∧
      Rd w3 A3 (ents (eins x O)) ∧ k + 1 ≤ c3 ∧ c3 ≤ 9223372036854775807 := by
  obtain ⟨i0, hi0, hz0, hz1, hz2⟩ := info_parts info_rent
  have l1 : (O.take j).length = j := by rw [List.length_take]; omega
  have l2 : (O.drop j).length = k - j := by rw [List.length_drop]; omega
  have fr : ∀ {w w' : World} {A : Option Addr} {n c : Nat} {xs : List Value}, Below W.heap.size W w → w.ownsRow W.heap.size 44 2 (.slice A n c) n xs → w.grownBy w' (Value.slice A n c).ownBlock → Below W.heap.size W w' := fun hb ho hg => below_append (a := W) (e := 44) hb ho hg
  have own0 : W.ownsRow W.heap.size 44 2 (.slice none ([] : List Ent).length 0) ([] : List Ent).length (ents []) := World.ownsRow_nil _ _ _ _
  obtain ⟨A1, c1, w1, r1, own1, g1, _⟩ := eapp_run (d := c) (l := []) (m := O.take j) 35 35 44 i0 Tryz.underlying35 hi0 hz0 hz1 hz2 own0 (hr.fst j) (by simp only [List.length_nil]; omega) (Nat.le_refl _)
  have hb1 := fr b0 own0 g1
  rw [l1, List.length_nil, Nat.zero_add] at r1 own1
  rw [List.nil_append] at own1
  have hbo := ba (a := w1) b0 (.cells #[.string (txt x.1), .string (txt x.2)] 44)
  have hy := World.news_of_block (cs := #[.string (txt x.1), .string (txt x.2)]) (t := 44) (fr := (0, 0)) (heap_alloc_new w1 (.cells #[.string (txt x.1), .string (txt x.2)] 44))
  have hrx : Rd (w1.alloc (.cells #[.string (txt x.1), .string (txt x.2)] 44)) (some ⟨w1.heap.size, 0, none⟩) (ents [x]) := by
    refine .inr ⟨_, _, rfl, by simp, fun q u hq => ?_⟩
    have := hy q u hq
    rwa [add_at, ← Nat.zero_add q] at this
  have own1' : (w1.alloc (.cells #[.string (txt x.1), .string (txt x.2)] 44)).ownsRow W.heap.size 44 2 (.slice A1 (O.take j).length c1) (O.take j).length (ents (O.take j)) := by rw [l1]; exact own_below own1 hbo
  obtain ⟨A2, c2, w2, r2, own2, g2, _⟩ := eapp_run (d := 1) (l := O.take j) (m := [x]) 35 35 44 i0 Tryz.underlying35 hi0 hz0 hz1 hz2 own1' hrx (by simp only [List.length_singleton]; omega) (Nat.le_trans hb1.size hbo.size)
  have hb2 := fr (bb hb1 hbo) own1' g2
  have l3 : (O.take j ++ [x]).length = j + 1 := by rw [List.length_append, l1]; rfl
  rw [l1, List.length_singleton] at r2
  have own2' : w2.ownsRow W.heap.size 44 2 (.slice A2 (O.take j ++ [x]).length c2) (O.take j ++ [x]).length (ents (O.take j ++ [x])) := by
    rw [l1, List.length_singleton] at own2
    rw [l3]
    exact own2
  have hrB : Rd w2 B (ents (O.drop j)) := by
    rcases hB with ⟨_, h0⟩ | ⟨b, o, rfl, rfl⟩
    · left
      rw [List.eq_nil_of_length_eq_zero (l2.trans h0)]
      rfl
    · exact (hr.below hb2).sub j
  obtain ⟨A3, c3, w3, r3, own3, g3, _⟩ := eapp_run (d := cB) (l := O.take j ++ [x]) (m := O.drop j) 35 35 44 i0 Tryz.underlying35 hi0 hz0 hz1 hz2 own2' hrB (by rw [l3, l2]; omega) hb2.size
  have hb3 := fr hb2 own2' g3
  have l4 : (O.take j ++ [x]).length + (O.drop j).length = k + 1 := by rw [l3, l2]; omega
  rw [l4] at own3 r3
  rw [l3, l2] at r3
  have hcp := own_cap own3
  obtain ⟨A9, c9, hv, hrd, hcc, _⟩ := Rd.own own3
  injection hv with e1 e2 e3
  subst e1 e3
  refine ⟨A1, c1, w1, r1, hb1, A2, c2, w2, r2, hb2, A3, c3, w3, r3, hb3, ?_, hcc, hcp⟩
  rw [hx, show O.take j ++ x :: O.drop j = (O.take j ++ [x]) ++ O.drop j by simp]
  exact hrd
theorem ecmpR_any (x y : Ent) (W : World) (hx : x.1.length ≤ 140737488351232 ∧ x.2.length ≤ 140737488351232) : Calls Tryz.prog 40 #[.agg #[.string (txt x.1), .string (txt x.2)], .agg #[.string (txt y.1), .string (txt y.2)]] W fun e w' => e = .returned (.int .i64 (ecm x y)) ∧ Below W.heap.size W w' :=
  rcmp_any (txt x.1) (txt x.2) (txt y.1) (txt y.2) W (by rw [txt_size]; omega) (by rw [txt_size]; omega)
theorem rof12_any (A : Option Addr) (c : Nat) (l : List Ent) (w : World) (hr : Rd w A (ents l)) (hz : ESz l) (hl : l.length ≤ 9223372036854775807) :
    Calls Tryz.prog 13 #[.slice A l.length c] w (OfEnd12 w l) := by
  have HR := Lib.hid hr
  have HZ := Lib.hid hz
  have wl : IntKind.u64.wrap (l.length : Int) = (l.length : Int) := by rw [IntKind.wrap_u64]; omega
  have HM : Hid (∀ x : World, Calls Tryz.prog 38 #[.int .u64 (l.length : Int)] x fun e w' => e = .returned (.int .i64 (dmany l.length)) ∧ w' = x) := fun x => count_any12 l.length x
  have HNO : Hid (∀ E w', dof echk l = ([], E) → Below w.heap.size w w' → OfEnd12 w l (.returned (.tuple #[.slice none 0 0, .int .i64 E])) w') := fun E w' h hb => by
    unfold OfEnd12
    rw [h]
    exact ⟨_, rfl, sle_nil w', hb⟩
  obtain ⟨E0, hE0⟩ : ∃ E0, E0 = if dmany l.length ≠ 0 then dmany l.length else dall echk l := ⟨_, rfl⟩
  have HD1 : Hid (E0 ≠ 0 → dof echk l = ([], E0)) := fun h => by
    unfold dof
    by_cases hm : dmany l.length ≠ 0
    · rw [if_pos hm] at hE0 ⊢; rw [hE0]
    · rw [if_neg hm] at hE0 ⊢
      rw [hE0] at h ⊢
      rw [if_pos h]
  have HD2 : Hid (E0 = 0 → dof echk l = if dtw (esort l) = true then ([], 14) else (esort l, 0)) := fun h => by
    unfold dof
    by_cases hm : dmany l.length ≠ 0
    · rw [if_pos hm] at hE0; exact absurd (hE0.symm.trans h) hm
    · rw [if_neg hm] at hE0 ⊢
      rw [if_neg (by rw [← hE0, h]; simp)]
  have HL16 : Hid (E0 = 0 → l.length ≤ 16 ∧ l ≠ []) := fun h => by
    by_cases hm : dmany l.length ≠ 0
    · rw [if_pos hm] at hE0; exact absurd (hE0.symm.trans h) hm
    · unfold dmany at hm
      by_cases h0 : l.length = 0
      · rw [if_pos h0] at hm; exact absurd (by decide) hm
      by_cases h1 : 16 < l.length
      · rw [if_neg h0, if_pos h1] at hm; exact absurd (by decide) hm
      exact ⟨by omega, fun e => h0 (by rw [e]; rfl)⟩
  have H0 : Hid (E0 = if dmany l.length ≠ 0 then dmany l.length else dall echk (l.drop 0)) := hE0
  generalize dmany l.length = M at *
  clear hr hz hE0
  go_enter Tryz.func13, Tryz.ntmps13
  go_wp2_with fail
  refine (HM.out _).mono ?_
  rintro e w1 ⟨rfl, rfl⟩
  go_wp2_with fail
  go_loopg [4, 5] l.length (fun gk ei ki wr => ∃ (k : Nat) (E : Int), k ≤ l.length ∧ l.length - k ≤ gk ∧ ki = .int .i64 (k : Int) ∧ ei = .int .i64 E ∧ Hid (E0 = if E ≠ 0 then E else dall echk (l.drop k)) ∧ Below w1.heap.size w1 wr)
  case atStart => exact ⟨0, M, Nat.zero_le _, by omega, rfl, rfl, H0, b0⟩
  case round =>
    obtain ⟨k, E, hk, hgk, rfl, rfl, HF, hbel⟩ := hrel
    have HB := Lib.hid hbel
    by_cases hE : E = 0
    · subst hE
      by_cases hlt : k < l.length
      · obtain ⟨b, off, hA, hbl, c0, c1⟩ := (HR.out.below HB.out).ent hlt
        have hf := HF.out
        rw [if_neg (by simp), List.drop_eq_getElem_cons hlt, dall] at hf
        obtain ⟨z0, z1⟩ := HZ.out _ (List.getElem_mem hlt)
        generalize l[k] = x at *
        obtain ⟨x0, x1⟩ := x
        simp only at c0 c1 z0 z1
        change E0 = if echk x0 x1 ≠ 0 then echk x0 x1 else dall echk (l.drop (k + 1)) at hf
        have HC := Lib.hid (rcheckE_any (txt x0) (txt x1) wr (by rw [txt_size]; omega) (by rw [txt_size]; omega))
        rw [txt_list, txt_list] at HC
        generalize echk x0 x1 = C at *
        have HN := Lib.hid hf
        clear hf hbel HF H0
        subst hA
        go_wp2_with fail
        refine HC.out.mono ?_
        rintro e w2 ⟨rfl, hb2⟩
        have HB2 := Lib.hid (bb HB.out hb2)
        clear hb2 HC
        go_wp2_with fail
        go_roundg (l.length - (k + 1))
        case measure => omega
        case rel => exact ⟨k + 1, _, by omega, Nat.le_refl _, by go_num, rfl, HN, HB2.out⟩
      · have hf := HF.out
        have hkl : k = l.length := by omega
        rw [if_neg (by simp), List.drop_of_length_le (by omega), dall] at hf
        have HL := Lib.hid (HL16.out hf)
        have HDD := Lib.hid (HD2.out hf)
        clear HL16 HD1 HD2 HF H0 hf hbel
        have HL16 := HL
        clear HL
        subst hkl
        have HS0 : Hid (RoAt w1 l 0 (.slice none 0 0) wr) := ⟨[], none, 0, rfl, rfl, .inl rfl, Nat.le_refl _, by omega, rfl, HB.out, fun _ => ⟨rfl, rfl⟩, fun e he => by cases he⟩
        go_wp2_with fail
        go_loopg [6, 36] l.length (fun gk2 out ki wr => ∃ k : Nat, k ≤ l.length ∧ l.length - k ≤ gk2 ∧ ki = .int .i64 (k : Int) ∧ Hid (RoAt w1 l k out wr))
        case atStart => exact ⟨0, Nat.zero_le _, by omega, rfl, HS0⟩
        case round =>
          clear HS0
          obtain ⟨k, hk, hgk2, rfl, HS⟩ := hrel
          obtain ⟨O, Ao, co, rfl, hol, hrdo, hkc, hco, hef, hbel, hk0, hzo⟩ := HS.out
          have HOL := Lib.hid hol
          have HEF := Lib.hid hef
          have HZO := Lib.hid hzo
          by_cases hlt : k < l.length
          · obtain ⟨b, off, hA, hbl, c0, c1⟩ := (HR.out.below hbel).ent hlt
            have hzx := HZ.out _ (List.getElem_mem hlt)
            generalize hxe : l[k] = x at *
            have hxb := BlkAt.made wr 44 #[.string (txt x.1), .string (txt x.2)]
            have hbo := ba (a := wr) b0 (.cells #[.string (txt x.1), .string (txt x.2)] 44)
            have HXB := Lib.hid hxb
            have HBX := Lib.hid (bb hbel hbo)
            have HRD := Lib.hid (hrdo.below hbo)
            have HZX : Hid (x.1.length ≤ 140737488351232 ∧ x.2.length ≤ 140737488351232) := hzx
            have HXE := Lib.hid hxe
            clear hxb hbo hrdo hbel hol hef hzo hzx HS hxe
            have HK0 := Lib.hid hk0
            clear hk0
            subst hA
            go_wp2_with fail
            generalize hW : wr.alloc (.cells #[.string (txt x.1), .string (txt x.2)] 44) = W at *
            generalize hpx : wr.heap.size = px at *
            clear hW hpx c0 c1 hbl
            go_loopg [9] k (fun gk3 ji wr => ∃ j : Nat, j ≤ k ∧ k - j ≤ gk3 ∧ ji = .int .i64 (j : Int) ∧ Hid (∀ i (h : i < O.length), i < j → ecm O[i] x < 0) ∧ Below W.heap.size W wr)
            case atStart => exact ⟨0, Nat.zero_le _, by omega, rfl, fun q h hq => by omega, b0⟩
            case round =>
              obtain ⟨j, hj, hgk3, rfl, HLT, hbi⟩ := hrel
              by_cases hjk : j < k
              · obtain ⟨b2, o2, rfl, hbl2, d0, d1⟩ := (HRD.out.below hbi).ent (k := j) (by rw [HOL.out]; exact hjk)
                obtain ⟨zj0, zj1⟩ := HZO.out _ (List.getElem_mem (by rw [HOL.out]; exact hjk : j < O.length))
                have hnl : ∀ h : j < O.length, O[j] = O[j]'(by rw [HOL.out]; exact hjk) := fun _ => rfl
                generalize O[j]'(by rw [HOL.out]; exact hjk) = y at *
                obtain ⟨C, hC⟩ : ∃ C, C = ecm y x := ⟨_, rfl⟩
                have HCM : Hid (∀ n : BelW wr, Calls Tryz.prog 40 #[.agg #[.string (txt y.1), .string (txt y.2)], .agg #[.string (txt x.1), .string (txt x.2)]] n.wld fun e w' => e = .returned (.int .i64 C) ∧ Below n.wld.heap.size n.wld w') := fun n => by
                  rw [hC]
                  exact ecmpR_any y x n.wld ⟨zj0, zj1⟩
                have hx0 := HXB.out.below hbi HXB.out.lt
                have n0 : ∀ n : BelW wr, n.wld.cell? ⟨b2, o2 + j * 2, none⟩ = some (.string (txt y.1)) := fun n => (World.cell?_of_block (a := ⟨b2, o2 + j * 2, none⟩) (n.bel.block b2 hbl2)).trans d0
                have n1 : ∀ n : BelW wr, n.wld.cell? ⟨b2, o2 + j * 2 + 1, none⟩ = some (.string (txt y.2)) := fun n => (World.cell?_of_block (a := ⟨b2, o2 + j * 2 + 1, none⟩) (n.bel.block b2 hbl2)).trans d1
                have n2 : ∀ n : BelW wr, n.wld.cell? ⟨px, 0, none⟩ = some (.string (txt x.1)) := fun n => (hx0.below n.bel hx0.lt).cell 0
                have n3 : ∀ n : BelW wr, n.wld.cell? ⟨px, 1, none⟩ = some (.string (txt x.2)) := fun n => (hx0.below n.bel hx0.lt).cell 1
                have hji3 : (j : Int) < (k : Int) := by omega
                have HBI := Lib.hid hbi
                have HNL := Lib.hid hnl
                have HCE := Lib.hid hC
                clear d0 d1 hx0 hbi hnl hC zj0 zj1
                by_cases hC0 : C < 0
                · have HNX : Hid (∀ i (h : i < O.length), i < j + 1 → ecm O[i] x < 0) := fun q h hq => by
                    by_cases e : q = j
                    · subst e
                      rw [HNL.out h, ← HCE.out]
                      exact hC0
                    · exact HLT.out q h (by omega)
                  clear HNL HCE HLT
                  go_wp2_with fail
                  refine wp_region_below_lit (by kernel_rfl) (by kernel_rfl) ?_
                  repeat (first | go_big_quiet_skip | (go_big_quiet_want; go_big_quiet_op; first | go_big_quiet_on | (apply Exists.intro; refine ⟨fun nq => ?_, ?_⟩; (go_at_call 40; exact below_of (HCM.out _)); go_big_quiet_on)))
                  refine wpQuiet_nil ?_
                  intro wq hnq
                  obtain ⟨nq, rfl⟩ := hnq
                  have hq := nq.bel
                  generalize nq.wld = wq at hq ⊢
                  clear nq
                  have HBQ := Lib.hid (bb HBI.out hq)
                  clear hq n0 n1 n2 n3 HCM
                  go_wp2_with fail
                  go_roundg (k - (j + 1))
                  case measure => omega
                  case rel => exact ⟨j + 1, by omega, Nat.le_refl _, by go_num, HNX, HBQ.out⟩
                · have HNN : Hid (∀ h : j < O.length, ¬ ecm O[j] x < 0) := fun h => by rw [HNL.out h, ← HCE.out]; exact hC0
                  clear HNL HCE
                  go_wp2_with fail
                  refine wp_region_below_lit (by kernel_rfl) (by kernel_rfl) ?_
                  repeat (first | go_big_quiet_skip | (go_big_quiet_want; go_big_quiet_op; first | go_big_quiet_on | (apply Exists.intro; refine ⟨fun nq => ?_, ?_⟩; (go_at_call 40; exact below_of (HCM.out _)); go_big_quiet_on)))
                  refine wpQuiet_nil ?_
                  intro wq hnq
                  obtain ⟨nq, rfl⟩ := hnq
                  have hq := nq.bel
                  generalize nq.wld = wq at hq ⊢
                  clear nq
                  have hbi := bb HBI.out hq
                  have hcj : ¬ co = j := by omega
                  clear hq n0 n1 n2 n3 HCM
                  have hxi : eins x O = O.take j ++ x :: O.drop j := eins_at x O j (by have := HOL.out; omega) (fun q h hq => HLT.out q h hq) (fun h => by have := HNN.out h; omega)
                  obtain ⟨B1, d1, v1, r1, hb1, B2, d2, v2, r2, hb2, B3, d3, v3, r3, hb3, hrd3, hk3, hd3⟩ := ins_run (c := co) (B := some ⟨b2, o2 + j * 2, none⟩) (cB := co - j) HOL.out (HRD.out.below hbi) (by have := HL16.out.1; omega) (by omega) (.inr ⟨b2, o2, rfl, rfl⟩) hxi
                  skip
                  have hx1 := HXB.out.below (bb hbi hb1) HXB.out.lt
                  have u0 := hx1.cell 0
                  have u1 := hx1.cell 1
                  simp at u0 u1
                  have HN : Hid (RoAt w1 l (k + 1) (.slice B3 (k + 1) d3) v3) := by
                    refine ⟨eins x O, B3, d3, rfl, ?_, hrd3, hk3, hd3, ?_, bb HBX.out (bb hbi hb3), fun h => by omega, ?_⟩
                    · rw [(eins_perm x O).length_eq, List.length_cons, HOL.out]
                    · rw [HEF.out, List.drop_eq_getElem_cons hlt, efold, HXE.out]
                    · intro e he
                      rcases List.mem_cons.1 ((eins_perm x O).mem_iff.1 he) with rfl | he
                      · exact HZX.out
                      · exact HZO.out e he
                  have HR1 := Lib.hid r1
                  have HR2 := Lib.hid r2
                  have HR3 := Lib.hid r3
                  have hji1 : (0 : Int) ≤ (j : Int) := by omega
                  have hji2 : (j : Int) ≤ (k : Int) := by omega
                  clear hxi r1 r2 r3 hb1 hb2 hb3 hrd3 hk3 hd3 hx1
                  clear HBI HNN HLT
                  go_wp2_with (first
                    | (at_builtin; (refine wpList_append_run rfl _ _ _ _ rfl _ _ _ rfl rfl HR1.out ?_; clear HR1))
                    | (at_builtin; (refine wpList_append_run rfl _ _ _ _ rfl _ _ _ rfl rfl HR2.out ?_; clear HR2))
                    | (at_builtin; (refine wpList_append_run rfl _ _ _ _ rfl _ _ _ rfl rfl HR3.out ?_; clear HR3)))
                  go_roundg (l.length - (k + 1))
                  case measure => omega
                  case rel => exact ⟨k + 1, by omega, Nat.le_refl _, by go_num, HN⟩
              · obtain rfl : k = j := by omega
                have HNN : Hid (∀ h : k < O.length, ¬ ecm O[k] x < 0) := fun h => absurd (HOL.out) (by omega)
                by_cases hk1 : k = 0
                · obtain ⟨rfl, rfl⟩ := HK0.out hk1
                  subst hk1
                  have hbi0 := hbi
                  clear hbi
                  go_wp2_with fail
                  go_quiet (fail)
                  have hbi := bn hbi0 nq
                  have hxi : eins x O = O.take 0 ++ x :: O.drop 0 := eins_at x O 0 (by have := HOL.out; omega) (fun q h hq => HLT.out q h hq) (fun h => by have := HNN.out h; omega)
                  obtain ⟨B1, d1, v1, r1, hb1, B2, d2, v2, r2, hb2, B3, d3, v3, r3, hb3, hrd3, hk3, hd3⟩ := ins_run (c := 0) (B := none) (cB := 0) HOL.out (HRD.out.below hbi) (by have := HL16.out.1; omega) (by omega) (.inl ⟨rfl, rfl⟩) hxi
                  skip
                  have hx1 := HXB.out.below (bb hbi hb1) HXB.out.lt
                  have u0 := hx1.cell 0
                  have u1 := hx1.cell 1
                  simp at u0 u1
                  have HN : Hid (RoAt w1 l (0 + 1) (.slice B3 (0 + 1) d3) v3) := by
                    refine ⟨eins x O, B3, d3, rfl, ?_, hrd3, hk3, hd3, ?_, bb HBX.out (bb hbi hb3), fun h => by omega, ?_⟩
                    · rw [(eins_perm x O).length_eq, List.length_cons, HOL.out]
                    · rw [HEF.out, List.drop_eq_getElem_cons hlt, efold, HXE.out]
                    · intro e he
                      rcases List.mem_cons.1 ((eins_perm x O).mem_iff.1 he) with rfl | he
                      · exact HZX.out
                      · exact HZO.out e he
                  have HR1 := Lib.hid r1
                  have HR2 := Lib.hid r2
                  have HR3 := Lib.hid r3
                  have hji1 : (0 : Int) ≤ (0 : Int) := by omega
                  have hji2 : (0 : Int) ≤ (0 : Int) := by omega
                  clear hxi r1 r2 r3 hb1 hb2 hb3 hrd3 hk3 hd3 hx1
                  clear HNN HLT
                  go_wp2_with (first
                    | (at_builtin; (refine wpList_append_run rfl _ _ _ _ rfl _ _ _ rfl rfl HR1.out ?_; clear HR1))
                    | (at_builtin; (refine wpList_append_run rfl _ _ _ _ rfl _ _ _ rfl rfl HR2.out ?_; clear HR2))
                    | (at_builtin; (refine wpList_append_run rfl _ _ _ _ rfl _ _ _ rfl rfl HR3.out ?_; clear HR3)))
                  go_roundg (l.length - (0 + 1))
                  case measure => omega
                  case rel => exact ⟨0 + 1, by omega, Nat.le_refl _, by go_num, HN⟩
                · obtain ⟨b2, o2, rfl, _⟩ := (HRD.out.below hbi).ent (k := 0) (by rw [HOL.out]; omega)
                  by_cases hcj : co = k
                  · subst hcj
                    have hbi0 := hbi
                    clear hbi
                    go_wp2_with fail
                    go_quiet (fail)
                    have hbi := bn hbi0 nq
                    have hxi : eins x O = O.take co ++ x :: O.drop co := eins_at x O co (by have := HOL.out; omega) (fun q h hq => HLT.out q h hq) (fun h => by have := HNN.out h; omega)
                    obtain ⟨B1, d1, v1, r1, hb1, B2, d2, v2, r2, hb2, B3, d3, v3, r3, hb3, hrd3, hk3, hd3⟩ := ins_run (c := co) (B := some ⟨b2, o2, none⟩) (cB := 0) HOL.out (HRD.out.below hbi) (by have := HL16.out.1; omega) (by omega) (.inl ⟨rfl, by omega⟩) hxi
                    rw [Nat.sub_self] at r3
                    have hx1 := HXB.out.below (bb hbi hb1) HXB.out.lt
                    have u0 := hx1.cell 0
                    have u1 := hx1.cell 1
                    simp at u0 u1
                    have HN : Hid (RoAt w1 l (co + 1) (.slice B3 (co + 1) d3) v3) := by
                      refine ⟨eins x O, B3, d3, rfl, ?_, hrd3, hk3, hd3, ?_, bb HBX.out (bb hbi hb3), fun h => by omega, ?_⟩
                      · rw [(eins_perm x O).length_eq, List.length_cons, HOL.out]
                      · rw [HEF.out, List.drop_eq_getElem_cons hlt, efold, HXE.out]
                      · intro e he
                        rcases List.mem_cons.1 ((eins_perm x O).mem_iff.1 he) with rfl | he
                        · exact HZX.out
                        · exact HZO.out e he
                    have HR1 := Lib.hid r1
                    have HR2 := Lib.hid r2
                    have HR3 := Lib.hid r3
                    have hji1 : (0 : Int) ≤ (co : Int) := by omega
                    have hji2 : (co : Int) ≤ (co : Int) := by omega
                    clear hxi r1 r2 r3 hb1 hb2 hb3 hrd3 hk3 hd3 hx1
                    clear HNN HLT
                    go_wp2_with (first
                      | (at_builtin; (refine wpList_append_run rfl _ _ _ _ rfl _ _ _ rfl rfl HR1.out ?_; clear HR1))
                      | (at_builtin; (refine wpList_append_run rfl _ _ _ _ rfl _ _ _ rfl rfl HR2.out ?_; clear HR2))
                      | (at_builtin; (refine wpList_append_run rfl _ _ _ _ rfl _ _ _ rfl rfl HR3.out ?_; clear HR3)))
                    go_roundg (l.length - (co + 1))
                    case measure => omega
                    case rel => exact ⟨co + 1, by omega, Nat.le_refl _, by go_num, HN⟩
                  · have hbi0 := hbi
                    clear hbi
                    go_wp2_with fail
                    go_quiet (fail)
                    have hbi := bn hbi0 nq
                    have hxi : eins x O = O.take k ++ x :: O.drop k := eins_at x O k (by have := HOL.out; omega) (fun q h hq => HLT.out q h hq) (fun h => by have := HNN.out h; omega)
                    obtain ⟨B1, d1, v1, r1, hb1, B2, d2, v2, r2, hb2, B3, d3, v3, r3, hb3, hrd3, hk3, hd3⟩ := ins_run (c := co) (B := some ⟨b2, o2 + k * 2, none⟩) (cB := co - k) HOL.out (HRD.out.below hbi) (by have := HL16.out.1; omega) (by omega) (.inr ⟨b2, o2, rfl, rfl⟩) hxi
                    rw [Nat.sub_self] at r3
                    have hx1 := HXB.out.below (bb hbi hb1) HXB.out.lt
                    have u0 := hx1.cell 0
                    have u1 := hx1.cell 1
                    simp at u0 u1
                    have HN : Hid (RoAt w1 l (k + 1) (.slice B3 (k + 1) d3) v3) := by
                      refine ⟨eins x O, B3, d3, rfl, ?_, hrd3, hk3, hd3, ?_, bb HBX.out (bb hbi hb3), fun h => by omega, ?_⟩
                      · rw [(eins_perm x O).length_eq, List.length_cons, HOL.out]
                      · rw [HEF.out, List.drop_eq_getElem_cons hlt, efold, HXE.out]
                      · intro e he
                        rcases List.mem_cons.1 ((eins_perm x O).mem_iff.1 he) with rfl | he
                        · exact HZX.out
                        · exact HZO.out e he
                    have HR1 := Lib.hid r1
                    have HR2 := Lib.hid r2
                    have HR3 := Lib.hid r3
                    have hji1 : (0 : Int) ≤ (k : Int) := by omega
                    have hji2 : (k : Int) ≤ (k : Int) := by omega
                    clear hxi r1 r2 r3 hb1 hb2 hb3 hrd3 hk3 hd3 hx1
                    clear HNN HLT
                    go_wp2_with (first
                      | (at_builtin; (refine wpList_append_run rfl _ _ _ _ rfl _ _ _ rfl rfl HR1.out ?_; clear HR1))
                      | (at_builtin; (refine wpList_append_run rfl _ _ _ _ rfl _ _ _ rfl rfl HR2.out ?_; clear HR2))
                      | (at_builtin; (refine wpList_append_run rfl _ _ _ _ rfl _ _ _ rfl rfl HR3.out ?_; clear HR3)))
                    go_roundg (l.length - (k + 1))
                    case measure => omega
                    case rel => exact ⟨k + 1, by omega, Nat.le_refl _, by go_num, HN⟩
          · obtain rfl : k = l.length := by omega
            have hes : esort l = O := by rw [hef, List.drop_of_length_le (Nat.le_refl _)]; rfl
            have HY : Hid (dtw O = true → dof echk l = ([], 14)) := fun h => by rw [HDD.out, hes, if_pos h]
            have HN : Hid (dtw O = false → dof echk l = (O, 0)) := fun h => by rw [HDD.out, hes, if_neg (by rw [h]; simp)]
            have HRS := Lib.hid hrdo
            have HB3 := Lib.hid hbel
            have HES : Hid (∀ x : World, Below wr.heap.size wr x → dtw O = false → OfEnd12 w1 l (.returned (.tuple #[.slice Ao l.length co, .int .i64 0])) x) := fun x hx h => by
              unfold OfEnd12
              rw [HN.out h]
              exact ⟨_, rfl, ⟨Ao, co, by rw [HOL.out], HRS.out.below hx, by rw [HOL.out]; exact hkc⟩, bb HB3.out hx⟩
            have H0 : Hid (dtw O = dtw (O.drop (1 - 1))) := rfl
            obtain ⟨wo, hwo⟩ : ∃ wo, wo = wr := ⟨_, rfl⟩
            subst hwo
            clear hrdo hbel hef hol hzo HN hes HS hk0 HDD HEF
            have hlpos := List.length_pos_iff.2 HL16.out.2
            go_wp2_with fail
            go_loopg [11] l.length (fun gk3 vi wr => ∃ i : Nat, 1 ≤ i ∧ i ≤ l.length ∧ l.length - i ≤ gk3 ∧ vi = .int .i64 (i : Int) ∧ Below wo.heap.size wo wr ∧ Hid (dtw O = dtw (O.drop (i - 1))))
            case atStart => exact ⟨1, Nat.le_refl _, hlpos, by omega, rfl, b0, H0⟩
            case round =>
              obtain ⟨i, hi1, hi2, hgk3, rfl, hb4, HD⟩ := hrel
              obtain ⟨j, rfl⟩ : ∃ j, i = j + 1 := ⟨i - 1, by omega⟩
              have hji : ((j + 1 : Nat) : Int) - 1 = (j : Int) := by omega
              rw [Nat.add_sub_cancel] at HD
              have hoL := HOL.out
              by_cases hil : j + 1 < l.length
              · obtain ⟨b', off', rfl, hbl', c0, _⟩ := (HRS.out.below hb4).ent (k := j + 1) (by omega)
                obtain ⟨b'', off'', hA'', _, d0, _⟩ := (HRS.out.below hb4).ent (k := j) (by omega)
                injection hA'' with hA''
                injection hA'' with e3 e4
                subst e3 e4
                have hd := HD.out
                rw [dtw_drop O j (by omega)] at hd
                generalize O[j + 1] = x at *
                generalize O[j] = y at *
                obtain ⟨x0, x1⟩ := x
                obtain ⟨y0, y1⟩ := y
                simp only at c0 d0 hd
                have HD2 := Lib.hid hd
                have hjl : (j : Int) < (l.length : Int) := by omega
                have hjl1 : ((j + 1 : Nat) : Int) < (l.length : Int) := by omega
                have HB4 := Lib.hid hb4
                clear hd HD hb4 H0 hoL
                by_cases he : x0 = y0
                · have hs : ((txt y0).toList == (txt x0).toList) = true := str_same (by rw [he])
                  have HE : Hid (∀ x, Below wo.heap.size wo x → OfEnd12 w1 l (.returned (.tuple #[.slice none 0 0, .int .i64 14])) x) := fun x hx => by
                    refine HNO.out 14 x (HY.out ?_) (bb HB3.out hx)
                    rw [HD2.out, he]
                    simp
                  clear he HD2
                  go_wp2_with fail
                  go_quiet (fail)
                  go_wp2_with fail
                  go_ret2
                  exact HE.out _ (bn HB4.out _)
                · have hs : ((txt y0).toList == (txt x0).toList) = false := str_else fun e => he (txt_inj.1 e).symm
                  have HNX : Hid (dtw O = dtw (O.drop (j + 1 + 1 - 1))) := by
                    show _ = _
                    rw [HD2.out, decide_eq_false he, Bool.false_or, Nat.add_sub_cancel]
                  clear he HD2
                  go_wp2_with fail
                  go_quiet (fail)
                  go_wp2_with fail
                  go_roundg (l.length - (j + 1 + 1))
                  case measure => omega
                  case rel => exact ⟨j + 1 + 1, by omega, by omega, Nat.le_refl _, by go_num, bn HB4.out _, HNX⟩
              · have hd := HD.out
                rw [dtw_last O j (by omega)] at hd
                have HE := Lib.hid (HES.out _ hb4 hd)
                clear hd HD hb4 H0 hoL
                have hjl2 : ¬ ((j + 1 : Nat) : Int) < (l.length : Int) := by omega
                go_wp2_with fail
                go_ret2
                exact HE.out
    · have hf := HF.out
      rw [if_pos hE] at hf
      subst hf
      have hEi : (E0 == 0) = false := by rw [beq_eq_false_iff_ne]; exact hE
      have hEj : (E0 != 0) = true := by rw [bne_iff_ne]; exact hE
      have HE := Lib.hid (HNO.out E0 wr (HD1.out hE) HB.out)
      clear hbel HF H0 hE HD1 HD2 HL16
      by_cases hlt : k < l.length
      · have hli : (k : Int) < (l.length : Int) := by omega
        go_wp2_with fail
        go_ret2
        exact HE.out
      · have hli : ¬ (k : Int) < (l.length : Int) := by omega
        go_wp2_with fail
        go_ret2
        exact HE.out
end Go.Proofs.YtgbgbdocgpdkgaaGreatDoor
end

section
/-
  The walk of the statement of layer 12 of any entries: whether they are a descriptor, their key, the value of a key, how two stand. Conditions: texts that a machine can hold; Go's tables of UTF-8 lie in memory.
-/
namespace Go.Proofs.YtgbgbdocgpdkgaaGreatDoor
open Go.RowKit Go.PM
set_option maxRecDepth 100000
set_option maxHeartbeats 4000000
attribute [local go_sem ↓] Go.wp_at_zero Go.wp_at_succ

theorem dtells_walk (A B : Option Addr) (cap cap' : Nat) (a b : List Ent) (key : ByteArray) (w : World) (hT : Tabs w) (hr : Rd w A (ents a)) (hs : Rd w B (ents b)) (hz : ESz a) (hy : ESz b) (hl : a.length ≤ 9223372036854775807) (hm : b.length ≤ 9223372036854775807) :
    Calls Tryz.prog 4 #[.slice A a.length cap, .slice B b.length cap', .string key] w fun e w' => e = .returned (.bool true) ∧ Below w.heap.size w w' := by
  have HA := Lib.hid (awake12 w hT)
  have hb1 : Below w.heap.size w w := b0
  have HT : Hid (Tabs w) := hT
  have HR := Lib.hid hr
  have HS := Lib.hid hs
  have HF1 : Hid (∀ x : World, Below w.heap.size w x → Calls Tryz.prog 8 #[.slice A a.length cap] x fun e w' => e = .returned (.bool (efew a)) ∧ Below x.heap.size x w') := fun x hx => efew_any A cap a x (hr.below hx) hz hl
  have HF2 : Hid (∀ x : World, Below w.heap.size w x → Calls Tryz.prog 8 #[.slice B b.length cap'] x fun e w' => e = .returned (.bool (efew b)) ∧ Below x.heap.size x w') := fun x hx => efew_any B cap' b x (hs.below hx) hy hm
  generalize hfa : efew a = fa at HF1
  generalize hfb : efew b = fb at HF2
  go_enter Tryz.func4, Tryz.ntmps4
  go_wp2_with fail
  refine (HA.out).mono ?_
  rintro e w1 ⟨rfl, hb2⟩
  replace hb1 := bb hb1 hb2
  skip
  clear hb2
  cases fa with
  | false =>
    clear hr hs hz hy hT
    go_wp2_with fail
    refine (HF1.out _ hb1).mono ?_
    rintro e w2 ⟨rfl, hb2⟩
    replace hb1 := bb hb1 hb2
    skip
    clear hb2
    go_wp2_with fail
    go_ret
    exact ⟨rfl, hb1⟩
  | true =>
  go_wp2_with fail
  refine (HF1.out _ hb1).mono ?_
  rintro e w2 ⟨rfl, hb2⟩
  replace hb1 := bb hb1 hb2
  skip
  clear hb2
  cases fb with
  | false =>
    clear hr hs hz hy hT
    go_wp2_with fail
    refine (HF2.out _ hb1).mono ?_
    rintro e w3 ⟨rfl, hb2⟩
    replace hb1 := bb hb1 hb2
    skip
    clear hb2
    go_wp2_with fail
    go_ret
    exact ⟨rfl, hb1⟩
  | true =>
  go_wp2_with fail
  refine (HF2.out _ hb1).mono ?_
  rintro e w3 ⟨rfl, hb2⟩
  replace hb1 := bb hb1 hb2
  skip
  clear hb2
  have hEA := emil_few hfa (List.Perm.refl a)
  have hEB := emil_few hfb (List.Perm.refl b)
  have hla := hEA.1
  have hlb := hEB.1
  obtain ⟨X, hX⟩ : ∃ X, X = (dof echk a).1 := ⟨_, rfl⟩
  obtain ⟨E, hE⟩ : ∃ E, E = (dof echk a).2 := ⟨_, rfl⟩
  obtain ⟨C, hC⟩ : ∃ C, C = dchk echk a := ⟨_, rfl⟩
  obtain ⟨KA, hKA⟩ : ∃ K, K = txt (dkey a) := ⟨_, rfl⟩
  obtain ⟨KB, hKB⟩ : ∃ K, K = txt (dkey b) := ⟨_, rfl⟩
  obtain ⟨R, hRR⟩ : ∃ R, R = Lib.compareBytes (dkey a) (dkey b) := ⟨_, rfl⟩
  have hXl : X.length ≤ 1000 := by
    rw [hX]
    unfold dof
    split
    · simp
    · split
      · simp
      · split
        · simp
        · rw [(esort_perm a).length_eq]; exact hla
  have HO1 : Hid (∀ x : World, Below w.heap.size w x → Calls Tryz.prog 9 #[.slice A a.length cap] x fun e w' => ∃ (A1 : Option Addr) (c1 : Nat), e = .returned (.tuple #[.slice A1 X.length c1, .int .i64 E]) ∧ Rd w' A1 (ents X) ∧ Below x.heap.size x w') := fun x hx => by
    refine (of12_any A cap a x (hr.below hx) hz hl (HT.out.below hx)).mono ?_
    rintro e w' ⟨v, rfl, ⟨A1, c1, rfl, h1, _⟩, h2⟩
    rw [← hX] at h1
    rw [← hX, ← hE]
    exact ⟨A1, c1, rfl, h1, h2⟩
  have HO2 : Hid (∀ (x : World) (A' : Option Addr) (c' : Nat), Rd x A' (ents a) → Calls Tryz.prog 13 #[.slice A' a.length c'] x fun e w' => ∃ (A1 : Option Addr) (c1 : Nat), e = .returned (.tuple #[.slice A1 X.length c1, .int .i64 E]) ∧ Rd w' A1 (ents X) ∧ Below x.heap.size x w') := fun x A' c' hx => by
    refine (rof12_any A' c' a x hx hz hl).mono ?_
    rintro e w' ⟨v, rfl, ⟨A1, c1, rfl, h1, _⟩, h2⟩
    rw [← hX] at h1
    rw [← hX, ← hE]
    exact ⟨A1, c1, rfl, h1, h2⟩
  have to' : ∀ (L : List Ent), L.length ≤ 1000 → ∀ (x : World) (A' : Option Addr) (c' : Nat), Rd x A' (ents L) → Calls Tryz.prog 14 #[.slice A' L.length c'] x fun e w' => ∃ (A1 : Option Addr) (c1 : Nat), e = .returned (.slice A1 L.length c1) ∧ Rd w' A1 (ents L) ∧ Below x.heap.size x w' := fun L hL x A' c' hx => by
    refine (to_any A' c' L x hx (by omega)).mono ?_
    rintro e w' ⟨v, rfl, ⟨A1, c1, rfl, h1, _⟩, h2⟩
    exact ⟨A1, c1, rfl, h1, h2⟩
  have HTA := Lib.hid (to' a hla)
  have HTB := Lib.hid (to' b hlb)
  have HTX := Lib.hid (to' X hXl)
  have HGE : Hid (∀ x : World, Below w.heap.size w x → Calls Tryz.prog 15 #[.slice A a.length cap, .string key] x fun e w' => e = .returned (.tuple #[.string (txt (dget key.data.toList a).1), .bool (dget key.data.toList a).2]) ∧ Below x.heap.size x w') := fun x hx => get12_any A cap a key x (hr.below hx) hl
  have HCK : Hid (∀ x : World, Below w.heap.size w x → Calls Tryz.prog 19 #[.slice A a.length cap] x fun e w' => e = .returned (.int .i64 C) ∧ Below x.heap.size x w') := fun x hx => by rw [hC]; exact check12_any A cap a x (hr.below hx) hz hl (HT.out.below hx)
  have HCR : Hid (∀ (x : World) (A' : Option Addr) (c' : Nat), Rd x A' (ents a) → Calls Tryz.prog 20 #[.slice A' a.length c'] x fun e w' => e = .returned (.int .i64 C) ∧ Below x.heap.size x w') := fun x A' c' hx => by rw [hC]; exact rcheck12_any A' c' a x hx hz hl
  have HKA : Hid (∀ x : World, Below w.heap.size w x → Calls Tryz.prog 10 #[.slice A a.length cap] x fun e w' => e = .returned (.string KA) ∧ Below x.heap.size x w') := fun x hx => by rw [hKA]; exact key12_any A cap a x (hr.below hx) hEA
  have HKR : Hid (∀ (x : World) (A' : Option Addr) (c' : Nat), Rd x A' (ents a) → Calls Tryz.prog 16 #[.slice A' a.length c'] x fun e w' => e = .returned (.string KA) ∧ Below x.heap.size x w') := fun x A' c' hx => by rw [hKA]; exact rkey12_any A' c' a x hx hEA
  have HKS : Hid (∀ (x : World) (A' : Option Addr) (c' : Nat), Rd x A' (ents b) → Calls Tryz.prog 16 #[.slice A' b.length c'] x fun e w' => e = .returned (.string KB) ∧ Below x.heap.size x w') := fun x A' c' hx => by rw [hKB]; exact rkey12_any A' c' b x hx hEB
  have HCM : Hid (∀ x : World, Below w.heap.size w x → Calls Tryz.prog 12 #[.slice A a.length cap, .slice B b.length cap'] x fun e w' => e = .returned (.int .i64 R) ∧ Below x.heap.size x w') := fun x hx => by rw [hRR]; exact cmp12_any A B cap cap' a b x (hr.below hx) (hs.below hx) hEA hEB
  have HLS : Hid (∀ x : World, Calls Tryz.prog 17 #[.string KA, .string KB] x fun e w' => e = .returned (.bool (decide (R < 0))) ∧ Below x.heap.size x w') := fun x => by
    have hsz : KA.size ≤ 9223372036854775807 := by
      have h8 := dkeyL_len a hEA.2
      have h9 : (vput a.length).length ≤ 10 := by rw [vput_length]; exact vsz_le10 (by omega)
      rw [hKA, txt_size]
      unfold dkey
      rw [List.length_append]
      omega
    have := rless12_any KA KB x hsz
    rw [hKA, hKB, txt_list, txt_list, ← hRR] at this
    rw [hKA, hKB]
    exact this
  have HEQ : Hid (∀ (x : World) (A' B' : Option Addr) (c' d' : Nat), Rd x A' (ents X) → Rd x B' (ents X) → Calls Tryz.prog 18 #[.slice A' X.length c', .slice B' X.length d'] x fun e w' => e = .returned (.bool true) ∧ Below x.heap.size x w') := fun x A' B' c' d' h1 h2 => by
    have := requ_any A' B' c' d' X X x h1 h2 (by omega)
    rwa [decide_eq_true rfl] at this
  have hri := cmpB_iff (dkey a) (dkey b)
  have hrr := cmpB_range (dkey a) (dkey b)
  rw [← hRR] at hri hrr
  have HKE : Hid (R = 0 → (KA.toList == KB.toList) = true) := fun h => str_same (by rw [hKA, hKB, hri.1 h])
  have HKN : Hid (R ≠ 0 → (KA.toList == KB.toList) = false) := fun h => str_else fun e => h (hri.2 (by rw [hKA, hKB] at e; exact txt_inj.1 e))
  clear hr hs hz hy hT to' hX hE hC hKA hKB hRR hri hEA hEB hfa hfb HF1 HF2 HA hXl
  go_wp2_with fail
  refine (HO1.out _ hb1).mono ?_
  rintro e w4 ⟨A1, c1, rfl, hrd, hb2⟩
  replace hb1 := bb hb1 hb2
  skip
  have HX := Lib.hid hrd
  clear hb2 hrd
  have hq : Below w4.heap.size w4 w4 := b0
  go_wp2_with fail
  refine (HTA.out _ A cap (HR.out.below hb1)).mono ?_
  rintro e w5 ⟨A3, c3, rfl, hrd, hb2⟩
  replace hb1 := bb hb1 hb2
  replace hq := bb hq hb2
  have HR3 := Lib.hid hrd
  clear hb2 hrd
  go_wp2_with fail
  refine (HO2.out _ A3 c3 HR3.out).mono ?_
  rintro e w6 ⟨A2, c2, rfl, hrd, hb2⟩
  replace hb1 := bb hb1 hb2
  replace hq := bb hq hb2
  have HY := Lib.hid hrd
  clear hb2 hrd
  have hp : Below w6.heap.size w6 w6 := b0
  clear HO1 HO2
  have hsub : (a.length : Int) - 1 = (a.length : Int) - 1 := rfl
  go_wp2_with fail
  have H0 : Hid (dget key.data.toList (a.drop a.length) = ([], false)) := by rw [List.drop_of_length_le (Nat.le_refl _)]; rfl
  have HB6 := Lib.hid hb1
  go_loopg [13, 14, 15] a.length (fun gk vv iv ki wr => ∃ (j : Nat) (I : Int), j ≤ a.length ∧ j ≤ gk ∧ I = (j : Int) - 1 ∧ ki = .int .i64 I ∧ vv = .string (txt (dget key.data.toList (a.drop j)).1) ∧ iv = .bool (dget key.data.toList (a.drop j)).2 ∧ wr = w6)
  case atStart => exact ⟨a.length, _, Nat.le_refl _, Nat.le_refl _, rfl, rfl, by rw [H0.out]; rfl, by rw [H0.out], rfl⟩
  case round =>
    obtain ⟨j, I, hj, hgk, hI, rfl, rfl, rfl, rfl⟩ := hrel
    by_cases hj0 : j = 0
    · have hIi : ¬ (0 : Int) ≤ I := by omega
      have hI1 : I = -1 := by omega
      rw [hj0, List.drop_zero]
      clear hj0 hI H0
      generalize dget key.data.toList a = DG at *
      obtain ⟨V, F⟩ := DG
      simp only at HGE ⊢
      subst hI1
      go_wp2_with fail
      refine (HGE.out _ hb1).mono ?_
      rintro e wa ⟨rfl, hb2⟩
      replace hb1 := bb hb1 hb2
      replace hq := bb hq hb2; replace hp := bb hp hb2
      clear hb2
      go_wp2_with fail
      refine (HTA.out _ A cap (HR.out.below hb1)).mono ?_
      rintro e wb ⟨A5, c5, rfl, hrd, hb2⟩
      replace hb1 := bb hb1 hb2
      replace hq := bb hq hb2; replace hp := bb hp hb2
      have HR5 := Lib.hid hrd
      clear hb2 hrd
      go_wp2_with fail
      refine (HKR.out _ A5 c5 HR5.out).mono ?_
      rintro e wc ⟨rfl, hb2⟩
      replace hb1 := bb hb1 hb2
      replace hq := bb hq hb2; replace hp := bb hp hb2
      clear hb2
      go_wp2_with fail
      refine (HTB.out _ B cap' (HS.out.below hb1)).mono ?_
      rintro e wd ⟨A6, c6, rfl, hrd, hb2⟩
      replace hb1 := bb hb1 hb2
      replace hq := bb hq hb2; replace hp := bb hp hb2
      have HR6 := Lib.hid hrd
      clear hb2 hrd
      go_wp2_with fail
      refine (HKS.out _ A6 c6 HR6.out).mono ?_
      rintro e we ⟨rfl, hb2⟩
      replace hb1 := bb hb1 hb2
      replace hq := bb hq hb2; replace hp := bb hp hb2
      clear hb2
      rcases hrr with hR | hR | hR
      · have hks := HKN.out (by omega)
        rw [hR] at HLS HCM
        clear HKE HKN hR
        go_wp2_with fail
        refine (HLS.out _).mono ?_
        rintro e wf ⟨rfl, hb2⟩
        replace hb1 := bb hb1 hb2
        replace hq := bb hq hb2; replace hp := bb hp hb2
        clear hb2
        go_wp2_with fail
        refine (HTX.out _ A1 c1 (HX.out.below hq)).mono ?_
        rintro e wg ⟨A9, c9, rfl, hrd, hb2⟩
        replace hb1 := bb hb1 hb2
        replace hq := bb hq hb2; replace hp := bb hp hb2
        have HR9 := Lib.hid hrd
        clear hb2 hrd
        go_wp2_with fail
        refine (HEQ.out _ A9 A2 c9 c2 HR9.out (HY.out.below hp)).mono ?_
        rintro e wh ⟨rfl, hb2⟩
        replace hb1 := bb hb1 hb2
        skip
        clear hb2
        go_wp2_with fail
        refine (HCK.out _ hb1).mono ?_
        rintro e wi ⟨rfl, hb2⟩
        replace hb1 := bb hb1 hb2
        skip
        clear hb2
        go_wp2_with fail
        refine (HTA.out _ A cap (HR.out.below hb1)).mono ?_
        rintro e wj ⟨A10, c10, rfl, hrd, hb2⟩
        replace hb1 := bb hb1 hb2
        skip
        have HR10 := Lib.hid hrd
        clear hb2 hrd
        go_wp2_with fail
        refine (HCR.out _ A10 c10 HR10.out).mono ?_
        rintro e wk ⟨rfl, hb2⟩
        replace hb1 := bb hb1 hb2
        skip
        clear hb2
        go_wp2_with fail
        refine (HKA.out _ hb1).mono ?_
        rintro e wl ⟨rfl, hb2⟩
        replace hb1 := bb hb1 hb2
        skip
        clear hb2
        go_wp2_with fail
        refine (HTA.out _ A cap (HR.out.below hb1)).mono ?_
        rintro e wm ⟨A11, c11, rfl, hrd, hb2⟩
        replace hb1 := bb hb1 hb2
        skip
        have HR11 := Lib.hid hrd
        clear hb2 hrd
        go_wp2_with fail
        refine (HKR.out _ A11 c11 HR11.out).mono ?_
        rintro e wn ⟨rfl, hb2⟩
        replace hb1 := bb hb1 hb2
        skip
        clear hb2
        go_wp2_with fail
        refine (HCM.out _ hb1).mono ?_
        rintro e wo ⟨rfl, hb2⟩
        replace hb1 := bb hb1 hb2
        skip
        clear hb2
        go_wp2_with fail
        go_ret
        exact ⟨rfl, hb1⟩
      · have hks := HKE.out hR
        rw [hR] at HLS HCM
        clear HKE HKN hR
        go_wp2_with fail
        refine (HTX.out _ A1 c1 (HX.out.below hq)).mono ?_
        rintro e wg ⟨A9, c9, rfl, hrd, hb2⟩
        replace hb1 := bb hb1 hb2
        replace hq := bb hq hb2; replace hp := bb hp hb2
        have HR9 := Lib.hid hrd
        clear hb2 hrd
        go_wp2_with fail
        refine (HEQ.out _ A9 A2 c9 c2 HR9.out (HY.out.below hp)).mono ?_
        rintro e wh ⟨rfl, hb2⟩
        replace hb1 := bb hb1 hb2
        skip
        clear hb2
        go_wp2_with fail
        refine (HCK.out _ hb1).mono ?_
        rintro e wi ⟨rfl, hb2⟩
        replace hb1 := bb hb1 hb2
        skip
        clear hb2
        go_wp2_with fail
        refine (HTA.out _ A cap (HR.out.below hb1)).mono ?_
        rintro e wj ⟨A10, c10, rfl, hrd, hb2⟩
        replace hb1 := bb hb1 hb2
        skip
        have HR10 := Lib.hid hrd
        clear hb2 hrd
        go_wp2_with fail
        refine (HCR.out _ A10 c10 HR10.out).mono ?_
        rintro e wk ⟨rfl, hb2⟩
        replace hb1 := bb hb1 hb2
        skip
        clear hb2
        go_wp2_with fail
        refine (HKA.out _ hb1).mono ?_
        rintro e wl ⟨rfl, hb2⟩
        replace hb1 := bb hb1 hb2
        skip
        clear hb2
        go_wp2_with fail
        refine (HTA.out _ A cap (HR.out.below hb1)).mono ?_
        rintro e wm ⟨A11, c11, rfl, hrd, hb2⟩
        replace hb1 := bb hb1 hb2
        skip
        have HR11 := Lib.hid hrd
        clear hb2 hrd
        go_wp2_with fail
        refine (HKR.out _ A11 c11 HR11.out).mono ?_
        rintro e wn ⟨rfl, hb2⟩
        replace hb1 := bb hb1 hb2
        skip
        clear hb2
        go_wp2_with fail
        refine (HCM.out _ hb1).mono ?_
        rintro e wo ⟨rfl, hb2⟩
        replace hb1 := bb hb1 hb2
        skip
        clear hb2
        go_wp2_with fail
        go_ret
        exact ⟨rfl, hb1⟩
      · have hks := HKN.out (by omega)
        rw [hR] at HLS HCM
        clear HKE HKN hR
        go_wp2_with fail
        refine (HLS.out _).mono ?_
        rintro e wf ⟨rfl, hb2⟩
        replace hb1 := bb hb1 hb2
        replace hq := bb hq hb2; replace hp := bb hp hb2
        clear hb2
        go_wp2_with fail
        refine (HTX.out _ A1 c1 (HX.out.below hq)).mono ?_
        rintro e wg ⟨A9, c9, rfl, hrd, hb2⟩
        replace hb1 := bb hb1 hb2
        replace hq := bb hq hb2; replace hp := bb hp hb2
        have HR9 := Lib.hid hrd
        clear hb2 hrd
        go_wp2_with fail
        refine (HEQ.out _ A9 A2 c9 c2 HR9.out (HY.out.below hp)).mono ?_
        rintro e wh ⟨rfl, hb2⟩
        replace hb1 := bb hb1 hb2
        skip
        clear hb2
        go_wp2_with fail
        refine (HCK.out _ hb1).mono ?_
        rintro e wi ⟨rfl, hb2⟩
        replace hb1 := bb hb1 hb2
        skip
        clear hb2
        go_wp2_with fail
        refine (HTA.out _ A cap (HR.out.below hb1)).mono ?_
        rintro e wj ⟨A10, c10, rfl, hrd, hb2⟩
        replace hb1 := bb hb1 hb2
        skip
        have HR10 := Lib.hid hrd
        clear hb2 hrd
        go_wp2_with fail
        refine (HCR.out _ A10 c10 HR10.out).mono ?_
        rintro e wk ⟨rfl, hb2⟩
        replace hb1 := bb hb1 hb2
        skip
        clear hb2
        go_wp2_with fail
        refine (HKA.out _ hb1).mono ?_
        rintro e wl ⟨rfl, hb2⟩
        replace hb1 := bb hb1 hb2
        skip
        clear hb2
        go_wp2_with fail
        refine (HTA.out _ A cap (HR.out.below hb1)).mono ?_
        rintro e wm ⟨A11, c11, rfl, hrd, hb2⟩
        replace hb1 := bb hb1 hb2
        skip
        have HR11 := Lib.hid hrd
        clear hb2 hrd
        go_wp2_with fail
        refine (HKR.out _ A11 c11 HR11.out).mono ?_
        rintro e wn ⟨rfl, hb2⟩
        replace hb1 := bb hb1 hb2
        skip
        clear hb2
        go_wp2_with fail
        refine (HCM.out _ hb1).mono ?_
        rintro e wo ⟨rfl, hb2⟩
        replace hb1 := bb hb1 hb2
        skip
        clear hb2
        go_wp2_with fail
        go_ret
        exact ⟨rfl, hb1⟩
    · obtain ⟨q, rfl⟩ : ∃ q, j = q + 1 := ⟨j - 1, by omega⟩
      obtain rfl : I = (q : Int) := by omega
      have hqa : q < a.length := by omega
      obtain ⟨b', off, rfl, hbl, c0, c1'⟩ := (HR.out.below HB6.out).ent hqa
      have hdr := List.drop_eq_getElem_cons hqa
      generalize a[q] = x at *
      obtain ⟨x0, x1⟩ := x
      simp only at c0 c1'
      have hqi : (0 : Int) ≤ (q : Int) := by omega
      have hqi2 : (q : Int) < (a.length : Int) := by omega
      by_cases hx : x0 = key.data.toList
      · have hss : ((txt x0).toList == key.toList) = true := str_same (by rw [hx]; rfl)
        have HN : Hid (dget key.data.toList (a.drop q) = (x1, true)) := by
          show _ = _
          rw [hdr, dget]
          exact if_pos hx
        clear hx hdr hI hj0 H0
        go_wp2_with fail
        go_roundg q
        case measure => omega
        case rel => exact ⟨q, _, by omega, Nat.le_refl _, rfl, by go_num, by rw [HN.out], by rw [HN.out], rfl⟩
      · have hss : ((txt x0).toList == key.toList) = false := str_else fun e => hx (by rw [← e]; rfl)
        have HN : Hid (dget key.data.toList (a.drop q) = dget key.data.toList (a.drop (q + 1))) := by
          show _ = _
          rw [hdr, dget]
          exact if_neg hx
        clear hx hdr hI hj0 H0
        go_wp2_with fail
        go_roundg q
        case measure => omega
        case rel => exact ⟨q, _, by omega, Nat.le_refl _, rfl, by go_num, by rw [HN.out], by rw [HN.out], rfl⟩
end Go.Proofs.YtgbgbdocgpdkgaaGreatDoor
end

section
/-
  Go's two tables of UTF-8, as the rows list them: what they give a walk; a world that holds them. (The rows of this seat list the same two variables.)
-/
namespace Go.Proofs.YtgbgbdocgpdkgaaGreatDoor
open Go.Lib
set_option maxRecDepth 100000
theorem accept_eq : (Rows.laid_unicode_utf8_acceptRanges : DataW Unit) = Lib.acceptData := by kernel_rfl
theorem tabs_of_laid {W : World} (h : laidMetH Tryz.prog [("unicode/utf8.acceptRanges", Rows.laid_unicode_utf8_acceptRanges), ("unicode/utf8.first", Rows.laid_unicode_utf8_first)] W) : Tabs W := by
  have h4 := Lib.laidMet.reads h (.head _)
  have h3 := Lib.laidMet.reads h (.tail _ (.head _))
  rw [accept_eq] at h4
  rw [show Rows.laid_unicode_utf8_first = Lib.firstData from Pinned.utf8First_eq] at h3
  exact utf8Tabs_of_readsT (U8Types.of196 Tryz.lays196) ⟨by kernel_rfl, by kernel_rfl, by kernel_rfl, by kernel_rfl, by kernel_rfl, by kernel_rfl, by kernel_rfl⟩ h3 h4
/-- The settled world, the two variables holding what their initialisers lay. -/
noncomputable def laidWorld (os : Os) : World :=
  let w0 := World.holding Tryz.prog os ⟨#[], #[], []⟩
  let put (h : Array Obj) (g : Nat) (cs : Array Value) : Array Obj := h.modify g fun
    | .cells _ t frozen => .cells cs t frozen
    | o => o
  let h1 := put w0.heap (Tryz.lays196_ren.g 3) (Lib.firstTab.map fun z => Value.int .u8 z).toArray
  let h2 := put h1 (Tryz.lays196_ren.g 4) ((List.range 16).flatMap fun i => [Value.int .u8 (Lib.accLo i), Value.int .u8 (Lib.accHi i)]).toArray
  { w0 with heap := h2 }
theorem laid_met (os : Os) (args : Array Value) : laidMet Tryz.prog [("unicode/utf8.acceptRanges", Rows.laid_unicode_utf8_acceptRanges), ("unicode/utf8.first", Rows.laid_unicode_utf8_first)] ((laidWorld os).forCall (fun _ _ => 0) ⟨#[], args, []⟩).memory :=
  (LaidIn.of_run (l := [("unicode/utf8.acceptRanges", Rows.laid_unicode_utf8_acceptRanges), ("unicode/utf8.first", Rows.laid_unicode_utf8_first)]) [Tryz.lays196_ren.g 4, Tryz.lays196_ren.g 3] 8 (by kernel_rfl) (by kernel_rfl) (by kernel_rfl) (by kernel_rfl)).met
theorem own : ownKnob Tryz.prog.godebug = none := by kernel_rfl
theorem laidOut : laidOutB Tryz.prog = true := by kernel_rfl
end Go.Proofs.YtgbgbdocgpdkgaaGreatDoor
end

section
/-
  Arguments opened: slices that come in, as lists. Plain theorems, over any program.
-/
namespace Go.PM
open Go.RowKit Go.ChangeShapes Go.WideShapes Go.Deep
section
variable {H : Type} {enc : TypeId × Value → H} {P : Program} {w : World} {spare : Nat → Bool} {held : Bool}
theorem rd_cells {A : Addr} {xs : List Value} (hc : ∀ j u, xs[j]? = some u → w.cell? (A.add j) = some u) : Rd w (some A) xs := by
  cases xs with
  | nil => exact .inl rfl
  | cons x xs =>
    have h0 := hc 0 x rfl
    have hsp := World.cell?_spot h0
    obtain ⟨b, off, spot⟩ := A
    have hs : spot = none := by simpa [Addr.add] using hsp
    subst hs
    have ha : ∀ j, (⟨b, off, none⟩ : Addr).add j = ⟨b, off + j, none⟩ := fun j => by unfold Addr.add; split <;> simp_all
    refine .inr ⟨b, off, rfl, ?_, fun j u hj => by rw [← ha]; exact hc j u hj⟩
    exact World.block_lt_of_cell? w _ (by rw [ha] at h0; exact h0)
theorem getD_take (zs : List Int) (len j : Nat) (h : j < len) (hl : len ≤ zs.length) : (zs.take len)[j]? = some (zs.getD j 0) := by
  rw [List.getElem?_take, if_pos h, List.getElem?_eq_getElem (by omega)]
  simp [List.getD, List.getElem?_eq_getElem (show j < zs.length by omega)]
/-- A slice of integers of one kind. -/
theorem open_sl {t e : TypeId} {k : IntKind} {a : Option Addr} {len cap : Nat} {d : DataW H} {ps : List MemPlace} (ht : P.underlying t = some (.slice e)) (he : P.underlying e = some (.int k)) (hc : P.cellsOf e = 1)
    (h : DataW.Trod enc P w 0 spare held t (.slice a len cap) d ps) :
    ∃ l : List Int, l.length = len ∧ Rd w a (l.map (Value.int k)) ∧ (∀ n ∈ l, (Lit.int k n).wf = true) ∧ len ≤ cap ∧ cap ≤ maxLen := by
  obtain ⟨fuel, hf⟩ := h
  rcases open_ints ht he hc hf with ⟨hcs, _⟩ | ⟨x, l, c, zs, hcs, _, hl, hm, hz, _, hcell, hwz⟩
  · simp [Value.cells] at hcs
    obtain ⟨rfl, rfl, rfl⟩ := hcs
    exact ⟨[], rfl, Rd.nil _ _, by simp, by omega, by unfold maxLen; omega⟩
  · simp [Value.cells] at hcs
    obtain ⟨rfl, rfl, rfl⟩ := hcs
    have hzl : len ≤ zs.length := by rw [hz]; split <;> omega
    refine ⟨zs.take len, by simp; omega, rd_cells fun j u hj => ?_, fun n hn => hwz n (List.mem_of_mem_take hn), hl, hm⟩
    have hj' : j < len := by
      have := (List.getElem?_eq_some_iff.1 hj).1
      simp at this; omega
    rw [List.getElem?_map, getD_take zs len j hj' hzl] at hj
    simp at hj
    rw [hcell j (by omega), ← hj]
    simp
theorem open_u64s {t e : TypeId} {a : Option Addr} {len cap : Nat} {d : DataW H} {ps : List MemPlace} (ht : P.underlying t = some (.slice e)) (he : P.underlying e = some (.int .u64)) (hc : P.cellsOf e = 1)
    (h : DataW.Trod enc P w 0 spare held t (.slice a len cap) d ps) :
    ∃ l : List Nat, l.length = len ∧ Rd w a (u64s l) ∧ (∀ n ∈ l, In64 n) ∧ len ≤ cap ∧ cap ≤ maxLen := by
  obtain ⟨l, h1, h2, h3, h4, h5⟩ := open_sl ht he hc h
  have e : l.map (Value.int .u64) = u64s (l.map Int.toNat) := by
    unfold u64s
    rw [List.map_map]
    apply List.map_congr_left
    intro n hn
    have := bounds_u64 (h3 n hn)
    simp only [Function.comp]
    rw [Int.toNat_of_nonneg this.1]
  refine ⟨l.map Int.toNat, by simp [h1], e ▸ h2, fun n hn => ?_, h4, h5⟩
  obtain ⟨m, hm, rfl⟩ := List.mem_map.1 hn
  have := bounds_u64 (h3 m hm)
  unfold In64
  omega
/-- A slice of structs of two integer fields, a cell each. -/
theorem open_pairs {t e : TypeId} {f0 f1 : Field} {k0 k1 : IntKind} {a : Option Addr} {len cap : Nat} {d : DataW H} {ps : List MemPlace} (ht : P.underlying t = some (.slice e)) (he : P.underlying e = some (.struct #[f0, f1]))
    (ce : P.cellsOf e = 2) (o0 : f0.offset = 0) (o1 : f1.offset = 1) (c0 : P.cellsOf f0.type = 1) (c1 : P.cellsOf f1.type = 1) (t0 : P.underlying f0.type = some (.int k0)) (t1 : P.underlying f1.type = some (.int k1))
    (h : DataW.Trod enc P w 0 spare held t (.slice a len cap) d ps) :
    ∃ l : List (Int × Int), l.length = len ∧ (∀ x ∈ l, (Lit.int k0 x.1).wf = true ∧ (Lit.int k1 x.2).wf = true) ∧ len ≤ cap ∧ cap ≤ maxLen ∧
      (l = [] ∨ ∃ b off, a = some ⟨b, off, none⟩ ∧ b < w.heap.size ∧ ∀ j x, l[j]? = some x → w.cell? ⟨b, off + j * 2, none⟩ = some (.int k0 x.1) ∧ w.cell? ⟨b, off + j * 2 + 1, none⟩ = some (.int k1 x.2)) := by
  obtain ⟨fuel, hf⟩ := h
  rcases open_slice_pairs ht he ce o0 o1 c0 c1 hf with ⟨hcs, _⟩ | ⟨x, ln, c, m, n, V0, V1, D0, D1, P0, P1, hcs, _, hl, hm, hmm, hx, hall⟩
  · simp [Value.cells] at hcs
    obtain ⟨rfl, rfl, rfl⟩ := hcs
    exact ⟨[], rfl, by simp, by omega, by unfold maxLen; omega, .inl rfl⟩
  · simp [Value.cells] at hcs
    obtain ⟨rfl, rfl, rfl⟩ := hcs
    have hlm : len ≤ m := by rw [hmm]; split <;> omega
    have each : ∀ i, i < len → ∃ q : Int × Int, w.cell? (x.add (i * 2)) = some (.int k0 q.1) ∧ w.cell? (x.add (i * 2 + 1)) = some (.int k1 q.2) ∧ (Lit.int k0 q.1).wf = true ∧ (Lit.int k1 q.2).wf = true := by
      intro i hi
      obtain ⟨e0, e1, g0, g1⟩ := hall i (by omega)
      obtain ⟨N0, h1, _, h3⟩ := DataW.trod_int t0 g0
      obtain ⟨N1, h4, _, h6⟩ := DataW.trod_int t1 g1
      simp only [List.cons.injEq, and_true] at h1 h4
      exact ⟨(N0, N1), h1 ▸ e0, h4 ▸ e1, h3, h6⟩
    obtain ⟨q, hq⟩ := choose_lt each
    have hlen : ((List.range len).map q).length = len := by simp
    refine ⟨(List.range len).map q, hlen, ?_, hl, hm, ?_⟩
    · intro y hy
      obtain ⟨i, hi, rfl⟩ := List.mem_map.1 hy
      have := hq i (List.mem_range.1 hi)
      exact ⟨this.2.2.1, this.2.2.2⟩
    · by_cases hz : len = 0
      · subst hz; exact .inl rfl
      · obtain ⟨b, off, spot⟩ := x
        have hs : spot = none := by simpa [Addr.add] using World.cell?_spot (hq 0 (by omega)).1
        subst hs
        have ha : ∀ j, (⟨b, off, none⟩ : Addr).add j = ⟨b, off + j, none⟩ := fun j => by unfold Addr.add; split <;> simp_all
        refine .inr ⟨b, off, rfl, ?_, ?_⟩
        · have := (hq 0 (by omega)).1
          rw [ha] at this
          exact World.block_lt_of_cell? w _ this
        · intro j y hj
          rw [List.getElem?_map] at hj
          have hjl : j < len := by
            by_cases h : j < len
            · exact h
            · rw [List.getElem?_eq_none (by simp; omega)] at hj; simp at hj
          rw [List.getElem?_range hjl] at hj
          simp at hj
          have := hq j hjl
          rw [ha, ha] at this
          rw [← hj]
          exact ⟨this.1, by rw [Nat.add_assoc]; exact this.2.1⟩
end
end Go.PM
end
