/-
  Texts of the proof, joined: RDescr3 DescrLaw4. Conditions: as each names.
-/
import Derived.Test.YtgbgbdocgpdkgaaGreatDoorBan
import Derived.Test.YtgbgbdocgpdkgaaGreatDoorBap
import Derived.Test.YtgbgbdocgpdkgaaGreatDoorBae

section
/-
  Contracts of layer 12's reference: a descriptor read of a text, and of a whole one. Conditions: texts of at most a million bytes.
-/
namespace Go.Proofs.YtgbgbdocgpdkgaaGreatDoor
open Go.RowKit Go.PM
set_option maxRecDepth 100000
set_option maxHeartbeats 4000000
attribute [local go_sem ↓] Go.wp_at_zero Go.wp_at_succ

/-- The end of the document's Next. -/
def RNext12End (w : World) (s : ByteArray) (e : Ending) (w' : World) : Prop :=
  ∃ (v : Value) (R : ByteArray), e = .returned (.tuple #[v, .string R, .int .i64 (dnext echk s.data.toList).2.2]) ∧ SlE w' v (dnext echk s.data.toList).1 ∧ ((dnext echk s.data.toList).2.2 = 0 → R = txt (s.data.toList.drop (dnext echk s.data.toList).2.1)) ∧ Below w.heap.size w w'
/-- Where its loop stands. -/
def RnAt (w : World) (s : ByteArray) (k1 n : Nat) (D : List Ent × Nat × Int) (i : Nat) (sv out : Value) (wr : World) : Prop :=
  ∃ (L : List Ent) (a : Nat), L.length = i ∧ wr.ownsRow w.heap.size 44 2 out i (ents L) ∧ sv = .string (txt (s.data.toList.drop (k1 + a))) ∧ D = dcat L a (dloop echk (n - i) (pk L i) (s.data.toList.drop (k1 + a))) ∧ Below w.heap.size w wr ∧ ESz L
theorem rnext12_any (s : ByteArray) (w : World) (hs : s.size ≤ 1000000) : Calls Tryz.prog 25 #[.string s] w (RNext12End w s) := by
  have HG := Lib.hid (rget_any s w (by omega))
  have HC : Hid (∀ (n : Nat) (x : World), Calls Tryz.prog 38 #[.int .u64 (n : Int)] x fun e w' => e = .returned (.int .i64 (dmany n)) ∧ w' = x) := fun n x => count_any12 n x
  obtain ⟨i0, hi0, hz0, hz1, hz2⟩ := info_parts info_rent
  obtain ⟨X, hX⟩ : ∃ X, X = dnext echk s.data.toList := ⟨_, rfl⟩
  have HEND : Hid (∀ (v : Value) (R : ByteArray) (w' : World), SlE w' v X.1 → (X.2.2 = 0 → R = txt (s.data.toList.drop X.2.1)) → Below w.heap.size w w' → RNext12End w s (.returned (.tuple #[v, .string R, .int .i64 X.2.2])) w') := fun v R w' h1 h2 h3 => by
    unfold RNext12End
    rw [← hX]
    exact ⟨v, R, rfl, h1, h2, h3⟩
  have HERR : Hid (∀ (E : Int) (w' : World), E ≠ 0 → X = ([], 0, E) → Below w.heap.size w w' → RNext12End w s (.returned (.tuple #[.slice none 0 0, .string ⟨#[]⟩, .int .i64 E])) w') := fun E w' hE h hb => by
    have := HEND.out (.slice none 0 0) ⟨#[]⟩ w' (by rw [h]; exact sle_nil w') (fun h2 => by rw [h] at h2; exact absurd h2 hE) hb
    rw [h] at this
    exact this
  unfold dnext at hX
  have hvok := fun h => vget_ok (s := s.data.toList) h
  have hle := len_list s
  generalize vget s.data.toList = V at *
  obtain ⟨n, m, G⟩ := V
  simp only at HG hX hvok
  by_cases hG : G = 0
  · subst hG
    obtain ⟨v1, v2, v3, v4, v5⟩ := hvok rfl
    rw [if_neg (by simp)] at hX
    have hms : (m : Int) ≤ (s.size : Int) := by omega
    have hm0 : (0 : Int) ≤ (m : Int) := by omega
    have hmn : m ≤ s.size := by omega
    have hex : s.extract m s.size = txt (s.data.toList.drop m) := txt_eq (by rw [PM.ext_rest])
    have hn64 : n < 18446744073709551616 := by omega
    clear hvok v1 v2 v3 v4 v5
    have HCN := Lib.hid (HC.out n)
    by_cases hm : dmany n = 0
    · rw [if_neg (by rw [hm]; simp)] at hX
      rw [hm] at HCN
      have hn16 : n ≤ 16 := by
        unfold dmany at hm
        by_cases h0 : n = 0
        · omega
        by_cases h1 : 16 < n
        · rw [if_neg h0, if_pos h1] at hm; exact absurd hm (by decide)
        omega
      clear hm hn64
      generalize hD : dloop echk n none (s.data.toList.drop m) = D at hX
      have HEN2 : Hid (∀ (L : List Ent) (a : Nat) (v : Value) (w' : World), D = (L, a, 0) → SlE w' v L → Below w.heap.size w w' → RNext12End w s (.returned (.tuple #[v, .string (txt (s.data.toList.drop (m + a))), .int .i64 0])) w') := fun L a v w' hd hs hb => by
        rw [hd, if_neg (by simp)] at hX
        have := HEND.out v (txt (s.data.toList.drop (m + a))) w' (by rw [hX]; exact hs) (fun _ => by rw [hX]) hb
        rw [hX] at this
        exact this
      have HEN3 : Hid (∀ (E : Int) (w' : World), E ≠ 0 → D = ([], 0, E) → Below w.heap.size w w' → RNext12End w s (.returned (.tuple #[.slice none 0 0, .string ⟨#[]⟩, .int .i64 E])) w') := fun E w' hE hd hb => by
        rw [hd, if_pos hE] at hX
        exact HERR.out E w' hE hX hb
      clear hX HEND HERR
      have HD : Hid (D = dcat [] 0 (dloop echk (n - 0) (pk [] 0) (s.data.toList.drop (m + 0)))) := by
        show _ = _
        rw [← hD]
        exact dcat_nil n none _
      clear hD HC
      go_enter Tryz.func25, Tryz.ntmps25
      go_wp2_with fail
      refine HG.out.mono ?_
      rintro e w1 ⟨rfl, hb1⟩
      have HB1 := Lib.hid hb1
      clear hb1 HG
      go_wp2_with fail
      refine (HCN.out w1).mono ?_
      rintro e w2 ⟨rfl, rfl⟩
      have HS0 : Hid (RnAt w s m n D 0 (.string (txt (s.data.toList.drop m))) (.slice none 0 0) w2) := ⟨[], 0, rfl, World.ownsRow_nil _ _ _ _, rfl, HD.out, HB1.out, fun e he => by cases he⟩
      clear HD HCN
      go_wp2_with fail
      go_loopg [0, 8, 9] n (fun gk sv out vi wr => ∃ i : Nat, i ≤ n ∧ n - i ≤ gk ∧ vi = .int .u64 (i : Int) ∧ Hid (RnAt w s m n D i sv out wr))
      case atStart => exact ⟨0, Nat.zero_le _, by omega, rfl, HS0⟩
      case round =>
        obtain ⟨i, hi, hgk, rfl, HS⟩ := hrel
        obtain ⟨L, a, hLi, hown, rfl, hd, hbel, hzl⟩ := HS.out
        obtain ⟨A1, c1, rfl, hrd, hlc, _⟩ := Rd.own hown
        have HOWN := Lib.hid hown
        have HB := Lib.hid hbel
        have HZL := Lib.hid hzl
        by_cases hlt : i < n
        · obtain ⟨r, hr⟩ : ∃ r, n - i = r + 1 := ⟨n - i - 1, by omega⟩
          rw [hr, dloop_step] at hd
          have hszd : (txt (s.data.toList.drop (m + a))).size ≤ 1000000 := by rw [txt_size, List.length_drop]; omega
          have HEX := Lib.hid (rnextE_any (txt (s.data.toList.drop (m + a))) wr hszd)
          unfold RNextEEnd at HEX
          rw [txt_list] at HEX
          have hdd : ∀ q : Nat, ((s.data.toList.drop (m + a)).drop q) = s.data.toList.drop (m + (a + q)) := fun q => by rw [List.drop_drop, Nat.add_assoc]
          rw [hdd] at hd HEX
          have hszx : (enx echk (s.data.toList.drop (m + a))).2.2 = 0 → (enx echk (s.data.toList.drop (m + a))).1.1.length ≤ 1000000 ∧ (enx echk (s.data.toList.drop (m + a))).1.2.length ≤ 1000000 := fun h => by
            obtain ⟨a1, a2, a3, a4⟩ := enx_ok (chk := echk) h
            have a5 := congrArg List.length a3
            rw [List.length_take] at a5
            unfold eput at a5
            simp only [List.length_append, List.length_drop] at a5 a1
            omega
          generalize enx echk (s.data.toList.drop (m + a)) = X2 at *
          obtain ⟨⟨x0, x1⟩, q, E⟩ := X2
          simp only at hd HEX hszx
          have HD2 := Lib.hid hd
          clear hd hown hrd hbel hzl HS HS0 hdd hszd
          by_cases hE : E = 0
          · subst hE
            have hd := HD2.out
            obtain ⟨zx0, zx1⟩ := hszx rfl
            rw [if_neg (by simp)] at hd
            have HD3 := Lib.hid hd
            clear hd HD2 hszx
            go_wp2_with fail
            refine HEX.out.mono ?_
            rintro e w3 ⟨R, rfl, hR, hb3⟩
            have hR2 := hR trivial
            subst hR2
            have hx3 := BlkAt.made w3 44 #[.string (txt x0), .string (txt x1)]
            have hbo := ba hb3 (.cells #[.string (txt x0), .string (txt x1)] 44)
            have HX3 := Lib.hid hx3
            have HBO := Lib.hid hbo
            have HOWN4 := Lib.hid (own_below HOWN.out hbo)
            have HB4 := Lib.hid (bb HB.out hbo)
            clear hb3 hx3 hbo HEX hR
            have HAPP : Hid (∀ (w5 : World), Below (w3.alloc (.cells #[.string (txt x0), .string (txt x1)] 44)).heap.size (w3.alloc (.cells #[.string (txt x0), .string (txt x1)] 44)) w5 → dbehO (pk L i) x0 = 0 → ∃ (c' : Nat) (A' : Option Addr) (w' : World), (Builtin.append_ #[35, 35] 35 #[.slice A1 i c1, .slice (some ⟨w5.heap.size, 0, none⟩) 1 1]).run Tryz.prog (w5.alloc (.cells #[.string (txt x0), .string (txt x1)] 44)) = .ok (.slice A' (i + 1) c') w' ∧
                RnAt w s m n D (i + 1) (.string (txt (s.data.toList.drop (m + (a + q))))) (.slice A' (i + 1) c') w') := fun w5 hb5 hbh => by
              have hbo := ba hb5 (.cells #[.string (txt x0), .string (txt x1)] 44)
              have hy := World.news_of_block (cs := #[.string (txt x0), .string (txt x1)]) (t := 44) (fr := (0, 0)) (heap_alloc_new w5 (.cells #[.string (txt x0), .string (txt x1)] 44))
              have hrdn : Rd (w5.alloc (.cells #[.string (txt x0), .string (txt x1)] 44)) (some ⟨w5.heap.size, 0, none⟩) (ents [(x0, x1)]) := by
                refine .inr ⟨_, _, rfl, by simp, fun j u hj => ?_⟩
                have := hy j u hj
                rwa [add_at, ← Nat.zero_add j] at this
              have hown5 := own_below HOWN4.out hbo
              have hbw := bb HB4.out hbo
              subst hLi
              obtain ⟨A2, c2, w6, hrun, hown6, hgr, hat⟩ := eapp_run 35 35 44 i0 Tryz.underlying35 hi0 hz0 hz1 hz2 (d := 1) hown5 hrdn (by simp only [List.length_singleton]; omega) hbw.size
              have hbn : Below w.heap.size w w6 := below_append (a := w) (e := 44) hbw hown5 hgr
              refine ⟨c2, A2, w6, hrun, L ++ [(x0, x1)], a + q, by simp, hown6, rfl, ?_, hbn, ?_⟩
              · have hd := HD3.out
                rw [if_neg (by rw [hbh]; simp), dcat_two] at hd
                rw [hd, pk_app, show n - (L.length + 1) = r by omega]
              · intro e he
                rcases List.mem_append.1 he with he | he
                · exact HZL.out e he
                · simp only [List.mem_singleton] at he
                  subst he
                  exact ⟨by simp only; omega, by simp only; omega⟩
            have e0 := HX3.out.cell 0
            have e1 := HX3.out.cell 1
            simp at e0 e1
            by_cases hi0 : i = 0
            · have hni : decide ((0 : Int) < (i : Int)) = false := decide_eq_false (by omega)
              have hni2 : decide (0 < i) = false := decide_eq_false (by omega)
              obtain ⟨c', A', w', hrun, hN⟩ := HAPP.out _ b0 (by rw [hi0, pk_zero]; rfl)
              simp only [World.size_alloc] at hrun
              have HRUN := Lib.hid hrun
              have HNX := Lib.hid hN
              clear hrun hN HAPP HD3 hi0
              go_wp2_with (at_builtin; (refine wpList_append_run rfl _ _ _ _ rfl _ _ _ rfl rfl HRUN.out ?_))
              go_roundg (n - (i + 1))
              case measure => omega
              case rel => exact ⟨i + 1, by omega, Nat.le_refl _, by go_num, HNX⟩
            · obtain ⟨j, rfl⟩ : ∃ j, i = j + 1 := ⟨i - 1, by omega⟩
              have hji : ((j + 1 : Nat) : Int) - 1 = (j : Int) := by omega
              have hjl : j < L.length := by omega
              have hj1 : (j : Int) < ((j + 1 : Nat) : Int) := by omega
              have hj2 : (0 : Int) < ((j + 1 : Nat) : Int) := by omega
              have hw59 : IntKind.u64.wrap (j : Int) = (j : Int) := by rw [IntKind.wrap_u64]; omega
              go_wp2_with fail
              generalize hw4 : w3.alloc (.cells #[.string (txt x0), .string (txt x1)] 44) = w4 at *
              generalize hp4 : w3.heap.size = p4 at *
              clear hw4 hp4
              have hrd5 := Rd.own HOWN4.out
              obtain ⟨A9, c9, hv9, hrd9, _, _⟩ := hrd5
              injection hv9 with f1 f2 f3
              subst f1 f3
              obtain ⟨g, off, hAg, hgl, d0, d1⟩ := hrd9.ent hjl
              subst hAg
              have hpk : pk L (j + 1) = some (L[j]).1 := pk_succ L j hjl
              obtain ⟨zy0, zy1⟩ := HZL.out _ (List.getElem_mem hjl)
              rw [hpk] at HD3 HAPP
              generalize L[j] = y at *
              obtain ⟨y0, y1⟩ := y
              simp only at d0 d1 HD3 HAPP zy0 zy1
              obtain ⟨B, hBd⟩ : ∃ B, B = dbeh y0 x0 := ⟨_, rfl⟩
              have HBH : Hid (∀ n : BelW w4, Calls Tryz.prog 44 #[.agg #[.string (txt y0), .string (txt y1)], .agg #[.string (txt x0), .string (txt x1)]] n.wld fun e w' => e = .returned (.int .i64 B) ∧ Below n.wld.heap.size n.wld w') := fun n => by
                rw [hBd]
                exact rbehind_any (y0, y1) (x0, x1) n.wld ⟨by simp only; omega, by simp only; omega⟩
              have n0 : ∀ n : BelW w4, n.wld.cell? ⟨g, off + j * 2, none⟩ = some (.string (txt y0)) := fun n => (World.cell?_of_block (a := ⟨g, off + j * 2, none⟩) (n.bel.block g hgl)).trans d0
              have n1 : ∀ n : BelW w4, n.wld.cell? ⟨g, off + j * 2 + 1, none⟩ = some (.string (txt y1)) := fun n => (World.cell?_of_block (a := ⟨g, off + j * 2 + 1, none⟩) (n.bel.block g hgl)).trans d1
              have n2 : ∀ n : BelW w4, n.wld.cell? ⟨p4, 0, none⟩ = some (.string (txt x0)) := fun n => (HX3.out.below n.bel HX3.out.lt).cell 0
              have n3 : ∀ n : BelW w4, n.wld.cell? ⟨p4, 1, none⟩ = some (.string (txt x1)) := fun n => (HX3.out.below n.bel HX3.out.lt).cell 1
              have HAP2 : Hid (B = 0 → ∀ (w5 : World), Below w4.heap.size w4 w5 → _) := fun hB w5 hb5 => HAPP.out w5 hb5 (by rw [← hB, hBd]; rfl)
              have HER : Hid (B ≠ 0 → D = ([], 0, B)) := fun hB => by
                have hd := HD3.out
                change D = dcat L a (if dbeh y0 x0 ≠ 0 then ([], 0, dbeh y0 x0) else _) at hd
                rw [← hBd, if_pos hB, dcat_err L a B hB] at hd
                exact hd
              clear d0 d1 hpk hrd9 HD3 HAPP hBd e0 e1
              by_cases hB : B = 0
              · have HAP3 := Lib.hid (HAP2.out hB)
                subst hB
                clear HAP2 HER
                refine wp_region_below_lit (by kernel_rfl) (by kernel_rfl) ?_
                repeat (first | go_big_quiet_skip | (go_big_quiet_want; go_big_quiet_op; first | go_big_quiet_on | (apply Exists.intro; refine ⟨fun nq => ?_, ?_⟩; (go_at_call 44; exact below_of (HBH.out _)); go_big_quiet_on)))
                refine wpQuiet_nil ?_
                intro wq hnq
                obtain ⟨nq, rfl⟩ := hnq
                have hq := nq.bel
                generalize nq.wld = wq at hq ⊢
                clear nq
                obtain ⟨c', A', w', hrun, hN⟩ := HAP3.out _ hq
                have HRUN := Lib.hid hrun
                have HNX := Lib.hid hN
                have u0 := (HX3.out.below hq HX3.out.lt).cell 0
                have u1 := (HX3.out.below hq HX3.out.lt).cell 1
                simp at u0 u1
                clear hrun hN HAP3 n0 n1 n2 n3 HBH hq
                go_wp2_with (at_builtin; (refine wpList_append_run rfl _ _ _ _ rfl _ _ _ rfl rfl HRUN.out ?_))
                go_roundg (n - (j + 1 + 1))
                case measure => omega
                case rel => exact ⟨j + 1 + 1, by omega, Nat.le_refl _, by go_num, HNX⟩
              · have hBi : (B != 0) = true := by rw [bne_iff_ne]; exact hB
                have HE : Hid (∀ w', Below w4.heap.size w4 w' → RNext12End w s (.returned (.tuple #[.slice none 0 0, .string ⟨#[]⟩, .int .i64 B])) w') := fun w' hb => HEN3.out B w' hB (HER.out hB) (bb HB4.out hb)
                clear HAP2 HER hB
                refine wp_region_below_lit (by kernel_rfl) (by kernel_rfl) ?_
                repeat (first | go_big_quiet_skip | (go_big_quiet_want; go_big_quiet_op; first | go_big_quiet_on | (apply Exists.intro; refine ⟨fun nq => ?_, ?_⟩; (go_at_call 44; exact below_of (HBH.out _)); go_big_quiet_on)))
                refine wpQuiet_nil ?_
                intro wq hnq
                obtain ⟨nq, rfl⟩ := hnq
                have hq := nq.bel
                generalize nq.wld = wq at hq ⊢
                clear nq
                have HE2 := Lib.hid (HE.out _ hq)
                clear hq n0 n1 n2 n3 HBH HE
                go_wp2_with fail
                go_ret3
                exact HE2.out
          · have hEi : (E != 0) = true := by rw [bne_iff_ne]; exact hE
            have hEj : (E == 0) = false := by rw [beq_eq_false_iff_ne]; exact hE
            have hd := HD2.out
            rw [if_pos hE, dcat_err L a E hE] at hd
            have HE : Hid (∀ w', Below wr.heap.size wr w' → RNext12End w s (.returned (.tuple #[.slice none 0 0, .string ⟨#[]⟩, .int .i64 E])) w') := fun w' hb => HEN3.out E w' hE hd (bb HB.out hb)
            clear hd HD2 hE hszx
            go_wp2_with fail
            refine HEX.out.mono ?_
            rintro e w3 ⟨R, rfl, _, hb3⟩
            have HE2 := Lib.hid (HE.out _ (ba hb3 (.cells #[.string (txt x0), .string (txt x1)] 44)))
            clear hb3 HEX HE
            go_wp2_with fail
            go_ret3
            exact HE2.out
        · obtain rfl : i = n := by omega
          rw [Nat.sub_self, dloop, dcat_end] at hd
          have HE := Lib.hid (HEN2.out L a (.slice A1 i c1) wr hd ⟨A1, c1, by rw [hLi], hrd, by rw [hLi]; exact hlc⟩ hbel)
          clear hd hown hrd hbel hzl HS HS0 HEN2 HEN3 HOWN
          go_wp2_with fail
          go_ret3
          exact HE.out
    · rw [if_pos hm] at hX
      have hmi : (dmany n != 0) = true := by rw [bne_iff_ne]; exact hm
      have HE : Hid (∀ w', Below w.heap.size w w' → RNext12End w s (.returned (.tuple #[.slice none 0 0, .string ⟨#[]⟩, .int .i64 (dmany n)])) w') := fun w' hb => HERR.out (dmany n) w' hm hX hb
      generalize dmany n = E at *
      clear hm hX HEND HERR HC hex
      go_enter Tryz.func25, Tryz.ntmps25
      go_wp2_with fail
      refine HG.out.mono ?_
      rintro e w1 ⟨rfl, hb1⟩
      have HE1 := Lib.hid (HE.out w1 hb1)
      clear hb1
      go_wp2_with fail
      refine (HCN.out _).mono ?_
      rintro e w2 ⟨rfl, rfl⟩
      go_wp2_with fail
      go_ret3
      exact HE1.out
  · rw [if_pos hG] at hX
    have hvi : (((G : Nat) : Int) != 0) = true := by rw [bne_iff_ne]; omega
    have hvj : (((G : Nat) : Int) == 0) = false := by rw [beq_eq_false_iff_ne]; omega
    have HE : Hid (∀ w', Below w.heap.size w w' → RNext12End w s (.returned (.tuple #[.slice none 0 0, .string ⟨#[]⟩, .int .i64 (G : Int)])) w') := fun w' hb => HERR.out (G : Int) w' (by omega) hX hb
    clear hX HEND HERR HC hvok
    go_enter Tryz.func25, Tryz.ntmps25
    go_wp2_with fail
    refine HG.out.mono ?_
    rintro e w1 ⟨rfl, hb1⟩
    have HE1 := Lib.hid (HE.out w1 hb1)
    clear hb1
    go_wp2_with fail
    go_ret3
    exact HE1.out
/-- The end of the document's Parse. -/
theorem rparse12_any (s : ByteArray) (w : World) (hs : s.size ≤ 1000000) : Calls Tryz.prog 22 #[.string s] w (DParseEnd w s) := by
  have HN := Lib.hid (rnext12_any s w hs)
  unfold RNext12End at HN
  obtain ⟨Z, hZ⟩ : ∃ Z, Z = dparse echk s.data.toList := ⟨_, rfl⟩
  have HEND : Hid (∀ v w', SlE w' v Z.1 → Below w.heap.size w w' → DParseEnd w s (.returned (.tuple #[v, .int .i64 Z.2])) w') := fun v w' h1 h2 => by
    unfold DParseEnd
    rw [← hZ]
    exact ⟨v, rfl, h1, h2⟩
  unfold dparse at hZ
  rw [len_list] at hZ
  have hok : (dnext echk s.data.toList).2.2 = 0 → (dnext echk s.data.toList).2.1 ≤ s.size := fun h => by have := (dnext_ok h).1; rwa [len_list] at this
  have hle := len_list s
  generalize dnext echk s.data.toList = X at *
  obtain ⟨L, m, E⟩ := X
  simp only at HN hZ hok
  go_enter Tryz.func22, Tryz.ntmps22
  by_cases hE : E = 0
  · subst hE
    rw [if_neg (by simp)] at hZ
    have hm := hok rfl
    go_wp2_with fail
    refine HN.out.mono ?_
    rintro e w2 ⟨v, R, rfl, hsl, hR, hb⟩
    have hR2 := hR trivial
    subst hR2
    have HB := Lib.hid hb
    have HSL := Lib.hid hsl
    obtain ⟨A, c, rfl, _, _⟩ := hsl
    clear hb hR HN hok
    by_cases hlt : m < s.size
    · rw [if_pos hlt] at hZ
      have hne : (txt (s.data.toList.drop m)).toList.isEmpty = false := by
        rw [ByteArray.toList_eq, txt_list]
        cases hx : s.data.toList.drop m with
        | nil =>
          have h1 := congrArg List.length hx
          rw [List.length_drop, hle, List.length_nil] at h1
          omega
        | cons y r => rfl
      have HE : Hid (DParseEnd w s (.returned (.tuple #[.slice none 0 0, .int .i64 10])) w2) := by
        have := HEND.out (.slice none 0 0) w2 (by rw [hZ]; exact sle_nil7 w2) HB.out
        rw [hZ] at this
        exact this
      clear hZ HEND
      generalize txt (s.data.toList.drop m) = T at *
      go_wp2_with fail
      go_ret2
      exact HE.out
    · rw [if_neg hlt] at hZ
      have hne : (txt (s.data.toList.drop m)).toList.isEmpty = true := by rw [ByteArray.toList_eq, txt_list, List.drop_of_length_le (by omega)]; rfl
      have HE : Hid (DParseEnd w s (.returned (.tuple #[.slice A L.length c, .int .i64 0])) w2) := by
        have := HEND.out (.slice A L.length c) w2 (by rw [hZ]; exact HSL.out) HB.out
        rw [hZ] at this
        exact this
      clear hZ HEND
      generalize txt (s.data.toList.drop m) = T at *
      go_wp2_with fail
      go_ret2
      exact HE.out
  · rw [if_pos hE] at hZ
    have hEi : (E != 0) = true := by rw [bne_iff_ne]; exact hE
    have HE : Hid (∀ w', Below w.heap.size w w' → DParseEnd w s (.returned (.tuple #[.slice none 0 0, .int .i64 E])) w') := fun w' hb => by
      have := HEND.out (.slice none 0 0) w' (by rw [hZ]; exact sle_nil7 w') hb
      rw [hZ] at this
      exact this
    clear hZ HEND hE hok
    go_wp2_with fail
    refine HN.out.mono ?_
    rintro e w2 ⟨v, R, rfl, hsl, hR, hb⟩
    have HE2 := Lib.hid (HE.out _ hb)
    obtain ⟨A, c, rfl, _, _⟩ := hsl
    clear hb hR HN HE
    go_wp2_with fail
    go_ret2
    exact HE2.out
end Go.Proofs.YtgbgbdocgpdkgaaGreatDoor
end

section
/-
  The walk of the statement of layer 12 of the descriptor whose key any bytes are, or begin with. Conditions: a text within int; Go's tables of UTF-8 lie in memory.
-/
namespace Go.Proofs.YtgbgbdocgpdkgaaGreatDoor
open Go.RowKit Go.PM
set_option maxRecDepth 100000
set_option maxHeartbeats 4000000
attribute [local go_sem ↓] Go.wp_at_zero Go.wp_at_succ

theorem dloop_len : ∀ (n : Nat) (p : Option (List UInt8)) (s : List UInt8), (dloop echk n p s).1.length ≤ n
  | 0, _, _ => by simp [dloop]
  | n + 1, p, s => by
    rw [dloop]
    split
    · simp
    · split
      · simp
      · split
        · simp
        · have := dloop_len n (some (enx echk s).1.1) (s.drop (enx echk s).2.1)
          simp only [List.length_cons]
          omega
theorem dnext_len (s : List UInt8) : (dnext echk s).1.length ≤ 1000 := by
  unfold dnext
  split
  · simp
  · split
    · simp
    · rename_i h
      have hn : (vget s).1 ≤ 16 := by
        unfold dmany at h
        by_cases h0 : (vget s).1 = 0
        · omega
        by_cases h1 : 16 < (vget s).1
        · rw [if_neg h0, if_pos h1] at h; exact absurd (by decide) h
        omega
      split
      · simp
      · have := dloop_len (vget s).1 none (s.drop (vget s).2.1)
        simp only
        omega
theorem dparse_len (s : List UInt8) : (dparse echk s).1.length ≤ 1000 := by
  unfold dparse
  split
  · simp
  · split
    · simp
    · exact dnext_len s
theorem dreads_walk (s : ByteArray) (w : World) (hT : Tabs w) (hs : s.size ≤ 9223372036854775807) :
    Calls Tryz.prog 5 #[.string s] w fun e w' => e = .returned (.bool true) ∧ Below w.heap.size w w' := by
  have HA := Lib.hid (awake12 w hT)
  have hb1 : Below w.heap.size w w := b0
  have HT : Hid (Tabs w) := hT
  clear hT
  go_enter Tryz.func5, Tryz.ntmps5
  by_cases hbe : 3000 < s.size
  · have hbi : (3000 : Int) < (s.size : Int) := by omega
    go_wp2_with fail
    refine (HA.out).mono ?_
    rintro e w1 ⟨rfl, hb2⟩
    replace hb1 := bb hb1 hb2
    skip
    clear hb2
    go_wp2_with fail
    go_ret
    exact ⟨rfl, hb1⟩
  have hbi : ¬ (3000 : Int) < (s.size : Int) := by omega
  obtain ⟨P, hP⟩ : ∃ P, P = dparse echk s.data.toList := ⟨_, rfl⟩
  obtain ⟨N, hN⟩ : ∃ N, N = dnext echk s.data.toList := ⟨_, rfl⟩
  have hpl := dparse_len s.data.toList
  have hnl := dnext_len s.data.toList
  have HP1 : Hid (∀ x : World, Below w.heap.size w x → Calls Tryz.prog 21 #[.string s] x fun e w' => ∃ (A1 : Option Addr) (c1 : Nat), e = .returned (.tuple #[.slice A1 P.1.length c1, .int .i64 P.2]) ∧ Rd w' A1 (ents P.1) ∧ Below x.heap.size x w') := fun x hx => by
    refine (dparse_any s x (HT.out.below hx) hs).mono ?_
    rintro e w' ⟨v, rfl, ⟨A1, c1, rfl, h1, _⟩, h2⟩
    rw [← hP] at h1 ⊢
    exact ⟨A1, c1, rfl, h1, h2⟩
  have HP2 : Hid (∀ x : World, Calls Tryz.prog 22 #[.string s] x fun e w' => ∃ (A1 : Option Addr) (c1 : Nat), e = .returned (.tuple #[.slice A1 P.1.length c1, .int .i64 P.2]) ∧ Rd w' A1 (ents P.1) ∧ Below x.heap.size x w') := fun x => by
    refine (rparse12_any s x (by omega)).mono ?_
    rintro e w' ⟨v, rfl, ⟨A1, c1, rfl, h1, _⟩, h2⟩
    rw [← hP] at h1 ⊢
    exact ⟨A1, c1, rfl, h1, h2⟩
  have HN1 : Hid (∀ (x : World) (g : Nat), Below w.heap.size w x → w.heap.size ≤ g → Cur x g s 0 → Calls Tryz.prog 24 #[.pointer (some ⟨g, 0, none⟩)] x fun e w' => ∃ (A1 : Option Addr) (c1 : Nat), e = .returned (.tuple #[.slice A1 N.1.length c1, .int .i64 N.2.2]) ∧ Rd w' A1 (ents N.1) ∧ ∃ k', Cur w' g s k' ∧ (N.2.2 = 0 → k' = N.2.1) ∧ x.grownBy w' (some g)) := fun x g hx hg hc => by
    refine (dnext_any w HT.out g s 0 x hx hg hc).mono ?_
    rintro e w' ⟨k', v, rfl, ⟨A1, c1, rfl, h1, _⟩, h2, h3, h4⟩
    rw [List.drop_zero, ← hN] at h1 h3 ⊢
    exact ⟨A1, c1, rfl, h1, k', h2, fun h => by have := h3 h; omega, h4⟩
  have HN2 : Hid (∀ x : World, Calls Tryz.prog 25 #[.string s] x fun e w' => ∃ (A1 : Option Addr) (c1 : Nat) (R : ByteArray), e = .returned (.tuple #[.slice A1 N.1.length c1, .string R, .int .i64 N.2.2]) ∧ Rd w' A1 (ents N.1) ∧ (N.2.2 = 0 → R = txt (s.data.toList.drop N.2.1)) ∧ Below x.heap.size x w') := fun x => by
    refine (rnext12_any s x (by omega)).mono ?_
    rintro e w' ⟨v, R, rfl, ⟨A1, c1, rfl, h1, _⟩, h2, h3⟩
    rw [← hN] at h1 h2 ⊢
    exact ⟨A1, c1, R, rfl, h1, h2, h3⟩
  rw [← hP] at hpl
  rw [← hN] at hnl
  clear hP hN
  have to' : ∀ (L : List Ent), L.length ≤ 1000 → ∀ (x : World) (A' : Option Addr) (c' : Nat), Rd x A' (ents L) → Calls Tryz.prog 14 #[.slice A' L.length c'] x fun e w' => ∃ (A1 : Option Addr) (c1 : Nat), e = .returned (.slice A1 L.length c1) ∧ Rd w' A1 (ents L) ∧ Below x.heap.size x w' := fun L hL x A' c' hx => by
    refine (to_any A' c' L x hx (by omega)).mono ?_
    rintro e w' ⟨v, rfl, ⟨A1, c1, rfl, h1, _⟩, h2⟩
    exact ⟨A1, c1, rfl, h1, h2⟩
  have eq' : ∀ (L : List Ent), L.length ≤ 1000 → ∀ (x : World) (A' B' : Option Addr) (c' d' : Nat), Rd x A' (ents L) → Rd x B' (ents L) → Calls Tryz.prog 18 #[.slice A' L.length c', .slice B' L.length d'] x fun e w' => e = .returned (.bool true) ∧ Below x.heap.size x w' := fun L hL x A' B' c' d' h1 h2 => by
    have := requ_any A' B' c' d' L L x h1 h2 (by omega)
    rwa [decide_eq_true rfl] at this
  obtain ⟨P, EP⟩ := P
  obtain ⟨N, m, EN⟩ := N
  simp only at HP1 HP2 HN1 HN2 hpl hnl
  have HTP := Lib.hid (to' P hpl)
  have HTN := Lib.hid (to' N hnl)
  have HEP := Lib.hid (eq' P hpl)
  have HEN := Lib.hid (eq' N hnl)
  clear to' eq' hpl hnl
  go_wp2_with fail
  refine (HA.out).mono ?_
  rintro e w1 ⟨rfl, hb2⟩
  replace hb1 := bb hb1 hb2
  skip
  clear hb2
  go_wp2_with fail
  refine (HP1.out _ hb1).mono ?_
  rintro e w2 ⟨A1, c1, rfl, hrd, hb2⟩
  replace hb1 := bb hb1 hb2
  skip
  have HR1 := Lib.hid hrd
  clear hb2 hrd
  have h2 : Below w2.heap.size w2 w2 := b0
  go_wp2_with fail
  refine (HP2.out _).mono ?_
  rintro e w3 ⟨A2, c2, rfl, hrd, hb2⟩
  replace hb1 := bb hb1 hb2
  replace h2 := bb h2 hb2
  have HR2 := Lib.hid hrd
  clear hb2 hrd
  have h3 : Below w3.heap.size w3 w3 := b0
  go_wp2_with fail
  refine (cur_over s w3).mono ?_
  rintro e w4 ⟨rfl, rfl⟩
  have hc4 : Cur (w3.alloc (.cells #[.string s, .int .i64 0] 79)) w3.heap.size s 0 := ⟨BlkAt.made w3 79 #[.string s, .int .i64 0], Nat.zero_le _, hs⟩
  have hg3 := hb1.size
  have hg2 := h2.size
  have hc3 := ba (a := w3) b0 (.cells #[.string s, .int .i64 0] 79)
  have HNN := Lib.hid (HN1.out _ w3.heap.size (bb hb1 hc3) hg3 hc4)
  replace hb1 := bb hb1 hc3
  replace h2 := bb h2 hc3
  replace h3 := hc3
  clear hc4 HN1
  go_wp2_with fail
  refine HNN.out.mono ?_
  rintro e w5 ⟨A3, c3, rfl, hrd, k', hc5, hk5, hg5⟩
  replace hb1 := bg hb1 hg5 hg3
  replace h2 := bg h2 hg5 hg2
  replace h3 := bg h3 hg5 (Nat.le_refl _)
  have h5 : Below w5.heap.size w5 w5 := b0
  have HR3 := Lib.hid hrd
  have HC5 := Lib.hid hc5
  have HK5 := Lib.hid hk5
  clear hrd hc5 hk5 hg5 HNN hg3 hg2 hc3
  go_wp2_with fail
  refine (HN2.out _).mono ?_
  rintro e w6 ⟨A4, c4, R, rfl, hrd, hR, hb2⟩
  replace hb1 := bb hb1 hb2
  replace h2 := bb h2 hb2
  replace h3 := bb h3 hb2
  replace h5 := bb h5 hb2
  have h6 : Below w6.heap.size w6 w6 := b0
  have HR4 := Lib.hid hrd
  have HR := Lib.hid hR
  clear hrd hR hb2 HN2
  go_wp2_with fail
  refine (dnext_nil _).mono ?_
  rintro e w7 ⟨rfl, hb2⟩
  replace hb1 := bb hb1 hb2
  replace h2 := bb h2 hb2; replace h3 := bb h3 hb2; replace h5 := bb h5 hb2; replace h6 := bb h6 hb2
  clear hb2
  go_wp2_with fail
  refine (HTP.out _ A1 c1 (HR1.out.below h2)).mono ?_
  rintro e w8 ⟨A5, c5, rfl, hrd, hb2⟩
  replace hb1 := bb hb1 hb2
  replace h3 := bb h3 hb2; replace h5 := bb h5 hb2; replace h6 := bb h6 hb2
  have HR5 := Lib.hid hrd
  clear hb2 hrd
  go_wp2_with fail
  refine (HEP.out _ A5 A2 c5 c2 HR5.out (HR2.out.below h3)).mono ?_
  rintro e w9 ⟨rfl, hb2⟩
  replace hb1 := bb hb1 hb2
  replace h5 := bb h5 hb2; replace h6 := bb h6 hb2
  clear hb2
  go_wp2_with fail
  refine (HTN.out _ A3 c3 (HR3.out.below h5)).mono ?_
  rintro e w10 ⟨A6, c6, rfl, hrd, hb2⟩
  replace hb1 := bb hb1 hb2
  replace h5 := bb h5 hb2; replace h6 := bb h6 hb2
  have HR6 := Lib.hid hrd
  clear hb2 hrd
  by_cases hE : EN = 0
  · have hk := HK5.out hE
    have hRe := HR.out hE
    subst hk hRe hE
    go_wp2_with fail
    refine (HEN.out _ A6 A4 c6 c4 HR6.out (HR4.out.below h6)).mono ?_
    rintro e w11 ⟨rfl, hb2⟩
    replace hb1 := bb hb1 hb2
    replace h5 := bb h5 hb2
    clear hb2
    have HRS := Lib.hid (cur_rest _ s k' w11 ⟨HC5.out.1.below h5 HC5.out.1.lt, HC5.out.2⟩)
    have hex : s.extract k' s.size = txt (s.data.toList.drop k') := txt_eq (by rw [PM.ext_rest])
    rw [hex] at HRS
    clear hex
    go_wp2_with fail
    refine (HRS.out).mono ?_
    rintro e w12 ⟨rfl, hb2⟩
    replace hb1 := bb hb1 hb2
    skip
    clear hb2
    go_wp2_with fail
    go_ret
    exact ⟨rfl, hb1⟩
  · have hEi : (EN != 0) = true := by rw [bne_iff_ne]; exact hE
    clear hE
    go_wp2_with fail
    refine (HEN.out _ A6 A4 c6 c4 HR6.out (HR4.out.below h6)).mono ?_
    rintro e w11 ⟨rfl, hb2⟩
    replace hb1 := bb hb1 hb2
    skip
    clear hb2
    go_wp2_with fail
    go_ret
    exact ⟨rfl, hb1⟩
end Go.Proofs.YtgbgbdocgpdkgaaGreatDoor
end
