/-
  Texts of the proof, joined: RPick2 Pick5 Pick6. Conditions: as each names.
-/
import Derived.Test.YtigbifiicbghpaaDoorBal

section
/-
  Layer 10: the document's way to bring lists together, walked. Conditions: fields whose numbers are within their kinds; at most a million fields.
-/
namespace Go.PM
section
variable {X : Type} (key : X → Nat)
theorem kfold_snoc (x : X) : ∀ (l acc : List X), kfold key acc (l ++ [x]) = kins key x (kfold key acc l)
  | [], acc => rfl
  | y :: r, acc => by rw [List.cons_append, kfold, kfold, kfold_snoc x r]
theorem ksort_snoc (l : List X) (x : X) : ksort key (l ++ [x]) = kins key x (ksort key l) := kfold_snoc key x l []
theorem ksort_len (l : List X) : (ksort key l).length = l.length := (ksort_perm key l).length_eq
/-- Put behind all of a lesser key, ahead of one of a greater key. -/
theorem kput {l : List X} {x : X} {a : Nat} (hn : (l.map key).Nodup) (ha : a ≤ (ksort key l).length) (h1 : ∀ j (h : j < (ksort key l).length), j < a → key (ksort key l)[j] < key x) (h2 : ∀ h : a < (ksort key l).length, key x < key (ksort key l)[a]) :
    ksort key (l ++ [x]) = (ksort key l).take a ++ x :: (ksort key l).drop a ∧ ((l ++ [x]).map key).Nodup := by
  have e : ksort key (l ++ [x]) = (ksort key l).take a ++ x :: (ksort key l).drop a := by
    rw [ksort_snoc]
    exact kins_at key x _ a ha h1 fun h => by have := h2 h; omega
  refine ⟨e, ?_⟩
  have hr := krise_of key (ksort_le key l) (((ksort_perm key l).symm.map key).nodup hn)
  generalize hS : ksort key l = S at *
  have hp : (l ++ [x]).Perm (S.take a ++ x :: S.drop a) := by rw [← e]; exact (ksort_perm key _).symm
  refine (hp.symm.map key).nodup (krise_nodup key ?_)
  rw [List.pairwise_iff_getElem] at hr
  rw [List.pairwise_append]
  refine ⟨?_, ?_, ?_⟩
  · rw [List.pairwise_iff_getElem]
    intro i j hi hj hij
    rw [List.getElem_take, List.getElem_take]
    exact hr i j (by simp at hi; omega) (by simp at hj; omega) hij
  · rw [List.pairwise_cons]
    refine ⟨fun b hb => ?_, ?_⟩
    · obtain ⟨i, hi, rfl⟩ := List.getElem_of_mem hb
      rw [List.getElem_drop]
      rw [List.length_drop] at hi
      have h3 := h2 (by omega)
      by_cases h0 : i = 0
      · subst h0; exact h3
      · have := hr a (a + i) (by omega) (by omega) (by omega); omega
    · rw [List.pairwise_iff_getElem]
      intro i j hi hj hij
      rw [List.getElem_drop, List.getElem_drop]
      rw [List.length_drop] at hi hj
      exact hr (a + i) (a + j) (by omega) (by omega) (by omega)
  · intro b hb c hc
    obtain ⟨i, hi, rfl⟩ := List.getElem_of_mem hb
    rw [List.getElem_take]
    rw [List.length_take] at hi
    have h3 := h1 i (by omega) (by omega)
    rcases List.mem_cons.1 hc with rfl | hc
    · exact h3
    · obtain ⟨j, hj, rfl⟩ := List.getElem_of_mem hc
      rw [List.getElem_drop]
      rw [List.length_drop] at hj
      exact hr i (a + j) (by omega) (by omega) (by omega)
theorem kdup {l rest : List X} {x : X} {a : Nat} (ha : a < (ksort key l).length) (he : key (ksort key l)[a] = key x) : ¬ ((l ++ x :: rest).map key).Nodup := fun hn => by
  rw [List.map_append, List.nodup_append] at hn
  have hm : (ksort key l)[a] ∈ l := (ksort_perm key l).mem_iff.1 (List.getElem_mem ha)
  exact hn.2.2 _ (List.mem_map_of_mem hm) (key x) (by simp) he
end
end Go.PM
namespace Go.Proofs.YtigbifiicbghpaaDoor
open Go.RowKit Go.PM
set_option maxRecDepth 100000
set_option maxHeartbeats 4000000
attribute [local go_sem ↓] Go.wp_at_zero Go.wp_at_succ

/-- What has been put so far. -/
def RMAt (w : World) (done : List Fl) (vo : Value) (wr : World) : Prop :=
  ∃ (A : Option Addr) (c : Nat) (xs : List Value), vo = .slice A done.length c ∧ wr.ownsRow w.heap.size 51 5 (.slice A done.length c) done.length xs ∧ Cls wr (fun q => (Value.slice A done.length c).ownBlock ≠ some q) xs (ofL (ksort Fl.tag done)) ∧ (done.map Fl.tag).Nodup ∧ Below w.heap.size w wr
/-- The end of the document's Merge. -/
def RMergeEnd (w : World) (r : Fs × Nat) (e : Ending) (w' : World) : Prop :=
  ∃ (A : Option Addr) (c : Nat), e = .returned (.tuple #[.slice A r.1.len c, .int .i64 (r.2 : Int)]) ∧ SlV w' (fun _ => True) (.slice A r.1.len c) r.1 ∧ Below w.heap.size w w'
theorem fbad_take {l : List Fs} (k : Nat) (h : fbad l = 0) : fbad (l.take k) = 0 := by
  by_cases h0 : fbad (l.take k) = 0
  · exact h0
  · have := fbad_app (l.drop k) (l.take k) h0
    rw [List.take_append_drop, h] at this
    exact absurd this.symm h0
theorem rmerge_any (A : Option Addr) (cap : Nat) (fs : List Fs) (vs : List Value) (I : Nat → Prop) (w : World) (hr : PM.Rd w A vs) (hv : LsV w I vs fs) (hk : ∀ f ∈ fs, f.All FKd) (hc : (fcat fs).count ≤ 1000000) (hl : fs.length ≤ 1000000) :
    Calls Tryd.prog 12 #[.slice A fs.length cap] w (RMergeEnd w (fmerge fs)) := by
  have HR := Lib.hid hr
  have HV := Lib.hid hv
  have hvl := hv.len
  have HK := Lib.hid hk
  have HC := Lib.hid hc
  clear hr hv hk
  go_enter Tryd.func12, Tryd.ntmps12
  go_wp2_with fail
  go_loopg [16] fs.length (fun gk ki wr => ∃ k : Nat, k ≤ fs.length ∧ fs.length - k ≤ gk ∧ ki = .int .i64 (k : Int) ∧ fbad (fs.take k) = 0 ∧ Below w.heap.size w wr)
  case atStart => exact ⟨0, Nat.zero_le _, by omega, rfl, rfl, b0⟩
  case round =>
    obtain ⟨k, hkl, hgk, rfl, hbad, hb⟩ := hrel
    have HB := Lib.hid hb
    by_cases hlt : k < fs.length
    · obtain ⟨b, off, rfl, hbl, hcell⟩ := (HR.out.below hb).at_ (k := k) (by omega)
      have hsk := (HV.out.at_ k (by omega) hlt).below hb
      obtain ⟨B, cB, hveq, _⟩ := id hsk
      rw [hveq] at hcell hsk
      have hcnt := fcat_count_le fs k hlt
      have HS := Lib.hid hsk
      have HKK := Lib.hid (HK.out _ (List.getElem_mem hlt))
      have HFB : Hid (fbad (fs.take (k + 1)) = fcheck fs[k] 0 0) := by
        show _ = _
        rw [← List.take_append_getElem hlt, fbad_snoc, if_neg (by simpa using hbad)]
      have HFE : Hid (fcheck fs[k] 0 0 ≠ 0 → fmerge fs = (.nil, fcheck fs[k] 0 0)) := fun h => by
        have := fbad_at hlt hbad h
        unfold fmerge
        rw [this, if_pos h]
      have hcC := HC.out
      generalize fs[k] = g at *
      have hgc : g.count ≤ 1000000 := by omega
      clear hb hsk hveq hcnt
      have HCK := Lib.hid (rcheck_any8 g.count B cB g _ 0 wr (Nat.le_refl _) HS.out HKK.out hgc (.inl (by omega)))
      go_wp2_with fail
      refine HCK.out.mono ?_
      rintro e w2 ⟨rfl, hb2⟩
      have HB2 := Lib.hid hb2
      clear hb2 HCK
      by_cases hck : fcheck g 0 0 = 0
      · have HN : Hid (fbad (fs.take (k + 1)) = 0) := by have := HFB.out; rw [hck] at this; exact this
        rw [hck]
        clear hck HFB HFE
        go_wp2_with fail
        go_roundg (fs.length - (k + 1))
        case measure => omega
        case rel => exact ⟨k + 1, by omega, Nat.le_refl _, by go_num, HN.out, bb HB.out HB2.out⟩
      · have HE : Hid (∀ w', Below w2.heap.size w2 w' → RMergeEnd w (fmerge fs) (.returned (.tuple #[.slice none 0 0, .int .i64 (fcheck g 0 0 : Int)])) w') := fun w' hb => by
          rw [HFE.out hck]
          exact ⟨none, 0, rfl, SlV.nil _ _ _ _, bb (bb HB.out HB2.out) hb⟩
        generalize fcheck g 0 0 = G at *
        have hgi : ((G : Int) != 0) = true := by rw [bne_iff_ne]; omega
        clear hck HFB HFE
        go_wp2_with fail
        go_ret2
        exact HE.out _ b0
    · obtain rfl : k = fs.length := by omega
      rw [List.take_of_length_le (Nat.le_refl _)] at hbad
      have HFM : Hid (fmerge fs = fmrg (fcat fs)) := by unfold fmerge; rw [hbad]; rfl
      have H0 : Hid (RMAt w [] (.slice none 0 0) wr) := ⟨none, 0, [], rfl, World.ownsRow_nil _ _ _ _, trivial, List.nodup_nil, hb⟩
      clear hbad hb hgk hkl hlt
      go_wp2_with fail
      go_loopg [7, 28] fs.length (fun gk1 vo ki wr => ∃ k : Nat, k ≤ fs.length ∧ fs.length - k ≤ gk1 ∧ ki = .int .i64 (k : Int) ∧ Hid (RMAt w (fcat (fs.take k)).toL vo wr))
      case atStart => exact ⟨0, Nat.zero_le _, by omega, rfl, H0⟩
      case round =>
        obtain ⟨k, hkl, hgk1, rfl, HM⟩ := hrel
        obtain ⟨G1, hG1⟩ : ∃ G1, G1 = gk := ⟨_, rfl⟩
        by_cases hlt : k < fs.length
        · have hb : Below w.heap.size w wr := by obtain ⟨_, _, _, _, _, _, _, h⟩ := HM.out; exact h
          obtain ⟨b, off, rfl, hbl, hcell⟩ := (HR.out.below hb).at_ (k := k) (by omega)
          have hsk := HV.out.at_ k (by omega) hlt
          obtain ⟨B, cB, hveq, _⟩ := id hsk
          rw [hveq] at hcell hsk
          have HS := Lib.hid hsk
          have HN1 : Hid ((fcat (fs.take (k + 1))).toL = (fcat (fs.take k)).toL ++ fs[k].toL ∧ ∃ r, (fcat fs).toL = ((fcat (fs.take k)).toL ++ fs[k].toL) ++ r) := by
            refine ⟨by rw [← List.take_append_getElem hlt, fcat_snoc, toL_app], (fcat (fs.drop (k + 1))).toL, ?_⟩
            rw [← toL_app, ← fcat_snoc, List.take_append_getElem, ← toL_app, ← fcat_app, List.take_append_drop]
          have hff := Nat.le_trans (fcat fs).len_count HC.out
          have H0 : Hid (RMAt w ((fcat (fs.take k)).toL ++ fs[k].toL.take 0) u7 wr) := by rw [List.take_zero, List.append_nil]; exact HM.out
          generalize fs[k] = f at *
          generalize (fcat (fs.take k)).toL = D at *
          have hfl : f.len ≤ 1000000 := by
            obtain ⟨r, hr⟩ := HN1.out.2
            have := congrArg List.length hr
            simp only [List.length_append, toL_len] at this
            omega
          clear hb hsk hveq HM
          go_wp2_with fail
          go_loopg [7, 34] f.len (fun gk2 vo ji wr => ∃ j : Nat, j ≤ f.len ∧ f.len - j ≤ gk2 ∧ ji = .int .i64 (j : Int) ∧ Hid (RMAt w (D ++ f.toL.take j) vo wr))
          case atStart => exact ⟨0, Nat.zero_le _, by omega, rfl, H0⟩
          case round =>
            obtain ⟨j, hjl, hgk2, rfl, HM⟩ := hrel
            obtain ⟨G2, hG2⟩ : ∃ G2, G2 = gk := ⟨_, rfl⟩
            by_cases hjt : j < f.len
            · obtain ⟨A1, c1, xs, rfl, hown, hcls, hnd, hb⟩ := HM.out
              obtain ⟨t, y, n, s, i, hdc, _⟩ := f.drop_cons j hjt
              obtain ⟨B', cB', hv', hcB, hor⟩ := HS.out.below hb
              injection hv' with q1 q2 q3
              subst q1 q3
              rcases hor with h0 | ⟨bf, off2, rfl, _, hbf, hat⟩
              · omega
              have hak := hat.drop j
              rw [hdc] at hak
              obtain ⟨d0, d1, d2, d3, ⟨Ai, ci, d4, hci, hin⟩, _⟩ := hak
              have hsi : SlV wr (fun _ => True) (.slice Ai i.len ci) i := (show SlV wr I (.slice Ai i.len ci) i from ⟨Ai, ci, rfl, hci, hin⟩).imp fun _ _ => trivial
              have htd := toL_drop hdc
              rw [List.getElem?_eq_getElem (by rw [toL_len]; exact hjt)] at htd
              injection htd with htd
              have hd1 : D ++ f.toL.take (j + 1) = (D ++ f.toL.take j) ++ [⟨t, y, n, s, i⟩] := by
                rw [← List.take_append_getElem (show j < f.toL.length by rw [toL_len]; exact hjt), htd, List.append_assoc]
              have hd2 : ∃ r, (fcat fs).toL = (D ++ f.toL.take j) ++ ⟨t, y, n, s, i⟩ :: r := by
                obtain ⟨r, hr⟩ := HN1.out.2
                refine ⟨f.toL.drop (j + 1) ++ r, ?_⟩
                rw [hr]
                have : f.toL = f.toL.take j ++ ⟨t, y, n, s, i⟩ :: f.toL.drop (j + 1) := by
                  rw [← htd, ← List.drop_eq_getElem_cons, List.take_append_drop]
                conv => lhs; rw [this]
                simp
              have HD1 := Lib.hid hd1
              have HD2 := Lib.hid hd2
              have hL1 : (D ++ f.toL.take j).length + 1 ≤ 1000000 := by
                obtain ⟨r, hr⟩ := hd2
                have := congrArg List.length hr
                simp only [List.length_append, List.length_cons, toL_len] at this ⊢
                omega
              clear hat hin hdc htd hd1 hd2
              generalize D ++ f.toL.take j = done at *
              have hSl := ksort_len Fl.tag done
              obtain ⟨L, hL⟩ : ∃ L, L = done.length := ⟨_, rfl⟩
              have HLd := Lib.hid hL
              rw [← hL] at hown hcls hSl hL1 ⊢
              have heL : (ofL (ksort Fl.tag done)).len = L := by rw [ofL_len, hSl]
              have hcLc : L ≤ c1 := by
                rcases hown.2 with ⟨h, h'⟩ | ⟨g', cap', cur, hv, _, _, hn, _⟩
                · omega
                · injection hv with h1 h2 h3
                  omega
              have HOWN := Lib.hid hown
              have HCLS := Lib.hid hcls
              have HND := Lib.hid hnd
              have HB := Lib.hid hb
              have HSI := Lib.hid hsi
              have HPUT : Hid (∀ a, a ≤ L → (∀ q (h : q < (ksort Fl.tag done).length), q < a → (ksort Fl.tag done)[q].tag < t) → (∀ h : a < (ksort Fl.tag done).length, t < (ksort Fl.tag done)[a].tag) →
                  ksort Fl.tag (done ++ [(⟨t, y, n, s, i⟩ : Fl)]) = (ksort Fl.tag done).take a ++ ⟨t, y, n, s, i⟩ :: (ksort Fl.tag done).drop a ∧ ((done ++ [(⟨t, y, n, s, i⟩ : Fl)]).map Fl.tag).Nodup) := fun a h1 h2 h3 => kput Fl.tag (l := done) (x := (⟨t, y, n, s, i⟩ : Fl)) (a := a) hnd (by rw [ksort_len, ← hL]; exact h1) h2 h3
              have HDUP : Hid (∀ a (h : a < (ksort Fl.tag done).length), (ksort Fl.tag done)[a].tag = t → fmerge fs = (.nil, 14)) := fun a h he => by
                obtain ⟨r, hr⟩ := HD2.out
                rw [HFM.out]
                unfold fmrg
                rw [hr, if_neg (kdup Fl.tag h he)]
              clear hown hcls hnd hb hsi hL
              generalize hSS : ksort Fl.tag done = S at *
              have HSS := Lib.hid hSS
              clear hSS
              have HSO : Hid (SlV wr (fun _ => True) (.slice A1 L c1) (ofL S)) := by
                have own' : wr.ownsRow w.heap.size 51 5 (.slice A1 (ofL S).len c1) (ofL S).len xs := by rw [heL]; exact HOWN.out
                obtain ⟨A9, c9, hv9, hs9⟩ := own_slv2 own' HCLS.out
                injection hv9 with h1 h2 h3
                subst h1 h3
                rw [heL] at hs9
                exact hs9
              go_wp2_with fail
              have hx := BlkAt.made wr 51 #[.int .u64 (t : Int), .int .i64 y, .int .u64 (n : Int), .string s, .slice Ai i.len ci]
              have hbb := ba (a := wr) b0 (.cells #[.int .u64 (t : Int), .int .i64 y, .int .u64 (n : Int), .string s, .slice Ai i.len ci] 51)
              have HWB : Hid (wr.heap.size < (wr.alloc (.cells #[.int .u64 (t : Int), .int .i64 y, .int .u64 (n : Int), .string s, .slice Ai i.len ci] 51)).heap.size) := by show _ < _; simp
              generalize wr.alloc (.cells #[.int .u64 (t : Int), .int .i64 y, .int .u64 (n : Int), .string s, .slice Ai i.len ci] 51) = wb at hx hbb HWB ⊢
              have HX := Lib.hid hx
              have HBB := Lib.hid hbb
              have e0 := hx.cell 0
              have e1 := hx.cell 1
              have e2 := hx.cell 2
              have e3 := hx.cell 3
              have e4 := hx.cell 4
              simp at e0 e1 e2 e3 e4
              clear hx hbb d0 d1 d2 d3 d4
              have HSB : Hid (∀ x : World, Below wb.heap.size wb x → SlV x (fun _ => True) (.slice A1 L c1) (ofL S) ∧ BlkAt x wr.heap.size 51 #[.int .u64 (t : Int), .int .i64 y, .int .u64 (n : Int), .string s, .slice Ai i.len ci] ∧ SlV x (fun _ => True) (.slice Ai i.len ci) i ∧ Below w.heap.size w x ∧ w.heap.size ≤ x.heap.size) := fun x hx => by
                have h1 := bb HBB.out hx
                have h2 := bb HB.out h1
                exact ⟨HSO.out.below h1, HX.out.below hx HX.out.lt, HSI.out.below h1, h2, h2.size⟩
              go_wp2_with fail
              go_loopg [12] L (fun gk3 ai w3 => ∃ a : Nat, a ≤ L ∧ L - a ≤ gk3 ∧ ai = .int .i64 (a : Int) ∧ Below wb.heap.size wb w3 ∧ Hid (∀ q (h : q < S.length), q < a → S[q].tag < t))
              case atStart => exact ⟨0, Nat.zero_le _, by omega, rfl, b0, fun q h h1 => by omega⟩
              case round =>
                obtain ⟨a, haL, hgk3, rfl, hb3, HLE⟩ := hrel
                obtain ⟨hso3, hx3, hsi3, hb03, hz3⟩ := HSB.out _ hb3
                have e0 := hx3.cell 0
                have e1 := hx3.cell 1
                have e2 := hx3.cell 2
                have e3 := hx3.cell 3
                have e4 := hx3.cell 4
                simp at e0 e1 e2 e3 e4
                by_cases hal : a < L
                · obtain ⟨g, o, rfl, hg, hca⟩ := slv_tag (f := ofL S) (by rw [heL]; exact hso3) a (by rw [heL]; exact hal)
                  simp only [toL_ofL] at hca
                  have hali : (a : Int) < (L : Int) := by omega
                  have hald : decide (a < L) = true := decide_eq_true hal
                  have haS : a < S.length := by rw [hSl]; exact hal
                  have HTA : Hid (∀ q (h : q < S.length), q < a + 1 → q < a ∨ S[q].tag = S[a].tag) := fun q h h1 => by
                    by_cases h2 : q < a
                    · exact .inl h2
                    · right
                      have : q = a := by omega
                      subst this
                      rfl
                  have HDA := Lib.hid (HDUP.out a haS)
                  have HGT : Hid (t < S[a].tag → ∀ h : a < S.length, t < S[a].tag) := fun h _ => h
                  generalize S[a].tag = ta at *
                  have HB3 := Lib.hid hb3
                  by_cases hlt2 : ta < t
                  · have hd3 : decide (ta < t) = true := decide_eq_true hlt2
                    have hi3 : (ta : Int) < (t : Int) := by omega
                    have HLE2 : Hid (∀ q (h : q < S.length), q < a + 1 → S[q].tag < t) := fun q h h1 => by
                      rcases HTA.out q h h1 with h2 | h2
                      · exact HLE.out q h h2
                      · omega
                    clear hb3 hso3 hx3 hsi3 hb03 HTA HDA HGT
                    go_wp2_with fail
                    go_quiet (fail)
                    go_wp2_with fail
                    go_roundg (L - (a + 1))
                    case measure => omega
                    case rel => exact ⟨a + 1, by omega, Nat.le_refl _, by go_num, bn HB3.out _, HLE2⟩
                  · have hd3 : decide (ta < t) = false := decide_eq_false hlt2
                    have hi3 : decide ((ta : Int) < (t : Int)) = false := decide_eq_false (by omega)
                    by_cases het : ta = t
                    · have hti : ((ta : Int) == (t : Int)) = true := by rw [beq_iff_eq]; omega
                      have HE : Hid (∀ w', Below w.heap.size w w' → RMergeEnd w (fmerge fs) (.returned (.tuple #[.slice none 0 0, .int .i64 14])) w') := fun w' hb => by
                        rw [HDA.out het]
                        exact ⟨none, 0, rfl, SlV.nil _ _ _ _, hb⟩
                      have HBW := Lib.hid (bb HB.out (bb HBB.out hb3))
                      clear hb3 hso3 hx3 hsi3 hb03 HTA HDA HGT het
                      go_wp2_with fail
                      go_quiet (fail)
                      go_wp2_with fail
                      go_quiet (fail)
                      go_wp2_with fail
                      go_ret2
                      exact HE.out _ (bn (bn HBW.out _) _)
                    · have hti : ((ta : Int) == (t : Int)) = false := by rw [beq_eq_false_iff_ne]; omega
                      have hGT := HGT.out (by omega)
                      have hac : (a : Int) ≤ (c1 : Int) := by omega
                      have hac2 : (a : Int) < (c1 : Int) := by omega
                      have hLc : (L : Int) ≤ (c1 : Int) := by omega
                      have haLi : (a : Int) ≤ (L : Int) := by omega
                      have HGT2 := Lib.hid hGT
                      clear hso3 hx3 hsi3 hb03 HTA HDA HGT het hGT
                      go_wp2_with fail
                      go_quiet (fail)
                      have hb5 : ∀ m, Below wb.heap.size wb (wr.drewN (nq + m)) := fun m => bn hb3 _
                      go_wp2_with fail
                      go_quiet (fail)
                      have hb6 := hb5 nq
                      have HINS : Hid (∀ W1 : World, Below wb.heap.size wb W1 → InsAt W1 S L a (L - a) c1 (c1 - a) t n y s i (some ⟨g, o, none⟩) (some ⟨g, o + a * 5, none⟩) Ai ci) := fun W1 hW => by
                        obtain ⟨hs9, _, hi9, _, _⟩ := HSB.out W1 hW
                        have hs8 : SlV W1 (fun _ => True) (.slice (some ⟨g, o, none⟩) (ofL S).len c1) (ofL S) := by rw [heL]; exact hs9
                        have ht8 := hs8.take a (by rw [heL]; exact haL)
                        rw [Fs.take_len _ _ (by rw [heL]; exact haL)] at ht8
                        exact ins_at hSl (by omega) ht8 (by have h5 := hs8.drop a (by rw [heL]; exact haL) (c1 - a) (by rw [heL]; omega); rw [Fs.drop_len, heL] at h5; exact h5) hi9 haL (by omega)
                      have HPUTa := Lib.hid (HPUT.out a haL HLE.out HGT2.out)
                      obtain ⟨A2, c2, W2, hr2, hbW2, A3, c3, W3, hr3, A4, c4, W4, xs4, hr4, own4, cls4, hbW4⟩ := HINS.out _ hb6
                      have HR2 := Lib.hid hr2
                      have HR3 := Lib.hid hr3
                      have HR4 := Lib.hid hr4
                      have HF4 := Lib.hid (And.intro own4 (And.intro cls4 (bb HBB.out (bb hb6 hbW4))))
                      have HBq := Lib.hid (bb HBB.out hb6)
                      obtain ⟨_, hx4, _, _, _⟩ := HSB.out W2 (bb hb6 hbW2)
                      have k0 := hx4.cell 0
                      have k1 := hx4.cell 1
                      have k2 := hx4.cell 2
                      have k3 := hx4.cell 3
                      have k4 := hx4.cell 4
                      simp at k0 k1 k2 k3 k4
                      clear HINS hr2 hbW2 hr3 hr4 own4 cls4 hbW4 hx4
                      go_wp2_with (at_builtin; go_must (first | (refine wpList_append_run rfl _ _ _ _ rfl _ _ _ rfl rfl HR2.out ?_; clear HR2) | (refine wpList_append_run rfl _ _ _ _ rfl _ _ _ rfl rfl HR3.out ?_; clear HR3) | (refine wpList_append_run rfl _ _ _ _ rfl _ _ _ rfl rfl HR4.out ?_; clear HR4)))
                      go_roundg (f.len - (j + 1))
                      case measure => omega
                      case rel =>
                        refine ⟨j + 1, by omega, Nat.le_refl _, by go_num, ?_⟩
                        have e9 : (done ++ [(⟨t, y, n, s, i⟩ : Fl)]).length = L + 1 := by rw [List.length_append, ← HLd.out]; rfl
                        show RMAt _ _ _ _
                        rw [HD1.out]
                        unfold RMAt
                        rw [e9, HPUTa.out.1]
                        have hq := HBq.out.size
                        exact ⟨A4, c4, xs4, rfl, own_base HF4.out.1 (Nat.le_trans HB.out.size hq), HF4.out.2.1, HPUTa.out.2, bb HB.out HF4.out.2.2⟩
                · obtain rfl : a = L := by omega
                  have hGT : ∀ h : a < S.length, t < S[a].tag := fun h => by omega
                  have HGT2 := Lib.hid hGT
                  have hald : decide (a < a) = false := decide_eq_false (by omega)
                  clear hso3 hx3 hsi3 hb03 hGT
                  cases A1 with
                  | none =>
                    obtain ⟨rfl, rfl⟩ : a = 0 ∧ c1 = 0 := by
                      rcases HOWN.out.2 with ⟨h, h'⟩ | ⟨g', cap', cur, hv, _, _, hn, _⟩
                      · injection h with h1 h2 h3
                        exact ⟨h2, h3⟩
                      · injection hv with h1
                        cases h1
                    go_wp2_with fail
                    go_quiet (fail)
                    have hb5 : ∀ m, Below wb.heap.size wb (wr.drewN (nq + m)) := fun m => bn hb3 _
                    go_wp2_with fail
                    go_quiet (fail)
                    have hb6 := hb5 nq
                    have HINS : Hid (∀ W1 : World, Below wb.heap.size wb W1 → InsAt W1 S 0 0 0 0 0 t n y s i (none) (none) Ai ci) := fun W1 hW => by
                      obtain ⟨hs9, _, hi9, _, _⟩ := HSB.out W1 hW
                      have hs8 : SlV W1 (fun _ => True) (.slice none (ofL S).len 0) (ofL S) := by rw [heL]; exact hs9
                      have ht8 := hs8.take 0 (by rw [heL]; exact (Nat.le_refl _))
                      rw [Fs.take_len _ _ (by rw [heL]; exact (Nat.le_refl _))] at ht8
                      exact ins_at hSl (by omega) (by cases h7 : ofL S <;> exact SlV.nil _ _ _ _) (by have h7 := Fs.len_zero heL; rw [h7]; exact SlV.nil _ _ _ _) hi9 (Nat.le_refl _) (by omega)
                    have HPUTa := Lib.hid (HPUT.out 0 (Nat.le_refl _) HLE.out HGT2.out)
                    obtain ⟨A2, c2, W2, hr2, hbW2, A3, c3, W3, hr3, A4, c4, W4, xs4, hr4, own4, cls4, hbW4⟩ := HINS.out _ hb6
                    have HR2 := Lib.hid hr2
                    have HR3 := Lib.hid hr3
                    have HR4 := Lib.hid hr4
                    have HF4 := Lib.hid (And.intro own4 (And.intro cls4 (bb HBB.out (bb hb6 hbW4))))
                    have HBq := Lib.hid (bb HBB.out hb6)
                    obtain ⟨_, hx4, _, _, _⟩ := HSB.out W2 (bb hb6 hbW2)
                    have k0 := hx4.cell 0
                    have k1 := hx4.cell 1
                    have k2 := hx4.cell 2
                    have k3 := hx4.cell 3
                    have k4 := hx4.cell 4
                    simp at k0 k1 k2 k3 k4
                    clear HINS hr2 hbW2 hr3 hr4 own4 cls4 hbW4 hx4
                    go_wp2_with (at_builtin; go_must (first | (refine wpList_append_run rfl _ _ _ _ rfl _ _ _ rfl rfl HR2.out ?_; clear HR2) | (refine wpList_append_run rfl _ _ _ _ rfl _ _ _ rfl rfl HR3.out ?_; clear HR3) | (refine wpList_append_run rfl _ _ _ _ rfl _ _ _ rfl rfl HR4.out ?_; clear HR4)))
                    go_roundg (f.len - (j + 1))
                    case measure => omega
                    case rel =>
                      refine ⟨j + 1, by omega, Nat.le_refl _, by go_num, ?_⟩
                      have e9 : (done ++ [(⟨t, y, n, s, i⟩ : Fl)]).length = 0 + 1 := by rw [List.length_append, ← HLd.out]; rfl
                      show RMAt _ _ _ _
                      rw [HD1.out]
                      unfold RMAt
                      rw [e9, HPUTa.out.1]
                      have hq := HBq.out.size
                      exact ⟨A4, c4, xs4, rfl, own_base HF4.out.1 (Nat.le_trans HB.out.size hq), HF4.out.2.1, HPUTa.out.2, bb HB.out HF4.out.2.2⟩
                  | some g0 =>
                    obtain ⟨g, o, rfl⟩ : ∃ g o, g0 = ⟨g, o, none⟩ := by
                      rcases HOWN.out.2 with ⟨h, h'⟩ | ⟨g', cap', cur, hv, _, _, hn, _⟩
                      · cases h
                      · injection hv with h1
                        injection h1 with h1
                        exact ⟨g', 0, h1⟩
                    have hac : (a : Int) ≤ (c1 : Int) := by omega
                    by_cases hcap : a = c1
                    · subst hcap
                      have hcn : (0 : Int) ≤ (a : Int) := by omega
                      go_wp2_with fail
                      go_quiet (fail)
                      have hb5 : ∀ m, Below wb.heap.size wb (wr.drewN (nq + m)) := fun m => bn hb3 _
                      go_wp2_with fail
                      go_quiet (fail)
                      have hb6 := hb5 nq
                      have HINS : Hid (∀ W1 : World, Below wb.heap.size wb W1 → InsAt W1 S a a 0 a 0 t n y s i (some ⟨g, o, none⟩) (some ⟨g, o, none⟩) Ai ci) := fun W1 hW => by
                        obtain ⟨hs9, _, hi9, _, _⟩ := HSB.out W1 hW
                        have hs8 : SlV W1 (fun _ => True) (.slice (some ⟨g, o, none⟩) (ofL S).len a) (ofL S) := by rw [heL]; exact hs9
                        have ht8 := hs8.take a (by rw [heL]; exact (Nat.le_refl _))
                        rw [Fs.take_len _ _ (by rw [heL]; exact (Nat.le_refl _))] at ht8
                        exact ins_at hSl (by omega) ht8 (by have h7 : ((ofL S).drop a) = .nil := Fs.len_zero (by rw [Fs.drop_len, heL]; omega); rw [h7]; exact SlV.nil _ _ _ _) hi9 (Nat.le_refl _) (by omega)
                      have HPUTa := Lib.hid (HPUT.out a (Nat.le_refl _) HLE.out HGT2.out)
                      obtain ⟨A2, c2, W2, hr2, hbW2, A3, c3, W3, hr3, A4, c4, W4, xs4, hr4, own4, cls4, hbW4⟩ := HINS.out _ hb6
                      have HR2 := Lib.hid hr2
                      have HR3 := Lib.hid hr3
                      have HR4 := Lib.hid hr4
                      have HF4 := Lib.hid (And.intro own4 (And.intro cls4 (bb HBB.out (bb hb6 hbW4))))
                      have HBq := Lib.hid (bb HBB.out hb6)
                      obtain ⟨_, hx4, _, _, _⟩ := HSB.out W2 (bb hb6 hbW2)
                      have k0 := hx4.cell 0
                      have k1 := hx4.cell 1
                      have k2 := hx4.cell 2
                      have k3 := hx4.cell 3
                      have k4 := hx4.cell 4
                      simp at k0 k1 k2 k3 k4
                      clear HINS hr2 hbW2 hr3 hr4 own4 cls4 hbW4 hx4
                      go_wp2_with (at_builtin; go_must (first | (refine wpList_append_run rfl _ _ _ _ rfl _ _ _ rfl rfl HR2.out ?_; clear HR2) | (refine wpList_append_run rfl _ _ _ _ rfl _ _ _ rfl rfl HR3.out ?_; clear HR3) | (refine wpList_append_run rfl _ _ _ _ rfl _ _ _ rfl rfl HR4.out ?_; clear HR4)))
                      go_roundg (f.len - (j + 1))
                      case measure => omega
                      case rel =>
                        refine ⟨j + 1, by omega, Nat.le_refl _, by go_num, ?_⟩
                        have e9 : (done ++ [(⟨t, y, n, s, i⟩ : Fl)]).length = a + 1 := by rw [List.length_append, ← HLd.out]; rfl
                        show RMAt _ _ _ _
                        rw [HD1.out]
                        unfold RMAt
                        rw [e9, HPUTa.out.1]
                        have hq := HBq.out.size
                        exact ⟨A4, c4, xs4, rfl, own_base HF4.out.1 (Nat.le_trans HB.out.size hq), HF4.out.2.1, HPUTa.out.2, bb HB.out HF4.out.2.2⟩
                    · have hac2 : (a : Int) < (c1 : Int) := by omega
                      go_wp2_with fail
                      go_quiet (fail)
                      have hb5 : ∀ m, Below wb.heap.size wb (wr.drewN (nq + m)) := fun m => bn hb3 _
                      go_wp2_with fail
                      go_quiet (fail)
                      have hb6 := hb5 nq
                      have HINS : Hid (∀ W1 : World, Below wb.heap.size wb W1 → InsAt W1 S a a 0 c1 (c1 - a) t n y s i (some ⟨g, o, none⟩) (some ⟨g, o + a * 5, none⟩) Ai ci) := fun W1 hW => by
                        obtain ⟨hs9, _, hi9, _, _⟩ := HSB.out W1 hW
                        have hs8 : SlV W1 (fun _ => True) (.slice (some ⟨g, o, none⟩) (ofL S).len c1) (ofL S) := by rw [heL]; exact hs9
                        have ht8 := hs8.take a (by rw [heL]; exact (Nat.le_refl _))
                        rw [Fs.take_len _ _ (by rw [heL]; exact (Nat.le_refl _))] at ht8
                        exact ins_at hSl (by omega) ht8 (by have h7 : ((ofL S).drop a) = .nil := Fs.len_zero (by rw [Fs.drop_len, heL]; omega); rw [h7]; exact SlV.nil _ _ _ _) hi9 (Nat.le_refl _) (by omega)
                      have HPUTa := Lib.hid (HPUT.out a (Nat.le_refl _) HLE.out HGT2.out)
                      obtain ⟨A2, c2, W2, hr2, hbW2, A3, c3, W3, hr3, A4, c4, W4, xs4, hr4, own4, cls4, hbW4⟩ := HINS.out _ hb6
                      have HR2 := Lib.hid hr2
                      have HR3 := Lib.hid hr3
                      have HR4 := Lib.hid hr4
                      have HF4 := Lib.hid (And.intro own4 (And.intro cls4 (bb HBB.out (bb hb6 hbW4))))
                      have HBq := Lib.hid (bb HBB.out hb6)
                      obtain ⟨_, hx4, _, _, _⟩ := HSB.out W2 (bb hb6 hbW2)
                      have k0 := hx4.cell 0
                      have k1 := hx4.cell 1
                      have k2 := hx4.cell 2
                      have k3 := hx4.cell 3
                      have k4 := hx4.cell 4
                      simp at k0 k1 k2 k3 k4
                      clear HINS hr2 hbW2 hr3 hr4 own4 cls4 hbW4 hx4
                      go_wp2_with (at_builtin; go_must (first | (refine wpList_append_run rfl _ _ _ _ rfl _ _ _ rfl rfl HR2.out ?_; clear HR2) | (refine wpList_append_run rfl _ _ _ _ rfl _ _ _ rfl rfl HR3.out ?_; clear HR3) | (refine wpList_append_run rfl _ _ _ _ rfl _ _ _ rfl rfl HR4.out ?_; clear HR4)))
                      go_roundg (f.len - (j + 1))
                      case measure => omega
                      case rel =>
                        refine ⟨j + 1, by omega, Nat.le_refl _, by go_num, ?_⟩
                        have e9 : (done ++ [(⟨t, y, n, s, i⟩ : Fl)]).length = a + 1 := by rw [List.length_append, ← HLd.out]; rfl
                        show RMAt _ _ _ _
                        rw [HD1.out]
                        unfold RMAt
                        rw [e9, HPUTa.out.1]
                        have hq := HBq.out.size
                        exact ⟨A4, c4, xs4, rfl, own_base HF4.out.1 (Nat.le_trans HB.out.size hq), HF4.out.2.1, HPUTa.out.2, bb HB.out HF4.out.2.2⟩
            · obtain rfl : j = f.len := by omega
              have HM2 : Hid (RMAt w (fcat (fs.take (k + 1))).toL u7 wr) := by
                have := HM.out
                rw [List.take_of_length_le (by rw [toL_len]; exact Nat.le_refl _)] at this
                rw [HN1.out.1]
                exact this
              clear HM HN1
              go_wp2_with fail
              go_roundg (fs.length - (k + 1))
              case measure => omega
              case rel => exact ⟨k + 1, by omega, Nat.le_refl _, by go_num, HM2⟩
        · obtain rfl : k = fs.length := by omega
          obtain ⟨A1, c1, xs, rfl, hown, hcls, hnd, hb⟩ := HM.out
          rw [List.take_of_length_le (Nat.le_refl _)] at hown hcls hnd ⊢
          have hl1 : (ofL (ksort Fl.tag (fcat fs).toL)).len = (fcat fs).toL.length := by rw [ofL_len, ksort_len]
          have hf : fmerge fs = (ofL (ksort Fl.tag (fcat fs).toL), 0) := by
            rw [HFM.out]
            unfold fmrg
            rw [if_pos hnd]
          rw [← hl1] at hown hcls ⊢
          obtain ⟨A9, c9, hv9, hs9⟩ := own_slv2 hown hcls
          injection hv9 with h1 h2 h3
          subst h1 h3
          have HE : Hid (RMergeEnd w (fmerge fs) (.returned (.tuple #[.slice A1 (ofL (ksort Fl.tag (fcat fs).toL)).len c1, .int .i64 0])) wr) := by
            rw [hf]
            exact ⟨A1, c1, rfl, hs9, hb⟩
          generalize (ofL (ksort Fl.tag (fcat fs).toL)).len = LL at *
          clear hown hcls hnd hb hs9 hl1 hf HM HFM
          go_wp2_with fail
          go_ret2
          exact HE.out
end Go.Proofs.YtigbifiicbghpaaDoor
end

section
/-
  Layer 10: a list without some tags; the document's Has and Split. Conditions: at most a million fields, at most a million tags.
-/
namespace Go.Proofs.YtigbifiicbghpaaDoor
open Go.RowKit Go.PM
set_option maxRecDepth 100000
set_option maxHeartbeats 2000000
attribute [local go_sem ↓] Go.wp_at_zero Go.wp_at_succ

theorem without_any (A : Option Addr) (c : Nat) (f : Fs) (B : Option Addr) (d : Nat) (tags : List Nat) (I : Nat → Prop) (w : World) (hr : SlV w I (.slice A f.len c) f) (ht : Rd w B (u64s tags)) (hl : f.count ≤ 1000000) (htl : tags.length ≤ 1000000)
    (h64 : ∀ t ∈ tags, t < 18446744073709551616) (hf : f.All FKd) :
    Calls Tryd.prog 18 #[.slice A f.len c, .slice B tags.length d] w fun e w' => ∃ (A' : Option Addr) (c' : Nat), e = .returned (.slice A' (fpick tags false f).len c') ∧ SlV w' (w.heap.size ≤ ·) (.slice A' (fpick tags false f).len c') (fpick tags false f) ∧
      Below w.heap.size w w' := by
  have HS := Lib.hid (split_any A c f B d tags I w hr ht hl htl h64 hf)
  clear hr ht h64 hf
  go_enter Tryd.func18, Tryd.ntmps18
  go_wp2_with fail
  refine HS.out.mono ?_
  rintro e w1 ⟨A1, B1, c1, d1, rfl, hs1, hs2, hb⟩
  have HE := Lib.hid (And.intro hs2 hb)
  clear hs1 hs2 hb HS
  go_wp2_with fail
  go_ret
  exact ⟨B1, d1, rfl, HE.out.1, HE.out.2⟩

theorem has_any (B : Option Addr) (d : Nat) (tags : List Nat) (t : Nat) (w : World) (ht : Rd w B (u64s tags)) (htl : tags.length ≤ 1000000) :
    Calls Tryd.prog 38 #[.slice B tags.length d, .int .u64 (t : Int)] w fun e w' => e = .returned (.bool (decide (t ∈ tags))) ∧ Below w.heap.size w w' := by
  have HT := Lib.hid ht
  clear ht
  go_enter Tryd.func38, Tryd.ntmps38
  go_wp2_with fail
  go_loopg [9] tags.length (fun gk ki wr => ∃ k : Nat, k ≤ tags.length ∧ tags.length - k ≤ gk ∧ ki = .int .i64 (k : Int) ∧ Hid (decide (t ∈ tags) = decide (t ∈ tags.drop k)) ∧ wr = w)
  case atStart => exact ⟨0, Nat.zero_le _, by omega, rfl, rfl, rfl⟩
  case round =>
    obtain ⟨k, hkl, hgk, rfl, HM, rfl⟩ := hrel
    by_cases hlt : k < tags.length
    · obtain ⟨b, off, rfl, hbl, hcell⟩ := HT.out.at_ (k := k) (by rw [u64s, List.length_map]; exact hlt)
      simp only [u64s, List.getElem_map] at hcell
      have HM2 := HM.out
      rw [List.drop_eq_getElem_cons hlt] at HM2
      have HMH := Lib.hid HM2
      clear HM2 HM
      generalize tags[k] = x at *
      by_cases hx : x = t
      · have hxt : ((x : Int) == (t : Int)) = true := by rw [beq_iff_eq]; omega
        have HE : Hid (Ending.returned (Value.bool true) = .returned (.bool (decide (t ∈ tags)))) := by
          show _ = _
          rw [HMH.out, hx]
          simp
        clear hx HMH
        go_wp2_with fail
        go_ret
        exact ⟨HE.out, b0⟩
      · have hxt : ((x : Int) == (t : Int)) = false := by rw [beq_eq_false_iff_ne]; omega
        have HN : Hid (decide (t ∈ tags) = decide (t ∈ tags.drop (k + 1))) := by
          show _ = _
          rw [HMH.out]
          simp [Ne.symm hx]
        clear hx HMH
        go_wp2_with fail
        go_roundg (tags.length - (k + 1))
        case measure => omega
        case rel => exact ⟨k + 1, by omega, Nat.le_refl _, by go_num, HN, rfl⟩
    · obtain rfl : k = tags.length := by omega
      have HE : Hid (Ending.returned (Value.bool false) = .returned (.bool (decide (t ∈ tags)))) := by
        show _ = _
        rw [HM.out, List.drop_of_length_le (Nat.le_refl _)]
        simp
      clear HM
      go_wp2_with fail
      go_ret
      exact ⟨HE.out, b0⟩
/-- One field more on one of two rows. -/
theorem rp_step {w wr W w' : World} {T : TypeId} {A A' : Option Addr} {c c' : Nat} {f1 f1' f2 : Fs} {v2 : Value} {xs ys : List Value} (hb : Below w.heap.size w wr) (hW : Below wr.heap.size wr W)
    (hown1 : wr.ownsRow w.heap.size T 5 (.slice A f1.len c) f1.len xs) (hown2 : wr.ownsRow w.heap.size T 5 v2 f2.len ys) (hcl2 : Cls wr (fun q => q < w.heap.size) ys f2) (hne : ∀ g, (Value.slice A f1.len c).ownBlock = some g → v2.ownBlock ≠ some g)
    (hg : W.grownBy w' (Value.slice A f1.len c).ownBlock) (hat : (Value.slice A' f1'.len c').ownBlock = (Value.slice A f1.len c).ownBlock ∨ (Value.slice A' f1'.len c').ownBlock = some W.heap.size) :
    w'.ownsRow w.heap.size T 5 v2 f2.len ys ∧ Cls w' (fun q => q < w.heap.size) ys f2 ∧ (∀ g, (Value.slice A' f1'.len c').ownBlock = some g → v2.ownBlock ≠ some g) ∧ Below w.heap.size w w' := by
  have hwz := hW.size
  have hbW : Below w.heap.size w W := hb.trans (hW.mono hb.size)
  have hge : ∀ g, (Value.slice A f1.len c).ownBlock = some g → w.heap.size ≤ g := fun g h => (hown1.lt g h).1
  refine ⟨?_, ?_, ?_, ?_⟩
  · refine World.ownsRow.kept (own_below hown2 hW) hg ?_
    cases h : v2.ownBlock with
    | none => exact .inl rfl
    | some g => exact .inr fun e => hne g e.symm h
  · exact (hcl2.below hW).tch (Tch.grown (S := fun k => (Value.slice A f1.len c).ownBlock = some k) hg fun k hk _ => hk) fun k hk h => by have := hge k h; omega
  · intro g h1 h2
    rcases hat with h | h
    · exact hne g (h ▸ h1) h2
    · have := (hown2.lt g h2).2
      rw [h] at h1
      injection h1 with h1
      omega
  · exact hbW.trans (Tch.grown (S := fun k => (Value.slice A f1.len c).ownBlock = some k) hg (fun k hk _ => hk) |>.toBelowB hbW.size fun k hk h => by have := hge k h; omega)
/-- Where the loop of the document's Split stands. -/
def RpAt (w : World) (tags : List Nat) (F : Fs) (v1 v2 : Value) (wr : World) : Prop :=
  ∃ (A B : Option Addr) (c d : Nat) (xs ys : List Value), v1 = .slice A (fpick tags true F).len c ∧ v2 = .slice B (fpick tags false F).len d ∧
    wr.ownsRow w.heap.size 51 5 v1 (fpick tags true F).len xs ∧ wr.ownsRow w.heap.size 51 5 v2 (fpick tags false F).len ys ∧
    Cls wr (fun q => q < w.heap.size) xs (fpick tags true F) ∧ Cls wr (fun q => q < w.heap.size) ys (fpick tags false F) ∧ (∀ g, v1.ownBlock = some g → v2.ownBlock ≠ some g) ∧ Below w.heap.size w wr
/-- The end of the document's Split. -/
def RSplitEnd (w : World) (tags : List Nat) (f : Fs) (e : Ending) (w' : World) : Prop :=
  ∃ (A B : Option Addr) (c d : Nat), e = .returned (.tuple #[.slice A (fpick tags true f).len c, .slice B (fpick tags false f).len d]) ∧ SlV w' (fun _ => True) (.slice A (fpick tags true f).len c) (fpick tags true f) ∧
    SlV w' (fun _ => True) (.slice B (fpick tags false f).len d) (fpick tags false f) ∧ Below w.heap.size w w'
theorem rsplit_any (A : Option Addr) (c : Nat) (f : Fs) (B : Option Addr) (d : Nat) (tags : List Nat) (I : Nat → Prop) (w : World) (hr : SlV w I (.slice A f.len c) f) (ht : Rd w B (u64s tags)) (hl : f.count ≤ 1000000) (htl : tags.length ≤ 1000000) :
    Calls Tryd.prog 16 #[.slice A f.len c, .slice B tags.length d] w (RSplitEnd w tags f) := by
  have HR := Lib.hid hr.lt
  have HT := Lib.hid ht
  have hfl := Nat.le_trans f.len_count hl
  have hcc : f.len ≤ c := by obtain ⟨A', c', hv, hc, _⟩ := hr; injection hv with e1 e2 e3; omega
  obtain ⟨i0, hi0, hz0, hz1, hz2⟩ := info_parts info_rfield
  have H0 : Hid (RpAt w tags (f.take 0) (.slice none 0 0) (.slice none 0 0) w) := by
    have e : f.take 0 = .nil := by cases f <;> rfl
    rw [e]
    exact ⟨none, none, 0, 0, [], [], rfl, rfl, World.ownsRow_nil _ _ _ _, World.ownsRow_nil _ _ _ _, trivial, trivial, (fun g h => by cases h), b0⟩
  clear hr ht
  go_enter Tryd.func16, Tryd.ntmps16
  go_wp2_with fail
  go_loopg [6, 7, 12] f.len (fun gk v1 v2 ki wr => ∃ k : Nat, k ≤ f.len ∧ f.len - k ≤ gk ∧ ki = .int .i64 (k : Int) ∧ Hid (RpAt w tags (f.take k) v1 v2 wr))
  case atStart => exact ⟨0, Nat.zero_le _, by omega, rfl, H0⟩
  case round =>
    obtain ⟨k, hkl, hgk, rfl, HS⟩ := hrel
    obtain ⟨A1, B1, c1, d1, xs, ys, rfl, rfl, hown1, hown2, hcl1, hcl2, hne, hb⟩ := HS.out
    by_cases hlt : k < f.len
    · obtain ⟨t, y, n, s, i, hdc, htk⟩ := f.drop_cons k hlt
      obtain ⟨A0, c0, hv, hc0, hor⟩ := HR.out.below hb
      injection hv with hv1 hv2 hv3
      subst hv1 hv3
      rcases hor with h0 | ⟨b, o, rfl, hIb, hbl, hat⟩
      · omega
      have hak := hat.drop k
      rw [hdc] at hak
      obtain ⟨d0, d1', d2, d3, ⟨Ai, ci, d4, hci, hin⟩, _⟩ := hak
      have HSI : Hid (SlV wr (fun q => q < w.heap.size) (.slice Ai i.len ci) i) := SlV.imp (I := fun k => I k ∧ k < w.heap.size) ⟨Ai, ci, rfl, hci, hin⟩ fun q hq => hq.2
      have hpk : ∀ yes, fpick tags yes (f.take (k + 1)) = (fpick tags yes (f.take k)).app (if decide (t ∈ tags) = yes then .cons t y n s i .nil else .nil) := fun yes => by
        rw [htk, fpick_app, fpick, fpick]
      have hl1 := Nat.le_trans (fpick_len tags true (f.take k)) (Nat.le_trans (show (f.take k).len ≤ f.len by rw [f.take_len k hkl]; exact hkl) hfl)
      have hl2 := Nat.le_trans (fpick_len tags false (f.take k)) (Nat.le_trans (show (f.take k).len ≤ f.len by rw [f.take_len k hkl]; exact hkl) hfl)
      generalize hF1 : fpick tags true (f.take k) = F1 at *
      generalize hF2 : fpick tags false (f.take k) = F2 at *
      have hT := hpk true
      have hFa := hpk false
      rw [hF1] at hT
      rw [hF2] at hFa
      have HST := Lib.hid (And.intro hown1 (And.intro hown2 (And.intro hcl1 (And.intro hcl2 (And.intro hne hb)))))
      have HTF := Lib.hid (And.intro hT hFa)
      have hsw := hb.size
      clear hown1 hown2 hcl1 hcl2 hne hb hT hFa hpk hat hin HS htk hdc hv2
      go_wp2_with fail
      have hm5 := BlkAt.made wr 51 #[.int .u64 (t : Int), .int .i64 y, .int .u64 (n : Int), .string s, .slice Ai i.len ci]
      have hbo := ba (a := wr) b0 (.cells #[.int .u64 (t : Int), .int .i64 y, .int .u64 (n : Int), .string s, .slice Ai i.len ci] 51)
      generalize wr.alloc (.cells #[.int .u64 (t : Int), .int .i64 y, .int .u64 (n : Int), .string s, .slice Ai i.len ci] 51) = W at hm5 hbo ⊢
      have HH := Lib.hid (has_any B d tags t W ((HT.out.below HST.out.2.2.2.2.2).below hbo) htl)
      have e0 := hm5.cell 0
      simp at e0
      have HM5 := Lib.hid hm5
      have HBO := Lib.hid hbo
      clear d0 d1' d2 d3 d4 hm5 hbo
      refine HH.out.mono ?_
      rintro e w5 ⟨rfl, hb5⟩
      have hbW5 : Below wr.heap.size wr w5 := bb HBO.out hb5
      have hm51 := HM5.out.below hb5 HM5.out.lt
      have e0' := hm51.cell 0
      have e1' := hm51.cell 1
      have e2' := hm51.cell 2
      have e3' := hm51.cell 3
      have e4' := hm51.cell 4
      simp at e0' e1' e2' e3' e4'
      have hlt5 := hm51.lt
      have hbo := ba hbW5 (.cells #[.int .u64 (t : Int), .int .i64 y, .int .u64 (n : Int), .string s, .slice Ai i.len ci] 51)
      have hy2 := World.news_of_block (cs := #[.int .u64 (t : Int), .int .i64 y, .int .u64 (n : Int), .string s, .slice Ai i.len ci]) (t := 51) (fr := (0, 0)) (heap_alloc_new w5 (.cells #[.int .u64 (t : Int), .int .i64 y, .int .u64 (n : Int), .string s, .slice Ai i.len ci] 51))
      have hy : Cls (w5.alloc (.cells #[.int .u64 (t : Int), .int .i64 y, .int .u64 (n : Int), .string s, .slice Ai i.len ci] 51)) (fun q => q < w.heap.size) [.int .u64 (t : Int), .int .i64 y, .int .u64 (n : Int), .string s, .slice Ai i.len ci] (.cons t y n s i .nil) :=
        ⟨rfl, rfl, rfl, rfl, SlV.below (f := i) HSI.out hbo, trivial⟩
      have hlen1 : (Fs.cons t y n s i .nil).len = 1 := rfl
      obtain ⟨hown1, hown2, hcl1, hcl2, hne, hb⟩ := HST.out
      obtain ⟨hT, hFa⟩ := HTF.out
      by_cases hin : t ∈ tags
      · simp only [hin, decide_true, reduceIte, Bool.true_eq_false, Fs.app_nil] at hT hFa ⊢
        obtain ⟨A2, c2, w3, xs2, hrun, hown3, hcls3, hgr, hat3⟩ := fapp_cls 30 30 51 i0 Tryd.underlying30 hi0 hz0 hz1 hz2 (d := 1) (own_below hown1 hbo) (hcl1.below hbo) (fun q hq h => by have := (hown1.lt q h).1; omega) hy hy2 (by simp [Fs.len]) (by simp only [Fs.len]; omega) (Nat.le_trans hsw hbo.size)
        obtain ⟨k2, kc2, kne, kb⟩ := rp_step hb hbo hown1 hown2 hcl2 hne hgr hat3
        have HN : Hid (RpAt w tags (f.take (k + 1)) (.slice A2 (F1.app (.cons t y n s i .nil)).len c2) (.slice B1 F2.len d1) w3) := by
          unfold RpAt
          rw [hT, hFa]
          exact ⟨A2, B1, c2, d1, xs2, ys, rfl, rfl, hown3, k2, hcls3, kc2, kne, kb⟩
        have HRUN := Lib.hid hrun
        rw [hlen1] at HRUN
        clear hown1 hown2 hcl1 hcl2 hne hb hrun hown3 hcls3 hgr hat3 k2 kc2 kne kb hy hy2 hbo hT hFa hin hm51 hb5 hbW5 HST HTF
        go_wp2_with (at_builtin; (refine wpList_append_run rfl _ _ _ _ rfl _ _ _ rfl rfl HRUN.out ?_))
        go_roundg (f.len - (k + 1))
        case measure => omega
        case rel => exact ⟨k + 1, by omega, Nat.le_refl _, by go_num, HN⟩
      · simp only [hin, decide_false, reduceIte, Bool.false_eq_true, Fs.app_nil] at hT hFa ⊢
        obtain ⟨A2, c2, w3, xs2, hrun, hown3, hcls3, hgr, hat3⟩ := fapp_cls 30 30 51 i0 Tryd.underlying30 hi0 hz0 hz1 hz2 (d := 1) (own_below hown2 hbo) (hcl2.below hbo) (fun q hq h => by have := (hown2.lt q h).1; omega) hy hy2 (by simp [Fs.len]) (by simp only [Fs.len]; omega) (Nat.le_trans hsw hbo.size)
        obtain ⟨k2, kc2, kne, kb⟩ := rp_step hb hbo hown2 hown1 hcl1 (fun g h1 h2 => hne g h2 h1) hgr hat3
        have HN : Hid (RpAt w tags (f.take (k + 1)) (.slice A1 F1.len c1) (.slice A2 (F2.app (.cons t y n s i .nil)).len c2) w3) := by
          unfold RpAt
          rw [hT, hFa]
          exact ⟨A1, A2, c1, c2, xs, xs2, rfl, rfl, k2, hown3, kc2, hcls3, fun g h1 h2 => kne g h2 h1, kb⟩
        have HRUN := Lib.hid hrun
        rw [hlen1] at HRUN
        clear hown1 hown2 hcl1 hcl2 hne hb hrun hown3 hcls3 hgr hat3 k2 kc2 kne kb hy hy2 hbo hT hFa hin hm51 hb5 hbW5 HST HTF
        go_wp2_with (at_builtin; (refine wpList_append_run rfl _ _ _ _ rfl _ _ _ rfl rfl HRUN.out ?_))
        go_roundg (f.len - (k + 1))
        case measure => omega
        case rel => exact ⟨k + 1, by omega, Nat.le_refl _, by go_num, HN⟩
    · obtain rfl : k = f.len := by omega
      rw [Fs.take_all f _ (Nat.le_refl _)] at hown1 hown2 hcl1 hcl2 ⊢
      have HE : Hid (RSplitEnd w tags f (.returned (.tuple #[.slice A1 (fpick tags true f).len c1, .slice B1 (fpick tags false f).len d1])) wr) := ⟨A1, B1, c1, d1, rfl, own_slT hown1 hcl1, own_slT hown2 hcl2, hb⟩
      clear hown1 hown2 hcl1 hcl2 hne hb HS
      generalize fpick tags true f = F1 at *
      generalize fpick tags false f = F2 at *
      go_wp2_with fail
      go_ret2
      exact HE.out
end Go.Proofs.YtigbifiicbghpaaDoor
end

section
/-
  Layer 10: the field of a tag (pick.Find). Conditions: at most a million fields, numbers within their kinds.
-/
namespace Go.Proofs.YtigbifiicbghpaaDoor
open Go.RowKit Go.PM
set_option maxRecDepth 100000
set_option maxHeartbeats 2000000
attribute [local go_sem ↓] Go.wp_at_zero Go.wp_at_succ

theorem tch5 (w4 : World) (b : Nat) (v0 v1 v2 v3 v4 : Value) : Tch (fun j => j = b) w4 (((((w4.setCell ⟨b, 0, none⟩ v0).setCell ⟨b, 1, none⟩ v1).setCell ⟨b, 2, none⟩ v2).setCell ⟨b, 3, none⟩ v3).setCell ⟨b, 4, none⟩ v4) :=
  (((((Tch.refl (fun j => j = b) w4).put (p := ⟨b, 0, none⟩) (fun _ => rfl) v0).put (p := ⟨b, 1, none⟩) (fun _ => rfl) v1).put (p := ⟨b, 2, none⟩) (fun _ => rfl) v2).put (p := ⟨b, 3, none⟩) (fun _ => rfl) v3).put (p := ⟨b, 4, none⟩) (fun _ => rfl) v4
def FindEnd (w : World) (f : Fs) (t : Nat) (e : Ending) (w' : World) : Prop :=
  Below w.heap.size w w' ∧ (((∀ x ∈ f.toL, x.tag ≠ t) ∧ e = .returned (.tuple #[.agg #[.int .u64 0, .int .i64 0, .int .u64 0, .string ByteArray.empty, .slice none 0 0], .bool false])) ∨
    ∃ (k n : Nat) (y : Int) (s : ByteArray) (i : Fs) (A : Option Addr) (c : Nat), f.drop k = .cons t y n s i (f.drop (k + 1)) ∧ e = .returned (.tuple #[.agg #[.int .u64 (t : Int), .int .i64 y, .int .u64 (n : Int), .string s, .slice A i.len c], .bool true]) ∧
      SlV w' (w.heap.size ≤ ·) (.slice A i.len c) i)
theorem find_any (A : Option Addr) (c : Nat) (f : Fs) (tg : Nat) (I : Nat → Prop) (w : World) (hr : SlV w I (.slice A f.len c) f) (hl : f.count ≤ 1000000) :
    Calls Tryd.prog 17 #[.slice A f.len c, .int .u64 (tg : Int)] w (FindEnd w f tg) := by
  have hb0 : Below w.heap.size w (w.alloc (.cells #[.int .u64 0, .int .i64 0, .int .u64 0, .string ByteArray.empty, .slice none 0 0] 47)) := ba b0 _
  have HR := Lib.hid (hr.below hb0)
  have hcc : f.len ≤ c := by obtain ⟨A', c', hv, hc, _⟩ := hr; injection hv with e1 e2 e3; omega
  have hfl := Nat.le_trans f.len_count hl
  have HL := Lib.hid hl
  have HB0 := Lib.hid hb0
  have hx0 := BlkAt.made w 47 #[.int .u64 0, .int .i64 0, .int .u64 0, .string ByteArray.empty, .slice none 0 0]
  have HX0 := Lib.hid hx0
  clear hr hb0 hx0
  go_enter Tryd.func17, Tryd.ntmps17
  go_wp2_with fail
  go_loopg [9] f.len (fun gk ki wr => ∃ k : Nat, k ≤ f.len ∧ f.len - k ≤ gk ∧ ki = .int .i64 (k : Int) ∧ Hid (∀ x ∈ (f.take k).toL, x.tag ≠ tg) ∧ wr = (w.alloc (.cells #[.int .u64 0, .int .i64 0, .int .u64 0, .string ByteArray.empty, .slice none 0 0] 47)))
  case atStart => exact ⟨0, Nat.zero_le _, by omega, rfl, (fun x hx => by cases f <;> cases hx), rfl⟩
  case round =>
    obtain ⟨k, hkl, hgk, rfl, HN, rfl⟩ := hrel
    by_cases hlt : k < f.len
    · obtain ⟨t, y, n, s, i, hdc, htk⟩ := f.drop_cons k hlt
      obtain ⟨A0, c0, hv, hc0, hor⟩ := id HR.out
      injection hv with hv1 hv2 hv3
      subst hv1 hv3
      rcases hor with h0 | ⟨b, o, rfl, hIb, hbl, hat⟩
      · omega
      have hak := hat.drop k
      rw [hdc] at hak
      obtain ⟨d0, _, _, _, _, _⟩ := hak
      have e1 : (f.drop k).take 1 = .cons t y n s i .nil := by
        rw [hdc]
        show Fs.cons t y n s i (Fs.take _ 0) = _
        cases f.drop (k + 1) <;> rfl
      have hsub := (SlV.drop HR.out k hkl (c - k) (by omega)).take 1 (by rw [Fs.drop_len]; omega)
      rw [e1] at hsub
      have HSUB : Hid (SlV (w.alloc (.cells #[.int .u64 0, .int .i64 0, .int .u64 0, .string ByteArray.empty, .slice none 0 0] 47)) I (.slice (some ⟨b, o + k * 5, none⟩) 1 (c - k)) (.cons t y n s i .nil)) := hsub
      have HCN : Hid ((Fs.cons t y n s i .nil).count ≤ 1000000) := by
        have h1 := f.take_count (k + 1)
        rw [htk, Fs.app_count] at h1
        have := HL.out
        show _ ≤ _
        omega
      have HNX : Hid (t ≠ tg → ∀ x ∈ (f.take (k + 1)).toL, x.tag ≠ tg) := fun h x hx => by
        rw [htk, toL_app, List.mem_append] at hx
        rcases hx with hx | hx
        · exact HN.out x hx
        · simp [Fs.toL] at hx
          subst hx
          exact h
      have HDC := Lib.hid hdc
      have hk1 : (k : Int) + 1 ≤ (c : Int) := by omega
      clear e1 hsub hat hdc htk hv2
      by_cases htt : t = tg
      · subst htt
        have HCL := Lib.hid (clone_of _ _ _ _ HSUB.out HCN.out)
        clear HNX HCN HSUB HN
        go_wp2_with fail
        refine HCL.out.mono ?_
        intro e w4 h4
        obtain ⟨A1, c1', rfl, hs4, hb4⟩ := clone_new h4
        have hW1 : w.heap.size < (w.alloc (.cells #[.int .u64 0, .int .i64 0, .int .u64 0, .string ByteArray.empty, .slice none 0 0] 47)).heap.size := HX0.out.lt
        obtain ⟨A9, c9, hv9, hc9, hor9⟩ := hs4
        injection hv9 with g1 g2 g3
        subst g1 g3
        rcases hor9 with h0 | ⟨b1, o1, rfl, hI1, hb1, hat1⟩
        · simp [Fs.len] at h0
        obtain ⟨x0, x1, x2, x3, ⟨Ai, ci, x4, hci, hin⟩, _⟩ := hat1
        have HSI : Hid (SlV w4 ((w.alloc (.cells #[.int .u64 0, .int .i64 0, .int .u64 0, .string ByteArray.empty, .slice none 0 0] 47)).heap.size ≤ ·) (.slice Ai i.len ci) i) := ⟨Ai, ci, rfl, hci, hin⟩
        have hx := HX0.out.below hb4 hW1
        have hb5 := bb HB0.out hb4
        have HE : Hid (∀ w', Tch (fun j => j = w.heap.size) w4 w' → FindEnd w f t (.returned (.tuple #[.agg #[.int .u64 (t : Int), .int .i64 y, .int .u64 (n : Int), .string s, .slice Ai i.len ci], .bool true])) w') :=
          fun w' ht => ⟨hb5.trans (ht.toBelowB hb5.size fun g hg e => by omega), .inr ⟨k, n, y, s, i, Ai, ci, HDC.out, rfl, (HSI.out.tch ht fun q hq e => by subst e; exact absurd hW1 (Nat.not_lt.2 hq)).imp fun q hq => Nat.le_trans (Nat.le_of_lt hW1) hq⟩⟩
        have hne : b1 ≠ w.heap.size := fun e => by subst e; exact absurd hW1 (Nat.not_lt.2 hI1)
        have hlw := hx.lt
        have c0 := hx.cell 0
        have c1 := hx.cell 1
        have c2 := hx.cell 2
        have c3 := hx.cell 3
        have c4 := hx.cell 4
        have f0 := hx.free 0
        have f1 := hx.free 1
        have f2 := hx.free 2
        have f3 := hx.free 3
        have f4 := hx.free 4
        simp at c0 c1 c2 c3 c4
        clear hx hb5 h4 hb4 hin HCL hI1
        have hl1 : (Fs.cons t y n s i .nil).len = 1 := rfl
        rw [hl1]
        go_wp2_with fail
        refine bodyPost_ret (v := .tuple #[.agg #[.int .u64 (t : Int), .int .i64 y, .int .u64 (n : Int), .string s, .slice Ai i.len ci], .bool true]) (by simp [results, Tryd.results17, go_sem, c0, c1, c2, c3, c4]; try rfl) rfl (HE.out _ (tch5 _ _ _ _ _ _ _))
      · have hti : ((t : Int) == (tg : Int)) = false := by rw [beq_eq_false_iff_ne]; omega
        have HN2 := Lib.hid (HNX.out htt)
        clear htt HNX HN HSUB HCN
        go_wp2_with fail
        go_roundg (f.len - (k + 1))
        case measure => omega
        case rel => exact ⟨k + 1, by omega, Nat.le_refl _, by go_num, HN2, rfl⟩
    · obtain rfl : k = f.len := by omega
      rw [Fs.take_all f _ (Nat.le_refl _)] at HN
      have HE : Hid (∀ w', Tch (fun j => j = w.heap.size) (w.alloc (.cells #[.int .u64 0, .int .i64 0, .int .u64 0, .string ByteArray.empty, .slice none 0 0] 47)) w' → FindEnd w f tg (.returned (.tuple #[.agg #[.int .u64 0, .int .i64 0, .int .u64 0, .string ByteArray.empty, .slice none 0 0], .bool false])) w') :=
        fun w' ht => ⟨HB0.out.trans (ht.toBelowB HB0.out.size fun g hg e => by omega), .inl ⟨HN.out, rfl⟩⟩
      have hx := HX0.out
      clear HN
      generalize w.alloc (.cells #[.int .u64 0, .int .i64 0, .int .u64 0, .string ByteArray.empty, .slice none 0 0] 47) = W at *
      have hlw := hx.lt
      have c0 := hx.cell 0
      have c1 := hx.cell 1
      have c2 := hx.cell 2
      have c3 := hx.cell 3
      have c4 := hx.cell 4
      have f0 := hx.free 0
      have f1 := hx.free 1
      have f2 := hx.free 2
      have f3 := hx.free 3
      have f4 := hx.free 4
      simp at c0 c1 c2 c3 c4
      clear hx
      go_wp2_with fail
      refine bodyPost_ret (v := .tuple #[.agg #[.int .u64 0, .int .i64 0, .int .u64 0, .string ByteArray.empty, .slice none 0 0], .bool false]) (by simp [results, Tryd.results17, go_sem, c0, c1, c2, c3, c4]; try rfl) rfl (HE.out _ (tch5 _ _ _ _ _ _ _))
end Go.Proofs.YtigbifiicbghpaaDoor
end
