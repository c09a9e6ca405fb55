/-
  Contracts of layer 6: a deframer that is fed, and its clone. Conditions: at most a million bytes.
-/
import Derived.Test.YtmlijflappjfoaaDoorDeframe2
import Derived.Test.YtmlijflappjfoaaDoorPlainFeed
import Derived.Laws.AppendOwnNone
namespace Go.Proofs.YtmlijflappjfoaaDoor
open Go.RowKit Go.PM
set_option maxRecDepth 100000
set_option maxHeartbeats 1000000

theorem own_cases {w : World} {base : Nat} {e : TypeId} {n : Nat} {v : Value} {xs : List Value} (h : w.ownsRow base e 1 v n xs) : (v = .slice none 0 0 ∧ n = 0 ∧ xs = []) ∨
    ∃ g cap, v = .slice (some ⟨g, 0, none⟩) n cap ∧ base ≤ g ∧ ∀ j u, xs[j]? = some u → w.cell? ((⟨g, 0, none⟩ : Addr).add j) = some u := by
  rcases h.2 with ⟨rfl, rfl⟩ | ⟨g, cap, cur, rfl, hb, hg, hn, _⟩
  · refine .inl ⟨rfl, rfl, ?_⟩
    have := h.1
    simpa using this
  · exact .inr ⟨g, cap, rfl, hb, h.cells (g := g) rfl⟩

theorem strs_one (l : List ByteArray) : ∀ u ∈ strs l, u.oneCell' = true := by
  intro u hu
  obtain ⟨x, _, rfl⟩ := List.mem_map.1 hu
  rfl
/-- The end of Feed. -/
def FedEnd (w : World) (d : Nat) (v : Value) (count : Nat) (x : List (List UInt8) × Nat × List UInt8) (en : Ending) (w' : World) : Prop :=
  ∃ r v' need', en = .returned r ∧ w'.ownsRow w.heap.size 9 1 r x.1.length (strs (x.1.map txt)) ∧ Tch (fun k => k = d ∨ foot v = some k) w w' ∧ Dfr w' d v' x.2.2 need' x.2.1 (count + x.1.length) ∧ St x.2.2 need' x.2.1 ∧
    (foot v' = foot v ∨ ∀ g, foot v' = some g → w.heap.size ≤ g)
/-- Where Feed stands. -/
def FedAt (w : World) (d : Nat) (v : Value) (count : Nat) (x : List (List UInt8) × Nat × List UInt8) (r : Value) (w' : World) : Prop :=
  ∃ v' need', w'.ownsRow w.heap.size 9 1 r x.1.length (strs (x.1.map txt)) ∧ Tch (fun k => k = d ∨ foot v = some k) w w' ∧ Dfr w' d v' x.2.2 need' x.2.1 (count + x.1.length) ∧ St x.2.2 need' x.2.1 ∧
    (foot v' = foot v ∨ ∀ g, foot v' = some g → w.heap.size ≤ g)
theorem FedAt.end_ {w : World} {d : Nat} {v : Value} {count : Nat} {x : List (List UInt8) × Nat × List UInt8} {r : Value} {w' : World} (h : FedAt w d v count x r w') : FedEnd w d v count x (.returned r) w' := by
  obtain ⟨v', need', h1, h2, h3, h4, h5⟩ := h
  exact ⟨r, v', need', rfl, h1, h2, h3, h4, h5⟩
theorem feedOf_len {e : Nat} {R t : List UInt8} : (feedOf e R t).1.length + (feedOf e R t).2.2.length ≤ R.length + t.length := by
  unfold feedOf
  split
  · have := fof_len (R ++ t)
    rw [List.length_append] at this
    exact this
  · simp
theorem feed_any (d : Nat) (v : Value) (R : List UInt8) (need e count : Nat) (A : Option Addr) (cap : Nat) (l : List ByteArray) (w : World) (h : Dfr w d v R need e count) (hst : St R need e) (hr : Rd w A (strs l))
    (hA : ∀ b off, A = some ⟨b, off, none⟩ → b ≠ d ∧ foot v ≠ some b) (hn : R.length + (flat l).length ≤ 1000000) (hl : l.length ≤ 9223372036854775807) (hcn : count ≤ 3000000000000000000) :
    Calls Tryd.prog 81 #[.pointer (some ⟨d, 0, none⟩), .slice A l.length cap] w (FedEnd w d v count (feedOf e R (flat l))) := by
  have HN : ∀ k, (feedOf e R (flat (l.take k))).1.length + (feedOf e R (flat (l.take k))).2.2.length ≤ R.length + (flat (l.take k)).length := fun k => feedOf_len
  have HN2 : ∀ k, (flat (l.take k)).length ≤ (flat l).length := flat_le l
  have HR := Lib.hid hr
  have H0 : Hid (FedAt w d v count (feedOf e R []) (.slice none 0 0) w) := by
    show FedAt _ _ _ _ _ _ _
    rw [feedOf_nil hst]
    exact ⟨v, need, World.ownsRow_nil _ _ _ _, Tch.refl _ _, h, hst, .inl rfl⟩
  have HA := Lib.hid hA
  have HF := Lib.hid (fun g (hg : foot v = some g) => h.2.1.foot_lt hg)
  have hdw := h.1.lt
  have HNN := Lib.hid (And.intro HN HN2)
  obtain ⟨i0, hi0, hz0, hz1, hz2⟩ := info_parts info_str
  obtain ⟨i1, hi1, hy0, hy1, hy2⟩ := info_parts (show (Tryd.prog.info? 5).map (fun i => (i.zero, i.size, i.bytes)) = some (some (.int .u8 0), 1, 1) by kernel_rfl)
  clear h hst hr hA HN HN2
  go_enter Tryd.func81, Tryd.ntmps81
  go_wp2
  go_loopw [5, 12] (fun sl kk wr => ∃ k : Nat, k ≤ l.length ∧ kk = .int .i64 (k : Int) ∧ FedAt w d v count (feedOf e R (flat (l.take k))) sl wr) (fun _ kk _ => l.length - (intOf kk).toNat)
  case atStart => exact ⟨0, by omega, rfl, H0.out⟩
  case round =>
    obtain ⟨k, hk, rfl, hat⟩ := hrel
    by_cases hlt : k < l.length
    · have hmo := feedOf_more e R (flat (l.take k)) l[k].data.toList
      rw [← flat_take hlt] at hmo
      have HLT := Lib.hid hlt
      have hl1 := HNN.out.1 (k + 1)
      have hl2 := HNN.out.2 (k + 1)
      have hl3 := HNN.out.1 k
      have hl4 := HNN.out.2 k
      have hl5 : (flat (l.take k)).length + l[k].size ≤ (flat l).length := by rw [flat_take hlt, List.length_append, len_list] at hl2; exact hl2
      have HEND : Hid ((feedOf e R (flat (l.take k))).2.1 ≠ 0 → feedOf e R (flat l) = feedOf e R (flat (l.take k))) := fun hne => by
        have := feedOf_more e R (flat (l.take k)) (flat (l.drop k))
        rw [if_neg hne] at this
        rw [← this]
        unfold flat
        rw [← List.flatMap_append, List.take_append_drop]
      have HNX : Hid (∀ x, feedOf e R (flat (l.take (k + 1))) = x → ∀ sl wr, FedAt w d v count x sl wr → ∃ k' : Nat, k' ≤ l.length ∧ Value.int .i64 ((k : Int) + 1) = .int .i64 (k' : Int) ∧ FedAt w d v count (feedOf e R (flat (l.take k'))) sl wr) :=
        fun x hx sl wr hf => ⟨k + 1, by have := HLT.out; omega, by go_num, hx ▸ hf⟩
      have hcel : ∃ b off, A = some ⟨b, off, none⟩ ∧ wr.cell? ⟨b, off + k, none⟩ = some (.string l[k]) := by
        obtain ⟨v1, need1, _, ht, _⟩ := hat
        obtain ⟨b, off, hAe, hb, hc⟩ := (HR.out.tch ht (fun b off e => by have := HA.out b off e; rintro (h | h); exact this.1 h; exact this.2 h)).at_ (k := k) (by rw [strs_length]; exact hlt)
        rw [strs_at l k hlt] at hc
        exact ⟨b, off, hAe, hc⟩
      obtain ⟨b, off, rfl, hc⟩ := hcel
      generalize l[k] = p at *
      generalize feedOf e R (flat (l.take (k + 1))) = X1 at *
      generalize feedOf e R (flat (l.take k)) = X0 at *
      obtain ⟨v1, need1, hown, htch, hdf, hst, hfo⟩ := hat
      obtain ⟨done, e1, R1⟩ := X0
      simp only at hown hdf hst hl3 hmo HEND
      clear hl1 hl2 HNN
      have hd := hdf.1
      have hdl := hd.lt
      have e2 := hd.cell 2
      have e0 := hd.cell 0
      simp at e2 e0
      have HD := Lib.hid hdf
      have HOWN := Lib.hid hown
      have HT := Lib.hid htch
      have HST := Lib.hid hst
      have HFO := Lib.hid hfo
      have HMO := Lib.hid hmo
      clear hdf hown htch hst hfo hd hmo
      by_cases he : e1 = 0
      · subst he
        obtain ⟨v2, w2, hrun, hb2, ht2, hf2⟩ := buf_append (P := Tryd.prog) HD.out.2.1 p 79 9 79 i1 Tryd.underlying79 Tryd.underlying9 hi1 hy0 hy1 hy2 (by omega)
        have hd2 := HD.out.1.tch ht2 HD.out.2.2
        have hd2l := hd2.lt
        have f0 := hd2.free 0
        have g0 := hd2.cell 0
        simp at g0
        have HD2 := Lib.hid hd2
        have hw2 := ht2.size
        have hNN : (R1 ++ p.data.toList).length = R1.length + p.size := by rw [List.length_append, len_list]
        obtain ⟨A2, c2, hv2⟩ := hb2.len
        rw [hNN] at hv2
        subst hv2
        have hfd : foot (.slice A2 (R1.length + p.size) c2) ≠ some d := hb2.ne_blk hd2 (by decide)
        have hTs : Tch (fun k => k = d ∨ foot v1 = some k) wr (w2.setCell ⟨d, 0, none⟩ (.slice A2 (R1.length + p.size) c2)) := (ht2.imp (S' := fun k => k = d ∨ foot v1 = some k) (fun _ _ h => .inr h)).put (p := ⟨d, 0, none⟩) (fun _ => .inl rfl) _
        have hdW : Dfr (w2.setCell ⟨d, 0, none⟩ (.slice A2 (R1.length + p.size) c2)) d (.slice A2 (R1.length + p.size) c2) (R1 ++ p.data.toList) need1 0 (count + done.length) :=
          ⟨hd2.put 0 _, hb2.tch ((Tch.refl (fun k => k = d) w2).put (p := ⟨d, 0, none⟩) (fun _ => rfl) _) (fun g hg e => hfd (e ▸ hg)), hfd⟩
        have hfo2 : foot (.slice A2 (R1.length + p.size) c2) = foot v ∨ ∀ g, foot (.slice A2 (R1.length + p.size) c2) = some g → w.heap.size ≤ g := by
          rcases hf2 with h | h
          · rw [h]; exact HFO.out
          · exact .inr fun g hg => Nat.le_trans HT.out.size (h g hg)
        have hoW := own_tch HOWN.out hTs fun g hg e => by
          rcases e with e | e
          · have := (HOWN.out.lt g hg).1; omega
          · exact HD.out.2.1.ne_own HOWN.out (by decide) g hg e
        have hTW := HT.out.trans hTs (S := fun k => k = d ∨ foot v = some k) fun g hg e => by
          rcases e with e | e
          · exact .inl e
          · rcases HFO.out with h | h
            · exact .inr (h ▸ e)
            · have := h g e; omega
        have HRUN := Lib.hid hrun
        have HNN := Lib.hid hNN
        clear hrun hb2 hf2 ht2 hd2 hfd hTs hNN
        have HDW := Lib.hid hdW
        have HFO2 := Lib.hid hfo2
        have HOW := Lib.hid hoW
        have HTW := Lib.hid hTW
        clear hdW hfo2 hoW hTW
        go_wp2_with (at_builtin; go_must (refine wpList_append_run rfl _ _ 79 9 rfl _ _ _ rfl rfl HRUN.out ?_))
        generalize w2.setCell ⟨d, 0, none⟩ (.slice A2 (R1.length + p.size) c2) = W at *
        have hd := HDW.out.1
        have c0 := hd.cell 0
        have c1 := hd.cell 1
        simp at c0 c1
        clear hd e0 e2 f0 g0
        by_cases hlen : R1.length + p.size < need1
        · have hk := (HST.out.keep (p := p.data.toList) (by rw [HNN.out]; exact hlen))
          have hm := HMO.out
          rw [if_pos trivial, hk.2, List.append_nil] at hm
          have HM := Lib.hid hm
          have HK := Lib.hid hk.1
          clear hk hm
          go_quiet (fail)
          go_wp2
          go_roundw
          case rel => exact HNX.out _ HM.out _ _ ⟨_, need1, HOW.out, HTW.out.drn _, HDW.out, HK.out, HFO2.out⟩
          case measure => simp [intOf]; omega
        · have hm := HMO.out
          rw [if_pos trivial] at hm
          have HM := Lib.hid hm
          clear hm
          have HLE : Hid ((R1 ++ p.data.toList).length ≤ 1000000) := by show _ ≤ _; rw [HNN.out]; omega
          have hws := HTW.out.size
          go_quiet (fail)
          go_wp2_with fail
          refine (deliver_any d _ (R1 ++ p.data.toList) need1 (count + done.length) _ (show Dfr (W.drewN nq) _ _ _ _ _ _ from HDW.out) HLE.out (by omega)).mono ?_
          rintro e' w3 ⟨r, v3, rfl, hor, ht3, hdf3, hfr⟩
          have hsl := fof_len (R1 ++ p.data.toList)
          rw [HNN.out] at hsl
          have hfin : ∀ r' w4, w4.ownsRow w.heap.size 9 1 r' (done.length + (fof (R1 ++ p.data.toList)).1.length) (strs (done.map txt) ++ strs ((fof (R1 ++ p.data.toList)).1.map txt)) → w3.grownBy w4 u5.ownBlock → FedAt w d v count X1 r' w4 := fun r' w4 ho4 hg4 => by
            have hou := own_tch (w := W.drewN nq) (S := fun k => k = d) HOW.out ht3 fun g hg e => by have := (HOW.out.lt g hg).1; omega
            rw [HM.out]
            refine ⟨v3, _, ?_, ((HTW.out.drn nq).trans ht3 fun g _ h => .inl h).trans (Tch.grown (S := fun g => u5.ownBlock = some g) hg4 fun g hg _ => hg) fun g hlt hg => ?_, ?_, St.fof (R1 ++ p.data.toList), .inr fun g hg => Nat.le_trans hws (hfr g hg)⟩
            · simp only [List.length_append, List.map_append]
              rw [show strs (done.map txt ++ (fof (R1 ++ p.data.toList)).1.map txt) = strs (done.map txt) ++ strs ((fof (R1 ++ p.data.toList)).1.map txt) by simp [strs]]
              exact ho4
            · have := (HOW.out.lt g hg).1; omega
            · have hc : count + done.length + ((fof (R1 ++ p.data.toList)).1.map txt).length = count + (done ++ (fof (R1 ++ p.data.toList)).1).length := by simp [Nat.add_assoc]
              rw [hc] at hdf3
              exact hdf3.tch (Tch.grown (S := fun g => u5.ownBlock = some g) hg4 fun g hg _ => hg) (fun hg => by have := (HOW.out.lt d hg).1; omega) fun g hg e => hdf3.2.1.ne_own hou (by decide) g e hg
          have hou := own_tch (w := W.drewN nq) (S := fun k => k = d) HOW.out ht3 fun g hg e => by have := (HOW.out.lt g hg).1; omega
          have hw3 := ht3.size
          have hsl2 : ((fof (R1 ++ p.data.toList)).1.map txt).length = (fof (R1 ++ p.data.toList)).1.length := List.length_map _
          rw [hsl2] at hor
          have HFIN := Lib.hid hfin
          have HOU := Lib.hid hou
          clear hfin hou ht3 hdf3 hfr hsl2
          generalize (fof (R1 ++ p.data.toList)).1 = L at *
          rcases own_cases hor with ⟨rfl, hn0, hxs⟩ | ⟨g, cp, rfl, hgb, hsrc⟩
          · have HXS := Lib.hid (And.intro hn0 hxs)
            clear hn0 hxs hor
            go_wp2_with (at_builtin; go_must (refine wpList_append_own_none rfl _ _ 118 rfl w.heap.size 9 i0 1 Tryd.underlying118 hi0 _ _ _ rfl HOU.out rfl ?_))
            go_roundw
            case rel => exact HNX.out _ rfl _ _ (HFIN.out _ _ (by rw [HXS.out.1, HXS.out.2, List.append_nil]; exact HOU.out) (grown_refl _ _))
            case measure => simp [intOf]; omega
          · have HOR := Lib.hid hor
            have HSRC := Lib.hid hsrc
            clear hor hsrc
            have hws3 : w.heap.size ≤ w3.heap.size := Nat.le_trans hws hw3
            go_wp2_with (at_builtin; go_must (refine wpList_append_own _ rfl _ _ 118 rfl w.heap.size 9 i0 (.string ByteArray.empty) 1 16 Tryd.underlying118 hi0 hz0 hz1 hz2 rfl (by decide) _ _ _ rfl HOU.out ⟨g, 0, none⟩ L.length cp (strs (L.map txt)) rfl HOR.out.1 HSRC.out (strs_one _) (by unfold maxLen; omega) (by omega) hws3 ?_); intro v4 w4 hown4 hg4 _; have HO4 := Lib.hid hown4; have HG4 := Lib.hid hg4; clear hown4 hg4)
            go_roundw
            case rel => exact HNX.out _ rfl _ _ (HFIN.out _ _ HO4.out HG4.out)
            case measure => simp [intOf]; omega
      · have n0 : ((e1 : Int) != 0) = true := by rw [bne_iff_ne]; omega
        have HE := HEND.out he
        have HE2 := Lib.hid HE
        clear HE
        go_wp2
        go_ret
        rw [HE2.out]
        exact FedAt.end_ ⟨v1, need1, HOWN.out, HT.out, HD.out, HST.out, HFO.out⟩
    · obtain rfl : k = l.length := by omega
      rw [List.take_length] at hat
      have HAT := Lib.hid hat
      clear hat HNN
      go_wp2
      go_ret
      exact HAT.out.end_
end Go.Proofs.YtmlijflappjfoaaDoor
