/-
  The walk of DeframeFeeds. Conditions: the pieces' bytes within 2^47.
-/
import Derived.Test.YtlkdoahdcepncaaRef06
import Derived.Test.YtlkdoahdcepncaaJoin
namespace Go.Proofs.Ytlkdoahdcepncaa
open Go.RowKit Go.PM
set_option maxRecDepth 100000
set_option maxHeartbeats 1000000

theorem fof_feed (T p : List UInt8) : fof (T ++ p) = ((fof T).1 ++ (feedOf (fof T).2.1 (fof T).2.2 p).1, (feedOf (fof T).2.1 (fof T).2.2 p).2) := by
  rw [fof_append]
  unfold feedOf
  by_cases h : (fof T).2.1 = 0
  · rw [if_pos h, if_pos h]
  · rw [if_neg h, if_neg h]
    simp only [List.append_nil]

/-- Where the loop of DeframeFeeds stands, behind the text T. -/
def FeedsAt (w : World) (d : Nat) (T : List UInt8) (got al : Value) (wr : World) : Prop :=
  ∃ vd need, al = .string (txt T) ∧ Fd w.heap.size wr d vd (fof T).2.2 need (fof T).2.1 (fof T).1.length ∧ wr.ownsRow w.heap.size 9 1 got (fof T).1.length (strs ((fof T).1.map txt)) ∧ Below w.heap.size w wr
theorem feeds_walk (A : Option Addr) (cap : Nat) (l : List ByteArray) (w : World) (hr : Rd w A (strs l)) (hc : l.length ≤ cap) (hl : l.length ≤ 9223372036854775807) (hn : (flat l).length ≤ 140737488355328) :
    Calls Try.prog 15 #[.slice A l.length cap] w fun e w' => e = .returned (.bool true) ∧ Below w.heap.size w w' := by
  by_cases hlen : 60 < l.length
  · go_enter Try.func15, Try.ntmps15
    go_wp2_with (go_at_call 64; refine (awake06 _).mono ?_; rintro e w1 ⟨rfl, hb1⟩)
    go_ret
    exact ⟨rfl, hb1⟩
  have HJ : Hid (∀ x : World, Below w.heap.size w x → Calls Try.prog 52 #[.slice A l.length cap, .string ⟨#[]⟩] x fun e w' => e = .returned (.string (txt (flat l))) ∧ Below x.heap.size x w') :=
    fun x hx => join_any A cap l x (hr.below hx) hc (by omega) hn
  have HS : Hid ((txt (flat l)).size = (flat l).length) := rfl
  generalize hF : txt (flat l) = F at HJ HS
  clear hF
  have HR := Lib.hid hr
  clear hr
  go_enter Try.func15, Try.ntmps15
  go_wp2_with (go_at_call 64; refine (awake06 _).mono ?_; rintro e w1 ⟨rfl, hb1⟩)
  refine (HJ.out _ hb1).mono ?_
  rintro e w2 ⟨rfl, hb2⟩
  have HB2 := Lib.hid (bb hb1 hb2)
  clear hb1 hb2
  by_cases hbig : 4000 < F.size
  · have hF : F.size ≤ 140737488355328 := by rw [HS.out]; exact hn
    go_wp2
    go_ret
    exact ⟨rfl, HB2.out⟩
  have hT : (flat l).length ≤ 4000 := by have := HS.out; omega
  have HN2 : ∀ k, (flat (l.take k)).length ≤ (flat l).length := flat_le l
  have HNN := Lib.hid HN2
  clear HJ HS hn HN2
  obtain ⟨i0, hi0, hz0, hz1, hz2⟩ := info_parts info_str
  go_wp2_with fail
  refine (new_B w2).mono ?_
  rintro e w3 ⟨d, rfl, hd, hD, hb3⟩
  clear hbig
  have hws := HB2.out.size
  have H0 : Hid (FeedsAt w d (flat (l.take 0)) (.slice none 0 0) (.string ⟨#[]⟩) w3) := by
    show FeedsAt _ _ _ _ _ _
    have e0 : fof (flat (l.take 0)) = ([], 0, []) := by rw [List.take_zero]; exact fof_short (by decide)
    unfold FeedsAt
    rw [e0]
    exact ⟨_, 0, rfl, ⟨hD.1, hD.2.1, Nat.le_trans hws hd, fun g hg => by simp [foot] at hg⟩, World.ownsRow_nil _ _ _ _, bb HB2.out hb3⟩
  clear hD hb3
  go_wp2
  go_loopw [4, 5, 26] (fun got al kk wr => ∃ k : Nat, k ≤ l.length ∧ kk = .int .i64 (k : Int) ∧ FeedsAt w d (flat (l.take k)) got al wr) (fun _ _ kk _ => l.length - (intOf kk).toNat)
  case atStart => exact ⟨0, by omega, rfl, H0.out⟩
  case round =>
    obtain ⟨k, hk, rfl, hat⟩ := hrel
    clear H0
    by_cases hlt : k < l.length
    · have hl2 := HNN.out (k + 1)
      have hl5 : (flat (l.take k)).length + l[k].size ≤ (flat l).length := by rw [flat_take hlt, List.length_append, len_list] at hl2; exact hl2
      have hfl := fof_len (flat (l.take k))
      have hff := fof_feed (flat (l.take k)) l[k].data.toList
      rw [← flat_take hlt] at hff
      have hTk : (flat (l.take (k + 1))) = flat (l.take k) ++ l[k].data.toList := flat_take hlt
      obtain ⟨vd, need, rfl, hfd, hown, hbel⟩ := hat
      obtain ⟨b, off, rfl, hb, hcl⟩ := (HR.out.below hbel).at_ (k := k) (by rw [strs_length]; exact hlt)
      rw [strs_at l k hlt] at hcl
      have HX : Hid (∀ got al wr, FeedsAt w d (flat (l.take (k + 1))) got al wr → ∃ k' : Nat, k' ≤ l.length ∧ Value.int .i64 ((k : Int) + 1) = .int .i64 (k' : Int) ∧ FeedsAt w d (flat (l.take k')) got al wr) :=
        fun got al wr hf => ⟨k + 1, by omega, by go_num, hf⟩
      generalize l[k] = p at *
      generalize flat (l.take (k + 1)) = T1 at *
      generalize flat (l.take k) = T0 at *
      subst hTk
      have HFF := Lib.hid hff
      have HOWN := Lib.hid hown
      have HBEL := Lib.hid hbel
      clear hff hown hbel hl2 HNN
      generalize hX0 : fof T0 = X0 at *
      obtain ⟨done, e1, R1⟩ := X0
      simp only at hfl
      have HFD := Lib.hid hfd
      clear hfd
      have hRl : R1.length ≤ 1000000 := by omega
      -- the clone
      go_wp2_with fail
      refine (clone_any d vd R1 need e1 done.length _ HFD.out.1 hRl).mono ?_
      rintro e w4 ⟨c, vc, rfl, hcd, hC, hb4, hfc⟩
      have hws4 := hb4.size
      have hfc4 : Fd wr.heap.size w4 c vc R1 need e1 done.length := ⟨hC, HFD.out.2.1, hcd, hfc⟩
      have HC := Lib.hid hfc4
      clear hfc4
      have HB4 := Lib.hid hb4
      clear hC hb4 hfc hcd
      go_wp2_with fail
      have hm := BlkAt.made w4 9 #[.string ⟨#[122, 122, 122]⟩]
      have hbo := ba (a := w4) b0 (.cells #[.string ⟨#[122, 122, 122]⟩] 9)
      generalize w4.alloc (.cells #[.string ⟨#[122, 122, 122]⟩] 9) = W at hm hbo ⊢
      have hs4 := Nat.le_trans hws4 hbo.size
      refine (feed_one wr.heap.size c vc R1 need e1 done.length _ _ W (HC.out.below hbo) hs4 hm (by show R1.length + 3 ≤ _; omega) (by omega)).mono ?_
      rintro e w5 ⟨r5, v5, need5, rfl, _, _, hb5, _, _⟩
      have hb45 : Below wr.heap.size wr w5 := (HB4.out.trans (hbo.mono hws4)).trans hb5
      have HFD5 := Lib.hid (HFD.out.below hb45)
      have HOWN5 := Lib.hid (own_below HOWN.out hb45)
      have HBEL5 := Lib.hid (bb HBEL.out hb45)
      have HCL5 := hb45.cell (p := ⟨b, off + k, none⟩) hb
      clear hb5 hbo hm HC HB4 hs4 hws4 hb45
      -- the deframer is fed
      go_wp2_with fail
      have hm := BlkAt.made w5 9 #[.string p]
      have hbo := ba (a := w5) b0 (.cells #[.string p] 9)
      generalize w5.alloc (.cells #[.string p] 9) = W at hm hbo ⊢
      have hs5 := Nat.le_trans HBEL5.out.size hbo.size
      refine (feed_one w.heap.size d vd R1 need e1 done.length _ _ W (HFD5.out.below hbo) hs5 hm (by omega) (by omega)).mono ?_
      rintro e w6 ⟨r, v6, need6, rfl, hor, ht6, hb6, hd6, _⟩
      have hlx := feedOf_len (e := e1) (R := R1) (t := p.data.toList)
      rw [len_list] at hlx
      have hou := own_tch (own_below HOWN5.out hbo) ht6 fun g hg e => by
        rcases e with e | e
        · have h1 := (HFD5.out.below hbo).1.1.hasT
          subst e
          rcases (own_below HOWN5.out hbo).2 with ⟨rfl, _⟩ | ⟨g', cap', cur, rfl, _, hgg, _⟩
          · cases hg
          · have e1 : g' = g := by simpa [Value.ownBlock] using hg
            subst e1
            have := HasT.one ⟨cur, (0, 0), hgg⟩ h1
            revert this
            decide
        · exact (HFD5.out.below hbo).1.2.1.ne_own (own_below HOWN5.out hbo) (by decide) g hg e
      have hbw6 : Below w.heap.size w w6 := (bb HBEL5.out hbo).trans hb6
      have hws6 : w.heap.size ≤ w6.heap.size := hbw6.size
      have HD6 := Lib.hid hd6
      have HOU := Lib.hid hou
      have HBW := Lib.hid hbw6
      clear hd6 hou hbw6 ht6 hb6 hbo hm hs5
      generalize feedOf e1 R1 p.data.toList = X at *
      obtain ⟨L, e2, R2⟩ := X
      simp only at hor hlx HFF HD6
      have hL2 : (L.map txt).length = L.length := List.length_map _
      -- what the document says
      have hsz : (txt T0 ++ p).size ≤ 1000000 := by rw [ByteArray.size_append, txt_size]; omega
      have hdl : (txt T0 ++ p).data.toList = T0 ++ p.data.toList := by rw [ByteArray.data_append, Array.toList_append]; rfl
      have HTX : Hid (txt (T0 ++ p.data.toList) = txt T0 ++ p) := by
        show _ = _
        rw [← hdl]
        rfl
      obtain ⟨D, hD⟩ : ∃ D, D = (done ++ L).map txt := ⟨_, rfl⟩
      have hDl : D.length = (done ++ L).length := by rw [hD, List.length_map]
      have HOF : Hid (∀ x : World, Calls Try.prog 71 #[.string (txt T0 ++ p)] x (OfEnd x D e2 R2.length)) := fun x => by
        rw [hD]
        have := rof_any (txt T0 ++ p) x hsz
        rw [hdl, HFF.out] at this
        exact this
      clear hdl hsz
      have hts : (txt T0).size + p.size ≤ 1000000 := by rw [txt_size]; omega
      have happ : ∀ v4 w7, w7.ownsRow w.heap.size 9 1 v4 (done.length + L.length) (strs (done.map txt) ++ strs (L.map txt)) → w6.grownBy w7 u4.ownBlock →
          Below w.heap.size w w7 ∧ Fd w.heap.size w7 d v6 R2 need6 e2 D.length ∧ w7.ownsRow w.heap.size 9 1 v4 D.length (strs D) := fun v4 w7 ho hg => by
        have hT : Tch (fun g => u4.ownBlock = some g) w6 w7 := Tch.grown hg fun g hg _ => hg
        have hd6 := HD6.out
        refine ⟨HBW.out.trans (hT.toBelowB hws6 fun g hg e => by have := (HOU.out.lt g e).1; omega), ⟨?_, hd6.2⟩, ?_⟩
        · rw [hDl, List.length_append]
          refine hd6.1.tch hT (fun hg => ?_) fun g hg e => hd6.1.2.1.ne_own HOU.out (by decide) g e hg
          rcases HOU.out.2 with ⟨rfl, _⟩ | ⟨g', cap', cur, rfl, _, hgg, _⟩
          · cases hg
          · have e1 : g' = d := by simpa [Value.ownBlock] using hg
            subst e1
            have := HasT.one ⟨cur, (0, 0), hgg⟩ hd6.1.1.hasT
            revert this
            decide
        · rw [hD, List.length_map, List.length_append, show strs ((done ++ L).map txt) = strs (done.map txt) ++ strs (L.map txt) by simp [strs]]
          exact ho
      have HAPP := Lib.hid happ
      clear happ
      have HFF2 : Hid (fof (T0 ++ p.data.toList) = (done ++ L, e2, R2)) := HFF.out
      have hDL : D.length ≤ 1000000 := by rw [hDl, List.length_append]; omega
      have HDE := Lib.hid (And.intro hD hDl)
      clear hD hDl
      rcases own_cases hor with ⟨rfl, hn0, hxs⟩ | ⟨g, cp, rfl, hgb, hsrc⟩
      · have hap := HAPP.out u4 w6 (by rw [hn0, hxs, List.append_nil]; exact HOU.out) (grown_refl _ _)
        clear hn0 hxs hor HAPP
        have HAP := Lib.hid hap
        clear hap
        go_wp2_with (at_builtin; go_must (refine wpList_append_own_none rfl _ _ 82 rfl w.heap.size 9 i0 1 Try.underlying82 hi0 _ _ _ rfl HOU.out rfl ?_))
        refine (HOF.out w6).mono ?_
        rintro e w8 ⟨v8, rfl, ho8, hb8⟩
        have hb7 := HAP.out.1
        obtain ⟨A1, c1, rfl, hr1, _, _⟩ := Rd.own (own_below HAP.out.2.2 hb8)
        obtain ⟨A2, c2, rfl, hr2, _, _⟩ := Rd.own ho8
        have HR1 := Lib.hid hr1
        have HR2 := Lib.hid hr2
        have HD8 := Lib.hid (HAP.out.2.1.below hb8)
        have HB8 := Lib.hid (bb hb7 hb8)
        have HO8 := Lib.hid (own_below HAP.out.2.2 hb8)
        clear hr1 hr2 ho8 hb7 hb8 HAP
        go_wp2_with fail
        refine (equstr A1 A2 c1 c2 _ _ HR1.out HR2.out hDL).mono ?_
        rintro e w9 ⟨rfl, hb9⟩
        have HD9 := Lib.hid (HD8.out.below hb9)
        have HB9 := Lib.hid (bb HB8.out hb9)
        have HO9 := Lib.hid (own_below HO8.out hb9)
        clear hb9 HD8 HB8 HO8 HR1 HR2
        go_wp2_with fail
        refine (err_any _ _ _ _ _ _ _ HD9.out.1).mono ?_
        rintro e w10 ⟨rfl, hb9⟩
        have HD10 := Lib.hid (HD9.out.below hb9)
        have HB10 := Lib.hid (bb HB9.out hb9)
        have HO10 := Lib.hid (own_below HO9.out hb9)
        clear hb9 HD9 HB9 HO9
        go_wp2_with fail
        refine (waits_any _ _ _ _ _ _ _ HD10.out.1).mono ?_
        rintro e w11 ⟨rfl, hb9⟩
        have HD11 := Lib.hid (HD10.out.below hb9)
        have HB11 := Lib.hid (bb HB10.out hb9)
        have HO11 := Lib.hid (own_below HO10.out hb9)
        clear hb9 HD10 HB10 HO10
        go_wp2_with fail
        refine (count_any _ _ _ _ _ _ _ HD11.out.1).mono ?_
        rintro e w12 ⟨rfl, hb9⟩
        have HD12 := Lib.hid (HD11.out.below hb9)
        have HB12 := Lib.hid (bb HB11.out hb9)
        have HO12 := Lib.hid (own_below HO11.out hb9)
        clear hb9 HD11 HB11 HO11
        go_wp2
        go_roundw
        case rel =>
          have ho := HO12.out
          have hd := HD12.out
          have hde := HDE.out
          refine HX.out _ _ _ ⟨v6, need6, by rw [HTX.out], ?_, ?_, HB12.out⟩
          · rw [HFF2.out]
            show Fd _ _ _ _ R2 need6 e2 (done ++ L).length
            rw [← hde.2]
            exact hd
          · rw [HFF2.out]
            show World.ownsRow _ _ _ _ _ (done ++ L).length (strs ((done ++ L).map txt))
            rw [← hde.2, ← hde.1]
            exact ho
        case measure => simp [intOf]; omega
      · have HOR := Lib.hid hor
        have HSRC := Lib.hid hsrc
        clear hor hsrc
        go_wp2_with (at_builtin; go_must (refine wpList_append_own _ rfl _ _ 82 rfl w.heap.size 9 i0 (.string ByteArray.empty) 1 16 Try.underlying82 hi0 hz0 hz1 hz2 rfl (by decide) _ _ _ rfl HOU.out ⟨g, 0, none⟩ L.length cp (strs (L.map txt)) rfl HOR.out.1 HSRC.out (strs_one _) (by unfold maxLen; omega) (by omega) hws6 ?_); intro v4 w7 hown4 hg4 _; have hap := HAPP.out v4 w7 hown4 hg4; have HAP := Lib.hid hap; clear hown4 hg4 HAPP hap)
        refine (HOF.out w7).mono ?_
        rintro e w8 ⟨v8, rfl, ho8, hb8⟩
        have hb7 := HAP.out.1
        obtain ⟨A1, c1, rfl, hr1, _, _⟩ := Rd.own (own_below HAP.out.2.2 hb8)
        obtain ⟨A2, c2, rfl, hr2, _, _⟩ := Rd.own ho8
        have HR1 := Lib.hid hr1
        have HR2 := Lib.hid hr2
        have HD8 := Lib.hid (HAP.out.2.1.below hb8)
        have HB8 := Lib.hid (bb hb7 hb8)
        have HO8 := Lib.hid (own_below HAP.out.2.2 hb8)
        clear hr1 hr2 ho8 hb7 hb8 HAP
        go_wp2_with fail
        refine (equstr A1 A2 c1 c2 _ _ HR1.out HR2.out hDL).mono ?_
        rintro e w9 ⟨rfl, hb9⟩
        have HD9 := Lib.hid (HD8.out.below hb9)
        have HB9 := Lib.hid (bb HB8.out hb9)
        have HO9 := Lib.hid (own_below HO8.out hb9)
        clear hb9 HD8 HB8 HO8 HR1 HR2
        go_wp2_with fail
        refine (err_any _ _ _ _ _ _ _ HD9.out.1).mono ?_
        rintro e w10 ⟨rfl, hb9⟩
        have HD10 := Lib.hid (HD9.out.below hb9)
        have HB10 := Lib.hid (bb HB9.out hb9)
        have HO10 := Lib.hid (own_below HO9.out hb9)
        clear hb9 HD9 HB9 HO9
        go_wp2_with fail
        refine (waits_any _ _ _ _ _ _ _ HD10.out.1).mono ?_
        rintro e w11 ⟨rfl, hb9⟩
        have HD11 := Lib.hid (HD10.out.below hb9)
        have HB11 := Lib.hid (bb HB10.out hb9)
        have HO11 := Lib.hid (own_below HO10.out hb9)
        clear hb9 HD10 HB10 HO10
        go_wp2_with fail
        refine (count_any _ _ _ _ _ _ _ HD11.out.1).mono ?_
        rintro e w12 ⟨rfl, hb9⟩
        have HD12 := Lib.hid (HD11.out.below hb9)
        have HB12 := Lib.hid (bb HB11.out hb9)
        have HO12 := Lib.hid (own_below HO11.out hb9)
        clear hb9 HD11 HB11 HO11
        go_wp2
        go_roundw
        case rel =>
          have ho := HO12.out
          have hd := HD12.out
          have hde := HDE.out
          refine HX.out _ _ _ ⟨v6, need6, by rw [HTX.out], ?_, ?_, HB12.out⟩
          · rw [HFF2.out]
            show Fd _ _ _ _ R2 need6 e2 (done ++ L).length
            rw [← hde.2]
            exact hd
          · rw [HFF2.out]
            show World.ownsRow _ _ _ _ _ (done ++ L).length (strs ((done ++ L).map txt))
            rw [← hde.2, ← hde.1]
            exact ho
        case measure => simp [intOf]; omega
    · obtain ⟨vd, need, _, _, _, hbel⟩ := hat
      go_wp2
      go_ret
      exact ⟨rfl, hbel⟩
end Go.Proofs.Ytlkdoahdcepncaa
