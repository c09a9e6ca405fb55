/-
  Contracts of layer 6: what is delivered. Conditions: at most a million bytes wait.
-/
import Derived.Test.YtmlijflappjfoaaDoorDeframe
namespace Go.Proofs.YtmlijflappjfoaaDoor
open Go.RowKit Go.PM
set_option maxRecDepth 100000
set_option maxHeartbeats 1000000

theorem err_any (d : Nat) (v : Value) (R : List UInt8) (need err count : Nat) (w : World) (h : Dfr w d v R need err count) :
    Calls Tryd.prog 82 #[.pointer (some ⟨d, 0, none⟩)] w fun e w' => e = .returned (.int .i64 (err : Int)) ∧ Below w.heap.size w w' := by
  obtain ⟨hd, _, _⟩ := h
  have c2 := hd.cell 2
  simp at c2
  clear hd
  go_enter Tryd.func82, Tryd.ntmps82
  go_wp2
  go_ret
  exact ⟨rfl, b0⟩
/-- A stream, on the way. -/
def FofOf (S done : List ByteArray) (E : Nat) (Rest : List UInt8) (t : List UInt8) : Prop := S = done ++ (fof t).1.map txt ∧ E = (fof t).2.1 ∧ Rest = (fof t).2.2
theorem FofOf.next {S done : List ByteArray} {E : Nat} {Rest t : List UInt8} (h : FofOf S done E Rest t) (h0 : (fparse t).2.2 = 0) : FofOf S (done ++ [txt (fparse t).1]) E Rest (t.drop (fparse t).2.1) := by
  obtain ⟨h1, h2, h3⟩ := h
  rw [fof_ok h0] at h1 h2 h3
  exact ⟨by rw [h1]; simp, h2, h3⟩
theorem FofOf.short {S done : List ByteArray} {E : Nat} {Rest t : List UInt8} (h : FofOf S done E Rest t) (h0 : (fparse t).2.2 = 1) : S = done ∧ E = 0 ∧ Rest = t := by
  obtain ⟨h1, h2, h3⟩ := h
  rw [fof_short h0] at h1 h2 h3
  exact ⟨by simpa using h1, h2, h3⟩
theorem FofOf.bad {S done : List ByteArray} {E : Nat} {Rest t : List UInt8} (h : FofOf S done E Rest t) (h0 : (fparse t).2.2 ≠ 0) (h1' : (fparse t).2.2 ≠ 1) : S = done ∧ E = (fparse t).2.2 ∧ Rest = [] := by
  obtain ⟨h1, h2, h3⟩ := h
  rw [fof_bad h0 h1'] at h1 h2 h3
  exact ⟨by simpa using h1, h2, h3⟩
/-- What is delivered. -/
def Deliv (w : World) (d : Nat) (S : List ByteArray) (Rest : List UInt8) (E count : Nat) (e : Ending) (w' : World) : Prop :=
  ∃ r v', e = .returned r ∧ w'.ownsRow w.heap.size 9 1 r S.length (strs S) ∧ Tch (· = d) w w' ∧ Dfr w' d v' Rest (if E = 0 then fneed Rest else 0) E (count + S.length) ∧ ∀ g, foot v' = some g → w.heap.size ≤ g
theorem deliver_any (d : Nat) (v : Value) (R : List UInt8) (need count : Nat) (w : World) (h : Dfr w d v R need 0 count) (hR : R.length ≤ 1000000) (hcn : count ≤ 4000000000000000000) :
    Calls Tryd.prog 88 #[.pointer (some ⟨d, 0, none⟩)] w (Deliv w d ((fof R).1.map txt) (fof R).2.2 (fof R).2.1 count) := by
  have hst : FofOf ((fof R).1.map txt) [] (fof R).2.1 (fof R).2.2 R := ⟨rfl, rfl, rfl⟩
  generalize (fof R).1.map txt = S at hst ⊢
  generalize (fof R).2.1 = E at hst ⊢
  generalize (fof R).2.2 = Rest at hst ⊢
  have HST := Lib.hid hst
  clear hst
  obtain ⟨hd, hb, hv⟩ := h
  have hcv := hb.back (P := Tryd.prog) 79 9 Tryd.underlying79 Tryd.underlying5 Tryd.underlying9
  obtain ⟨A, c, rfl⟩ := hb.len
  have c0 := hd.cell 0
  simp at c0
  have hdl := hd.lt
  have HD := Lib.hid hd
  obtain ⟨i0, hi0, hz0, hz1, hz2⟩ := info_parts info_str
  clear hd hb hv
  go_enter Tryd.func88, Tryd.ntmps88
  go_wp2
  go_loopw [3, 4] (fun v sl wr => ∃ (t : ByteArray) (done : List ByteArray), sl = .string t ∧ FofOf S done E Rest t.data.toList ∧ done.length + t.size ≤ R.length ∧ wr.ownsRow w.heap.size 9 1 v done.length (strs done) ∧
    BlkAt wr d 129 #[.slice A R.length c, .int .i64 (need : Int), .int .i64 ((0 : Nat) : Int), .int .i64 ((count + done.length : Nat) : Int)] ∧ Tch (· = d) w wr) (fun _ sl _ => strLen sl)
  case atStart => exact ⟨txt R, [], rfl, HST.out, by simp [txt_size], World.ownsRow_nil _ _ _ _, HD.out, Tch.refl _ _⟩
  case round =>
    obtain ⟨t, done, rfl, hfo, hlen, hown, hd, htch⟩ := hrel
    have HF := Lib.hid hfo
    have HO := Lib.hid hown
    have HD2 := Lib.hid hd
    have HW := Lib.hid htch
    clear hfo hown hd htch
    go_wp2_with fail
    refine (parse_any t _ (by omega)).mono ?_
    rintro e w1 ⟨rfl, hb1⟩
    have hnx := fun h => HF.out.next h
    have hsh := fun h => HF.out.short h
    have hbd := fun h h' => HF.out.bad h h'
    have hok := fun h => fparse_ok (s := t.data.toList) h
    generalize hV : fparse t.data.toList = V at hnx hsh hbd hok
    obtain ⟨q, k, g⟩ := V
    simp only at hnx hsh hbd hok
    have hd1 := HD2.out.below hb1 HD2.out.lt
    have hdl1 := hd1.lt
    have hs1 := Nat.le_trans HW.out.size hb1.size
    have e0 := hd1.cell 0
    have e1 := hd1.cell 1
    have e2 := hd1.cell 2
    have e3 := hd1.cell 3
    have f0 := hd1.free 0
    have f1 := hd1.free 1
    have f2 := hd1.free 2
    have f3 := hd1.free 3
    simp at e0 e1 e2 e3
    have HD3 := Lib.hid hd1
    have HO3 := Lib.hid (own_below HO.out hb1)
    have HW3 := Lib.hid (HW.out.bel hb1)
    clear hd1 hb1
    have HNX := Lib.hid hnx
    have HSH := Lib.hid hsh
    have HBD := Lib.hid hbd
    have HOK := Lib.hid hok
    have HV := Lib.hid hV
    clear hnx hsh hbd hok hV
    by_cases h1 : g = 1
    · subst h1
      obtain ⟨rfl, rfl, rfl⟩ := HSH.out rfl
      have hcv2 := run_bytes_of_string (P := Tryd.prog) w1 9 79 5 t Tryd.underlying9 Tryd.underlying79 Tryd.underlying5
      have hge := grownCap_ge w1 t.size 0 5
      generalize grownCap w1 t.size 0 5 = cap at hcv2 hge
      go_wp2_with fail
      have hwq : BlkAt ((w1.setCell ⟨d, 0, none⟩ (.slice (some ⟨w1.heap.size, 0, none⟩) t.size cap)).alloc (.cells (bytesRow t cap) 5 ((bytesRow t cap).size, (bytesRow t cap).size + 1))).drew d 129
          #[.slice (some ⟨w1.heap.size, 0, none⟩) t.size cap, .int .i64 (need : Int), .int .i64 ((0 : Nat) : Int), .int .i64 ((count + S.length : Nat) : Int)] := (((HD3.out.put 0 _).more _).dr)
      have hbq : Buf ((w1.setCell ⟨d, 0, none⟩ (.slice (some ⟨w1.heap.size, 0, none⟩) t.size cap)).alloc (.cells (bytesRow t cap) 5 ((bytesRow t cap).size, (bytesRow t cap).size + 1))).drew 5 (.slice (some ⟨w1.heap.size, 0, none⟩) t.size cap) t.data.toList :=
        Buf.at_heap (by have := heap_alloc_new (w1.setCell ⟨d, 0, none⟩ (.slice (some ⟨w1.heap.size, 0, none⟩) t.size cap)) (.cells (bytesRow t cap) 5 ((bytesRow t cap).size, (bytesRow t cap).size + 1)); rwa [show (w1.setCell ⟨d, 0, none⟩ (.slice (some ⟨w1.heap.size, 0, none⟩) t.size cap)).heap.size = w1.heap.size by simp [World.setCell]] at this) hge
      have hgw : Tch (fun k => k = d) w1 ((w1.setCell ⟨d, 0, none⟩ (.slice (some ⟨w1.heap.size, 0, none⟩) t.size cap)).alloc (.cells (bytesRow t cap) 5 ((bytesRow t cap).size, (bytesRow t cap).size + 1))).drew := ((((Tch.refl (fun k => k = d) w1).put (p := ⟨d, 0, none⟩) (fun _ => rfl) _).more _).dr)
      generalize ((w1.setCell ⟨d, 0, none⟩ (.slice (some ⟨w1.heap.size, 0, none⟩) t.size cap)).alloc (.cells (bytesRow t cap) 5 ((bytesRow t cap).size, (bytesRow t cap).size + 1))).drew = W at hwq hbq hgw ⊢
      refine (whole_any t W (by omega) (by rw [HV.out])).mono ?_
      rintro e w2 ⟨rfl, hb2⟩
      have hwq2 := hwq.below hb2 hwq.lt
      have g1 := hwq2.cell 1
      have k1 := hwq2.free 1
      simp at g1
      go_wp2_with fail
      go_ret
      have hT : Tch (· = d) w1 (w2.setCell ⟨d, 1, none⟩ (.int .i64 (fneed t.data.toList : Int))) := (hgw.bel hb2).put (p := ⟨d, 1, none⟩) (fun _ => rfl) _
      have hfne : ∀ g, foot (.slice (some ⟨w1.heap.size, 0, none⟩) t.size cap) = some g → g = w1.heap.size := fun g hg => by
        simp only [foot] at hg
        split at hg
        · cases hg
        · injection hg with hg; exact hg.symm
      refine ⟨_, _, rfl, ?_, ?_, ⟨hwq2.put 1 _, ?_, ?_⟩, ?_⟩
      · exact own_tch HO3.out hT fun g hg e => by have := (HO3.out.lt g hg).1; omega
      · exact HW3.out.trans hT fun _ _ e => e
      · exact (hbq.below hb2).tch ((Tch.refl (fun k => k = d) _).put (p := ⟨d, 1, none⟩) (fun _ => rfl) _) fun g hg e => by have := hfne g hg; omega
      · intro e; have := hfne d e; omega
      · intro g hg; have := hfne g hg; omega
    · by_cases h0 : g = 0
      · subst h0
        have HNXT := Lib.hid (HNX.out rfl)
        obtain ⟨k1, k2, j1, j2, j3⟩ := HOK.out rfl
        rw [len_list] at k2
        clear j1 j2 j3 e0 e1 e2 e3 f0 f1 f2 f3
        have hown := HO3.out
        go_wp2_with (at_builtin; go_must (refine wpList_append_own _ rfl _ _ 118 rfl w.heap.size 9 i0 (.string ByteArray.empty) 1 16 Tryd.underlying118 hi0 hz0 hz1 hz2 rfl (by decide) _ _ _ rfl (hown.alloc _) ⟨w1.heap.size, 0, none⟩ 1 1 [.string (txt q)] rfl rfl (one_new _ _ _) (one_cell_str _) (by unfold maxLen; omega) (by omega) (by simp; omega) ?_); intro v1 w2 hown2 hg2 _; have hTa : Tch (· = d) w w2 := (HW3.out.more _).trans (Tch.grown (S := fun g => u3.ownBlock = some g) hg2 (fun g hg _ => hg)) (fun g _ hg => by have := (HO3.out.lt g hg).1; omega); have hd2 := (HD3.out.more (.cells #[.string (txt q)] 9)).step hg2 (by intro e; have := (HO3.out.lt d e.symm).1; omega); have e3 := hd2.cell 3; have f3 := hd2.free 3; simp at e3; have HTA := Lib.hid hTa; have HD4 := Lib.hid hd2; have HO4 := Lib.hid hown2; clear hTa hd2 hown2 hg2 hown)
        go_roundw
        case rel =>
          have hT : Tch (fun k => k = d) w2 (w2.setCell ⟨d, 3, none⟩ (.int .i64 ((count : Int) + (done.length : Int) + 1))) := (Tch.refl (fun k => k = d) w2).put (p := ⟨d, 3, none⟩) (fun _ => rfl) _
          refine ⟨_, done ++ [txt q], rfl, by rw [ext_rest]; exact HNXT.out, ?_, ?_, ?_, HTA.out.trans hT fun _ _ e => e⟩
          · simp
            omega
          · refine own_tch (v := v1) ?_ hT fun g hg e => ?_
            · simpa [strs] using HO4.out
            · have := (HO4.out.lt g hg).1
              omega
          · have := HD4.out.put 3 (.int .i64 ((count : Int) + (done.length : Int) + 1))
            simp at this ⊢
            rw [Int.add_assoc] at this
            exact this
        case measure =>
          simp [strLen]
          omega
      · obtain ⟨rfl, rfl, rfl⟩ := HBD.out h0 h1
        have n1 : ((E : Int) == 1) = false := by rw [beq_eq_false_iff_ne]; omega
        have n0 : ((E : Int) != 0) = true := by rw [bne_iff_ne]; omega
        go_wp2_with fail
        go_ret
        have hT : Tch (· = d) w1 (((w1.setCell ⟨d, 0, none⟩ (.slice none 0 0)).setCell ⟨d, 1, none⟩ (.int .i64 0)).setCell ⟨d, 2, none⟩ (.int .i64 (E : Int))) := (((Tch.refl (fun k => k = d) w1).put (p := ⟨d, 0, none⟩) (fun _ => rfl) _).put (p := ⟨d, 1, none⟩) (fun _ => rfl) _).put (p := ⟨d, 2, none⟩) (fun _ => rfl) _
        exact ⟨_, _, rfl, own_tch HO3.out hT fun g hg e => by have := (HO3.out.lt g hg).1; omega, HW3.out.trans hT fun _ _ e => e, ⟨by rw [if_neg h0]; exact ((HD3.out.put 0 _).put 1 _).put 2 _, Buf.nil _ _, by simp [foot]⟩, fun g hg => by simp [foot] at hg⟩
end Go.Proofs.YtmlijflappjfoaaDoor
