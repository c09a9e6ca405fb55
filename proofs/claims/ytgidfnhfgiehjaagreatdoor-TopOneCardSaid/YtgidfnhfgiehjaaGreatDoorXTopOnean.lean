/-
  Texts of the proof, joined: EntEq Descr2 Entry Descr3 Entry2 Descr6. Conditions: as each names.
-/
import Derived.Test.YtgidfnhfgiehjaaGreatDoorXTopOneac
import Derived.Laws.StructEq
import Derived.Shelf.SlicesE.Kit
import Derived.Test.YtgidfnhfgiehjaaGreatDoorXTopOneam
import Derived.Test.YtgidfnhfgiehjaaGreatDoorXTopOneaj
import Derived.Test.YtgidfnhfgiehjaaGreatDoorXTopOneah
import Derived.Test.YtgidfnhfgiehjaaGreatDoorXTopOneaa
import Derived.Test.YtgidfnhfgiehjaaGreatDoorXTopOneal
import Derived.Deep.RegionHeld3
import Derived.Test.YtgidfnhfgiehjaaGreatDoorXTopOneaf

section
namespace Go.Proofs.YtgidfnhfgiehjaaGreatDoor
open Go.RowKit Go.PM
set_option maxRecDepth 100000
set_option maxHeartbeats 1000000
theorem ent_neq (x y x' y' : ByteArray) (w : World) : (binOp .neq 132 (.agg #[.string x, .string y]) (.agg #[.string x', .string y'])).run Tryz.prog w = .ok (.bool (!decide (x = x' ∧ y = y'))) w := by
  have u9 := Tryz.underlying9
  have a9 := Tryz.isAgg9
  have z9 := Tryz.sizeOf9
  have hS : Tryz.prog.underlying 132 = some (.struct (Tryz.prog.fieldsOf 132)) := by kernel_rfl
  have hp : Tryz.prog.stoodInHeld 132 = false := by kernel_rfl
  have e1 : (x.data = x'.data) = (x = x') := propext ⟨ByteArray.ext, congrArg _⟩
  have e2 : (y.data = y'.data) = (y = y') := propext ⟨ByteArray.ext, congrArg _⟩
  rw [run_neq_struct, show (10000 : Nat) = 9999 + 1 from rfl, run_equalIn_agg w 9999 _ _ _ hS hp]
  simp only [Program.fieldsOf, Tryz.underlying132]
  go_simp
  by_cases h1 : x = x' <;> by_cases h2 : y = y' <;> simp [h1, h2, ByteArray.toList_eq, e1, e2]
theorem ent_guard : Tryz.prog.eqGuardType Tryz.prog.depth 132 = false := by kernel_rfl
end Go.Proofs.YtgidfnhfgiehjaaGreatDoor
end

section
namespace Go.Proofs.YtgidfnhfgiehjaaGreatDoor
open Go.RowKit Go.PM
set_option maxRecDepth 100000
set_option maxHeartbeats 1000000
attribute [local go_sem ↓] Go.wp_at_zero Go.wp_at_succ
theorem txt_inj {a b : List UInt8} : txt a = txt b ↔ a = b := ⟨fun h => by have := congrArg (fun s : ByteArray => s.data.toList) h; exact this, fun h => by rw [h]⟩
theorem eequ_any (A B : Option Addr) (c d : Nat) (l m : List Ent) (w : World) (hr : Rd w A (ents l)) (hs : Rd w B (ents m)) (hl : l.length ≤ 9223372036854775807) :
    Calls Tryz.prog 101 #[.slice A l.length c, .slice B m.length d] w fun e w' => e = .returned (.bool (decide (l = m))) ∧ Below w.heap.size w w' := by
  have HR := Lib.hid hr
  have HS := Lib.hid hs
  have hneq := fun x y x' y' => ent_neq x y x' y'
  have hgd := ent_guard
  clear hr hs
  generalize hF : decide (l = m) = F
  by_cases hlm : l.length = m.length
  · have H0 : Hid (F = decide (l.drop 0 = m.drop 0)) := hF.symm
    clear hF
    go_enter Tryz.func101, Tryz.ntmps101
    have hnm : (((l.length : Nat) : Int) != ((m.length : Nat) : Int)) = false := by rw [hlm]; simp
    have HLM := Lib.hid hlm
    clear hlm
    go_wp2_with fail
    go_loopg [13] l.length (fun gk ki wr => ∃ k : Nat, k ≤ l.length ∧ l.length - k ≤ gk ∧ ki = .int .i64 (k : Int) ∧ Hid (F = decide (l.drop k = m.drop k)) ∧ Below w.heap.size w wr)
    case atStart => exact ⟨0, Nat.zero_le _, by omega, rfl, H0, b0⟩
    case round =>
      obtain ⟨k, hk, hgk, rfl, HM, hbel⟩ := hrel
      have HB := Lib.hid hbel
      by_cases hlt : k < l.length
      · have hlt2 : k < m.length := by have := HLM.out; omega
        obtain ⟨b, off, rfl, hbl, c0, c1⟩ := (HR.out.below hbel).ent hlt
        obtain ⟨b', off', rfl, hbl', d0, d1⟩ := (HS.out.below hbel).ent hlt2
        have hm := HM.out
        rw [List.drop_eq_getElem_cons hlt, List.drop_eq_getElem_cons hlt2] at hm
        have HM2 := Lib.hid hm
        clear hm HM hbel H0
        generalize l[k] = x at *
        generalize m[k] = y at *
        obtain ⟨x0, x1⟩ := x
        obtain ⟨y0, y1⟩ := y
        simp only at c0 c1 d0 d1
        have hd : decide (txt x0 = txt y0 ∧ txt x1 = txt y1) = decide ((x0, x1) = (y0, y1)) := by
          rw [decide_eq_decide, txt_inj, txt_inj, Prod.mk.injEq]
        by_cases he : (x0, x1) = (y0, y1)
        · have HN : Hid (F = decide (l.drop (k + 1) = m.drop (k + 1))) := by
            show _ = _
            rw [HM2.out, he]
            simp
          rw [decide_eq_true he] at hd
          clear HM2 he
          go_wp2_with fail
          go_quiet (fail)
          go_wp2_with fail
          go_roundg (l.length - (k + 1))
          case measure => omega
          case rel => exact ⟨k + 1, by omega, Nat.le_refl _, by go_num, HN, bn HB.out _⟩
        · have HN : F = false := by
            rw [HM2.out, decide_eq_false]
            intro e
            injection e with e _
            exact he e
          subst HN
          rw [decide_eq_false he] at hd
          clear HM2 he
          go_wp2_with fail
          go_quiet (fail)
          go_wp2_with fail
          go_ret
          exact ⟨rfl, bn HB.out _⟩
      · obtain rfl : k = l.length := by omega
        have hm := HM.out
        rw [List.drop_of_length_le (Nat.le_refl _), HLM.out, List.drop_of_length_le (Nat.le_refl _)] at hm
        have hF : F = true := by rw [hm]; rfl
        subst hF
        clear hbel hm HM H0
        go_wp2_with fail
        go_ret
        exact ⟨rfl, HB.out⟩
  · have hFf : F = false := by rw [← hF]; exact decide_eq_false fun e => hlm (by rw [e])
    subst hFf
    have hnm : (((l.length : Nat) : Int) != ((m.length : Nat) : Int)) = true := by rw [bne_iff_ne]; omega
    clear hlm hF
    go_enter Tryz.func101, Tryz.ntmps101
    go_wp2_with fail
    go_ret
    exact ⟨rfl, b0⟩
end Go.Proofs.YtgidfnhfgiehjaaGreatDoor
end

section
namespace Go.Proofs.YtgidfnhfgiehjaaGreatDoor
open Go.RowKit Go.PM
set_option maxRecDepth 100000
set_option maxHeartbeats 1000000
def echk (k v : List UInt8) : Int := if uchk k 1 64 ≠ 0 then uchk k 1 64 else uchk v 0 256
theorem echeck_any (k v : ByteArray) (w : World) (hk : k.size ≤ 9223372036854775807) (hv : v.size ≤ 9223372036854775807) (hT : Tabs w) :
    Calls Tryz.prog 182 #[.agg #[.string k, .string v]] w fun e w' => e = .returned (.int .i64 (echk k.data.toList v.data.toList)) ∧ Below w.heap.size w w' := by
  have hx := BlkAt.made w 132 #[.string k, .string v]
  have HX := Lib.hid hx
  have hb0 := ba (a := w) b0 (.cells #[.string k, .string v] 132)
  have HB := Lib.hid hb0
  have H1 := Lib.hid (ucheck_any k 1 64 (w.alloc (.cells #[.string k, .string v] 132)) hk (hT.below hb0))
  have H2 : Hid (∀ x : World, Below w.heap.size w x → Calls Tryz.prog 141 #[.string v, .int .i64 0, .int .i64 256] x fun e w' => e = .returned (.int .i64 (uchk v.data.toList 0 256)) ∧ Below x.heap.size x w') := fun x hx => ucheck_any v 0 256 x hv (hT.below hx)
  unfold echk
  clear hx hb0 hT
  generalize uchk k.data.toList 1 64 = a at *
  generalize uchk v.data.toList 0 256 = b at *
  by_cases ha : a = 0
  · subst ha
    rw [if_neg (by simp)]
    go_enter Tryz.func182, Tryz.ntmps182
    go_wp2_with fail
    refine H1.out.mono ?_
    rintro e w1 ⟨rfl, hb1⟩
    have hx1 := HX.out.below hb1 HX.out.lt
    have c1 := hx1.cell 1
    simp at c1
    have HB1 := Lib.hid (bb HB.out hb1)
    clear hb1 hx1
    go_wp2_with fail
    refine (H2.out _ HB1.out).mono ?_
    rintro e w2 ⟨rfl, hb2⟩
    have HB2 := Lib.hid (bb HB1.out hb2)
    clear hb2
    go_wp2
    go_ret
    exact ⟨rfl, HB2.out⟩
  · rw [if_pos ha]
    have hai : (a != 0) = true := by rw [bne_iff_ne]; exact ha
    clear ha
    go_enter Tryz.func182, Tryz.ntmps182
    go_wp2_with fail
    refine H1.out.mono ?_
    rintro e w1 ⟨rfl, hb1⟩
    have HB1 := Lib.hid (bb HB.out hb1)
    clear hb1
    go_wp2
    go_ret
    exact ⟨rfl, HB1.out⟩
theorem ecmp_any (ak av bk bv : ByteArray) (w : World) :
    Calls Tryz.prog 289 #[.agg #[.string ak, .string av], .agg #[.string bk, .string bv]] w fun e w' => e = .returned (.int .i64 (ecmp ak.data.toList av.data.toList bk.data.toList bv.data.toList)) ∧ w' = (w.alloc (.cells #[.string ak, .string av] 132)).alloc (.cells #[.string bk, .string bv] 132) := by
  have H1 : Hid (∀ x : World, Calls Tryz.prog 250 #[.string ak, .string bk] x fun e w' => e = .returned (.int .i64 (Lib.compareBytes ak.data.toList bk.data.toList)) ∧ w' = x) := fun x => Tryz.strings_Compare ak bk x
  have H2 : Hid (∀ x : World, Calls Tryz.prog 250 #[.string av, .string bv] x fun e w' => e = .returned (.int .i64 (Lib.compareBytes av.data.toList bv.data.toList)) ∧ w' = x) := fun x => Tryz.strings_Compare av bv x
  unfold ecmp
  generalize Lib.compareBytes ak.data.toList bk.data.toList = a at *
  generalize Lib.compareBytes av.data.toList bv.data.toList = b at *
  by_cases ha : a = 0
  · subst ha
    rw [if_neg (by simp)]
    go_enter Tryz.func289, Tryz.ntmps289
    go_wp2_with fail
    refine (H1.out _).mono ?_
    rintro e w1 ⟨rfl, rfl⟩
    go_wp2_with fail
    refine (H2.out _).mono ?_
    rintro e w2 ⟨rfl, rfl⟩
    go_wp2
    go_ret
    exact ⟨rfl, rfl⟩
  · rw [if_pos ha]
    have hai : (a != 0) = true := by rw [bne_iff_ne]; exact ha
    clear ha
    go_enter Tryz.func289, Tryz.ntmps289
    go_wp2_with fail
    refine (H1.out _).mono ?_
    rintro e w1 ⟨rfl, rfl⟩
    go_wp2
    go_ret
    exact ⟨rfl, rfl⟩
def ETextEnd (w : World) (b : Nat) (s : ByteArray) (k : Nat) (e : Ending) (w' : World) : Prop :=
  ∃ k' : Nat, e = .returned (.tuple #[.string (txt (etx (s.data.toList.drop k)).1), .int .i64 ((etx (s.data.toList.drop k)).2.2 : Int)]) ∧ Cur w' b s k' ∧ ((etx (s.data.toList.drop k)).2.2 = 0 → k' = k + (etx (s.data.toList.drop k)).2.1) ∧ w.grownBy w' (some b)
theorem etext_any (b : Nat) (s : ByteArray) (k : Nat) (w : World) (h : Cur w b s k) :
    Calls Tryz.prog 233 #[.pointer (some ⟨b, 0, none⟩)] w (ETextEnd w b s k) := by
  have HN := Lib.hid (next_any b s k w h)
  have hks := h.2.1
  have hss := h.2.2
  clear h
  have hl : (s.data.toList.drop k).length = s.size - k := by rw [List.length_drop, len_list]
  unfold ETextEnd etx
  rw [hl]
  by_cases hv : (vget (s.data.toList.drop k)).2.2 = 0
  · obtain ⟨v1, v2, v3, v4, v5⟩ := vget_ok hv
    rw [hl] at v2
    rw [if_neg (by rw [hv]; simp)]
    have HN2 : Hid (Calls Tryz.prog 174 #[.pointer (some ⟨b, 0, none⟩)] w fun e w' => e = .returned (.tuple #[.int .u64 ((vget (s.data.toList.drop k)).1 : Int), .int .i64 0]) ∧ Cur w' b s (k + (vget (s.data.toList.drop k)).2.1) ∧ w.grownBy w' (some b)) := by
      have := HN.out
      rw [hv] at this
      exact this
    clear HN hv v5
    have hdd : ∀ m : Nat, ((s.data.toList.drop k).drop m) = s.data.toList.drop (k + m) := fun m => by rw [List.drop_drop]
    rw [hdd]
    generalize (vget (s.data.toList.drop k)).1 = n at *
    generalize (vget (s.data.toList.drop k)).2.1 = m at *
    clear hl hdd
    have hkm : k + m ≤ s.size := by omega
    by_cases hn : s.size - k - m < n
    · rw [if_pos hn]
      go_enter Tryz.func233, Tryz.ntmps233
      go_wp2_with fail
      refine HN2.out.mono ?_
      rintro e w1 ⟨rfl, hc1, hg1⟩
      have HC1 := Lib.hid hc1
      have HG1 := Lib.hid hg1
      clear hc1 hg1
      go_wp2_with fail
      refine (cur_take_no b s (k + m) (n : Int) w1 HC1.out (by omega) (by omega)).mono ?_
      rintro e w2 ⟨rfl, hb2⟩
      have HC2 : Hid (Cur w2 b s (k + m)) := ⟨HC1.out.1.below hb2 HC1.out.1.lt, HC1.out.2⟩
      have HG2 := Lib.hid (grown_trans HG1.out (grown_of_below hb2 (some b)) fun x e _ => e)
      clear hb2
      go_wp2_with fail
      go_ret2
      exact ⟨k + m, rfl, HC2.out, fun h => by simp at h, HG2.out⟩
    · rw [if_neg hn]
      have hex : s.extract (k + m) (k + m + (n : Int).toNat) = txt ((s.data.toList.drop (k + m)).take n) := by
        refine txt_eq ?_
        rw [ext_list]
        congr 1
        omega
      have HEX := Lib.hid hex
      clear hex
      go_enter Tryz.func233, Tryz.ntmps233
      go_wp2_with fail
      refine HN2.out.mono ?_
      rintro e w1 ⟨rfl, hc1, hg1⟩
      have HC1 := Lib.hid hc1
      have HG1 := Lib.hid hg1
      clear hc1 hg1
      go_wp2_with fail
      refine (cur_take_yes b s (k + m) (n : Int) w1 HC1.out (by omega) (by omega)).mono ?_
      rintro e w2 ⟨rfl, hc2, hg2⟩
      rw [HEX.out, Int.toNat_natCast] at *
      have HC2 := Lib.hid hc2
      have HG2 := Lib.hid (grown_trans HG1.out hg2 fun x e _ => e)
      clear hc2 hg2 HEX
      go_wp2_with fail
      go_ret2
      exact ⟨k + m + n, rfl, HC2.out, fun _ => by omega, HG2.out⟩
  · have hve := vget_err hv
    rw [if_pos hv]
    have hvi : (((vget (s.data.toList.drop k)).2.2 : Int) != 0) = true := by rw [bne_iff_ne]; omega
    generalize (vget (s.data.toList.drop k)).2.2 = g at *
    clear hl hve
    go_enter Tryz.func233, Tryz.ntmps233
    go_wp2_with fail
    refine HN.out.mono ?_
    rintro e w1 ⟨rfl, hc1, hg1⟩
    have HC1 := Lib.hid hc1
    have HG1 := Lib.hid hg1
    clear hc1 hg1
    go_wp2_with fail
    go_ret2
    exact ⟨_, rfl, HC1.out, fun h => absurd h hv, HG1.out⟩
theorem etx_size (s : ByteArray) (k : Nat) : (etx (s.data.toList.drop k)).1.length ≤ s.size := by
  unfold etx
  split
  · simp
  · split
    · simp
    · rw [List.length_take, List.length_drop, List.length_drop, len_list]; omega
def ENextEnd (w : World) (b : Nat) (s : ByteArray) (k : Nat) (e : Ending) (w' : World) : Prop :=
  ∃ k' : Nat, e = .returned (.tuple #[.agg #[.string (txt (enx echk (s.data.toList.drop k)).1.1), .string (txt (enx echk (s.data.toList.drop k)).1.2)], .int .i64 (enx echk (s.data.toList.drop k)).2.2]) ∧ Cur w' b s k' ∧ ((enx echk (s.data.toList.drop k)).2.2 = 0 → k' = k + (enx echk (s.data.toList.drop k)).2.1) ∧ w.grownBy w' (some b)
theorem res_two (w : World) (r : Nat) (v0 v1 : Value) : Tch (fun j => j = r) w ((w.setCell ⟨r, 0, none⟩ v0).setCell ⟨r, 1, none⟩ v1) :=
  ((Tch.refl (fun j => j = r) w).put (p := ⟨r, 0, none⟩) (fun _ => rfl) v0).put (p := ⟨r, 1, none⟩) (fun _ => rfl) v1
theorem tch_grown {w w1 w2 : World} {b r : Nat} (hg : w.grownBy w1 (some b)) (hr : w.heap.size ≤ r) (ht : Tch (fun j => j = r) w1 w2) : w.grownBy w2 (some b) :=
  ⟨ht.os.trans hg.os, ht.tape.trans hg.tape, ht.output.trans hg.output, Nat.le_trans hg.size ht.size, fun k hk hne => (ht.block k (Nat.lt_of_lt_of_le hk hg.size) (by omega)).trans (hg.block k hk hne)⟩
theorem enext_any (W0 : World) (hT : Tabs W0) (b : Nat) (s : ByteArray) (k : Nat) (w : World) (h0 : Below W0.heap.size W0 w) (hWb : W0.heap.size ≤ b) (h : Cur w b s k) :
    Calls Tryz.prog 217 #[.pointer (some ⟨b, 0, none⟩)] w (ENextEnd w b s k) := by
  have hbl := h.1.lt
  have hss := h.2.2
  have hx := BlkAt.made w 132 #[.string ⟨#[]⟩, .string ⟨#[]⟩]
  have HX := Lib.hid hx
  have hg0 := grown_of_below (ba (a := w) b0 (.cells #[.string ⟨#[]⟩, .string ⟨#[]⟩] 132)) (some b)
  have HG0 := Lib.hid hg0
  have HT1 := Lib.hid (etext_any b s k (w.alloc (.cells #[.string ⟨#[]⟩, .string ⟨#[]⟩] 132)) ⟨h.1.more _, h.2⟩)
  have H0 := Lib.hid h0
  have HT := Lib.hid hT
  have hsz1 := etx_size s k
  clear hx hg0 h h0 hT
  generalize hX : enx echk (s.data.toList.drop k) = X
  have HXX := Lib.hid hX
  have HEND : Hid (∀ (e : Ending) (k' : Nat) (w1 w' : World), e = .returned (.tuple #[.agg #[.string (txt X.1.1), .string (txt X.1.2)], .int .i64 X.2.2]) → Cur w1 b s k' → (X.2.2 = 0 → k' = k + X.2.1) → w.grownBy w1 (some b) → Tch (fun j => j = w.heap.size) w1 w' → ENextEnd w b s k e w') := fun e k' w1 w' he hc hk hg ht => by
    unfold ENextEnd
    rw [hX]
    exact ⟨k', he, ⟨hc.1.tch ht (by omega), hc.2⟩, hk, tch_grown hg (Nat.le_refl _) ht⟩
  unfold enx at hX
  clear hX
  have hX := HXX.out
  unfold enx at hX
  clear HXX
  go_enter Tryz.func217, Tryz.ntmps217
  go_wp2_with fail
  refine HT1.out.mono ?_
  rintro e w1 ⟨k1, rfl, hc1, hk1, hg1⟩
  have HC1 := Lib.hid hc1
  have hgw1 := grown_trans HG0.out hg1 fun x e _ => e
  have HG1 := Lib.hid hgw1
  have hx1 := HX.out.step hg1 (by intro e; injection e with e; omega)
  have HX1 := Lib.hid hx1
  have c0 := hx1.cell 0
  have c1 := hx1.cell 1
  have f0 := hx1.free 0
  have f1 := hx1.free 1
  simp at c0 c1
  have hlw := hx1.lt
  clear hc1 hg1 hgw1 hx1 HT1
  by_cases he1 : (etx (s.data.toList.drop k)).2.2 = 0
  · rw [if_neg (by rw [he1]; simp)] at hX
    obtain rfl := hk1 he1
    have hdd : (s.data.toList.drop k).drop (etx (s.data.toList.drop k)).2.1 = s.data.toList.drop (k + (etx (s.data.toList.drop k)).2.1) := by rw [List.drop_drop]
    rw [hdd] at hX
    have HT2 := Lib.hid (etext_any b s (k + (etx (s.data.toList.drop k)).2.1) w1 HC1.out)
    have hsz2 := etx_size s (k + (etx (s.data.toList.drop k)).2.1)
    rw [he1]
    clear hk1 hdd he1
    unfold ETextEnd at HT2
    generalize (etx (s.data.toList.drop k)).1 = K at *
    generalize hk1e : k + (etx (s.data.toList.drop k)).2.1 = k1 at *
    have HK1E := Lib.hid hk1e
    clear hk1e
    generalize etx (s.data.toList.drop k1) = Y at *
    clear c0 c1 f0 f1 hlw
    go_wp2_with fail
    refine HT2.out.mono ?_
    rintro e w2 ⟨k2, rfl, hc2, hk2, hg2⟩
    have HC2 := Lib.hid hc2
    have HG2 := Lib.hid (grown_trans HG1.out hg2 fun x e _ => e)
    have hx2 := HX1.out.step hg2 (by intro e; injection e with e; omega)
    have HX2 := Lib.hid hx2
    have c0 := hx2.cell 0
    have c1 := hx2.cell 1
    have f0 := hx2.free 0
    have f1 := hx2.free 1
    simp at c0 c1
    have hlw := hx2.lt
    clear hc2 hg2 hx2 HT2 HX1
    by_cases he2 : Y.2.2 = 0
    · rw [if_neg (by rw [he2]; simp)] at hX
      obtain rfl := hk2 he2
      rw [he2]
      have hbe := BlkAt.made w2 132 #[.string (txt K), .string (txt Y.1)]
      have HBE := Lib.hid hbe
      have HCK := Lib.hid (echeck_any (txt K) (txt Y.1) (w2.alloc (.cells #[.string (txt K), .string (txt Y.1)] 132)) (by rw [txt_size]; omega) (by rw [txt_size]; omega) (HT.out.below (ba (bg H0.out HG2.out hWb) _)))
      rw [txt_list, txt_list] at HCK
      have HXB := Lib.hid (HX2.out.more (.cells #[.string (txt K), .string (txt Y.1)] 132))
      clear c0 c1 f0 f1 hlw hbe HX2 hk2 he2
      by_cases hce : echk K Y.1 = 0
      · rw [if_neg (by simpa using hce)] at hX
        subst hX
        have HE : Hid (∀ (w3 w' : World), Below (w2.alloc (.cells #[.string (txt K), .string (txt Y.1)] 132)).heap.size (w2.alloc (.cells #[.string (txt K), .string (txt Y.1)] 132)) w3 → Tch (fun j => j = w.heap.size) w3 w' → ENextEnd w b s k (.returned (.tuple #[.agg #[.string (txt K), .string (txt Y.1)], .int .i64 0])) w') := fun w3 w' hb3 ht => by
          have hb := bb (ba (a := w2) b0 (.cells #[.string (txt K), .string (txt Y.1)] 132)) hb3
          exact HEND.out _ (k1 + Y.2.1) w3 w' rfl ⟨HC2.out.1.below hb HC2.out.1.lt, HC2.out.2⟩ (fun _ => by have := HK1E.out; simp only; omega) (grown_trans HG2.out (grown_of_below hb (some b)) fun x e _ => e) ht
        rw [hce] at HCK
        clear hce HEND
        go_wp2_with fail
        refine HCK.out.mono ?_
        rintro e w3 ⟨rfl, hb3⟩
        have HE3 : Hid (∀ w', Tch (fun j => j = w.heap.size) w3 w' → ENextEnd w b s k (.returned (.tuple #[.agg #[.string (txt K), .string (txt Y.1)], .int .i64 0])) w') := fun w' ht => HE.out w3 w' hb3 ht
        have hx3 := HXB.out.below hb3 HXB.out.lt
        have hy3 := HBE.out.below hb3 HBE.out.lt
        have e0 := hy3.cell 0
        have e1 := hy3.cell 1
        simp at e0 e1
        have c0 := hx3.cell 0
        have c1 := hx3.cell 1
        have f0 := hx3.free 0
        have f1 := hx3.free 1
        simp at c0 c1
        have hlw := hx3.lt
        clear hx3 hy3 hb3 HE
        go_wp2_with fail
        refine bodyPost_ret (v := .tuple #[.agg #[.string (txt K), .string (txt Y.1)], .int .i64 0]) (by simp [results, Tryz.results217, go_sem, c0, c1]; try rfl) rfl (HE3.out _ (res_two _ _ _ _))
      · rw [if_pos (by simpa using hce)] at hX
        subst hX
        have HE : Hid (∀ (w3 w' : World), Below (w2.alloc (.cells #[.string (txt K), .string (txt Y.1)] 132)).heap.size (w2.alloc (.cells #[.string (txt K), .string (txt Y.1)] 132)) w3 → Tch (fun j => j = w.heap.size) w3 w' → ENextEnd w b s k (.returned (.tuple #[.agg #[.string ByteArray.empty, .string ByteArray.empty], .int .i64 (echk K Y.1)])) w') := fun w3 w' hb3 ht => by
          have hb := bb (ba (a := w2) b0 (.cells #[.string (txt K), .string (txt Y.1)] 132)) hb3
          exact HEND.out _ (k1 + Y.2.1) w3 w' rfl ⟨HC2.out.1.below hb HC2.out.1.lt, HC2.out.2⟩ (fun h => absurd h hce) (grown_trans HG2.out (grown_of_below hb (some b)) fun x e _ => e) ht
        have hcei : (echk K Y.1 != 0) = true := by rw [bne_iff_ne]; exact hce
        generalize echk K Y.1 = C at *
        clear hce HEND
        go_wp2_with fail
        refine HCK.out.mono ?_
        rintro e w3 ⟨rfl, hb3⟩
        have HE3 : Hid (∀ w', Tch (fun j => j = w.heap.size) w3 w' → ENextEnd w b s k (.returned (.tuple #[.agg #[.string ByteArray.empty, .string ByteArray.empty], .int .i64 C])) w') := fun w' ht => HE.out w3 w' hb3 ht
        have hx3 := HXB.out.below hb3 HXB.out.lt
        have c0 := hx3.cell 0
        have c1 := hx3.cell 1
        have f0 := hx3.free 0
        have f1 := hx3.free 1
        simp at c0 c1
        have hlw := hx3.lt
        clear hx3 hb3 HE
        go_wp2_with fail
        refine bodyPost_ret (v := .tuple #[.agg #[.string ByteArray.empty, .string ByteArray.empty], .int .i64 C]) (by simp [results, Tryz.results217, go_sem, c0, c1]; try rfl) rfl (HE3.out _ (res_two _ _ _ _))
    · rw [if_pos he2] at hX
      subst hX
      have HE : Hid (∀ w', Tch (fun j => j = w.heap.size) w2 w' → ENextEnd w b s k (.returned (.tuple #[.agg #[.string ByteArray.empty, .string ByteArray.empty], .int .i64 (Y.2.2 : Int)])) w') := fun w' ht => HEND.out _ k2 w2 w' rfl HC2.out (fun h => by simp at h; exact absurd h he2) HG2.out ht
      have hte : ((Y.2.2 : Int) != 0) = true := by rw [bne_iff_ne]; omega
      generalize Y.2.2 = G at *
      clear he2 hk2 HEND
      go_wp2_with fail
      refine bodyPost_ret (v := .tuple #[.agg #[.string ByteArray.empty, .string ByteArray.empty], .int .i64 (G : Int)]) (by simp [results, Tryz.results217, go_sem, c0, c1]; try rfl) rfl (HE.out _ (res_two _ _ _ _))
  · rw [if_pos he1] at hX
    subst hX
    have HE : Hid (∀ w', Tch (fun j => j = w.heap.size) w1 w' → ENextEnd w b s k (.returned (.tuple #[.agg #[.string ByteArray.empty, .string ByteArray.empty], .int .i64 ((etx (s.data.toList.drop k)).2.2 : Int)])) w') := fun w' ht => HEND.out _ k1 w1 w' rfl HC1.out (fun h => by simp at h; exact absurd h he1) HG1.out ht
    have hte : ((((etx (s.data.toList.drop k)).2.2 : Nat) : Int) != 0) = true := by rw [bne_iff_ne]; omega
    generalize (etx (s.data.toList.drop k)).2.2 = G at *
    clear he1 hk1 HEND
    go_wp2_with fail
    refine bodyPost_ret (v := .tuple #[.agg #[.string ByteArray.empty, .string ByteArray.empty], .int .i64 (G : Int)]) (by simp [results, Tryz.results217, go_sem, c0, c1]; try rfl) rfl (HE.out _ (res_two _ _ _ _))
end Go.Proofs.YtgidfnhfgiehjaaGreatDoor
end

section
namespace Go.Proofs.YtgidfnhfgiehjaaGreatDoor
open Go.RowKit Go.PM
set_option maxRecDepth 100000
set_option maxHeartbeats 1000000
attribute [local go_sem ↓] Go.wp_at_zero Go.wp_at_succ
def pk (l : List Ent) (k : Nat) : Option (List UInt8) := if k = 0 then none else (l[k - 1]?).map (·.1)
theorem pk_zero (l : List Ent) : pk l 0 = none := rfl
theorem pk_succ (l : List Ent) (k : Nat) (h : k < l.length) : pk l (k + 1) = some l[k].1 := by
  unfold pk
  rw [if_neg (by omega), Nat.add_sub_cancel, List.getElem?_eq_getElem h]
  rfl
theorem check12_any (A : Option Addr) (c : Nat) (l : List Ent) (w : World) (hr : Rd w A (ents l)) (hz : ESz l) (hl : l.length ≤ 9223372036854775807) (hT : Tabs w) :
    Calls Tryz.prog 144 #[.slice A l.length c] w fun e w' => e = .returned (.int .i64 (dchk echk l)) ∧ Below w.heap.size w w' := by
  have HR := Lib.hid hr
  have HZ := Lib.hid hz
  have HT := Lib.hid hT
  have wl : IntKind.u64.wrap (l.length : Int) = (l.length : Int) := by rw [IntKind.wrap_u64]; omega
  have HM : Hid (∀ x : World, Calls Tryz.prog 181 #[.int .u64 (l.length : Int)] x fun e w' => e = .returned (.int .i64 (dmany l.length)) ∧ w' = x) := fun x => many_any l.length x
  unfold dchk
  clear hr hz hT
  by_cases hm : dmany l.length = 0
  · rw [if_neg (by rw [hm]; simp)]
    rw [hm] at HM
    have H0 : Hid (dchk1 echk none l = dchk1 echk (pk l 0) (l.drop 0)) := rfl
    generalize dchk1 echk none l = F at H0 ⊢
    clear hm
    go_enter Tryz.func144, Tryz.ntmps144
    go_wp2_with fail
    refine (HM.out _).mono ?_
    rintro e w1 ⟨rfl, rfl⟩
    go_wp2_with fail
    go_loopg [17] l.length (fun gk ki wr => ∃ k : Nat, k ≤ l.length ∧ l.length - k ≤ gk ∧ ki = .int .i64 (k : Int) ∧ Hid (F = dchk1 echk (pk l k) (l.drop k)) ∧ Below w1.heap.size w1 wr)
    case atStart => exact ⟨0, Nat.zero_le _, by omega, rfl, H0, b0⟩
    case round =>
      obtain ⟨k, hk, hgk, rfl, HF, hbel⟩ := hrel
      by_cases hlt : k < l.length
      · obtain ⟨b, off, hA, hbl, c0, c1⟩ := (HR.out.below hbel).ent hlt
        have hf := HF.out
        rw [List.drop_eq_getElem_cons hlt, dchk1] at hf
        have hps := pk_succ l k hlt
        obtain ⟨z0, z1⟩ := HZ.out _ (List.getElem_mem hlt)
        generalize l[k] = x at *
        obtain ⟨x0, x1⟩ := x
        simp only at c0 c1 hf hps z0 z1
        rw [← hps] at hf
        have HFF := Lib.hid hf
        have hxe := BlkAt.made wr 132 #[.string (txt x0), .string (txt x1)]
        have HXE := Lib.hid hxe
        have HB := Lib.hid (ba hbel (.cells #[.string (txt x0), .string (txt x1)] 132))
        have HB1 := Lib.hid hbel
        have HC := Lib.hid (echeck_any (txt x0) (txt x1) (wr.alloc (.cells #[.string (txt x0), .string (txt x1)] 132)) (by rw [txt_size]; omega) (by rw [txt_size]; omega) (HT.out.below HB.out))
        rw [txt_list, txt_list] at HC
        clear hf hps hxe hbel HF H0 z0 z1
        subst hA
        by_cases hE : echk x0 x1 = 0
        · rw [hE] at HC
          have hf := HFF.out
          rw [if_neg (by rw [hE]; simp)] at hf
          have HF2 := Lib.hid hf
          clear hf HFF hE
          go_wp2_with fail
          refine HC.out.mono ?_
          rintro e w2 ⟨rfl, hb2⟩
          have HBW := Lib.hid (bb HB.out hb2)
          have hx2 := HXE.out.below hb2 HXE.out.lt
          have HX2 := Lib.hid hx2
          clear hb2 HC
          by_cases hk0 : k = 0
          · subst hk0
            have hf := HF2.out
            rw [pk_zero] at hf
            have HN : Hid (F = dchk1 echk (pk l (0 + 1)) (l.drop (0 + 1))) := by
              show _ = _
              rw [hf]
              exact if_neg (by simp [dbehO])
            clear hf hx2 HF2
            go_wp2_with fail
            go_roundg (l.length - (0 + 1))
            case measure => omega
            case rel => exact ⟨0 + 1, by omega, Nat.le_refl _, by go_num, HN, HBW.out⟩
          · obtain ⟨j, rfl⟩ : ∃ j, k = j + 1 := ⟨k - 1, by omega⟩
            have hf := HF2.out
            have hjl : j < l.length := by omega
            rw [pk_succ l j hjl] at hf
            have hji : ((j + 1 : Nat) : Int) - 1 = (j : Int) := by omega
            obtain ⟨b', off', hA', hbl', d0, d1⟩ := (HR.out.below HBW.out).ent hjl
            injection hA' with hA'
            injection hA' with e1 e2
            subst e1 e2
            generalize l[j] = y at *
            obtain ⟨y0, y1⟩ := y
            simp only at d0 d1
            change F = if dbeh y0 x0 ≠ 0 then dbeh y0 x0 else dchk1 echk (pk l (j + 1 + 1)) (l.drop (j + 1 + 1)) at hf
            obtain ⟨D, hDd⟩ : ∃ D, D = dbeh y0 x0 := ⟨_, rfl⟩
            rw [← hDd] at hf
            have HBH : Hid (∀ n : BelW w2, Calls Tryz.prog 183 #[.string (txt y0), .string (txt x0)] n.wld fun e w' => e = .returned (.int .i64 D) ∧ Below n.wld.heap.size n.wld w') := fun n => (behind_any (txt y0) (txt x0) n.wld).mono fun e w' ⟨h1, h2⟩ => ⟨by rw [h1, hDd]; rfl, by rw [h2]; exact b0⟩
            clear hDd
            have hbl2 : b < w2.heap.size := hbl'
            have n0 : ∀ n : BelW w2, n.wld.cell? ⟨b, off + j * 2, none⟩ = some (.string (txt y0)) := fun n => (World.cell?_of_block (a := ⟨b, off + j * 2, none⟩) (n.bel.block b hbl2)).trans d0
            have n1 : ∀ n : BelW w2, n.wld.cell? ⟨wr.heap.size, 0, none⟩ = some (.string (txt x0)) := fun n => (hx2.below n.bel hx2.lt).cell 0
            have hj1 : (j : Int) < (l.length : Int) := by omega
            clear d0 d1 hx2 HF2 c0 c1
            by_cases hD : D = 0
            · subst hD
              rw [if_neg (by simp)] at hf
              have HN := Lib.hid hf
              clear hf
              go_wp2_with fail
              refine wp_region_below_lit (by kernel_rfl) (by kernel_rfl) ?_
              repeat (first | go_big_quiet_skip | (go_big_quiet_want; go_big_quiet_op; first | go_big_quiet_on | (apply Exists.intro; refine ⟨fun nq => ?_, ?_⟩; (go_at_call 183; exact below_of (HBH.out _)); go_big_quiet_on)))
              refine wpQuiet_nil ?_
              intro wq hnq
              obtain ⟨nq, rfl⟩ := hnq
              have hq := nq.bel
              generalize nq.wld = wq at hq ⊢
              clear nq
              have HBQ := Lib.hid (bb HBW.out hq)
              clear hq n0 n1 HBH
              go_wp2_with fail
              go_roundg (l.length - (j + 1 + 1))
              case measure => omega
              case rel => exact ⟨j + 1 + 1, by omega, Nat.le_refl _, by go_num, HN, HBQ.out⟩
            · rw [if_pos hD] at hf
              subst hf
              have hDi : (F != 0) = true := by rw [bne_iff_ne]; exact hD
              clear hD
              go_wp2_with fail
              refine wp_region_below_lit (by kernel_rfl) (by kernel_rfl) ?_
              repeat (first | go_big_quiet_skip | (go_big_quiet_want; go_big_quiet_op; first | go_big_quiet_on | (apply Exists.intro; refine ⟨fun nq => ?_, ?_⟩; (go_at_call 183; exact below_of (HBH.out _)); go_big_quiet_on)))
              refine wpQuiet_nil ?_
              intro wq hnq
              obtain ⟨nq, rfl⟩ := hnq
              have hq := nq.bel
              generalize nq.wld = wq at hq ⊢
              clear nq
              have HBQ := Lib.hid (bb HBW.out hq)
              clear hq n0 n1 HBH
              go_wp2_with fail
              go_ret
              exact ⟨rfl, HBQ.out⟩
        · have hf := HFF.out
          rw [if_pos hE] at hf
          have hEi : (F != 0) = true := by rw [bne_iff_ne, hf]; exact hE
          rw [← hf] at HC
          clear HFF hE hf
          go_wp2_with fail
          refine HC.out.mono ?_
          rintro e w2 ⟨rfl, hb2⟩
          have HBW := Lib.hid (bb HB.out hb2)
          clear hb2 HC
          go_wp2_with fail
          go_ret
          exact ⟨rfl, HBW.out⟩
      · obtain rfl : k = l.length := by omega
        have hf := HF.out
        rw [List.drop_of_length_le (Nat.le_refl _), dchk1] at hf
        subst hf
        have HB := Lib.hid hbel
        clear hbel HF H0
        go_wp2_with fail
        go_ret
        exact ⟨rfl, HB.out⟩
  · rw [if_pos hm]
    have hmi : (dmany l.length != 0) = true := by rw [bne_iff_ne]; exact hm
    generalize dmany l.length = E at *
    clear hm
    go_enter Tryz.func144, Tryz.ntmps144
    go_wp2_with fail
    refine (HM.out _).mono ?_
    rintro e w1 ⟨rfl, rfl⟩
    go_wp2_with fail
    go_ret
    exact ⟨rfl, b0⟩
end Go.Proofs.YtgidfnhfgiehjaaGreatDoor
end

section
namespace Go.Proofs.YtgidfnhfgiehjaaGreatDoor
open Go.RowKit Go.PM
set_option maxRecDepth 100000
set_option maxHeartbeats 1000000
attribute [local go_sem ↓] Go.wp_at_zero Go.wp_at_succ
theorem app_listE (a b : ByteArray) : (a ++ b).data.toList = a.data.toList ++ b.data.toList := by rw [ByteArray.data_append, Array.toList_append]
theorem eput_any (k v : ByteArray) (w : World) (hk : k.size ≤ 1000000) (hv : v.size ≤ 1000000) :
    Calls Tryz.prog 125 #[.agg #[.string k, .string v]] w fun e w' => e = .returned (.string (txt (eput k.data.toList v.data.toList))) ∧ Below w.heap.size w w' := by
  have hx := BlkAt.made w 132 #[.string k, .string v]
  have hb := ba (a := w) b0 (.cells #[.string k, .string v] 132)
  have HB := Lib.hid hb
  have H1 : Hid (∀ x : World, Calls Tryz.prog 35 #[.int .u64 (k.size : Int)] x fun e w' => e = .returned (.string (txt (vput k.size))) ∧ Below x.heap.size x w') := fun x => put_any k.size x (by unfold In64; omega)
  have H2 : Hid (∀ x : World, Calls Tryz.prog 35 #[.int .u64 (v.size : Int)] x fun e w' => e = .returned (.string (txt (vput v.size))) ∧ Below x.heap.size x w') := fun x => put_any v.size x (by unfold In64; omega)
  have HE : Hid (((txt (vput k.size) ++ k) ++ txt (vput v.size)) ++ v = txt (eput k.data.toList v.data.toList)) := by
    refine txt_eq ?_
    rw [app_listE, app_listE, app_listE, txt_list, txt_list, eput, len_list, len_list]
    simp
  have wk : IntKind.u64.wrap (k.size : Int) = (k.size : Int) := by rw [IntKind.wrap_u64]; omega
  have wv : IntKind.u64.wrap (v.size : Int) = (v.size : Int) := by rw [IntKind.wrap_u64]; omega
  have hP : (txt (vput k.size)).size ≤ 10 := by rw [txt_size, vput_length]; exact vsz_le10 (by omega)
  have hQ : (txt (vput v.size)).size ≤ 10 := by rw [txt_size, vput_length]; exact vsz_le10 (by omega)
  generalize txt (vput k.size) = P at *
  generalize txt (vput v.size) = Q at *
  have hr1 : ∀ x : World, (Op.stringOp .add P k).run Tryz.prog x = .ok (.string (P ++ k)) x := fun x => run_string_add_sum x P k (by omega)
  have hr2 : ∀ x : World, (Op.stringOp .add (P ++ k) Q).run Tryz.prog x = .ok (.string (P ++ k ++ Q)) x := fun x => run_string_add_sum x _ _ (by rw [ByteArray.size_append]; omega)
  have hr3 : ∀ x : World, (Op.stringOp .add (P ++ k ++ Q) v).run Tryz.prog x = .ok (.string (P ++ k ++ Q ++ v)) x := fun x => run_string_add_sum x _ _ (by rw [ByteArray.size_append, ByteArray.size_append]; omega)
  have HSB : Hid (∀ x : World, Below (w.alloc (.cells #[.string k, .string v] 132)).heap.size (w.alloc (.cells #[.string k, .string v] 132)) x → (x.cell? ⟨w.heap.size, 0, none⟩ = some (.string k) ∧ x.cell? ⟨w.heap.size, 1, none⟩ = some (.string v))) := fun x h => ⟨(hx.below h hx.lt).cell 0, (hx.below h hx.lt).cell 1⟩
  clear hx hb
  go_enter Tryz.func125, Tryz.ntmps125
  go_wp2_with fail
  generalize (w.alloc (.cells #[.string k, .string v] 132)) = wz at HSB HB ⊢
  have hbW : Below wz.heap.size wz wz := b0
  obtain ⟨k0, k1⟩ := HSB.out _ hbW
  go_region_held3 (fun x => x.cell? ⟨w.heap.size, 0, none⟩ = some (.string k) ∧ x.cell? ⟨w.heap.size, 1, none⟩ = some (.string v)) (first | exact HSB.out _ (by repeat (first | exact hbW | refine ba ?_ _ | refine bd ?_)) | go_keep)
    ((first
      | (go_at_call 35; with_reducible show Calls _ _ #[.int .u64 (k.size : Int)] _ _; refine (H1.out _).mono ?_; rintro e' W1 ⟨rfl, hb1'⟩; replace hbW : Below wz.heap.size wz W1 := bb (by repeat (first | exact hbW | refine ba ?_ _ | refine bd ?_)) hb1'; clear hb1'; obtain ⟨k0, k1⟩ := HSB.out _ hbW)
      | (go_at_call 35; refine (H2.out _).mono ?_; rintro e' W1 ⟨rfl, hb1'⟩; replace hbW : Below wz.heap.size wz W1 := bb (by repeat (first | exact hbW | refine ba ?_ _ | refine bd ?_)) hb1'; clear hb1'; obtain ⟨k0, k1⟩ := HSB.out _ hbW)))
  all_goals (go_wp2_with fail; go_ret; exact ⟨by rw [← HE.out]; rfl, bb HB.out (by repeat (first | exact hbW | refine ba ?_ _ | refine bd ?_))⟩)
theorem exam11 : txt (eput [97] [98, 99]) = ⟨#[1, 97, 2, 98, 99]⟩ := by
  have e1 : vput 1 = [1] := by rw [vput_small (by omega)]; rfl
  have e2 : vput 2 = [2] := by rw [vput_small (by omega)]; rfl
  show txt (vput 1 ++ ([97] ++ (vput 2 ++ [98, 99]))) = _
  rw [e1, e2]
  rfl
theorem exam11c : echk [97] [98, 99] = 0 := by
  have h1 : ugood [97] = true := by rw [ugood_step (by decide)]; exact ugood_nil
  have h2 : ugood [98, 99] = true := by
    rw [ugood_step (by decide)]
    show ugood [99] = true
    rw [ugood_step (by decide)]; exact ugood_nil
  unfold echk uchk
  rw [h1, h2]
  decide
theorem awake11 (w : World) (hT : Tabs w) :
    Calls Tryz.prog 290 #[] w fun e w' => e = .returned (.bool true) ∧ Below w.heap.size w w' := by
  have hx := BlkAt.made w 132 #[.string ⟨#[97]⟩, .string ⟨#[98, 99]⟩]
  have hb0 := ba (a := w) b0 (.cells #[.string ⟨#[97]⟩, .string ⟨#[98, 99]⟩] 132)
  have HA := Lib.hid (awakeE10 (w.alloc (.cells #[.string ⟨#[97]⟩, .string ⟨#[98, 99]⟩] 132)) (hT.below hb0))
  have HX := Lib.hid hx
  have HB := Lib.hid hb0
  have HP : Hid (∀ x : World, Calls Tryz.prog 125 #[.agg #[.string ⟨#[97]⟩, .string ⟨#[98, 99]⟩]] x fun e w' => e = .returned (.string ⟨#[1, 97, 2, 98, 99]⟩) ∧ Below x.heap.size x w') := fun x => by
    have := eput_any ⟨#[97]⟩ ⟨#[98, 99]⟩ x (by decide) (by decide)
    rw [show (ByteArray.mk #[97]).data.toList = [97] from rfl, show (ByteArray.mk #[98, 99]).data.toList = [98, 99] from rfl, exam11] at this
    exact this
  have HC : Hid (∀ x : World, Below w.heap.size w x → Calls Tryz.prog 182 #[.agg #[.string ⟨#[97]⟩, .string ⟨#[98, 99]⟩]] x fun e w' => e = .returned (.int .i64 0) ∧ Below x.heap.size x w') := fun x hx => by
    have := echeck_any ⟨#[97]⟩ ⟨#[98, 99]⟩ x (by decide) (by decide) (hT.below hx)
    rw [show (ByteArray.mk #[97]).data.toList = [97] from rfl, show (ByteArray.mk #[98, 99]).data.toList = [98, 99] from rfl, exam11c] at this
    exact this
  clear hx hb0 hT
  go_enter Tryz.func290, Tryz.ntmps290
  go_wp2_with fail
  refine HA.out.mono ?_
  rintro e w1 ⟨rfl, hb1⟩
  have HX1 := Lib.hid (HX.out.below hb1 HX.out.lt)
  have HB1 := Lib.hid (bb HB.out hb1)
  have c0 := HX1.out.cell 0
  have c1 := HX1.out.cell 1
  simp at c0 c1
  clear hb1
  go_wp2_with fail
  refine (HP.out _).mono ?_
  rintro e w2 ⟨rfl, hb2⟩
  have HX2 := Lib.hid (HX1.out.below hb2 HX1.out.lt)
  have HB2 := Lib.hid (bb HB1.out hb2)
  clear c0 c1 hb2
  have c0 := HX2.out.cell 0
  have c1 := HX2.out.cell 1
  simp at c0 c1
  go_wp2_with fail
  refine (HC.out _ HB2.out).mono ?_
  rintro e w3 ⟨rfl, hb3⟩
  have HB3 := Lib.hid (bb HB2.out hb3)
  clear hb3
  go_wp2_with fail
  go_ret
  exact ⟨rfl, HB3.out⟩
theorem awakeE11 (w : World) (hT : Tabs w) : Calls Tryz.prog 269 #[] w fun e w' => e = .returned (.bool true) ∧ Below w.heap.size w w' := by
  have H := Lib.hid (awake11 w hT)
  clear hT
  go_enter Tryz.func269, Tryz.ntmps269
  go_wp2_with fail
  refine H.out.mono ?_
  rintro e w' ⟨rfl, hb⟩
  go_wp2
  go_ret
  exact ⟨rfl, hb⟩
end Go.Proofs.YtgidfnhfgiehjaaGreatDoor
end

section
namespace Go.Proofs.YtgidfnhfgiehjaaGreatDoor
open Go.RowKit Go.PM
set_option maxRecDepth 100000
set_option maxHeartbeats 2000000
attribute [local go_sem ↓] Go.wp_at_zero Go.wp_at_succ
theorem cc_fresh (b : Nat) (w : World) (h0 : w.cell? ⟨b, 0, none⟩ = some (.pointer none)) (hsh : w.shape? b = some (222, 2)) (hfz : w.frozen? ⟨b, 0, none⟩ = false) :
    Calls Tryz.prog 173 #[.pointer (some ⟨b, 0, none⟩)] w fun e w' => e = .returned (.tuple #[]) ∧ w' = w.setCell ⟨b, 0, none⟩ (.pointer (some ⟨b, 0, none⟩)) := by
  have hs : (Tryz.prog.info? 222).map (·.size) = some 2 := by kernel_rfl
  obtain ⟨j, hj, hjs⟩ := Option.map_eq_some_iff.1 hs
  go_enter Tryz.func173, Tryz.ntmps173
  go_wp2_with fail
  rw [Lib.run_to_unsafe w ⟨b, 0, none⟩ Tryz.underlying220 Tryz.underlying289 hj (by rw [hjs]; decide) hsh (Nat.zero_lt_succ 1)]
  simp only [Result.andThen]
  rw [Oper.upon_value]
  go_wp2_with fail
  rw [run_callFunc_extern Tryz.func212 (by kernel_rfl) (by kernel_rfl) (by kernel_rfl) (e := Extern.AbiNoEscape.same) (by kernel_rfl)]
  rw [Lib.run_noEscape]
  simp only [Result.andThen]
  rw [Oper.upon_value]
  go_wp2_with fail
  rw [Lib.run_from_unsafe w ⟨b, 0, none⟩ Tryz.underlying289 Tryz.underlying220 hj hsh (by kernel_rfl)]
  simp only [Result.andThen]
  rw [Oper.upon_value]
  go_wp2_with fail
  go_end0
  exact ⟨rfl, rfl⟩
theorem cc_used (b : Nat) (w : World) (h0 : w.cell? ⟨b, 0, none⟩ = some (.pointer (some ⟨b, 0, none⟩))) :
    Calls Tryz.prog 173 #[.pointer (some ⟨b, 0, none⟩)] w fun e w' => e = .returned (.tuple #[]) ∧ w' = w := by
  have hs : (Tryz.prog.info? 222).map (·.size) = some 2 := by kernel_rfl
  obtain ⟨j, hj, hjs⟩ := Option.map_eq_some_iff.1 hs
  go_enter Tryz.func173, Tryz.ntmps173
  go_wp2_with fail
  rw [Lib.run_neq_ptr_same w _ Tryz.underlying220 hj]
  go_wp2_with fail
  go_end0
  exact ⟨rfl, rfl⟩
abbrev Bld (B b : Nat) (l : List UInt8) (w : World) : Prop := Lib.IsBuilderF 222 5 B b (Lib.byteCells l) w
theorem Bld.below {B b : Nat} {l : List UInt8} {w w' : World} (h : Bld B b l w) (hb : Below w.heap.size w w') : Bld B b l w' := by
  have go : ∀ p, Lib.BuilderAtF 222 5 B b p (Lib.byteCells l) w → Lib.BuilderAtF 222 5 B b p (Lib.byteCells l) w' := fun p h => by
    have hlt := h.lt
    obtain ⟨hB, v, hbk, hown, hne⟩ := h
    exact ⟨hB, v, (hb.block b hlt).trans hbk, hown.kept (grown_of_below hb none) (by cases hv : v.ownBlock <;> simp), hne⟩
  exact h.imp (go _) (go _)
theorem Bld.lt {B b : Nat} {l : List UInt8} {w : World} (h : Bld B b l w) : b < w.heap.size ∧ B ≤ b := by
  rcases h with h | h
  · exact ⟨h.lt, h.1⟩
  · exact ⟨h.lt, h.1⟩
theorem info_byte : (Tryz.prog.info? 5).map (fun i => (i.zero, i.size, i.bytes)) = some (some (.int .u8 0), 1, 1) := by kernel_rfl
theorem cc_any (B b : Nat) (l : List UInt8) (w : World) (h : Bld B b l w) :
    Calls Tryz.prog 173 #[.pointer (some ⟨b, 0, none⟩)] w fun e w' => e = .returned (.tuple #[]) ∧ Lib.BuilderAtF 222 5 B b (.pointer (some ⟨b, 0, none⟩)) (Lib.byteCells l) w' ∧ Below B w w' := by
  rcases h with h | h
  · refine (cc_fresh b w h.cell0 h.shape h.frozen0).mono ?_
    rintro e w' ⟨rfl, rfl⟩
    exact ⟨rfl, h.used _, (Below.refl B w).setCell (p := ⟨b, 0, none⟩) h.1 _⟩
  · refine (cc_used b w h.cell0).mono ?_
    rintro e w' ⟨rfl, rfl⟩
    exact ⟨rfl, h, Below.refl B _⟩
theorem wstr_any (B b : Nat) (l : List UInt8) (s : ByteArray) (w : World) (h : Bld B b l w) (hlen : l.length + s.size ≤ 100000000000) (hBw : B ≤ w.heap.size) :
    Calls Tryz.prog 124 #[.pointer (some ⟨b, 0, none⟩), .string s] w fun e w' => e = .returned (.tuple #[.int .i64 s.size, .nilIface]) ∧ Bld B b (l ++ s.data.toList) w' ∧ Below B w w' := by
  obtain ⟨i0, hi, hz0, hz1, hz2⟩ := info_parts info_byte
  have HCC := Lib.hid (cc_any B b l w h)
  have hbl : (Lib.byteCells l).length = l.length := by simp [Lib.byteCells]
  clear h
  go_enter Tryz.func124, Tryz.ntmps124
  go_wp2_with fail
  refine HCC.out.mono ?_
  rintro e w1 ⟨rfl, h1, hb1⟩
  obtain ⟨hB, v, hbk, hown, hne⟩ := h1
  have c0 : w1.cell? ⟨b, 0, none⟩ = some (.pointer (some ⟨b, 0, none⟩)) := by rw [Lib.cell_of_heap hbk]; rfl
  have c1 : w1.cell? ⟨b, 1, none⟩ = some v := by rw [Lib.cell_of_heap hbk]; rfl
  have HOWN := Lib.hid hown
  have HB1 := Lib.hid hb1
  have HBK := Lib.hid hbk
  clear hown hb1 hbk HCC
  go_wp2_with (at_builtin; refine Lib.wpList_append_own_stringF _ rfl _ _ 42 9 rfl B 5 i0 Tryz.underlying42 Tryz.underlying9 hi hz0 hz1 hz2 _ _ _ rfl HOWN.out s rfl ?c3 ?c4 ?c5 ?_)
  case c3 => rw [hbl]; unfold maxLen; omega
  case c4 => rw [hbl]; omega
  case c5 => have := HB1.out.size; omega
  intro v' w2 hown' hgrow _
  have hlt : b < w1.heap.size := by
    rcases Nat.lt_or_ge b w1.heap.size with h' | h'
    · exact h'
    · have := HBK.out
      simp [Array.getElem?_eq_none h'] at this
  have hb2 : w2.heap[b]? = some (.cells #[.pointer (some ⟨b, 0, none⟩), v] 222 (0, 0)) := by
    rw [hgrow.block b hlt (fun e => hne e.symm)]
    exact HBK.out
  have d0 : w2.cell? ⟨b, 0, none⟩ = some (.pointer (some ⟨b, 0, none⟩)) := by rw [Lib.cell_of_heap hb2]; rfl
  have d1 : w2.cell? ⟨b, 1, none⟩ = some v := by rw [Lib.cell_of_heap hb2]; rfl
  have f1 : w2.frozen? ⟨b, 1, none⟩ = false := Lib.frozen_of_heap hb2 1
  obtain ⟨ao, n', cap, rfl⟩ : ∃ ao n' cap, v' = .slice ao n' cap := by
    rcases hown'.2 with ⟨hv, _⟩ | ⟨g, cap, cur, fz, hv, _⟩
    · exact ⟨_, _, _, hv⟩
    · exact ⟨_, _, _, hv⟩
  have HOWN2 := Lib.hid hown'
  have HGR := Lib.hid hgrow
  have HB2 := Lib.hid hb2
  clear hown' hgrow hb2
  go_wp2_with fail
  go_ret2
  refine ⟨rfl, .inr ?_, ?_⟩
  · rw [Lib.byteCells_append]
    have hbs : (Lib.byteCells s.data.toList).length = s.size := by simp [Lib.byteCells]
    exact Lib.BuilderAtF.put (T := 222) (e := 5) hB HB2.out (bs' := Lib.byteCells l ++ Lib.byteCells s.data.toList) (by rw [List.length_append, hbs, hbl]; exact HOWN2.out) (by decide)
  · exact (HB1.out.grown HGR.out (by have := HB1.out.size; omega) (fun k hk => (HOWN.out.lt k hk).1)).setCell (p := ⟨b, 1, none⟩) hB _
theorem bld_new (w : World) : Bld w.heap.size w.heap.size [] (w.alloc (.cells #[.pointer none, .slice none 0 0] 222)) :=
  .inl ⟨Nat.le_refl _, .slice none 0 0, heap_alloc_new w _, World.ownsRowF_of (World.ownsRow_nil _ _ _ _), by simp [Value.ownBlock]⟩
theorem str12_any (B b : Nat) (l : List UInt8) (w : World) (h : Bld B b l w) (hBw : B ≤ w.heap.size) :
    Calls Tryz.prog 126 #[.pointer (some ⟨b, 0, none⟩)] w fun e w' => e = .returned (.string (txt l)) ∧ Below B w w' :=
  (Tryz.Builder_String_any_k B b l w h hBw).mono fun _ _ ⟨h1, _, h3, _⟩ => ⟨h1, h3⟩
theorem eput_len (k v : List UInt8) (hk : k.length ≤ 1000000) (hv : v.length ≤ 1000000) : (eput k v).length ≤ 3000000 := by
  have h1 := vput_length k.length
  have h2 := vput_length v.length
  have h3 : vsz k.length ≤ 10 := vsz_le10 (by omega)
  have h4 : vsz v.length ≤ 10 := vsz_le10 (by omega)
  simp only [eput, List.length_append]
  omega
theorem dkeyL_app (l m : List Ent) : dkeyL (l ++ m) = dkeyL l ++ dkeyL m := by simp [dkeyL]
theorem dkeyL_len : ∀ l : List Ent, (∀ e ∈ l, e.1.length ≤ 1000000 ∧ e.2.length ≤ 1000000) → (dkeyL l).length ≤ l.length * 3000000
  | [], _ => by simp [dkeyL]
  | a :: r, h => by
    have h1 := eput_len a.1 a.2 (h a (by simp)).1 (h a (by simp)).2
    have h2 := dkeyL_len r fun e he => h e (by simp [he])
    have h3 : dkeyL (a :: r) = eput a.1 a.2 ++ dkeyL r := by simp [dkeyL]
    rw [h3, List.length_append, List.length_cons]
    omega
def EMil (l : List Ent) : Prop := l.length ≤ 1000 ∧ ∀ e ∈ l, e.1.length ≤ 1000000 ∧ e.2.length ≤ 1000000
theorem key12_any (A : Option Addr) (c : Nat) (l : List Ent) (w : World) (hr : Rd w A (ents l)) (hz : EMil l) :
    Calls Tryz.prog 76 #[.slice A l.length c] w fun e w' => e = .returned (.string (txt (dkey l))) ∧ Below w.heap.size w w' := by
  have HR := Lib.hid hr
  have HZ := Lib.hid hz.2
  have hl := hz.1
  have wl : IntKind.u64.wrap (l.length : Int) = (l.length : Int) := by rw [IntKind.wrap_u64]; omega
  have HV : Hid (∀ x : World, Calls Tryz.prog 35 #[.int .u64 (l.length : Int)] x fun e w' => e = .returned (.string (txt (vput l.length))) ∧ Below x.heap.size x w') := fun x => put_any l.length x (by unfold In64; omega)
  have hb0 := ba (a := w) b0 (.cells #[.pointer none, .slice none 0 0] 222)
  have HB0 := Lib.hid hb0
  have HBL := Lib.hid (bld_new w)
  have hvl : (vput l.length).length ≤ 10 := by rw [vput_length]; exact vsz_le10 (by omega)
  have HSZ : Hid (∀ k, (vput l.length ++ dkeyL (l.take k)).length ≤ 3000000010) := fun k => by
    have h1 := dkeyL_len (l.take k) fun e he => HZ.out e (List.mem_of_mem_take he)
    have h2 : (l.take k).length ≤ 1000 := by rw [List.length_take]; omega
    rw [List.length_append]
    omega
  clear hr hz hb0
  go_enter Tryz.func76, Tryz.ntmps76
  go_wp2_with fail
  refine (HV.out _).mono ?_
  rintro e w1 ⟨rfl, hb1⟩
  have HB1 := Lib.hid (bb HB0.out hb1)
  have HW := Lib.hid (wstr_any w.heap.size w.heap.size [] (txt (vput l.length)) w1 (HBL.out.below hb1) (by rw [txt_size, List.length_nil]; omega) HB1.out.size)
  rw [List.nil_append, txt_list] at HW
  clear hb1
  go_wp2_with fail
  refine HW.out.mono ?_
  rintro e w2 ⟨rfl, hbl2, hb2⟩
  have H0 : Hid (Bld w.heap.size w.heap.size (vput l.length ++ dkeyL (l.take 0)) w2 ∧ Below w.heap.size w w2) := by
    rw [List.take_zero, show dkeyL [] = [] from rfl, List.append_nil]
    exact ⟨hbl2, HB1.out.trans hb2⟩
  clear hbl2 hb2 HW HB1
  go_wp2_with fail
  go_loopg [13] l.length (fun gk ki wr => ∃ k : Nat, k ≤ l.length ∧ l.length - k ≤ gk ∧ ki = .int .i64 (k : Int) ∧ Hid (Bld w.heap.size w.heap.size (vput l.length ++ dkeyL (l.take k)) wr ∧ Below w.heap.size w wr))
  case atStart => exact ⟨0, Nat.zero_le _, by omega, rfl, H0⟩
  case round =>
    obtain ⟨k, hk, hgk, rfl, HS⟩ := hrel
    obtain ⟨hbld, hbel⟩ := HS.out
    have hszk := HSZ.out k
    by_cases hlt : k < l.length
    · obtain ⟨b, off, rfl, hblt, c0, c1⟩ := (HR.out.below hbel).ent hlt
      obtain ⟨z0, z1⟩ := HZ.out _ (List.getElem_mem hlt)
      have htk : l.take (k + 1) = l.take k ++ [l[k]] := (List.take_append_getElem hlt).symm
      generalize l[k] = x at *
      obtain ⟨x0, x1⟩ := x
      simp only at c0 c1 z0 z1
      have hnx : vput l.length ++ dkeyL (l.take (k + 1)) = (vput l.length ++ dkeyL (l.take k)) ++ eput x0 x1 := by
        rw [htk, dkeyL_app]
        simp [dkeyL]
      have HNX := Lib.hid hnx
      have hel := eput_len x0 x1 z0 z1
      generalize hK : vput l.length ++ dkeyL (l.take k) = K at *
      have HP := Lib.hid (eput_any (txt x0) (txt x1) (wr.alloc (.cells #[.string (txt x0), .string (txt x1)] 132)) (by rw [txt_size]; omega) (by rw [txt_size]; omega))
      rw [txt_list, txt_list] at HP
      have hbo := ba (a := wr) b0 (.cells #[.string (txt x0), .string (txt x1)] 132)
      have HBo := Lib.hid hbo
      have HBLD := Lib.hid hbld
      have HBEL := Lib.hid hbel
      clear hbld hbel htk hnx hbo hK HS H0
      go_wp2_with fail
      refine HP.out.mono ?_
      rintro e w3 ⟨rfl, hb3⟩
      have HB3 := Lib.hid (bb HBo.out hb3)
      have hbl3 := HBLD.out.below HB3.out
      have HW := Lib.hid (wstr_any w.heap.size w.heap.size K (txt (eput x0 x1)) w3 hbl3 (by rw [txt_size]; omega) (Nat.le_trans HBEL.out.size HB3.out.size))
      rw [txt_list] at HW
      clear hb3 hbl3 HP
      go_wp2_with fail
      refine HW.out.mono ?_
      rintro e w4 ⟨rfl, hbl4, hb4⟩
      have HN : Hid (Bld w.heap.size w.heap.size (vput l.length ++ dkeyL (l.take (k + 1))) w4 ∧ Below w.heap.size w w4) := by
        show _ ∧ _
        rw [HNX.out]
        exact ⟨hbl4, (HBEL.out.trans (HB3.out.mono HBEL.out.size)).trans hb4⟩
      clear hbl4 hb4 HW HNX
      go_wp2_with fail
      go_roundg (l.length - (k + 1))
      case measure => omega
      case rel => exact ⟨k + 1, by omega, Nat.le_refl _, by go_num, HN⟩
    · obtain rfl : k = l.length := by omega
      have hkk : vput l.length ++ dkeyL (l.take l.length) = dkey l := by rw [List.take_of_length_le (Nat.le_refl _)]; rfl
      rw [hkk] at hbld
      have HST := Lib.hid (str12_any _ _ _ _ hbld hbel.size)
      have HB := Lib.hid hbel
      clear hbld hbel HS H0 hkk hszk
      go_wp2_with fail
      refine HST.out.mono ?_
      rintro e w3 ⟨rfl, hb3⟩
      have HB3 := Lib.hid (HB.out.trans hb3)
      clear hb3
      go_wp2_with fail
      go_ret
      exact ⟨rfl, HB3.out⟩
theorem cmp12_any (A B : Option Addr) (c d : Nat) (l m : List Ent) (w : World) (hr : Rd w A (ents l)) (hs : Rd w B (ents m)) (hz : EMil l) (hy : EMil m) :
    Calls Tryz.prog 247 #[.slice A l.length c, .slice B m.length d] w fun e w' => e = .returned (.int .i64 (Lib.compareBytes (dkey l) (dkey m))) ∧ Below w.heap.size w w' := by
  have HK := Lib.hid (key12_any A c l w hr hz)
  have HM : Hid (∀ x, Below w.heap.size w x → Calls Tryz.prog 76 #[.slice B m.length d] x fun e w' => e = .returned (.string (txt (dkey m))) ∧ Below x.heap.size x w') := fun x hx => key12_any B d m x (hs.below hx) hy
  have HC : Hid (∀ x : World, Calls Tryz.prog 250 #[.string (txt (dkey l)), .string (txt (dkey m))] x fun e w' => e = .returned (.int .i64 (Lib.compareBytes (dkey l) (dkey m))) ∧ w' = x) := fun x => Tryz.strings_Compare (txt (dkey l)) (txt (dkey m)) x
  clear hr hs hz hy
  generalize Lib.compareBytes (dkey l) (dkey m) = R at *
  go_enter Tryz.func247, Tryz.ntmps247
  go_wp2_with fail
  refine HK.out.mono ?_
  rintro e w1 ⟨rfl, hb1⟩
  have HB1 := Lib.hid hb1
  clear hb1
  go_wp2_with fail
  refine (HM.out _ HB1.out).mono ?_
  rintro e w2 ⟨rfl, hb2⟩
  have HB2 := Lib.hid (bb HB1.out hb2)
  clear hb2
  go_wp2_with fail
  refine (HC.out _).mono ?_
  rintro e w3 ⟨rfl, rfl⟩
  go_wp2_with fail
  go_ret
  exact ⟨rfl, HB2.out⟩
end Go.Proofs.YtgidfnhfgiehjaaGreatDoor
end
