/-
  Texts of the proof, joined: Entry Fld Ones From Of FCheck. Conditions: as each names.
-/
import Derived.Test.YtigbifiicbghpaaGreatDoorBaf
import Derived.Test.YtigbifiicbghpaaGreatDoorBab
import Derived.Test.YtigbifiicbghpaaGreatDoorBad
import Derived.Test.YtigbifiicbghpaaGreatDoorProg
import Derived.WalkSpells
import Derived.WalkLawsBesides
import Derived.Deep.QuietTactic
import Derived.BigQuiet
import Derived.Lib.Hide
import Derived.Deep.OwnRows
import Derived.KernelRfl
import Derived.Deep.RegionHeld3
import Derived.Deep.AppendLies
import Derived.Deep.DrawnRows

section
/-
  Contracts of layer 11. Conditions: texts within int; Go's tables of UTF-8 lie in memory.
-/
namespace Go.Proofs.YtigbifiicbghpaaGreatDoor
open Go.RowKit Go.PM
set_option maxRecDepth 100000
set_option maxHeartbeats 1000000

/-- Whether an entry may be: the code. -/
def echk (k v : List UInt8) : Int := if uchk k 1 64 ≠ 0 then uchk k 1 64 else uchk v 0 256
theorem echeck_any (k v : ByteArray) (w : World) (hk : k.size ≤ 9223372036854775807) (hv : v.size ≤ 9223372036854775807) (hT : Tabs w) :
    Calls Tryz.prog 12 #[.agg #[.string k, .string v]] w fun e w' => e = .returned (.int .i64 (echk k.data.toList v.data.toList)) ∧ Below w.heap.size w w' := by
  have hx := BlkAt.made w 23 #[.string k, .string v]
  have HX := Lib.hid hx
  have hb0 := ba (a := w) b0 (.cells #[.string k, .string v] 23)
  have HB := Lib.hid hb0
  have H1 := Lib.hid (ucheck_any k 1 64 (w.alloc (.cells #[.string k, .string v] 23)) hk (hT.below hb0))
  have H2 : Hid (∀ x : World, Below w.heap.size w x → Calls Tryz.prog 41 #[.string v, .int .i64 0, .int .i64 256] x fun e w' => e = .returned (.int .i64 (uchk v.data.toList 0 256)) ∧ Below x.heap.size x w') := fun x hx => ucheck_any v 0 256 x hv (hT.below hx)
  unfold echk
  clear hx hb0 hT
  generalize uchk k.data.toList 1 64 = a at *
  generalize uchk v.data.toList 0 256 = b at *
  by_cases ha : a = 0
  · subst ha
    rw [if_neg (by simp)]
    go_enter Tryz.func12, Tryz.ntmps12
    go_wp2_with fail
    refine H1.out.mono ?_
    rintro e w1 ⟨rfl, hb1⟩
    have hx1 := HX.out.below hb1 HX.out.lt
    have c1 := hx1.cell 1
    simp at c1
    have HB1 := Lib.hid (bb HB.out hb1)
    clear hb1 hx1
    go_wp2_with fail
    refine (H2.out _ HB1.out).mono ?_
    rintro e w2 ⟨rfl, hb2⟩
    have HB2 := Lib.hid (bb HB1.out hb2)
    clear hb2
    go_wp2
    go_ret
    exact ⟨rfl, HB2.out⟩
  · rw [if_pos ha]
    have hai : (a != 0) = true := by rw [bne_iff_ne]; exact ha
    clear ha
    go_enter Tryz.func12, Tryz.ntmps12
    go_wp2_with fail
    refine H1.out.mono ?_
    rintro e w1 ⟨rfl, hb1⟩
    have HB1 := Lib.hid (bb HB.out hb1)
    clear hb1
    go_wp2
    go_ret
    exact ⟨rfl, HB1.out⟩
theorem ecmp_any (ak av bk bv : ByteArray) (w : World) :
    Calls Tryz.prog 16 #[.agg #[.string ak, .string av], .agg #[.string bk, .string bv]] w fun e w' => e = .returned (.int .i64 (ecmp ak.data.toList av.data.toList bk.data.toList bv.data.toList)) ∧ w' = (w.alloc (.cells #[.string ak, .string av] 23)).alloc (.cells #[.string bk, .string bv] 23) := by
  have H1 : Hid (∀ x : World, Calls Tryz.prog 45 #[.string ak, .string bk] x fun e w' => e = .returned (.int .i64 (Lib.compareBytes ak.data.toList bk.data.toList)) ∧ w' = x) := fun x => Tryz.strings_Compare ak bk x
  have H2 : Hid (∀ x : World, Calls Tryz.prog 45 #[.string av, .string bv] x fun e w' => e = .returned (.int .i64 (Lib.compareBytes av.data.toList bv.data.toList)) ∧ w' = x) := fun x => Tryz.strings_Compare av bv x
  unfold ecmp
  generalize Lib.compareBytes ak.data.toList bk.data.toList = a at *
  generalize Lib.compareBytes av.data.toList bv.data.toList = b at *
  by_cases ha : a = 0
  · subst ha
    rw [if_neg (by simp)]
    go_enter Tryz.func16, Tryz.ntmps16
    go_wp2_with fail
    refine (H1.out _).mono ?_
    rintro e w1 ⟨rfl, rfl⟩
    go_wp2_with fail
    refine (H2.out _).mono ?_
    rintro e w2 ⟨rfl, rfl⟩
    go_wp2
    go_ret
    exact ⟨rfl, rfl⟩
  · rw [if_pos ha]
    have hai : (a != 0) = true := by rw [bne_iff_ne]; exact ha
    clear ha
    go_enter Tryz.func16, Tryz.ntmps16
    go_wp2_with fail
    refine (H1.out _).mono ?_
    rintro e w1 ⟨rfl, rfl⟩
    go_wp2
    go_ret
    exact ⟨rfl, rfl⟩
/-- The end of reading a text with its length ahead. -/
def ETextEnd (w : World) (b : Nat) (s : ByteArray) (k : Nat) (e : Ending) (w' : World) : Prop :=
  ∃ k' : Nat, e = .returned (.tuple #[.string (txt (etx (s.data.toList.drop k)).1), .int .i64 ((etx (s.data.toList.drop k)).2.2 : Int)]) ∧ Cur w' b s k' ∧ ((etx (s.data.toList.drop k)).2.2 = 0 → k' = k + (etx (s.data.toList.drop k)).2.1) ∧ w.grownBy w' (some b)
theorem etext_any (b : Nat) (s : ByteArray) (k : Nat) (w : World) (h : Cur w b s k) :
    Calls Tryz.prog 39 #[.pointer (some ⟨b, 0, none⟩)] w (ETextEnd w b s k) := by
  have HN := Lib.hid (next_any b s k w h)
  have hks := h.2.1
  have hss := h.2.2
  clear h
  have hl : (s.data.toList.drop k).length = s.size - k := by rw [List.length_drop, len_list]
  unfold ETextEnd etx
  rw [hl]
  by_cases hv : (vget (s.data.toList.drop k)).2.2 = 0
  · obtain ⟨v1, v2, v3, v4, v5⟩ := vget_ok hv
    rw [hl] at v2
    rw [if_neg (by rw [hv]; simp)]
    have HN2 : Hid (Calls Tryz.prog 56 #[.pointer (some ⟨b, 0, none⟩)] w fun e w' => e = .returned (.tuple #[.int .u64 ((vget (s.data.toList.drop k)).1 : Int), .int .i64 0]) ∧ Cur w' b s (k + (vget (s.data.toList.drop k)).2.1) ∧ w.grownBy w' (some b)) := by
      have := HN.out
      rw [hv] at this
      exact this
    clear HN hv v5
    have hdd : ∀ m : Nat, ((s.data.toList.drop k).drop m) = s.data.toList.drop (k + m) := fun m => by rw [List.drop_drop]
    rw [hdd]
    generalize (vget (s.data.toList.drop k)).1 = n at *
    generalize (vget (s.data.toList.drop k)).2.1 = m at *
    clear hl hdd
    have hkm : k + m ≤ s.size := by omega
    by_cases hn : s.size - k - m < n
    · rw [if_pos hn]
      go_enter Tryz.func39, Tryz.ntmps39
      go_wp2_with fail
      refine HN2.out.mono ?_
      rintro e w1 ⟨rfl, hc1, hg1⟩
      have HC1 := Lib.hid hc1
      have HG1 := Lib.hid hg1
      clear hc1 hg1
      go_wp2_with fail
      refine (cur_take_no b s (k + m) (n : Int) w1 HC1.out (by omega) (by omega)).mono ?_
      rintro e w2 ⟨rfl, hb2⟩
      have HC2 : Hid (Cur w2 b s (k + m)) := ⟨HC1.out.1.below hb2 HC1.out.1.lt, HC1.out.2⟩
      have HG2 := Lib.hid (grown_trans HG1.out (grown_of_below hb2 (some b)) fun x e _ => e)
      clear hb2
      go_wp2_with fail
      go_ret2
      exact ⟨k + m, rfl, HC2.out, fun h => by simp at h, HG2.out⟩
    · rw [if_neg hn]
      have hex : s.extract (k + m) (k + m + (n : Int).toNat) = txt ((s.data.toList.drop (k + m)).take n) := by
        refine txt_eq ?_
        rw [ext_list]
        congr 1
        omega
      have HEX := Lib.hid hex
      clear hex
      go_enter Tryz.func39, Tryz.ntmps39
      go_wp2_with fail
      refine HN2.out.mono ?_
      rintro e w1 ⟨rfl, hc1, hg1⟩
      have HC1 := Lib.hid hc1
      have HG1 := Lib.hid hg1
      clear hc1 hg1
      go_wp2_with fail
      refine (cur_take_yes b s (k + m) (n : Int) w1 HC1.out (by omega) (by omega)).mono ?_
      rintro e w2 ⟨rfl, hc2, hg2⟩
      rw [HEX.out, Int.toNat_natCast] at *
      have HC2 := Lib.hid hc2
      have HG2 := Lib.hid (grown_trans HG1.out hg2 fun x e _ => e)
      clear hc2 hg2 HEX
      go_wp2_with fail
      go_ret2
      exact ⟨k + m + n, rfl, HC2.out, fun _ => by omega, HG2.out⟩
  · have hve := vget_err hv
    rw [if_pos hv]
    have hvi : (((vget (s.data.toList.drop k)).2.2 : Int) != 0) = true := by rw [bne_iff_ne]; omega
    generalize (vget (s.data.toList.drop k)).2.2 = g at *
    clear hl hve
    go_enter Tryz.func39, Tryz.ntmps39
    go_wp2_with fail
    refine HN.out.mono ?_
    rintro e w1 ⟨rfl, hc1, hg1⟩
    have HC1 := Lib.hid hc1
    have HG1 := Lib.hid hg1
    clear hc1 hg1
    go_wp2_with fail
    go_ret2
    exact ⟨_, rfl, HC1.out, fun h => absurd h hv, HG1.out⟩
theorem etext_nil (w : World) : Calls Tryz.prog 39 #[.pointer none] w fun e w' => e = .returned (.tuple #[.string ByteArray.empty, .int .i64 25]) ∧ Below w.heap.size w w' := by
  go_enter Tryz.func39, Tryz.ntmps39
  go_wp2_with fail
  refine (next_nil _).mono ?_
  rintro e w1 ⟨rfl, hb1⟩
  go_wp2_with fail
  go_ret2
  exact ⟨rfl, hb1⟩
theorem etx_size (s : ByteArray) (k : Nat) : (etx (s.data.toList.drop k)).1.length ≤ s.size := by
  unfold etx
  split
  · simp
  · split
    · simp
    · rw [List.length_take, List.length_drop, List.length_drop, len_list]; omega
/-- The end of reading an entry. -/
def ENextEnd (w : World) (b : Nat) (s : ByteArray) (k : Nat) (e : Ending) (w' : World) : Prop :=
  ∃ k' : Nat, e = .returned (.tuple #[.agg #[.string (txt (enx echk (s.data.toList.drop k)).1.1), .string (txt (enx echk (s.data.toList.drop k)).1.2)], .int .i64 (enx echk (s.data.toList.drop k)).2.2]) ∧ Cur w' b s k' ∧ ((enx echk (s.data.toList.drop k)).2.2 = 0 → k' = k + (enx echk (s.data.toList.drop k)).2.1) ∧ w.grownBy w' (some b)
theorem res_two (w : World) (r : Nat) (v0 v1 : Value) : Tch (fun j => j = r) w ((w.setCell ⟨r, 0, none⟩ v0).setCell ⟨r, 1, none⟩ v1) :=
  ((Tch.refl (fun j => j = r) w).put (p := ⟨r, 0, none⟩) (fun _ => rfl) v0).put (p := ⟨r, 1, none⟩) (fun _ => rfl) v1
theorem tch_grown {w w1 w2 : World} {b r : Nat} (hg : w.grownBy w1 (some b)) (hr : w.heap.size ≤ r) (ht : Tch (fun j => j = r) w1 w2) : w.grownBy w2 (some b) :=
  ⟨ht.os.trans hg.os, ht.tape.trans hg.tape, ht.output.trans hg.output, Nat.le_trans hg.size ht.size, fun k hk hne => (ht.block k (Nat.lt_of_lt_of_le hk hg.size) (by omega)).trans (hg.block k hk hne)⟩
theorem enext_any (W0 : World) (hT : Tabs W0) (b : Nat) (s : ByteArray) (k : Nat) (w : World) (h0 : Below W0.heap.size W0 w) (hWb : W0.heap.size ≤ b) (h : Cur w b s k) :
    Calls Tryz.prog 10 #[.pointer (some ⟨b, 0, none⟩)] w (ENextEnd w b s k) := by
  have hbl := h.1.lt
  have hss := h.2.2
  have hx := BlkAt.made w 23 #[.string ⟨#[]⟩, .string ⟨#[]⟩]
  have HX := Lib.hid hx
  have hg0 := grown_of_below (ba (a := w) b0 (.cells #[.string ⟨#[]⟩, .string ⟨#[]⟩] 23)) (some b)
  have HG0 := Lib.hid hg0
  have HT1 := Lib.hid (etext_any b s k (w.alloc (.cells #[.string ⟨#[]⟩, .string ⟨#[]⟩] 23)) ⟨h.1.more _, h.2⟩)
  have H0 := Lib.hid h0
  have HT := Lib.hid hT
  have hsz1 := etx_size s k
  clear hx hg0 h h0 hT
  generalize hX : enx echk (s.data.toList.drop k) = X
  have HXX := Lib.hid hX
  have HEND : Hid (∀ (e : Ending) (k' : Nat) (w1 w' : World), e = .returned (.tuple #[.agg #[.string (txt X.1.1), .string (txt X.1.2)], .int .i64 X.2.2]) → Cur w1 b s k' → (X.2.2 = 0 → k' = k + X.2.1) → w.grownBy w1 (some b) → Tch (fun j => j = w.heap.size) w1 w' → ENextEnd w b s k e w') := fun e k' w1 w' he hc hk hg ht => by
    unfold ENextEnd
    rw [hX]
    exact ⟨k', he, ⟨hc.1.tch ht (by omega), hc.2⟩, hk, tch_grown hg (Nat.le_refl _) ht⟩
  unfold enx at hX
  clear hX
  have hX := HXX.out
  unfold enx at hX
  clear HXX
  go_enter Tryz.func10, Tryz.ntmps10
  go_wp2_with fail
  refine HT1.out.mono ?_
  rintro e w1 ⟨k1, rfl, hc1, hk1, hg1⟩
  have HC1 := Lib.hid hc1
  have hgw1 := grown_trans HG0.out hg1 fun x e _ => e
  have HG1 := Lib.hid hgw1
  have hx1 := HX.out.step hg1 (by intro e; injection e with e; omega)
  have HX1 := Lib.hid hx1
  have c0 := hx1.cell 0
  have c1 := hx1.cell 1
  have f0 := hx1.free 0
  have f1 := hx1.free 1
  simp at c0 c1
  have hlw := hx1.lt
  clear hc1 hg1 hgw1 hx1 HT1
  by_cases he1 : (etx (s.data.toList.drop k)).2.2 = 0
  · rw [if_neg (by rw [he1]; simp)] at hX
    obtain rfl := hk1 he1
    have hdd : (s.data.toList.drop k).drop (etx (s.data.toList.drop k)).2.1 = s.data.toList.drop (k + (etx (s.data.toList.drop k)).2.1) := by rw [List.drop_drop]
    rw [hdd] at hX
    have HT2 := Lib.hid (etext_any b s (k + (etx (s.data.toList.drop k)).2.1) w1 HC1.out)
    have hsz2 := etx_size s (k + (etx (s.data.toList.drop k)).2.1)
    rw [he1]
    clear hk1 hdd he1
    unfold ETextEnd at HT2
    generalize (etx (s.data.toList.drop k)).1 = K at *
    generalize hk1e : k + (etx (s.data.toList.drop k)).2.1 = k1 at *
    have HK1E := Lib.hid hk1e
    clear hk1e
    generalize etx (s.data.toList.drop k1) = Y at *
    clear c0 c1 f0 f1 hlw
    go_wp2_with fail
    refine HT2.out.mono ?_
    rintro e w2 ⟨k2, rfl, hc2, hk2, hg2⟩
    have HC2 := Lib.hid hc2
    have HG2 := Lib.hid (grown_trans HG1.out hg2 fun x e _ => e)
    have hx2 := HX1.out.step hg2 (by intro e; injection e with e; omega)
    have HX2 := Lib.hid hx2
    have c0 := hx2.cell 0
    have c1 := hx2.cell 1
    have f0 := hx2.free 0
    have f1 := hx2.free 1
    simp at c0 c1
    have hlw := hx2.lt
    clear hc2 hg2 hx2 HT2 HX1
    by_cases he2 : Y.2.2 = 0
    · rw [if_neg (by rw [he2]; simp)] at hX
      obtain rfl := hk2 he2
      rw [he2]
      have hbe := BlkAt.made w2 23 #[.string (txt K), .string (txt Y.1)]
      have HBE := Lib.hid hbe
      have HCK := Lib.hid (echeck_any (txt K) (txt Y.1) (w2.alloc (.cells #[.string (txt K), .string (txt Y.1)] 23)) (by rw [txt_size]; omega) (by rw [txt_size]; omega) (HT.out.below (ba (bg H0.out HG2.out hWb) _)))
      rw [txt_list, txt_list] at HCK
      have HXB := Lib.hid (HX2.out.more (.cells #[.string (txt K), .string (txt Y.1)] 23))
      clear c0 c1 f0 f1 hlw hbe HX2 hk2 he2
      by_cases hce : echk K Y.1 = 0
      · rw [if_neg (by simpa using hce)] at hX
        subst hX
        have HE : Hid (∀ (w3 w' : World), Below (w2.alloc (.cells #[.string (txt K), .string (txt Y.1)] 23)).heap.size (w2.alloc (.cells #[.string (txt K), .string (txt Y.1)] 23)) w3 → Tch (fun j => j = w.heap.size) w3 w' → ENextEnd w b s k (.returned (.tuple #[.agg #[.string (txt K), .string (txt Y.1)], .int .i64 0])) w') := fun w3 w' hb3 ht => by
          have hb := bb (ba (a := w2) b0 (.cells #[.string (txt K), .string (txt Y.1)] 23)) hb3
          exact HEND.out _ (k1 + Y.2.1) w3 w' rfl ⟨HC2.out.1.below hb HC2.out.1.lt, HC2.out.2⟩ (fun _ => by have := HK1E.out; simp only; omega) (grown_trans HG2.out (grown_of_below hb (some b)) fun x e _ => e) ht
        rw [hce] at HCK
        clear hce HEND
        go_wp2_with fail
        refine HCK.out.mono ?_
        rintro e w3 ⟨rfl, hb3⟩
        have HE3 : Hid (∀ w', Tch (fun j => j = w.heap.size) w3 w' → ENextEnd w b s k (.returned (.tuple #[.agg #[.string (txt K), .string (txt Y.1)], .int .i64 0])) w') := fun w' ht => HE.out w3 w' hb3 ht
        have hx3 := HXB.out.below hb3 HXB.out.lt
        have hy3 := HBE.out.below hb3 HBE.out.lt
        have e0 := hy3.cell 0
        have e1 := hy3.cell 1
        simp at e0 e1
        have c0 := hx3.cell 0
        have c1 := hx3.cell 1
        have f0 := hx3.free 0
        have f1 := hx3.free 1
        simp at c0 c1
        have hlw := hx3.lt
        clear hx3 hy3 hb3 HE
        go_wp2_with fail
        refine bodyPost_ret (v := .tuple #[.agg #[.string (txt K), .string (txt Y.1)], .int .i64 0]) (by simp [results, Tryz.results10, go_sem, c0, c1]; try rfl) rfl (HE3.out _ (res_two _ _ _ _))
      · rw [if_pos (by simpa using hce)] at hX
        subst hX
        have HE : Hid (∀ (w3 w' : World), Below (w2.alloc (.cells #[.string (txt K), .string (txt Y.1)] 23)).heap.size (w2.alloc (.cells #[.string (txt K), .string (txt Y.1)] 23)) w3 → Tch (fun j => j = w.heap.size) w3 w' → ENextEnd w b s k (.returned (.tuple #[.agg #[.string ByteArray.empty, .string ByteArray.empty], .int .i64 (echk K Y.1)])) w') := fun w3 w' hb3 ht => by
          have hb := bb (ba (a := w2) b0 (.cells #[.string (txt K), .string (txt Y.1)] 23)) hb3
          exact HEND.out _ (k1 + Y.2.1) w3 w' rfl ⟨HC2.out.1.below hb HC2.out.1.lt, HC2.out.2⟩ (fun h => absurd h hce) (grown_trans HG2.out (grown_of_below hb (some b)) fun x e _ => e) ht
        have hcei : (echk K Y.1 != 0) = true := by rw [bne_iff_ne]; exact hce
        generalize echk K Y.1 = C at *
        clear hce HEND
        go_wp2_with fail
        refine HCK.out.mono ?_
        rintro e w3 ⟨rfl, hb3⟩
        have HE3 : Hid (∀ w', Tch (fun j => j = w.heap.size) w3 w' → ENextEnd w b s k (.returned (.tuple #[.agg #[.string ByteArray.empty, .string ByteArray.empty], .int .i64 C])) w') := fun w' ht => HE.out w3 w' hb3 ht
        have hx3 := HXB.out.below hb3 HXB.out.lt
        have c0 := hx3.cell 0
        have c1 := hx3.cell 1
        have f0 := hx3.free 0
        have f1 := hx3.free 1
        simp at c0 c1
        have hlw := hx3.lt
        clear hx3 hb3 HE
        go_wp2_with fail
        refine bodyPost_ret (v := .tuple #[.agg #[.string ByteArray.empty, .string ByteArray.empty], .int .i64 C]) (by simp [results, Tryz.results10, go_sem, c0, c1]; try rfl) rfl (HE3.out _ (res_two _ _ _ _))
    · rw [if_pos he2] at hX
      subst hX
      have HE : Hid (∀ w', Tch (fun j => j = w.heap.size) w2 w' → ENextEnd w b s k (.returned (.tuple #[.agg #[.string ByteArray.empty, .string ByteArray.empty], .int .i64 (Y.2.2 : Int)])) w') := fun w' ht => HEND.out _ k2 w2 w' rfl HC2.out (fun h => by simp at h; exact absurd h he2) HG2.out ht
      have hte : ((Y.2.2 : Int) != 0) = true := by rw [bne_iff_ne]; omega
      generalize Y.2.2 = G at *
      clear he2 hk2 HEND
      go_wp2_with fail
      refine bodyPost_ret (v := .tuple #[.agg #[.string ByteArray.empty, .string ByteArray.empty], .int .i64 (G : Int)]) (by simp [results, Tryz.results10, go_sem, c0, c1]; try rfl) rfl (HE.out _ (res_two _ _ _ _))
  · rw [if_pos he1] at hX
    subst hX
    have HE : Hid (∀ w', Tch (fun j => j = w.heap.size) w1 w' → ENextEnd w b s k (.returned (.tuple #[.agg #[.string ByteArray.empty, .string ByteArray.empty], .int .i64 ((etx (s.data.toList.drop k)).2.2 : Int)])) w') := fun w' ht => HEND.out _ k1 w1 w' rfl HC1.out (fun h => by simp at h; exact absurd h he1) HG1.out ht
    have hte : ((((etx (s.data.toList.drop k)).2.2 : Nat) : Int) != 0) = true := by rw [bne_iff_ne]; omega
    generalize (etx (s.data.toList.drop k)).2.2 = G at *
    clear he1 hk1 HEND
    go_wp2_with fail
    refine bodyPost_ret (v := .tuple #[.agg #[.string ByteArray.empty, .string ByteArray.empty], .int .i64 (G : Int)]) (by simp [results, Tryz.results10, go_sem, c0, c1]; try rfl) rfl (HE.out _ (res_two _ _ _ _))
end Go.Proofs.YtigbifiicbghpaaGreatDoor
end

section
/-
  Fields as one inductive, and how they lie in memory (five cells a field; a field's own fields are a slice in its fifth cell). Plain theorems, over any program.
-/
namespace Go.PM
open Go.RowKit

/-- A list of fields: the first one's tag, type, number, text, its own fields; the others. -/
inductive Fs where
  | nil : Fs
  | cons (tag : Nat) (ty : Int) (num : Nat) (text : ByteArray) (inner rest : Fs) : Fs
namespace Fs
def len : Fs → Nat
  | nil => 0
  | cons _ _ _ _ _ r => r.len + 1
/-- How many fields there are, with those of all lists. -/
def count : Fs → Nat
  | nil => 0
  | cons _ _ _ _ i r => 1 + i.count + r.count
def app : Fs → Fs → Fs
  | nil, g => g
  | cons t y n s i r, g => cons t y n s i (r.app g)
theorem app_nil : ∀ f : Fs, f.app nil = f
  | nil => rfl
  | cons t y n s i r => by rw [app, app_nil r]
theorem app_len : ∀ f g : Fs, (f.app g).len = f.len + g.len
  | nil, g => by simp [app, len]
  | cons t y n s i r, g => by rw [app, len, len, app_len r g]; omega
theorem app_count : ∀ f g : Fs, (f.app g).count = f.count + g.count
  | nil, g => by simp [app, count]
  | cons t y n s i r, g => by rw [app, count, count, app_count r g]; omega
theorem app_assoc : ∀ f g h : Fs, (f.app g).app h = f.app (g.app h)
  | nil, _, _ => rfl
  | cons t y n s i r, g, h => by rw [app, app, app, app_assoc r g h]
theorem len_zero : ∀ {f : Fs}, f.len = 0 → f = nil
  | nil, _ => rfl
  | cons .., h => by simp [len] at h
theorem len_count : ∀ f : Fs, f.len ≤ f.count
  | nil => Nat.le_refl _
  | cons t y n s i r => by have := len_count r; rw [len, count]; omega
/-- What holds of each field, everywhere. -/
def All (P : Nat → Int → Nat → ByteArray → Prop) : Fs → Prop
  | nil => True
  | cons t y n s i r => P t y n s ∧ All P i ∧ All P r
theorem All.app {P : Nat → Int → Nat → ByteArray → Prop} : ∀ {f g : Fs}, All P f → All P g → All P (f.app g)
  | nil, _, _, h => h
  | cons .., _, h, h' => ⟨h.1, h.2.1, All.app h.2.2 h'⟩
end Fs

/-- The fields that lie in a block from an offset on; the blocks of their own fields, however deep, meet I. -/
def FsAt (w : World) (I : Nat → Prop) : Fs → Nat → Nat → Prop
  | .nil, _, _ => True
  | .cons t y n s i r, b, o =>
    w.cell? ⟨b, o, none⟩ = some (.int .u64 (t : Int)) ∧ w.cell? ⟨b, o + 1, none⟩ = some (.int .i64 y) ∧ w.cell? ⟨b, o + 2, none⟩ = some (.int .u64 (n : Int)) ∧ w.cell? ⟨b, o + 3, none⟩ = some (.string s) ∧
    (∃ A c, w.cell? ⟨b, o + 4, none⟩ = some (.slice A i.len c) ∧ i.len ≤ c ∧ (i.len = 0 ∨ ∃ b' o', A = some ⟨b', o', none⟩ ∧ I b' ∧ b' < w.heap.size ∧ FsAt w I i b' o')) ∧ FsAt w I r b (o + 5)
/-- A slice that reads as fields. -/
def SlV (w : World) (I : Nat → Prop) (v : Value) (f : Fs) : Prop :=
  ∃ A c, v = .slice A f.len c ∧ f.len ≤ c ∧ (f.len = 0 ∨ ∃ b o, A = some ⟨b, o, none⟩ ∧ I b ∧ b < w.heap.size ∧ FsAt w I f b o)
/-- Cells that are fields. -/
def Cls (w : World) (I : Nat → Prop) : List Value → Fs → Prop
  | [], .nil => True
  | a :: b :: c :: d :: v :: xs, .cons t y n s i r => a = .int .u64 (t : Int) ∧ b = .int .i64 y ∧ c = .int .u64 (n : Int) ∧ d = .string s ∧ SlV w I v i ∧ Cls w I xs r
  | _, _ => False
section
variable {w w' : World} {I J : Nat → Prop}
theorem FsAt.keep (hs : w.heap.size ≤ w'.heap.size) (hI : ∀ k, I k → k < w.heap.size → w'.heap[k]? = w.heap[k]?) : ∀ {f : Fs} {b o : Nat}, w'.heap[b]? = w.heap[b]? → FsAt w I f b o → FsAt w' I f b o
  | .nil, _, _, _, _ => trivial
  | .cons t y n s i r, b, o, hb, h => by
    have e : ∀ j, w'.cell? ⟨b, j, none⟩ = w.cell? ⟨b, j, none⟩ := fun j => World.cell?_of_block (a := ⟨b, j, none⟩) hb
    obtain ⟨h1, h2, h3, h4, ⟨A, c, h5, hc, h6⟩, h7⟩ := h
    refine ⟨(e _).trans h1, (e _).trans h2, (e _).trans h3, (e _).trans h4, ⟨A, c, (e _).trans h5, hc, ?_⟩, FsAt.keep hs hI hb h7⟩
    rcases h6 with h6 | ⟨b', o', hA, hi, hlt, h8⟩
    · exact .inl h6
    · exact .inr ⟨b', o', hA, hi, Nat.lt_of_lt_of_le hlt hs, FsAt.keep hs hI (hI b' hi hlt) h8⟩
theorem FsAt.imp (hJ : ∀ k, I k → J k) : ∀ {f : Fs} {b o : Nat}, FsAt w I f b o → FsAt w J f b o
  | .nil, _, _, _ => trivial
  | .cons t y n s i r, b, o, h => by
    obtain ⟨h1, h2, h3, h4, ⟨A, c, h5, hc, h6⟩, h7⟩ := h
    refine ⟨h1, h2, h3, h4, ⟨A, c, h5, hc, ?_⟩, FsAt.imp hJ h7⟩
    rcases h6 with h6 | ⟨b', o', hA, hi, hlt, h8⟩
    · exact .inl h6
    · exact .inr ⟨b', o', hA, hJ _ hi, hlt, FsAt.imp hJ h8⟩
theorem SlV.keep {v : Value} {f : Fs} (h : SlV w I v f) (hs : w.heap.size ≤ w'.heap.size) (hI : ∀ k, I k → k < w.heap.size → w'.heap[k]? = w.heap[k]?) : SlV w' I v f := by
  obtain ⟨A, c, hv, hc, h⟩ := h
  refine ⟨A, c, hv, hc, h.imp id fun ⟨b, o, hA, hi, hlt, h8⟩ => ⟨b, o, hA, hi, Nat.lt_of_lt_of_le hlt hs, h8.keep hs hI (hI b hi hlt)⟩⟩
theorem SlV.imp {v : Value} {f : Fs} (h : SlV w I v f) (hJ : ∀ k, I k → J k) : SlV w J v f := by
  obtain ⟨A, c, hv, hc, h⟩ := h
  exact ⟨A, c, hv, hc, h.imp id fun ⟨b, o, hA, hi, hlt, h8⟩ => ⟨b, o, hA, hJ _ hi, hlt, h8.imp hJ⟩⟩
theorem SlV.below {v : Value} {f : Fs} (h : SlV w I v f) (hb : Below w.heap.size w w') : SlV w' I v f := h.keep hb.size fun k _ hk => hb.block k hk
theorem SlV.tch {S : Nat → Prop} {v : Value} {f : Fs} (h : SlV w I v f) (hb : Tch S w w') (hS : ∀ k, I k → ¬ S k) : SlV w' I v f := h.keep hb.size fun k hi hk => hb.block k hk (hS k hi)
theorem SlV.nil (w : World) (I : Nat → Prop) (A : Option Addr) (c : Nat) : SlV w I (.slice A 0 c) .nil := ⟨A, c, rfl, Nat.zero_le _, .inl rfl⟩
theorem Cls.keep (hs : w.heap.size ≤ w'.heap.size) (hI : ∀ k, I k → k < w.heap.size → w'.heap[k]? = w.heap[k]?) : ∀ {xs : List Value} {f : Fs}, Cls w I xs f → Cls w' I xs f
  | [], .nil, _ => trivial
  | _ :: _ :: _ :: _ :: _ :: _, .cons .., h => ⟨h.1, h.2.1, h.2.2.1, h.2.2.2.1, h.2.2.2.2.1.keep hs hI, Cls.keep hs hI h.2.2.2.2.2⟩
  | [], .cons .., h => h.elim
  | _ :: _, .nil, h => by simp [Cls] at h
  | [_], .cons .., h => by simp [Cls] at h
  | [_, _], .cons .., h => by simp [Cls] at h
  | [_, _, _], .cons .., h => by simp [Cls] at h
  | [_, _, _, _], .cons .., h => by simp [Cls] at h
theorem Cls.below {xs : List Value} {f : Fs} (h : Cls w I xs f) (hb : Below w.heap.size w w') : Cls w' I xs f := h.keep hb.size fun k _ hk => hb.block k hk
theorem Cls.tch {S : Nat → Prop} {xs : List Value} {f : Fs} (h : Cls w I xs f) (hb : Tch S w w') (hS : ∀ k, I k → ¬ S k) : Cls w' I xs f := h.keep hb.size fun k hi hk => hb.block k hk (hS k hi)
theorem Cls.imp (hJ : ∀ k, I k → J k) : ∀ {xs : List Value} {f : Fs}, Cls w I xs f → Cls w J xs f
  | [], .nil, _ => trivial
  | _ :: _ :: _ :: _ :: _ :: _, .cons .., h => ⟨h.1, h.2.1, h.2.2.1, h.2.2.2.1, h.2.2.2.2.1.imp hJ, Cls.imp hJ h.2.2.2.2.2⟩
  | [], .cons .., h => h.elim
  | _ :: _, .nil, h => by simp [Cls] at h
  | [_], .cons .., h => by simp [Cls] at h
  | [_, _], .cons .., h => by simp [Cls] at h
  | [_, _, _], .cons .., h => by simp [Cls] at h
  | [_, _, _, _], .cons .., h => by simp [Cls] at h
theorem Cls.length : ∀ {xs : List Value} {f : Fs}, Cls w I xs f → xs.length = 5 * f.len
  | [], .nil, _ => rfl
  | _ :: _ :: _ :: _ :: _ :: xs, .cons _ _ _ _ _ r, h => by
    have := Cls.length h.2.2.2.2.2
    simp only [List.length_cons, Fs.len]
    omega
  | [], .cons .., h => h.elim
  | _ :: _, .nil, h => by simp [Cls] at h
  | [_], .cons .., h => by simp [Cls] at h
  | [_, _], .cons .., h => by simp [Cls] at h
  | [_, _, _], .cons .., h => by simp [Cls] at h
  | [_, _, _, _], .cons .., h => by simp [Cls] at h
theorem Cls.app : ∀ {xs ys : List Value} {f g : Fs}, Cls w I xs f → Cls w I ys g → Cls w I (xs ++ ys) (f.app g)
  | [], _, .nil, _, _, h => h
  | _ :: _ :: _ :: _ :: _ :: _, _, .cons .., _, h, h' => ⟨h.1, h.2.1, h.2.2.1, h.2.2.2.1, h.2.2.2.2.1, Cls.app h.2.2.2.2.2 h'⟩
  | [], _, .cons .., _, h, _ => h.elim
  | _ :: _, _, .nil, _, h, _ => by simp [Cls] at h
  | [_], _, .cons .., _, h, _ => by simp [Cls] at h
  | [_, _], _, .cons .., _, h, _ => by simp [Cls] at h
  | [_, _, _], _, .cons .., _, h, _ => by simp [Cls] at h
  | [_, _, _, _], _, .cons .., _, h, _ => by simp [Cls] at h
/-- Cells that are fields, where they lie. -/
theorem Cls.at_ : ∀ {xs : List Value} {f : Fs} {b o : Nat}, Cls w I xs f → (∀ j u, xs[j]? = some u → w.cell? ⟨b, o + j, none⟩ = some u) → FsAt w I f b o
  | [], .nil, _, _, _, _ => trivial
  | x0 :: x1 :: x2 :: x3 :: v :: xs, .cons t y n s i r, b, o, h, hc => by
    obtain ⟨rfl, rfl, rfl, rfl, ⟨A, c, rfl, h5, h6⟩, h7⟩ := h
    refine ⟨hc 0 _ rfl, hc 1 _ rfl, hc 2 _ rfl, hc 3 _ rfl, ⟨A, c, hc 4 _ rfl, h5, h6⟩, Cls.at_ h7 fun j u hj => ?_⟩
    rw [Nat.add_assoc, Nat.add_comm 5 j]
    exact hc (j + 5) u hj
  | [], .cons .., _, _, h, _ => h.elim
  | _ :: _, .nil, _, _, h, _ => by simp [Cls] at h
  | [_], .cons .., _, _, h, _ => by simp [Cls] at h
  | [_, _], .cons .., _, _, h, _ => by simp [Cls] at h
  | [_, _, _], .cons .., _, _, h, _ => by simp [Cls] at h
  | [_, _, _, _], .cons .., _, _, h, _ => by simp [Cls] at h
/-- What lies there, as cells. -/
theorem FsAt.cls : ∀ {f : Fs} {b o : Nat}, FsAt w I f b o → ∃ xs, Cls w I xs f ∧ ∀ j u, xs[j]? = some u → w.cell? ⟨b, o + j, none⟩ = some u
  | .nil, _, _, _ => ⟨[], trivial, by simp⟩
  | .cons t y n s i r, b, o, h => by
    obtain ⟨h1, h2, h3, h4, ⟨A, c, h5, hc, h6⟩, h7⟩ := h
    obtain ⟨xs, hx, hx2⟩ := FsAt.cls h7
    refine ⟨.int .u64 (t : Int) :: .int .i64 y :: .int .u64 (n : Int) :: .string s :: .slice A i.len c :: xs, ⟨rfl, rfl, rfl, rfl, ⟨A, c, rfl, hc, h6⟩, hx⟩, fun j u hj => ?_⟩
    match j, hj with
    | 0, hj => injection hj with hj; subst hj; exact h1
    | 1, hj => injection hj with hj; subst hj; exact h2
    | 2, hj => injection hj with hj; subst hj; exact h3
    | 3, hj => injection hj with hj; subst hj; exact h4
    | 4, hj => injection hj with hj; subst hj; exact h5
    | j + 5, hj =>
      have := hx2 j u hj
      rw [Nat.add_assoc, Nat.add_comm 5 j] at this
      exact this
end
/-- The k-th field, and those from there on. -/
def Fs.drop : Fs → Nat → Fs
  | f, 0 => f
  | .nil, _ + 1 => .nil
  | .cons _ _ _ _ _ r, k + 1 => r.drop k
def Fs.take : Fs → Nat → Fs
  | _, 0 => .nil
  | .nil, _ + 1 => .nil
  | .cons t y n s i r, k + 1 => .cons t y n s i (r.take k)
theorem Fs.drop_len : ∀ (f : Fs) (k : Nat), (f.drop k).len = f.len - k
  | f, 0 => by cases f <;> rfl
  | .nil, _ + 1 => by simp [Fs.drop, Fs.len]
  | .cons _ _ _ _ _ r, k + 1 => by rw [Fs.drop, Fs.drop_len r k, Fs.len]; omega
theorem Fs.drop_cons : ∀ (f : Fs) (k : Nat), k < f.len → ∃ t y n s i, f.drop k = .cons t y n s i (f.drop (k + 1)) ∧ f.take (k + 1) = (f.take k).app (.cons t y n s i .nil)
  | .cons t y n s i r, 0, _ => ⟨t, y, n, s, i, by cases r <;> rfl, by cases r <;> rfl⟩
  | .cons t y n s i r, k + 1, h => by
    obtain ⟨t', y', n', s', i', h1, h2⟩ := Fs.drop_cons r k (by simp [Fs.len] at h; omega)
    exact ⟨t', y', n', s', i', h1, by rw [Fs.take, h2]; rfl⟩
theorem Fs.take_all : ∀ (f : Fs) (k : Nat), f.len ≤ k → f.take k = f
  | .nil, 0, _ => rfl
  | .nil, _ + 1, _ => rfl
  | .cons .., 0, h => by simp [Fs.len] at h
  | .cons t y n s i r, k + 1, h => by rw [Fs.take, Fs.take_all r k (by simp [Fs.len] at h; omega)]
theorem Fs.take_len : ∀ (f : Fs) (k : Nat), k ≤ f.len → (f.take k).len = k
  | f, 0, _ => by cases f <;> rfl
  | .nil, _ + 1, h => by simp [Fs.len] at h
  | .cons t y n s i r, k + 1, h => by rw [Fs.take, Fs.len, Fs.take_len r k (by simp [Fs.len] at h; omega)]
theorem Fs.take_count : ∀ (f : Fs) (k : Nat), (f.take k).count ≤ f.count
  | f, 0 => by cases f <;> simp [Fs.take, Fs.count]
  | .nil, _ + 1 => Nat.le_refl _
  | .cons t y n s i r, k + 1 => by have := Fs.take_count r k; rw [Fs.take, Fs.count, Fs.count]; omega
theorem FsAt.drop {w : World} {I : Nat → Prop} : ∀ {f : Fs} {b o : Nat} (k : Nat), FsAt w I f b o → FsAt w I (f.drop k) b (o + k * 5)
  | f, b, o, 0, h => by cases f <;> simpa [Fs.drop] using h
  | .nil, _, _, _ + 1, _ => trivial
  | .cons t y n s i r, b, o, k + 1, h => by
    have := FsAt.drop k h.2.2.2.2.2
    rw [show o + 5 + k * 5 = o + (k + 1) * 5 by omega] at this
    exact this
theorem FsAt.lt {w : World} {I : Nat → Prop} : ∀ {f : Fs} {b o : Nat}, FsAt w I f b o → FsAt w (fun k => I k ∧ k < w.heap.size) f b o
  | .nil, _, _, _ => trivial
  | .cons t y n s i r, b, o, h => by
    obtain ⟨h1, h2, h3, h4, ⟨A, c, h5, hc, h6⟩, h7⟩ := h
    refine ⟨h1, h2, h3, h4, ⟨A, c, h5, hc, ?_⟩, FsAt.lt h7⟩
    rcases h6 with h6 | ⟨b', o', hA, hi, hlt, h8⟩
    · exact .inl h6
    · exact .inr ⟨b', o', hA, ⟨hi, hlt⟩, hlt, FsAt.lt h8⟩
theorem SlV.lt {w : World} {I : Nat → Prop} {v : Value} {f : Fs} (h : SlV w I v f) : SlV w (fun k => I k ∧ k < w.heap.size) v f := by
  obtain ⟨A, c, hv, hc, h⟩ := h
  exact ⟨A, c, hv, hc, h.imp id fun ⟨b, o, hA, hi, hlt, h8⟩ => ⟨b, o, hA, ⟨hi, hlt⟩, hlt, h8.lt⟩⟩
theorem Cls.lt {w : World} {I : Nat → Prop} : ∀ {xs : List Value} {f : Fs}, Cls w I xs f → Cls w (fun k => I k ∧ k < w.heap.size) xs f
  | [], .nil, _ => trivial
  | _ :: _ :: _ :: _ :: _ :: _, .cons .., h => ⟨h.1, h.2.1, h.2.2.1, h.2.2.2.1, h.2.2.2.2.1.lt, Cls.lt h.2.2.2.2.2⟩
  | [], .cons .., h => h.elim
  | _ :: _, .nil, h => by simp [Cls] at h
  | [_], .cons .., h => by simp [Cls] at h
  | [_, _], .cons .., h => by simp [Cls] at h
  | [_, _, _], .cons .., h => by simp [Cls] at h
  | [_, _, _, _], .cons .., h => by simp [Cls] at h
/-- Fields behind an append to their row. -/
theorem Cls.grow {wq w3 : World} {base g : Nat} {v : Value} {xs : List Value} {f : Fs} (h : Cls wq (fun k => base ≤ k ∧ v.ownBlock ≠ some k) xs f) (hg : wq.grownBy w3 v.ownBlock) (hat : v.ownBlock = some g ∨ g = wq.heap.size) :
    Cls w3 (fun k => base ≤ k ∧ some g ≠ some k) xs f := by
  have h2 := Cls.tch (S := fun k => v.ownBlock = some k) h.lt (Tch.grown hg fun k hk _ => hk) fun k hk => hk.1.2
  refine h2.imp fun k hk => ⟨hk.1.1, fun e => ?_⟩
  injection e with e
  subst e
  rcases hat with h | h
  · exact hk.1.2 h
  · have := hk.2; omega
theorem BlkAt.news {w : World} {g : Nat} {t : TypeId} {cs : Array Value} (h : BlkAt w g t cs) : ∀ j u, cs.toList[j]? = some u → w.cell? ((⟨g, 0, none⟩ : Addr).add j) = some u := by
  intro j u hj
  rw [add_at, h.cell j, ← Array.getElem?_toList]
  exact hj
theorem Fs.All.imp {P Q : Nat → Int → Nat → ByteArray → Prop} (h : ∀ t y n s, P t y n s → Q t y n s) : ∀ {f : Fs}, f.All P → f.All Q
  | .nil, _ => trivial
  | .cons .., hf => ⟨h _ _ _ _ hf.1, Fs.All.imp h hf.2.1, Fs.All.imp h hf.2.2⟩
theorem Fs.All.drop {P : Nat → Int → Nat → ByteArray → Prop} : ∀ {f : Fs} (k : Nat), f.All P → (f.drop k).All P
  | f, 0, h => by cases f <;> exact h
  | .nil, _ + 1, _ => trivial
  | .cons .., k + 1, h => Fs.All.drop k h.2.2
theorem Fs.drop_count : ∀ (f : Fs) (k : Nat), (f.drop k).count ≤ f.count
  | f, 0 => by cases f <;> exact Nat.le_refl _
  | .nil, _ + 1 => Nat.le_refl _
  | .cons _ _ _ _ _ r, k + 1 => by have := Fs.drop_count r k; rw [Fs.drop, Fs.count]; omega
end Go.PM
end

section
/-
  What the statements of layer 8 make trees of: a list of 'One's as it lies in memory; whether they are few; what 'from' makes of it. Conditions: numbers within their kinds.
-/
namespace Go.PM
open Go.RowKit
structure One where
  deep : Nat
  tag : Nat
  ty : Int
  num : Nat
  text : ByteArray
/-- Within their kinds. -/
def One.ok (x : One) : Prop := x.deep < 256 ∧ In64 x.tag ∧ (-128 ≤ x.ty ∧ x.ty ≤ 127) ∧ In64 x.num ∧ x.text.size ≤ 9223372036854775807
def OnesAt (w : World) (b o : Nat) (l : List One) : Prop := ∀ j x, l[j]? = some x →
  w.cell? ⟨b, o + j * 5, none⟩ = some (.int .u8 (x.deep : Int)) ∧ w.cell? ⟨b, o + j * 5 + 1, none⟩ = some (.int .u64 (x.tag : Int)) ∧ w.cell? ⟨b, o + j * 5 + 2, none⟩ = some (.int .i8 x.ty) ∧
  w.cell? ⟨b, o + j * 5 + 3, none⟩ = some (.int .u64 (x.num : Int)) ∧ w.cell? ⟨b, o + j * 5 + 4, none⟩ = some (.string x.text)
/-- A slice that reads so; it lies below H. -/
def OnesRd (H : Nat) (w : World) (A : Option Addr) (l : List One) : Prop := l = [] ∨ ∃ b o, A = some ⟨b, o, none⟩ ∧ b < H ∧ H ≤ w.heap.size ∧ OnesAt w b o l
theorem OnesAt.below {w w' : World} {b o : Nat} {l : List One} (h : OnesAt w b o l) (hb : Below w.heap.size w w') (hlt : b < w.heap.size) : OnesAt w' b o l := fun j x hj => by
  have e : ∀ k, w'.cell? ⟨b, k, none⟩ = w.cell? ⟨b, k, none⟩ := fun k => World.cell?_of_block (a := ⟨b, k, none⟩) (hb.block b hlt)
  obtain ⟨h1, h2, h3, h4, h5⟩ := h j x hj
  exact ⟨(e _).trans h1, (e _).trans h2, (e _).trans h3, (e _).trans h4, (e _).trans h5⟩
theorem OnesRd.below {H : Nat} {w w' : World} {A : Option Addr} {l : List One} (h : OnesRd H w A l) (hb : Below w.heap.size w w') : OnesRd H w' A l :=
  h.imp id fun ⟨b, o, hA, hlt, hH, h⟩ => ⟨b, o, hA, hlt, Nat.le_trans hH hb.size, h.below hb (Nat.lt_of_lt_of_le hlt hH)⟩
theorem OnesRd.belowB {H : Nat} {w w' : World} {A : Option Addr} {l : List One} (h : OnesRd H w A l) (hb : Below H w w') : OnesRd H w' A l :=
  h.imp id fun ⟨b, o, hA, hlt, hH, h⟩ => ⟨b, o, hA, hlt, Nat.le_trans hH hb.size, fun j x hj => by
    have e : ∀ k, w'.cell? ⟨b, k, none⟩ = w.cell? ⟨b, k, none⟩ := fun k => World.cell?_of_block (a := ⟨b, k, none⟩) (hb.block b hlt)
    obtain ⟨h1, h2, h3, h4, h5⟩ := h j x hj
    exact ⟨(e _).trans h1, (e _).trans h2, (e _).trans h3, (e _).trans h4, (e _).trans h5⟩⟩
def few (l : List One) : Bool := l.all (fun x => decide (x.text.size ≤ 300)) && decide (l.length ≤ 60)
end Go.PM
namespace Go.Proofs.YtigbifiicbghpaaGreatDoor
open Go.RowKit Go.PM
set_option maxRecDepth 100000
set_option maxHeartbeats 1000000

end Go.Proofs.YtigbifiicbghpaaGreatDoor
end

section
/-
  What 'from' makes of a list of 'One's: fields. Conditions: numbers within their kinds; at most 60, of texts of 300 bytes.
-/
namespace Go.Proofs.YtigbifiicbghpaaGreatDoor
open Go.RowKit Go.PM
set_option maxRecDepth 100000
set_option maxHeartbeats 2000000
attribute [local go_sem ↓] Go.wp_at_zero Go.wp_at_succ

/-- What holds of each field that was made. -/
def FOk (t : Nat) (y : Int) (n : Nat) (s : ByteArray) : Prop := In64 t ∧ (-128 ≤ y ∧ y ≤ 127) ∧ In64 n ∧ s.size ≤ 300
def FromEnd (H : Nat) (w : World) (l : List One) (deep : Nat) (e : Ending) (w' : World) : Prop :=
  ∃ (f : Fs) (A : Option Addr) (c : Nat) (A' : Option Addr) (c' : Nat), e = .returned (.tuple #[.slice A f.len c, .slice A' (l.length - f.count) c']) ∧ f.count ≤ l.length ∧ (deep = 0 → f.count = l.length) ∧ f.All FOk ∧
    SlV w' (w.heap.size ≤ ·) (.slice A f.len c) f ∧ OnesRd H w' A' (l.drop f.count) ∧ l.length - f.count ≤ c' ∧ c' ≤ 9223372036854775807 ∧ Below w.heap.size w w'
/-- Where the loop of 'from' stands: the fields so far, and what is left. -/
def FromAt (H : Nat) (w : World) (l : List One) (sl out : Value) (wr : World) : Prop :=
  ∃ (f : Fs) (A' : Option Addr) (c' : Nat) (xs : List Value), sl = .slice A' (l.length - f.count) c' ∧ f.count ≤ l.length ∧ f.All FOk ∧ wr.ownsRow w.heap.size 106 5 out f.len xs ∧
    Cls wr (fun k => w.heap.size ≤ k ∧ out.ownBlock ≠ some k) xs f ∧ OnesRd H wr A' (l.drop f.count) ∧ l.length - f.count ≤ c' ∧ c' ≤ 9223372036854775807 ∧ Below w.heap.size w wr
theorem from_step {H : Nat} {w wq w3 : World} {l : List One} {f fi : Fs} {xs : List Value} {out vi : Value} {xt xn g cap3 c2 : Nat} {xy : Int} {xs' : ByteArray} {A2 : Option Addr} (hHw : H ≤ w.heap.size) (hfo : f.All FOk)
    (hcls : Cls wq (fun k => w.heap.size ≤ k ∧ out.ownBlock ≠ some k) xs f) (hout : ∀ k, out.ownBlock = some k → w.heap.size ≤ k) (hbel : Below w.heap.size w wq)
    (hown3 : w3.ownsRow w.heap.size 106 5 (.slice (some ⟨g, 0, none⟩) (f.len + 1) cap3) (f.len + 1) (xs ++ [.int .u64 (xt : Int), .int .i64 xy, .int .u64 (xn : Int), .string xs', vi]))
    (hg3 : wq.grownBy w3 out.ownBlock) (hat : out.ownBlock = some g ∨ g = wq.heap.size) (hi : SlV wq (fun k => w.heap.size ≤ k ∧ out.ownBlock ≠ some k) vi fi) (hok : FOk xt xy xn xs') (hfi : fi.All FOk)
    (hcnt : f.count + 1 + fi.count ≤ l.length) (hrd : OnesRd H wq A2 (l.drop (f.count + 1 + fi.count))) (hc2 : l.length - (f.count + 1 + fi.count) ≤ c2) (hcc : c2 ≤ 9223372036854775807) :
    FromAt H w l (.slice A2 (l.length - (f.count + 1 + fi.count)) c2) (.slice (some ⟨g, 0, none⟩) (f.len + 1) cap3) w3 := by
  have hcnt2 : (f.app (.cons xt xy xn xs' fi .nil)).count = f.count + 1 + fi.count := by rw [Fs.app_count]; simp [Fs.count]; omega
  have hlen2 : (f.app (.cons xt xy xn xs' fi .nil)).len = f.len + 1 := by rw [Fs.app_len]; simp [Fs.len]
  have hw3 : Below w.heap.size w w3 := hbel.trans (Tch.grown (S := fun k => out.ownBlock = some k) hg3 (fun k hk _ => hk) |>.toBelowB hbel.size fun k hk e => by have := hout k e; omega)
  refine ⟨f.app (.cons xt xy xn xs' fi .nil), A2, c2, xs ++ [.int .u64 (xt : Int), .int .i64 xy, .int .u64 (xn : Int), .string xs', vi], by rw [hcnt2], by rw [hcnt2]; exact hcnt, hfo.app ⟨hok, hfi, trivial⟩, by rw [hlen2]; exact hown3, ?_, ?_, by rw [hcnt2]; exact hc2, hcc, hw3⟩
  · refine Cls.grow (v := out) (hcls.app (?_ : Cls _ _ _ (.cons xt xy xn xs' fi .nil))) hg3 hat
    exact ⟨rfl, rfl, rfl, rfl, hi, trivial⟩
  · rw [hcnt2]
    exact hrd.belowB (Tch.grown (S := fun k => out.ownBlock = some k) hg3 (fun k hk _ => hk) |>.toBelowB (Nat.le_trans hHw hbel.size) fun k hk e => by have := hout k e; omega)
theorem own_slv {w : World} {base : Nat} {e : TypeId} {v : Value} {xs : List Value} {f : Fs} {J : Nat → Prop} (h : w.ownsRow base e 5 v f.len xs) (hc : Cls w J xs f) (hJ : ∀ k, J k → base ≤ k) : ∃ A c, v = .slice A f.len c ∧ SlV w (base ≤ ·) (.slice A f.len c) f := by
  rcases h.2 with ⟨rfl, h0⟩ | ⟨g, cap, cur, rfl, hb, hg, hn, _⟩
  · have := Fs.len_zero h0
    subst this
    exact ⟨none, 0, rfl, SlV.nil _ _ _ _⟩
  · refine ⟨some ⟨g, 0, none⟩, cap, rfl, some ⟨g, 0, none⟩, cap, rfl, hn, .inr ⟨g, 0, rfl, hb, (Array.getElem?_eq_some_iff.1 hg).1, (hc.imp hJ).at_ fun j u hj => ?_⟩⟩
    have := h.cells (g := g) rfl j u hj
    rwa [add_at, ← Nat.zero_add j] at this
theorem from_stop {H : Nat} {w wr : World} {l : List One} {deep : Nat} {f : Fs} {A' : Option Addr} {c' : Nat} {xs : List Value} {out : Value} (hfc : f.count ≤ l.length) (hd : deep = 0 → f.count = l.length) (hfo : f.All FOk)
    (hown : wr.ownsRow w.heap.size 106 5 out f.len xs) (hcls : Cls wr (fun k => w.heap.size ≤ k ∧ out.ownBlock ≠ some k) xs f) (hrd : OnesRd H wr A' (l.drop f.count)) (hlc : l.length - f.count ≤ c') (hcc : c' ≤ 9223372036854775807)
    (hbel : Below w.heap.size w wr) : FromEnd H w l deep (.returned (.tuple #[out, .slice A' (l.length - f.count) c'])) wr := by
  obtain ⟨A, c, rfl, h⟩ := own_slv hown hcls fun k hk => hk.1
  exact ⟨f, A, c, A', c', rfl, hfc, hd, hfo, h, hrd, hlc, hcc, hbel⟩
theorem info_field : (Tryz.prog.info? 106).map (fun i => (i.zero, i.size, i.bytes)) = some (some (.agg #[.int .u64 0, .int .i64 0, .int .u64 0, .string ByteArray.empty, .slice none 0 0]), 5, 64) := by kernel_rfl
end Go.Proofs.YtigbifiicbghpaaGreatDoor
end

section
/-
  Make, and the document's fields of some. Conditions: numbers within their kinds; at most 60 fields.
-/
namespace Go.Proofs.YtigbifiicbghpaaGreatDoor
open Go.RowKit Go.PM
set_option maxRecDepth 100000
set_option maxHeartbeats 2000000
attribute [local go_sem ↓] Go.wp_at_zero Go.wp_at_succ

/-- What Make makes. -/
def MakeEnd (w : World) (n : Nat) (e : Ending) (w' : World) : Prop :=
  ∃ (f : Fs) (A : Option Addr) (c : Nat), e = .returned (.slice A f.len c) ∧ f.count = n ∧ f.All FOk ∧ SlV w' (w.heap.size ≤ ·) (.slice A f.len c) f ∧ Below w.heap.size w w'

/-- A copy of fields, in new memory. -/
def CopyEnd (w : World) (f : Fs) (e : Ending) (w' : World) : Prop :=
  ∃ (A : Option Addr) (c : Nat), e = .returned (.slice A f.len c) ∧ SlV w' (w.heap.size ≤ ·) (.slice A f.len c) f ∧ Below w.heap.size w w'
end Go.Proofs.YtigbifiicbghpaaGreatDoor
end

section
/-
  Contracts of layer 8: whether fields may be. Conditions: numbers within their kinds.
-/
namespace Go.Proofs.YtigbifiicbghpaaGreatDoor
open Go.RowKit Go.PM
set_option maxRecDepth 100000
set_option maxHeartbeats 1000000

def ftyped (y : Int) (n : Nat) (s : ByteArray) (len : Nat) : Bool :=
  if y = 0 then decide (s.size = 0) && decide (len = 0) else if y = 1 then decide (n = 0) && decide (len = 0) else if y = 2 then decide (n = 0) && decide (s.size = 0) else false
theorem size_zero {s : ByteArray} (h : s.size = 0) : s = ⟨#[]⟩ := ByteArray.ext (Array.eq_empty_of_size_eq_zero h)
theorem size_some {s : ByteArray} (h : s.size ≠ 0) : s.toList.isEmpty = false ∧ s.toList ≠ [] := by
  have : s.toList ≠ [] := fun e => h (by rw [ByteArray.toList_eq] at e; have := congrArg List.length e; simpa using this)
  exact ⟨by simpa using this, this⟩
theorem typed_any (t : Nat) (y : Int) (n : Nat) (s : ByteArray) (A : Option Addr) (len c : Nat) (w : World) (hy : InI64 y) (hl : len ≤ 9223372036854775807) :
    Calls Tryz.prog 106 #[.agg #[.int .u64 (t : Int), .int .i64 y, .int .u64 (n : Int), .string s, .slice A len c]] w fun e w' => e = .returned (.bool (ftyped y n s len)) ∧ Below w.heap.size w w' := by
  unfold ftyped
  by_cases y0 : y = 0
  · subst y0
    rw [if_pos rfl]
    by_cases hs : s.size = 0
    · obtain rfl := size_zero hs
      by_cases h0 : len = 0
      · subst h0
        go_enter Tryz.func106, Tryz.ntmps106
        go_wp2
        go_ret
        exact ⟨rfl, ba b0 _⟩
      · have hd : decide (len = 0) = false := by simp; exact h0
        have hi : ((len : Int) == 0) = false := by rw [beq_eq_false_iff_ne]; omega
        rw [hd]
        clear hd
        go_enter Tryz.func106, Tryz.ntmps106
        go_wp2
        go_ret
        exact ⟨rfl, ba b0 _⟩
    · obtain ⟨e1, e2⟩ := size_some hs
      rw [decide_eq_false hs]
      go_enter Tryz.func106, Tryz.ntmps106
      go_wp2
      go_ret
      exact ⟨rfl, ba b0 _⟩
  · rw [if_neg y0]
    by_cases y1 : y = 1
    · subst y1
      rw [if_pos rfl]
      by_cases hn : n = 0
      · subst hn
        by_cases h0 : len = 0
        · subst h0
          go_enter Tryz.func106, Tryz.ntmps106
          go_wp2
          go_ret
          exact ⟨rfl, ba b0 _⟩
        · have hd : decide (len = 0) = false := by simp; exact h0
          have hi : ((len : Int) == 0) = false := by rw [beq_eq_false_iff_ne]; omega
          rw [hd]
          clear hd
          go_enter Tryz.func106, Tryz.ntmps106
          go_wp2
          go_ret
          exact ⟨rfl, ba b0 _⟩
      · have hi : ((n : Int) == 0) = false := by rw [beq_eq_false_iff_ne]; omega
        rw [decide_eq_false hn]
        go_enter Tryz.func106, Tryz.ntmps106
        go_wp2
        go_ret
        exact ⟨rfl, ba b0 _⟩
    · rw [if_neg y1]
      have i0 : ((y : Int) == 0) = false := by rw [beq_eq_false_iff_ne]; exact y0
      have i1 : ((y : Int) == 1) = false := by rw [beq_eq_false_iff_ne]; exact y1
      by_cases y2 : y = 2
      · subst y2
        rw [if_pos rfl]
        clear y0 y1 i0 i1
        by_cases hn : n = 0
        · subst hn
          by_cases hs : s.size = 0
          · obtain rfl := size_zero hs
            go_enter Tryz.func106, Tryz.ntmps106
            go_wp2
            go_ret
            exact ⟨rfl, ba b0 _⟩
          · obtain ⟨e1, e2⟩ := size_some hs
            rw [decide_eq_false hs]
            go_enter Tryz.func106, Tryz.ntmps106
            go_wp2
            go_ret
            exact ⟨rfl, ba b0 _⟩
        · have hi : ((n : Int) == 0) = false := by rw [beq_eq_false_iff_ne]; omega
          rw [decide_eq_false hn]
          go_enter Tryz.func106, Tryz.ntmps106
          go_wp2
          go_ret
          exact ⟨rfl, ba b0 _⟩
      · rw [if_neg y2]
        have i2 : ((y : Int) == 2) = false := by rw [beq_eq_false_iff_ne]; exact y2
        clear y0 y1 y2
        go_enter Tryz.func106, Tryz.ntmps106
        go_wp2
        go_ret
        exact ⟨rfl, ba b0 _⟩
/-- Whether fields may be that stand within so many lists, behind a tag: the code. -/
def fcheck : Fs → Nat → Nat → Nat
  | .nil, _, _ => 0
  | .cons t y n s i r, ahead, within =>
    if t = 0 ∨ 4294967296 < t then 18 else if t ≤ ahead then 7 else if ftyped y n s i.len = false then 8 else if y ≠ 2 then fcheck r t within else if 8 ≤ within then 9
    else if fcheck i 0 (within + 1) ≠ 0 then fcheck i 0 (within + 1) else fcheck r t within
/-- Numbers within their kinds. -/
def FKd (t : Nat) (y : Int) (n : Nat) (s : ByteArray) : Prop := In64 t ∧ InI64 y ∧ In64 n ∧ s.size ≤ 9223372036854775807
theorem FOk.kd {t : Nat} {y : Int} {n : Nat} {s : ByteArray} (h : FOk t y n s) : FKd t y n s := ⟨h.1, by have := h.2.1; unfold InI64; omega, h.2.2.1, by have := h.2.2.2; omega⟩
theorem check_any8 (N : Nat) : ∀ (A : Option Addr) (c : Nat) (f : Fs) (I : Nat → Prop) (within : Nat) (w : World), f.count ≤ N → SlV w I (.slice A f.len c) f → f.All FKd → f.count ≤ 1000000 → within ≤ 8 →
    Calls Tryz.prog 99 #[.slice A f.len c, .int .i64 (within : Int)] w fun e w' => e = .returned (.int .i64 (fcheck f 0 within : Int)) ∧ Below w.heap.size w w' := by
  induction N with
  | zero =>
    intro A c f I within w hN hr hk h60 hw
    have : f = .nil := Fs.len_zero (by have := f.len_count; omega)
    subst this
    go_enter Tryz.func99, Tryz.ntmps99
    go_wp2_with fail
    go_loopw [5, 11] (fun _ kk wr => kk = .int .i64 0 ∧ wr = w) (fun _ _ _ => 0)
    case atStart => exact ⟨rfl, rfl⟩
    case round =>
      obtain ⟨rfl, rfl⟩ := hrel
      go_wp2_with fail
      go_ret
      exact ⟨rfl, b0⟩
  | succ N ih =>
    intro A c f I within w hN hr hk h60 hw
    have IH := Lib.hid ih
    have HR := Lib.hid hr
    have HK := Lib.hid hk
    have hfl := f.len_count
    generalize hRR : fcheck f 0 within = R
    have H0 : Hid (fcheck (f.drop 0) 0 within = R) := by show _ = _; rw [← hRR]; cases f <;> rfl
    clear hRR ih hr hk
    go_enter Tryz.func99, Tryz.ntmps99
    go_wp2_with fail
    go_loopw [5, 11] (fun aa kk wr => ∃ k ahead : Nat, k ≤ f.len ∧ kk = .int .i64 (k : Int) ∧ aa = .int .u64 (ahead : Int) ∧ ahead ≤ 4294967296 ∧ Hid (fcheck (f.drop k) ahead within = R) ∧ Below w.heap.size w wr) (fun _ kk _ => f.len - (intOf kk).toNat)
    case atStart => exact ⟨0, 0, by omega, rfl, rfl, by omega, H0, b0⟩
    case round =>
      obtain ⟨k, ahead, hk, rfl, rfl, hah, hR', hbel⟩ := hrel
      have HBEL := Lib.hid hbel
      have hR := hR'.out
      by_cases hlt : k < f.len
      · obtain ⟨t, y, n, s, i, hdc, _⟩ := f.drop_cons k hlt
        obtain ⟨A0, c0, hv, hc0, hor⟩ := HR.out.below hbel
        injection hv with hv1 hv2 hv3
        subst hv1 hv3
        rcases hor with h0 | ⟨b, o, rfl, hIb, hbl, hat⟩
        · omega
        have hak := hat.drop k
        have hkk := HK.out.drop k
        have hcc := f.drop_count k
        rw [hdc] at hak hkk hR hcc
        obtain ⟨d0, d1, d2, d3, ⟨Ai, ci, d4, hin⟩, _⟩ := hak
        obtain ⟨⟨ht64, hy64, hn64, hs63⟩, hki, _⟩ := hkk
        have hic : i.count ≤ N ∧ i.count ≤ 1000000 ∧ i.len ≤ 1000000 := by
          have := i.len_count
          simp only [Fs.count] at hcc
          omega
        have HTY : Hid (∀ x : World, Calls Tryz.prog 106 #[.agg #[.int .u64 (t : Int), .int .i64 y, .int .u64 (n : Int), .string s, .slice Ai i.len ci]] x fun e w' => e = .returned (.bool (ftyped y n s i.len)) ∧ Below x.heap.size x w') := fun x => typed_any t y n s Ai i.len ci x hy64 (by omega)
        have HIN := Lib.hid hin
        have HKI := Lib.hid hki
        have HT64 := Lib.hid ht64
        clear hdc hat hin hki hbel hv2 hy64 hn64 hR' ht64 hcc H0
        rw [fcheck] at hR
        by_cases ht0 : t = 0
        · subst ht0
          rw [if_pos (.inl rfl)] at hR
          subst hR
          go_wp2_with (first | (go_at_call 106; refine (HTY.out _).mono ?_; rintro e wt ⟨rfl, hbt⟩; have hm := (BlkAt.made wr 106 #[.int .u64 (t : Int), .int .i64 y, .int .u64 (n : Int), .string s, .slice Ai i.len ci]).below hbt (by simp); have q1 := hm.cell 1; have q4 := hm.cell 4; simp at q1 q4))
          go_ret
          exact ⟨rfl, HBEL.out.trans (by first | exact (bb (ba b0 _) hbt).mono HBEL.out.size | exact (ba b0 _ : Below wr.heap.size wr _).mono HBEL.out.size)⟩
        by_cases ht1 : 4294967296 < t
        · have hti : ((t : Int) == 0) = false := by rw [beq_eq_false_iff_ne]; omega
          rw [if_pos (.inr ht1)] at hR
          subst hR
          go_wp2_with (first | (go_at_call 106; refine (HTY.out _).mono ?_; rintro e wt ⟨rfl, hbt⟩; have hm := (BlkAt.made wr 106 #[.int .u64 (t : Int), .int .i64 y, .int .u64 (n : Int), .string s, .slice Ai i.len ci]).below hbt (by simp); have q1 := hm.cell 1; have q4 := hm.cell 4; simp at q1 q4))
          go_ret
          exact ⟨rfl, HBEL.out.trans (by first | exact (bb (ba b0 _) hbt).mono HBEL.out.size | exact (ba b0 _ : Below wr.heap.size wr _).mono HBEL.out.size)⟩
        rw [if_neg (by omega)] at hR
        have hti : ((t : Int) == 0) = false := by rw [beq_eq_false_iff_ne]; omega
        by_cases hta : t ≤ ahead
        · rw [if_pos hta] at hR
          subst hR
          go_wp2_with (first | (go_at_call 106; refine (HTY.out _).mono ?_; rintro e wt ⟨rfl, hbt⟩; have hm := (BlkAt.made wr 106 #[.int .u64 (t : Int), .int .i64 y, .int .u64 (n : Int), .string s, .slice Ai i.len ci]).below hbt (by simp); have q1 := hm.cell 1; have q4 := hm.cell 4; simp at q1 q4))
          go_ret
          exact ⟨rfl, HBEL.out.trans (by first | exact (bb (ba b0 _) hbt).mono HBEL.out.size | exact (ba b0 _ : Below wr.heap.size wr _).mono HBEL.out.size)⟩
        rw [if_neg hta] at hR
        cases hty : ftyped y n s i.len with
        | false =>
          rw [hty] at HTY hR
          rw [if_pos rfl] at hR
          clear hty
          subst hR
          go_wp2_with (first | (go_at_call 106; refine (HTY.out _).mono ?_; rintro e wt ⟨rfl, hbt⟩; have hm := (BlkAt.made wr 106 #[.int .u64 (t : Int), .int .i64 y, .int .u64 (n : Int), .string s, .slice Ai i.len ci]).below hbt (by simp); have q1 := hm.cell 1; have q4 := hm.cell 4; simp at q1 q4))
          go_ret
          exact ⟨rfl, HBEL.out.trans (by first | exact (bb (ba b0 _) hbt).mono HBEL.out.size | exact (ba b0 _ : Below wr.heap.size wr _).mono HBEL.out.size)⟩
        | true =>
          rw [hty] at HTY hR
          rw [if_neg (by simp)] at hR
          clear hty
          by_cases hy2 : y = 2
          · subst hy2
            rw [if_neg (by simp)] at hR
            by_cases hwi : 8 ≤ within
            · rw [if_pos hwi] at hR
              subst hR
              go_wp2_with (first | (go_at_call 106; refine (HTY.out _).mono ?_; rintro e wt ⟨rfl, hbt⟩; have hm := (BlkAt.made wr 106 #[.int .u64 (t : Int), .int .i64 2, .int .u64 (n : Int), .string s, .slice Ai i.len ci]).below hbt (by simp); have q1 := hm.cell 1; have q4 := hm.cell 4; simp at q1 q4))
              go_ret
              exact ⟨rfl, HBEL.out.trans ((bb (ba b0 _) hbt).mono HBEL.out.size)⟩
            rw [if_neg hwi] at hR
            have HSL : Hid (SlV wr I (.slice Ai i.len ci) i) := ⟨Ai, ci, rfl, HIN.out⟩
            generalize hE : fcheck i 0 (within + 1) = E at hR
            have HE := Lib.hid hE
            clear hE
            by_cases he : E = 0
            · subst he
              rw [if_neg (by simp)] at hR
              have HR2 := Lib.hid hR
              clear hR
              go_wp2_with (first | (go_at_call 106; refine (HTY.out _).mono ?_; rintro e wt ⟨rfl, hbt⟩; have hm := (BlkAt.made wr 106 #[.int .u64 (t : Int), .int .i64 2, .int .u64 (n : Int), .string s, .slice Ai i.len ci]).below hbt (by simp); have q1 := hm.cell 1; have q4 := hm.cell 4; simp at q1 q4) | (go_at_call 99; refine (IH.out Ai ci i I (within + 1) _ hic.1 (HSL.out.below (bb (ba b0 _) hbt)) HKI.out hic.2.1 (by omega)).mono ?_; rw [HE.out]; rintro e2 w2 ⟨rfl, hb2⟩))
              go_roundw
              case rel => exact ⟨k + 1, t, by omega, by go_num, rfl, by omega, HR2, HBEL.out.trans ((bb (bb (ba b0 _) hbt) hb2).mono HBEL.out.size)⟩
              case measure => simp [intOf]; omega
            · rw [if_pos he] at hR
              have hei : ((E : Int) != 0) = true := by rw [bne_iff_ne]; omega
              subst hR
              go_wp2_with (first | (go_at_call 106; refine (HTY.out _).mono ?_; rintro e wt ⟨rfl, hbt⟩; have hm := (BlkAt.made wr 106 #[.int .u64 (t : Int), .int .i64 2, .int .u64 (n : Int), .string s, .slice Ai i.len ci]).below hbt (by simp); have q1 := hm.cell 1; have q4 := hm.cell 4; simp at q1 q4) | (go_at_call 99; refine (IH.out Ai ci i I (within + 1) _ hic.1 (HSL.out.below (bb (ba b0 _) hbt)) HKI.out hic.2.1 (by omega)).mono ?_; rw [HE.out]; rintro e2 w2 ⟨rfl, hb2⟩))
              go_ret
              exact ⟨rfl, HBEL.out.trans ((bb (bb (ba b0 _) hbt) hb2).mono HBEL.out.size)⟩
          · rw [if_pos hy2] at hR
            have hyi : (y != 2) = true := by rw [bne_iff_ne]; exact hy2
            have HR2 := Lib.hid hR
            clear hR hy2
            go_wp2_with (first | (go_at_call 106; refine (HTY.out _).mono ?_; rintro e wt ⟨rfl, hbt⟩; have hm := (BlkAt.made wr 106 #[.int .u64 (t : Int), .int .i64 y, .int .u64 (n : Int), .string s, .slice Ai i.len ci]).below hbt (by simp); have q1 := hm.cell 1; have q4 := hm.cell 4; simp at q1 q4))
            go_roundw
            case rel => exact ⟨k + 1, t, by omega, by go_num, rfl, by omega, HR2, HBEL.out.trans ((bb (ba b0 _) hbt).mono HBEL.out.size)⟩
            case measure => simp [intOf]; omega
      · obtain rfl : k = f.len := by omega
        have hn : f.drop f.len = .nil := Fs.len_zero (by rw [Fs.drop_len]; omega)
        rw [hn, fcheck] at hR
        subst hR
        clear hR' hbel H0
        go_wp2_with fail
        go_ret
        exact ⟨rfl, HBEL.out⟩
theorem check_of (v : Value) (f : Fs) (I : Nat → Prop) (w : World) (hr : SlV w I v f) (hk : f.All FKd) (h60 : f.count ≤ 1000000) :
    Calls Tryz.prog 87 #[v] w fun e w' => e = .returned (.int .i64 (fcheck f 0 0 : Int)) ∧ Below w.heap.size w w' := by
  obtain ⟨A, c, rfl, hr'⟩ := hr
  have HC := Lib.hid (check_any8 f.count A c f I 0 w (Nat.le_refl _) ⟨A, c, rfl, hr'⟩ hk h60 (by omega))
  clear hr' hk
  generalize fcheck f 0 0 = E at HC ⊢
  go_enter Tryz.func87, Tryz.ntmps87
  go_wp2_with (first | (go_at_call 99; refine HC.out.mono ?_; rintro e wt ⟨rfl, hbt⟩))
  go_ret
  exact ⟨rfl, hbt⟩
end Go.Proofs.YtigbifiicbghpaaGreatDoor
end
