/-
  Texts of the proof, joined: Entry Entry2. Conditions: as each names.
-/
import Derived.Test.YtigbifiicbghpaaDoorBaj
import Derived.Test.YtigbifiicbghpaaDoorBag
import Derived.Test.YtigbifiicbghpaaDoorBam
import Derived.Test.YtigbifiicbghpaaDoorBal
import Derived.Laws.StructEq
import Derived.Shelf.SlicesE.Kit
import Derived.Deep.RegionHeld3

section
/-
  Contracts of layer 11. Conditions: texts within int; Go's tables of UTF-8 lie in memory.
-/
namespace Go.Proofs.YtigbifiicbghpaaDoor
open Go.RowKit Go.PM
set_option maxRecDepth 100000
set_option maxHeartbeats 1000000

/-- Whether an entry may be: the code. -/
def echk (k v : List UInt8) : Int := if uchk k 1 64 ≠ 0 then uchk k 1 64 else uchk v 0 256
theorem echeck_any (k v : ByteArray) (w : World) (hk : k.size ≤ 9223372036854775807) (hv : v.size ≤ 9223372036854775807) (hT : Tabs w) :
    Calls Tryd.prog 26 #[.agg #[.string k, .string v]] w fun e w' => e = .returned (.int .i64 (echk k.data.toList v.data.toList)) ∧ Below w.heap.size w w' := by
  have hx := BlkAt.made w 59 #[.string k, .string v]
  have HX := Lib.hid hx
  have hb0 := ba (a := w) b0 (.cells #[.string k, .string v] 59)
  have HB := Lib.hid hb0
  have H1 := Lib.hid (ucheck_any k 1 64 (w.alloc (.cells #[.string k, .string v] 59)) hk (hT.below hb0))
  have H2 : Hid (∀ x : World, Below w.heap.size w x → Calls Tryd.prog 43 #[.string v, .int .i64 0, .int .i64 256] x fun e w' => e = .returned (.int .i64 (uchk v.data.toList 0 256)) ∧ Below x.heap.size x w') := fun x hx => ucheck_any v 0 256 x hv (hT.below hx)
  unfold echk
  clear hx hb0 hT
  generalize uchk k.data.toList 1 64 = a at *
  generalize uchk v.data.toList 0 256 = b at *
  by_cases ha : a = 0
  · subst ha
    rw [if_neg (by simp)]
    go_enter Tryd.func26, Tryd.ntmps26
    go_wp2_with fail
    refine H1.out.mono ?_
    rintro e w1 ⟨rfl, hb1⟩
    have hx1 := HX.out.below hb1 HX.out.lt
    have c1 := hx1.cell 1
    simp at c1
    have HB1 := Lib.hid (bb HB.out hb1)
    clear hb1 hx1
    go_wp2_with fail
    refine (H2.out _ HB1.out).mono ?_
    rintro e w2 ⟨rfl, hb2⟩
    have HB2 := Lib.hid (bb HB1.out hb2)
    clear hb2
    go_wp2
    go_ret
    exact ⟨rfl, HB2.out⟩
  · rw [if_pos ha]
    have hai : (a != 0) = true := by rw [bne_iff_ne]; exact ha
    clear ha
    go_enter Tryd.func26, Tryd.ntmps26
    go_wp2_with fail
    refine H1.out.mono ?_
    rintro e w1 ⟨rfl, hb1⟩
    have HB1 := Lib.hid (bb HB.out hb1)
    clear hb1
    go_wp2
    go_ret
    exact ⟨rfl, HB1.out⟩
theorem ecmp_any (ak av bk bv : ByteArray) (w : World) :
    Calls Tryd.prog 28 #[.agg #[.string ak, .string av], .agg #[.string bk, .string bv]] w fun e w' => e = .returned (.int .i64 (ecmp ak.data.toList av.data.toList bk.data.toList bv.data.toList)) ∧ w' = (w.alloc (.cells #[.string ak, .string av] 59)).alloc (.cells #[.string bk, .string bv] 59) := by
  have H1 : Hid (∀ x : World, Calls Tryd.prog 44 #[.string ak, .string bk] x fun e w' => e = .returned (.int .i64 (Lib.compareBytes ak.data.toList bk.data.toList)) ∧ w' = x) := fun x => Tryd.strings_Compare ak bk x
  have H2 : Hid (∀ x : World, Calls Tryd.prog 44 #[.string av, .string bv] x fun e w' => e = .returned (.int .i64 (Lib.compareBytes av.data.toList bv.data.toList)) ∧ w' = x) := fun x => Tryd.strings_Compare av bv x
  unfold ecmp
  generalize Lib.compareBytes ak.data.toList bk.data.toList = a at *
  generalize Lib.compareBytes av.data.toList bv.data.toList = b at *
  by_cases ha : a = 0
  · subst ha
    rw [if_neg (by simp)]
    go_enter Tryd.func28, Tryd.ntmps28
    go_wp2_with fail
    refine (H1.out _).mono ?_
    rintro e w1 ⟨rfl, rfl⟩
    go_wp2_with fail
    refine (H2.out _).mono ?_
    rintro e w2 ⟨rfl, rfl⟩
    go_wp2
    go_ret
    exact ⟨rfl, rfl⟩
  · rw [if_pos ha]
    have hai : (a != 0) = true := by rw [bne_iff_ne]; exact ha
    clear ha
    go_enter Tryd.func28, Tryd.ntmps28
    go_wp2_with fail
    refine (H1.out _).mono ?_
    rintro e w1 ⟨rfl, rfl⟩
    go_wp2
    go_ret
    exact ⟨rfl, rfl⟩
/-- The end of reading a text with its length ahead. -/
def ETextEnd (w : World) (b : Nat) (s : ByteArray) (k : Nat) (e : Ending) (w' : World) : Prop :=
  ∃ k' : Nat, e = .returned (.tuple #[.string (txt (etx (s.data.toList.drop k)).1), .int .i64 ((etx (s.data.toList.drop k)).2.2 : Int)]) ∧ Cur w' b s k' ∧ ((etx (s.data.toList.drop k)).2.2 = 0 → k' = k + (etx (s.data.toList.drop k)).2.1) ∧ w.grownBy w' (some b)
theorem etext_any (b : Nat) (s : ByteArray) (k : Nat) (w : World) (h : Cur w b s k) :
    Calls Tryd.prog 42 #[.pointer (some ⟨b, 0, none⟩)] w (ETextEnd w b s k) := by
  have HN := Lib.hid (next_any b s k w h)
  have hks := h.2.1
  have hss := h.2.2
  clear h
  have hl : (s.data.toList.drop k).length = s.size - k := by rw [List.length_drop, len_list]
  unfold ETextEnd etx
  rw [hl]
  by_cases hv : (vget (s.data.toList.drop k)).2.2 = 0
  · obtain ⟨v1, v2, v3, v4, v5⟩ := vget_ok hv
    rw [hl] at v2
    rw [if_neg (by rw [hv]; simp)]
    have HN2 : Hid (Calls Tryd.prog 51 #[.pointer (some ⟨b, 0, none⟩)] w fun e w' => e = .returned (.tuple #[.int .u64 ((vget (s.data.toList.drop k)).1 : Int), .int .i64 0]) ∧ Cur w' b s (k + (vget (s.data.toList.drop k)).2.1) ∧ w.grownBy w' (some b)) := by
      have := HN.out
      rw [hv] at this
      exact this
    clear HN hv v5
    have hdd : ∀ m : Nat, ((s.data.toList.drop k).drop m) = s.data.toList.drop (k + m) := fun m => by rw [List.drop_drop]
    rw [hdd]
    generalize (vget (s.data.toList.drop k)).1 = n at *
    generalize (vget (s.data.toList.drop k)).2.1 = m at *
    clear hl hdd
    have hkm : k + m ≤ s.size := by omega
    by_cases hn : s.size - k - m < n
    · rw [if_pos hn]
      go_enter Tryd.func42, Tryd.ntmps42
      go_wp2_with fail
      refine HN2.out.mono ?_
      rintro e w1 ⟨rfl, hc1, hg1⟩
      have HC1 := Lib.hid hc1
      have HG1 := Lib.hid hg1
      clear hc1 hg1
      go_wp2_with fail
      refine (cur_take_no b s (k + m) (n : Int) w1 HC1.out (by omega) (by omega)).mono ?_
      rintro e w2 ⟨rfl, hb2⟩
      have HC2 : Hid (Cur w2 b s (k + m)) := ⟨HC1.out.1.below hb2 HC1.out.1.lt, HC1.out.2⟩
      have HG2 := Lib.hid (grown_trans HG1.out (grown_of_below hb2 (some b)) fun x e _ => e)
      clear hb2
      go_wp2_with fail
      go_ret2
      exact ⟨k + m, rfl, HC2.out, fun h => by simp at h, HG2.out⟩
    · rw [if_neg hn]
      have hex : s.extract (k + m) (k + m + (n : Int).toNat) = txt ((s.data.toList.drop (k + m)).take n) := by
        refine txt_eq ?_
        rw [ext_list]
        congr 1
        omega
      have HEX := Lib.hid hex
      clear hex
      go_enter Tryd.func42, Tryd.ntmps42
      go_wp2_with fail
      refine HN2.out.mono ?_
      rintro e w1 ⟨rfl, hc1, hg1⟩
      have HC1 := Lib.hid hc1
      have HG1 := Lib.hid hg1
      clear hc1 hg1
      go_wp2_with fail
      refine (cur_take_yes b s (k + m) (n : Int) w1 HC1.out (by omega) (by omega)).mono ?_
      rintro e w2 ⟨rfl, hc2, hg2⟩
      rw [HEX.out, Int.toNat_natCast] at *
      have HC2 := Lib.hid hc2
      have HG2 := Lib.hid (grown_trans HG1.out hg2 fun x e _ => e)
      clear hc2 hg2 HEX
      go_wp2_with fail
      go_ret2
      exact ⟨k + m + n, rfl, HC2.out, fun _ => by omega, HG2.out⟩
  · have hve := vget_err hv
    rw [if_pos hv]
    have hvi : (((vget (s.data.toList.drop k)).2.2 : Int) != 0) = true := by rw [bne_iff_ne]; omega
    generalize (vget (s.data.toList.drop k)).2.2 = g at *
    clear hl hve
    go_enter Tryd.func42, Tryd.ntmps42
    go_wp2_with fail
    refine HN.out.mono ?_
    rintro e w1 ⟨rfl, hc1, hg1⟩
    have HC1 := Lib.hid hc1
    have HG1 := Lib.hid hg1
    clear hc1 hg1
    go_wp2_with fail
    go_ret2
    exact ⟨_, rfl, HC1.out, fun h => absurd h hv, HG1.out⟩
theorem etext_nil (w : World) : Calls Tryd.prog 42 #[.pointer none] w fun e w' => e = .returned (.tuple #[.string ByteArray.empty, .int .i64 25]) ∧ Below w.heap.size w w' := by
  go_enter Tryd.func42, Tryd.ntmps42
  go_wp2_with fail
  refine (next_nil _).mono ?_
  rintro e w1 ⟨rfl, hb1⟩
  go_wp2_with fail
  go_ret2
  exact ⟨rfl, hb1⟩
theorem etx_size (s : ByteArray) (k : Nat) : (etx (s.data.toList.drop k)).1.length ≤ s.size := by
  unfold etx
  split
  · simp
  · split
    · simp
    · rw [List.length_take, List.length_drop, List.length_drop, len_list]; omega
/-- The end of reading an entry. -/
def ENextEnd (w : World) (b : Nat) (s : ByteArray) (k : Nat) (e : Ending) (w' : World) : Prop :=
  ∃ k' : Nat, e = .returned (.tuple #[.agg #[.string (txt (enx echk (s.data.toList.drop k)).1.1), .string (txt (enx echk (s.data.toList.drop k)).1.2)], .int .i64 (enx echk (s.data.toList.drop k)).2.2]) ∧ Cur w' b s k' ∧ ((enx echk (s.data.toList.drop k)).2.2 = 0 → k' = k + (enx echk (s.data.toList.drop k)).2.1) ∧ w.grownBy w' (some b)
theorem res_two (w : World) (r : Nat) (v0 v1 : Value) : Tch (fun j => j = r) w ((w.setCell ⟨r, 0, none⟩ v0).setCell ⟨r, 1, none⟩ v1) :=
  ((Tch.refl (fun j => j = r) w).put (p := ⟨r, 0, none⟩) (fun _ => rfl) v0).put (p := ⟨r, 1, none⟩) (fun _ => rfl) v1
theorem tch_grown {w w1 w2 : World} {b r : Nat} (hg : w.grownBy w1 (some b)) (hr : w.heap.size ≤ r) (ht : Tch (fun j => j = r) w1 w2) : w.grownBy w2 (some b) :=
  ⟨ht.os.trans hg.os, ht.tape.trans hg.tape, ht.output.trans hg.output, Nat.le_trans hg.size ht.size, fun k hk hne => (ht.block k (Nat.lt_of_lt_of_le hk hg.size) (by omega)).trans (hg.block k hk hne)⟩
theorem enext_any (W0 : World) (hT : Tabs W0) (b : Nat) (s : ByteArray) (k : Nat) (w : World) (h0 : Below W0.heap.size W0 w) (hWb : W0.heap.size ≤ b) (h : Cur w b s k) :
    Calls Tryd.prog 25 #[.pointer (some ⟨b, 0, none⟩)] w (ENextEnd w b s k) := by
  have hbl := h.1.lt
  have hss := h.2.2
  have hx := BlkAt.made w 59 #[.string ⟨#[]⟩, .string ⟨#[]⟩]
  have HX := Lib.hid hx
  have hg0 := grown_of_below (ba (a := w) b0 (.cells #[.string ⟨#[]⟩, .string ⟨#[]⟩] 59)) (some b)
  have HG0 := Lib.hid hg0
  have HT1 := Lib.hid (etext_any b s k (w.alloc (.cells #[.string ⟨#[]⟩, .string ⟨#[]⟩] 59)) ⟨h.1.more _, h.2⟩)
  have H0 := Lib.hid h0
  have HT := Lib.hid hT
  have hsz1 := etx_size s k
  clear hx hg0 h h0 hT
  generalize hX : enx echk (s.data.toList.drop k) = X
  have HXX := Lib.hid hX
  have HEND : Hid (∀ (e : Ending) (k' : Nat) (w1 w' : World), e = .returned (.tuple #[.agg #[.string (txt X.1.1), .string (txt X.1.2)], .int .i64 X.2.2]) → Cur w1 b s k' → (X.2.2 = 0 → k' = k + X.2.1) → w.grownBy w1 (some b) → Tch (fun j => j = w.heap.size) w1 w' → ENextEnd w b s k e w') := fun e k' w1 w' he hc hk hg ht => by
    unfold ENextEnd
    rw [hX]
    exact ⟨k', he, ⟨hc.1.tch ht (by omega), hc.2⟩, hk, tch_grown hg (Nat.le_refl _) ht⟩
  unfold enx at hX
  clear hX
  have hX := HXX.out
  unfold enx at hX
  clear HXX
  go_enter Tryd.func25, Tryd.ntmps25
  go_wp2_with fail
  refine HT1.out.mono ?_
  rintro e w1 ⟨k1, rfl, hc1, hk1, hg1⟩
  have HC1 := Lib.hid hc1
  have hgw1 := grown_trans HG0.out hg1 fun x e _ => e
  have HG1 := Lib.hid hgw1
  have hx1 := HX.out.step hg1 (by intro e; injection e with e; omega)
  have HX1 := Lib.hid hx1
  have c0 := hx1.cell 0
  have c1 := hx1.cell 1
  have f0 := hx1.free 0
  have f1 := hx1.free 1
  simp at c0 c1
  have hlw := hx1.lt
  clear hc1 hg1 hgw1 hx1 HT1
  by_cases he1 : (etx (s.data.toList.drop k)).2.2 = 0
  · rw [if_neg (by rw [he1]; simp)] at hX
    obtain rfl := hk1 he1
    have hdd : (s.data.toList.drop k).drop (etx (s.data.toList.drop k)).2.1 = s.data.toList.drop (k + (etx (s.data.toList.drop k)).2.1) := by rw [List.drop_drop]
    rw [hdd] at hX
    have HT2 := Lib.hid (etext_any b s (k + (etx (s.data.toList.drop k)).2.1) w1 HC1.out)
    have hsz2 := etx_size s (k + (etx (s.data.toList.drop k)).2.1)
    rw [he1]
    clear hk1 hdd he1
    unfold ETextEnd at HT2
    generalize (etx (s.data.toList.drop k)).1 = K at *
    generalize hk1e : k + (etx (s.data.toList.drop k)).2.1 = k1 at *
    have HK1E := Lib.hid hk1e
    clear hk1e
    generalize etx (s.data.toList.drop k1) = Y at *
    clear c0 c1 f0 f1 hlw
    go_wp2_with fail
    refine HT2.out.mono ?_
    rintro e w2 ⟨k2, rfl, hc2, hk2, hg2⟩
    have HC2 := Lib.hid hc2
    have HG2 := Lib.hid (grown_trans HG1.out hg2 fun x e _ => e)
    have hx2 := HX1.out.step hg2 (by intro e; injection e with e; omega)
    have HX2 := Lib.hid hx2
    have c0 := hx2.cell 0
    have c1 := hx2.cell 1
    have f0 := hx2.free 0
    have f1 := hx2.free 1
    simp at c0 c1
    have hlw := hx2.lt
    clear hc2 hg2 hx2 HT2 HX1
    by_cases he2 : Y.2.2 = 0
    · rw [if_neg (by rw [he2]; simp)] at hX
      obtain rfl := hk2 he2
      rw [he2]
      have hbe := BlkAt.made w2 59 #[.string (txt K), .string (txt Y.1)]
      have HBE := Lib.hid hbe
      have HCK := Lib.hid (echeck_any (txt K) (txt Y.1) (w2.alloc (.cells #[.string (txt K), .string (txt Y.1)] 59)) (by rw [txt_size]; omega) (by rw [txt_size]; omega) (HT.out.below (ba (bg H0.out HG2.out hWb) _)))
      rw [txt_list, txt_list] at HCK
      have HXB := Lib.hid (HX2.out.more (.cells #[.string (txt K), .string (txt Y.1)] 59))
      clear c0 c1 f0 f1 hlw hbe HX2 hk2 he2
      by_cases hce : echk K Y.1 = 0
      · rw [if_neg (by simpa using hce)] at hX
        subst hX
        have HE : Hid (∀ (w3 w' : World), Below (w2.alloc (.cells #[.string (txt K), .string (txt Y.1)] 59)).heap.size (w2.alloc (.cells #[.string (txt K), .string (txt Y.1)] 59)) w3 → Tch (fun j => j = w.heap.size) w3 w' → ENextEnd w b s k (.returned (.tuple #[.agg #[.string (txt K), .string (txt Y.1)], .int .i64 0])) w') := fun w3 w' hb3 ht => by
          have hb := bb (ba (a := w2) b0 (.cells #[.string (txt K), .string (txt Y.1)] 59)) hb3
          exact HEND.out _ (k1 + Y.2.1) w3 w' rfl ⟨HC2.out.1.below hb HC2.out.1.lt, HC2.out.2⟩ (fun _ => by have := HK1E.out; simp only; omega) (grown_trans HG2.out (grown_of_below hb (some b)) fun x e _ => e) ht
        rw [hce] at HCK
        clear hce HEND
        go_wp2_with fail
        refine HCK.out.mono ?_
        rintro e w3 ⟨rfl, hb3⟩
        have HE3 : Hid (∀ w', Tch (fun j => j = w.heap.size) w3 w' → ENextEnd w b s k (.returned (.tuple #[.agg #[.string (txt K), .string (txt Y.1)], .int .i64 0])) w') := fun w' ht => HE.out w3 w' hb3 ht
        have hx3 := HXB.out.below hb3 HXB.out.lt
        have hy3 := HBE.out.below hb3 HBE.out.lt
        have e0 := hy3.cell 0
        have e1 := hy3.cell 1
        simp at e0 e1
        have c0 := hx3.cell 0
        have c1 := hx3.cell 1
        have f0 := hx3.free 0
        have f1 := hx3.free 1
        simp at c0 c1
        have hlw := hx3.lt
        clear hx3 hy3 hb3 HE
        go_wp2_with fail
        refine bodyPost_ret (v := .tuple #[.agg #[.string (txt K), .string (txt Y.1)], .int .i64 0]) (by simp [results, Tryd.results25, go_sem, c0, c1]; try rfl) rfl (HE3.out _ (res_two _ _ _ _))
      · rw [if_pos (by simpa using hce)] at hX
        subst hX
        have HE : Hid (∀ (w3 w' : World), Below (w2.alloc (.cells #[.string (txt K), .string (txt Y.1)] 59)).heap.size (w2.alloc (.cells #[.string (txt K), .string (txt Y.1)] 59)) w3 → Tch (fun j => j = w.heap.size) w3 w' → ENextEnd w b s k (.returned (.tuple #[.agg #[.string ByteArray.empty, .string ByteArray.empty], .int .i64 (echk K Y.1)])) w') := fun w3 w' hb3 ht => by
          have hb := bb (ba (a := w2) b0 (.cells #[.string (txt K), .string (txt Y.1)] 59)) hb3
          exact HEND.out _ (k1 + Y.2.1) w3 w' rfl ⟨HC2.out.1.below hb HC2.out.1.lt, HC2.out.2⟩ (fun h => absurd h hce) (grown_trans HG2.out (grown_of_below hb (some b)) fun x e _ => e) ht
        have hcei : (echk K Y.1 != 0) = true := by rw [bne_iff_ne]; exact hce
        generalize echk K Y.1 = C at *
        clear hce HEND
        go_wp2_with fail
        refine HCK.out.mono ?_
        rintro e w3 ⟨rfl, hb3⟩
        have HE3 : Hid (∀ w', Tch (fun j => j = w.heap.size) w3 w' → ENextEnd w b s k (.returned (.tuple #[.agg #[.string ByteArray.empty, .string ByteArray.empty], .int .i64 C])) w') := fun w' ht => HE.out w3 w' hb3 ht
        have hx3 := HXB.out.below hb3 HXB.out.lt
        have c0 := hx3.cell 0
        have c1 := hx3.cell 1
        have f0 := hx3.free 0
        have f1 := hx3.free 1
        simp at c0 c1
        have hlw := hx3.lt
        clear hx3 hb3 HE
        go_wp2_with fail
        refine bodyPost_ret (v := .tuple #[.agg #[.string ByteArray.empty, .string ByteArray.empty], .int .i64 C]) (by simp [results, Tryd.results25, go_sem, c0, c1]; try rfl) rfl (HE3.out _ (res_two _ _ _ _))
    · rw [if_pos he2] at hX
      subst hX
      have HE : Hid (∀ w', Tch (fun j => j = w.heap.size) w2 w' → ENextEnd w b s k (.returned (.tuple #[.agg #[.string ByteArray.empty, .string ByteArray.empty], .int .i64 (Y.2.2 : Int)])) w') := fun w' ht => HEND.out _ k2 w2 w' rfl HC2.out (fun h => by simp at h; exact absurd h he2) HG2.out ht
      have hte : ((Y.2.2 : Int) != 0) = true := by rw [bne_iff_ne]; omega
      generalize Y.2.2 = G at *
      clear he2 hk2 HEND
      go_wp2_with fail
      refine bodyPost_ret (v := .tuple #[.agg #[.string ByteArray.empty, .string ByteArray.empty], .int .i64 (G : Int)]) (by simp [results, Tryd.results25, go_sem, c0, c1]; try rfl) rfl (HE.out _ (res_two _ _ _ _))
  · rw [if_pos he1] at hX
    subst hX
    have HE : Hid (∀ w', Tch (fun j => j = w.heap.size) w1 w' → ENextEnd w b s k (.returned (.tuple #[.agg #[.string ByteArray.empty, .string ByteArray.empty], .int .i64 ((etx (s.data.toList.drop k)).2.2 : Int)])) w') := fun w' ht => HEND.out _ k1 w1 w' rfl HC1.out (fun h => by simp at h; exact absurd h he1) HG1.out ht
    have hte : ((((etx (s.data.toList.drop k)).2.2 : Nat) : Int) != 0) = true := by rw [bne_iff_ne]; omega
    generalize (etx (s.data.toList.drop k)).2.2 = G at *
    clear he1 hk1 HEND
    go_wp2_with fail
    refine bodyPost_ret (v := .tuple #[.agg #[.string ByteArray.empty, .string ByteArray.empty], .int .i64 (G : Int)]) (by simp [results, Tryd.results25, go_sem, c0, c1]; try rfl) rfl (HE.out _ (res_two _ _ _ _))
end Go.Proofs.YtigbifiicbghpaaDoor
end

section
/-
  Layer 11: an entry as it is written; two entries compared; the chapter's example. Conditions: texts within int; Go's tables of UTF-8 lie in memory.
-/
namespace Go.Proofs.YtigbifiicbghpaaDoor
open Go.RowKit Go.PM
set_option maxRecDepth 100000
set_option maxHeartbeats 1000000
attribute [local go_sem ↓] Go.wp_at_zero Go.wp_at_succ

theorem ent_eql (x y x' y' : ByteArray) (w : World) : (binOp .eql 59 (.agg #[.string x, .string y]) (.agg #[.string x', .string y'])).run Tryd.prog w = .ok (.bool (decide (x = x' ∧ y = y'))) w := by
  have u9 := Tryd.underlying9
  have a9 := Tryd.isAgg9
  have z9 := Tryd.sizeOf9
  have hS : Tryd.prog.underlying 59 = some (.struct (Tryd.prog.fieldsOf 59)) := by kernel_rfl
  have hp : Tryd.prog.stoodInHeld 59 = false := by kernel_rfl
  have e1 : (x.data = x'.data) = (x = x') := propext ⟨ByteArray.ext, congrArg _⟩
  have e2 : (y.data = y'.data) = (y = y') := propext ⟨ByteArray.ext, congrArg _⟩
  rw [run_eql_struct, show (10000 : Nat) = 9999 + 1 from rfl, run_equalIn_agg w 9999 _ _ _ hS hp]
  simp only [Program.fieldsOf, Tryd.underlying59]
  go_simp
  by_cases h1 : x = x' <;> by_cases h2 : y = y' <;> simp [h1, h2, ByteArray.toList_eq, e1, e2]
theorem ent_neq (x y x' y' : ByteArray) (w : World) : (binOp .neq 59 (.agg #[.string x, .string y]) (.agg #[.string x', .string y'])).run Tryd.prog w = .ok (.bool (!decide (x = x' ∧ y = y'))) w := by
  have u9 := Tryd.underlying9
  have a9 := Tryd.isAgg9
  have z9 := Tryd.sizeOf9
  have hS : Tryd.prog.underlying 59 = some (.struct (Tryd.prog.fieldsOf 59)) := by kernel_rfl
  have hp : Tryd.prog.stoodInHeld 59 = false := by kernel_rfl
  have e1 : (x.data = x'.data) = (x = x') := propext ⟨ByteArray.ext, congrArg _⟩
  have e2 : (y.data = y'.data) = (y = y') := propext ⟨ByteArray.ext, congrArg _⟩
  rw [run_neq_struct, show (10000 : Nat) = 9999 + 1 from rfl, run_equalIn_agg w 9999 _ _ _ hS hp]
  simp only [Program.fieldsOf, Tryd.underlying59]
  go_simp
  by_cases h1 : x = x' <;> by_cases h2 : y = y' <;> simp [h1, h2, ByteArray.toList_eq, e1, e2]
theorem ent_guard : Tryd.prog.eqGuardType Tryd.prog.depth 59 = false := by kernel_rfl
theorem app_listE (a b : ByteArray) : (a ++ b).data.toList = a.data.toList ++ b.data.toList := by rw [ByteArray.data_append, Array.toList_append]
theorem eput_any (k v : ByteArray) (w : World) (hk : k.size ≤ 1000000) (hv : v.size ≤ 1000000) :
    Calls Tryd.prog 24 #[.agg #[.string k, .string v]] w fun e w' => e = .returned (.string (txt (eput k.data.toList v.data.toList))) ∧ Below w.heap.size w w' := by
  have hx := BlkAt.made w 59 #[.string k, .string v]
  have hb := ba (a := w) b0 (.cells #[.string k, .string v] 59)
  have HB := Lib.hid hb
  have H1 : Hid (∀ x : World, Calls Tryd.prog 41 #[.int .u64 (k.size : Int)] x fun e w' => e = .returned (.string (txt (vput k.size))) ∧ Below x.heap.size x w') := fun x => put_any k.size x (by unfold In64; omega)
  have H2 : Hid (∀ x : World, Calls Tryd.prog 41 #[.int .u64 (v.size : Int)] x fun e w' => e = .returned (.string (txt (vput v.size))) ∧ Below x.heap.size x w') := fun x => put_any v.size x (by unfold In64; omega)
  have HE : Hid (((txt (vput k.size) ++ k) ++ txt (vput v.size)) ++ v = txt (eput k.data.toList v.data.toList)) := by
    refine txt_eq ?_
    rw [app_listE, app_listE, app_listE, txt_list, txt_list, eput, len_list, len_list]
    simp
  have wk : IntKind.u64.wrap (k.size : Int) = (k.size : Int) := by rw [IntKind.wrap_u64]; omega
  have wv : IntKind.u64.wrap (v.size : Int) = (v.size : Int) := by rw [IntKind.wrap_u64]; omega
  have hP : (txt (vput k.size)).size ≤ 10 := by rw [txt_size, vput_length]; exact vsz_le10 (by omega)
  have hQ : (txt (vput v.size)).size ≤ 10 := by rw [txt_size, vput_length]; exact vsz_le10 (by omega)
  generalize txt (vput k.size) = P at *
  generalize txt (vput v.size) = Q at *
  have hr1 : ∀ x : World, (Op.stringOp .add P k).run Tryd.prog x = .ok (.string (P ++ k)) x := fun x => run_string_add_sum x P k (by omega)
  have hr2 : ∀ x : World, (Op.stringOp .add (P ++ k) Q).run Tryd.prog x = .ok (.string (P ++ k ++ Q)) x := fun x => run_string_add_sum x _ _ (by rw [ByteArray.size_append]; omega)
  have hr3 : ∀ x : World, (Op.stringOp .add (P ++ k ++ Q) v).run Tryd.prog x = .ok (.string (P ++ k ++ Q ++ v)) x := fun x => run_string_add_sum x _ _ (by rw [ByteArray.size_append, ByteArray.size_append]; omega)
  have HSB : Hid (∀ x : World, Below (w.alloc (.cells #[.string k, .string v] 59)).heap.size (w.alloc (.cells #[.string k, .string v] 59)) x → (x.cell? ⟨w.heap.size, 0, none⟩ = some (.string k) ∧ x.cell? ⟨w.heap.size, 1, none⟩ = some (.string v))) := fun x h => ⟨(hx.below h hx.lt).cell 0, (hx.below h hx.lt).cell 1⟩
  clear hx hb
  go_enter Tryd.func24, Tryd.ntmps24
  go_wp2_with fail
  generalize (w.alloc (.cells #[.string k, .string v] 59)) = wz at HSB HB ⊢
  have hbW : Below wz.heap.size wz wz := b0
  obtain ⟨k0, k1⟩ := HSB.out _ hbW
  go_region_held3 (fun x => x.cell? ⟨w.heap.size, 0, none⟩ = some (.string k) ∧ x.cell? ⟨w.heap.size, 1, none⟩ = some (.string v)) (first | exact HSB.out _ (by repeat (first | exact hbW | refine ba ?_ _ | refine bd ?_)) | go_keep)
    ((first
      | (go_at_call 41; with_reducible show Calls _ _ #[.int .u64 (k.size : Int)] _ _; refine (H1.out _).mono ?_; rintro e' W1 ⟨rfl, hb1'⟩; replace hbW : Below wz.heap.size wz W1 := bb (by repeat (first | exact hbW | refine ba ?_ _ | refine bd ?_)) hb1'; clear hb1'; obtain ⟨k0, k1⟩ := HSB.out _ hbW)
      | (go_at_call 41; refine (H2.out _).mono ?_; rintro e' W1 ⟨rfl, hb1'⟩; replace hbW : Below wz.heap.size wz W1 := bb (by repeat (first | exact hbW | refine ba ?_ _ | refine bd ?_)) hb1'; clear hb1'; obtain ⟨k0, k1⟩ := HSB.out _ hbW)))
  all_goals (go_wp2_with fail; go_ret; exact ⟨by rw [← HE.out]; rfl, bb HB.out (by repeat (first | exact hbW | refine ba ?_ _ | refine bd ?_))⟩)
theorem enext_nil (w : World) : Calls Tryd.prog 25 #[.pointer none] w fun e w' => e = .returned (.tuple #[.agg #[.string ByteArray.empty, .string ByteArray.empty], .int .i64 25]) ∧ Below w.heap.size w w' := by
  have HX := Lib.hid (BlkAt.made w 59 #[.string ⟨#[]⟩, .string ⟨#[]⟩])
  have HB := Lib.hid (ba (a := w) b0 (.cells #[.string ⟨#[]⟩, .string ⟨#[]⟩] 59))
  have HT := Lib.hid (etext_nil (w.alloc (.cells #[.string ⟨#[]⟩, .string ⟨#[]⟩] 59)))
  go_enter Tryd.func25, Tryd.ntmps25
  go_wp2_with fail
  refine HT.out.mono ?_
  rintro e w1 ⟨rfl, hb1⟩
  have hx1 := HX.out.below hb1 HX.out.lt
  have c0 := hx1.cell 0
  have c1 := hx1.cell 1
  have f0 := hx1.free 0
  have f1 := hx1.free 1
  simp at c0 c1
  have HB1 := Lib.hid (bb HB.out hb1)
  have hsz := HB1.out.size
  have HE : Hid (∀ w', Tch (fun j => j = w.heap.size) w1 w' → Below w.heap.size w w') := fun w' ht => HB1.out.trans (ht.toBelowB hsz fun g hg e => by omega)
  clear hb1 hx1
  go_wp2_with fail
  refine bodyPost_ret (v := .tuple #[.agg #[.string ByteArray.empty, .string ByteArray.empty], .int .i64 25]) (by simp [results, Tryd.results25, go_sem, c0, c1]; try rfl) rfl ⟨rfl, HE.out _ (res_two _ _ _ _)⟩
theorem exam11 : txt (eput [97] [98, 99]) = ⟨#[1, 97, 2, 98, 99]⟩ := by
  have e1 : vput 1 = [1] := by rw [vput_small (by omega)]; rfl
  have e2 : vput 2 = [2] := by rw [vput_small (by omega)]; rfl
  show txt (vput 1 ++ ([97] ++ (vput 2 ++ [98, 99]))) = _
  rw [e1, e2]
  rfl
theorem exam11c : echk [97] [98, 99] = 0 := by
  have h1 : ugood [97] = true := by rw [ugood_step (by decide)]; exact ugood_nil
  have h2 : ugood [98, 99] = true := by
    rw [ugood_step (by decide)]
    show ugood [99] = true
    rw [ugood_step (by decide)]; exact ugood_nil
  unfold echk uchk
  rw [h1, h2]
  decide
theorem awake11 (w : World) (hT : Tabs w) :
    Calls Tryd.prog 22 #[] w fun e w' => e = .returned (.bool true) ∧ Below w.heap.size w w' := by
  have hx := BlkAt.made w 59 #[.string ⟨#[97]⟩, .string ⟨#[98, 99]⟩]
  have hb0 := ba (a := w) b0 (.cells #[.string ⟨#[97]⟩, .string ⟨#[98, 99]⟩] 59)
  have HA := Lib.hid (awakeE10 (w.alloc (.cells #[.string ⟨#[97]⟩, .string ⟨#[98, 99]⟩] 59)) (hT.below hb0))
  have HX := Lib.hid hx
  have HB := Lib.hid hb0
  have HP : Hid (∀ x : World, Calls Tryd.prog 24 #[.agg #[.string ⟨#[97]⟩, .string ⟨#[98, 99]⟩]] x fun e w' => e = .returned (.string ⟨#[1, 97, 2, 98, 99]⟩) ∧ Below x.heap.size x w') := fun x => by
    have := eput_any ⟨#[97]⟩ ⟨#[98, 99]⟩ x (by decide) (by decide)
    rw [show (ByteArray.mk #[97]).data.toList = [97] from rfl, show (ByteArray.mk #[98, 99]).data.toList = [98, 99] from rfl, exam11] at this
    exact this
  have HC : Hid (∀ x : World, Below w.heap.size w x → Calls Tryd.prog 26 #[.agg #[.string ⟨#[97]⟩, .string ⟨#[98, 99]⟩]] x fun e w' => e = .returned (.int .i64 0) ∧ Below x.heap.size x w') := fun x hx => by
    have := echeck_any ⟨#[97]⟩ ⟨#[98, 99]⟩ x (by decide) (by decide) (hT.below hx)
    rw [show (ByteArray.mk #[97]).data.toList = [97] from rfl, show (ByteArray.mk #[98, 99]).data.toList = [98, 99] from rfl, exam11c] at this
    exact this
  clear hx hb0 hT
  go_enter Tryd.func22, Tryd.ntmps22
  go_wp2_with fail
  refine HA.out.mono ?_
  rintro e w1 ⟨rfl, hb1⟩
  have HX1 := Lib.hid (HX.out.below hb1 HX.out.lt)
  have HB1 := Lib.hid (bb HB.out hb1)
  have c0 := HX1.out.cell 0
  have c1 := HX1.out.cell 1
  simp at c0 c1
  clear hb1
  go_wp2_with fail
  refine (HP.out _).mono ?_
  rintro e w2 ⟨rfl, hb2⟩
  have HX2 := Lib.hid (HX1.out.below hb2 HX1.out.lt)
  have HB2 := Lib.hid (bb HB1.out hb2)
  clear c0 c1 hb2
  have c0 := HX2.out.cell 0
  have c1 := HX2.out.cell 1
  simp at c0 c1
  go_wp2_with fail
  refine (HC.out _ HB2.out).mono ?_
  rintro e w3 ⟨rfl, hb3⟩
  have HB3 := Lib.hid (bb HB2.out hb3)
  clear hb3
  go_wp2_with fail
  go_ret
  exact ⟨rfl, HB3.out⟩
end Go.Proofs.YtigbifiicbghpaaDoor
end
