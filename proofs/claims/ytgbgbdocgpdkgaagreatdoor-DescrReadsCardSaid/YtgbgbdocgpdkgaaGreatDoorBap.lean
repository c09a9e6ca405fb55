/-
  Texts of the proof, joined: Open5 Descr7 Descr8 DescrLaw2. Conditions: as each names.
-/
import Derived.Test.YtgbgbdocgpdkgaaGreatDoorBao
import Derived.Test.YtgbgbdocgpdkgaaGreatDoorBaf
import Derived.Test.YtgbgbdocgpdkgaaGreatDoorBai
import Derived.Laws.MakeOwn
import Derived.Test.YtgbgbdocgpdkgaaGreatDoorBam

section
/-
  Arguments opened: a slice of entries. Plain theorems, over any program.
-/
namespace Go.Proofs.YtgbgbdocgpdkgaaGreatDoor
open Go.RowKit Go.ChangeShapes Go.WideShapes Go.Deep Go.PM
section
variable {H : Type} {enc : TypeId × Value → H} {P : Program} {w : World} {spare : Nat → Bool} {held : Bool}
theorem weightsAll_mem {e : TypeId} {n : Nat} : ∀ {ds : List (DataW H)} {d : DataW H}, d ∈ ds → n ∈ DataW.weights P e d → n ∈ DataW.weightsAll P e ds
  | [], _, h, _ => by cases h
  | x :: r, d, h, hn => by
    rw [DataW.weightsAll, List.mem_append]
    rcases List.mem_cons.1 h with rfl | h
    · exact .inl hn
    · exact .inr (weightsAll_mem h hn)
theorem open_ents {t e : TypeId} {f0 f1 : Field} {a : Option Addr} {len cap : Nat} {d : DataW H} {ps : List MemPlace} (ht : P.underlying t = some (.slice e)) (he : P.underlying e = some (.struct #[f0, f1])) (ce : P.cellsOf e = 2)
    (o : f0.offset = 0 ∧ f1.offset = 1) (c : P.cellsOf f0.type = 1 ∧ P.cellsOf f1.type = 1) (t0 : P.underlying f0.type = some .string) (t1 : P.underlying f1.type = some .string)
    (h : DataW.Trod enc P w 0 spare held t (.slice a len cap) d ps) (hw : ∀ n ∈ DataW.weights P t d, n ≤ 140737488351232) :
    ∃ l : List Ent, l.length = len ∧ Rd w a (ents l) ∧ ESz l ∧ len ≤ cap ∧ cap ≤ maxLen := by
  obtain ⟨fuel, hf⟩ := h
  obtain ⟨o0, o1⟩ := o
  obtain ⟨c0, c1⟩ := c
  rcases open_slice ht hf with ⟨hcs, _⟩ | ⟨x, ln, c', m, n, D, Pl, hcs, _, hl, hm, hmm, hx, hall⟩
  · simp [Value.cells] at hcs
    obtain ⟨rfl, rfl, rfl⟩ := hcs
    exact ⟨[], rfl, .inl rfl, (fun e he => by cases he), by omega, by unfold maxLen; omega⟩
  · simp [Value.cells] at hcs
    obtain ⟨rfl, rfl, rfl⟩ := hcs
    injection hx with hd _
    have hlm : len ≤ m := by rw [hmm]; split <;> omega
    by_cases hz : len = 0
    · subst hz
      exact ⟨[], rfl, .inl rfl, (fun e he => by cases he), hl, hm⟩
    obtain ⟨b, off, spot⟩ := x
    have hs : spot = none := by
      obtain ⟨cs, h1, _⟩ := hall 0 (by omega)
      obtain ⟨_, hlen, hcell⟩ := World.cells?_some h1
      have h0 := hcell 0 (by rw [ce]; decide)
      rw [List.getElem?_eq_getElem (by omega)] at h0
      simpa [Addr.add] using World.cell?_spot h0
    subst hs
    have ha : ∀ q j, (⟨b, q, none⟩ : Addr).add j = ⟨b, q + j, none⟩ := fun q j => by unfold Addr.add; split <;> simp_all
    have each : ∀ i, i < len → ∃ y : Ent, w.cell? ⟨b, off + i * 2, none⟩ = some (.string (txt y.1)) ∧ w.cell? ⟨b, off + i * 2 + 1, none⟩ = some (.string (txt y.2)) ∧ y.1.length ≤ 140737488351232 ∧ y.2.length ≤ 140737488351232 := by
      intro i hi
      obtain ⟨cs, h1, h2⟩ := hall i (by omega)
      obtain ⟨_, hlen, hcell⟩ := World.cells?_some h1
      rw [ce] at hlen hcell
      obtain ⟨xs, k, _, hxe, _, hxl, hf2⟩ := DataW.trod_struct he h2
      match xs, hxl, cs, hlen with
      | [y0, y1], _, [v0, v1], _ =>
        have g0 := hf2 0 f0 rfl
        have g1 := hf2 1 f1 rfl
        simp [o0, o1, c0, c1] at g0 g1
        obtain ⟨s0, e0, q0, _⟩ := DataW.trod_string t0 g0
        obtain ⟨s1, e1, q1, _⟩ := DataW.trod_string t1 g1
        simp only [List.cons.injEq, and_true] at e0 e1
        subst e0 e1 q0 q1
        have k0 := hcell 0 (by decide)
        have k1 := hcell 1 (by decide)
        rw [ha, ha] at k0 k1
        injection hxe with hxd _
        have hin : ∀ q ∈ DataW.weights P e (D i), q ≤ 140737488351232 := fun q hq => by
          refine hw q ?_
          rw [hd]
          unfold DataW.weights
          rw [ht]
          simp only [List.mem_cons, List.mem_append]
          exact .inr (.inl (weightsAll_mem (List.mem_map.2 ⟨i, List.mem_range.2 hi, rfl⟩) hq))
        rw [hxd] at hin
        have hwe : DataW.weights (H := H) P e (.agg [.lit (.string s0.data.toList), .lit (.string s1.data.toList)]) = [s0.data.toList.length, s1.data.toList.length] := by
          simp [DataW.weights, DataW.weightsEach, he]
        simp only [List.map_cons, List.map_nil] at hin
        rw [hwe] at hin
        exact ⟨(s0.data.toList, s1.data.toList), by rw [txt_of]; simpa using k0, by rw [txt_of]; simpa using k1, hin _ (by simp), hin _ (by simp)⟩
    obtain ⟨q, hq⟩ := choose_lt each
    have hb : b < w.heap.size := World.block_lt_of_cell? w _ (hq 0 (by omega)).1
    have hlq : ((List.range len).map q).length = len := by simp
    refine ⟨(List.range len).map q, hlq, .inr ⟨b, off, rfl, hb, fun j u hj => ?_⟩, fun y hy => ?_, hl, hm⟩
    · have hjl : j < len * 2 := by
        have := (List.getElem?_eq_some_iff.1 hj).1
        rw [ents_len, hlq] at this
        exact this
      obtain ⟨p1, p2⟩ := ents_at ((List.range len).map q) (j / 2) (by rw [hlq]; omega)
      simp only [List.getElem_map, List.getElem_range] at p1 p2
      obtain ⟨r1, r2, _⟩ := hq (j / 2) (by omega)
      by_cases hj2 : j % 2 = 0
      · have e1 : j = j / 2 * 2 := by omega
        rw [e1, p1] at hj
        injection hj with hj
        rw [e1, r1, hj]
      · have e1 : j = j / 2 * 2 + 1 := by omega
        rw [e1, p2] at hj
        injection hj with hj
        rw [e1, ← Nat.add_assoc, r2, hj]
    · obtain ⟨i, hi, rfl⟩ := List.mem_map.1 hy
      exact (hq i (List.mem_range.1 hi)).2.2
end
end Go.Proofs.YtgbgbdocgpdkgaaGreatDoor
end

section
/-
  Layer 12: a descriptor read of a cursor, and of a whole text. Conditions: a cursor that stands within its text; Go's tables of UTF-8 lie in memory.
-/
namespace Go.Proofs.YtgbgbdocgpdkgaaGreatDoor
open Go.RowKit Go.PM
set_option maxRecDepth 100000
set_option maxHeartbeats 4000000
attribute [local go_sem ↓] Go.wp_at_zero Go.wp_at_succ

/-- Some entries that were read, of so many bytes, and what comes behind. -/
def dcat (L : List Ent) (a : Nat) (R : List Ent × Nat × Int) : List Ent × Nat × Int := if R.2.2 ≠ 0 then ([], 0, R.2.2) else (L ++ R.1, a + R.2.1, 0)
theorem dloop_err : ∀ (n : Nat) (p : Option (List UInt8)) (s : List UInt8), (dloop echk n p s).2.2 ≠ 0 → dloop echk n p s = ([], 0, (dloop echk n p s).2.2)
  | 0, p, s, h => absurd rfl h
  | n + 1, p, s, h => by
    rw [dloop] at h ⊢
    split
    · rfl
    · split
      · rfl
      · split
        · rfl
        · rename_i h1 h2 h3
          rw [if_neg h1, if_neg h2, if_neg h3] at h
          exact absurd rfl h
theorem dcat_nil (n : Nat) (p : Option (List UInt8)) (s : List UInt8) : dloop echk n p s = dcat [] 0 (dloop echk n p s) := by
  unfold dcat
  by_cases h : (dloop echk n p s).2.2 ≠ 0
  · rw [if_pos h]
    exact dloop_err n p s h
  · rw [if_neg h, List.nil_append, Nat.zero_add]
    have h2 : (dloop echk n p s).2.2 = 0 := by omega
    rw [← h2]
theorem dcat_err (L : List Ent) (a : Nat) (E : Int) (h : E ≠ 0) : dcat L a ([], 0, E) = ([], 0, E) := by
  unfold dcat
  rw [if_pos h]
theorem dcat_end (L : List Ent) (a : Nat) : dcat L a ([], 0, 0) = (L, a, 0) := by
  unfold dcat
  rw [if_neg (by simp), List.append_nil, Nat.add_zero]
theorem dcat_two (L M : List Ent) (a m : Nat) (R : List Ent × Nat × Int) : dcat L a (dcat M m R) = dcat (L ++ M) (a + m) R := by
  unfold dcat
  by_cases h : R.2.2 ≠ 0
  · rw [if_pos h, if_pos h, if_pos h]
  · rw [if_neg h, if_neg h, if_neg (by simp), List.append_assoc, Nat.add_assoc]
theorem dloop_step (n : Nat) (p : Option (List UInt8)) (s : List UInt8) : dloop echk (n + 1) p s = if (enx echk s).2.2 ≠ 0 then ([], 0, (enx echk s).2.2) else if dbehO p (enx echk s).1.1 ≠ 0 then ([], 0, dbehO p (enx echk s).1.1)
    else dcat [(enx echk s).1] (enx echk s).2.1 (dloop echk n (some (enx echk s).1.1) (s.drop (enx echk s).2.1)) := by
  rw [dloop]
  rfl
theorem pk_app (L : List Ent) (e : Ent) : pk (L ++ [e]) (L.length + 1) = some e.1 := by
  rw [pk_succ _ _ (by simp)]
  simp
/-- The end of reading a descriptor. -/
def DNextEnd (w : World) (b : Nat) (s : ByteArray) (k : Nat) (e : Ending) (w' : World) : Prop :=
  ∃ (k' : Nat) (v : Value), e = .returned (.tuple #[v, .int .i64 (dnext echk (s.data.toList.drop k)).2.2]) ∧ SlE w' v (dnext echk (s.data.toList.drop k)).1 ∧ Cur w' b s k' ∧ ((dnext echk (s.data.toList.drop k)).2.2 = 0 → k' = k + (dnext echk (s.data.toList.drop k)).2.1) ∧ w.grownBy w' (some b)
theorem sle_nil7 (w : World) : SlE w (.slice none 0 0) [] := ⟨none, 0, rfl, .inl rfl, Nat.le_refl _⟩
/-- Where the loop of Next stands: D is what comes of it. -/
def DnAt (wM : World) (b : Nat) (s : ByteArray) (k1 n : Nat) (D : List Ent × Nat × Int) (i : Nat) (out : Value) (wr : World) : Prop :=
  ∃ (L : List Ent) (a : Nat), L.length = i ∧ wr.ownsRow wM.heap.size 32 2 out i (ents L) ∧ Cur wr b s (k1 + a) ∧ D = dcat L a (dloop echk (n - i) (pk L i) (s.data.toList.drop (k1 + a))) ∧ wM.grownBy wr (some b)
theorem dnext_any (W0 : World) (hT : Tabs W0) (b : Nat) (s : ByteArray) (k : Nat) (w : World) (h0 : Below W0.heap.size W0 w) (hWb : W0.heap.size ≤ b) (h : Cur w b s k) :
    Calls Tryz.prog 24 #[.pointer (some ⟨b, 0, none⟩)] w (DNextEnd w b s k) := by
  have hbl := h.1.lt
  have HN := Lib.hid (next_any b s k w h)
  have HT := Lib.hid hT
  have H0 := Lib.hid h0
  obtain ⟨i0, hi0, hz0, hz1, hz2⟩ := info_parts info_ent
  clear h h0 hT
  obtain ⟨X, hX⟩ : ∃ X, X = dnext echk (s.data.toList.drop k) := ⟨_, rfl⟩
  have HEND : Hid (∀ (k' : Nat) (v : Value) (w' : World), SlE w' v X.1 → Cur w' b s k' → (X.2.2 = 0 → k' = k + X.2.1) → w.grownBy w' (some b) → DNextEnd w b s k (.returned (.tuple #[v, .int .i64 X.2.2])) w') := fun k' v w' h1 h2 h3 h4 => by
    unfold DNextEnd
    rw [← hX]
    exact ⟨k', v, rfl, h1, h2, h3, h4⟩
  unfold dnext at hX
  by_cases hv : (vget (s.data.toList.drop k)).2.2 = 0
  · rw [if_neg (by rw [hv]; simp)] at hX
    obtain ⟨v1, v2, v3, v4, v5⟩ := vget_ok hv
    have HN2 : Hid (Calls Tryz.prog 46 #[.pointer (some ⟨b, 0, none⟩)] w fun e w' => e = .returned (.tuple #[.int .u64 ((vget (s.data.toList.drop k)).1 : Int), .int .i64 0]) ∧ Cur w' b s (k + (vget (s.data.toList.drop k)).2.1) ∧ w.grownBy w' (some b)) := by
      have := HN.out
      rw [hv] at this
      exact this
    have hdd : ∀ m : Nat, ((s.data.toList.drop k).drop m) = s.data.toList.drop (k + m) := fun m => by rw [List.drop_drop]
    rw [hdd] at hX
    have hn64 : (vget (s.data.toList.drop k)).1 < 18446744073709551616 := by omega
    clear HN hv v5 v1 v2 v3 v4 hdd
    generalize (vget (s.data.toList.drop k)).1 = n at *
    generalize hmm : (vget (s.data.toList.drop k)).2.1 = m at *
    clear hmm
    have HM := Lib.hid (fun x : World => many_any n x)
    by_cases hm : dmany n = 0
    · rw [if_neg (by rw [hm]; simp)] at hX
      rw [hm] at HM
      have hn16 : n ≤ 16 := by
        unfold dmany at hm
        by_cases h0 : n = 0
        · omega
        by_cases h1 : 16 < n
        · rw [if_neg h0, if_pos h1] at hm; exact absurd hm (by decide)
        omega
      clear hm hn64
      generalize hD : dloop echk n none (s.data.toList.drop (k + m)) = D at hX
      have HEN2 : Hid (∀ (L : List Ent) (a : Nat) (v : Value) (w' : World), D = (L, a, 0) → SlE w' v L → Cur w' b s (k + m + a) → w.grownBy w' (some b) → DNextEnd w b s k (.returned (.tuple #[v, .int .i64 0])) w') := fun L a v w' hd hs hc hg => by
        rw [hd, if_neg (by simp)] at hX
        have := HEND.out (k + m + a) v w' (by rw [hX]; exact hs) hc (fun _ => by rw [hX]; simp only; omega) hg
        rw [hX] at this
        exact this
      have HEN3 : Hid (∀ (E : Int) (k' : Nat) (w' : World), E ≠ 0 → D = ([], 0, E) → Cur w' b s k' → w.grownBy w' (some b) → DNextEnd w b s k (.returned (.tuple #[.slice none 0 0, .int .i64 E])) w') := fun E k' w' hE hd hc hg => by
        rw [hd, if_pos hE] at hX
        have := HEND.out k' (.slice none 0 0) w' (by rw [hX]; exact sle_nil7 w') hc (fun h => by rw [hX] at h; exact absurd h hE) hg
        rw [hX] at this
        exact this
      clear hX HEND
      have HD : Hid (D = dcat [] 0 (dloop echk (n - 0) (pk [] 0) (s.data.toList.drop (k + m + 0)))) := by
        show _ = _
        rw [← hD]
        exact dcat_nil n none _
      clear hD
      have wn : IntKind.i64.wrap (n : Int) = (n : Int) := by rw [IntKind.wrap_i64]; omega
      go_enter Tryz.func24, Tryz.ntmps24
      go_wp2_with fail
      refine HN2.out.mono ?_
      rintro e w1 ⟨rfl, hc1, hg1⟩
      have HC1 := Lib.hid hc1
      have HG1 := Lib.hid hg1
      clear hc1 hg1 HN2
      go_wp2_with fail
      refine (HM.out w1).mono ?_
      rintro e w2 ⟨rfl, rfl⟩
      obtain ⟨wM, hmk, hown, hgM⟩ := run_make_own (P := Tryz.prog) w2 w2.heap.size 25 32 i0 zent 2 Tryz.underlying25 hi0 hz0 hz1 .i64 .u64 n (by rw [hz2]; omega) (by unfold maxLen; omega) (Nat.le_refl _)
      have hbw2 : b < w2.heap.size := HC1.out.1.lt
      have hS0 : DnAt w2 b s (k + m) n D 0 (.slice (some ⟨w2.heap.size, 0, none⟩) 0 n) wM :=
        ⟨[], 0, rfl, hown, ⟨HC1.out.1.step hgM (by simp), HC1.out.2⟩, HD.out, grown_of_below (below_of_grown hgM) _⟩
      have HS0 := Lib.hid hS0
      clear hown hgM hS0 HM
      go_wp2_with fail
      clear hmk
      go_loopg [7, 29] n (fun gk out vi wr => ∃ i : Nat, i ≤ n ∧ n - i ≤ gk ∧ vi = .int .i64 (i : Int) ∧ Hid (DnAt w2 b s (k + m) n D i out wr))
      case atStart => exact ⟨0, Nat.zero_le _, by omega, rfl, HS0⟩
      case round =>
        obtain ⟨i, hi, hgk, rfl, HS⟩ := hrel
        obtain ⟨L, a, hLi, hown, hcur, hd, hg⟩ := HS.out
        have hbase := (below_of_row (B := W0.heap.size) HG1.out hWb (H0.out.size))
        have hW0r : Below W0.heap.size W0 wr := (H0.out.trans hbase).trans (below_of_row hg hWb (Nat.le_trans H0.out.size HG1.out.size))
        have hgw : w.grownBy wr (some b) := grown_trans HG1.out hg fun x e _ => e
        obtain ⟨A1, c1, hA1, hrd, hlc, _⟩ := Rd.own hown
        by_cases hlt : i < n
        · obtain ⟨r, hr⟩ : ∃ r, n - i = r + 1 := ⟨n - i - 1, by omega⟩
          rw [hr, dloop_step] at hd
          have HEX := Lib.hid (enext_any W0 HT.out b s (k + m + a) wr hW0r hWb hcur)
          have hsz0 := hg.size
          unfold ENextEnd at HEX
          have hdd : ∀ q : Nat, ((s.data.toList.drop (k + m + a)).drop q) = s.data.toList.drop (k + m + (a + q)) := fun q => by rw [List.drop_drop, Nat.add_assoc]
          rw [hdd] at hd
          generalize enx echk (s.data.toList.drop (k + m + a)) = X2 at *
          obtain ⟨⟨x0, x1⟩, q, E⟩ := X2
          simp only at hd HEX
          subst hA1
          have HD2 := Lib.hid hd
          have HOWN := Lib.hid hown
          have HRD := Lib.hid hrd
          have HG := Lib.hid hg
          have HGW := Lib.hid hgw
          clear hd hown hrd hg hgw hcur hW0r hbase HS HS0 HD hdd
          by_cases hE : E = 0
          · subst hE
            have hd := HD2.out
            rw [if_neg (by simp)] at hd
            have HD3 := Lib.hid hd
            clear hd HD2
            go_wp2_with fail
            refine HEX.out.mono ?_
            rintro e w3 ⟨k3, rfl, hc3, hk3, hg3⟩
            have hk3' : k3 = k + m + (a + q) := by have := hk3 trivial; omega
            subst hk3'
            have hx3 := BlkAt.made w3 32 #[.string (txt x0), .string (txt x1)]
            have hbo := ba (a := w3) b0 (.cells #[.string (txt x0), .string (txt x1)] 32)
            have hown4 := own_below (own_far HOWN.out hg3 hbw2) hbo
            have hc4 : Cur (w3.alloc (.cells #[.string (txt x0), .string (txt x1)] 32)) b s (k + m + (a + q)) := ⟨hc3.1.more _, hc3.2⟩
            have hg4 : w2.grownBy (w3.alloc (.cells #[.string (txt x0), .string (txt x1)] 32)) (some b) := grown_more (grown_trans HG.out hg3 fun x e _ => e) _
            have hgw4 : w.grownBy (w3.alloc (.cells #[.string (txt x0), .string (txt x1)] 32)) (some b) := grown_more (grown_trans HGW.out hg3 fun x e _ => e) _
            have hsz4 := hg4.size
            have HX3 := Lib.hid hx3
            have HOWN4 := Lib.hid hown4
            have HC4 := Lib.hid hc4
            have HG4 := Lib.hid hg4
            have HGW4 := Lib.hid hgw4
            have e0 := hx3.cell 0
            have e1 := hx3.cell 1
            simp at e0 e1
            have hlw3 := hx3.lt
            clear hx3 hbo hown4 hc4 hg4 hgw4 hc3 hg3 hk3 HEX HOWN HRD HG HGW
            have HAPP : Hid (∀ (w5 : World), Below (w3.alloc (.cells #[.string (txt x0), .string (txt x1)] 32)).heap.size (w3.alloc (.cells #[.string (txt x0), .string (txt x1)] 32)) w5 → dbehO (pk L i) x0 = 0 → ∃ (c' : Nat) (A' : Option Addr) (w' : World), (Builtin.append_ #[25, 25] 25 #[.slice A1 i c1, .slice (some ⟨w5.heap.size, 0, none⟩) 1 1]).run Tryz.prog (w5.alloc (.cells #[.string (txt x0), .string (txt x1)] 32)) = .ok (.slice A' (i + 1) c') w' ∧ DnAt w2 b s (k + m) n D (i + 1) (.slice A' (i + 1) c') w') := fun w5 hb5 hbh => by
              have hbo := ba hb5 (.cells #[.string (txt x0), .string (txt x1)] 32)
              have hy := World.news_of_block (cs := #[.string (txt x0), .string (txt x1)]) (t := 32) (fr := (0, 0)) (heap_alloc_new w5 (.cells #[.string (txt x0), .string (txt x1)] 32))
              have hrdn : Rd (w5.alloc (.cells #[.string (txt x0), .string (txt x1)] 32)) (some ⟨w5.heap.size, 0, none⟩) (ents [(x0, x1)]) := by
                refine .inr ⟨_, _, rfl, by simp, fun j u hj => ?_⟩
                have := hy j u hj
                rwa [add_at, ← Nat.zero_add j] at this
              have hown5 := own_below HOWN4.out hbo
              have hszb := hbo.size
              subst hLi
              obtain ⟨A2, c2, w6, hrun, hown6, hgr, hat⟩ := eapp_run 25 25 32 i0 Tryz.underlying25 hi0 hz0 hz1 hz2 (d := 1) hown5 hrdn (by simp only [List.length_singleton]; omega) (by omega)
              have hfar : ∀ g, (Value.slice A1 L.length c1).ownBlock = some g → w2.heap.size ≤ g := fun g h => (hown5.lt g h).1
              have hgg : w2.grownBy w6 (some b) := by
                have h1 : w2.grownBy (w5.alloc (.cells #[.string (txt x0), .string (txt x1)] 32)) (some b) := grown_trans HG4.out (grown_of_below hbo (some b)) fun x e _ => e
                exact grown_trans h1 hgr fun x e hx => by have := hfar x e; omega
              refine ⟨c2, A2, w6, hrun, L ++ [(x0, x1)], a + q, by simp, hown6, ⟨(HC4.out.1.below hbo HC4.out.1.lt).step hgr ?_, HC4.out.2⟩, ?_, hgg⟩
              · intro e
                have := hfar b e.symm
                omega
              · have hd := HD3.out
                rw [if_neg (by rw [hbh]; simp), dcat_two] at hd
                rw [hd, pk_app, show n - (L.length + 1) = r by omega]
            have hgen5 : ∀ (w5 : World), Below (w3.alloc (.cells #[.string (txt x0), .string (txt x1)] 32)).heap.size (w3.alloc (.cells #[.string (txt x0), .string (txt x1)] 32)) w5 → Cur w5 b s (k + m + (a + q)) ∧ w.grownBy w5 (some b) := fun w5 hb => ⟨⟨HC4.out.1.below hb HC4.out.1.lt, HC4.out.2⟩, grown_trans HGW4.out (grown_of_below hb (some b)) fun x e _ => e⟩
            have HGEN := Lib.hid hgen5
            clear hgen5
            by_cases hi0 : i = 0
            · have hni : decide ((0 : Int) < (i : Int)) = false := decide_eq_false (by omega)
              have hni2 : decide (0 < i) = false := decide_eq_false (by omega)
              obtain ⟨c', A', w', hrun, hN⟩ := HAPP.out _ b0 (by rw [hi0, pk_zero]; rfl)
              simp only [World.size_alloc] at hrun
              have HRUN := Lib.hid hrun
              have HNX := Lib.hid hN
              clear hrun hN HAPP HD3 hi0
              go_wp2_with (at_builtin; (refine wpList_append_run rfl _ _ _ _ rfl _ _ _ rfl rfl HRUN.out ?_))
              go_roundg (n - (i + 1))
              case measure => omega
              case rel => exact ⟨i + 1, by omega, Nat.le_refl _, by go_num, HNX⟩
            · obtain ⟨j, rfl⟩ : ∃ j, i = j + 1 := ⟨i - 1, by omega⟩
              have hji : ((j + 1 : Nat) : Int) - 1 = (j : Int) := by omega
              have hjl : j < L.length := by omega
              have hj1 : (j : Int) < ((j + 1 : Nat) : Int) := by omega
              have hj2 : (0 : Int) < ((j + 1 : Nat) : Int) := by omega
              go_wp2_with fail
              generalize hw4 : w3.alloc (.cells #[.string (txt x0), .string (txt x1)] 32) = w4 at *
              generalize hp4 : w3.heap.size = p4 at *
              clear hw4 hp4
              have hrd5 := Rd.own HOWN4.out
              obtain ⟨A9, c9, hv9, hrd9, _, _⟩ := hrd5
              injection hv9 with f1 f2 f3
              subst f1 f3
              obtain ⟨g, off, hAg, hgl, d0, _⟩ := hrd9.ent hjl
              subst hAg
              have hpk : pk L (j + 1) = some (L[j]).1 := pk_succ L j hjl
              rw [hpk] at HD3 HAPP
              generalize L[j] = y at *
              obtain ⟨y0, y1⟩ := y
              simp only at d0 HD3 HAPP
              obtain ⟨B, hBd⟩ : ∃ B, B = dbeh y0 x0 := ⟨_, rfl⟩
              have HBH : Hid (∀ n : BelW w4, Calls Tryz.prog 43 #[.string (txt y0), .string (txt x0)] n.wld fun e w' => e = .returned (.int .i64 B) ∧ Below n.wld.heap.size n.wld w') := fun n => (behind_any (txt y0) (txt x0) n.wld).mono fun e w' ⟨h1, h2⟩ => ⟨by rw [h1, hBd]; rfl, by rw [h2]; exact b0⟩
              have n0 : ∀ n : BelW w4, n.wld.cell? ⟨g, off + j * 2, none⟩ = some (.string (txt y0)) := fun n => (World.cell?_of_block (a := ⟨g, off + j * 2, none⟩) (n.bel.block g hgl)).trans d0
              have n1 : ∀ n : BelW w4, n.wld.cell? ⟨p4, 0, none⟩ = some (.string (txt x0)) := fun n => (HX3.out.below n.bel HX3.out.lt).cell 0
              have HAP2 : Hid (B = 0 → ∀ (w5 : World), Below w4.heap.size w4 w5 → _) := fun hB w5 hb5 => HAPP.out w5 hb5 (by rw [← hB, hBd]; rfl)
              have HER : Hid (B ≠ 0 → D = ([], 0, B)) := fun hB => by
                have hd := HD3.out
                change D = dcat L a (if dbeh y0 x0 ≠ 0 then ([], 0, dbeh y0 x0) else _) at hd
                rw [← hBd, if_pos hB, dcat_err L a B hB] at hd
                exact hd
              clear d0 hpk hrd9 HD3 HAPP hBd
              by_cases hB : B = 0
              · have HAP3 := Lib.hid (HAP2.out hB)
                subst hB
                clear HAP2 HER
                refine wp_region_below_lit (by kernel_rfl) (by kernel_rfl) ?_
                repeat (first | go_big_quiet_skip | (go_big_quiet_want; go_big_quiet_op; first | go_big_quiet_on | (apply Exists.intro; refine ⟨fun nq => ?_, ?_⟩; (go_at_call 43; exact below_of (HBH.out _)); go_big_quiet_on)))
                refine wpQuiet_nil ?_
                intro wq hnq
                obtain ⟨nq, rfl⟩ := hnq
                have hq := nq.bel
                generalize nq.wld = wq at hq ⊢
                clear nq
                obtain ⟨c', A', w', hrun, hN⟩ := HAP3.out _ hq
                have HRUN := Lib.hid hrun
                have HNX := Lib.hid hN
                have u0 := (HX3.out.below hq HX3.out.lt).cell 0
                have u1 := (HX3.out.below hq HX3.out.lt).cell 1
                simp at u0 u1
                clear hrun hN HAP3 n0 n1 HBH hq
                go_wp2_with (at_builtin; (refine wpList_append_run rfl _ _ _ _ rfl _ _ _ rfl rfl HRUN.out ?_))
                go_roundg (n - (j + 1 + 1))
                case measure => omega
                case rel => exact ⟨j + 1 + 1, by omega, Nat.le_refl _, by go_num, HNX⟩
              · have hBi : (B != 0) = true := by rw [bne_iff_ne]; exact hB
                have HE : Hid (∀ w', Below w4.heap.size w4 w' → DNextEnd w b s k (.returned (.tuple #[.slice none 0 0, .int .i64 B])) w') := fun w' hb => HEN3.out B _ w' hB (HER.out hB) (HGEN.out w' hb).1 (HGEN.out w' hb).2
                clear HAP2 HER hB
                refine wp_region_below_lit (by kernel_rfl) (by kernel_rfl) ?_
                repeat (first | go_big_quiet_skip | (go_big_quiet_want; go_big_quiet_op; first | go_big_quiet_on | (apply Exists.intro; refine ⟨fun nq => ?_, ?_⟩; (go_at_call 43; exact below_of (HBH.out _)); go_big_quiet_on)))
                refine wpQuiet_nil ?_
                intro wq hnq
                obtain ⟨nq, rfl⟩ := hnq
                have hq := nq.bel
                generalize nq.wld = wq at hq ⊢
                clear nq
                have HE2 := Lib.hid (HE.out _ hq)
                clear hq n0 n1 HBH HE
                go_wp2_with fail
                go_ret2
                exact HE2.out
          · have hEi : (E != 0) = true := by rw [bne_iff_ne]; exact hE
            have hd := HD2.out
            rw [if_pos hE, dcat_err L a E hE] at hd
            have HE : Hid (∀ k' w', Cur w' b s k' → w.grownBy w' (some b) → DNextEnd w b s k (.returned (.tuple #[.slice none 0 0, .int .i64 E])) w') := fun k' w' hc hg => HEN3.out E k' w' hE hd hc hg
            clear hd HD2 hE
            go_wp2_with fail
            refine HEX.out.mono ?_
            rintro e w3 ⟨k3, rfl, hc3, hk3, hg3⟩
            have HE2 := Lib.hid (HE.out k3 _ ⟨hc3.1.more (.cells #[.string (txt x0), .string (txt x1)] 32), hc3.2⟩ (grown_more (grown_trans HGW.out hg3 fun x e _ => e) _))
            clear hc3 hk3 hg3 HEX HE
            go_wp2_with fail
            go_ret2
            exact HE2.out
        · obtain rfl : i = n := by omega
          rw [Nat.sub_self, dloop, dcat_end] at hd
          subst hA1
          have hL2 : SlE wr (.slice A1 i c1) L := ⟨A1, c1, by rw [hLi], hrd, by rw [hLi]; exact hlc⟩
          have HE := Lib.hid (HEN2.out L a (.slice A1 i c1) wr hd hL2 hcur hgw)
          clear hd hown hrd hL2 hg hgw hcur hW0r hbase HS HS0 HD HEN2 HEN3 hLi
          go_wp2_with fail
          go_ret2
          exact HE.out
    · rw [if_pos hm] at hX
      have hmi : (dmany n != 0) = true := by rw [bne_iff_ne]; exact hm
      have HE : Hid (∀ k' w', Cur w' b s k' → w.grownBy w' (some b) → DNextEnd w b s k (.returned (.tuple #[.slice none 0 0, .int .i64 (dmany n)])) w') := fun k' w' hc hg => by
        have := HEND.out k' (.slice none 0 0) w' (by rw [hX]; exact sle_nil7 w') hc (fun h => by rw [hX] at h; exact absurd h hm) hg
        rw [hX] at this
        exact this
      generalize dmany n = E at *
      clear hm hX HEND
      go_enter Tryz.func24, Tryz.ntmps24
      go_wp2_with fail
      refine HN2.out.mono ?_
      rintro e w1 ⟨rfl, hc1, hg1⟩
      have HE1 := Lib.hid (HE.out _ w1 hc1 hg1)
      clear hc1 hg1
      go_wp2_with fail
      refine (HM.out _).mono ?_
      rintro e w2 ⟨rfl, rfl⟩
      go_wp2_with fail
      go_ret2
      exact HE1.out
  · have hve := vget_err hv
    rw [if_pos hv] at hX
    have hvi : (((vget (s.data.toList.drop k)).2.2 : Int) != 0) = true := by rw [bne_iff_ne]; omega
    have HE : Hid (∀ k' w', Cur w' b s k' → w.grownBy w' (some b) → DNextEnd w b s k (.returned (.tuple #[.slice none 0 0, .int .i64 ((vget (s.data.toList.drop k)).2.2 : Int)])) w') := fun k' w' hc hg => by
      have := HEND.out k' (.slice none 0 0) w' (by rw [hX]; exact sle_nil7 w') hc (fun h => by rw [hX] at h; simp only at h; omega) hg
      rw [hX] at this
      exact this
    generalize (vget (s.data.toList.drop k)).2.2 = G at *
    clear hve hv hX HEND
    go_enter Tryz.func24, Tryz.ntmps24
    go_wp2_with fail
    refine HN.out.mono ?_
    rintro e w1 ⟨rfl, hc1, hg1⟩
    have HE1 := Lib.hid (HE.out _ w1 hc1 hg1)
    clear hc1 hg1
    go_wp2_with fail
    go_ret2
    exact HE1.out
theorem dnext_nil (w : World) : Calls Tryz.prog 24 #[.pointer none] w fun e w' => e = .returned (.tuple #[.slice none 0 0, .int .i64 25]) ∧ Below w.heap.size w w' := by
  go_enter Tryz.func24, Tryz.ntmps24
  go_wp2_with fail
  refine (next_nil _).mono ?_
  rintro e w1 ⟨rfl, hb1⟩
  go_wp2_with fail
  go_ret2
  exact ⟨rfl, hb1⟩
end Go.Proofs.YtgbgbdocgpdkgaaGreatDoor
end

section
/-
  Layer 12: the descriptor whose key a whole text is. Conditions: a text within int; Go's tables of UTF-8 lie in memory.
-/
namespace Go.Proofs.YtgbgbdocgpdkgaaGreatDoor
open Go.RowKit Go.PM
set_option maxRecDepth 100000
set_option maxHeartbeats 2000000
attribute [local go_sem ↓] Go.wp_at_zero Go.wp_at_succ

/-- The end of Parse. -/
def DParseEnd (w : World) (s : ByteArray) (e : Ending) (w' : World) : Prop := ∃ v, e = .returned (.tuple #[v, .int .i64 (dparse echk s.data.toList).2]) ∧ SlE w' v (dparse echk s.data.toList).1 ∧ Below w.heap.size w w'
theorem dparse_any (s : ByteArray) (w : World) (hT : Tabs w) (hs : s.size ≤ 9223372036854775807) : Calls Tryz.prog 21 #[.string s] w (DParseEnd w s) := by
  have hb1 := ba (a := w) b0 (.cells #[.string s, .int .i64 0] 79)
  have HN := Lib.hid (dnext_any w hT w.heap.size s 0 (w.alloc (.cells #[.string s, .int .i64 0] 79)) hb1 (Nat.le_refl _) ⟨BlkAt.made w 79 #[.string s, .int .i64 0], Nat.zero_le _, hs⟩)
  unfold DNextEnd at HN
  rw [List.drop_zero] at HN
  have HB1 := Lib.hid hb1
  obtain ⟨Z, hZ⟩ : ∃ Z, Z = dparse echk s.data.toList := ⟨_, rfl⟩
  have HEND : Hid (∀ v w', SlE w' v Z.1 → Below w.heap.size w w' → DParseEnd w s (.returned (.tuple #[v, .int .i64 Z.2])) w') := fun v w' h1 h2 => by
    unfold DParseEnd
    rw [← hZ]
    exact ⟨v, rfl, h1, h2⟩
  unfold dparse at hZ
  rw [len_list] at hZ
  have hok : (dnext echk s.data.toList).2.2 = 0 → (dnext echk s.data.toList).2.1 ≤ s.size := fun h => by have := (dnext_ok h).1; rwa [len_list] at this
  clear hb1 hT
  generalize dnext echk s.data.toList = X at *
  obtain ⟨L, m, E⟩ := X
  simp only at HN hZ hok
  go_enter Tryz.func21, Tryz.ntmps21
  go_wp2_with fail
  refine (cur_over s w).mono ?_
  rintro e w1 ⟨rfl, rfl⟩
  by_cases hE : E = 0
  · subst hE
    rw [if_neg (by simp)] at hZ
    have hm := hok rfl
    go_wp2_with fail
    refine HN.out.mono ?_
    rintro e w2 ⟨k', v, rfl, hsl, hc, hk, hg⟩
    have hk2 : k' = m := by have := hk trivial; omega
    subst hk2
    have HB2 := Lib.hid (bg HB1.out hg (Nat.le_refl _))
    have HSL := Lib.hid hsl
    have HL := Lib.hid (cur_left w.heap.size s k' w2 hc)
    clear hsl hc hk hg HN HB1 hok
    obtain ⟨A, c, rfl, _, _⟩ := HSL.out
    by_cases hlt : k' < s.size
    · rw [if_pos hlt] at hZ
      have HE : Hid (∀ w', Below w.heap.size w w' → DParseEnd w s (.returned (.tuple #[.slice none 0 0, .int .i64 10])) w') := fun w' hb => by
        have := HEND.out (.slice none 0 0) w' (by rw [hZ]; exact sle_nil7 w') hb
        rw [hZ] at this
        exact this
      have hgt : (0 : Int) < (s.size : Int) - (k' : Int) := by omega
      clear hZ HEND
      go_wp2_with fail
      refine HL.out.mono ?_
      rintro e w3 ⟨rfl, hb3⟩
      have HE2 := Lib.hid (HE.out _ (bb HB2.out hb3))
      clear hb3 HE
      go_wp2_with fail
      go_ret2
      exact HE2.out
    · rw [if_neg hlt] at hZ
      have HE : Hid (∀ w', Below w2.heap.size w2 w' → DParseEnd w s (.returned (.tuple #[.slice A L.length c, .int .i64 0])) w') := fun w' hb => by
        obtain ⟨A', c', h1, h2, h3⟩ := HSL.out
        have := HEND.out (.slice A L.length c) w' (by rw [hZ]; exact ⟨A', c', h1, h2.below hb, h3⟩) (bb HB2.out hb)
        rw [hZ] at this
        exact this
      have hgt : ¬ (0 : Int) < (s.size : Int) - (k' : Int) := by omega
      clear hZ HEND
      go_wp2_with fail
      refine HL.out.mono ?_
      rintro e w3 ⟨rfl, hb3⟩
      have HE2 := Lib.hid (HE.out _ hb3)
      clear hb3 HE
      go_wp2_with fail
      go_ret2
      exact HE2.out
  · rw [if_pos hE] at hZ
    have hEi : (E != 0) = true := by rw [bne_iff_ne]; exact hE
    have HE : Hid (∀ w', Below w.heap.size w w' → DParseEnd w s (.returned (.tuple #[.slice none 0 0, .int .i64 E])) w') := fun w' hb => by
      have := HEND.out (.slice none 0 0) w' (by rw [hZ]; exact sle_nil7 w') hb
      rw [hZ] at this
      exact this
    clear hZ HEND hE hok
    go_wp2_with fail
    refine HN.out.mono ?_
    rintro e w2 ⟨k', v, rfl, hsl, hc, hk, hg⟩
    have HB2 := Lib.hid (HE.out _ (bg HB1.out hg (Nat.le_refl _)))
    obtain ⟨A, c, rfl, _, _⟩ := hsl
    clear hc hk hg HN HB1 HE
    go_wp2_with fail
    go_ret2
    exact HB2.out
end Go.Proofs.YtgbgbdocgpdkgaaGreatDoor
end

section
/-
  The walk of the statement of layer 12 of what comes of any entries, and is read of a key. Conditions: texts that a machine can hold; Go's tables of UTF-8 lie in memory.
-/
namespace Go.Proofs.YtgbgbdocgpdkgaaGreatDoor
open Go.RowKit Go.PM
set_option maxRecDepth 100000
set_option maxHeartbeats 4000000
attribute [local go_sem ↓] Go.wp_at_zero Go.wp_at_succ

theorem turn_of (a : List Ent) (k : Nat) : (a.drop k ++ a.take k).Perm a := List.perm_append_comm.trans (by rw [List.take_append_drop])
theorem turn_run {W1 : World} {base g cg b off cap k : Nat} {a : List Ent} (hown : W1.ownsRow base 32 2 (.slice (some ⟨g, 0, none⟩) (a.length - k) cg) (a.length - k) (ents (a.drop k))) (hr : Rd W1 (some ⟨b, off, none⟩) (ents a)) (hk : k < a.length) (ha : a.length ≤ 1000) (hb : base ≤ W1.heap.size) :
    ∃ (A' : Option Addr) (c' : Nat) (w' : World), (Builtin.append_ #[22, 22] 22 #[.slice (some ⟨g, 0, none⟩) (a.length - k) cg, .slice (some ⟨b, off, none⟩) k cap]).run Tryz.prog W1 = .ok (.slice A' a.length c') w' ∧
      Rd w' A' (ents (a.drop k ++ a.take k)) ∧ Below base W1 w' := by
  obtain ⟨i0, hi0, hz0, hz1, hz2⟩ := info_parts info_ent
  have h1 : (a.drop k).length = a.length - k := List.length_drop
  have h2 : (a.take k).length = k := by rw [List.length_take]; omega
  rw [← h1] at hown
  obtain ⟨A2, c2, w6, hrun, hown6, hgr, _⟩ := eapp_run (d := cap) 22 22 32 i0 Tryz.underlying22 hi0 hz0 hz1 hz2 hown (hr.fst k) (by omega) hb
  have h3 : (a.drop k).length + (a.take k).length = a.length := by omega
  have hfar : ∀ g', (Value.slice (some ⟨g, 0, none⟩) (a.drop k).length cg).ownBlock = some g' → base ≤ g' := fun g' h => (hown.lt g' h).1
  rw [h3, h1, h2] at hrun
  rw [h3] at hown6
  obtain ⟨A3, c3, hv, hrd, _, _⟩ := Rd.own hown6
  injection hv with e1 e2 e3
  subst e1
  exact ⟨A2, c2, w6, hrun, hrd, hgr.os, hgr.tape, hgr.output, hgr.size, fun j hj => hgr.block j (by omega) fun e => by have := hfar j e.symm; omega⟩
theorem parse_sz {s : List UInt8} (h : (dparse echk s).2 = 0) (hs : s.length ≤ 3000) : EMil (dparse echk s).1 := by
  obtain ⟨h1, h2⟩ := dparse_ok h
  generalize (dparse echk s).1 = L at *
  have hm : L.length ≤ 16 := by
    unfold dchk at h2
    split at h2
    · rename_i k; exact absurd h2 k
    · rename_i k
      unfold dmany at k
      by_cases h0 : L.length = 0
      · omega
      by_cases h1 : 16 < L.length
      · rw [if_neg h0, if_pos h1] at k; exact absurd (by decide) k
      · omega
  refine ⟨by omega, fun e he => ?_⟩
  have h3 : (eput e.1 e.2).length ≤ (dkeyL L).length := by
    unfold dkeyL
    clear h1 h2 hm
    induction L with
    | nil => cases he
    | cons x r ih =>
      rw [List.map_cons, List.flatten_cons, List.length_append]
      rcases List.mem_cons.1 he with rfl | he
      · omega
      · have := ih he
        omega
  have h4 : (dkeyL L).length ≤ s.length := by rw [h1]; unfold dkey; rw [List.length_append]; omega
  have h5 : e.1.length + e.2.length ≤ (eput e.1 e.2).length := by unfold eput; simp only [List.length_append]; omega
  omega
/-- The second part: what any bytes are. -/
theorem done_walk (A : Option Addr) (cap : Nat) (a : List Ent) (s : ByteArray) (turn : Nat) (w : World) (hT : Tabs w) (hr : Rd w A (ents a)) (hz : ESz a) (hlc : a.length ≤ cap) (hc : cap ≤ 9223372036854775807) (hs : s.size ≤ 9223372036854775807) (ht : turn < 256) :
    Calls Tryz.prog 6 #[.slice A a.length cap, .string s, .int .u8 (turn : Int)] w fun e w' => e = .returned (.bool true) ∧ Below w.heap.size w w' := by
  have HA := Lib.hid (awake12 w hT)
  have hb1 : Below w.heap.size w w := b0
  have HT : Hid (Tabs w) := hT
  have hl : a.length ≤ 9223372036854775807 := by omega
  have HR := Lib.hid hr
  have HZ := Lib.hid hz
  have HF1 : Hid (∀ x : World, Below w.heap.size w x → Calls Tryz.prog 8 #[.slice A a.length cap] x fun e w' => e = .returned (.bool (efew a)) ∧ Below x.heap.size x w') := fun x hx => efew_any A cap a x (hr.below hx) hz hl
  have HO1 : Hid (∀ x : World, Below w.heap.size w x → Calls Tryz.prog 9 #[.slice A a.length cap] x (OfEnd12 x a)) := fun x hx => of12_any A cap a x (hr.below hx) hz hl (HT.out.below hx)
  have HPS : Hid (∀ x : World, Below w.heap.size w x → Calls Tryz.prog 21 #[.string s] x (DParseEnd x s)) := fun x hx => dparse_any s x (HT.out.below hx) hs
  clear hT hr hz
  generalize hfa : efew a = fa at HF1
  have HFA := Lib.hid hfa
  clear hfa
  go_enter Tryz.func6, Tryz.ntmps6
  go_wp2_with fail
  refine (HA.out).mono ?_
  rintro e w1 ⟨rfl, hb2⟩
  replace hb1 := bb hb1 hb2
  skip
  clear hb2
  cases fa with
  | false =>
    go_wp2_with fail
    refine (HF1.out _ hb1).mono ?_
    rintro e w2 ⟨rfl, hb2⟩
    replace hb1 := bb hb1 hb2
    skip
    clear hb2
    go_wp2_with fail
    go_ret
    exact ⟨rfl, hb1⟩
  | true =>
  by_cases hbe : 3000 < s.size
  · have hbi : (3000 : Int) < (s.size : Int) := by omega
    go_wp2_with fail
    refine (HF1.out _ hb1).mono ?_
    rintro e w2 ⟨rfl, hb2⟩
    replace hb1 := bb hb1 hb2
    skip
    clear hb2
    go_wp2_with fail
    go_ret
    exact ⟨rfl, hb1⟩
  have hbi : ¬ (3000 : Int) < (s.size : Int) := by omega
  go_wp2_with fail
  refine (HF1.out _ hb1).mono ?_
  rintro e w2 ⟨rfl, hb2⟩
  replace hb1 := bb hb1 hb2
  skip
  clear hb2
  go_wp2_with fail
  refine (HO1.out _ hb1).mono ?_
  rintro e w4 ⟨v1, rfl, ⟨A1, c1, rfl, hx, hc1⟩, hb2⟩
  replace hb1 := bb hb1 hb2
  have hq : Below w4.heap.size w4 w4 := b0
  have HX := Lib.hid hx
  clear hb2 hx
  have hd1 := fun h => dof_ok (chk := echk) (l := a) h
  have hdp := fun l' hp h => dof_perm (chk := echk) (l := a) (l' := l') hp h
  generalize dof echk a = DX at *
  obtain ⟨X, E⟩ := DX
  simp only at HX hd1 hdp hc1
  by_cases hE : E = 0
  · subst hE
    obtain ⟨x1, x2, x3, _⟩ := hd1 rfl
    have hXl : X.length = a.length := by rw [x1]; exact (esort_perm a).length_eq
    have hal : 1 ≤ a.length ∧ a.length ≤ 16 := by
      unfold dmany at x3
      by_cases h0 : a.length = 0
      · rw [if_pos h0] at x3; exact absurd x3 (by decide)
      by_cases h1 : 16 < a.length
      · rw [if_neg h0, if_pos h1] at x3; exact absurd x3 (by decide)
      omega
    have hEX : EMil X := by rw [x1]; exact emil_few HFA.out (esort_perm a)
    have HEX := Lib.hid hEX
    have hEZ : ESz X := fun e he => by have := hEX.2 e he; omega
    rw [← x1] at x2
    have HDP : Hid (∀ l', a.Perm l' → dof echk l' = (X, 0)) := fun l' hp => by rw [hdp l' hp rfl, x1]
    have HPP : Hid (dparse echk (dkey X) = (X, 0)) := dparse_put x2 (emil_64 hEX)
    obtain ⟨k, hk⟩ : ∃ k, k = turn % a.length := ⟨_, rfl⟩
    have hka : k < a.length := by rw [hk]; exact Nat.mod_lt _ (by omega)
    have hrem : (turn : Int).tmod (a.length : Int) = (k : Int) := by rw [hk]; exact (Int.ofNat_tmod turn a.length).symm
    have HK1 : Hid (∀ x : World, Below w4.heap.size w4 x → Calls Tryz.prog 10 #[.slice A1 X.length c1] x fun e w' => e = .returned (.string (txt (dkey X))) ∧ Below x.heap.size x w') := fun x hx => by
      have := key12_any A1 c1 X x (HX.out.below hx) hEX
      exact this
    have HCK : Hid (∀ x : World, Below w.heap.size w x → Below w4.heap.size w4 x → Calls Tryz.prog 19 #[.slice A1 X.length c1] x fun e w' => e = .returned (.int .i64 0) ∧ Below x.heap.size x w') := fun x h0 hx => by
      have := check12_any A1 c1 X x (HX.out.below hx) hEZ (by omega) (HT.out.below h0)
      rw [x2] at this
      exact this
    have HPK : Hid (∀ x : World, Below w.heap.size w x → Calls Tryz.prog 21 #[.string (txt (dkey X))] x fun e w' => ∃ (A7 : Option Addr) (c7 : Nat), e = .returned (.tuple #[.slice A7 X.length c7, .int .i64 0]) ∧ Rd w' A7 (ents X) ∧ Below x.heap.size x w') := fun x hx => by
      have h7 : (dkey X).length ≤ 9223372036854775807 := by
        have h8 := dkeyL_len X hEX.2
        have h9 : (vput X.length).length ≤ 10 := by rw [vput_length]; exact vsz_le10 (by omega)
        unfold dkey
        rw [List.length_append]
        omega
      refine (dparse_any (txt (dkey X)) x (HT.out.below hx) (by rw [txt_size]; exact h7)).mono ?_
      rintro e w' ⟨v, rfl, hs, hb⟩
      rw [txt_list, HPP.out] at hs ⊢
      obtain ⟨A7, c7, rfl, hr7, _⟩ := hs
      exact ⟨A7, c7, rfl, hr7, hb⟩
    have HEQ : Hid (∀ (x : World) (A8 : Option Addr) (c8 : Nat), Below w4.heap.size w4 x → Rd x A8 (ents X) → Calls Tryz.prog 11 #[.slice A1 X.length c1, .slice A8 X.length c8] x fun e w' => e = .returned (.bool true) ∧ Below x.heap.size x w') := fun x A8 c8 hx hr8 => by
      have := eequ_any A1 A8 c1 c8 X X x (HX.out.below hx) hr8 (by omega)
      rw [decide_eq_true rfl] at this
      exact this
    have HCM : Hid (∀ (x : World) (A8 : Option Addr) (c8 : Nat), Below w4.heap.size w4 x → Rd x A8 (ents X) → Calls Tryz.prog 12 #[.slice A1 X.length c1, .slice A8 X.length c8] x fun e w' => e = .returned (.int .i64 0) ∧ Below x.heap.size x w') := fun x A8 c8 hx hr8 => by
      have := cmp12_any A1 A8 c1 c8 X X x (HX.out.below hx) hr8 hEX hEX
      rw [(cmpB_iff _ _).2 rfl] at this
      exact this
    clear hd1 hdp x1 x2 x3 HO1 HF1 HA hEX hEZ hk
    obtain ⟨b, off, rfl, _⟩ := HR.out.ent (k := 0) hal.1
    have HCL : Hid (∀ x : World, Below w4.heap.size w4 x → Calls Tryz.prog 27 #[.slice (some ⟨b, off + k * 2, none⟩) (a.length - k) (cap - k)] x fun e w' => ∃ g cg, e = .returned (.slice (some ⟨g, 0, none⟩) (a.length - k) cg) ∧
        w'.ownsRow x.heap.size 32 2 (.slice (some ⟨g, 0, none⟩) (a.length - k) cg) (a.length - k) (ents (a.drop k)) ∧ Below x.heap.size x w') := fun x hx => by
      have h1 : (a.drop k).length = a.length - k := List.length_drop
      have := clone12_any (c := cap - k) (((HR.out.below (bb hb1 hx))).sub k) (by omega) (by intro e; rw [e] at h1; simp only [List.length_nil] at h1; omega)
      rw [h1] at this
      exact this
    have HO2 : Hid (∀ (x : World) (A' : Option Addr) (c' : Nat), Below w4.heap.size w4 x → Rd x A' (ents (a.drop k ++ a.take k)) → Calls Tryz.prog 9 #[.slice A' a.length c'] x fun e w' => ∃ (A6 : Option Addr) (c6 : Nat), e = .returned (.tuple #[.slice A6 X.length c6, .int .i64 0]) ∧ Rd w' A6 (ents X) ∧ Below x.heap.size x w') := fun x A' c' hx hrd => by
      have h1 : (a.drop k ++ a.take k).length = a.length := (turn_of a k).length_eq
      have h2 : ESz (a.drop k ++ a.take k) := fun e he => HZ.out e ((turn_of a k).mem_iff.1 he)
      have := of12_any A' c' (a.drop k ++ a.take k) x hrd h2 (by omega) (HT.out.below (bb hb1 hx))
      rw [h1] at this
      refine this.mono ?_
      rintro e w' ⟨v, rfl, hs, hb⟩
      rw [HDP.out _ (turn_of a k).symm] at hs ⊢
      obtain ⟨A6, c6, rfl, hr6, _⟩ := hs
      exact ⟨A6, c6, rfl, hr6, hb⟩
    have hkc : (k : Int) < (cap : Int) := by omega
    have h0k : (0 : Int) ≤ (k : Int) := by omega
    have hck : ¬ cap = k := by omega
    have hk3 : (k : Int) ≤ (a.length : Int) := by omega
    have hk4 : (k : Int) ≤ (cap : Int) := by omega
    have hXi : ((X.length : Int) != (a.length : Int)) = false := by rw [hXl]; simp
    have hka2 : (k : Int) < (a.length : Int) := by omega
    have hcc : (a.length : Int) ≤ (cap : Int) := by omega
    have ht0 : (turn : Int) < 256 := by omega
    have hsz4 : w4.drew.heap.size = w4.heap.size := rfl
    have HAP : Hid (∀ (W1 : World) (g cg : Nat), W1.ownsRow w4.heap.size 32 2 (.slice (some ⟨g, 0, none⟩) (a.length - k) cg) (a.length - k) (ents (a.drop k)) → Below w4.heap.size w4 W1 → ∃ (A' : Option Addr) (c' : Nat) (w' : World), (Builtin.append_ #[22, 22] 22 #[.slice (some ⟨g, 0, none⟩) (a.length - k) cg, .slice (some ⟨b, off, none⟩) k cap]).run Tryz.prog W1 = .ok (.slice A' a.length c') w' ∧
        Rd w' A' (ents (a.drop k ++ a.take k)) ∧ Below w4.heap.size w4 w') := fun W1 g cg hown hb => by
      obtain ⟨A', c', w', h1, h2, h3⟩ := turn_run (cap := cap) hown (HR.out.below (bb hb1 hb)) hka (by omega) hb.size
      exact ⟨A', c', w', h1, h2, hb.trans h3⟩
    clear HDP hXl
    have HB1 := Lib.hid hb1
    clear hb1 hq
    go_wp2_with fail
    go_region_held3 (fun _ => True) (trivial)
      ((first
        | (go_at_call 27; refine (HCL.out _ (bd b0)).mono ?_; rintro e' W1 ⟨g, cg, rfl, hown1, hb1'⟩; have hbW1 : Below w4.heap.size w4 W1 := bb (bd b0) hb1'; obtain ⟨A5, c5, w5, hrun, hrd5, hb5⟩ := HAP.out W1 g cg hown1 hbW1; have HRD5 := Lib.hid hrd5; have HB5 := Lib.hid hb5; have HRUN := Lib.hid hrun; clear hrun hrd5 hb5 hown1 hb1' hbW1)
        | (refine step_append_run rfl _ _ _ _ rfl _ _ _ rfl rfl HRUN.out ?_)
        | (go_at_call 9; refine (HO2.out _ A5 c5 HB5.out HRD5.out).mono ?_; rintro e' w6 ⟨A6, c6, rfl, hr6, hb6⟩; have HB6 := Lib.hid (bb HB5.out hb6); have HR6 := Lib.hid hr6; clear hr6 hb6)))
    replace hb1 := bb HB1.out HB6.out
    have hq : Below w4.heap.size w4 w6 := HB6.out
    have hr6 : Below w6.heap.size w6 w6 := b0
    clear HAP HCL HO2 HRUN HRD5 HB5 HB6
    go_wp2_with fail
    refine (HK1.out _ hq).mono ?_
    rintro e w7 ⟨rfl, hb2⟩
    replace hb1 := bb hb1 hb2
    replace hq := bb hq hb2; replace hr6 := bb hr6 hb2
    clear hb2
    go_wp2_with fail
    refine (HPK.out _ hb1).mono ?_
    rintro e w8 ⟨A7, c7, rfl, hrd7, hb2⟩
    replace hb1 := bb hb1 hb2
    replace hq := bb hq hb2
    replace hr6 := bb hr6 hb2
    have hr8 : Below w8.heap.size w8 w8 := b0
    have HR7 := Lib.hid hrd7
    clear hb2 hrd7 HPK HK1
    go_wp2_with fail
    refine (HEQ.out _ A6 c6 hq (HR6.out.below hr6)).mono ?_
    rintro e w9 ⟨rfl, hb2⟩
    replace hb1 := bb hb1 hb2
    replace hq := bb hq hb2; replace hr8 := bb hr8 hb2
    clear hb2
    go_wp2_with fail
    refine (HEQ.out _ A7 c7 hq (HR7.out.below hr8)).mono ?_
    rintro e w10 ⟨rfl, hb2⟩
    replace hb1 := bb hb1 hb2
    replace hq := bb hq hb2; replace hr8 := bb hr8 hb2
    clear hb2
    go_wp2_with fail
    refine (HCK.out _ hb1 hq).mono ?_
    rintro e w11 ⟨rfl, hb2⟩
    replace hb1 := bb hb1 hb2
    replace hq := bb hq hb2; replace hr8 := bb hr8 hb2
    clear hb2
    go_wp2_with fail
    refine (HCM.out _ A7 c7 hq (HR7.out.below hr8)).mono ?_
    rintro e w12 ⟨rfl, hb2⟩
    replace hb1 := bb hb1 hb2
    skip
    clear hb2
    go_wp2_with fail
    refine (HPS.out _ hb1).mono ?_
    rintro e wp ⟨vp, rfl, ⟨Ap, cp, rfl, hxp, _⟩, hb2⟩
    replace hb1 := bb hb1 hb2
    have hpp : Below wp.heap.size wp wp := b0
    have HXP := Lib.hid hxp
    clear hb2 hxp HPS
    obtain ⟨P, hP⟩ : ∃ P, P = dparse echk s.data.toList := ⟨_, rfl⟩
    have hpo := fun h => dparse_ok (chk := echk) (s := s.data.toList) h
    have hpe := fun h => dparse_err (chk := echk) (s := s.data.toList) h
    have hpz := fun h => parse_sz (s := s.data.toList) h (by rw [len_list]; omega)
    rw [← hP] at hpo hpe hpz HXP
    rw [← hP]
    clear hP
    obtain ⟨L, G⟩ := P
    simp only at hpo hpe hpz HXP
    by_cases hG : G = 0
    · obtain ⟨p1, p2⟩ := hpo hG
      have hz := hpz hG
      have hz5 : ESz L := fun e he => by have := hz.2 e he; omega
      have HKP : Hid (∀ x : World, Below wp.heap.size wp x → Calls Tryz.prog 10 #[.slice Ap L.length cp] x fun e w' => e = .returned (.string s) ∧ Below x.heap.size x w') := fun x hx => by
        have := key12_any Ap cp L x (HXP.out.below hx) hz
        rw [← p1, txt_of] at this
        exact this
      have HCP : Hid (∀ x : World, Below w.heap.size w x → Below wp.heap.size wp x → Calls Tryz.prog 19 #[.slice Ap L.length cp] x fun e w' => e = .returned (.int .i64 0) ∧ Below x.heap.size x w') := fun x h0 hx => by
        have := check12_any Ap cp L x (HXP.out.below hx) hz5 (by have := hz.1; omega) (HT.out.below h0)
        rw [p2] at this
        exact this
      have hss : (s.toList == s.toList) = true := by simp
      subst hG
      clear hpo hpe hpz p1 p2 hz hz5
      go_wp2_with fail
      refine (HKP.out _ hpp).mono ?_
      rintro e wq ⟨rfl, hb2⟩
      replace hb1 := bb hb1 hb2
      replace hpp := bb hpp hb2
      clear hb2
      go_wp2_with fail
      refine (HCP.out _ hb1 hpp).mono ?_
      rintro e wr ⟨rfl, hb2⟩
      replace hb1 := bb hb1 hb2
      skip
      clear hb2
      go_wp2_with fail
      go_ret
      exact ⟨rfl, hb1⟩
    · have hL := hpe hG
      subst hL
      have hGi : (G != 0) = true := by rw [bne_iff_ne]; exact hG
      have hGj : (G == 0) = false := by rw [beq_eq_false_iff_ne]; exact hG
      clear hpo hpe hpz hG
      go_wp2_with fail
      go_ret
      exact ⟨rfl, hb1⟩
  · have hEi : (E == 0) = false := by rw [beq_eq_false_iff_ne]; exact hE
    clear hE hd1 hdp HO1 HF1 HA
    go_wp2_with fail
    refine (HPS.out _ hb1).mono ?_
    rintro e wp ⟨vp, rfl, ⟨Ap, cp, rfl, hxp, _⟩, hb2⟩
    replace hb1 := bb hb1 hb2
    have hpp : Below wp.heap.size wp wp := b0
    have HXP := Lib.hid hxp
    clear hb2 hxp HPS
    obtain ⟨P, hP⟩ : ∃ P, P = dparse echk s.data.toList := ⟨_, rfl⟩
    have hpo := fun h => dparse_ok (chk := echk) (s := s.data.toList) h
    have hpe := fun h => dparse_err (chk := echk) (s := s.data.toList) h
    have hpz := fun h => parse_sz (s := s.data.toList) h (by rw [len_list]; omega)
    rw [← hP] at hpo hpe hpz HXP
    rw [← hP]
    clear hP
    obtain ⟨L, G⟩ := P
    simp only at hpo hpe hpz HXP
    by_cases hG : G = 0
    · obtain ⟨p1, p2⟩ := hpo hG
      have hz := hpz hG
      have hz5 : ESz L := fun e he => by have := hz.2 e he; omega
      have HKP : Hid (∀ x : World, Below wp.heap.size wp x → Calls Tryz.prog 10 #[.slice Ap L.length cp] x fun e w' => e = .returned (.string s) ∧ Below x.heap.size x w') := fun x hx => by
        have := key12_any Ap cp L x (HXP.out.below hx) hz
        rw [← p1, txt_of] at this
        exact this
      have HCP : Hid (∀ x : World, Below w.heap.size w x → Below wp.heap.size wp x → Calls Tryz.prog 19 #[.slice Ap L.length cp] x fun e w' => e = .returned (.int .i64 0) ∧ Below x.heap.size x w') := fun x h0 hx => by
        have := check12_any Ap cp L x (HXP.out.below hx) hz5 (by have := hz.1; omega) (HT.out.below h0)
        rw [p2] at this
        exact this
      have hss : (s.toList == s.toList) = true := by simp
      subst hG
      clear hpo hpe hpz p1 p2 hz hz5
      go_wp2_with fail
      refine (HKP.out _ hpp).mono ?_
      rintro e wq ⟨rfl, hb2⟩
      replace hb1 := bb hb1 hb2
      replace hpp := bb hpp hb2
      clear hb2
      go_wp2_with fail
      refine (HCP.out _ hb1 hpp).mono ?_
      rintro e wr ⟨rfl, hb2⟩
      replace hb1 := bb hb1 hb2
      skip
      clear hb2
      go_wp2_with fail
      go_ret
      exact ⟨rfl, hb1⟩
    · have hL := hpe hG
      subst hL
      have hGi : (G != 0) = true := by rw [bne_iff_ne]; exact hG
      have hGj : (G == 0) = false := by rw [beq_eq_false_iff_ne]; exact hG
      clear hpo hpe hpz hG
      go_wp2_with fail
      go_ret
      exact ⟨rfl, hb1⟩
end Go.Proofs.YtgbgbdocgpdkgaaGreatDoor
end
