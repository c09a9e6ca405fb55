/-
  Contracts of layer 4: the sum of some parts. Conditions: texts within int.
-/
import Derived.Test.YtmlijflappjfoaaDoorCrc2
import Derived.Test.YtmlijflappjfoaaDoorSl
import Derived.Deep.WholeRow
namespace Go.Proofs.YtmlijflappjfoaaDoor
open Go.RowKit Go.PM
set_option maxRecDepth 100000

/-- The register behind i bytes, from a register. -/
def Rf (R : Nat) (l : List UInt8) (i r : Nat) : Prop := r = Go.PM.cover R (l.take i) ∧ r < 4294967296
theorem Rf.step {R : Nat} {s : ByteArray} {i r : Nat} (h : Rf R s.data.toList i r) (hi : i < s.size) : Rf R s.data.toList (i + 1) (csteps 4 (csteps 4 (r ^^^ s[i].toNat))) := by
  obtain ⟨e, hlt⟩ := h
  refine ⟨?_, ?_⟩
  · have hl : i < s.data.toList.length := by simpa using hi
    have hg : s.data.toList[i] = s[i] := by simp; rfl
    rw [← List.take_append_getElem hl, cover_append, ← e, hg]
    rfl
  · exact csteps_lt 4 (csteps_lt 4 (Nat.xor_lt_two_pow (n := 32) hlt (by have := s[i].toNat_lt; omega)))
/-- The register behind k parts. -/
def Rp (R : Nat) (l : List ByteArray) (k r : Nat) : Prop := r = Go.PM.cover R ((l.take k).flatMap fun x => x.data.toList) ∧ r < 4294967296
theorem Rp.step {R : Nat} {l : List ByteArray} {k r q : Nat} (h : Rp R l k r) (hk : k < l.length) (hq : Rf r l[k].data.toList l[k].size q) : Rp R l (k + 1) q := by
  refine ⟨?_, hq.2⟩
  rw [← List.take_append_getElem hk, List.flatMap_append, cover_append, ← h.1]
  have e := hq.1
  rw [List.take_of_length_le (by simp)] at e
  simpa using e
/-- The register as the parts' bytes go by. -/
theorem over_any (n : Nat) (A : Option Addr) (cap : Nat) (l : List ByteArray) (w : World) (hn : n < 4294967296) (hr : Rd w A (strs l)) (hl : l.length ≤ 9223372036854775807) (hs : ∀ x ∈ l, x.size ≤ 9223372036854775807) :
    Calls Tryd.prog 101 #[.int .u32 (n : Int), .slice A l.length cap] w fun e w' =>
      e = .returned (.int .u32 ((4294967295 ^^^ Go.PM.cover (4294967295 ^^^ n) (l.flatMap fun x => x.data.toList) : Nat) : Int)) ∧ Below w.heap.size w w' := by
  have hN : bits .xor .u32 IntKind.u32.max (n : Int) = ((4294967295 ^^^ n : Nat) : Int) := u32_xor_nat 4294967295 n (by omega) hn
  have hNl : 4294967295 ^^^ n < 4294967296 := Nat.xor_lt_two_pow (n := 32) (by omega) hn
  generalize 4294967295 ^^^ n = R at hN hNl ⊢
  have HNL := Lib.hid hNl
  clear hNl
  go_enter Tryd.func101, Tryd.ntmps101
  go_wp2_with fail
  refine (sums_any _).mono ?_
  rintro e w1 ⟨rfl, hb1⟩
  have hst := run_storeCells_new (P := Tryd.prog) w1 142 #[.int .u32 0, .int .u32 0, .int .u32 0, .int .u32 0, .int .u32 0, .int .u32 0, .int .u32 0, .int .u32 0, .int .u32 0, .int .u32 0, .int .u32 0, .int .u32 0, .int .u32 0, .int .u32 0, .int .u32 0, .int .u32 0] (tab 16) (by kernel_rfl) rfl (by simp [tab, tabl, List.range, List.range.loop, Value.oneCell'])
  have hT := BlkAt.made w1 142 (tab 16)
  have hB := ba hb1 (.cells (tab 16) 142)
  have HR := Lib.hid (hr.below hB)
  have HT := Lib.hid hT
  have HB := Lib.hid hB
  clear hT hB hr hb1
  go_wp2
  refine wp_world fun W hW => ?_
  rw [← hW] at HR HT HB
  clear hW hst
  go_loop [6, 15] (fun rr kk => ∃ k r : Nat, k ≤ l.length ∧ kk = .int .i64 (k : Int) ∧ rr = .int .u32 (r : Int) ∧ Rp R l k r) (fun _ k => l.length - (intOf k).toNat)
  case atStart => exact ⟨0, R, by omega, rfl, rfl, rfl, HNL.out⟩
  case round =>
    obtain ⟨k, r, hk, rfl, rfl, hrp⟩ := hrel
    by_cases hkl : k < l.length
    · obtain ⟨b, off, rfl, hb, hc⟩ := HR.out.at_ (k := k) (by rw [strs_length]; exact hkl)
      rw [strs_at l k hkl] at hc
      have hxs := hs l[k] (List.getElem_mem hkl)
      have HST : Hid (∀ q, Rf r l[k].data.toList l[k].size q → Rp R l (k + 1) q) := fun q hq => hrp.step hkl hq
      have HR0 : Hid (Rf r l[k].data.toList 0 r) := ⟨rfl, hrp.2⟩
      generalize l[k] = x at hc hxs HST HR0
      clear hrp
      go_wp2
      go_loop [6, 21] (fun rr kk => ∃ i q : Nat, i ≤ x.size ∧ kk = .int .i64 (i : Int) ∧ rr = .int .u32 (q : Int) ∧ Rf r x.data.toList i q) (fun _ k => x.size - (intOf k).toNat)
      case atStart => exact ⟨0, r, by omega, rfl, rfl, HR0.out⟩
      case round =>
        obtain ⟨i, q, hi, rfl, rfl, hrf⟩ := hrel
        by_cases hil : i < x.size
        · have hst := hrf.step hil
          have hq := hrf.2
          have hxl : q ^^^ x[i].toNat < 4294967296 := Nat.xor_lt_two_pow (n := 32) hq (by have := x[i].toNat_lt; omega)
          have hx1 : bits .xor .u32 (q : Int) ((x[i].toNat : Int) % 4294967296) = ((q ^^^ x[i].toNat : Nat) : Int) := by
            rw [show (x[i].toNat : Int) % 4294967296 = (x[i].toNat : Int) by have := x[i].toNat_lt; omega]
            exact u32_xor_nat _ _ hq (by have := x[i].toNat_lt; omega)
          clear hrf
          generalize q ^^^ x[i].toNat = X at hst hxl hx1
          have ha1 : bits .and .u32 (X : Int) 15 = ((X % 16 : Nat) : Int) := by rw [← nat_mask4]; exact u32_and_nat X 15 hxl (by omega)
          have hyl := csteps_lt 4 hxl
          have hy1 : bits .xor .u32 ((X : Int) / 16) (csteps 4 (X % 16) : Int) = (csteps 4 X : Int) := by
            rw [show (X : Int) / 16 = ((X / 16 : Nat) : Int) by omega, u32_xor_nat _ _ (by omega) (csteps_lt 4 (by omega)), csteps_table 4 X]
          have hd1 : W.cell? ⟨w1.heap.size, X % 16, none⟩ = some (.int .u32 (csteps 4 (X % 16) : Int)) := by
            rw [HT.out.cell, tab_at _ _ (by omega), if_pos (by omega)]
          have hm1 : X % 16 < 16 := by omega
          generalize csteps 4 X = Y at hst hyl hy1
          generalize csteps 4 (X % 16) = t1 at hy1 hd1
          generalize X % 16 = m1 at ha1 hd1 hm1
          have ha2 : bits .and .u32 (Y : Int) 15 = ((Y % 16 : Nat) : Int) := by rw [← nat_mask4]; exact u32_and_nat Y 15 hyl (by omega)
          have hy2 : bits .xor .u32 ((Y : Int) / 16) (csteps 4 (Y % 16) : Int) = (csteps 4 Y : Int) := by
            rw [show (Y : Int) / 16 = ((Y / 16 : Nat) : Int) by omega, u32_xor_nat _ _ (by omega) (csteps_lt 4 (by omega)), csteps_table 4 Y]
          have hd2 : W.cell? ⟨w1.heap.size, Y % 16, none⟩ = some (.int .u32 (csteps 4 (Y % 16) : Int)) := by
            rw [HT.out.cell, tab_at _ _ (by omega), if_pos (by omega)]
          have hm2 : Y % 16 < 16 := by omega
          generalize csteps 4 Y = Z at hst hy2
          generalize csteps 4 (Y % 16) = t2 at hy2 hd2
          generalize Y % 16 = m2 at ha2 hd2 hm2
          have HST2 := Lib.hid hst
          clear hst hq
          have hTl := HT.out.lt
          go_wp2
          go_round
          case rel => exact ⟨i + 1, Z, by omega, by go_num, rfl, HST2.out⟩
          case measure => simp [intOf]; omega
        · obtain rfl : i = x.size := by omega
          have hrn := HST.out q hrf
          have HRN := Lib.hid hrn
          clear hrn hrf
          go_wp2
          go_round
          case rel => exact ⟨k + 1, q, by omega, by go_num, rfl, HRN.out⟩
          case measure => simp [intOf]; omega
    · obtain rfl : k = l.length := by omega
      have hrl := hrp.2
      have hN2 : bits .xor .u32 IntKind.u32.max (r : Int) = ((4294967295 ^^^ r : Nat) : Int) := u32_xor_nat 4294967295 r (by omega) hrl
      have e := hrp.1
      rw [List.take_of_length_le (by simp)] at e
      have HE := Lib.hid e
      clear e hrp
      go_wp2
      go_ret
      rw [← HE.out]
      exact ⟨rfl, HB.out⟩

theorem csum_any (A : Option Addr) (cap : Nat) (l : List ByteArray) (w : World) (hr : Rd w A (strs l)) (hl : l.length ≤ 9223372036854775807) (hs : ∀ x ∈ l, x.size ≤ 9223372036854775807) :
    Calls Tryd.prog 98 #[.slice A l.length cap] w fun e w' => e = .returned (.int .u32 (csum (l.flatMap fun x => x.data.toList) : Int)) ∧ Below w.heap.size w w' := by
  have H := over_any 0 A cap l w (by omega) hr hl hs
  rw [Nat.xor_zero] at H
  have HH := Lib.hid H
  clear H
  go_enter Tryd.func98, Tryd.ntmps98
  go_wp2_with fail
  refine HH.out.mono ?_
  rintro e w1 ⟨rfl, hb1⟩
  go_wp2
  go_ret
  exact ⟨rfl, hb1⟩
theorem sum_one (s : ByteArray) (b : Nat) (w : World) (hk : BlkAt w b 9 #[.string s]) (hs : s.size ≤ 9223372036854775807) :
    Calls Tryd.prog 98 #[.slice (some ⟨b, 0, none⟩) 1 1] w fun e w' => e = .returned (.int .u32 (csum s.data.toList : Int)) ∧ Below w.heap.size w w' := by
  have := csum_any (some ⟨b, 0, none⟩) 1 [s] w (.inr ⟨_, _, rfl, hk.lt, fun j u hj => by
    rw [Nat.zero_add, hk.cell j]
    simpa [strs] using hj⟩) (by simp) (by simpa using hs)
  simpa using this
theorem check_no (s q : ByteArray) (w : World) (hq : q.size ≠ 4) :
    Calls Tryd.prog 95 #[.string s, .string q] w fun e w' => e = .returned (.bool false) ∧ Below w.heap.size w w' := by
  go_enter Tryd.func95, Tryd.ntmps95
  go_wp2_with fail
  refine (cget_no q _ hq).mono ?_
  rintro e w1 ⟨rfl, hb1⟩
  go_wp2
  go_ret
  exact ⟨rfl, hb1⟩
theorem check_any (s q : ByteArray) (w : World) (hs : s.size ≤ 9223372036854775807) (hq : q.size = 4) :
    Calls Tryd.prog 95 #[.string s, .string q] w fun e w' => e = .returned (.bool (decide (cget q.data.toList = csum s.data.toList))) ∧ Below w.heap.size w w' := by
  have hG : ∀ x : World, Calls Tryd.prog 100 #[.string q] x fun e w' => e = .returned (.tuple #[.int .u32 (cget q.data.toList : Int), .bool true]) ∧ Below x.heap.size x w' := fun x => cget_any q x hq
  have hS : ∀ x : World, Calls Tryd.prog 98 #[.slice (some ⟨x.heap.size, 0, none⟩) 1 1] (x.alloc (.cells #[.string s] 9)) fun e w' => e = .returned (.int .u32 (csum s.data.toList : Int)) ∧ Below (x.alloc (.cells #[.string s] 9)).heap.size (x.alloc (.cells #[.string s] 9)) w' := fun x => sum_one s _ _ (BlkAt.made _ _ _) hs
  generalize cget q.data.toList = G at hG ⊢
  generalize csum s.data.toList = C at hS ⊢
  have HG := Lib.hid hG
  have HS := Lib.hid hS
  have hgc : ((G : Int) == (C : Int)) = decide (G = C) := by rw [Bool.eq_iff_iff]; simp; omega
  clear hG hS
  go_enter Tryd.func95, Tryd.ntmps95
  go_wp2_with fail
  refine (HG.out _).mono ?_
  rintro e w1 ⟨rfl, hb1⟩
  go_wp2_with fail
  refine (HS.out _).mono ?_
  rintro e w2 ⟨rfl, hb2⟩
  go_wp2
  go_ret
  exact ⟨rfl, bb (ba hb1 _) hb2⟩
end Go.Proofs.YtmlijflappjfoaaDoor
