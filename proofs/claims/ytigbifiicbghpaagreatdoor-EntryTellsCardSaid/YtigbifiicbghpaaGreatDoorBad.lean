/-
  Texts of the proof, joined: PlainTurn FrameBack Buf Deframe Deframe2 PlainFeed Feed Clone. Conditions: as each names.
-/
import Derived.Test.YtigbifiicbghpaaGreatDoorBaa
import Derived.Test.YtigbifiicbghpaaGreatDoorBac
import Derived.Deep.AppendSrc
import Derived.Lib.FrozenHead
import Derived.Lib.AppendStr
import Derived.Laws.BytesArg
import Derived.Laws.AppendOwnNone

section
/-
  Plain laws of layers 4 and 5, more: bits turned in the hind part of a text. No program in sight.
-/
namespace Go.PM
theorem cflip_behind (pre body : List UInt8) (k : Nat) : cflip (pre ++ body) (8 * pre.length + k) = pre ++ cflip body k := by
  have e1 : (8 * pre.length + k) / 8 = pre.length + k / 8 := by omega
  have e2 : (8 * pre.length + k) % 8 = k % 8 := by omega
  unfold cflip
  rw [e1, e2, List.set_append_right _ _ (by omega), Nat.add_sub_cancel_left]
  congr 2
  simp [List.getD_eq_getElem?_getD, List.getElem?_append_right]
theorem cturn_behind (pre body : List UInt8) (first pattern : Nat) : ∀ i, cturn (pre ++ body) (8 * pre.length + first) pattern i = pre ++ cturn body first pattern i
  | 0 => rfl
  | i + 1 => by
    have ih := cturn_behind pre body first pattern i
    rw [cturn, cturn, ih, List.length_append]
    by_cases h : pattern / 2 ^ i % 2 = 1 ∧ first + i < 8 * body.length
    · rw [if_pos h, if_pos ⟨h.1, by omega⟩, Nat.add_assoc, cflip_behind]
    · rw [if_neg h, if_neg fun x => h ⟨x.1, by omega⟩]
theorem cturned_behind (m N first pattern : Nat) : ∀ i, cturned (8 * m + N) (8 * m + first) pattern i = cturned N first pattern i
  | 0 => rfl
  | i + 1 => by
    rw [cturned, cturned, cturned_behind m N first pattern i]
    by_cases h : pattern / 2 ^ i % 2 = 1 ∧ first + i < N
    · rw [if_pos h, if_pos ⟨h.1, by omega⟩]
    · rw [if_neg h, if_neg fun x => h ⟨x.1, by omega⟩]
/-- A frame of which bits behind its head are turned: how it reads. -/
theorem fparse_burst (p r : List UInt8) (hp : p.length ≤ 65536) (first pattern : Nat) (hf : first ≤ 8 * (p.length + 4)) (hpat : pattern < 4294967296) :
    fparse (cturn (ftext p) (8 * (2 + vsz p.length) + first) pattern 32 ++ r) =
      if cturned (8 * fsize p.length) (8 * (2 + vsz p.length) + first) pattern 32 then ([], 0, 6) else (p, fsize p.length, 0) := by
  have hh : ([81, 70] ++ vput p.length : List UInt8).length = 2 + vsz p.length := by simp [vput_length]; omega
  have e : ftext p = ([81, 70] ++ vput p.length) ++ (p ++ cput (csum p)) := by simp [ftext]
  rw [e, ← hh, cturn_behind, show 8 * fsize p.length = 8 * ([81, 70] ++ vput p.length : List UInt8).length + 8 * (p.length + 4) by rw [hh]; unfold fsize; omega, cturned_behind]
  exact fparse_turn p r hp first pattern 32 (by omega) hf hpat
end Go.PM
end

section
/-
  The walk of the statement FrameBack (layer 5's theorem). Conditions: texts as they come in.
-/
namespace Go.Proofs.YtigbifiicbghpaaGreatDoor
open Go.RowKit Go.PM
set_option maxRecDepth 100000
set_option maxHeartbeats 1000000

end Go.Proofs.YtigbifiicbghpaaGreatDoor
end

section
/-
  A buffer of bytes that may have come of '[]byte(s)' (whose row bears the run-time's mark behind its last cell): made, appended to, read back. Plain theorems, over any program.
-/
namespace Go.PM
open Go.RowKit

/-! ### Worlds of which some blocks may have turned -/
structure Tch (S : Nat → Prop) (w w' : World) : Prop where
  os : w'.os = w.os
  tape : w'.tape = w.tape
  output : w'.output = w.output
  size : w.heap.size ≤ w'.heap.size
  block : ∀ k, k < w.heap.size → ¬ S k → w'.heap[k]? = w.heap[k]?
section
variable {a w w' : World} {S S' : Nat → Prop}
theorem Tch.refl (S : Nat → Prop) (w : World) : Tch S w w := ⟨rfl, rfl, rfl, Nat.le_refl _, fun _ _ _ => rfl⟩
theorem Tch.below (h : Below w.heap.size w w') : Tch S w w' := ⟨h.os, h.tape, h.output, h.size, fun k hk _ => h.block k hk⟩
theorem Tch.grown {row : Option Nat} (h : w.grownBy w' row) (hr : ∀ g, row = some g → g < w.heap.size → S g) : Tch S w w' :=
  ⟨h.os, h.tape, h.output, h.size, fun k hk hn => h.block k hk (fun e => hn (hr k e.symm hk))⟩
theorem Tch.trans (h : Tch S a w) (k : Tch S' w w') (hs : ∀ g, g < a.heap.size → S' g → S g) : Tch S a w' :=
  ⟨k.os.trans h.os, k.tape.trans h.tape, k.output.trans h.output, Nat.le_trans h.size k.size,
    fun i hi hne => (k.block i (Nat.lt_of_lt_of_le hi h.size) (fun e => hne (hs i hi e))).trans (h.block i hi hne)⟩
theorem Tch.bel (h : Tch S a w) (k : Below w.heap.size w w') : Tch S a w' := h.trans (S' := S) (Tch.below k) fun _ _ e => e
theorem Tch.toBelow (h : Tch S w w') (hs : ∀ g, g < w.heap.size → ¬ S g) : Below w.heap.size w w' := ⟨h.os, h.tape, h.output, h.size, fun k hk => h.block k hk (hs k hk)⟩
theorem Tch.toBelowB {B : Nat} (h : Tch S w w') (hb : B ≤ w.heap.size) (hs : ∀ g, g < B → ¬ S g) : Below B w w' := ⟨h.os, h.tape, h.output, h.size, fun k hk => h.block k (by omega) (hs k hk)⟩
theorem Tch.put (h : Tch S a w) {p : Addr} (hp : p.block < a.heap.size → S p.block) (u : Value) : Tch S a (w.setCell p u) :=
  ⟨h.os, h.tape, h.output, by simpa [World.setCell] using h.size, fun k hk hne => (Below.heap_setCell w p u k (by rintro rfl; exact hne (hp hk))).trans (h.block k hk hne)⟩
theorem Tch.more (h : Tch S a w) (o : Obj) : Tch S a (w.alloc o) :=
  ⟨h.os, h.tape, h.output, Nat.le_trans h.size (by simp), fun k hk hne => (Below.heap_alloc w o k (Nat.lt_of_lt_of_le hk h.size)).trans (h.block k hk hne)⟩
theorem Tch.drn (h : Tch S a w) (n : Nat) : Tch S a (w.drewN n) := ⟨h.os, h.tape, h.output, h.size, h.block⟩
theorem Tch.dr (h : Tch S a w) : Tch S a w.drew := ⟨h.os, h.tape, h.output, h.size, h.block⟩
theorem Tch.imp (h : Tch S a w) (hs : ∀ g, g < a.heap.size → S g → S' g) : Tch S' a w := ⟨h.os, h.tape, h.output, h.size, fun k hk hne => h.block k hk (fun e => hne (hs k hk e))⟩
theorem BlkAt.tch {g : Nat} {t : TypeId} {cs : Array Value} (h : BlkAt w g t cs) (hb : Tch S w w') (hg : ¬ S g) : BlkAt w' g t cs := (hb.block g h.lt hg).trans h
theorem Rd.tch {A : Option Addr} {xs : List Value} (h : Rd w A xs) (hb : Tch S w w') (hg : ∀ b off, A = some ⟨b, off, none⟩ → ¬ S b) : Rd w' A xs :=
  h.keep hb.size fun b off e hl => hb.block b hl (hg b off e)
theorem own_tch {base e size n : Nat} {v : Value} {xs : List Value} (h : w.ownsRow base e size v n xs) (hb : Tch S w w') (hg : ∀ g, v.ownBlock = some g → ¬ S g) : w'.ownsRow base e size v n xs := by
  refine ⟨h.1, ?_⟩
  rcases h.2 with hn | ⟨g, cap, cur, rfl, hB, hgg, rest⟩
  · exact .inl hn
  · refine .inr ⟨g, cap, cur, rfl, hB, ?_, rest⟩
    rw [hb.block g (Array.getElem?_eq_some_iff.1 hgg).1 (hg g rfl)]
    exact hgg
end

/-! ### The buffer -/
/-- The block that a buffer may write to. -/
def foot : Value → Option Nat
  | .slice (some a) _ c => if c = 0 then none else some a.block
  | _ => none
/-- A block of cells of one type. -/
def HasT (w : World) (g : Nat) (e : TypeId) : Prop := ∃ cs fz, w.heap[g]? = some (.cells cs e fz)
theorem HasT.lt {w : World} {g : Nat} {e : TypeId} (h : HasT w g e) : g < w.heap.size := by
  obtain ⟨cs, fz, h⟩ := h
  exact (Array.getElem?_eq_some_iff.1 h).1
theorem HasT.one {w : World} {g : Nat} {e e' : TypeId} (h : HasT w g e) (h' : HasT w g e') : e = e' := by
  obtain ⟨cs, fz, h⟩ := h
  obtain ⟨cs', fz', h'⟩ := h'
  rw [h] at h'
  injection h' with h'
  injection h'
theorem HasT.put {w : World} {g : Nat} {e : TypeId} (h : HasT w g e) (p : Addr) (u : Value) : HasT (w.setCell p u) g e := by
  obtain ⟨cs, fz, h⟩ := h
  by_cases hp : g = p.block
  · subst hp
    by_cases hs : p.spot.isSome = true
    · exact ⟨cs, fz, by simp [World.setCell, Array.getElem?_modify, h, hs]⟩
    · exact ⟨cs.setIfInBounds p.off u, fz, by simp [World.setCell, Array.getElem?_modify, h, hs]⟩
  · exact ⟨cs, fz, (Below.heap_setCell w p u g hp).trans h⟩
theorem HasT.puts {g : Nat} {e : TypeId} {b : Nat} : ∀ (vs : List Value) (o : Nat) (w : World), HasT w g e → HasT (w.setCells b o vs) g e
  | [], _, _, h => h
  | v :: vs, o, _, h => HasT.puts vs (o + 1) _ (h.put _ v)
theorem BlkAt.hasT {w : World} {g : Nat} {t : TypeId} {cs : Array Value} (h : BlkAt w g t cs) : HasT w g t := ⟨cs, (0, 0), h⟩
def Buf (w : World) (e : TypeId) (v : Value) (l : List UInt8) : Prop :=
  (v = .slice none 0 0 ∧ l = []) ∨ ∃ g cap, v = .slice (some ⟨g, 0, none⟩) l.length cap ∧ (cap = 0 ∨ HasT w g e) ∧ l.length ≤ cap ∧ (∀ j, j < cap → (w.cell? ⟨g, j, none⟩).isSome = true ∧ w.frozen? ⟨g, j, none⟩ = false) ∧
    ∀ j (h : j < l.length), w.cell? ⟨g, j, none⟩ = some (.int .u8 (l[j].toNat : Int))
section
variable {w w' : World} {e : TypeId} {v : Value} {l : List UInt8}
theorem Buf.nil (w : World) (e : TypeId) : Buf w e (.slice none 0 0) [] := .inl ⟨rfl, rfl⟩
theorem Buf.foot_has (h : Buf w e v l) {g : Nat} (hg : foot v = some g) : HasT w g e := by
  rcases h with ⟨rfl, rfl⟩ | ⟨g', cap, rfl, hlt, _⟩
  · simp [foot] at hg
  · simp only [foot] at hg
    split at hg
    · cases hg
    · rcases hlt with h | h
      · contradiction
      · injection hg with hg; exact hg ▸ h
theorem Buf.foot_lt (h : Buf w e v l) {g : Nat} (hg : foot v = some g) : g < w.heap.size := (h.foot_has hg).lt
theorem Buf.ne_blk (h : Buf w e v l) {d : Nat} {t : TypeId} {cs : Array Value} (hd : BlkAt w d t cs) (ht : t ≠ e) : foot v ≠ some d := fun hg => ht (hd.hasT.one (h.foot_has hg))
theorem Buf.ne_own (h : Buf w e v l) {base e' size n : Nat} {r : Value} {xs : List Value} (hd : w.ownsRow base e' size r n xs) (ht : e' ≠ e) : ∀ g, r.ownBlock = some g → foot v ≠ some g := fun g hr hg => by
  rcases hd.2 with ⟨rfl, _⟩ | ⟨g', cap, cur, rfl, hb, hgg, _⟩
  · cases hr
  · have e1 : g' = g := by simpa [Value.ownBlock] using hr
    subst e1
    exact ht (HasT.one ⟨cur, (0, 0), hgg⟩ (h.foot_has hg))
theorem Buf.tch {S : Nat → Prop} (h : Buf w e v l) (hg : Tch S w w') (hne : ∀ g, foot v = some g → ¬ S g) : Buf w' e v l := by
  rcases h with h | ⟨g, cap, rfl, hlt, hc, hall, hl⟩
  · exact .inl h
  · by_cases hc0 : cap = 0
    · subst hc0
      exact .inr ⟨g, 0, rfl, .inl rfl, hc, fun j hj => by omega, fun j hj => by omega⟩
    · have hty : HasT w g e := by rcases hlt with h | h; exact absurd h hc0; exact h
      have hlt := hty.lt
      have e := hg.block g hlt (hne g (by simp [foot, hc0]))
      have ec : ∀ j, w'.cell? ⟨g, j, none⟩ = w.cell? ⟨g, j, none⟩ := fun j => by unfold World.cell?; simp only [e]
      have ef : ∀ j, w'.frozen? ⟨g, j, none⟩ = w.frozen? ⟨g, j, none⟩ := fun j => by unfold World.frozen?; simp only [e]
      exact .inr ⟨g, cap, rfl, .inr (by obtain ⟨cs, fz, hh⟩ := hty; exact ⟨cs, fz, e.trans hh⟩), hc, fun j hj => by rw [ec, ef]; exact hall j hj, fun j hj => by rw [ec]; exact hl j hj⟩
theorem Buf.below (h : Buf w e v l) (hb : Below w.heap.size w w') : Buf w' e v l := h.tch (S := fun _ => False) (Tch.below hb) fun _ _ => id
theorem Buf.at_heap {g : Nat} {e : TypeId} {s : ByteArray} {cap : Nat} (hh : w.heap[g]? = some (.cells (bytesRow s cap) e ((bytesRow s cap).size, (bytesRow s cap).size + 1))) (hc : s.size ≤ cap) :
    Buf w e (.slice (some ⟨g, 0, none⟩) s.size cap) s.data.toList := by
  have hn : (bytesRow s cap).size = cap := by
    have : s.data.size = s.size := rfl
    simp [bytesRow]
    omega
  refine .inr ⟨g, cap, by rw [len_list], .inr ⟨_, _, hh⟩, by rw [len_list]; exact hc, fun j hj => ⟨?_, ?_⟩, fun j hj => ?_⟩
  · rw [cell_of_row _ _ _ _ _ _ hh]
    simp [hn, hj]
  · unfold World.frozen?
    rw [hh]
    simp
    omega
  · have hjs : j < s.data.size := by simpa using hj
    rw [cell_of_row _ _ _ _ _ _ hh, bytesRow_at s cap j hjs]
    simp
theorem byteCells_at (s : ByteArray) (j : Nat) (hj : j < s.data.toList.length) (h : j < (byteCells s).length) : (byteCells s)[j] = .int .u8 (s.data.toList[j].toNat : Int) := by simp [byteCells]
theorem Buf.ofOwn {B : Nat} {n : Nat} (h : w.ownsRow B e 1 v n (bvals l)) : Buf w e v l ∧ ∀ g, foot v = some g → B ≤ g := by
  obtain ⟨h1, h2⟩ := h
  rw [bvals_length, Nat.mul_one] at h1
  rcases h2 with ⟨rfl, rfl⟩ | ⟨g, cap, cur, rfl, hb, hg, hnc, _, hcs, htk⟩
  · exact ⟨.inl ⟨rfl, List.eq_nil_of_length_eq_zero h1⟩, fun g hg => by simp [foot] at hg⟩
  · subst h1
    refine ⟨.inr ⟨g, cap, rfl, .inr ⟨_, _, hg⟩, hnc, fun j hj => ⟨?_, ?_⟩, fun j hj => ?_⟩, fun g' hg' => ?_⟩
    · rw [cell_of_row _ _ _ _ _ _ hg]
      simp
      omega
    · unfold World.frozen?
      rw [hg]
      simp
    · rw [cell_of_row _ _ _ _ _ _ hg]
      have := bvals_at l j hj
      rw [← htk, List.getElem?_take, if_pos (by omega)] at this
      simpa using this
    · simp only [foot] at hg'
      split at hg'
      · cases hg'
      · injection hg' with hg'; omega
theorem tch_setCells {a : World} {S : Nat → Prop} {b : Nat} (hb : S b) : ∀ (vs : List Value) (o : Nat) (w : World), Tch S a w → Tch S a (w.setCells b o vs)
  | [], _, _, h => h
  | v :: vs, o, _, h => tch_setCells hb vs (o + 1) _ (h.put (fun _ => hb) v)
theorem foot_some {g n c : Nat} (h : c ≠ 0) : foot (.slice (some ⟨g, 0, none⟩) n c) = some g := by simp [foot, h]
theorem buf_append {P : Program} (h : Buf w e v l) (s : ByteArray) (t u ty : TypeId) (i : TypeInfo) (ht : P.underlying t = some (.slice e)) (hu : P.underlying u = some .string) (hi : P.info? e = some i) (hz : i.zero = some (.int .u8 0))
    (hsize : i.size = 1) (hby : i.bytes = 1) (hn : l.length + s.size ≤ 1000000) :
    ∃ v' w', (Builtin.append_ #[t, u] ty #[v, .string s]).run P w = .ok v' w' ∧ Buf w' e v' (l ++ s.data.toList) ∧ Tch (fun k => foot v = some k) w w' ∧ (foot v' = foot v ∨ ∀ g, foot v' = some g → w.heap.size ≤ g) := by
  rcases h with ⟨rfl, rfl⟩ | ⟨g, cap, rfl, hlt, hc, hall, hl⟩
  · obtain ⟨v', w', h1, h2, h3, _⟩ := Lib.run_append_own_string (P := P) w w.heap.size t u ty e i ht hu hi hz hsize hby (.slice none 0 0) 0 [] (World.ownsRow_nil _ _ _ _) s (by unfold maxLen; simp at hn; omega) (by simp at hn; omega) (Nat.le_refl _)
    have h4 := Buf.ofOwn (n := 0 + s.size) h2
    exact ⟨v', w', h1, h4.1, Tch.grown h3 (fun g hg => by simp [Value.ownBlock] at hg), .inr h4.2⟩
  · have hs : Src P i.size u (.string s) s.size (byteCells s) w := by rw [hsize]; exact Src.ofString w hu s
    by_cases hroom : l.length + s.size ≤ cap
    · have hr := run_append_room_src (P := P) w t u ty e i ht hi g 0 l.length cap (.string s) s.size (byteCells s) hs hroom
        (fun j hj => by rw [byteCells_length] at hj; rw [hsize]; exact (hall _ (by omega)).1) (fun j hj => by rw [byteCells_length] at hj; rw [hsize]; exact (hall _ (by omega)).2)
      rw [hsize, Nat.mul_one, Nat.zero_add] at hr
      have hgr : Tch (fun k => foot (.slice (some ⟨g, 0, none⟩) l.length cap) = some k) w (w.setCells g l.length (byteCells s)) := by
        by_cases hc0 : cap = 0
        · have : byteCells s = [] := List.eq_nil_of_length_eq_zero (by rw [byteCells_length]; omega)
          rw [this]
          exact Tch.refl _ _
        · exact tch_setCells (S := fun k => foot (.slice (some ⟨g, 0, none⟩) l.length cap) = some k) (b := g) (foot_some hc0) _ _ _ (Tch.refl _ _)
      have hin := World.cell?_setCells_in g (byteCells s) l.length w (fun j hj => by rw [byteCells_length] at hj; exact (hall _ (by omega)).1)
      have hout := fun x => World.cell?_setCells_out g (byteCells s) l.length w x
      refine ⟨_, _, hr, .inr ⟨g, cap, by rw [List.length_append, len_list], hlt.imp id (fun h => h.puts _ _ _), by rw [List.length_append, len_list]; exact hroom, fun j hj => ⟨?_, ?_⟩, fun j hj => ?_⟩, hgr, .inl rfl⟩
      · by_cases h1 : l.length ≤ j ∧ j < l.length + s.size
        · have := hin (j - l.length) (by rw [byteCells_length]; omega)
          rw [show l.length + (j - l.length) = j by omega] at this
          rw [this]; rfl
        · rw [hout _ (fun _ _ => by simp only [byteCells_length]; omega)]
          exact (hall j hj).1
      · rw [World.frozen?_setCells]
        exact (hall j hj).2
      · rw [List.length_append, len_list] at hj
        by_cases h1 : j < l.length
        · rw [hout _ (fun _ _ => by simp only; omega), hl j h1, List.getElem_append_left h1]
        · have := hin (j - l.length) (by rw [byteCells_length]; omega)
          rw [show l.length + (j - l.length) = j by omega, byteCells_at s _ (by rw [len_list]; omega)] at this
          rw [this, List.getElem_append_right (by omega)]
    · have hold : (Builtin.firstCells i.size l.length (.slice (some ⟨g, 0, none⟩) l.length cap)).run P w.drew = .ok (bvals l).toArray w.drew :=
        run_firstCells_some w.drew i.size l.length ⟨g, 0, none⟩ l.length cap (bvals l) (by rw [bvals_length, hsize, Nat.mul_one]) (fun j x hx => by
          rw [add_at]
          have hj : j < l.length := by have := (List.getElem?_eq_some_iff.1 hx).1; rwa [bvals_length] at this
          rw [bvals_at l j hj] at hx
          rw [← hx]
          exact hl j hj)
      have hge := grownCap_ge w (l.length + s.size) cap e
      have hr := run_append_grow_src (P := P) w t u ty e i (.int .u8 0) ht hi hz (some ⟨g, 0, none⟩) l.length cap (bvals l) hold (.string s) s.size (byteCells s) hs (by omega) (by omega)
        (by rw [hby]; exact growslice_fits (by omega) (by omega))
      generalize hG : grownCap w (l.length + s.size) cap e = G at hr hge
      have hC : ((bvals l ++ byteCells s).toArray ++ Builtin.zeroCells (Value.int .u8 0).cells (G - (l.length + s.size))).size = G := by
        have hz1 : (Value.int IntKind.u8 0).cells.size = 1 := rfl
        simp only [Array.size_append, List.size_toArray, size_zeroCells, hz1, List.length_append, bvals_length, byteCells_length]
        omega
      have hat : ∀ j (hj : j < l.length + s.size), ((bvals l ++ byteCells s).toArray ++ Builtin.zeroCells (Value.int .u8 0).cells (G - (l.length + s.size)))[j]? = some (.int .u8 ((l ++ s.data.toList)[j]'(by rw [List.length_append, len_list]; exact hj)).toNat) := fun j hj => by
        rw [Array.getElem?_append_left (by simp only [List.size_toArray, List.length_append, bvals_length, byteCells_length]; exact hj), List.getElem?_toArray]
        have := bvals_at (l ++ s.data.toList) j (by rw [List.length_append, len_list]; exact hj)
        rw [← this]
        congr 1
        simp [bvals, byteCells]
      generalize (bvals l ++ byteCells s).toArray ++ Builtin.zeroCells (Value.int .u8 0).cells (G - (l.length + s.size)) = C at hr hC hat
      have hh : (w.drew.alloc (.cells C e)).heap[w.heap.size]? = some (.cells C e (0, 0)) := heap_alloc_new w.drew _
      have hG0 : foot (.slice (some ⟨w.heap.size, 0, none⟩) (l.length + s.size) G) = none ∨ foot (.slice (some ⟨w.heap.size, 0, none⟩) (l.length + s.size) G) = some w.heap.size := by
        by_cases h0 : G = 0
        · left; simp [foot, h0]
        · right; simp [foot, h0]
      refine ⟨_, _, hr, .inr ⟨w.heap.size, G, by rw [List.length_append, len_list], .inr ⟨_, _, hh⟩, by rw [List.length_append, len_list]; exact hge, fun j hj => ⟨?_, ?_⟩, fun j hj => ?_⟩, ((Tch.refl _ _).dr.more _), .inr fun g' hg' => by rcases hG0 with h | h <;> rw [h] at hg' <;> simp at hg'; omega⟩
      · rw [cell_of_row _ _ _ _ _ _ hh]
        simp [hC, hj]
      · unfold World.frozen?
        rw [hh]
        simp
      · rw [List.length_append, len_list] at hj
        rw [cell_of_row _ _ _ _ _ _ hh, hat j hj]
theorem Buf.back {P : Program} (h : Buf w e v l) (src dst : TypeId) (hs : P.underlying src = some (.slice e)) (he : P.underlying e = some (.int .u8)) (hd : P.underlying dst = some .string) :
    (convert src dst v).run P w = .ok (.string (txt l)) w := by
  rcases h with ⟨rfl, rfl⟩ | ⟨g, cap, rfl, hlt, hc, hall, hl⟩
  · exact run_convert_bytes_nil w src e hs he 0 0 dst hd
  · have := run_convert_bytes_back (P := P) w src dst e ⟨g, 0, none⟩ cap l hs he hd fun j hj => by
      rw [add_at]
      exact hl j hj
    exact this
theorem Buf.len (h : Buf w e v l) : ∃ A c, v = .slice A l.length c := by
  rcases h with ⟨rfl, rfl⟩ | ⟨g, cap, rfl, _⟩
  · exact ⟨_, _, rfl⟩
  · exact ⟨_, _, rfl⟩
end
/-- An append whose run is known. -/
theorem wpList_append_run {P : Program} {w w' : World} {ops : Array Oper} {rest : List Oper} {o : Oper} {a : Act} {Q : Exit → Act → World → Prop} (hgd : o.guard = none) (s x : Operand) (t u : TypeId)
    (ho : o.op = .call { callee := .builtin .append, args := #[s, x], argTypes := #[t, u] }) (v y v' : Value) (hs : a.eval s = v) (hx : a.eval x = y)
    (hrun : (Builtin.append_ #[t, u] o.type #[v, y]).run P w = .ok v' w') (h : wpList P ops Q rest (a.put o.dst v') w') : wpList P ops Q (o :: rest) a w := by
  refine wpList_plain hgd fun K hK => ?_
  unfold Oper.wp
  simp [execOp, ho, resolve, invoke, builtin, hs, hx, hrun, Result.andThen]
  exact hK _ _ h
end Go.PM
end

section
/-
  Contracts of layer 6 (frames out of a stream). Conditions: texts within int.
-/
namespace Go.Proofs.YtigbifiicbghpaaGreatDoor
open Go.RowKit Go.PM
set_option maxRecDepth 100000
set_option maxHeartbeats 1000000

/-- What is known of the length, where a frame is too short. -/
theorem short_cases {l : List UInt8} (h : (fparse l).2.2 = 1) (h2 : 2 ≤ l.length) : ((vget (l.drop 2)).2.2 = 1 ∧ fneed l = 0) ∨ ((vget (l.drop 2)).2.2 = 0 ∧ (vget (l.drop 2)).1 ≤ 65536 ∧ fneed l = fsize (vget (l.drop 2)).1) := by
  have hm : fmark l = 0 := by
    by_cases hm : fmark l = 0
    · exact hm
    · rw [fparse_mark hm] at h
      rcases fmark_cases l with ⟨h1, _⟩ | ⟨_, h1⟩ | h1
      · exact h1
      · omega
      · simp only at h; omega
  rw [fparse_body hm] at h
  unfold fneed
  rw [if_neg (by omega)]
  generalize hV : vget (l.drop 2) = V at *
  obtain ⟨n, k, g⟩ := V
  rw [fbody_of l n k g hV] at h
  simp only
  by_cases hg : g = 0
  · subst hg
    rw [if_neg (by simp)] at h
    right
    by_cases hn : 65536 < n
    · rw [if_pos hn] at h; simp at h
    · exact ⟨rfl, by omega, by simp⟩
  · rw [if_pos hg] at h
    left
    exact ⟨h, by rw [if_neg hg]⟩

theorem whole_any (s : ByteArray) (w : World) (hs : s.size ≤ 1000000) (hp : (fparse s.data.toList).2.2 = 1) :
    Calls Tryz.prog 134 #[.string s] w fun e w' => e = .returned (.int .i64 (fneed s.data.toList : Int)) ∧ Below w.heap.size w w' := by
  by_cases h2 : s.size < 2
  · have hn : fneed s.data.toList = 0 := by unfold fneed; rw [if_pos (by rw [len_list]; exact h2)]
    rw [hn]
    clear hn hp
    go_enter Tryz.func134, Tryz.ntmps134
    go_wp2
    go_loop [4] (fun k => k = .int .i64 2) (fun _ => 0)
    case atStart => rfl
    case round =>
      subst hrel
      go_wp2
      go_ret
      exact ⟨rfl, b0⟩
  have hsc := short_cases hp (by rw [len_list]; omega)
  have hl2 : (s.data.toList.drop 2).length = s.size - 2 := by rw [List.length_drop, len_list]
  generalize hV : vget (s.data.toList.drop 2) = V at hsc
  obtain ⟨n, k, g⟩ := V
  simp only at hsc
  generalize fneed s.data.toList = N at hsc ⊢
  have HSC := Lib.hid hsc
  have HV := Lib.hid hV
  clear hsc hV hp
  go_enter Tryz.func134, Tryz.ntmps134
  go_wp2
  go_loop [3, 4] (fun nn kk => ∃ i acc : Nat, i ≤ 10 ∧ i ≤ s.size - 2 ∧ kk = .int .i64 ((i : Int) + 2) ∧ nn = .int .u64 (acc : Int) ∧ Gt (s.data.toList.drop 2) i acc) (fun _ k => s.size - (intOf k).toNat)
  case atStart => exact ⟨0, 0, by omega, by omega, rfl, rfl, by unfold In64; omega, fun _ => ⟨by decide, rfl⟩, fun h => by omega⟩
  case round =>
    obtain ⟨i, acc, hi, his, rfl, rfl, hg⟩ := hrel
    have HG := Lib.hid hg
    clear hg
    have hi10 : i < 10 := by
      by_cases e : i = 10
      · have h3 := HG.out.2.2 e
        rw [HV.out] at h3
        injection h3 with _ h3
        injection h3 with _ h3
        rcases HSC.out with ⟨h, _⟩ | ⟨h, _⟩ <;> omega
      · omega
    by_cases hlt : i + 2 < s.size
    · have em := mask127 s[i + 2]
      obtain ⟨X, hX, hX64, hXv⟩ := or_any acc s[i + 2].toNat i HG.out.1
      have HX := Lib.hid (And.intro hX64 hXv)
      have hd : (s.data.toList.drop 2).drop i = s[i + 2] :: (s.data.toList.drop 2).drop (i + 1) := by
        rw [List.drop_drop, List.drop_drop, Nat.add_comm 2 i, drop_at s (i + 2) hlt]
        congr 2
        omega
      have HD := Lib.hid hd
      clear hX64 hXv hd
      by_cases h1 : 128 ≤ s[i + 2].toNat
      · have hn := HG.out.next hi10 HD.out rfl h1 HX.out.1 HX.out.2
        have HNx := Lib.hid hn
        clear hn
        go_wp2
        go_round
        case rel => exact ⟨i + 1, X, by omega, by omega, by go_num, rfl, HNx.out⟩
        case measure => simp [intOf]; omega
      · have hst := HG.out.stop hi10 HD.out h1
        rw [HV.out] at hst
        have hnX : n = X ∧ g = 0 := by
          by_cases h9 : i = 9 ∧ 1 < s[i + 2].toNat
          · rw [if_pos h9] at hst
            injection hst with _ h3
            injection h3 with _ h3
            rcases HSC.out with ⟨h, _⟩ | ⟨h, _⟩ <;> omega
          · rw [if_neg h9] at hst
            by_cases h0 : 0 < i ∧ s[i + 2].toNat = 0
            · rw [if_pos h0] at hst
              injection hst with _ h3
              injection h3 with _ h3
              rcases HSC.out with ⟨h, _⟩ | ⟨h, _⟩ <;> omega
            · rw [if_neg h0] at hst
              injection hst with h1' h3
              injection h3 with _ h3
              refine ⟨?_, h3⟩
              rw [HX.out.2 (HG.out.2.1 hi10).1 hi10 (fun h => by omega), Nat.mod_eq_of_lt (by omega)]
              exact h1'
        obtain ⟨rfl, hg0⟩ := hnX
        have hnn : n ≤ 65536 ∧ N = fsize n := by
          rcases HSC.out with ⟨h, _⟩ | ⟨_, h, h'⟩
          · omega
          · exact ⟨h, h'⟩
        obtain ⟨hnl, rfl⟩ := hnn
        clear hst
        go_wp2_with fail
        refine (fsize_yes n _ hnl).mono ?_
        rintro e w1 ⟨rfl, hb1⟩
        go_wp2
        go_ret
        exact ⟨rfl, hb1⟩
    · have hN : N = 0 := by
        have h4 := (HG.out.2.1 hi10).2
        rw [HV.out, show List.drop i (List.drop 2 s.data.toList) = [] from List.drop_eq_nil_of_le (by rw [hl2]; omega), vgetL, if_neg (by omega)] at h4
        injection h4 with _ h3
        injection h3 with _ h3
        rcases HSC.out with ⟨_, h⟩ | ⟨h, _⟩
        · exact h
        · omega
      subst hN
      go_wp2
      go_ret
      exact ⟨rfl, b0⟩

/-- A deframer: what waits, how many bytes it needs, its error, how many frames were delivered. -/
def Dfr (w : World) (d : Nat) (v : Value) (rest : List UInt8) (need err count : Nat) : Prop :=
  BlkAt w d 166 #[v, .int .i64 (need : Int), .int .i64 (err : Int), .int .i64 (count : Int)] ∧ Buf w 5 v rest ∧ foot v ≠ some d
theorem Dfr.tch {S : Nat → Prop} {w w' : World} {d : Nat} {v : Value} {rest : List UInt8} {need err count : Nat} (h : Dfr w d v rest need err count) (hg : Tch S w w') (hd : ¬ S d) (hf : ∀ g, foot v = some g → ¬ S g) : Dfr w' d v rest need err count :=
  ⟨h.1.tch hg hd, h.2.1.tch hg hf, h.2.2⟩
theorem Dfr.below {w w' : World} {d : Nat} {v : Value} {rest : List UInt8} {need err count : Nat} (h : Dfr w d v rest need err count) (hb : Below w.heap.size w w') : Dfr w' d v rest need err count :=
  h.tch (S := fun _ => False) (Tch.below hb) id fun _ _ => id
theorem new_any (w : World) :
    Calls Tryz.prog 127 #[] w fun e w' => ∃ d, e = .returned (.pointer (some ⟨d, 0, none⟩)) ∧ w.heap.size ≤ d ∧ Dfr w' d (.slice none 0 0) [] 0 0 0 ∧ Below w.heap.size w w' := by
  go_enter Tryz.func127, Tryz.ntmps127
  go_wp2
  go_ret
  exact ⟨_, rfl, Nat.le_refl _, ⟨BlkAt.made _ _ _, Buf.nil _ _, by simp [foot]⟩, ba b0 _⟩
end Go.Proofs.YtigbifiicbghpaaGreatDoor
end

section
/-
  Contracts of layer 6: what is delivered. Conditions: at most a million bytes wait.
-/
namespace Go.Proofs.YtigbifiicbghpaaGreatDoor
open Go.RowKit Go.PM
set_option maxRecDepth 100000
set_option maxHeartbeats 1000000

theorem err_any (d : Nat) (v : Value) (R : List UInt8) (need err count : Nat) (w : World) (h : Dfr w d v R need err count) :
    Calls Tryz.prog 129 #[.pointer (some ⟨d, 0, none⟩)] w fun e w' => e = .returned (.int .i64 (err : Int)) ∧ Below w.heap.size w w' := by
  obtain ⟨hd, _, _⟩ := h
  have c2 := hd.cell 2
  simp at c2
  clear hd
  go_enter Tryz.func129, Tryz.ntmps129
  go_wp2
  go_ret
  exact ⟨rfl, b0⟩
/-- A stream, on the way. -/
def FofOf (S done : List ByteArray) (E : Nat) (Rest : List UInt8) (t : List UInt8) : Prop := S = done ++ (fof t).1.map txt ∧ E = (fof t).2.1 ∧ Rest = (fof t).2.2
theorem FofOf.next {S done : List ByteArray} {E : Nat} {Rest t : List UInt8} (h : FofOf S done E Rest t) (h0 : (fparse t).2.2 = 0) : FofOf S (done ++ [txt (fparse t).1]) E Rest (t.drop (fparse t).2.1) := by
  obtain ⟨h1, h2, h3⟩ := h
  rw [fof_ok h0] at h1 h2 h3
  exact ⟨by rw [h1]; simp, h2, h3⟩
theorem FofOf.short {S done : List ByteArray} {E : Nat} {Rest t : List UInt8} (h : FofOf S done E Rest t) (h0 : (fparse t).2.2 = 1) : S = done ∧ E = 0 ∧ Rest = t := by
  obtain ⟨h1, h2, h3⟩ := h
  rw [fof_short h0] at h1 h2 h3
  exact ⟨by simpa using h1, h2, h3⟩
theorem FofOf.bad {S done : List ByteArray} {E : Nat} {Rest t : List UInt8} (h : FofOf S done E Rest t) (h0 : (fparse t).2.2 ≠ 0) (h1' : (fparse t).2.2 ≠ 1) : S = done ∧ E = (fparse t).2.2 ∧ Rest = [] := by
  obtain ⟨h1, h2, h3⟩ := h
  rw [fof_bad h0 h1'] at h1 h2 h3
  exact ⟨by simpa using h1, h2, h3⟩
/-- What is delivered. -/
def Deliv (w : World) (d : Nat) (S : List ByteArray) (Rest : List UInt8) (E count : Nat) (e : Ending) (w' : World) : Prop :=
  ∃ r v', e = .returned r ∧ w'.ownsRow w.heap.size 9 1 r S.length (strs S) ∧ Tch (· = d) w w' ∧ Dfr w' d v' Rest (if E = 0 then fneed Rest else 0) E (count + S.length) ∧ ∀ g, foot v' = some g → w.heap.size ≤ g
theorem deliver_any (d : Nat) (v : Value) (R : List UInt8) (need count : Nat) (w : World) (h : Dfr w d v R need 0 count) (hR : R.length ≤ 1000000) (hcn : count ≤ 4000000000000000000) :
    Calls Tryz.prog 131 #[.pointer (some ⟨d, 0, none⟩)] w (Deliv w d ((fof R).1.map txt) (fof R).2.2 (fof R).2.1 count) := by
  have hst : FofOf ((fof R).1.map txt) [] (fof R).2.1 (fof R).2.2 R := ⟨rfl, rfl, rfl⟩
  generalize (fof R).1.map txt = S at hst ⊢
  generalize (fof R).2.1 = E at hst ⊢
  generalize (fof R).2.2 = Rest at hst ⊢
  have HST := Lib.hid hst
  clear hst
  obtain ⟨hd, hb, hv⟩ := h
  have hcv := hb.back (P := Tryz.prog) 81 9 Tryz.underlying81 Tryz.underlying5 Tryz.underlying9
  obtain ⟨A, c, rfl⟩ := hb.len
  have c0 := hd.cell 0
  simp at c0
  have hdl := hd.lt
  have HD := Lib.hid hd
  obtain ⟨i0, hi0, hz0, hz1, hz2⟩ := info_parts info_str
  clear hd hb hv
  go_enter Tryz.func131, Tryz.ntmps131
  go_wp2
  go_loopw [3, 4] (fun v sl wr => ∃ (t : ByteArray) (done : List ByteArray), sl = .string t ∧ FofOf S done E Rest t.data.toList ∧ done.length + t.size ≤ R.length ∧ wr.ownsRow w.heap.size 9 1 v done.length (strs done) ∧
    BlkAt wr d 166 #[.slice A R.length c, .int .i64 (need : Int), .int .i64 ((0 : Nat) : Int), .int .i64 ((count + done.length : Nat) : Int)] ∧ Tch (· = d) w wr) (fun _ sl _ => strLen sl)
  case atStart => exact ⟨txt R, [], rfl, HST.out, by simp [txt_size], World.ownsRow_nil _ _ _ _, HD.out, Tch.refl _ _⟩
  case round =>
    obtain ⟨t, done, rfl, hfo, hlen, hown, hd, htch⟩ := hrel
    have HF := Lib.hid hfo
    have HO := Lib.hid hown
    have HD2 := Lib.hid hd
    have HW := Lib.hid htch
    clear hfo hown hd htch
    go_wp2_with fail
    refine (parse_any t _ (by omega)).mono ?_
    rintro e w1 ⟨rfl, hb1⟩
    have hnx := fun h => HF.out.next h
    have hsh := fun h => HF.out.short h
    have hbd := fun h h' => HF.out.bad h h'
    have hok := fun h => fparse_ok (s := t.data.toList) h
    generalize hV : fparse t.data.toList = V at hnx hsh hbd hok
    obtain ⟨q, k, g⟩ := V
    simp only at hnx hsh hbd hok
    have hd1 := HD2.out.below hb1 HD2.out.lt
    have hdl1 := hd1.lt
    have hs1 := Nat.le_trans HW.out.size hb1.size
    have e0 := hd1.cell 0
    have e1 := hd1.cell 1
    have e2 := hd1.cell 2
    have e3 := hd1.cell 3
    have f0 := hd1.free 0
    have f1 := hd1.free 1
    have f2 := hd1.free 2
    have f3 := hd1.free 3
    simp at e0 e1 e2 e3
    have HD3 := Lib.hid hd1
    have HO3 := Lib.hid (own_below HO.out hb1)
    have HW3 := Lib.hid (HW.out.bel hb1)
    clear hd1 hb1
    have HNX := Lib.hid hnx
    have HSH := Lib.hid hsh
    have HBD := Lib.hid hbd
    have HOK := Lib.hid hok
    have HV := Lib.hid hV
    clear hnx hsh hbd hok hV
    by_cases h1 : g = 1
    · subst h1
      obtain ⟨rfl, rfl, rfl⟩ := HSH.out rfl
      have hcv2 := run_bytes_of_string (P := Tryz.prog) w1 9 81 5 t Tryz.underlying9 Tryz.underlying81 Tryz.underlying5
      have hge := grownCap_ge w1 t.size 0 5
      generalize grownCap w1 t.size 0 5 = cap at hcv2 hge
      go_wp2_with fail
      have hwq : BlkAt ((w1.setCell ⟨d, 0, none⟩ (.slice (some ⟨w1.heap.size, 0, none⟩) t.size cap)).alloc (.cells (bytesRow t cap) 5 ((bytesRow t cap).size, (bytesRow t cap).size + 1))).drew d 166
          #[.slice (some ⟨w1.heap.size, 0, none⟩) t.size cap, .int .i64 (need : Int), .int .i64 ((0 : Nat) : Int), .int .i64 ((count + S.length : Nat) : Int)] := (((HD3.out.put 0 _).more _).dr)
      have hbq : Buf ((w1.setCell ⟨d, 0, none⟩ (.slice (some ⟨w1.heap.size, 0, none⟩) t.size cap)).alloc (.cells (bytesRow t cap) 5 ((bytesRow t cap).size, (bytesRow t cap).size + 1))).drew 5 (.slice (some ⟨w1.heap.size, 0, none⟩) t.size cap) t.data.toList :=
        Buf.at_heap (by have := heap_alloc_new (w1.setCell ⟨d, 0, none⟩ (.slice (some ⟨w1.heap.size, 0, none⟩) t.size cap)) (.cells (bytesRow t cap) 5 ((bytesRow t cap).size, (bytesRow t cap).size + 1)); rwa [show (w1.setCell ⟨d, 0, none⟩ (.slice (some ⟨w1.heap.size, 0, none⟩) t.size cap)).heap.size = w1.heap.size by simp [World.setCell]] at this) hge
      have hgw : Tch (fun k => k = d) w1 ((w1.setCell ⟨d, 0, none⟩ (.slice (some ⟨w1.heap.size, 0, none⟩) t.size cap)).alloc (.cells (bytesRow t cap) 5 ((bytesRow t cap).size, (bytesRow t cap).size + 1))).drew := ((((Tch.refl (fun k => k = d) w1).put (p := ⟨d, 0, none⟩) (fun _ => rfl) _).more _).dr)
      generalize ((w1.setCell ⟨d, 0, none⟩ (.slice (some ⟨w1.heap.size, 0, none⟩) t.size cap)).alloc (.cells (bytesRow t cap) 5 ((bytesRow t cap).size, (bytesRow t cap).size + 1))).drew = W at hwq hbq hgw ⊢
      refine (whole_any t W (by omega) (by rw [HV.out])).mono ?_
      rintro e w2 ⟨rfl, hb2⟩
      have hwq2 := hwq.below hb2 hwq.lt
      have g1 := hwq2.cell 1
      have k1 := hwq2.free 1
      simp at g1
      go_wp2_with fail
      go_ret
      have hT : Tch (· = d) w1 (w2.setCell ⟨d, 1, none⟩ (.int .i64 (fneed t.data.toList : Int))) := (hgw.bel hb2).put (p := ⟨d, 1, none⟩) (fun _ => rfl) _
      have hfne : ∀ g, foot (.slice (some ⟨w1.heap.size, 0, none⟩) t.size cap) = some g → g = w1.heap.size := fun g hg => by
        simp only [foot] at hg
        split at hg
        · cases hg
        · injection hg with hg; exact hg.symm
      refine ⟨_, _, rfl, ?_, ?_, ⟨hwq2.put 1 _, ?_, ?_⟩, ?_⟩
      · exact own_tch HO3.out hT fun g hg e => by have := (HO3.out.lt g hg).1; omega
      · exact HW3.out.trans hT fun _ _ e => e
      · exact (hbq.below hb2).tch ((Tch.refl (fun k => k = d) _).put (p := ⟨d, 1, none⟩) (fun _ => rfl) _) fun g hg e => by have := hfne g hg; omega
      · intro e; have := hfne d e; omega
      · intro g hg; have := hfne g hg; omega
    · by_cases h0 : g = 0
      · subst h0
        have HNXT := Lib.hid (HNX.out rfl)
        obtain ⟨k1, k2, j1, j2, j3⟩ := HOK.out rfl
        rw [len_list] at k2
        clear j1 j2 j3 e0 e1 e2 e3 f0 f1 f2 f3
        have hown := HO3.out
        go_wp2_with (at_builtin; go_must (refine wpList_append_own _ rfl _ _ 163 rfl w.heap.size 9 i0 (.string ByteArray.empty) 1 16 Tryz.underlying163 hi0 hz0 hz1 hz2 rfl (by decide) _ _ _ rfl (hown.alloc _) ⟨w1.heap.size, 0, none⟩ 1 1 [.string (txt q)] rfl rfl (one_new _ _ _) (one_cell_str _) (by unfold maxLen; omega) (by omega) (by simp; omega) ?_); intro v1 w2 hown2 hg2 _; have hTa : Tch (· = d) w w2 := (HW3.out.more _).trans (Tch.grown (S := fun g => u3.ownBlock = some g) hg2 (fun g hg _ => hg)) (fun g _ hg => by have := (HO3.out.lt g hg).1; omega); have hd2 := (HD3.out.more (.cells #[.string (txt q)] 9)).step hg2 (by intro e; have := (HO3.out.lt d e.symm).1; omega); have e3 := hd2.cell 3; have f3 := hd2.free 3; simp at e3; have HTA := Lib.hid hTa; have HD4 := Lib.hid hd2; have HO4 := Lib.hid hown2; clear hTa hd2 hown2 hg2 hown)
        go_roundw
        case rel =>
          have hT : Tch (fun k => k = d) w2 (w2.setCell ⟨d, 3, none⟩ (.int .i64 ((count : Int) + (done.length : Int) + 1))) := (Tch.refl (fun k => k = d) w2).put (p := ⟨d, 3, none⟩) (fun _ => rfl) _
          refine ⟨_, done ++ [txt q], rfl, by rw [ext_rest]; exact HNXT.out, ?_, ?_, ?_, HTA.out.trans hT fun _ _ e => e⟩
          · simp
            omega
          · refine own_tch (v := v1) ?_ hT fun g hg e => ?_
            · simpa [strs] using HO4.out
            · have := (HO4.out.lt g hg).1
              omega
          · have := HD4.out.put 3 (.int .i64 ((count : Int) + (done.length : Int) + 1))
            simp at this ⊢
            rw [Int.add_assoc] at this
            exact this
        case measure =>
          simp [strLen]
          omega
      · obtain ⟨rfl, rfl, rfl⟩ := HBD.out h0 h1
        have n1 : ((E : Int) == 1) = false := by rw [beq_eq_false_iff_ne]; omega
        have n0 : ((E : Int) != 0) = true := by rw [bne_iff_ne]; omega
        go_wp2_with fail
        go_ret
        have hT : Tch (· = d) w1 (((w1.setCell ⟨d, 0, none⟩ (.slice none 0 0)).setCell ⟨d, 1, none⟩ (.int .i64 0)).setCell ⟨d, 2, none⟩ (.int .i64 (E : Int))) := (((Tch.refl (fun k => k = d) w1).put (p := ⟨d, 0, none⟩) (fun _ => rfl) _).put (p := ⟨d, 1, none⟩) (fun _ => rfl) _).put (p := ⟨d, 2, none⟩) (fun _ => rfl) _
        exact ⟨_, _, rfl, own_tch HO3.out hT fun g hg e => by have := (HO3.out.lt g hg).1; omega, HW3.out.trans hT fun _ _ e => e, ⟨by rw [if_neg h0]; exact ((HD3.out.put 0 _).put 1 _).put 2 _, Buf.nil _ _, by simp [foot]⟩, fun g hg => by simp [foot] at hg⟩
end Go.Proofs.YtigbifiicbghpaaGreatDoor
end

section
/-
  Plain laws of layer 6: a stream that is fed in pieces; no program in sight.
-/
namespace Go.PM

/-- What comes of a state, where more is fed. -/
def feedOf (e : Nat) (R t : List UInt8) : List (List UInt8) × Nat × List UInt8 := if e = 0 then fof (R ++ t) else ([], e, R)
def NeedOk (R : List UInt8) (need : Nat) : Prop := ∀ b, (R ++ b).length < need → (fparse (R ++ b)).2.2 = 1
def St (R : List UInt8) (need e : Nat) : Prop := e = 0 → (fparse R).2.2 = 1 ∧ NeedOk R need
theorem St.new : St [] 0 0 := fun _ => ⟨rfl, fun b h => by omega⟩
theorem feedOf_nil {R : List UInt8} {need e : Nat} (h : St R need e) : feedOf e R [] = ([], e, R) := by
  unfold feedOf
  by_cases h0 : e = 0
  · rw [if_pos h0, List.append_nil, fof_short (h h0).1, h0]
  · rw [if_neg h0]
theorem feedOf_more (e : Nat) (R t p : List UInt8) : feedOf e R (t ++ p) =
    if (feedOf e R t).2.1 = 0 then ((feedOf e R t).1 ++ (fof ((feedOf e R t).2.2 ++ p)).1, (fof ((feedOf e R t).2.2 ++ p)).2) else feedOf e R t := by
  unfold feedOf
  by_cases h0 : e = 0
  · simp only [if_pos h0]
    rw [← List.append_assoc, fof_append p (R ++ t)]
  · simp only [if_neg h0]
theorem feedOf_start (t : List UInt8) : feedOf 0 [] t = fof t := by unfold feedOf; rw [if_pos rfl, List.nil_append]
theorem St.keep {R p : List UInt8} {need : Nat} (h : St R need 0) (hl : (R ++ p).length < need) : St (R ++ p) need 0 ∧ fof (R ++ p) = ([], 0, R ++ p) := by
  have h1 := (h rfl).2 p hl
  refine ⟨fun _ => ⟨h1, fun b hb => ?_⟩, fof_short h1⟩
  rw [List.append_assoc] at hb ⊢
  exact (h rfl).2 _ hb
theorem St.fof (s : List UInt8) : St (Go.PM.fof s).2.2 (if (Go.PM.fof s).2.1 = 0 then fneed (Go.PM.fof s).2.2 else 0) (Go.PM.fof s).2.1 := by
  intro h0
  rw [if_pos h0]
  rcases fof_rest s with ⟨_, h⟩ | ⟨h, _⟩
  · exact ⟨h, fun b hb => fneed_ok _ b h hb⟩
  · exact absurd h0 h
theorem fof_len : ∀ s, (Go.PM.fof s).1.length + (Go.PM.fof s).2.2.length ≤ s.length := by
  refine fof_ind ?_ ?_ ?_
  · intro s h; rw [fof_short h]; simp
  · intro s h ih
    have hk := fparse_ok h
    rw [fof_ok h]
    simp only [List.length_cons]
    rw [List.length_drop] at ih
    omega
  · intro s h h1; rw [fof_bad h h1]; simp
/-- Pieces, one behind the other. -/
def flat (l : List ByteArray) : List UInt8 := l.flatMap fun x => x.data.toList
theorem flat_take {l : List ByteArray} {k : Nat} (h : k < l.length) : flat (l.take (k + 1)) = flat (l.take k) ++ l[k].data.toList := by
  unfold flat
  rw [← List.take_append_getElem h, List.flatMap_append]
  simp
theorem flat_le (l : List ByteArray) (k : Nat) : (flat (l.take k)).length ≤ (flat l).length := by
  unfold flat
  conv => rhs; rw [← List.take_append_drop k l]
  rw [List.flatMap_append, List.length_append]
  omega
end Go.PM
end

section
/-
  Contracts of layer 6: a deframer that is fed, and its clone. Conditions: at most a million bytes.
-/
namespace Go.Proofs.YtigbifiicbghpaaGreatDoor
open Go.RowKit Go.PM
set_option maxRecDepth 100000
set_option maxHeartbeats 1000000

theorem own_cases {w : World} {base : Nat} {e : TypeId} {n : Nat} {v : Value} {xs : List Value} (h : w.ownsRow base e 1 v n xs) : (v = .slice none 0 0 ∧ n = 0 ∧ xs = []) ∨
    ∃ g cap, v = .slice (some ⟨g, 0, none⟩) n cap ∧ base ≤ g ∧ ∀ j u, xs[j]? = some u → w.cell? ((⟨g, 0, none⟩ : Addr).add j) = some u := by
  rcases h.2 with ⟨rfl, rfl⟩ | ⟨g, cap, cur, rfl, hb, hg, hn, _⟩
  · refine .inl ⟨rfl, rfl, ?_⟩
    have := h.1
    simpa using this
  · exact .inr ⟨g, cap, rfl, hb, h.cells (g := g) rfl⟩

theorem strs_one (l : List ByteArray) : ∀ u ∈ strs l, u.oneCell' = true := by
  intro u hu
  obtain ⟨x, _, rfl⟩ := List.mem_map.1 hu
  rfl
/-- The end of Feed. -/
def FedEnd (w : World) (d : Nat) (v : Value) (count : Nat) (x : List (List UInt8) × Nat × List UInt8) (en : Ending) (w' : World) : Prop :=
  ∃ r v' need', en = .returned r ∧ w'.ownsRow w.heap.size 9 1 r x.1.length (strs (x.1.map txt)) ∧ Tch (fun k => k = d ∨ foot v = some k) w w' ∧ Dfr w' d v' x.2.2 need' x.2.1 (count + x.1.length) ∧ St x.2.2 need' x.2.1 ∧
    (foot v' = foot v ∨ ∀ g, foot v' = some g → w.heap.size ≤ g)
/-- Where Feed stands. -/
def FedAt (w : World) (d : Nat) (v : Value) (count : Nat) (x : List (List UInt8) × Nat × List UInt8) (r : Value) (w' : World) : Prop :=
  ∃ v' need', w'.ownsRow w.heap.size 9 1 r x.1.length (strs (x.1.map txt)) ∧ Tch (fun k => k = d ∨ foot v = some k) w w' ∧ Dfr w' d v' x.2.2 need' x.2.1 (count + x.1.length) ∧ St x.2.2 need' x.2.1 ∧
    (foot v' = foot v ∨ ∀ g, foot v' = some g → w.heap.size ≤ g)
theorem FedAt.end_ {w : World} {d : Nat} {v : Value} {count : Nat} {x : List (List UInt8) × Nat × List UInt8} {r : Value} {w' : World} (h : FedAt w d v count x r w') : FedEnd w d v count x (.returned r) w' := by
  obtain ⟨v', need', h1, h2, h3, h4, h5⟩ := h
  exact ⟨r, v', need', rfl, h1, h2, h3, h4, h5⟩
theorem feedOf_len {e : Nat} {R t : List UInt8} : (feedOf e R t).1.length + (feedOf e R t).2.2.length ≤ R.length + t.length := by
  unfold feedOf
  split
  · have := fof_len (R ++ t)
    rw [List.length_append] at this
    exact this
  · simp
theorem feed_any (d : Nat) (v : Value) (R : List UInt8) (need e count : Nat) (A : Option Addr) (cap : Nat) (l : List ByteArray) (w : World) (h : Dfr w d v R need e count) (hst : St R need e) (hr : Rd w A (strs l))
    (hA : ∀ b off, A = some ⟨b, off, none⟩ → b ≠ d ∧ foot v ≠ some b) (hn : R.length + (flat l).length ≤ 1000000) (hl : l.length ≤ 9223372036854775807) (hcn : count ≤ 3000000000000000000) :
    Calls Tryz.prog 128 #[.pointer (some ⟨d, 0, none⟩), .slice A l.length cap] w (FedEnd w d v count (feedOf e R (flat l))) := by
  have HN : ∀ k, (feedOf e R (flat (l.take k))).1.length + (feedOf e R (flat (l.take k))).2.2.length ≤ R.length + (flat (l.take k)).length := fun k => feedOf_len
  have HN2 : ∀ k, (flat (l.take k)).length ≤ (flat l).length := flat_le l
  have HR := Lib.hid hr
  have H0 : Hid (FedAt w d v count (feedOf e R []) (.slice none 0 0) w) := by
    show FedAt _ _ _ _ _ _ _
    rw [feedOf_nil hst]
    exact ⟨v, need, World.ownsRow_nil _ _ _ _, Tch.refl _ _, h, hst, .inl rfl⟩
  have HA := Lib.hid hA
  have HF := Lib.hid (fun g (hg : foot v = some g) => h.2.1.foot_lt hg)
  have hdw := h.1.lt
  have HNN := Lib.hid (And.intro HN HN2)
  obtain ⟨i0, hi0, hz0, hz1, hz2⟩ := info_parts info_str
  obtain ⟨i1, hi1, hy0, hy1, hy2⟩ := info_parts (show (Tryz.prog.info? 5).map (fun i => (i.zero, i.size, i.bytes)) = some (some (.int .u8 0), 1, 1) by kernel_rfl)
  clear h hst hr hA HN HN2
  go_enter Tryz.func128, Tryz.ntmps128
  go_wp2
  go_loopw [5, 12] (fun sl kk wr => ∃ k : Nat, k ≤ l.length ∧ kk = .int .i64 (k : Int) ∧ FedAt w d v count (feedOf e R (flat (l.take k))) sl wr) (fun _ kk _ => l.length - (intOf kk).toNat)
  case atStart => exact ⟨0, by omega, rfl, H0.out⟩
  case round =>
    obtain ⟨k, hk, rfl, hat⟩ := hrel
    by_cases hlt : k < l.length
    · have hmo := feedOf_more e R (flat (l.take k)) l[k].data.toList
      rw [← flat_take hlt] at hmo
      have HLT := Lib.hid hlt
      have hl1 := HNN.out.1 (k + 1)
      have hl2 := HNN.out.2 (k + 1)
      have hl3 := HNN.out.1 k
      have hl4 := HNN.out.2 k
      have hl5 : (flat (l.take k)).length + l[k].size ≤ (flat l).length := by rw [flat_take hlt, List.length_append, len_list] at hl2; exact hl2
      have HEND : Hid ((feedOf e R (flat (l.take k))).2.1 ≠ 0 → feedOf e R (flat l) = feedOf e R (flat (l.take k))) := fun hne => by
        have := feedOf_more e R (flat (l.take k)) (flat (l.drop k))
        rw [if_neg hne] at this
        rw [← this]
        unfold flat
        rw [← List.flatMap_append, List.take_append_drop]
      have HNX : Hid (∀ x, feedOf e R (flat (l.take (k + 1))) = x → ∀ sl wr, FedAt w d v count x sl wr → ∃ k' : Nat, k' ≤ l.length ∧ Value.int .i64 ((k : Int) + 1) = .int .i64 (k' : Int) ∧ FedAt w d v count (feedOf e R (flat (l.take k'))) sl wr) :=
        fun x hx sl wr hf => ⟨k + 1, by have := HLT.out; omega, by go_num, hx ▸ hf⟩
      have hcel : ∃ b off, A = some ⟨b, off, none⟩ ∧ wr.cell? ⟨b, off + k, none⟩ = some (.string l[k]) := by
        obtain ⟨v1, need1, _, ht, _⟩ := hat
        obtain ⟨b, off, hAe, hb, hc⟩ := (HR.out.tch ht (fun b off e => by have := HA.out b off e; rintro (h | h); exact this.1 h; exact this.2 h)).at_ (k := k) (by rw [strs_length]; exact hlt)
        rw [strs_at l k hlt] at hc
        exact ⟨b, off, hAe, hc⟩
      obtain ⟨b, off, rfl, hc⟩ := hcel
      generalize l[k] = p at *
      generalize feedOf e R (flat (l.take (k + 1))) = X1 at *
      generalize feedOf e R (flat (l.take k)) = X0 at *
      obtain ⟨v1, need1, hown, htch, hdf, hst, hfo⟩ := hat
      obtain ⟨done, e1, R1⟩ := X0
      simp only at hown hdf hst hl3 hmo HEND
      clear hl1 hl2 HNN
      have hd := hdf.1
      have hdl := hd.lt
      have e2 := hd.cell 2
      have e0 := hd.cell 0
      simp at e2 e0
      have HD := Lib.hid hdf
      have HOWN := Lib.hid hown
      have HT := Lib.hid htch
      have HST := Lib.hid hst
      have HFO := Lib.hid hfo
      have HMO := Lib.hid hmo
      clear hdf hown htch hst hfo hd hmo
      by_cases he : e1 = 0
      · subst he
        obtain ⟨v2, w2, hrun, hb2, ht2, hf2⟩ := buf_append (P := Tryz.prog) HD.out.2.1 p 81 9 81 i1 Tryz.underlying81 Tryz.underlying9 hi1 hy0 hy1 hy2 (by omega)
        have hd2 := HD.out.1.tch ht2 HD.out.2.2
        have hd2l := hd2.lt
        have f0 := hd2.free 0
        have g0 := hd2.cell 0
        simp at g0
        have HD2 := Lib.hid hd2
        have hw2 := ht2.size
        have hNN : (R1 ++ p.data.toList).length = R1.length + p.size := by rw [List.length_append, len_list]
        obtain ⟨A2, c2, hv2⟩ := hb2.len
        rw [hNN] at hv2
        subst hv2
        have hfd : foot (.slice A2 (R1.length + p.size) c2) ≠ some d := hb2.ne_blk hd2 (by decide)
        have hTs : Tch (fun k => k = d ∨ foot v1 = some k) wr (w2.setCell ⟨d, 0, none⟩ (.slice A2 (R1.length + p.size) c2)) := (ht2.imp (S' := fun k => k = d ∨ foot v1 = some k) (fun _ _ h => .inr h)).put (p := ⟨d, 0, none⟩) (fun _ => .inl rfl) _
        have hdW : Dfr (w2.setCell ⟨d, 0, none⟩ (.slice A2 (R1.length + p.size) c2)) d (.slice A2 (R1.length + p.size) c2) (R1 ++ p.data.toList) need1 0 (count + done.length) :=
          ⟨hd2.put 0 _, hb2.tch ((Tch.refl (fun k => k = d) w2).put (p := ⟨d, 0, none⟩) (fun _ => rfl) _) (fun g hg e => hfd (e ▸ hg)), hfd⟩
        have hfo2 : foot (.slice A2 (R1.length + p.size) c2) = foot v ∨ ∀ g, foot (.slice A2 (R1.length + p.size) c2) = some g → w.heap.size ≤ g := by
          rcases hf2 with h | h
          · rw [h]; exact HFO.out
          · exact .inr fun g hg => Nat.le_trans HT.out.size (h g hg)
        have hoW := own_tch HOWN.out hTs fun g hg e => by
          rcases e with e | e
          · have := (HOWN.out.lt g hg).1; omega
          · exact HD.out.2.1.ne_own HOWN.out (by decide) g hg e
        have hTW := HT.out.trans hTs (S := fun k => k = d ∨ foot v = some k) fun g hg e => by
          rcases e with e | e
          · exact .inl e
          · rcases HFO.out with h | h
            · exact .inr (h ▸ e)
            · have := h g e; omega
        have HRUN := Lib.hid hrun
        have HNN := Lib.hid hNN
        clear hrun hb2 hf2 ht2 hd2 hfd hTs hNN
        have HDW := Lib.hid hdW
        have HFO2 := Lib.hid hfo2
        have HOW := Lib.hid hoW
        have HTW := Lib.hid hTW
        clear hdW hfo2 hoW hTW
        go_wp2_with (at_builtin; go_must (refine wpList_append_run rfl _ _ 81 9 rfl _ _ _ rfl rfl HRUN.out ?_))
        generalize w2.setCell ⟨d, 0, none⟩ (.slice A2 (R1.length + p.size) c2) = W at *
        have hd := HDW.out.1
        have c0 := hd.cell 0
        have c1 := hd.cell 1
        simp at c0 c1
        clear hd e0 e2 f0 g0
        by_cases hlen : R1.length + p.size < need1
        · have hk := (HST.out.keep (p := p.data.toList) (by rw [HNN.out]; exact hlen))
          have hm := HMO.out
          rw [if_pos trivial, hk.2, List.append_nil] at hm
          have HM := Lib.hid hm
          have HK := Lib.hid hk.1
          clear hk hm
          go_quiet (fail)
          go_wp2
          go_roundw
          case rel => exact HNX.out _ HM.out _ _ ⟨_, need1, HOW.out, HTW.out.drn _, HDW.out, HK.out, HFO2.out⟩
          case measure => simp [intOf]; omega
        · have hm := HMO.out
          rw [if_pos trivial] at hm
          have HM := Lib.hid hm
          clear hm
          have HLE : Hid ((R1 ++ p.data.toList).length ≤ 1000000) := by show _ ≤ _; rw [HNN.out]; omega
          have hws := HTW.out.size
          go_quiet (fail)
          go_wp2_with fail
          refine (deliver_any d _ (R1 ++ p.data.toList) need1 (count + done.length) _ (show Dfr (W.drewN nq) _ _ _ _ _ _ from HDW.out) HLE.out (by omega)).mono ?_
          rintro e' w3 ⟨r, v3, rfl, hor, ht3, hdf3, hfr⟩
          have hsl := fof_len (R1 ++ p.data.toList)
          rw [HNN.out] at hsl
          have hfin : ∀ r' w4, w4.ownsRow w.heap.size 9 1 r' (done.length + (fof (R1 ++ p.data.toList)).1.length) (strs (done.map txt) ++ strs ((fof (R1 ++ p.data.toList)).1.map txt)) → w3.grownBy w4 u5.ownBlock → FedAt w d v count X1 r' w4 := fun r' w4 ho4 hg4 => by
            have hou := own_tch (w := W.drewN nq) (S := fun k => k = d) HOW.out ht3 fun g hg e => by have := (HOW.out.lt g hg).1; omega
            rw [HM.out]
            refine ⟨v3, _, ?_, ((HTW.out.drn nq).trans ht3 fun g _ h => .inl h).trans (Tch.grown (S := fun g => u5.ownBlock = some g) hg4 fun g hg _ => hg) fun g hlt hg => ?_, ?_, St.fof (R1 ++ p.data.toList), .inr fun g hg => Nat.le_trans hws (hfr g hg)⟩
            · simp only [List.length_append, List.map_append]
              rw [show strs (done.map txt ++ (fof (R1 ++ p.data.toList)).1.map txt) = strs (done.map txt) ++ strs ((fof (R1 ++ p.data.toList)).1.map txt) by simp [strs]]
              exact ho4
            · have := (HOW.out.lt g hg).1; omega
            · have hc : count + done.length + ((fof (R1 ++ p.data.toList)).1.map txt).length = count + (done ++ (fof (R1 ++ p.data.toList)).1).length := by simp [Nat.add_assoc]
              rw [hc] at hdf3
              exact hdf3.tch (Tch.grown (S := fun g => u5.ownBlock = some g) hg4 fun g hg _ => hg) (fun hg => by have := (HOW.out.lt d hg).1; omega) fun g hg e => hdf3.2.1.ne_own hou (by decide) g e hg
          have hou := own_tch (w := W.drewN nq) (S := fun k => k = d) HOW.out ht3 fun g hg e => by have := (HOW.out.lt g hg).1; omega
          have hw3 := ht3.size
          have hsl2 : ((fof (R1 ++ p.data.toList)).1.map txt).length = (fof (R1 ++ p.data.toList)).1.length := List.length_map _
          rw [hsl2] at hor
          have HFIN := Lib.hid hfin
          have HOU := Lib.hid hou
          clear hfin hou ht3 hdf3 hfr hsl2
          generalize (fof (R1 ++ p.data.toList)).1 = L at *
          rcases own_cases hor with ⟨rfl, hn0, hxs⟩ | ⟨g, cp, rfl, hgb, hsrc⟩
          · have HXS := Lib.hid (And.intro hn0 hxs)
            clear hn0 hxs hor
            go_wp2_with (at_builtin; go_must (refine wpList_append_own_none rfl _ _ 163 rfl w.heap.size 9 i0 1 Tryz.underlying163 hi0 _ _ _ rfl HOU.out rfl ?_))
            go_roundw
            case rel => exact HNX.out _ rfl _ _ (HFIN.out _ _ (by rw [HXS.out.1, HXS.out.2, List.append_nil]; exact HOU.out) (grown_refl _ _))
            case measure => simp [intOf]; omega
          · have HOR := Lib.hid hor
            have HSRC := Lib.hid hsrc
            clear hor hsrc
            have hws3 : w.heap.size ≤ w3.heap.size := Nat.le_trans hws hw3
            go_wp2_with (at_builtin; go_must (refine wpList_append_own _ rfl _ _ 163 rfl w.heap.size 9 i0 (.string ByteArray.empty) 1 16 Tryz.underlying163 hi0 hz0 hz1 hz2 rfl (by decide) _ _ _ rfl HOU.out ⟨g, 0, none⟩ L.length cp (strs (L.map txt)) rfl HOR.out.1 HSRC.out (strs_one _) (by unfold maxLen; omega) (by omega) hws3 ?_); intro v4 w4 hown4 hg4 _; have HO4 := Lib.hid hown4; have HG4 := Lib.hid hg4; clear hown4 hg4)
            go_roundw
            case rel => exact HNX.out _ rfl _ _ (HFIN.out _ _ HO4.out HG4.out)
            case measure => simp [intOf]; omega
      · have n0 : ((e1 : Int) != 0) = true := by rw [bne_iff_ne]; omega
        have HE := HEND.out he
        have HE2 := Lib.hid HE
        clear HE
        go_wp2
        go_ret
        rw [HE2.out]
        exact FedAt.end_ ⟨v1, need1, HOWN.out, HT.out, HD.out, HST.out, HFO.out⟩
    · obtain rfl : k = l.length := by omega
      rw [List.take_length] at hat
      have HAT := Lib.hid hat
      clear hat HNN
      go_wp2
      go_ret
      exact HAT.out.end_
end Go.Proofs.YtigbifiicbghpaaGreatDoor
end

section
/-
  Contracts of layer 6: a clone; the nil deframer. Conditions: at most a million bytes wait.
-/
namespace Go.Proofs.YtigbifiicbghpaaGreatDoor
open Go.RowKit Go.PM
set_option maxRecDepth 100000
set_option maxHeartbeats 1000000

/-- The clone of a buffer. -/
def CloneEnd (w : World) (R : List UInt8) (e : Ending) (w' : World) : Prop := ∃ v', e = .returned v' ∧ Buf w' 5 v' R ∧ Below w.heap.size w w' ∧ ∀ g, foot v' = some g → w.heap.size ≤ g
theorem u8_one (l : List UInt8) : ∀ u ∈ bvals l, u.oneCell' = true := by
  intro u hu
  obtain ⟨x, _, rfl⟩ := List.mem_map.1 hu
  rfl

/-- The end of Clone. -/
def CloneAt (w : World) (R : List UInt8) (need e count : Nat) (en : Ending) (w' : World) : Prop :=
  ∃ c v', en = .returned (.pointer (some ⟨c, 0, none⟩)) ∧ w.heap.size ≤ c ∧ Dfr w' c v' R need e count ∧ Below w.heap.size w w' ∧ ∀ g, foot v' = some g → w.heap.size ≤ g
end Go.Proofs.YtigbifiicbghpaaGreatDoor
end
