/-
  Texts of the proof, joined: Buf Fld PlainMsg0 MapV Reg Ones From Of. Conditions: as each names.
-/
import Derived.Test.YtgidfnhfgiehjaaGreatDoorXTopBurstab
import Derived.Deep.AppendSrc
import Derived.Lib.FrozenHead
import Derived.Lib.AppendStr
import Derived.Laws.BytesArg
import Derived.Maps.OwnSet
import Derived.Deep.QuietTactic
import Derived.BigQuiet
import Derived.Test.YtgidfnhfgiehjaaGreatDoorProg
import Derived.WalkSpells
import Derived.WalkLawsBesides
import Derived.Lib.Hide
import Derived.Deep.OwnRows
import Derived.KernelRfl
import Derived.Deep.RegionHeld3
import Derived.Deep.AppendLies
import Derived.Deep.DrawnRows

section
namespace Go.PM
open Go.RowKit
/-! ### Worlds of which some blocks may have turned -/
structure Tch (S : Nat → Prop) (w w' : World) : Prop where
  os : w'.os = w.os
  tape : w'.tape = w.tape
  output : w'.output = w.output
  size : w.heap.size ≤ w'.heap.size
  block : ∀ k, k < w.heap.size → ¬ S k → w'.heap[k]? = w.heap[k]?
section
variable {a w w' : World} {S S' : Nat → Prop}
theorem Tch.refl (S : Nat → Prop) (w : World) : Tch S w w := ⟨rfl, rfl, rfl, Nat.le_refl _, fun _ _ _ => rfl⟩
theorem Tch.below (h : Below w.heap.size w w') : Tch S w w' := ⟨h.os, h.tape, h.output, h.size, fun k hk _ => h.block k hk⟩
theorem Tch.grown {row : Option Nat} (h : w.grownBy w' row) (hr : ∀ g, row = some g → g < w.heap.size → S g) : Tch S w w' :=
  ⟨h.os, h.tape, h.output, h.size, fun k hk hn => h.block k hk (fun e => hn (hr k e.symm hk))⟩
theorem Tch.trans (h : Tch S a w) (k : Tch S' w w') (hs : ∀ g, g < a.heap.size → S' g → S g) : Tch S a w' :=
  ⟨k.os.trans h.os, k.tape.trans h.tape, k.output.trans h.output, Nat.le_trans h.size k.size,
    fun i hi hne => (k.block i (Nat.lt_of_lt_of_le hi h.size) (fun e => hne (hs i hi e))).trans (h.block i hi hne)⟩
theorem Tch.bel (h : Tch S a w) (k : Below w.heap.size w w') : Tch S a w' := h.trans (S' := S) (Tch.below k) fun _ _ e => e
theorem Tch.toBelowB {B : Nat} (h : Tch S w w') (hb : B ≤ w.heap.size) (hs : ∀ g, g < B → ¬ S g) : Below B w w' := ⟨h.os, h.tape, h.output, h.size, fun k hk => h.block k (by omega) (hs k hk)⟩
theorem Tch.put (h : Tch S a w) {p : Addr} (hp : p.block < a.heap.size → S p.block) (u : Value) : Tch S a (w.setCell p u) :=
  ⟨h.os, h.tape, h.output, by simpa [World.setCell] using h.size, fun k hk hne => (Below.heap_setCell w p u k (by rintro rfl; exact hne (hp hk))).trans (h.block k hk hne)⟩
theorem Tch.more (h : Tch S a w) (o : Obj) : Tch S a (w.alloc o) :=
  ⟨h.os, h.tape, h.output, Nat.le_trans h.size (by simp), fun k hk hne => (Below.heap_alloc w o k (Nat.lt_of_lt_of_le hk h.size)).trans (h.block k hk hne)⟩
theorem Tch.drn (h : Tch S a w) (n : Nat) : Tch S a (w.drewN n) := ⟨h.os, h.tape, h.output, h.size, h.block⟩
theorem Tch.dr (h : Tch S a w) : Tch S a w.drew := ⟨h.os, h.tape, h.output, h.size, h.block⟩
theorem Tch.imp (h : Tch S a w) (hs : ∀ g, g < a.heap.size → S g → S' g) : Tch S' a w := ⟨h.os, h.tape, h.output, h.size, fun k hk hne => h.block k hk (fun e => hne (hs k hk e))⟩
theorem BlkAt.tch {g : Nat} {t : TypeId} {cs : Array Value} (h : BlkAt w g t cs) (hb : Tch S w w') (hg : ¬ S g) : BlkAt w' g t cs := (hb.block g h.lt hg).trans h
theorem Rd.tch {A : Option Addr} {xs : List Value} (h : Rd w A xs) (hb : Tch S w w') (hg : ∀ b off, A = some ⟨b, off, none⟩ → ¬ S b) : Rd w' A xs :=
  h.keep hb.size fun b off e hl => hb.block b hl (hg b off e)
theorem own_tch {base e size n : Nat} {v : Value} {xs : List Value} (h : w.ownsRow base e size v n xs) (hb : Tch S w w') (hg : ∀ g, v.ownBlock = some g → ¬ S g) : w'.ownsRow base e size v n xs := by
  refine ⟨h.1, ?_⟩
  rcases h.2 with hn | ⟨g, cap, cur, rfl, hB, hgg, rest⟩
  · exact .inl hn
  · refine .inr ⟨g, cap, cur, rfl, hB, ?_, rest⟩
    rw [hb.block g (Array.getElem?_eq_some_iff.1 hgg).1 (hg g rfl)]
    exact hgg
end
/-! ### The buffer -/
/-- The block that a buffer may write to. -/
def foot : Value → Option Nat
  | .slice (some a) _ c => if c = 0 then none else some a.block
  | _ => none
/-- A block of cells of one type. -/
def HasT (w : World) (g : Nat) (e : TypeId) : Prop := ∃ cs fz, w.heap[g]? = some (.cells cs e fz)
theorem HasT.lt {w : World} {g : Nat} {e : TypeId} (h : HasT w g e) : g < w.heap.size := by
  obtain ⟨cs, fz, h⟩ := h
  exact (Array.getElem?_eq_some_iff.1 h).1
theorem HasT.one {w : World} {g : Nat} {e e' : TypeId} (h : HasT w g e) (h' : HasT w g e') : e = e' := by
  obtain ⟨cs, fz, h⟩ := h
  obtain ⟨cs', fz', h'⟩ := h'
  rw [h] at h'
  injection h' with h'
  injection h'
theorem HasT.put {w : World} {g : Nat} {e : TypeId} (h : HasT w g e) (p : Addr) (u : Value) : HasT (w.setCell p u) g e := by
  obtain ⟨cs, fz, h⟩ := h
  by_cases hp : g = p.block
  · subst hp
    by_cases hs : p.spot.isSome = true
    · exact ⟨cs, fz, by simp [World.setCell, Array.getElem?_modify, h, hs]⟩
    · exact ⟨cs.setIfInBounds p.off u, fz, by simp [World.setCell, Array.getElem?_modify, h, hs]⟩
  · exact ⟨cs, fz, (Below.heap_setCell w p u g hp).trans h⟩
theorem HasT.puts {g : Nat} {e : TypeId} {b : Nat} : ∀ (vs : List Value) (o : Nat) (w : World), HasT w g e → HasT (w.setCells b o vs) g e
  | [], _, _, h => h
  | v :: vs, o, _, h => HasT.puts vs (o + 1) _ (h.put _ v)
theorem BlkAt.hasT {w : World} {g : Nat} {t : TypeId} {cs : Array Value} (h : BlkAt w g t cs) : HasT w g t := ⟨cs, (0, 0), h⟩
def Buf (w : World) (e : TypeId) (v : Value) (l : List UInt8) : Prop :=
  (v = .slice none 0 0 ∧ l = []) ∨ ∃ g cap, v = .slice (some ⟨g, 0, none⟩) l.length cap ∧ (cap = 0 ∨ HasT w g e) ∧ l.length ≤ cap ∧ (∀ j, j < cap → (w.cell? ⟨g, j, none⟩).isSome = true ∧ w.frozen? ⟨g, j, none⟩ = false) ∧
    ∀ j (h : j < l.length), w.cell? ⟨g, j, none⟩ = some (.int .u8 (l[j].toNat : Int))
section
variable {w w' : World} {e : TypeId} {v : Value} {l : List UInt8}
theorem Buf.nil (w : World) (e : TypeId) : Buf w e (.slice none 0 0) [] := .inl ⟨rfl, rfl⟩
theorem Buf.foot_has (h : Buf w e v l) {g : Nat} (hg : foot v = some g) : HasT w g e := by
  rcases h with ⟨rfl, rfl⟩ | ⟨g', cap, rfl, hlt, _⟩
  · simp [foot] at hg
  · simp only [foot] at hg
    split at hg
    · cases hg
    · rcases hlt with h | h
      · contradiction
      · injection hg with hg; exact hg ▸ h
theorem Buf.foot_lt (h : Buf w e v l) {g : Nat} (hg : foot v = some g) : g < w.heap.size := (h.foot_has hg).lt
theorem Buf.ne_blk (h : Buf w e v l) {d : Nat} {t : TypeId} {cs : Array Value} (hd : BlkAt w d t cs) (ht : t ≠ e) : foot v ≠ some d := fun hg => ht (hd.hasT.one (h.foot_has hg))
theorem Buf.ne_own (h : Buf w e v l) {base e' size n : Nat} {r : Value} {xs : List Value} (hd : w.ownsRow base e' size r n xs) (ht : e' ≠ e) : ∀ g, r.ownBlock = some g → foot v ≠ some g := fun g hr hg => by
  rcases hd.2 with ⟨rfl, _⟩ | ⟨g', cap, cur, rfl, hb, hgg, _⟩
  · cases hr
  · have e1 : g' = g := by simpa [Value.ownBlock] using hr
    subst e1
    exact ht (HasT.one ⟨cur, (0, 0), hgg⟩ (h.foot_has hg))
theorem Buf.tch {S : Nat → Prop} (h : Buf w e v l) (hg : Tch S w w') (hne : ∀ g, foot v = some g → ¬ S g) : Buf w' e v l := by
  rcases h with h | ⟨g, cap, rfl, hlt, hc, hall, hl⟩
  · exact .inl h
  · by_cases hc0 : cap = 0
    · subst hc0
      exact .inr ⟨g, 0, rfl, .inl rfl, hc, fun j hj => by omega, fun j hj => by omega⟩
    · have hty : HasT w g e := by rcases hlt with h | h; exact absurd h hc0; exact h
      have hlt := hty.lt
      have e := hg.block g hlt (hne g (by simp [foot, hc0]))
      have ec : ∀ j, w'.cell? ⟨g, j, none⟩ = w.cell? ⟨g, j, none⟩ := fun j => by unfold World.cell?; simp only [e]
      have ef : ∀ j, w'.frozen? ⟨g, j, none⟩ = w.frozen? ⟨g, j, none⟩ := fun j => by unfold World.frozen?; simp only [e]
      exact .inr ⟨g, cap, rfl, .inr (by obtain ⟨cs, fz, hh⟩ := hty; exact ⟨cs, fz, e.trans hh⟩), hc, fun j hj => by rw [ec, ef]; exact hall j hj, fun j hj => by rw [ec]; exact hl j hj⟩
theorem Buf.below (h : Buf w e v l) (hb : Below w.heap.size w w') : Buf w' e v l := h.tch (S := fun _ => False) (Tch.below hb) fun _ _ => id
theorem Buf.at_heap {g : Nat} {e : TypeId} {s : ByteArray} {cap : Nat} (hh : w.heap[g]? = some (.cells (bytesRow s cap) e ((bytesRow s cap).size, (bytesRow s cap).size + 1))) (hc : s.size ≤ cap) :
    Buf w e (.slice (some ⟨g, 0, none⟩) s.size cap) s.data.toList := by
  have hn : (bytesRow s cap).size = cap := by
    have : s.data.size = s.size := rfl
    simp [bytesRow]
    omega
  refine .inr ⟨g, cap, by rw [len_list], .inr ⟨_, _, hh⟩, by rw [len_list]; exact hc, fun j hj => ⟨?_, ?_⟩, fun j hj => ?_⟩
  · rw [cell_of_row _ _ _ _ _ _ hh]
    simp [hn, hj]
  · unfold World.frozen?
    rw [hh]
    simp
    omega
  · have hjs : j < s.data.size := by simpa using hj
    rw [cell_of_row _ _ _ _ _ _ hh, bytesRow_at s cap j hjs]
    simp
theorem byteCells_at (s : ByteArray) (j : Nat) (hj : j < s.data.toList.length) (h : j < (byteCells s).length) : (byteCells s)[j] = .int .u8 (s.data.toList[j].toNat : Int) := by simp [byteCells]
theorem Buf.ofOwn {B : Nat} {n : Nat} (h : w.ownsRow B e 1 v n (bvals l)) : Buf w e v l ∧ ∀ g, foot v = some g → B ≤ g := by
  obtain ⟨h1, h2⟩ := h
  rw [bvals_length, Nat.mul_one] at h1
  rcases h2 with ⟨rfl, rfl⟩ | ⟨g, cap, cur, rfl, hb, hg, hnc, _, hcs, htk⟩
  · exact ⟨.inl ⟨rfl, List.eq_nil_of_length_eq_zero h1⟩, fun g hg => by simp [foot] at hg⟩
  · subst h1
    refine ⟨.inr ⟨g, cap, rfl, .inr ⟨_, _, hg⟩, hnc, fun j hj => ⟨?_, ?_⟩, fun j hj => ?_⟩, fun g' hg' => ?_⟩
    · rw [cell_of_row _ _ _ _ _ _ hg]
      simp
      omega
    · unfold World.frozen?
      rw [hg]
      simp
    · rw [cell_of_row _ _ _ _ _ _ hg]
      have := bvals_at l j hj
      rw [← htk, List.getElem?_take, if_pos (by omega)] at this
      simpa using this
    · simp only [foot] at hg'
      split at hg'
      · cases hg'
      · injection hg' with hg'; omega
theorem tch_setCells {a : World} {S : Nat → Prop} {b : Nat} (hb : S b) : ∀ (vs : List Value) (o : Nat) (w : World), Tch S a w → Tch S a (w.setCells b o vs)
  | [], _, _, h => h
  | v :: vs, o, _, h => tch_setCells hb vs (o + 1) _ (h.put (fun _ => hb) v)
theorem foot_some {g n c : Nat} (h : c ≠ 0) : foot (.slice (some ⟨g, 0, none⟩) n c) = some g := by simp [foot, h]
theorem buf_append {P : Program} (h : Buf w e v l) (s : ByteArray) (t u ty : TypeId) (i : TypeInfo) (ht : P.underlying t = some (.slice e)) (hu : P.underlying u = some .string) (hi : P.info? e = some i) (hz : i.zero = some (.int .u8 0))
    (hsize : i.size = 1) (hby : i.bytes = 1) (hn : l.length + s.size ≤ 1000000) :
    ∃ v' w', (Builtin.append_ #[t, u] ty #[v, .string s]).run P w = .ok v' w' ∧ Buf w' e v' (l ++ s.data.toList) ∧ Tch (fun k => foot v = some k) w w' ∧ (foot v' = foot v ∨ ∀ g, foot v' = some g → w.heap.size ≤ g) := by
  rcases h with ⟨rfl, rfl⟩ | ⟨g, cap, rfl, hlt, hc, hall, hl⟩
  · obtain ⟨v', w', h1, h2, h3, _⟩ := Lib.run_append_own_string (P := P) w w.heap.size t u ty e i ht hu hi hz hsize hby (.slice none 0 0) 0 [] (World.ownsRow_nil _ _ _ _) s (by unfold maxLen; simp at hn; omega) (by simp at hn; omega) (Nat.le_refl _)
    have h4 := Buf.ofOwn (n := 0 + s.size) h2
    exact ⟨v', w', h1, h4.1, Tch.grown h3 (fun g hg => by simp [Value.ownBlock] at hg), .inr h4.2⟩
  · have hs : Src P i.size u (.string s) s.size (byteCells s) w := by rw [hsize]; exact Src.ofString w hu s
    by_cases hroom : l.length + s.size ≤ cap
    · have hr := run_append_room_src (P := P) w t u ty e i ht hi g 0 l.length cap (.string s) s.size (byteCells s) hs hroom
        (fun j hj => by rw [byteCells_length] at hj; rw [hsize]; exact (hall _ (by omega)).1) (fun j hj => by rw [byteCells_length] at hj; rw [hsize]; exact (hall _ (by omega)).2)
      rw [hsize, Nat.mul_one, Nat.zero_add] at hr
      have hgr : Tch (fun k => foot (.slice (some ⟨g, 0, none⟩) l.length cap) = some k) w (w.setCells g l.length (byteCells s)) := by
        by_cases hc0 : cap = 0
        · have : byteCells s = [] := List.eq_nil_of_length_eq_zero (by rw [byteCells_length]; omega)
          rw [this]
          exact Tch.refl _ _
        · exact tch_setCells (S := fun k => foot (.slice (some ⟨g, 0, none⟩) l.length cap) = some k) (b := g) (foot_some hc0) _ _ _ (Tch.refl _ _)
      have hin := World.cell?_setCells_in g (byteCells s) l.length w (fun j hj => by rw [byteCells_length] at hj; exact (hall _ (by omega)).1)
      have hout := fun x => World.cell?_setCells_out g (byteCells s) l.length w x
      refine ⟨_, _, hr, .inr ⟨g, cap, by rw [List.length_append, len_list], hlt.imp id (fun h => h.puts _ _ _), by rw [List.length_append, len_list]; exact hroom, fun j hj => ⟨?_, ?_⟩, fun j hj => ?_⟩, hgr, .inl rfl⟩
      · by_cases h1 : l.length ≤ j ∧ j < l.length + s.size
        · have := hin (j - l.length) (by rw [byteCells_length]; omega)
          rw [show l.length + (j - l.length) = j by omega] at this
          rw [this]; rfl
        · rw [hout _ (fun _ _ => by simp only [byteCells_length]; omega)]
          exact (hall j hj).1
      · rw [World.frozen?_setCells]
        exact (hall j hj).2
      · rw [List.length_append, len_list] at hj
        by_cases h1 : j < l.length
        · rw [hout _ (fun _ _ => by simp only; omega), hl j h1, List.getElem_append_left h1]
        · have := hin (j - l.length) (by rw [byteCells_length]; omega)
          rw [show l.length + (j - l.length) = j by omega, byteCells_at s _ (by rw [len_list]; omega)] at this
          rw [this, List.getElem_append_right (by omega)]
    · have hold : (Builtin.firstCells i.size l.length (.slice (some ⟨g, 0, none⟩) l.length cap)).run P w.drew = .ok (bvals l).toArray w.drew :=
        run_firstCells_some w.drew i.size l.length ⟨g, 0, none⟩ l.length cap (bvals l) (by rw [bvals_length, hsize, Nat.mul_one]) (fun j x hx => by
          rw [add_at]
          have hj : j < l.length := by have := (List.getElem?_eq_some_iff.1 hx).1; rwa [bvals_length] at this
          rw [bvals_at l j hj] at hx
          rw [← hx]
          exact hl j hj)
      have hge := grownCap_ge w (l.length + s.size) cap e
      have hr := run_append_grow_src (P := P) w t u ty e i (.int .u8 0) ht hi hz (some ⟨g, 0, none⟩) l.length cap (bvals l) hold (.string s) s.size (byteCells s) hs (by omega) (by omega)
        (by rw [hby]; exact growslice_fits (by omega) (by omega))
      generalize hG : grownCap w (l.length + s.size) cap e = G at hr hge
      have hC : ((bvals l ++ byteCells s).toArray ++ Builtin.zeroCells (Value.int .u8 0).cells (G - (l.length + s.size))).size = G := by
        have hz1 : (Value.int IntKind.u8 0).cells.size = 1 := rfl
        simp only [Array.size_append, List.size_toArray, size_zeroCells, hz1, List.length_append, bvals_length, byteCells_length]
        omega
      have hat : ∀ j (hj : j < l.length + s.size), ((bvals l ++ byteCells s).toArray ++ Builtin.zeroCells (Value.int .u8 0).cells (G - (l.length + s.size)))[j]? = some (.int .u8 ((l ++ s.data.toList)[j]'(by rw [List.length_append, len_list]; exact hj)).toNat) := fun j hj => by
        rw [Array.getElem?_append_left (by simp only [List.size_toArray, List.length_append, bvals_length, byteCells_length]; exact hj), List.getElem?_toArray]
        have := bvals_at (l ++ s.data.toList) j (by rw [List.length_append, len_list]; exact hj)
        rw [← this]
        congr 1
        simp [bvals, byteCells]
      generalize (bvals l ++ byteCells s).toArray ++ Builtin.zeroCells (Value.int .u8 0).cells (G - (l.length + s.size)) = C at hr hC hat
      have hh : (w.drew.alloc (.cells C e)).heap[w.heap.size]? = some (.cells C e (0, 0)) := heap_alloc_new w.drew _
      have hG0 : foot (.slice (some ⟨w.heap.size, 0, none⟩) (l.length + s.size) G) = none ∨ foot (.slice (some ⟨w.heap.size, 0, none⟩) (l.length + s.size) G) = some w.heap.size := by
        by_cases h0 : G = 0
        · left; simp [foot, h0]
        · right; simp [foot, h0]
      refine ⟨_, _, hr, .inr ⟨w.heap.size, G, by rw [List.length_append, len_list], .inr ⟨_, _, hh⟩, by rw [List.length_append, len_list]; exact hge, fun j hj => ⟨?_, ?_⟩, fun j hj => ?_⟩, ((Tch.refl _ _).dr.more _), .inr fun g' hg' => by rcases hG0 with h | h <;> rw [h] at hg' <;> simp at hg'; omega⟩
      · rw [cell_of_row _ _ _ _ _ _ hh]
        simp [hC, hj]
      · unfold World.frozen?
        rw [hh]
        simp
      · rw [List.length_append, len_list] at hj
        rw [cell_of_row _ _ _ _ _ _ hh, hat j hj]
theorem Buf.back {P : Program} (h : Buf w e v l) (src dst : TypeId) (hs : P.underlying src = some (.slice e)) (he : P.underlying e = some (.int .u8)) (hd : P.underlying dst = some .string) :
    (convert src dst v).run P w = .ok (.string (txt l)) w := by
  rcases h with ⟨rfl, rfl⟩ | ⟨g, cap, rfl, hlt, hc, hall, hl⟩
  · exact run_convert_bytes_nil w src e hs he 0 0 dst hd
  · have := run_convert_bytes_back (P := P) w src dst e ⟨g, 0, none⟩ cap l hs he hd fun j hj => by
      rw [add_at]
      exact hl j hj
    exact this
theorem Buf.len (h : Buf w e v l) : ∃ A c, v = .slice A l.length c := by
  rcases h with ⟨rfl, rfl⟩ | ⟨g, cap, rfl, _⟩
  · exact ⟨_, _, rfl⟩
  · exact ⟨_, _, rfl⟩
end
/-- An append whose run is known. -/
theorem wpList_append_run {P : Program} {w w' : World} {ops : Array Oper} {rest : List Oper} {o : Oper} {a : Act} {Q : Exit → Act → World → Prop} (hgd : o.guard = none) (s x : Operand) (t u : TypeId)
    (ho : o.op = .call { callee := .builtin .append, args := #[s, x], argTypes := #[t, u] }) (v y v' : Value) (hs : a.eval s = v) (hx : a.eval x = y)
    (hrun : (Builtin.append_ #[t, u] o.type #[v, y]).run P w = .ok v' w') (h : wpList P ops Q rest (a.put o.dst v') w') : wpList P ops Q (o :: rest) a w := by
  refine wpList_plain hgd fun K hK => ?_
  unfold Oper.wp
  simp [execOp, ho, resolve, invoke, builtin, hs, hx, hrun, Result.andThen]
  exact hK _ _ h
end Go.PM
end

section
namespace Go.PM
open Go.RowKit
/-- A list of fields: the first one's tag, type, number, text, its own fields; the others. -/
inductive Fs where
  | nil : Fs
  | cons (tag : Nat) (ty : Int) (num : Nat) (text : ByteArray) (inner rest : Fs) : Fs
namespace Fs
def len : Fs → Nat
  | nil => 0
  | cons _ _ _ _ _ r => r.len + 1
/-- How many fields there are, with those of all lists. -/
def count : Fs → Nat
  | nil => 0
  | cons _ _ _ _ i r => 1 + i.count + r.count
def app : Fs → Fs → Fs
  | nil, g => g
  | cons t y n s i r, g => cons t y n s i (r.app g)
theorem app_nil : ∀ f : Fs, f.app nil = f
  | nil => rfl
  | cons t y n s i r => by rw [app, app_nil r]
theorem app_len : ∀ f g : Fs, (f.app g).len = f.len + g.len
  | nil, g => by simp [app, len]
  | cons t y n s i r, g => by rw [app, len, len, app_len r g]; omega
theorem app_count : ∀ f g : Fs, (f.app g).count = f.count + g.count
  | nil, g => by simp [app, count]
  | cons t y n s i r, g => by rw [app, count, count, app_count r g]; omega
theorem app_assoc : ∀ f g h : Fs, (f.app g).app h = f.app (g.app h)
  | nil, _, _ => rfl
  | cons t y n s i r, g, h => by rw [app, app, app, app_assoc r g h]
theorem len_zero : ∀ {f : Fs}, f.len = 0 → f = nil
  | nil, _ => rfl
  | cons .., h => by simp [len] at h
theorem len_count : ∀ f : Fs, f.len ≤ f.count
  | nil => Nat.le_refl _
  | cons t y n s i r => by have := len_count r; rw [len, count]; omega
/-- What holds of each field, everywhere. -/
def All (P : Nat → Int → Nat → ByteArray → Prop) : Fs → Prop
  | nil => True
  | cons t y n s i r => P t y n s ∧ All P i ∧ All P r
theorem All.app {P : Nat → Int → Nat → ByteArray → Prop} : ∀ {f g : Fs}, All P f → All P g → All P (f.app g)
  | nil, _, _, h => h
  | cons .., _, h, h' => ⟨h.1, h.2.1, All.app h.2.2 h'⟩
end Fs
/-- The fields that lie in a block from an offset on; the blocks of their own fields, however deep, meet I. -/
def FsAt (w : World) (I : Nat → Prop) : Fs → Nat → Nat → Prop
  | .nil, _, _ => True
  | .cons t y n s i r, b, o =>
    w.cell? ⟨b, o, none⟩ = some (.int .u64 (t : Int)) ∧ w.cell? ⟨b, o + 1, none⟩ = some (.int .i64 y) ∧ w.cell? ⟨b, o + 2, none⟩ = some (.int .u64 (n : Int)) ∧ w.cell? ⟨b, o + 3, none⟩ = some (.string s) ∧
    (∃ A c, w.cell? ⟨b, o + 4, none⟩ = some (.slice A i.len c) ∧ i.len ≤ c ∧ (i.len = 0 ∨ ∃ b' o', A = some ⟨b', o', none⟩ ∧ I b' ∧ b' < w.heap.size ∧ FsAt w I i b' o')) ∧ FsAt w I r b (o + 5)
/-- A slice that reads as fields. -/
def SlV (w : World) (I : Nat → Prop) (v : Value) (f : Fs) : Prop :=
  ∃ A c, v = .slice A f.len c ∧ f.len ≤ c ∧ (f.len = 0 ∨ ∃ b o, A = some ⟨b, o, none⟩ ∧ I b ∧ b < w.heap.size ∧ FsAt w I f b o)
/-- Cells that are fields. -/
def Cls (w : World) (I : Nat → Prop) : List Value → Fs → Prop
  | [], .nil => True
  | a :: b :: c :: d :: v :: xs, .cons t y n s i r => a = .int .u64 (t : Int) ∧ b = .int .i64 y ∧ c = .int .u64 (n : Int) ∧ d = .string s ∧ SlV w I v i ∧ Cls w I xs r
  | _, _ => False
section
variable {w w' : World} {I J : Nat → Prop}
theorem FsAt.keep (hs : w.heap.size ≤ w'.heap.size) (hI : ∀ k, I k → k < w.heap.size → w'.heap[k]? = w.heap[k]?) : ∀ {f : Fs} {b o : Nat}, w'.heap[b]? = w.heap[b]? → FsAt w I f b o → FsAt w' I f b o
  | .nil, _, _, _, _ => trivial
  | .cons t y n s i r, b, o, hb, h => by
    have e : ∀ j, w'.cell? ⟨b, j, none⟩ = w.cell? ⟨b, j, none⟩ := fun j => World.cell?_of_block (a := ⟨b, j, none⟩) hb
    obtain ⟨h1, h2, h3, h4, ⟨A, c, h5, hc, h6⟩, h7⟩ := h
    refine ⟨(e _).trans h1, (e _).trans h2, (e _).trans h3, (e _).trans h4, ⟨A, c, (e _).trans h5, hc, ?_⟩, FsAt.keep hs hI hb h7⟩
    rcases h6 with h6 | ⟨b', o', hA, hi, hlt, h8⟩
    · exact .inl h6
    · exact .inr ⟨b', o', hA, hi, Nat.lt_of_lt_of_le hlt hs, FsAt.keep hs hI (hI b' hi hlt) h8⟩
theorem FsAt.imp (hJ : ∀ k, I k → J k) : ∀ {f : Fs} {b o : Nat}, FsAt w I f b o → FsAt w J f b o
  | .nil, _, _, _ => trivial
  | .cons t y n s i r, b, o, h => by
    obtain ⟨h1, h2, h3, h4, ⟨A, c, h5, hc, h6⟩, h7⟩ := h
    refine ⟨h1, h2, h3, h4, ⟨A, c, h5, hc, ?_⟩, FsAt.imp hJ h7⟩
    rcases h6 with h6 | ⟨b', o', hA, hi, hlt, h8⟩
    · exact .inl h6
    · exact .inr ⟨b', o', hA, hJ _ hi, hlt, FsAt.imp hJ h8⟩
theorem SlV.keep {v : Value} {f : Fs} (h : SlV w I v f) (hs : w.heap.size ≤ w'.heap.size) (hI : ∀ k, I k → k < w.heap.size → w'.heap[k]? = w.heap[k]?) : SlV w' I v f := by
  obtain ⟨A, c, hv, hc, h⟩ := h
  refine ⟨A, c, hv, hc, h.imp id fun ⟨b, o, hA, hi, hlt, h8⟩ => ⟨b, o, hA, hi, Nat.lt_of_lt_of_le hlt hs, h8.keep hs hI (hI b hi hlt)⟩⟩
theorem SlV.imp {v : Value} {f : Fs} (h : SlV w I v f) (hJ : ∀ k, I k → J k) : SlV w J v f := by
  obtain ⟨A, c, hv, hc, h⟩ := h
  exact ⟨A, c, hv, hc, h.imp id fun ⟨b, o, hA, hi, hlt, h8⟩ => ⟨b, o, hA, hJ _ hi, hlt, h8.imp hJ⟩⟩
theorem SlV.below {v : Value} {f : Fs} (h : SlV w I v f) (hb : Below w.heap.size w w') : SlV w' I v f := h.keep hb.size fun k _ hk => hb.block k hk
theorem SlV.tch {S : Nat → Prop} {v : Value} {f : Fs} (h : SlV w I v f) (hb : Tch S w w') (hS : ∀ k, I k → ¬ S k) : SlV w' I v f := h.keep hb.size fun k hi hk => hb.block k hk (hS k hi)
theorem SlV.nil (w : World) (I : Nat → Prop) (A : Option Addr) (c : Nat) : SlV w I (.slice A 0 c) .nil := ⟨A, c, rfl, Nat.zero_le _, .inl rfl⟩
theorem Cls.keep (hs : w.heap.size ≤ w'.heap.size) (hI : ∀ k, I k → k < w.heap.size → w'.heap[k]? = w.heap[k]?) : ∀ {xs : List Value} {f : Fs}, Cls w I xs f → Cls w' I xs f
  | [], .nil, _ => trivial
  | _ :: _ :: _ :: _ :: _ :: _, .cons .., h => ⟨h.1, h.2.1, h.2.2.1, h.2.2.2.1, h.2.2.2.2.1.keep hs hI, Cls.keep hs hI h.2.2.2.2.2⟩
  | [], .cons .., h => h.elim
  | _ :: _, .nil, h => by simp [Cls] at h
  | [_], .cons .., h => by simp [Cls] at h
  | [_, _], .cons .., h => by simp [Cls] at h
  | [_, _, _], .cons .., h => by simp [Cls] at h
  | [_, _, _, _], .cons .., h => by simp [Cls] at h
theorem Cls.below {xs : List Value} {f : Fs} (h : Cls w I xs f) (hb : Below w.heap.size w w') : Cls w' I xs f := h.keep hb.size fun k _ hk => hb.block k hk
theorem Cls.tch {S : Nat → Prop} {xs : List Value} {f : Fs} (h : Cls w I xs f) (hb : Tch S w w') (hS : ∀ k, I k → ¬ S k) : Cls w' I xs f := h.keep hb.size fun k hi hk => hb.block k hk (hS k hi)
theorem Cls.imp (hJ : ∀ k, I k → J k) : ∀ {xs : List Value} {f : Fs}, Cls w I xs f → Cls w J xs f
  | [], .nil, _ => trivial
  | _ :: _ :: _ :: _ :: _ :: _, .cons .., h => ⟨h.1, h.2.1, h.2.2.1, h.2.2.2.1, h.2.2.2.2.1.imp hJ, Cls.imp hJ h.2.2.2.2.2⟩
  | [], .cons .., h => h.elim
  | _ :: _, .nil, h => by simp [Cls] at h
  | [_], .cons .., h => by simp [Cls] at h
  | [_, _], .cons .., h => by simp [Cls] at h
  | [_, _, _], .cons .., h => by simp [Cls] at h
  | [_, _, _, _], .cons .., h => by simp [Cls] at h
theorem Cls.length : ∀ {xs : List Value} {f : Fs}, Cls w I xs f → xs.length = 5 * f.len
  | [], .nil, _ => rfl
  | _ :: _ :: _ :: _ :: _ :: xs, .cons _ _ _ _ _ r, h => by
    have := Cls.length h.2.2.2.2.2
    simp only [List.length_cons, Fs.len]
    omega
  | [], .cons .., h => h.elim
  | _ :: _, .nil, h => by simp [Cls] at h
  | [_], .cons .., h => by simp [Cls] at h
  | [_, _], .cons .., h => by simp [Cls] at h
  | [_, _, _], .cons .., h => by simp [Cls] at h
  | [_, _, _, _], .cons .., h => by simp [Cls] at h
theorem Cls.app : ∀ {xs ys : List Value} {f g : Fs}, Cls w I xs f → Cls w I ys g → Cls w I (xs ++ ys) (f.app g)
  | [], _, .nil, _, _, h => h
  | _ :: _ :: _ :: _ :: _ :: _, _, .cons .., _, h, h' => ⟨h.1, h.2.1, h.2.2.1, h.2.2.2.1, h.2.2.2.2.1, Cls.app h.2.2.2.2.2 h'⟩
  | [], _, .cons .., _, h, _ => h.elim
  | _ :: _, _, .nil, _, h, _ => by simp [Cls] at h
  | [_], _, .cons .., _, h, _ => by simp [Cls] at h
  | [_, _], _, .cons .., _, h, _ => by simp [Cls] at h
  | [_, _, _], _, .cons .., _, h, _ => by simp [Cls] at h
  | [_, _, _, _], _, .cons .., _, h, _ => by simp [Cls] at h
/-- Cells that are fields, where they lie. -/
theorem Cls.at_ : ∀ {xs : List Value} {f : Fs} {b o : Nat}, Cls w I xs f → (∀ j u, xs[j]? = some u → w.cell? ⟨b, o + j, none⟩ = some u) → FsAt w I f b o
  | [], .nil, _, _, _, _ => trivial
  | x0 :: x1 :: x2 :: x3 :: v :: xs, .cons t y n s i r, b, o, h, hc => by
    obtain ⟨rfl, rfl, rfl, rfl, ⟨A, c, rfl, h5, h6⟩, h7⟩ := h
    refine ⟨hc 0 _ rfl, hc 1 _ rfl, hc 2 _ rfl, hc 3 _ rfl, ⟨A, c, hc 4 _ rfl, h5, h6⟩, Cls.at_ h7 fun j u hj => ?_⟩
    rw [Nat.add_assoc, Nat.add_comm 5 j]
    exact hc (j + 5) u hj
  | [], .cons .., _, _, h, _ => h.elim
  | _ :: _, .nil, _, _, h, _ => by simp [Cls] at h
  | [_], .cons .., _, _, h, _ => by simp [Cls] at h
  | [_, _], .cons .., _, _, h, _ => by simp [Cls] at h
  | [_, _, _], .cons .., _, _, h, _ => by simp [Cls] at h
  | [_, _, _, _], .cons .., _, _, h, _ => by simp [Cls] at h
/-- What lies there, as cells. -/
theorem FsAt.cls : ∀ {f : Fs} {b o : Nat}, FsAt w I f b o → ∃ xs, Cls w I xs f ∧ ∀ j u, xs[j]? = some u → w.cell? ⟨b, o + j, none⟩ = some u
  | .nil, _, _, _ => ⟨[], trivial, by simp⟩
  | .cons t y n s i r, b, o, h => by
    obtain ⟨h1, h2, h3, h4, ⟨A, c, h5, hc, h6⟩, h7⟩ := h
    obtain ⟨xs, hx, hx2⟩ := FsAt.cls h7
    refine ⟨.int .u64 (t : Int) :: .int .i64 y :: .int .u64 (n : Int) :: .string s :: .slice A i.len c :: xs, ⟨rfl, rfl, rfl, rfl, ⟨A, c, rfl, hc, h6⟩, hx⟩, fun j u hj => ?_⟩
    match j, hj with
    | 0, hj => injection hj with hj; subst hj; exact h1
    | 1, hj => injection hj with hj; subst hj; exact h2
    | 2, hj => injection hj with hj; subst hj; exact h3
    | 3, hj => injection hj with hj; subst hj; exact h4
    | 4, hj => injection hj with hj; subst hj; exact h5
    | j + 5, hj =>
      have := hx2 j u hj
      rw [Nat.add_assoc, Nat.add_comm 5 j] at this
      exact this
end
/-- The k-th field, and those from there on. -/
def Fs.drop : Fs → Nat → Fs
  | f, 0 => f
  | .nil, _ + 1 => .nil
  | .cons _ _ _ _ _ r, k + 1 => r.drop k
def Fs.take : Fs → Nat → Fs
  | _, 0 => .nil
  | .nil, _ + 1 => .nil
  | .cons t y n s i r, k + 1 => .cons t y n s i (r.take k)
theorem Fs.drop_len : ∀ (f : Fs) (k : Nat), (f.drop k).len = f.len - k
  | f, 0 => by cases f <;> rfl
  | .nil, _ + 1 => by simp [Fs.drop, Fs.len]
  | .cons _ _ _ _ _ r, k + 1 => by rw [Fs.drop, Fs.drop_len r k, Fs.len]; omega
theorem Fs.drop_cons : ∀ (f : Fs) (k : Nat), k < f.len → ∃ t y n s i, f.drop k = .cons t y n s i (f.drop (k + 1)) ∧ f.take (k + 1) = (f.take k).app (.cons t y n s i .nil)
  | .cons t y n s i r, 0, _ => ⟨t, y, n, s, i, by cases r <;> rfl, by cases r <;> rfl⟩
  | .cons t y n s i r, k + 1, h => by
    obtain ⟨t', y', n', s', i', h1, h2⟩ := Fs.drop_cons r k (by simp [Fs.len] at h; omega)
    exact ⟨t', y', n', s', i', h1, by rw [Fs.take, h2]; rfl⟩
theorem Fs.take_all : ∀ (f : Fs) (k : Nat), f.len ≤ k → f.take k = f
  | .nil, 0, _ => rfl
  | .nil, _ + 1, _ => rfl
  | .cons .., 0, h => by simp [Fs.len] at h
  | .cons t y n s i r, k + 1, h => by rw [Fs.take, Fs.take_all r k (by simp [Fs.len] at h; omega)]
theorem Fs.take_len : ∀ (f : Fs) (k : Nat), k ≤ f.len → (f.take k).len = k
  | f, 0, _ => by cases f <;> rfl
  | .nil, _ + 1, h => by simp [Fs.len] at h
  | .cons t y n s i r, k + 1, h => by rw [Fs.take, Fs.len, Fs.take_len r k (by simp [Fs.len] at h; omega)]
theorem FsAt.drop {w : World} {I : Nat → Prop} : ∀ {f : Fs} {b o : Nat} (k : Nat), FsAt w I f b o → FsAt w I (f.drop k) b (o + k * 5)
  | f, b, o, 0, h => by cases f <;> simpa [Fs.drop] using h
  | .nil, _, _, _ + 1, _ => trivial
  | .cons t y n s i r, b, o, k + 1, h => by
    have := FsAt.drop k h.2.2.2.2.2
    rw [show o + 5 + k * 5 = o + (k + 1) * 5 by omega] at this
    exact this
theorem FsAt.lt {w : World} {I : Nat → Prop} : ∀ {f : Fs} {b o : Nat}, FsAt w I f b o → FsAt w (fun k => I k ∧ k < w.heap.size) f b o
  | .nil, _, _, _ => trivial
  | .cons t y n s i r, b, o, h => by
    obtain ⟨h1, h2, h3, h4, ⟨A, c, h5, hc, h6⟩, h7⟩ := h
    refine ⟨h1, h2, h3, h4, ⟨A, c, h5, hc, ?_⟩, FsAt.lt h7⟩
    rcases h6 with h6 | ⟨b', o', hA, hi, hlt, h8⟩
    · exact .inl h6
    · exact .inr ⟨b', o', hA, ⟨hi, hlt⟩, hlt, FsAt.lt h8⟩
theorem SlV.lt {w : World} {I : Nat → Prop} {v : Value} {f : Fs} (h : SlV w I v f) : SlV w (fun k => I k ∧ k < w.heap.size) v f := by
  obtain ⟨A, c, hv, hc, h⟩ := h
  exact ⟨A, c, hv, hc, h.imp id fun ⟨b, o, hA, hi, hlt, h8⟩ => ⟨b, o, hA, ⟨hi, hlt⟩, hlt, h8.lt⟩⟩
theorem Cls.lt {w : World} {I : Nat → Prop} : ∀ {xs : List Value} {f : Fs}, Cls w I xs f → Cls w (fun k => I k ∧ k < w.heap.size) xs f
  | [], .nil, _ => trivial
  | _ :: _ :: _ :: _ :: _ :: _, .cons .., h => ⟨h.1, h.2.1, h.2.2.1, h.2.2.2.1, h.2.2.2.2.1.lt, Cls.lt h.2.2.2.2.2⟩
  | [], .cons .., h => h.elim
  | _ :: _, .nil, h => by simp [Cls] at h
  | [_], .cons .., h => by simp [Cls] at h
  | [_, _], .cons .., h => by simp [Cls] at h
  | [_, _, _], .cons .., h => by simp [Cls] at h
  | [_, _, _, _], .cons .., h => by simp [Cls] at h
/-- Fields behind an append to their row. -/
theorem Cls.grow {wq w3 : World} {base g : Nat} {v : Value} {xs : List Value} {f : Fs} (h : Cls wq (fun k => base ≤ k ∧ v.ownBlock ≠ some k) xs f) (hg : wq.grownBy w3 v.ownBlock) (hat : v.ownBlock = some g ∨ g = wq.heap.size) :
    Cls w3 (fun k => base ≤ k ∧ some g ≠ some k) xs f := by
  have h2 := Cls.tch (S := fun k => v.ownBlock = some k) h.lt (Tch.grown hg fun k hk _ => hk) fun k hk => hk.1.2
  refine h2.imp fun k hk => ⟨hk.1.1, fun e => ?_⟩
  injection e with e
  subst e
  rcases hat with h | h
  · exact hk.1.2 h
  · have := hk.2; omega
theorem BlkAt.news {w : World} {g : Nat} {t : TypeId} {cs : Array Value} (h : BlkAt w g t cs) : ∀ j u, cs.toList[j]? = some u → w.cell? ((⟨g, 0, none⟩ : Addr).add j) = some u := by
  intro j u hj
  rw [add_at, h.cell j, ← Array.getElem?_toList]
  exact hj
theorem Fs.All.imp {P Q : Nat → Int → Nat → ByteArray → Prop} (h : ∀ t y n s, P t y n s → Q t y n s) : ∀ {f : Fs}, f.All P → f.All Q
  | .nil, _ => trivial
  | .cons .., hf => ⟨h _ _ _ _ hf.1, Fs.All.imp h hf.2.1, Fs.All.imp h hf.2.2⟩
theorem Fs.All.drop {P : Nat → Int → Nat → ByteArray → Prop} : ∀ {f : Fs} (k : Nat), f.All P → (f.drop k).All P
  | f, 0, h => by cases f <;> exact h
  | .nil, _ + 1, _ => trivial
  | .cons .., k + 1, h => Fs.All.drop k h.2.2
theorem Fs.drop_count : ∀ (f : Fs) (k : Nat), (f.drop k).count ≤ f.count
  | f, 0 => by cases f <;> exact Nat.le_refl _
  | .nil, _ + 1 => Nat.le_refl _
  | .cons _ _ _ _ _ r, k + 1 => by have := Fs.drop_count r k; rw [Fs.drop, Fs.count]; omega
end Go.PM
end

section
namespace Go.Proofs.YtgidfnhfgiehjaaGreatDoor
open Go.RowKit Go.PM
/-- The value of a name. -/
inductive Mv where
  | num (n : Nat)
  | flag (b : Bool)
  | sgn (z : Int)
  | word (s : List UInt8)
  | of (d : List Ent)
  | rows (t : List Rw)
def Mv.use : Mv → Nat
  | .num _ => 0
  | .flag _ => 1
  | .sgn _ => 2
  | .word _ => 3
  | .of _ => 4
  | .rows _ => 5
/-- The use of the i-th name. -/
def nmUse : Nat → Nat
  | 0 => 1
  | 6 => 4
  | 14 | 15 | 17 => 3
  | 18 => 2
  | 20 => 5
  | _ => 0
/-- A message. -/
structure Mp where
  kind : Int
  id : Nat
  min_ : Nat
  max_ : Nat
  chosen : Nat
  flags : Nat
  cost : Nat
  prio : Nat
  dead : Nat
  retry : Nat
  epoch : Nat
  base : Nat
  digest : Nat
  lag : Nat
  code : Nat
  want : Nat
  rem : Int
  al : Bool
  nm : List UInt8
  rg : List UInt8
  nt : List UInt8
  d : List Ent
  t : List Rw
  rest : Fs
def m0 : Mp := ⟨0, 0, 0, 0, 0, 0, 0, 0, 0, 0, 0, 0, 0, 0, 0, 0, 0, false, [], [], [], [], [], .nil⟩
/-- The value of the i-th name. -/
def Mp.val (m : Mp) : Nat → Mv
  | 0 => .flag m.al
  | 1 => .num m.base
  | 2 => .num m.chosen
  | 3 => .num m.code
  | 4 => .num m.cost
  | 5 => .num m.dead
  | 6 => .of m.d
  | 7 => .num m.digest
  | 8 => .num m.epoch
  | 9 => .num m.flags
  | 10 => .num m.id
  | 11 => .num m.lag
  | 12 => .num m.max_
  | 13 => .num m.min_
  | 14 => .word m.nm
  | 15 => .word m.nt
  | 16 => .num m.prio
  | 17 => .word m.rg
  | 18 => .sgn m.rem
  | 19 => .num m.retry
  | 20 => .rows m.t
  | 21 => .num m.want
  | _ => .num 0
/-- Another value of the i-th name. -/
def Mp.put (m : Mp) (i : Nat) (v : Mv) : Mp :=
  match i, v with
  | 0, .flag b => { m with al := b }
  | 1, .num n => { m with base := n }
  | 2, .num n => { m with chosen := n }
  | 3, .num n => { m with code := n }
  | 4, .num n => { m with cost := n }
  | 5, .num n => { m with dead := n }
  | 6, .of d => { m with d := d }
  | 7, .num n => { m with digest := n }
  | 8, .num n => { m with epoch := n }
  | 9, .num n => { m with flags := n }
  | 10, .num n => { m with id := n }
  | 11, .num n => { m with lag := n }
  | 12, .num n => { m with max_ := n }
  | 13, .num n => { m with min_ := n }
  | 14, .word s => { m with nm := s }
  | 15, .word s => { m with nt := s }
  | 16, .num n => { m with prio := n }
  | 17, .word s => { m with rg := s }
  | 18, .sgn z => { m with rem := z }
  | 19, .num n => { m with retry := n }
  | 20, .rows t => { m with t := t }
  | 21, .num n => { m with want := n }
  | _, _ => m
theorem cases22 {P : Nat → Prop} (h0 : P 0) (h1 : P 1) (h2 : P 2) (h3 : P 3) (h4 : P 4) (h5 : P 5) (h6 : P 6) (h7 : P 7) (h8 : P 8) (h9 : P 9) (h10 : P 10) (h11 : P 11) (h12 : P 12) (h13 : P 13) (h14 : P 14) (h15 : P 15) (h16 : P 16) (h17 : P 17) (h18 : P 18) (h19 : P 19) (h20 : P 20) (h21 : P 21) : ∀ i, i < 22 → P i
  | 0, _ => h0 | 1, _ => h1 | 2, _ => h2 | 3, _ => h3 | 4, _ => h4 | 5, _ => h5 | 6, _ => h6 | 7, _ => h7 | 8, _ => h8 | 9, _ => h9 | 10, _ => h10 | 11, _ => h11 | 12, _ => h12 | 13, _ => h13 | 14, _ => h14 | 15, _ => h15
  | 16, _ => h16 | 17, _ => h17 | 18, _ => h18 | 19, _ => h19 | 20, _ => h20 | 21, _ => h21
  | n + 22, h => absurd h (by omega)
theorem Mp.val_put (m : Mp) (v : Mv) : ∀ i, i < 22 → v.use = nmUse i → ∀ j, j < 22 → (m.put i v).val j = if j = i then v else m.val j := by
  refine cases22 ?_ ?_ ?_ ?_ ?_ ?_ ?_ ?_ ?_ ?_ ?_ ?_ ?_ ?_ ?_ ?_ ?_ ?_ ?_ ?_ ?_ ?_ <;>
    (intro h; cases v <;> first | (exfalso; revert h; simp [Mv.use, nmUse]; done) | (refine cases22 ?_ ?_ ?_ ?_ ?_ ?_ ?_ ?_ ?_ ?_ ?_ ?_ ?_ ?_ ?_ ?_ ?_ ?_ ?_ ?_ ?_ ?_ <;> rfl))
theorem Mp.put_kind (m : Mp) (i : Nat) (v : Mv) : (m.put i v).kind = m.kind ∧ (m.put i v).rest = m.rest := by unfold Mp.put; split <;> exact ⟨rfl, rfl⟩
end Go.Proofs.YtgidfnhfgiehjaaGreatDoor
end

section
namespace Go.PM
open Go.Maps (Keyed)
theorem isKey_int (k : IntKind) (n : Int) : WideAt.IsKeyLit (.int k n) := by unfold WideAt.IsKeyLit; trivial
theorem isKey_str (s : List UInt8) : WideAt.IsKeyLit (.string s) := by unfold WideAt.IsKeyLit; trivial
/-- A value reads as itself. -/
def valE (v : Value) : Option (DataW Value × List MemPlace) := some (.held v, [])
/-- Entries put in one after another. -/
def mapL (l : List (Lit × Value)) : DataW Value := l.foldl (fun D p => D.put p.1 (.held p.2)) (.map [])
theorem mapL_snoc (l : List (Lit × Value)) (k : Lit) (v : Value) : mapL (l ++ [(k, v)]) = (mapL l).put k (.held v) := by
  rw [mapL, List.foldl_append]
  rfl
/-- What stands at a key, the last one put in. -/
def getL (z : Value) : List (Lit × Value) → Lit → Value
  | [], _ => z
  | p :: l, k => getL (bif p.1.sameKey k then p.2 else z) l k
theorem mapFold_at (k : Lit) : ∀ (l : List (Lit × Value)) (D : DataW Value) (z0 z : Value), Maps.IsMap D → (∀ p ∈ l, WideAt.IsKeyLit p.1) → D.atKey k (.held z0) = .held z → (l.foldl (fun D p => D.put p.1 (.held p.2)) D).atKey k (.held z0) = .held (getL z l k)
  | [], _, _, _, _, _, h => h
  | p :: l, D, z0, z, hD, hl, h => by
    rw [List.foldl_cons, getL]
    refine mapFold_at k l _ z0 _ (hD.put _ _) (fun q hq => hl q (List.mem_cons_of_mem _ hq)) ?_
    by_cases he : p.1 = k
    · rw [← he, WideAt.sameKey_self (hl p List.mem_cons_self)]
      exact Maps.atKey_put_same hD (hl p List.mem_cons_self) _ _
    · rw [Maps.sameKey_ne he, Maps.atKey_put_other (fun e => he e.symm)]
      exact h
theorem mapL_at (l : List (Lit × Value)) (hl : ∀ p ∈ l, WideAt.IsKeyLit p.1) (k : Lit) (z : Value) : (mapL l).atKey k (.held z) = .held (getL z l k) := mapFold_at k l _ z z ⟨[], rfl⟩ hl rfl
def hasL (l : List (Lit × Value)) (k : Lit) : Bool := l.any fun p => p.1.sameKey k
theorem mapFold_has (k : Lit) : ∀ (l : List (Lit × Value)) (D : DataW Value) (c : Bool), Maps.IsMap D → (∀ p ∈ l, WideAt.IsKeyLit p.1) → Maps.has D k = c → Maps.has (l.foldl (fun D p => D.put p.1 (.held p.2)) D) k = (c || hasL l k)
  | [], _, _, _, _, h => by simpa [hasL] using h
  | p :: l, D, c, hD, hl, h => by
    rw [List.foldl_cons]
    by_cases he : p.1 = k
    · rw [mapFold_has k l _ true (hD.put _ _) (fun q hq => hl q (List.mem_cons_of_mem _ hq)) (by rw [← he]; exact Maps.has_put_same hD (hl p List.mem_cons_self) _)]
      simp [hasL, ← he, WideAt.sameKey_self (hl p List.mem_cons_self)]
    · rw [mapFold_has k l _ c (hD.put _ _) (fun q hq => hl q (List.mem_cons_of_mem _ hq)) (by rw [Maps.has_put_other (fun e => he e.symm)]; exact h)]
      simp [hasL, Maps.sameKey_ne he]
theorem mapL_has (l : List (Lit × Value)) (hl : ∀ p ∈ l, WideAt.IsKeyLit p.1) (k : Lit) : Maps.has (mapL l) k = hasL l k := by
  rw [mapL, mapFold_has k l _ false ⟨[], rfl⟩ hl rfl, Bool.false_or]
/-- Block b is a map of these entries. -/
def MapAt (w : World) (P : Program) (k : TypeId) (b : Nat) (l : List (Lit × Value)) : Prop := w.ownsMap P k valE b l.length (mapL l) ∧ ∀ p ∈ l, WideAt.IsKeyLit p.1
section
variable {w w' : World} {P : Program} {k : TypeId} {b : Nat} {l : List (Lit × Value)}
theorem MapAt.made (w : World) (P : Program) (k : TypeId) : MapAt (w.alloc (.map #[] 0)) P k w.heap.size [] := ⟨World.ownsMap_made w P k valE, by simp⟩
theorem MapAt.lt (h : MapAt w P k b l) : b < w.heap.size := h.1.lt
theorem MapAt.kept {row : Option Nat} (h : MapAt w P k b l) (hg : w.grownBy w' row) (hne : some b ≠ row) : MapAt w' P k b l := ⟨h.1.kept hg hne, h.2⟩
theorem MapAt.look {t e : TypeId} (h : MapAt w P k b l) (K : Keyed P k) (ht : P.underlying t = some (.map k e)) {z : Value} (hz : (zeroValue e).run P w = .ok z w) {key : Value} {kl : Lit} (hkey : keyOf P k key = some kl) :
    (Instr.lookup t (.map (some b)) key false).run P w = .ok (getL z l kl) w := by
  obtain ⟨v, ps, hr, hv⟩ := h.1.lookup K ht hz (zd := .held z) (zp := []) rfl hkey
  rw [mapL_at l h.2] at hv
  simp only [valE, Option.some.injEq, Prod.mk.injEq, DataW.held.injEq] at hv
  rw [hr, hv.1]
theorem MapAt.look_ok {t e : TypeId} (h : MapAt w P k b l) (K : Keyed P k) (ht : P.underlying t = some (.map k e)) {z : Value} (hz : (zeroValue e).run P w = .ok z w) {key : Value} {kl : Lit} (hkey : keyOf P k key = some kl) :
    (Instr.lookup t (.map (some b)) key true).run P w = .ok (.tuple #[getL z l kl, .bool (hasL l kl)]) w := by
  obtain ⟨v, ps, hr, hv⟩ := h.1.look_ok K ht hz (zd := .held z) (zp := []) rfl hkey
  rw [mapL_at l h.2] at hv
  simp only [valE, Option.some.injEq, Prod.mk.injEq, DataW.held.injEq] at hv
  rw [hr, hv.1, mapL_has l h.2]
theorem MapAt.put {t e : TypeId} (h : MapAt w P k b l) (K : Keyed P k) (ht : P.underlying t = some (.map k e)) (hn : l.length < maxLen) {key val : Value} {kl : Lit} (hkey : keyOf P k key = some kl) (hkl : WideAt.IsKeyLit kl) :
    ∃ w', (Instr.mapUpdate t (.map (some b)) key val).run P w = .ok () w' ∧ MapAt w' P k b (l ++ [(kl, val)]) ∧ w.grownBy w' (some b) := by
  obtain ⟨w', h1, h2, h3⟩ := h.1.update K ht hn hkey (d := .held val) (ps := []) rfl
  refine ⟨w', h1, ⟨?_, fun p hp => ?_⟩, h3⟩
  · rw [mapL_snoc, List.length_append]
    exact h2
  · rcases List.mem_append.1 hp with hp | hp
    · exact h.2 p hp
    · rw [List.mem_singleton] at hp
      subst hp
      exact hkl
end
/-! ### at the operation, for the walk -/
section
variable {P : Program} (w : World) {ops : Array Oper} {rest : List Oper} {o : Oper} {a : Act} {Q : Exit → Act → World → Prop}
theorem wpList_put_v (hg : o.guard = none) (m x v : Operand) (t : TypeId) (hop : o.op = Op.mapUpdate t m x v) (k e : TypeId) (K : Keyed P k) (ht : P.underlying t = some (.map k e)) (b : Nat) (l : List (Lit × Value))
    (hm : a.eval m = .map (some b)) (h : MapAt w P k b l) (hn : l.length < maxLen) (key val : Value) (kl : Lit) (hx : a.eval x = key) (hv : a.eval v = val) (hkey : keyOf P k key = some kl) (hkl : WideAt.IsKeyLit kl)
    (hK : ∀ w', MapAt w' P k b (l ++ [(kl, val)]) → w.grownBy w' (some b) → wpList P ops Q rest (a.put o.dst undef) w') : wpList P ops Q (o :: rest) a w := by
  refine wpList_plain hg fun K' hK' => ?_
  obtain ⟨w', hrun, r1, r2⟩ := h.put (val := val) K ht hn hkey hkl
  unfold Oper.wp
  simp [execOp, hop, hm, hx, hv, hrun, Result.andThen]
  exact hK' _ _ (hK w' r1 r2)
theorem wpList_ins_v (hg : o.guard = none) (m x v : Operand) (t : TypeId) (hop : o.op = Op.insert t m x v) (k e : TypeId) (K : Keyed P k) (ht : P.underlying t = some (.map k e)) (b : Nat) (l : List (Lit × Value))
    (hm : a.eval m = .map (some b)) (h : MapAt w P k b l) (hn : l.length < maxLen) (key val : Value) (kl : Lit) (hx : a.eval x = key) (hv : a.eval v = val) (hkey : keyOf P k key = some kl) (hkl : WideAt.IsKeyLit kl)
    (hK : ∀ w', MapAt w' P k b (l ++ [(kl, val)]) → w.grownBy w' (some b) → wpList P ops Q rest (a.put o.dst undef) w') : wpList P ops Q (o :: rest) a w := by
  refine wpList_plain hg fun K' hK' => ?_
  obtain ⟨w', hrun, r1, r2⟩ := h.put (val := val) K ht hn hkey hkl
  unfold Oper.wp
  simp [execOp, hop, hm, hx, hv, hrun, Result.andThen]
  exact hK' _ _ (hK w' r1 r2)
theorem wpList_look_v (hg : o.guard = none) (m x : Operand) (t : TypeId) (hop : o.op = Op.lookup t m x false) (k e : TypeId) (K : Keyed P k) (ht : P.underlying t = some (.map k e)) {z : Value} (hz : (zeroValue e).run P w = .ok z w) (b : Nat) (l : List (Lit × Value))
    (hm : a.eval m = .map (some b)) (h : MapAt w P k b l) (key : Value) (kl : Lit) (hx : a.eval x = key) (hkey : keyOf P k key = some kl) {r : Value} (hr : getL z l kl = r)
    (hK : wpList P ops Q rest (a.put o.dst r) w) : wpList P ops Q (o :: rest) a w := by
  subst hr
  refine wpList_plain hg fun K' hK' => ?_
  have hrun := h.look K ht hz hkey
  unfold Oper.wp
  simp [execOp, hop, hm, hx, hrun, Result.andThen]
  exact hK' _ _ hK
theorem wpList_look_ok_v (hg : o.guard = none) (m x : Operand) (t : TypeId) (hop : o.op = Op.lookup t m x true) (k e : TypeId) (K : Keyed P k) (ht : P.underlying t = some (.map k e)) {z : Value} (hz : (zeroValue e).run P w = .ok z w) (b : Nat) (l : List (Lit × Value))
    (hm : a.eval m = .map (some b)) (h : MapAt w P k b l) (key : Value) (kl : Lit) (hx : a.eval x = key) (hkey : keyOf P k key = some kl) {r : Value} (hr : getL z l kl = r) {c : Bool} (hc : hasL l kl = c)
    (hK : wpList P ops Q rest (a.put o.dst (.tuple #[r, .bool c])) w) : wpList P ops Q (o :: rest) a w := by
  subst hr hc
  refine wpList_plain hg fun K' hK' => ?_
  have hrun := h.look_ok K ht hz hkey
  unfold Oper.wp
  simp [execOp, hop, hm, hx, hrun, Result.andThen]
  exact hK' _ _ hK
end
end Go.PM
end

section
namespace Go.PM
open Go.RowKit
/-! ### A region that draws its order, of operations that compute and of calls that leave all that was there -/
/-- A world in which all that was there in w is as it was. -/
def BelW (w : World) : Type := { x : World // Below w.heap.size w x }
def BelW.wld {w : World} (n : BelW w) : World := n.1
theorem BelW.bel {w : World} (n : BelW w) : Below w.heap.size w n.wld := n.2
instance (w : World) : Nonempty (BelW w) := ⟨⟨w, b0⟩⟩
theorem wp_region_below_lit {P : Program} {id : Nat} {Q : Exit → Act → World → Prop} {a : Act} {w : World} {l : List Oper} (hm : P.follows .mixedOrders = true) (hB : Region.lexB .any l.toArray = true)
    (h : wpQuiet P l.toArray (fun w' => ∃ n : BelW w, w' = n.wld) (fun a' => ∀ w', (∃ n : BelW w, w' = n.wld) → Q .normal a' w') l a) : (Code.region id l.toArray true).wp P Q a w :=
  wp_region_quiet (C := fun w' => ∃ n : BelW w, w' = n.wld) hm hB ⟨(⟨w.drew, bd b0⟩ : BelW w), rfl⟩ (by simpa using h)
theorem below_of {P : Program} {f : FuncId} {args : Array Value} {w : World} {n : BelW w} {v : Value} (h : Calls P f args n.wld fun e w' => e = .returned v ∧ Below n.wld.heap.size n.wld w') :
    Calls P f args n.wld fun e w' => e = .returned v ∧ ∃ m : BelW w, w' = m.wld := h.mono fun _ w' ⟨he, hb⟩ => ⟨he, ⟨w', bb n.bel hb⟩, rfl⟩
/-- The world under a name. -/
theorem wp_world {P : Program} {c : Code} {Q : Exit → Act → World → Prop} {a : Act} {w : World} (h : ∀ W, W = w → Code.wp P c Q a W) : Code.wp P c Q a w := h w rfl
end Go.PM
end

section
namespace Go.PM
open Go.RowKit
structure One where
  deep : Nat
  tag : Nat
  ty : Int
  num : Nat
  text : ByteArray
/-- Within their kinds. -/
def One.ok (x : One) : Prop := x.deep < 256 ∧ In64 x.tag ∧ (-128 ≤ x.ty ∧ x.ty ≤ 127) ∧ In64 x.num ∧ x.text.size ≤ 9223372036854775807
def OnesAt (w : World) (b o : Nat) (l : List One) : Prop := ∀ j x, l[j]? = some x →
  w.cell? ⟨b, o + j * 5, none⟩ = some (.int .u8 (x.deep : Int)) ∧ w.cell? ⟨b, o + j * 5 + 1, none⟩ = some (.int .u64 (x.tag : Int)) ∧ w.cell? ⟨b, o + j * 5 + 2, none⟩ = some (.int .i8 x.ty) ∧
  w.cell? ⟨b, o + j * 5 + 3, none⟩ = some (.int .u64 (x.num : Int)) ∧ w.cell? ⟨b, o + j * 5 + 4, none⟩ = some (.string x.text)
/-- A slice that reads so; it lies below H. -/
def OnesRd (H : Nat) (w : World) (A : Option Addr) (l : List One) : Prop := l = [] ∨ ∃ b o, A = some ⟨b, o, none⟩ ∧ b < H ∧ H ≤ w.heap.size ∧ OnesAt w b o l
theorem OnesAt.below {w w' : World} {b o : Nat} {l : List One} (h : OnesAt w b o l) (hb : Below w.heap.size w w') (hlt : b < w.heap.size) : OnesAt w' b o l := fun j x hj => by
  have e : ∀ k, w'.cell? ⟨b, k, none⟩ = w.cell? ⟨b, k, none⟩ := fun k => World.cell?_of_block (a := ⟨b, k, none⟩) (hb.block b hlt)
  obtain ⟨h1, h2, h3, h4, h5⟩ := h j x hj
  exact ⟨(e _).trans h1, (e _).trans h2, (e _).trans h3, (e _).trans h4, (e _).trans h5⟩
theorem OnesRd.below {H : Nat} {w w' : World} {A : Option Addr} {l : List One} (h : OnesRd H w A l) (hb : Below w.heap.size w w') : OnesRd H w' A l :=
  h.imp id fun ⟨b, o, hA, hlt, hH, h⟩ => ⟨b, o, hA, hlt, Nat.le_trans hH hb.size, h.below hb (Nat.lt_of_lt_of_le hlt hH)⟩
def few (l : List One) : Bool := l.all (fun x => decide (x.text.size ≤ 300)) && decide (l.length ≤ 60)
end Go.PM
namespace Go.Proofs.YtgidfnhfgiehjaaGreatDoor
open Go.RowKit Go.PM
set_option maxRecDepth 100000
set_option maxHeartbeats 1000000
end Go.Proofs.YtgidfnhfgiehjaaGreatDoor
end

section
namespace Go.Proofs.YtgidfnhfgiehjaaGreatDoor
open Go.RowKit Go.PM
set_option maxRecDepth 100000
set_option maxHeartbeats 2000000
attribute [local go_sem ↓] Go.wp_at_zero Go.wp_at_succ
/-- What holds of each field that was made. -/
def FOk (t : Nat) (y : Int) (n : Nat) (s : ByteArray) : Prop := In64 t ∧ (-128 ≤ y ∧ y ≤ 127) ∧ In64 n ∧ s.size ≤ 300
def FromEnd (H : Nat) (w : World) (l : List One) (deep : Nat) (e : Ending) (w' : World) : Prop :=
  ∃ (f : Fs) (A : Option Addr) (c : Nat) (A' : Option Addr) (c' : Nat), e = .returned (.tuple #[.slice A f.len c, .slice A' (l.length - f.count) c']) ∧ f.count ≤ l.length ∧ (deep = 0 → f.count = l.length) ∧ f.All FOk ∧
    SlV w' (w.heap.size ≤ ·) (.slice A f.len c) f ∧ OnesRd H w' A' (l.drop f.count) ∧ l.length - f.count ≤ c' ∧ c' ≤ 9223372036854775807 ∧ Below w.heap.size w w'
/-- Where the loop of 'from' stands: the fields so far, and what is left. -/
def FromAt (H : Nat) (w : World) (l : List One) (sl out : Value) (wr : World) : Prop :=
  ∃ (f : Fs) (A' : Option Addr) (c' : Nat) (xs : List Value), sl = .slice A' (l.length - f.count) c' ∧ f.count ≤ l.length ∧ f.All FOk ∧ wr.ownsRow w.heap.size 47 5 out f.len xs ∧
    Cls wr (fun k => w.heap.size ≤ k ∧ out.ownBlock ≠ some k) xs f ∧ OnesRd H wr A' (l.drop f.count) ∧ l.length - f.count ≤ c' ∧ c' ≤ 9223372036854775807 ∧ Below w.heap.size w wr
theorem own_slv {w : World} {base : Nat} {e : TypeId} {v : Value} {xs : List Value} {f : Fs} {J : Nat → Prop} (h : w.ownsRow base e 5 v f.len xs) (hc : Cls w J xs f) (hJ : ∀ k, J k → base ≤ k) : ∃ A c, v = .slice A f.len c ∧ SlV w (base ≤ ·) (.slice A f.len c) f := by
  rcases h.2 with ⟨rfl, h0⟩ | ⟨g, cap, cur, rfl, hb, hg, hn, _⟩
  · have := Fs.len_zero h0
    subst this
    exact ⟨none, 0, rfl, SlV.nil _ _ _ _⟩
  · refine ⟨some ⟨g, 0, none⟩, cap, rfl, some ⟨g, 0, none⟩, cap, rfl, hn, .inr ⟨g, 0, rfl, hb, (Array.getElem?_eq_some_iff.1 hg).1, (hc.imp hJ).at_ fun j u hj => ?_⟩⟩
    have := h.cells (g := g) rfl j u hj
    rwa [add_at, ← Nat.zero_add j] at this
theorem info_field : (Tryz.prog.info? 47).map (fun i => (i.zero, i.size, i.bytes)) = some (some (.agg #[.int .u64 0, .int .i64 0, .int .u64 0, .string ByteArray.empty, .slice none 0 0]), 5, 64) := by kernel_rfl
end Go.Proofs.YtgidfnhfgiehjaaGreatDoor
end

section
namespace Go.Proofs.YtgidfnhfgiehjaaGreatDoor
open Go.RowKit Go.PM
set_option maxRecDepth 100000
set_option maxHeartbeats 2000000
attribute [local go_sem ↓] Go.wp_at_zero Go.wp_at_succ
/-- What Make makes. -/
def MakeEnd (w : World) (n : Nat) (e : Ending) (w' : World) : Prop :=
  ∃ (f : Fs) (A : Option Addr) (c : Nat), e = .returned (.slice A f.len c) ∧ f.count = n ∧ f.All FOk ∧ SlV w' (w.heap.size ≤ ·) (.slice A f.len c) f ∧ Below w.heap.size w w'
/-- A copy of fields, in new memory. -/
def CopyEnd (w : World) (f : Fs) (e : Ending) (w' : World) : Prop :=
  ∃ (A : Option Addr) (c : Nat), e = .returned (.slice A f.len c) ∧ SlV w' (w.heap.size ≤ ·) (.slice A f.len c) f ∧ Below w.heap.size w w'
/-- Where the loop of Of stands. -/
def OfAt (w : World) (f : Fs) (k : Nat) (out : Value) (wr : World) : Prop :=
  ∃ xs, wr.ownsRow w.heap.size 207 5 out k xs ∧ Cls wr (fun k => w.heap.size ≤ k ∧ out.ownBlock ≠ some k) xs (f.take k) ∧ Below w.heap.size w wr
end Go.Proofs.YtgidfnhfgiehjaaGreatDoor
end
