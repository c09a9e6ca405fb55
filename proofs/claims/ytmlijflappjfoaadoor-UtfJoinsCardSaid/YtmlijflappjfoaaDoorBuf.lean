/-
  A buffer of bytes that may have come of '[]byte(s)' (whose row bears the run-time's mark behind its last cell): made, appended to, read back. Plain theorems, over any program.
-/
import Derived.Test.YtmlijflappjfoaaDoorRow
import Derived.Deep.AppendSrc
import Derived.Lib.FrozenHead
import Derived.Lib.AppendStr
import Derived.Laws.BytesArg
namespace Go.PM
open Go.RowKit

/-! ### Worlds of which some blocks may have turned -/
structure Tch (S : Nat → Prop) (w w' : World) : Prop where
  os : w'.os = w.os
  tape : w'.tape = w.tape
  output : w'.output = w.output
  size : w.heap.size ≤ w'.heap.size
  block : ∀ k, k < w.heap.size → ¬ S k → w'.heap[k]? = w.heap[k]?
section
variable {a w w' : World} {S S' : Nat → Prop}
theorem Tch.refl (S : Nat → Prop) (w : World) : Tch S w w := ⟨rfl, rfl, rfl, Nat.le_refl _, fun _ _ _ => rfl⟩
theorem Tch.below (h : Below w.heap.size w w') : Tch S w w' := ⟨h.os, h.tape, h.output, h.size, fun k hk _ => h.block k hk⟩
theorem Tch.grown {row : Option Nat} (h : w.grownBy w' row) (hr : ∀ g, row = some g → g < w.heap.size → S g) : Tch S w w' :=
  ⟨h.os, h.tape, h.output, h.size, fun k hk hn => h.block k hk (fun e => hn (hr k e.symm hk))⟩
theorem Tch.trans (h : Tch S a w) (k : Tch S' w w') (hs : ∀ g, g < a.heap.size → S' g → S g) : Tch S a w' :=
  ⟨k.os.trans h.os, k.tape.trans h.tape, k.output.trans h.output, Nat.le_trans h.size k.size,
    fun i hi hne => (k.block i (Nat.lt_of_lt_of_le hi h.size) (fun e => hne (hs i hi e))).trans (h.block i hi hne)⟩
theorem Tch.bel (h : Tch S a w) (k : Below w.heap.size w w') : Tch S a w' := h.trans (S' := S) (Tch.below k) fun _ _ e => e
theorem Tch.toBelow (h : Tch S w w') (hs : ∀ g, g < w.heap.size → ¬ S g) : Below w.heap.size w w' := ⟨h.os, h.tape, h.output, h.size, fun k hk => h.block k hk (hs k hk)⟩
theorem Tch.toBelowB {B : Nat} (h : Tch S w w') (hb : B ≤ w.heap.size) (hs : ∀ g, g < B → ¬ S g) : Below B w w' := ⟨h.os, h.tape, h.output, h.size, fun k hk => h.block k (by omega) (hs k hk)⟩
theorem Tch.put (h : Tch S a w) {p : Addr} (hp : p.block < a.heap.size → S p.block) (u : Value) : Tch S a (w.setCell p u) :=
  ⟨h.os, h.tape, h.output, by simpa [World.setCell] using h.size, fun k hk hne => (Below.heap_setCell w p u k (by rintro rfl; exact hne (hp hk))).trans (h.block k hk hne)⟩
theorem Tch.more (h : Tch S a w) (o : Obj) : Tch S a (w.alloc o) :=
  ⟨h.os, h.tape, h.output, Nat.le_trans h.size (by simp), fun k hk hne => (Below.heap_alloc w o k (Nat.lt_of_lt_of_le hk h.size)).trans (h.block k hk hne)⟩
theorem Tch.drn (h : Tch S a w) (n : Nat) : Tch S a (w.drewN n) := ⟨h.os, h.tape, h.output, h.size, h.block⟩
theorem Tch.dr (h : Tch S a w) : Tch S a w.drew := ⟨h.os, h.tape, h.output, h.size, h.block⟩
theorem Tch.imp (h : Tch S a w) (hs : ∀ g, g < a.heap.size → S g → S' g) : Tch S' a w := ⟨h.os, h.tape, h.output, h.size, fun k hk hne => h.block k hk (fun e => hne (hs k hk e))⟩
theorem BlkAt.tch {g : Nat} {t : TypeId} {cs : Array Value} (h : BlkAt w g t cs) (hb : Tch S w w') (hg : ¬ S g) : BlkAt w' g t cs := (hb.block g h.lt hg).trans h
theorem Rd.tch {A : Option Addr} {xs : List Value} (h : Rd w A xs) (hb : Tch S w w') (hg : ∀ b off, A = some ⟨b, off, none⟩ → ¬ S b) : Rd w' A xs :=
  h.keep hb.size fun b off e hl => hb.block b hl (hg b off e)
theorem own_tch {base e size n : Nat} {v : Value} {xs : List Value} (h : w.ownsRow base e size v n xs) (hb : Tch S w w') (hg : ∀ g, v.ownBlock = some g → ¬ S g) : w'.ownsRow base e size v n xs := by
  refine ⟨h.1, ?_⟩
  rcases h.2 with hn | ⟨g, cap, cur, rfl, hB, hgg, rest⟩
  · exact .inl hn
  · refine .inr ⟨g, cap, cur, rfl, hB, ?_, rest⟩
    rw [hb.block g (Array.getElem?_eq_some_iff.1 hgg).1 (hg g rfl)]
    exact hgg
end

/-! ### The buffer -/
/-- The block that a buffer may write to. -/
def foot : Value → Option Nat
  | .slice (some a) _ c => if c = 0 then none else some a.block
  | _ => none
/-- A block of cells of one type. -/
def HasT (w : World) (g : Nat) (e : TypeId) : Prop := ∃ cs fz, w.heap[g]? = some (.cells cs e fz)
theorem HasT.lt {w : World} {g : Nat} {e : TypeId} (h : HasT w g e) : g < w.heap.size := by
  obtain ⟨cs, fz, h⟩ := h
  exact (Array.getElem?_eq_some_iff.1 h).1
theorem HasT.one {w : World} {g : Nat} {e e' : TypeId} (h : HasT w g e) (h' : HasT w g e') : e = e' := by
  obtain ⟨cs, fz, h⟩ := h
  obtain ⟨cs', fz', h'⟩ := h'
  rw [h] at h'
  injection h' with h'
  injection h'
theorem HasT.put {w : World} {g : Nat} {e : TypeId} (h : HasT w g e) (p : Addr) (u : Value) : HasT (w.setCell p u) g e := by
  obtain ⟨cs, fz, h⟩ := h
  by_cases hp : g = p.block
  · subst hp
    by_cases hs : p.spot.isSome = true
    · exact ⟨cs, fz, by simp [World.setCell, Array.getElem?_modify, h, hs]⟩
    · exact ⟨cs.setIfInBounds p.off u, fz, by simp [World.setCell, Array.getElem?_modify, h, hs]⟩
  · exact ⟨cs, fz, (Below.heap_setCell w p u g hp).trans h⟩
theorem HasT.puts {g : Nat} {e : TypeId} {b : Nat} : ∀ (vs : List Value) (o : Nat) (w : World), HasT w g e → HasT (w.setCells b o vs) g e
  | [], _, _, h => h
  | v :: vs, o, _, h => HasT.puts vs (o + 1) _ (h.put _ v)
theorem BlkAt.hasT {w : World} {g : Nat} {t : TypeId} {cs : Array Value} (h : BlkAt w g t cs) : HasT w g t := ⟨cs, (0, 0), h⟩
def Buf (w : World) (e : TypeId) (v : Value) (l : List UInt8) : Prop :=
  (v = .slice none 0 0 ∧ l = []) ∨ ∃ g cap, v = .slice (some ⟨g, 0, none⟩) l.length cap ∧ (cap = 0 ∨ HasT w g e) ∧ l.length ≤ cap ∧ (∀ j, j < cap → (w.cell? ⟨g, j, none⟩).isSome = true ∧ w.frozen? ⟨g, j, none⟩ = false) ∧
    ∀ j (h : j < l.length), w.cell? ⟨g, j, none⟩ = some (.int .u8 (l[j].toNat : Int))
section
variable {w w' : World} {e : TypeId} {v : Value} {l : List UInt8}
theorem Buf.nil (w : World) (e : TypeId) : Buf w e (.slice none 0 0) [] := .inl ⟨rfl, rfl⟩
theorem Buf.foot_has (h : Buf w e v l) {g : Nat} (hg : foot v = some g) : HasT w g e := by
  rcases h with ⟨rfl, rfl⟩ | ⟨g', cap, rfl, hlt, _⟩
  · simp [foot] at hg
  · simp only [foot] at hg
    split at hg
    · cases hg
    · rcases hlt with h | h
      · contradiction
      · injection hg with hg; exact hg ▸ h
theorem Buf.foot_lt (h : Buf w e v l) {g : Nat} (hg : foot v = some g) : g < w.heap.size := (h.foot_has hg).lt
theorem Buf.ne_blk (h : Buf w e v l) {d : Nat} {t : TypeId} {cs : Array Value} (hd : BlkAt w d t cs) (ht : t ≠ e) : foot v ≠ some d := fun hg => ht (hd.hasT.one (h.foot_has hg))
theorem Buf.ne_own (h : Buf w e v l) {base e' size n : Nat} {r : Value} {xs : List Value} (hd : w.ownsRow base e' size r n xs) (ht : e' ≠ e) : ∀ g, r.ownBlock = some g → foot v ≠ some g := fun g hr hg => by
  rcases hd.2 with ⟨rfl, _⟩ | ⟨g', cap, cur, rfl, hb, hgg, _⟩
  · cases hr
  · have e1 : g' = g := by simpa [Value.ownBlock] using hr
    subst e1
    exact ht (HasT.one ⟨cur, (0, 0), hgg⟩ (h.foot_has hg))
theorem Buf.tch {S : Nat → Prop} (h : Buf w e v l) (hg : Tch S w w') (hne : ∀ g, foot v = some g → ¬ S g) : Buf w' e v l := by
  rcases h with h | ⟨g, cap, rfl, hlt, hc, hall, hl⟩
  · exact .inl h
  · by_cases hc0 : cap = 0
    · subst hc0
      exact .inr ⟨g, 0, rfl, .inl rfl, hc, fun j hj => by omega, fun j hj => by omega⟩
    · have hty : HasT w g e := by rcases hlt with h | h; exact absurd h hc0; exact h
      have hlt := hty.lt
      have e := hg.block g hlt (hne g (by simp [foot, hc0]))
      have ec : ∀ j, w'.cell? ⟨g, j, none⟩ = w.cell? ⟨g, j, none⟩ := fun j => by unfold World.cell?; simp only [e]
      have ef : ∀ j, w'.frozen? ⟨g, j, none⟩ = w.frozen? ⟨g, j, none⟩ := fun j => by unfold World.frozen?; simp only [e]
      exact .inr ⟨g, cap, rfl, .inr (by obtain ⟨cs, fz, hh⟩ := hty; exact ⟨cs, fz, e.trans hh⟩), hc, fun j hj => by rw [ec, ef]; exact hall j hj, fun j hj => by rw [ec]; exact hl j hj⟩
theorem Buf.below (h : Buf w e v l) (hb : Below w.heap.size w w') : Buf w' e v l := h.tch (S := fun _ => False) (Tch.below hb) fun _ _ => id
theorem Buf.at_heap {g : Nat} {e : TypeId} {s : ByteArray} {cap : Nat} (hh : w.heap[g]? = some (.cells (bytesRow s cap) e ((bytesRow s cap).size, (bytesRow s cap).size + 1))) (hc : s.size ≤ cap) :
    Buf w e (.slice (some ⟨g, 0, none⟩) s.size cap) s.data.toList := by
  have hn : (bytesRow s cap).size = cap := by
    have : s.data.size = s.size := rfl
    simp [bytesRow]
    omega
  refine .inr ⟨g, cap, by rw [len_list], .inr ⟨_, _, hh⟩, by rw [len_list]; exact hc, fun j hj => ⟨?_, ?_⟩, fun j hj => ?_⟩
  · rw [cell_of_row _ _ _ _ _ _ hh]
    simp [hn, hj]
  · unfold World.frozen?
    rw [hh]
    simp
    omega
  · have hjs : j < s.data.size := by simpa using hj
    rw [cell_of_row _ _ _ _ _ _ hh, bytesRow_at s cap j hjs]
    simp
theorem byteCells_at (s : ByteArray) (j : Nat) (hj : j < s.data.toList.length) (h : j < (byteCells s).length) : (byteCells s)[j] = .int .u8 (s.data.toList[j].toNat : Int) := by simp [byteCells]
theorem Buf.ofOwn {B : Nat} {n : Nat} (h : w.ownsRow B e 1 v n (bvals l)) : Buf w e v l ∧ ∀ g, foot v = some g → B ≤ g := by
  obtain ⟨h1, h2⟩ := h
  rw [bvals_length, Nat.mul_one] at h1
  rcases h2 with ⟨rfl, rfl⟩ | ⟨g, cap, cur, rfl, hb, hg, hnc, _, hcs, htk⟩
  · exact ⟨.inl ⟨rfl, List.eq_nil_of_length_eq_zero h1⟩, fun g hg => by simp [foot] at hg⟩
  · subst h1
    refine ⟨.inr ⟨g, cap, rfl, .inr ⟨_, _, hg⟩, hnc, fun j hj => ⟨?_, ?_⟩, fun j hj => ?_⟩, fun g' hg' => ?_⟩
    · rw [cell_of_row _ _ _ _ _ _ hg]
      simp
      omega
    · unfold World.frozen?
      rw [hg]
      simp
    · rw [cell_of_row _ _ _ _ _ _ hg]
      have := bvals_at l j hj
      rw [← htk, List.getElem?_take, if_pos (by omega)] at this
      simpa using this
    · simp only [foot] at hg'
      split at hg'
      · cases hg'
      · injection hg' with hg'; omega
theorem tch_setCells {a : World} {S : Nat → Prop} {b : Nat} (hb : S b) : ∀ (vs : List Value) (o : Nat) (w : World), Tch S a w → Tch S a (w.setCells b o vs)
  | [], _, _, h => h
  | v :: vs, o, _, h => tch_setCells hb vs (o + 1) _ (h.put (fun _ => hb) v)
theorem foot_some {g n c : Nat} (h : c ≠ 0) : foot (.slice (some ⟨g, 0, none⟩) n c) = some g := by simp [foot, h]
theorem buf_append {P : Program} (h : Buf w e v l) (s : ByteArray) (t u ty : TypeId) (i : TypeInfo) (ht : P.underlying t = some (.slice e)) (hu : P.underlying u = some .string) (hi : P.info? e = some i) (hz : i.zero = some (.int .u8 0))
    (hsize : i.size = 1) (hby : i.bytes = 1) (hn : l.length + s.size ≤ 1000000) :
    ∃ v' w', (Builtin.append_ #[t, u] ty #[v, .string s]).run P w = .ok v' w' ∧ Buf w' e v' (l ++ s.data.toList) ∧ Tch (fun k => foot v = some k) w w' ∧ (foot v' = foot v ∨ ∀ g, foot v' = some g → w.heap.size ≤ g) := by
  rcases h with ⟨rfl, rfl⟩ | ⟨g, cap, rfl, hlt, hc, hall, hl⟩
  · obtain ⟨v', w', h1, h2, h3, _⟩ := Lib.run_append_own_string (P := P) w w.heap.size t u ty e i ht hu hi hz hsize hby (.slice none 0 0) 0 [] (World.ownsRow_nil _ _ _ _) s (by unfold maxLen; simp at hn; omega) (by simp at hn; omega) (Nat.le_refl _)
    have h4 := Buf.ofOwn (n := 0 + s.size) h2
    exact ⟨v', w', h1, h4.1, Tch.grown h3 (fun g hg => by simp [Value.ownBlock] at hg), .inr h4.2⟩
  · have hs : Src P i.size u (.string s) s.size (byteCells s) w := by rw [hsize]; exact Src.ofString w hu s
    by_cases hroom : l.length + s.size ≤ cap
    · have hr := run_append_room_src (P := P) w t u ty e i ht hi g 0 l.length cap (.string s) s.size (byteCells s) hs hroom
        (fun j hj => by rw [byteCells_length] at hj; rw [hsize]; exact (hall _ (by omega)).1) (fun j hj => by rw [byteCells_length] at hj; rw [hsize]; exact (hall _ (by omega)).2)
      rw [hsize, Nat.mul_one, Nat.zero_add] at hr
      have hgr : Tch (fun k => foot (.slice (some ⟨g, 0, none⟩) l.length cap) = some k) w (w.setCells g l.length (byteCells s)) := by
        by_cases hc0 : cap = 0
        · have : byteCells s = [] := List.eq_nil_of_length_eq_zero (by rw [byteCells_length]; omega)
          rw [this]
          exact Tch.refl _ _
        · exact tch_setCells (S := fun k => foot (.slice (some ⟨g, 0, none⟩) l.length cap) = some k) (b := g) (foot_some hc0) _ _ _ (Tch.refl _ _)
      have hin := World.cell?_setCells_in g (byteCells s) l.length w (fun j hj => by rw [byteCells_length] at hj; exact (hall _ (by omega)).1)
      have hout := fun x => World.cell?_setCells_out g (byteCells s) l.length w x
      refine ⟨_, _, hr, .inr ⟨g, cap, by rw [List.length_append, len_list], hlt.imp id (fun h => h.puts _ _ _), by rw [List.length_append, len_list]; exact hroom, fun j hj => ⟨?_, ?_⟩, fun j hj => ?_⟩, hgr, .inl rfl⟩
      · by_cases h1 : l.length ≤ j ∧ j < l.length + s.size
        · have := hin (j - l.length) (by rw [byteCells_length]; omega)
          rw [show l.length + (j - l.length) = j by omega] at this
          rw [this]; rfl
        · rw [hout _ (fun _ _ => by simp only [byteCells_length]; omega)]
          exact (hall j hj).1
      · rw [World.frozen?_setCells]
        exact (hall j hj).2
      · rw [List.length_append, len_list] at hj
        by_cases h1 : j < l.length
        · rw [hout _ (fun _ _ => by simp only; omega), hl j h1, List.getElem_append_left h1]
        · have := hin (j - l.length) (by rw [byteCells_length]; omega)
          rw [show l.length + (j - l.length) = j by omega, byteCells_at s _ (by rw [len_list]; omega)] at this
          rw [this, List.getElem_append_right (by omega)]
    · have hold : (Builtin.firstCells i.size l.length (.slice (some ⟨g, 0, none⟩) l.length cap)).run P w.drew = .ok (bvals l).toArray w.drew :=
        run_firstCells_some w.drew i.size l.length ⟨g, 0, none⟩ l.length cap (bvals l) (by rw [bvals_length, hsize, Nat.mul_one]) (fun j x hx => by
          rw [add_at]
          have hj : j < l.length := by have := (List.getElem?_eq_some_iff.1 hx).1; rwa [bvals_length] at this
          rw [bvals_at l j hj] at hx
          rw [← hx]
          exact hl j hj)
      have hge := grownCap_ge w (l.length + s.size) cap e
      have hr := run_append_grow_src (P := P) w t u ty e i (.int .u8 0) ht hi hz (some ⟨g, 0, none⟩) l.length cap (bvals l) hold (.string s) s.size (byteCells s) hs (by omega) (by omega)
        (by rw [hby]; exact growslice_fits (by omega) (by omega))
      generalize hG : grownCap w (l.length + s.size) cap e = G at hr hge
      have hC : ((bvals l ++ byteCells s).toArray ++ Builtin.zeroCells (Value.int .u8 0).cells (G - (l.length + s.size))).size = G := by
        have hz1 : (Value.int IntKind.u8 0).cells.size = 1 := rfl
        simp only [Array.size_append, List.size_toArray, size_zeroCells, hz1, List.length_append, bvals_length, byteCells_length]
        omega
      have hat : ∀ j (hj : j < l.length + s.size), ((bvals l ++ byteCells s).toArray ++ Builtin.zeroCells (Value.int .u8 0).cells (G - (l.length + s.size)))[j]? = some (.int .u8 ((l ++ s.data.toList)[j]'(by rw [List.length_append, len_list]; exact hj)).toNat) := fun j hj => by
        rw [Array.getElem?_append_left (by simp only [List.size_toArray, List.length_append, bvals_length, byteCells_length]; exact hj), List.getElem?_toArray]
        have := bvals_at (l ++ s.data.toList) j (by rw [List.length_append, len_list]; exact hj)
        rw [← this]
        congr 1
        simp [bvals, byteCells]
      generalize (bvals l ++ byteCells s).toArray ++ Builtin.zeroCells (Value.int .u8 0).cells (G - (l.length + s.size)) = C at hr hC hat
      have hh : (w.drew.alloc (.cells C e)).heap[w.heap.size]? = some (.cells C e (0, 0)) := heap_alloc_new w.drew _
      have hG0 : foot (.slice (some ⟨w.heap.size, 0, none⟩) (l.length + s.size) G) = none ∨ foot (.slice (some ⟨w.heap.size, 0, none⟩) (l.length + s.size) G) = some w.heap.size := by
        by_cases h0 : G = 0
        · left; simp [foot, h0]
        · right; simp [foot, h0]
      refine ⟨_, _, hr, .inr ⟨w.heap.size, G, by rw [List.length_append, len_list], .inr ⟨_, _, hh⟩, by rw [List.length_append, len_list]; exact hge, fun j hj => ⟨?_, ?_⟩, fun j hj => ?_⟩, ((Tch.refl _ _).dr.more _), .inr fun g' hg' => by rcases hG0 with h | h <;> rw [h] at hg' <;> simp at hg'; omega⟩
      · rw [cell_of_row _ _ _ _ _ _ hh]
        simp [hC, hj]
      · unfold World.frozen?
        rw [hh]
        simp
      · rw [List.length_append, len_list] at hj
        rw [cell_of_row _ _ _ _ _ _ hh, hat j hj]
theorem Buf.back {P : Program} (h : Buf w e v l) (src dst : TypeId) (hs : P.underlying src = some (.slice e)) (he : P.underlying e = some (.int .u8)) (hd : P.underlying dst = some .string) :
    (convert src dst v).run P w = .ok (.string (txt l)) w := by
  rcases h with ⟨rfl, rfl⟩ | ⟨g, cap, rfl, hlt, hc, hall, hl⟩
  · exact run_convert_bytes_nil w src e hs he 0 0 dst hd
  · have := run_convert_bytes_back (P := P) w src dst e ⟨g, 0, none⟩ cap l hs he hd fun j hj => by
      rw [add_at]
      exact hl j hj
    exact this
theorem Buf.len (h : Buf w e v l) : ∃ A c, v = .slice A l.length c := by
  rcases h with ⟨rfl, rfl⟩ | ⟨g, cap, rfl, _⟩
  · exact ⟨_, _, rfl⟩
  · exact ⟨_, _, rfl⟩
end
/-- An append whose run is known. -/
theorem wpList_append_run {P : Program} {w w' : World} {ops : Array Oper} {rest : List Oper} {o : Oper} {a : Act} {Q : Exit → Act → World → Prop} (hgd : o.guard = none) (s x : Operand) (t u : TypeId)
    (ho : o.op = .call { callee := .builtin .append, args := #[s, x], argTypes := #[t, u] }) (v y v' : Value) (hs : a.eval s = v) (hx : a.eval x = y)
    (hrun : (Builtin.append_ #[t, u] o.type #[v, y]).run P w = .ok v' w') (h : wpList P ops Q rest (a.put o.dst v') w') : wpList P ops Q (o :: rest) a w := by
  refine wpList_plain hgd fun K hK => ?_
  unfold Oper.wp
  simp [execOp, ho, resolve, invoke, builtin, hs, hx, hrun, Result.andThen]
  exact hK _ _ h
end Go.PM
