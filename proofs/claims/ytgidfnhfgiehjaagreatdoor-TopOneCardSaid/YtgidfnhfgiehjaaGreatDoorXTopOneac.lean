/-
  Texts of the proof, joined: PlainMsg0 MapV Reg Ones From Of Kinds FCheck Work PlainFs FCount FDepth. Conditions: as each names.
-/
import Derived.Test.YtgidfnhfgiehjaaGreatDoorXTopOneab
import Derived.Maps.OwnSet
import Derived.Deep.QuietTactic
import Derived.BigQuiet
import Derived.Test.YtgidfnhfgiehjaaGreatDoorProg
import Derived.WalkSpells
import Derived.WalkLawsBesides
import Derived.Lib.Hide
import Derived.Deep.OwnRows
import Derived.KernelRfl
import Derived.Deep.RegionHeld3
import Derived.Deep.AppendLies
import Derived.Deep.DrawnRows
import Derived.Test.YtgidfnhfgiehjaaGreatDoorXTopOneaa
import Derived.Deep.LoopGhost

section
namespace Go.Proofs.YtgidfnhfgiehjaaGreatDoor
open Go.RowKit Go.PM
inductive Mv where
  | num (n : Nat)
  | flag (b : Bool)
  | sgn (z : Int)
  | word (s : List UInt8)
  | of (d : List Ent)
  | rows (t : List Rw)
def Mv.use : Mv → Nat
  | .num _ => 0
  | .flag _ => 1
  | .sgn _ => 2
  | .word _ => 3
  | .of _ => 4
  | .rows _ => 5
def Mv.good : Mv → Prop
  | .num n => n < 18446744073709551616
  | .sgn z => InI64 z
  | .rows t => ∀ x ∈ t, x.2 < 18446744073709551616
  | _ => True
def nmUse : Nat → Nat
  | 0 => 1
  | 6 => 4
  | 14 | 15 | 17 => 3
  | 18 => 2
  | 20 => 5
  | _ => 0
structure Mp where
  kind : Int
  id : Nat
  min_ : Nat
  max_ : Nat
  chosen : Nat
  flags : Nat
  cost : Nat
  prio : Nat
  dead : Nat
  retry : Nat
  epoch : Nat
  base : Nat
  digest : Nat
  lag : Nat
  code : Nat
  want : Nat
  rem : Int
  al : Bool
  nm : List UInt8
  rg : List UInt8
  nt : List UInt8
  d : List Ent
  t : List Rw
  rest : Fs
def m0 : Mp := ⟨0, 0, 0, 0, 0, 0, 0, 0, 0, 0, 0, 0, 0, 0, 0, 0, 0, false, [], [], [], [], [], .nil⟩
def Mp.val (m : Mp) : Nat → Mv
  | 0 => .flag m.al
  | 1 => .num m.base
  | 2 => .num m.chosen
  | 3 => .num m.code
  | 4 => .num m.cost
  | 5 => .num m.dead
  | 6 => .of m.d
  | 7 => .num m.digest
  | 8 => .num m.epoch
  | 9 => .num m.flags
  | 10 => .num m.id
  | 11 => .num m.lag
  | 12 => .num m.max_
  | 13 => .num m.min_
  | 14 => .word m.nm
  | 15 => .word m.nt
  | 16 => .num m.prio
  | 17 => .word m.rg
  | 18 => .sgn m.rem
  | 19 => .num m.retry
  | 20 => .rows m.t
  | 21 => .num m.want
  | _ => .num 0
def Mp.put (m : Mp) (i : Nat) (v : Mv) : Mp :=
  match i, v with
  | 0, .flag b => { m with al := b }
  | 1, .num n => { m with base := n }
  | 2, .num n => { m with chosen := n }
  | 3, .num n => { m with code := n }
  | 4, .num n => { m with cost := n }
  | 5, .num n => { m with dead := n }
  | 6, .of d => { m with d := d }
  | 7, .num n => { m with digest := n }
  | 8, .num n => { m with epoch := n }
  | 9, .num n => { m with flags := n }
  | 10, .num n => { m with id := n }
  | 11, .num n => { m with lag := n }
  | 12, .num n => { m with max_ := n }
  | 13, .num n => { m with min_ := n }
  | 14, .word s => { m with nm := s }
  | 15, .word s => { m with nt := s }
  | 16, .num n => { m with prio := n }
  | 17, .word s => { m with rg := s }
  | 18, .sgn z => { m with rem := z }
  | 19, .num n => { m with retry := n }
  | 20, .rows t => { m with t := t }
  | 21, .num n => { m with want := n }
  | _, _ => m
theorem cases22 {P : Nat → Prop} (h0 : P 0) (h1 : P 1) (h2 : P 2) (h3 : P 3) (h4 : P 4) (h5 : P 5) (h6 : P 6) (h7 : P 7) (h8 : P 8) (h9 : P 9) (h10 : P 10) (h11 : P 11) (h12 : P 12) (h13 : P 13) (h14 : P 14) (h15 : P 15) (h16 : P 16) (h17 : P 17) (h18 : P 18) (h19 : P 19) (h20 : P 20) (h21 : P 21) : ∀ i, i < 22 → P i
  | 0, _ => h0 | 1, _ => h1 | 2, _ => h2 | 3, _ => h3 | 4, _ => h4 | 5, _ => h5 | 6, _ => h6 | 7, _ => h7 | 8, _ => h8 | 9, _ => h9 | 10, _ => h10 | 11, _ => h11 | 12, _ => h12 | 13, _ => h13 | 14, _ => h14 | 15, _ => h15
  | 16, _ => h16 | 17, _ => h17 | 18, _ => h18 | 19, _ => h19 | 20, _ => h20 | 21, _ => h21
  | n + 22, h => absurd h (by omega)
theorem Mp.val_use (m : Mp) : ∀ i, (m.val i).use = nmUse i
  | 0 | 1 | 2 | 3 | 4 | 5 | 6 | 7 | 8 | 9 | 10 | 11 | 12 | 13 | 14 | 15 | 16 | 17 | 18 | 19 | 20 | 21 => rfl
  | _ + 22 => rfl
theorem Mp.val_put (m : Mp) (v : Mv) : ∀ i, i < 22 → v.use = nmUse i → ∀ j, j < 22 → (m.put i v).val j = if j = i then v else m.val j := by
  refine cases22 ?_ ?_ ?_ ?_ ?_ ?_ ?_ ?_ ?_ ?_ ?_ ?_ ?_ ?_ ?_ ?_ ?_ ?_ ?_ ?_ ?_ ?_ <;>
    (intro h; cases v <;> first | (exfalso; revert h; simp [Mv.use, nmUse]; done) | (refine cases22 ?_ ?_ ?_ ?_ ?_ ?_ ?_ ?_ ?_ ?_ ?_ ?_ ?_ ?_ ?_ ?_ ?_ ?_ ?_ ?_ ?_ ?_ <;> rfl))
theorem Mp.put_kind (m : Mp) (i : Nat) (v : Mv) : (m.put i v).kind = m.kind ∧ (m.put i v).rest = m.rest := by unfold Mp.put; split <;> exact ⟨rfl, rfl⟩
theorem Mp.ext_val {m n : Mp} (hk : m.kind = n.kind) (hr : m.rest = n.rest) (h : ∀ i, i < 22 → m.val i = n.val i) : m = n := by
  obtain ⟨k, a0, a1, a2, a3, a4, a5, a6, a7, a8, a9, a10, a11, a12, a13, a14, a15, a16, a17, a18, a19, a20, a21, a22⟩ := m
  obtain ⟨k', b0, b1, b2, b3, b4, b5, b6, b7, b8, b9, b10, b11, b12, b13, b14, b15, b16, b17, b18, b19, b20, b21, b22⟩ := n
  have e := fun i (hi : i < 22) => h i hi
  have e0 := h 0 (by omega); have e1 := h 1 (by omega); have e2 := h 2 (by omega); have e3 := h 3 (by omega); have e4 := h 4 (by omega); have e5 := h 5 (by omega)
  have e6 := h 6 (by omega); have e7 := h 7 (by omega); have e8 := h 8 (by omega); have e9 := h 9 (by omega); have e10 := h 10 (by omega); have e11 := h 11 (by omega)
  have e12 := h 12 (by omega); have e13 := h 13 (by omega); have e14 := h 14 (by omega); have e15 := h 15 (by omega); have e16 := h 16 (by omega); have e17 := h 17 (by omega)
  have e18 := h 18 (by omega); have e19 := h 19 (by omega); have e20 := h 20 (by omega); have e21 := h 21 (by omega)
  clear h e
  simp only [Mp.val, Mv.num.injEq, Mv.flag.injEq, Mv.sgn.injEq, Mv.word.injEq, Mv.of.injEq, Mv.rows.injEq] at *
  subst hk hr e0 e1 e2 e3 e4 e5 e6 e7 e8 e9 e10 e11 e12 e13 e14 e15 e16 e17 e18 e19 e20 e21
  rfl
end Go.Proofs.YtgidfnhfgiehjaaGreatDoor
end

section
namespace Go.PM
open Go.Maps (Keyed)
theorem isKey_int (k : IntKind) (n : Int) : WideAt.IsKeyLit (.int k n) := by unfold WideAt.IsKeyLit; trivial
theorem isKey_str (s : List UInt8) : WideAt.IsKeyLit (.string s) := by unfold WideAt.IsKeyLit; trivial
def valE (v : Value) : Option (DataW Value × List MemPlace) := some (.held v, [])
def mapL (l : List (Lit × Value)) : DataW Value := l.foldl (fun D p => D.put p.1 (.held p.2)) (.map [])
theorem mapL_snoc (l : List (Lit × Value)) (k : Lit) (v : Value) : mapL (l ++ [(k, v)]) = (mapL l).put k (.held v) := by
  rw [mapL, List.foldl_append]
  rfl
def getL (z : Value) : List (Lit × Value) → Lit → Value
  | [], _ => z
  | p :: l, k => getL (bif p.1.sameKey k then p.2 else z) l k
theorem mapFold_at (k : Lit) : ∀ (l : List (Lit × Value)) (D : DataW Value) (z0 z : Value), Maps.IsMap D → (∀ p ∈ l, WideAt.IsKeyLit p.1) → D.atKey k (.held z0) = .held z → (l.foldl (fun D p => D.put p.1 (.held p.2)) D).atKey k (.held z0) = .held (getL z l k)
  | [], _, _, _, _, _, h => h
  | p :: l, D, z0, z, hD, hl, h => by
    rw [List.foldl_cons, getL]
    refine mapFold_at k l _ z0 _ (hD.put _ _) (fun q hq => hl q (List.mem_cons_of_mem _ hq)) ?_
    by_cases he : p.1 = k
    · rw [← he, WideAt.sameKey_self (hl p List.mem_cons_self)]
      exact Maps.atKey_put_same hD (hl p List.mem_cons_self) _ _
    · rw [Maps.sameKey_ne he, Maps.atKey_put_other (fun e => he e.symm)]
      exact h
theorem mapL_at (l : List (Lit × Value)) (hl : ∀ p ∈ l, WideAt.IsKeyLit p.1) (k : Lit) (z : Value) : (mapL l).atKey k (.held z) = .held (getL z l k) := mapFold_at k l _ z z ⟨[], rfl⟩ hl rfl
def hasL (l : List (Lit × Value)) (k : Lit) : Bool := l.any fun p => p.1.sameKey k
theorem mapFold_has (k : Lit) : ∀ (l : List (Lit × Value)) (D : DataW Value) (c : Bool), Maps.IsMap D → (∀ p ∈ l, WideAt.IsKeyLit p.1) → Maps.has D k = c → Maps.has (l.foldl (fun D p => D.put p.1 (.held p.2)) D) k = (c || hasL l k)
  | [], _, _, _, _, h => by simpa [hasL] using h
  | p :: l, D, c, hD, hl, h => by
    rw [List.foldl_cons]
    by_cases he : p.1 = k
    · rw [mapFold_has k l _ true (hD.put _ _) (fun q hq => hl q (List.mem_cons_of_mem _ hq)) (by rw [← he]; exact Maps.has_put_same hD (hl p List.mem_cons_self) _)]
      simp [hasL, ← he, WideAt.sameKey_self (hl p List.mem_cons_self)]
    · rw [mapFold_has k l _ c (hD.put _ _) (fun q hq => hl q (List.mem_cons_of_mem _ hq)) (by rw [Maps.has_put_other (fun e => he e.symm)]; exact h)]
      simp [hasL, Maps.sameKey_ne he]
theorem mapL_has (l : List (Lit × Value)) (hl : ∀ p ∈ l, WideAt.IsKeyLit p.1) (k : Lit) : Maps.has (mapL l) k = hasL l k := by
  rw [mapL, mapFold_has k l _ false ⟨[], rfl⟩ hl rfl, Bool.false_or]
def MapAt (w : World) (P : Program) (k : TypeId) (b : Nat) (l : List (Lit × Value)) : Prop := w.ownsMap P k valE b l.length (mapL l) ∧ ∀ p ∈ l, WideAt.IsKeyLit p.1
section
variable {w w' : World} {P : Program} {k : TypeId} {b : Nat} {l : List (Lit × Value)}
theorem MapAt.made (w : World) (P : Program) (k : TypeId) : MapAt (w.alloc (.map #[] 0)) P k w.heap.size [] := ⟨World.ownsMap_made w P k valE, by simp⟩
theorem MapAt.lt (h : MapAt w P k b l) : b < w.heap.size := h.1.lt
theorem MapAt.kept {row : Option Nat} (h : MapAt w P k b l) (hg : w.grownBy w' row) (hne : some b ≠ row) : MapAt w' P k b l := ⟨h.1.kept hg hne, h.2⟩
theorem MapAt.look {t e : TypeId} (h : MapAt w P k b l) (K : Keyed P k) (ht : P.underlying t = some (.map k e)) {z : Value} (hz : (zeroValue e).run P w = .ok z w) {key : Value} {kl : Lit} (hkey : keyOf P k key = some kl) :
    (Instr.lookup t (.map (some b)) key false).run P w = .ok (getL z l kl) w := by
  obtain ⟨v, ps, hr, hv⟩ := h.1.lookup K ht hz (zd := .held z) (zp := []) rfl hkey
  rw [mapL_at l h.2] at hv
  simp only [valE, Option.some.injEq, Prod.mk.injEq, DataW.held.injEq] at hv
  rw [hr, hv.1]
theorem MapAt.look_ok {t e : TypeId} (h : MapAt w P k b l) (K : Keyed P k) (ht : P.underlying t = some (.map k e)) {z : Value} (hz : (zeroValue e).run P w = .ok z w) {key : Value} {kl : Lit} (hkey : keyOf P k key = some kl) :
    (Instr.lookup t (.map (some b)) key true).run P w = .ok (.tuple #[getL z l kl, .bool (hasL l kl)]) w := by
  obtain ⟨v, ps, hr, hv⟩ := h.1.look_ok K ht hz (zd := .held z) (zp := []) rfl hkey
  rw [mapL_at l h.2] at hv
  simp only [valE, Option.some.injEq, Prod.mk.injEq, DataW.held.injEq] at hv
  rw [hr, hv.1, mapL_has l h.2]
theorem MapAt.put {t e : TypeId} (h : MapAt w P k b l) (K : Keyed P k) (ht : P.underlying t = some (.map k e)) (hn : l.length < maxLen) {key val : Value} {kl : Lit} (hkey : keyOf P k key = some kl) (hkl : WideAt.IsKeyLit kl) :
    ∃ w', (Instr.mapUpdate t (.map (some b)) key val).run P w = .ok () w' ∧ MapAt w' P k b (l ++ [(kl, val)]) ∧ w.grownBy w' (some b) := by
  obtain ⟨w', h1, h2, h3⟩ := h.1.update K ht hn hkey (d := .held val) (ps := []) rfl
  refine ⟨w', h1, ⟨?_, fun p hp => ?_⟩, h3⟩
  · rw [mapL_snoc, List.length_append]
    exact h2
  · rcases List.mem_append.1 hp with hp | hp
    · exact h.2 p hp
    · rw [List.mem_singleton] at hp
      subst hp
      exact hkl
end
/-! ### at the operation, for the walk -/
section
variable {P : Program} (w : World) {ops : Array Oper} {rest : List Oper} {o : Oper} {a : Act} {Q : Exit → Act → World → Prop}
theorem wpList_put_v (hg : o.guard = none) (m x v : Operand) (t : TypeId) (hop : o.op = Op.mapUpdate t m x v) (k e : TypeId) (K : Keyed P k) (ht : P.underlying t = some (.map k e)) (b : Nat) (l : List (Lit × Value))
    (hm : a.eval m = .map (some b)) (h : MapAt w P k b l) (hn : l.length < maxLen) (key val : Value) (kl : Lit) (hx : a.eval x = key) (hv : a.eval v = val) (hkey : keyOf P k key = some kl) (hkl : WideAt.IsKeyLit kl)
    (hK : ∀ w', MapAt w' P k b (l ++ [(kl, val)]) → w.grownBy w' (some b) → wpList P ops Q rest (a.put o.dst undef) w') : wpList P ops Q (o :: rest) a w := by
  refine wpList_plain hg fun K' hK' => ?_
  obtain ⟨w', hrun, r1, r2⟩ := h.put (val := val) K ht hn hkey hkl
  unfold Oper.wp
  simp [execOp, hop, hm, hx, hv, hrun, Result.andThen]
  exact hK' _ _ (hK w' r1 r2)
theorem wpList_ins_v (hg : o.guard = none) (m x v : Operand) (t : TypeId) (hop : o.op = Op.insert t m x v) (k e : TypeId) (K : Keyed P k) (ht : P.underlying t = some (.map k e)) (b : Nat) (l : List (Lit × Value))
    (hm : a.eval m = .map (some b)) (h : MapAt w P k b l) (hn : l.length < maxLen) (key val : Value) (kl : Lit) (hx : a.eval x = key) (hv : a.eval v = val) (hkey : keyOf P k key = some kl) (hkl : WideAt.IsKeyLit kl)
    (hK : ∀ w', MapAt w' P k b (l ++ [(kl, val)]) → w.grownBy w' (some b) → wpList P ops Q rest (a.put o.dst undef) w') : wpList P ops Q (o :: rest) a w := by
  refine wpList_plain hg fun K' hK' => ?_
  obtain ⟨w', hrun, r1, r2⟩ := h.put (val := val) K ht hn hkey hkl
  unfold Oper.wp
  simp [execOp, hop, hm, hx, hv, hrun, Result.andThen]
  exact hK' _ _ (hK w' r1 r2)
theorem wpList_look_v (hg : o.guard = none) (m x : Operand) (t : TypeId) (hop : o.op = Op.lookup t m x false) (k e : TypeId) (K : Keyed P k) (ht : P.underlying t = some (.map k e)) {z : Value} (hz : (zeroValue e).run P w = .ok z w) (b : Nat) (l : List (Lit × Value))
    (hm : a.eval m = .map (some b)) (h : MapAt w P k b l) (key : Value) (kl : Lit) (hx : a.eval x = key) (hkey : keyOf P k key = some kl) {r : Value} (hr : getL z l kl = r)
    (hK : wpList P ops Q rest (a.put o.dst r) w) : wpList P ops Q (o :: rest) a w := by
  subst hr
  refine wpList_plain hg fun K' hK' => ?_
  have hrun := h.look K ht hz hkey
  unfold Oper.wp
  simp [execOp, hop, hm, hx, hrun, Result.andThen]
  exact hK' _ _ hK
theorem wpList_look_ok_v (hg : o.guard = none) (m x : Operand) (t : TypeId) (hop : o.op = Op.lookup t m x true) (k e : TypeId) (K : Keyed P k) (ht : P.underlying t = some (.map k e)) {z : Value} (hz : (zeroValue e).run P w = .ok z w) (b : Nat) (l : List (Lit × Value))
    (hm : a.eval m = .map (some b)) (h : MapAt w P k b l) (key : Value) (kl : Lit) (hx : a.eval x = key) (hkey : keyOf P k key = some kl) {r : Value} (hr : getL z l kl = r) {c : Bool} (hc : hasL l kl = c)
    (hK : wpList P ops Q rest (a.put o.dst (.tuple #[r, .bool c])) w) : wpList P ops Q (o :: rest) a w := by
  subst hr hc
  refine wpList_plain hg fun K' hK' => ?_
  have hrun := h.look_ok K ht hz hkey
  unfold Oper.wp
  simp [execOp, hop, hm, hx, hrun, Result.andThen]
  exact hK' _ _ hK
end
end Go.PM
end

section
namespace Go.PM
open Go.RowKit
/-! ### A region that draws its order, of operations that compute and of calls that leave all that was there -/
def BelW (w : World) : Type := { x : World // Below w.heap.size w x }
def BelW.wld {w : World} (n : BelW w) : World := n.1
theorem BelW.bel {w : World} (n : BelW w) : Below w.heap.size w n.wld := n.2
instance (w : World) : Nonempty (BelW w) := ⟨⟨w, b0⟩⟩
theorem wp_region_below_lit {P : Program} {id : Nat} {Q : Exit → Act → World → Prop} {a : Act} {w : World} {l : List Oper} (hm : P.follows .mixedOrders = true) (hB : Region.lexB .any l.toArray = true)
    (h : wpQuiet P l.toArray (fun w' => ∃ n : BelW w, w' = n.wld) (fun a' => ∀ w', (∃ n : BelW w, w' = n.wld) → Q .normal a' w') l a) : (Code.region id l.toArray true).wp P Q a w :=
  wp_region_quiet (C := fun w' => ∃ n : BelW w, w' = n.wld) hm hB ⟨(⟨w.drew, bd b0⟩ : BelW w), rfl⟩ (by simpa using h)
theorem below_of {P : Program} {f : FuncId} {args : Array Value} {w : World} {n : BelW w} {v : Value} (h : Calls P f args n.wld fun e w' => e = .returned v ∧ Below n.wld.heap.size n.wld w') :
    Calls P f args n.wld fun e w' => e = .returned v ∧ ∃ m : BelW w, w' = m.wld := h.mono fun _ w' ⟨he, hb⟩ => ⟨he, ⟨w', bb n.bel hb⟩, rfl⟩
theorem wp_world {P : Program} {c : Code} {Q : Exit → Act → World → Prop} {a : Act} {w : World} (h : ∀ W, W = w → Code.wp P c Q a W) : Code.wp P c Q a w := h w rfl
end Go.PM
end

section
namespace Go.PM
open Go.RowKit
structure One where
  deep : Nat
  tag : Nat
  ty : Int
  num : Nat
  text : ByteArray
def One.ok (x : One) : Prop := x.deep < 256 ∧ In64 x.tag ∧ (-128 ≤ x.ty ∧ x.ty ≤ 127) ∧ In64 x.num ∧ x.text.size ≤ 9223372036854775807
def OnesAt (w : World) (b o : Nat) (l : List One) : Prop := ∀ j x, l[j]? = some x →
  w.cell? ⟨b, o + j * 5, none⟩ = some (.int .u8 (x.deep : Int)) ∧ w.cell? ⟨b, o + j * 5 + 1, none⟩ = some (.int .u64 (x.tag : Int)) ∧ w.cell? ⟨b, o + j * 5 + 2, none⟩ = some (.int .i8 x.ty) ∧
  w.cell? ⟨b, o + j * 5 + 3, none⟩ = some (.int .u64 (x.num : Int)) ∧ w.cell? ⟨b, o + j * 5 + 4, none⟩ = some (.string x.text)
def OnesRd (H : Nat) (w : World) (A : Option Addr) (l : List One) : Prop := l = [] ∨ ∃ b o, A = some ⟨b, o, none⟩ ∧ b < H ∧ H ≤ w.heap.size ∧ OnesAt w b o l
theorem OnesAt.below {w w' : World} {b o : Nat} {l : List One} (h : OnesAt w b o l) (hb : Below w.heap.size w w') (hlt : b < w.heap.size) : OnesAt w' b o l := fun j x hj => by
  have e : ∀ k, w'.cell? ⟨b, k, none⟩ = w.cell? ⟨b, k, none⟩ := fun k => World.cell?_of_block (a := ⟨b, k, none⟩) (hb.block b hlt)
  obtain ⟨h1, h2, h3, h4, h5⟩ := h j x hj
  exact ⟨(e _).trans h1, (e _).trans h2, (e _).trans h3, (e _).trans h4, (e _).trans h5⟩
theorem OnesRd.below {H : Nat} {w w' : World} {A : Option Addr} {l : List One} (h : OnesRd H w A l) (hb : Below w.heap.size w w') : OnesRd H w' A l :=
  h.imp id fun ⟨b, o, hA, hlt, hH, h⟩ => ⟨b, o, hA, hlt, Nat.le_trans hH hb.size, h.below hb (Nat.lt_of_lt_of_le hlt hH)⟩
end Go.PM
namespace Go.Proofs.YtgidfnhfgiehjaaGreatDoor
open Go.RowKit Go.PM
set_option maxRecDepth 100000
set_option maxHeartbeats 1000000
end Go.Proofs.YtgidfnhfgiehjaaGreatDoor
end

section
namespace Go.Proofs.YtgidfnhfgiehjaaGreatDoor
open Go.RowKit Go.PM
set_option maxRecDepth 100000
set_option maxHeartbeats 2000000
attribute [local go_sem ↓] Go.wp_at_zero Go.wp_at_succ
theorem own_slv {w : World} {base : Nat} {e : TypeId} {v : Value} {xs : List Value} {f : Fs} {J : Nat → Prop} (h : w.ownsRow base e 5 v f.len xs) (hc : Cls w J xs f) (hJ : ∀ k, J k → base ≤ k) : ∃ A c, v = .slice A f.len c ∧ SlV w (base ≤ ·) (.slice A f.len c) f := by
  rcases h.2 with ⟨rfl, h0⟩ | ⟨g, cap, cur, rfl, hb, hg, hn, _⟩
  · have := Fs.len_zero h0
    subst this
    exact ⟨none, 0, rfl, SlV.nil _ _ _ _⟩
  · refine ⟨some ⟨g, 0, none⟩, cap, rfl, some ⟨g, 0, none⟩, cap, rfl, hn, .inr ⟨g, 0, rfl, hb, (Array.getElem?_eq_some_iff.1 hg).1, (hc.imp hJ).at_ fun j u hj => ?_⟩⟩
    have := h.cells (g := g) rfl j u hj
    rwa [add_at, ← Nat.zero_add j] at this
theorem info_field : (Tryz.prog.info? 47).map (fun i => (i.zero, i.size, i.bytes)) = some (some (.agg #[.int .u64 0, .int .i64 0, .int .u64 0, .string ByteArray.empty, .slice none 0 0]), 5, 64) := by kernel_rfl
end Go.Proofs.YtgidfnhfgiehjaaGreatDoor
end

section
namespace Go.Proofs.YtgidfnhfgiehjaaGreatDoor
open Go.RowKit Go.PM
set_option maxRecDepth 100000
set_option maxHeartbeats 2000000
attribute [local go_sem ↓] Go.wp_at_zero Go.wp_at_succ
end Go.Proofs.YtgidfnhfgiehjaaGreatDoor
end

section
namespace Go.Proofs.YtgidfnhfgiehjaaGreatDoor
open Go.RowKit Go.PM
set_option maxRecDepth 100000
set_option maxHeartbeats 4000000
attribute [local go_sem ↓] Go.wp_at_zero Go.wp_at_succ
def spv (s : Sp) : List Value := [.int .u64 (s.tag : Int), .int .i64 (s.use : Int), .int .i64 (s.from_ : Int), .string (txt s.nm)]
def sps (l : List Sp) : List Value := l.flatMap spv
theorem sps_app (l m : List Sp) : sps (l ++ m) = sps l ++ sps m := by simp [sps]
theorem sps_at : ∀ (l : List Sp) (k : Nat) (h : k < l.length), (sps l)[k * 4]? = some (.int .u64 (l[k].tag : Int)) ∧ (sps l)[k * 4 + 1]? = some (.int .i64 (l[k].use : Int)) ∧ (sps l)[k * 4 + 2]? = some (.int .i64 (l[k].from_ : Int)) ∧ (sps l)[k * 4 + 3]? = some (.string (txt l[k].nm))
  | a :: r, 0, _ => ⟨rfl, rfl, rfl, rfl⟩
  | a :: r, k + 1, h => by
    have ih := sps_at r k (by simpa using h)
    rw [show (k + 1) * 4 = k * 4 + 1 + 1 + 1 + 1 by omega]
    exact ih
theorem sps_one (l : List Sp) : ∀ u ∈ sps l, u.oneCell' = true := fun u hu => by
  obtain ⟨a, _, h⟩ := List.mem_flatMap.1 hu
  simp only [spv, List.mem_cons, List.not_mem_nil, or_false] at h
  rcases h with rfl | rfl | rfl | rfl <;> rfl
theorem rd_spec {w : World} {A : Option Addr} {l : List Sp} (h : Rd w A (sps l)) {k : Nat} (hk : k < l.length) : ∃ b off, A = some ⟨b, off, none⟩ ∧ b < w.heap.size ∧ w.cell? ⟨b, off + k * 4, none⟩ = some (.int .u64 (l[k].tag : Int)) ∧
    w.cell? ⟨b, off + k * 4 + 1, none⟩ = some (.int .i64 (l[k].use : Int)) ∧ w.cell? ⟨b, off + k * 4 + 2, none⟩ = some (.int .i64 (l[k].from_ : Int)) ∧ w.cell? ⟨b, off + k * 4 + 3, none⟩ = some (.string (txt l[k].nm)) := by
  obtain ⟨h1, h2, h3, h4⟩ := sps_at l k hk
  rcases h with h | ⟨b, off, e, hb, hc⟩
  · rw [h] at h1; simp at h1
  · exact ⟨b, off, e, hb, hc _ _ h1, hc _ _ h2, hc _ _ h3, hc _ _ h4⟩
theorem rd_new (w : World) (t : TypeId) (l : List Value) : Rd (w.alloc (.cells l.toArray t)) (some ⟨w.heap.size, 0, none⟩) l := by
  refine .inr ⟨_, _, rfl, by simp, fun j u hj => ?_⟩
  rw [Nat.zero_add, (BlkAt.made w t l.toArray).cell]
  simpa using hj
def SpEnd (w : World) (k : Nat) (e : Ending) (w' : World) : Prop := ∃ b, e = .returned (.slice (some ⟨b, 0, none⟩) (kspecs k).length (kspecs k).length) ∧ w.heap.size ≤ b ∧ Rd w' (some ⟨b, 0, none⟩) (sps (kspecs k)) ∧ Below w.heap.size w w'
theorem spEnd (w : World) (k : Nat) : SpEnd w k (.returned (.slice (some ⟨w.heap.size, 0, none⟩) (kspecs k).length (kspecs k).length)) (w.alloc (.cells (sps (kspecs k)).toArray 94)) :=
  ⟨_, rfl, Nat.le_refl _, rd_new _ _ _, ba b0 _⟩
theorem hello_any (w : World) : Calls Tryz.prog 127 #[] w (SpEnd w 1) := by
  have HE := Lib.hid (spEnd w 1)
  go_enter Tryz.func127, Tryz.ntmps127
  go_wp2_with fail
  go_ret
  exact HE.out
theorem helloAck_any (w : World) : Calls Tryz.prog 128 #[] w (SpEnd w 2) := by
  have HE := Lib.hid (spEnd w 2)
  go_enter Tryz.func128, Tryz.ntmps128
  go_wp2_with fail
  go_ret
  exact HE.out
theorem checkRequest_any (w : World) : Calls Tryz.prog 129 #[] w (SpEnd w 3) := by
  have HE := Lib.hid (spEnd w 3)
  go_enter Tryz.func129, Tryz.ntmps129
  go_wp2_with fail
  go_ret
  exact HE.out
theorem checkResponse_any (w : World) : Calls Tryz.prog 130 #[] w (SpEnd w 4) := by
  have HE := Lib.hid (spEnd w 4)
  go_enter Tryz.func130, Tryz.ntmps130
  go_wp2_with fail
  go_ret
  exact HE.out
theorem fullSnapshot_any (w : World) : Calls Tryz.prog 131 #[] w (SpEnd w 5) := by
  have HE := Lib.hid (spEnd w 5)
  go_enter Tryz.func131, Tryz.ntmps131
  go_wp2_with fail
  go_ret
  exact HE.out
theorem deltaSnapshot_any (w : World) : Calls Tryz.prog 132 #[] w (SpEnd w 6) := by
  have HE := Lib.hid (spEnd w 6)
  go_enter Tryz.func132, Tryz.ntmps132
  go_wp2_with fail
  go_ret
  exact HE.out
theorem ack_any (w : World) : Calls Tryz.prog 133 #[] w (SpEnd w 7) := by
  have HE := Lib.hid (spEnd w 7)
  go_enter Tryz.func133, Tryz.ntmps133
  go_wp2_with fail
  go_ret
  exact HE.out
theorem reject_any (w : World) : Calls Tryz.prog 134 #[] w (SpEnd w 8) := by
  have HE := Lib.hid (spEnd w 8)
  go_enter Tryz.func134, Tryz.ntmps134
  go_wp2_with fail
  go_ret
  exact HE.out
def kfn : Nat → Nat
  | 1 => 127
  | 2 => 128
  | 3 => 129
  | 4 => 130
  | 5 => 131
  | 6 => 132
  | 7 => 133
  | _ => 134
theorem specs_of (w : World) : ∀ k, 1 ≤ k → k ≤ 8 → Calls Tryz.prog (kfn k) #[] w (SpEnd w k)
  | 1, _, _ => hello_any w
  | 2, _, _ => helloAck_any w
  | 3, _, _ => checkRequest_any w
  | 4, _, _ => checkResponse_any w
  | 5, _, _ => fullSnapshot_any w
  | 6, _, _ => deltaSnapshot_any w
  | 7, _, _ => ack_any w
  | 8, _, _ => reject_any w
  | 0, h, _ => absurd h (by omega)
  | n + 9, _, h => absurd h (by omega)
def kv (k : Nat) : Value := .agg #[.string (txt (kname k)), .int .i64 (kfrom k : Int), .func (.func (kfn k)) #[] #[]]
def zkind : Value := .agg #[.string ⟨#[]⟩, .int .i64 0, .nilFunc]
theorem zero_kind (w : World) : (zeroValue 145).run Tryz.prog w = .ok zkind w := rfl
theorem key_int : Maps.Keyed Tryz.prog 3 := Maps.int_keyed Tryz.underlying3
def kindL : List (Lit × Value) := [(.int .i64 1, kv 1), (.int .i64 2, kv 2), (.int .i64 3, kv 3), (.int .i64 4, kv 4), (.int .i64 5, kv 5), (.int .i64 6, kv 6), (.int .i64 7, kv 7), (.int .i64 8, kv 8)]
theorem all17 (w : World) : Calls Tryz.prog 79 #[] w fun e w' => e = .returned (.map (some w.heap.size)) ∧ MapAt w' Tryz.prog 3 w.heap.size kindL ∧ Below w.heap.size w w' := by
  have hmm := @run_makeMap Tryz.prog
  have H0 := Lib.hid (MapAt.made w Tryz.prog 3)
  have B0 := Lib.hid (ba (a := w) b0 (.map #[] 0))
  go_enter Tryz.func79, Tryz.ntmps79
  go_wp2_with (first |
    (with_reducible show wpList _ _ _ (Oper.mk _ (Op.insert _ _ _ _) _ _ _ _ :: _) _ _; refine wpList_ins_v _ rfl _ _ _ 146 rfl 3 145 key_int Tryz.underlying146 _ _ rfl H0.out (by unfold maxLen; simp) (.int .i64 1) (kv 1) (.int .i64 1) rfl rfl (Maps.keyOf_int_mk Tryz.underlying3 (by decide)) (isKey_int _ _) ?_; intro w1 h1 g1; have H1 := Lib.hid h1; have B1 := Lib.hid (bg B0.out g1 (Nat.le_refl _)); clear h1 g1 H0 B0) |
    (with_reducible show wpList _ _ _ (Oper.mk _ (Op.insert _ _ _ _) _ _ _ _ :: _) _ _; refine wpList_ins_v _ rfl _ _ _ 146 rfl 3 145 key_int Tryz.underlying146 _ _ rfl H1.out (by unfold maxLen; simp) (.int .i64 2) (kv 2) (.int .i64 2) rfl rfl (Maps.keyOf_int_mk Tryz.underlying3 (by decide)) (isKey_int _ _) ?_; intro w2 h2 g2; have H2 := Lib.hid h2; have B2 := Lib.hid (bg B1.out g2 (Nat.le_refl _)); clear h2 g2 H1 B1) |
    (with_reducible show wpList _ _ _ (Oper.mk _ (Op.insert _ _ _ _) _ _ _ _ :: _) _ _; refine wpList_ins_v _ rfl _ _ _ 146 rfl 3 145 key_int Tryz.underlying146 _ _ rfl H2.out (by unfold maxLen; simp) (.int .i64 3) (kv 3) (.int .i64 3) rfl rfl (Maps.keyOf_int_mk Tryz.underlying3 (by decide)) (isKey_int _ _) ?_; intro w3 h3 g3; have H3 := Lib.hid h3; have B3 := Lib.hid (bg B2.out g3 (Nat.le_refl _)); clear h3 g3 H2 B2) |
    (with_reducible show wpList _ _ _ (Oper.mk _ (Op.insert _ _ _ _) _ _ _ _ :: _) _ _; refine wpList_ins_v _ rfl _ _ _ 146 rfl 3 145 key_int Tryz.underlying146 _ _ rfl H3.out (by unfold maxLen; simp) (.int .i64 4) (kv 4) (.int .i64 4) rfl rfl (Maps.keyOf_int_mk Tryz.underlying3 (by decide)) (isKey_int _ _) ?_; intro w4 h4 g4; have H4 := Lib.hid h4; have B4 := Lib.hid (bg B3.out g4 (Nat.le_refl _)); clear h4 g4 H3 B3) |
    (with_reducible show wpList _ _ _ (Oper.mk _ (Op.insert _ _ _ _) _ _ _ _ :: _) _ _; refine wpList_ins_v _ rfl _ _ _ 146 rfl 3 145 key_int Tryz.underlying146 _ _ rfl H4.out (by unfold maxLen; simp) (.int .i64 5) (kv 5) (.int .i64 5) rfl rfl (Maps.keyOf_int_mk Tryz.underlying3 (by decide)) (isKey_int _ _) ?_; intro w5 h5 g5; have H5 := Lib.hid h5; have B5 := Lib.hid (bg B4.out g5 (Nat.le_refl _)); clear h5 g5 H4 B4) |
    (with_reducible show wpList _ _ _ (Oper.mk _ (Op.insert _ _ _ _) _ _ _ _ :: _) _ _; refine wpList_ins_v _ rfl _ _ _ 146 rfl 3 145 key_int Tryz.underlying146 _ _ rfl H5.out (by unfold maxLen; simp) (.int .i64 6) (kv 6) (.int .i64 6) rfl rfl (Maps.keyOf_int_mk Tryz.underlying3 (by decide)) (isKey_int _ _) ?_; intro w6 h6 g6; have H6 := Lib.hid h6; have B6 := Lib.hid (bg B5.out g6 (Nat.le_refl _)); clear h6 g6 H5 B5) |
    (with_reducible show wpList _ _ _ (Oper.mk _ (Op.insert _ _ _ _) _ _ _ _ :: _) _ _; refine wpList_ins_v _ rfl _ _ _ 146 rfl 3 145 key_int Tryz.underlying146 _ _ rfl H6.out (by unfold maxLen; simp) (.int .i64 7) (kv 7) (.int .i64 7) rfl rfl (Maps.keyOf_int_mk Tryz.underlying3 (by decide)) (isKey_int _ _) ?_; intro w7 h7 g7; have H7 := Lib.hid h7; have B7 := Lib.hid (bg B6.out g7 (Nat.le_refl _)); clear h7 g7 H6 B6) |
    (with_reducible show wpList _ _ _ (Oper.mk _ (Op.insert _ _ _ _) _ _ _ _ :: _) _ _; refine wpList_ins_v _ rfl _ _ _ 146 rfl 3 145 key_int Tryz.underlying146 _ _ rfl H7.out (by unfold maxLen; simp) (.int .i64 8) (kv 8) (.int .i64 8) rfl rfl (Maps.keyOf_int_mk Tryz.underlying3 (by decide)) (isKey_int _ _) ?_; intro w8 h8 g8; have H8 := Lib.hid h8; have B8 := Lib.hid (bg B7.out g8 (Nat.le_refl _)); clear h8 g8 H7 B7))
  go_ret
  exact ⟨rfl, H8.out, B8.out⟩
end Go.Proofs.YtgidfnhfgiehjaaGreatDoor
end

section
namespace Go.Proofs.YtgidfnhfgiehjaaGreatDoor
open Go.RowKit Go.PM
set_option maxRecDepth 100000
set_option maxHeartbeats 1000000
def ftyped (y : Int) (n : Nat) (s : ByteArray) (len : Nat) : Bool :=
  if y = 0 then decide (s.size = 0) && decide (len = 0) else if y = 1 then decide (n = 0) && decide (len = 0) else if y = 2 then decide (n = 0) && decide (s.size = 0) else false
theorem size_zero {s : ByteArray} (h : s.size = 0) : s = ⟨#[]⟩ := ByteArray.ext (Array.eq_empty_of_size_eq_zero h)
theorem size_some {s : ByteArray} (h : s.size ≠ 0) : s.toList.isEmpty = false ∧ s.toList ≠ [] := by
  have : s.toList ≠ [] := fun e => h (by rw [ByteArray.toList_eq] at e; have := congrArg List.length e; simpa using this)
  exact ⟨by simpa using this, this⟩
theorem typed_any (t : Nat) (y : Int) (n : Nat) (s : ByteArray) (A : Option Addr) (len c : Nat) (w : World) (hy : InI64 y) (hl : len ≤ 9223372036854775807) :
    Calls Tryz.prog 151 #[.agg #[.int .u64 (t : Int), .int .i64 y, .int .u64 (n : Int), .string s, .slice A len c]] w fun e w' => e = .returned (.bool (ftyped y n s len)) ∧ Below w.heap.size w w' := by
  unfold ftyped
  by_cases y0 : y = 0
  · subst y0
    rw [if_pos rfl]
    by_cases hs : s.size = 0
    · obtain rfl := size_zero hs
      by_cases h0 : len = 0
      · subst h0
        go_enter Tryz.func151, Tryz.ntmps151
        go_wp2
        go_ret
        exact ⟨rfl, ba b0 _⟩
      · have hd : decide (len = 0) = false := by simp; exact h0
        have hi : ((len : Int) == 0) = false := by rw [beq_eq_false_iff_ne]; omega
        rw [hd]
        clear hd
        go_enter Tryz.func151, Tryz.ntmps151
        go_wp2
        go_ret
        exact ⟨rfl, ba b0 _⟩
    · obtain ⟨e1, e2⟩ := size_some hs
      rw [decide_eq_false hs]
      go_enter Tryz.func151, Tryz.ntmps151
      go_wp2
      go_ret
      exact ⟨rfl, ba b0 _⟩
  · rw [if_neg y0]
    by_cases y1 : y = 1
    · subst y1
      rw [if_pos rfl]
      by_cases hn : n = 0
      · subst hn
        by_cases h0 : len = 0
        · subst h0
          go_enter Tryz.func151, Tryz.ntmps151
          go_wp2
          go_ret
          exact ⟨rfl, ba b0 _⟩
        · have hd : decide (len = 0) = false := by simp; exact h0
          have hi : ((len : Int) == 0) = false := by rw [beq_eq_false_iff_ne]; omega
          rw [hd]
          clear hd
          go_enter Tryz.func151, Tryz.ntmps151
          go_wp2
          go_ret
          exact ⟨rfl, ba b0 _⟩
      · have hi : ((n : Int) == 0) = false := by rw [beq_eq_false_iff_ne]; omega
        rw [decide_eq_false hn]
        go_enter Tryz.func151, Tryz.ntmps151
        go_wp2
        go_ret
        exact ⟨rfl, ba b0 _⟩
    · rw [if_neg y1]
      have i0 : ((y : Int) == 0) = false := by rw [beq_eq_false_iff_ne]; exact y0
      have i1 : ((y : Int) == 1) = false := by rw [beq_eq_false_iff_ne]; exact y1
      by_cases y2 : y = 2
      · subst y2
        rw [if_pos rfl]
        clear y0 y1 i0 i1
        by_cases hn : n = 0
        · subst hn
          by_cases hs : s.size = 0
          · obtain rfl := size_zero hs
            go_enter Tryz.func151, Tryz.ntmps151
            go_wp2
            go_ret
            exact ⟨rfl, ba b0 _⟩
          · obtain ⟨e1, e2⟩ := size_some hs
            rw [decide_eq_false hs]
            go_enter Tryz.func151, Tryz.ntmps151
            go_wp2
            go_ret
            exact ⟨rfl, ba b0 _⟩
        · have hi : ((n : Int) == 0) = false := by rw [beq_eq_false_iff_ne]; omega
          rw [decide_eq_false hn]
          go_enter Tryz.func151, Tryz.ntmps151
          go_wp2
          go_ret
          exact ⟨rfl, ba b0 _⟩
      · rw [if_neg y2]
        have i2 : ((y : Int) == 2) = false := by rw [beq_eq_false_iff_ne]; exact y2
        clear y0 y1 y2
        go_enter Tryz.func151, Tryz.ntmps151
        go_wp2
        go_ret
        exact ⟨rfl, ba b0 _⟩
def fcheck : Fs → Nat → Nat → Nat
  | .nil, _, _ => 0
  | .cons t y n s i r, ahead, within =>
    if t = 0 ∨ 4294967296 < t then 18 else if t ≤ ahead then 7 else if ftyped y n s i.len = false then 8 else if y ≠ 2 then fcheck r t within else if 8 ≤ within then 9
    else if fcheck i 0 (within + 1) ≠ 0 then fcheck i 0 (within + 1) else fcheck r t within
def FKd (t : Nat) (y : Int) (n : Nat) (s : ByteArray) : Prop := In64 t ∧ InI64 y ∧ In64 n ∧ s.size ≤ 9223372036854775807
theorem check_any8 (N : Nat) : ∀ (A : Option Addr) (c : Nat) (f : Fs) (I : Nat → Prop) (within : Nat) (w : World), f.count ≤ N → SlV w I (.slice A f.len c) f → f.All FKd → f.count ≤ 1000000 → within ≤ 8 →
    Calls Tryz.prog 94 #[.slice A f.len c, .int .i64 (within : Int)] w fun e w' => e = .returned (.int .i64 (fcheck f 0 within : Int)) ∧ Below w.heap.size w w' := by
  induction N with
  | zero =>
    intro A c f I within w hN hr hk h60 hw
    have : f = .nil := Fs.len_zero (by have := f.len_count; omega)
    subst this
    go_enter Tryz.func94, Tryz.ntmps94
    go_wp2_with fail
    go_loopw [5, 11] (fun _ kk wr => kk = .int .i64 0 ∧ wr = w) (fun _ _ _ => 0)
    case atStart => exact ⟨rfl, rfl⟩
    case round =>
      obtain ⟨rfl, rfl⟩ := hrel
      go_wp2_with fail
      go_ret
      exact ⟨rfl, b0⟩
  | succ N ih =>
    intro A c f I within w hN hr hk h60 hw
    have IH := Lib.hid ih
    have HR := Lib.hid hr
    have HK := Lib.hid hk
    have hfl := f.len_count
    generalize hRR : fcheck f 0 within = R
    have H0 : Hid (fcheck (f.drop 0) 0 within = R) := by show _ = _; rw [← hRR]; cases f <;> rfl
    clear hRR ih hr hk
    go_enter Tryz.func94, Tryz.ntmps94
    go_wp2_with fail
    go_loopw [5, 11] (fun aa kk wr => ∃ k ahead : Nat, k ≤ f.len ∧ kk = .int .i64 (k : Int) ∧ aa = .int .u64 (ahead : Int) ∧ ahead ≤ 4294967296 ∧ Hid (fcheck (f.drop k) ahead within = R) ∧ Below w.heap.size w wr) (fun _ kk _ => f.len - (intOf kk).toNat)
    case atStart => exact ⟨0, 0, by omega, rfl, rfl, by omega, H0, b0⟩
    case round =>
      obtain ⟨k, ahead, hk, rfl, rfl, hah, hR', hbel⟩ := hrel
      have HBEL := Lib.hid hbel
      have hR := hR'.out
      by_cases hlt : k < f.len
      · obtain ⟨t, y, n, s, i, hdc, _⟩ := f.drop_cons k hlt
        obtain ⟨A0, c0, hv, hc0, hor⟩ := HR.out.below hbel
        injection hv with hv1 hv2 hv3
        subst hv1 hv3
        rcases hor with h0 | ⟨b, o, rfl, hIb, hbl, hat⟩
        · omega
        have hak := hat.drop k
        have hkk := HK.out.drop k
        have hcc := f.drop_count k
        rw [hdc] at hak hkk hR hcc
        obtain ⟨d0, d1, d2, d3, ⟨Ai, ci, d4, hin⟩, _⟩ := hak
        obtain ⟨⟨ht64, hy64, hn64, hs63⟩, hki, _⟩ := hkk
        have hic : i.count ≤ N ∧ i.count ≤ 1000000 ∧ i.len ≤ 1000000 := by
          have := i.len_count
          simp only [Fs.count] at hcc
          omega
        have HTY : Hid (∀ x : World, Calls Tryz.prog 151 #[.agg #[.int .u64 (t : Int), .int .i64 y, .int .u64 (n : Int), .string s, .slice Ai i.len ci]] x fun e w' => e = .returned (.bool (ftyped y n s i.len)) ∧ Below x.heap.size x w') := fun x => typed_any t y n s Ai i.len ci x hy64 (by omega)
        have HIN := Lib.hid hin
        have HKI := Lib.hid hki
        have HT64 := Lib.hid ht64
        clear hdc hat hin hki hbel hv2 hy64 hn64 hR' ht64 hcc H0
        rw [fcheck] at hR
        by_cases ht0 : t = 0
        · subst ht0
          rw [if_pos (.inl rfl)] at hR
          subst hR
          go_wp2_with (first | (go_at_call 151; refine (HTY.out _).mono ?_; rintro e wt ⟨rfl, hbt⟩; have hm := (BlkAt.made wr 47 #[.int .u64 (t : Int), .int .i64 y, .int .u64 (n : Int), .string s, .slice Ai i.len ci]).below hbt (by simp); have q1 := hm.cell 1; have q4 := hm.cell 4; simp at q1 q4))
          go_ret
          exact ⟨rfl, HBEL.out.trans (by first | exact (bb (ba b0 _) hbt).mono HBEL.out.size | exact (ba b0 _ : Below wr.heap.size wr _).mono HBEL.out.size)⟩
        by_cases ht1 : 4294967296 < t
        · have hti : ((t : Int) == 0) = false := by rw [beq_eq_false_iff_ne]; omega
          rw [if_pos (.inr ht1)] at hR
          subst hR
          go_wp2_with (first | (go_at_call 151; refine (HTY.out _).mono ?_; rintro e wt ⟨rfl, hbt⟩; have hm := (BlkAt.made wr 47 #[.int .u64 (t : Int), .int .i64 y, .int .u64 (n : Int), .string s, .slice Ai i.len ci]).below hbt (by simp); have q1 := hm.cell 1; have q4 := hm.cell 4; simp at q1 q4))
          go_ret
          exact ⟨rfl, HBEL.out.trans (by first | exact (bb (ba b0 _) hbt).mono HBEL.out.size | exact (ba b0 _ : Below wr.heap.size wr _).mono HBEL.out.size)⟩
        rw [if_neg (by omega)] at hR
        have hti : ((t : Int) == 0) = false := by rw [beq_eq_false_iff_ne]; omega
        by_cases hta : t ≤ ahead
        · rw [if_pos hta] at hR
          subst hR
          go_wp2_with (first | (go_at_call 151; refine (HTY.out _).mono ?_; rintro e wt ⟨rfl, hbt⟩; have hm := (BlkAt.made wr 47 #[.int .u64 (t : Int), .int .i64 y, .int .u64 (n : Int), .string s, .slice Ai i.len ci]).below hbt (by simp); have q1 := hm.cell 1; have q4 := hm.cell 4; simp at q1 q4))
          go_ret
          exact ⟨rfl, HBEL.out.trans (by first | exact (bb (ba b0 _) hbt).mono HBEL.out.size | exact (ba b0 _ : Below wr.heap.size wr _).mono HBEL.out.size)⟩
        rw [if_neg hta] at hR
        cases hty : ftyped y n s i.len with
        | false =>
          rw [hty] at HTY hR
          rw [if_pos rfl] at hR
          clear hty
          subst hR
          go_wp2_with (first | (go_at_call 151; refine (HTY.out _).mono ?_; rintro e wt ⟨rfl, hbt⟩; have hm := (BlkAt.made wr 47 #[.int .u64 (t : Int), .int .i64 y, .int .u64 (n : Int), .string s, .slice Ai i.len ci]).below hbt (by simp); have q1 := hm.cell 1; have q4 := hm.cell 4; simp at q1 q4))
          go_ret
          exact ⟨rfl, HBEL.out.trans (by first | exact (bb (ba b0 _) hbt).mono HBEL.out.size | exact (ba b0 _ : Below wr.heap.size wr _).mono HBEL.out.size)⟩
        | true =>
          rw [hty] at HTY hR
          rw [if_neg (by simp)] at hR
          clear hty
          by_cases hy2 : y = 2
          · subst hy2
            rw [if_neg (by simp)] at hR
            by_cases hwi : 8 ≤ within
            · rw [if_pos hwi] at hR
              subst hR
              go_wp2_with (first | (go_at_call 151; refine (HTY.out _).mono ?_; rintro e wt ⟨rfl, hbt⟩; have hm := (BlkAt.made wr 47 #[.int .u64 (t : Int), .int .i64 2, .int .u64 (n : Int), .string s, .slice Ai i.len ci]).below hbt (by simp); have q1 := hm.cell 1; have q4 := hm.cell 4; simp at q1 q4))
              go_ret
              exact ⟨rfl, HBEL.out.trans ((bb (ba b0 _) hbt).mono HBEL.out.size)⟩
            rw [if_neg hwi] at hR
            have HSL : Hid (SlV wr I (.slice Ai i.len ci) i) := ⟨Ai, ci, rfl, HIN.out⟩
            generalize hE : fcheck i 0 (within + 1) = E at hR
            have HE := Lib.hid hE
            clear hE
            by_cases he : E = 0
            · subst he
              rw [if_neg (by simp)] at hR
              have HR2 := Lib.hid hR
              clear hR
              go_wp2_with (first | (go_at_call 151; refine (HTY.out _).mono ?_; rintro e wt ⟨rfl, hbt⟩; have hm := (BlkAt.made wr 47 #[.int .u64 (t : Int), .int .i64 2, .int .u64 (n : Int), .string s, .slice Ai i.len ci]).below hbt (by simp); have q1 := hm.cell 1; have q4 := hm.cell 4; simp at q1 q4) | (go_at_call 94; refine (IH.out Ai ci i I (within + 1) _ hic.1 (HSL.out.below (bb (ba b0 _) hbt)) HKI.out hic.2.1 (by omega)).mono ?_; rw [HE.out]; rintro e2 w2 ⟨rfl, hb2⟩))
              go_roundw
              case rel => exact ⟨k + 1, t, by omega, by go_num, rfl, by omega, HR2, HBEL.out.trans ((bb (bb (ba b0 _) hbt) hb2).mono HBEL.out.size)⟩
              case measure => simp [intOf]; omega
            · rw [if_pos he] at hR
              have hei : ((E : Int) != 0) = true := by rw [bne_iff_ne]; omega
              subst hR
              go_wp2_with (first | (go_at_call 151; refine (HTY.out _).mono ?_; rintro e wt ⟨rfl, hbt⟩; have hm := (BlkAt.made wr 47 #[.int .u64 (t : Int), .int .i64 2, .int .u64 (n : Int), .string s, .slice Ai i.len ci]).below hbt (by simp); have q1 := hm.cell 1; have q4 := hm.cell 4; simp at q1 q4) | (go_at_call 94; refine (IH.out Ai ci i I (within + 1) _ hic.1 (HSL.out.below (bb (ba b0 _) hbt)) HKI.out hic.2.1 (by omega)).mono ?_; rw [HE.out]; rintro e2 w2 ⟨rfl, hb2⟩))
              go_ret
              exact ⟨rfl, HBEL.out.trans ((bb (bb (ba b0 _) hbt) hb2).mono HBEL.out.size)⟩
          · rw [if_pos hy2] at hR
            have hyi : (y != 2) = true := by rw [bne_iff_ne]; exact hy2
            have HR2 := Lib.hid hR
            clear hR hy2
            go_wp2_with (first | (go_at_call 151; refine (HTY.out _).mono ?_; rintro e wt ⟨rfl, hbt⟩; have hm := (BlkAt.made wr 47 #[.int .u64 (t : Int), .int .i64 y, .int .u64 (n : Int), .string s, .slice Ai i.len ci]).below hbt (by simp); have q1 := hm.cell 1; have q4 := hm.cell 4; simp at q1 q4))
            go_roundw
            case rel => exact ⟨k + 1, t, by omega, by go_num, rfl, by omega, HR2, HBEL.out.trans ((bb (ba b0 _) hbt).mono HBEL.out.size)⟩
            case measure => simp [intOf]; omega
      · obtain rfl : k = f.len := by omega
        have hn : f.drop f.len = .nil := Fs.len_zero (by rw [Fs.drop_len]; omega)
        rw [hn, fcheck] at hR
        subst hR
        clear hR' hbel H0
        go_wp2_with fail
        go_ret
        exact ⟨rfl, HBEL.out⟩
theorem check_of (v : Value) (f : Fs) (I : Nat → Prop) (w : World) (hr : SlV w I v f) (hk : f.All FKd) (h60 : f.count ≤ 1000000) :
    Calls Tryz.prog 46 #[v] w fun e w' => e = .returned (.int .i64 (fcheck f 0 0 : Int)) ∧ Below w.heap.size w w' := by
  obtain ⟨A, c, rfl, hr'⟩ := hr
  have HC := Lib.hid (check_any8 f.count A c f I 0 w (Nat.le_refl _) ⟨A, c, rfl, hr'⟩ hk h60 (by omega))
  clear hr' hk
  generalize fcheck f 0 0 = E at HC ⊢
  go_enter Tryz.func46, Tryz.ntmps46
  go_wp2_with (first | (go_at_call 94; refine HC.out.mono ?_; rintro e wt ⟨rfl, hbt⟩))
  go_ret
  exact ⟨rfl, hbt⟩
end Go.Proofs.YtgidfnhfgiehjaaGreatDoor
end

section
namespace Go.PM
open Go.RowKit
theorem own_pop {w : World} {base : Nat} {e : TypeId} {size g n cap : Nat} {xs : List Value} (h : w.ownsRow base e size (.slice (some ⟨g, 0, none⟩) (n + 1) cap) (n + 1) xs) :
    w.ownsRow base e size (.slice (some ⟨g, 0, none⟩) n cap) n (xs.take (n * size)) := by
  have hle : n * size ≤ (n + 1) * size := Nat.mul_le_mul_right _ (by omega)
  refine ⟨by rw [List.length_take, h.1]; omega, ?_⟩
  rcases h.2 with ⟨h', _⟩ | ⟨g', cap', cur, h', hb, hg, hnc, hcm, hcs, htake⟩
  · simp at h'
  · simp only [Value.slice.injEq, Option.some.injEq, Addr.mk.injEq, and_true, true_and] at h'
    obtain ⟨rfl, rfl⟩ := h'
    refine .inr ⟨g, cap, cur, rfl, hb, hg, by omega, hcm, hcs, ?_⟩
    rw [← htake, List.take_take, Nat.min_eq_left hle]
theorem own_cap {w : World} {base : Nat} {e : TypeId} {size g n cap : Nat} {xs : List Value} (h : w.ownsRow base e size (.slice (some ⟨g, 0, none⟩) n cap) n xs) : n ≤ cap ∧ cap ≤ 9223372036854775807 := by
  rcases h.2 with ⟨h', _⟩ | ⟨g', cap', cur, h', hb, hg, hnc, hcm, hcs, htake⟩
  · simp at h'
  · simp only [Value.slice.injEq, Option.some.injEq, Addr.mk.injEq, and_true, true_and] at h'
    obtain ⟨rfl, rfl⟩ := h'
    exact ⟨hnc, by unfold maxLen at hcm; omega⟩
def WL (w : World) (I : Nat → Prop) (xs : List Value) (L : List Fs) : Prop := xs.length = L.length ∧ ∀ (j : Nat) (x : Value) (f : Fs), xs[j]? = some x → L[j]? = some f → SlV w I x f
theorem WL.nil {w : World} {I : Nat → Prop} : WL w I [] [] := ⟨rfl, fun j x f h => by simp at h⟩
theorem WL.push {w : World} {I : Nat → Prop} {xs : List Value} {L : List Fs} {x : Value} {f : Fs} (h : WL w I xs L) (hx : SlV w I x f) : WL w I (xs ++ [x]) (L ++ [f]) := by
  refine ⟨by simp [h.1], fun j y g hy hg => ?_⟩
  by_cases hj : j < xs.length
  · rw [List.getElem?_append_left hj] at hy
    rw [List.getElem?_append_left (by rw [← h.1]; exact hj)] at hg
    exact h.2 j y g hy hg
  · rw [List.getElem?_append_right (by omega)] at hy
    rw [List.getElem?_append_right (by rw [← h.1]; omega), ← h.1] at hg
    generalize j - xs.length = m at hy hg
    cases m with
    | zero => simp at hy hg; subst hy hg; exact hx
    | succ m => simp at hy
theorem WL.pop {w : World} {I : Nat → Prop} {xs : List Value} {L : List Fs} {n : Nat} (h : WL w I xs L) (hn : L.length = n + 1) :
    ∃ L' f x, L = L' ++ [f] ∧ L'.length = n ∧ xs[n]? = some x ∧ SlV w I x f ∧ WL w I (xs.take n) L' := by
  have hx : n < xs.length := by rw [h.1]; omega
  have hL : n < L.length := by omega
  refine ⟨L.take n, L[n], xs[n], ?_, by rw [List.length_take]; omega, List.getElem?_eq_getElem hx, h.2 n _ _ (List.getElem?_eq_getElem hx) (List.getElem?_eq_getElem hL), ?_⟩
  · have h1 := List.take_append_getElem hL
    rw [h1, List.take_of_length_le (by omega)]
  · refine ⟨by rw [List.length_take, List.length_take, h.1], fun j y g hy hg => ?_⟩
    rw [List.getElem?_take] at hy hg
    by_cases hj : j < n
    · rw [if_pos hj] at hy hg
      exact h.2 j y g hy hg
    · rw [if_neg hj] at hy
      cases hy
end Go.PM
end

section
namespace Go.PM
def lsum : List Fs → Nat
  | [] => 0
  | f :: L => f.count + lsum L
theorem lsum_app : ∀ (L M : List Fs), lsum (L ++ M) = lsum L + lsum M
  | [], M => by simp [lsum]
  | f :: L, M => by simp only [List.cons_append, lsum, lsum_app L M]; omega
def Fs.icount : Fs → Nat
  | .nil => 0
  | .cons _ _ _ _ i r => i.count + r.icount
theorem Fs.count_in : ∀ f : Fs, f.count = f.len + f.icount
  | .nil => rfl
  | .cons _ _ _ _ i r => by simp only [Fs.count, Fs.len, Fs.icount, Fs.count_in r]; omega
/-! ### Depth -/
def Fs.depth : Fs → Nat
  | .nil => 0
  | .cons _ y _ _ i r => if y = 2 ∨ 0 < i.len then max (1 + i.depth) r.depth else r.depth
def Fs.more : Fs → Bool
  | .nil => false
  | .cons _ y _ _ i r => decide (y = 2 ∨ 0 < i.len) || r.more
/-! ### Whether two lists are one -/
def Fs.same : Fs → Fs → Bool
  | .nil, .nil => true
  | .cons t y n s i r, .cons t' y' n' s' i' r' => decide (t = t' ∧ y = y' ∧ n = n' ∧ s = s') && (i.same i' && r.same r')
  | _, _ => false
theorem same_iff : ∀ f g : Fs, f.same g = true ↔ f = g
  | .nil, .nil => by simp [Fs.same]
  | .nil, .cons .. => by simp [Fs.same]
  | .cons .., .nil => by simp [Fs.same]
  | .cons t y n s i r, .cons t' y' n' s' i' r' => by
    have h1 := same_iff i i'
    have h2 := same_iff r r'
    simp only [Fs.same, Bool.and_eq_true, decide_eq_true_eq, h1, h2, Fs.cons.injEq, and_assoc]
theorem same_no {f g : Fs} (h : f ≠ g) : f.same g = false := by
  cases e : f.same g with
  | false => rfl
  | true => exact absurd ((same_iff f g).1 e) h
theorem same_len {f g : Fs} (h : f.len ≠ g.len) : f.same g = false := same_no fun e => h (by rw [e])
def lsame (L : List (Fs × Fs)) : Bool := L.all fun p => p.1.same p.2
end Go.PM
end

section
namespace Go.Proofs.YtgidfnhfgiehjaaGreatDoor
open Go.RowKit Go.PM
set_option maxRecDepth 100000
set_option maxHeartbeats 1000000
theorem info_fields : (Tryz.prog.info? 33).map (fun i => (i.zero, i.size, i.bytes)) = some (some (.slice none 0 0), 1, 24) := by kernel_rfl
end Go.Proofs.YtgidfnhfgiehjaaGreatDoor
end

section
namespace Go.Proofs.YtgidfnhfgiehjaaGreatDoor
open Go.RowKit Go.PM
set_option maxRecDepth 100000
set_option maxHeartbeats 4000000
def LvAt (base : Nat) (w0 : World) (I : Nat → Prop) (v : Value) (L : List Fs) (wr : World) : Prop :=
  ∃ xs : List Value, wr.ownsRow base 33 1 v L.length xs ∧ WL w0 I xs L
theorem LvAt.form {base : Nat} {w0 wr : World} {I : Nat → Prop} {v : Value} {L : List Fs} (h : LvAt base w0 I v L wr) : ∃ A c, v = .slice A L.length c := by
  obtain ⟨xs, h1, _⟩ := h
  obtain ⟨A, c, rfl, _⟩ := Rd.own h1
  exact ⟨A, c, rfl⟩
theorem LvAt.at_ {base : Nat} {w0 wr : World} {I : Nat → Prop} {A : Option Addr} {n c : Nat} {L : List Fs} (h : LvAt base w0 I (.slice A n c) L wr) {j : Nat} (hj : j < L.length) :
    ∃ g f x, A = some ⟨g, 0, none⟩ ∧ base ≤ g ∧ g < wr.heap.size ∧ L[j]? = some f ∧ wr.cell? ⟨g, j, none⟩ = some x ∧ SlV w0 I x f := by
  obtain ⟨xs, h1, h2⟩ := h
  obtain ⟨g, cap, hv, hb, hlt⟩ := h1.form (by omega)
  injection hv with e1 e2 e3
  subst e1 e2 e3
  have hx : j < xs.length := by rw [h2.1]; exact hj
  refine ⟨g, L[j], xs[j], rfl, hb, hlt, List.getElem?_eq_getElem hj, ?_, h2.2 j _ _ (List.getElem?_eq_getElem hx) (List.getElem?_eq_getElem hj)⟩
  have hc := h1.cellAt j (by omega)
  rw [hc, List.getElem?_eq_getElem hx]
theorem LvAt.below {base : Nat} {w0 wr w' : World} {I : Nat → Prop} {v : Value} {L : List Fs} (h : LvAt base w0 I v L wr) (hb : Below wr.heap.size wr w') : LvAt base w0 I v L w' := by
  obtain ⟨xs, h1, h2⟩ := h
  exact ⟨xs, own_below h1 hb, h2⟩
theorem LvAt.mono {base base' : Nat} {w0 wr : World} {I : Nat → Prop} {v : Value} {L : List Fs} (h : LvAt base w0 I v L wr) (hb : base' ≤ base) : LvAt base' w0 I v L wr := by
  obtain ⟨xs, ⟨h0, h1⟩, h2⟩ := h
  refine ⟨xs, ⟨h0, h1.imp id ?_⟩, h2⟩
  rintro ⟨g, cap, cur, e1, e2, e3⟩
  exact ⟨g, cap, cur, e1, by omega, e3⟩
end Go.Proofs.YtgidfnhfgiehjaaGreatDoor
end
