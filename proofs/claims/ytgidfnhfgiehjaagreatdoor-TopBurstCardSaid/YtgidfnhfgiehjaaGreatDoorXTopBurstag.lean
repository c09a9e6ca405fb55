/-
  Texts of the proof, joined: Shelf2 Pick1 PlainWire FCheckP RefFld RefFld2 RefFld3 FSame FSame2 RefFld4. Conditions: as each names.
-/
import Derived.Shelf.SlSortCmp.WholeK
import Derived.Shelf.SlSortCmp.NoneTotal
import Derived.Ground.SlsfProg
import Derived.Shelf.SlGeneric
import Derived.Shelf.SlicesE.Clone
import Derived.Ground.SlgnProg
import Derived.Test.YtgidfnhfgiehjaaGreatDoorProg
import Derived.Test.YtgidfnhfgiehjaaGreatDoorXTopBurstae
import Derived.Test.YtgidfnhfgiehjaaGreatDoorXTopBurstad
import Derived.Test.YtgidfnhfgiehjaaGreatDoorXTopBurstaf
import Derived.Test.YtgidfnhfgiehjaaGreatDoorXTopBurstaa

section
namespace Go.Proofs
open Go.Shelf
def Tryz.sortFld_ren : Go.Shelf.Ren := ⟨fun | 6 => 91 | 15 => 149 | 14 => 148 | 28 => 194 | 29 => 195 | 20 => 186 | 21 => 187 | 22 => 188 | 23 => 189 | 24 => 190 | 25 => 191 | 26 => 192 | 27 => 193 | 46 => 220 | 47 => 221 | 48 => 222 | 49 => 223 | 50 => 224 | 57 => 234 | n => n, fun | 22 => 33 | 24 => 47 | 25 => 172 | 3 => 3 | 39 => 142 | 0 => 0 | 53 => 52 | 55 => 22 | 4 => 4 | 46 => 275 | 45 => 274 | 50 => 233 | 5 => 5 | 9 => 9 | 66 => 300 | 70 => 304 | 76 => 314 | 77 => 315 | n => n, fun | n => n⟩
theorem Tryz.sortFld : Go.Proofs.SlLaysF0.n6 Tryz.prog Tryz.sortFld_ren := {
  mixed := by kernel_rfl
  f6 := ⟨Tryz.f91.name, by decide, Tryz.func91.trans (congrArg some (by kernel_rfl))⟩
  f14 := ⟨Tryz.f148.name, by decide, Tryz.func148.trans (congrArg some (by kernel_rfl))⟩
  f15 := Tryz.func149.trans (congrArg some (by kernel_rfl))
  f20 := ⟨Tryz.f186.name, by decide, Tryz.func186.trans (congrArg some (by kernel_rfl))⟩
  f21 := ⟨Tryz.f187.name, by decide, Tryz.func187.trans (congrArg some (by kernel_rfl))⟩
  f22 := ⟨Tryz.f188.name, by decide, Tryz.func188.trans (congrArg some (by kernel_rfl))⟩
  f23 := ⟨Tryz.f189.name, by decide, Tryz.func189.trans (congrArg some (by kernel_rfl))⟩
  f24 := ⟨Tryz.f190.name, by decide, Tryz.func190.trans (congrArg some (by kernel_rfl))⟩
  f25 := ⟨Tryz.f191.name, by decide, Tryz.func191.trans (congrArg some (by kernel_rfl))⟩
  f26 := ⟨Tryz.f192.name, by decide, Tryz.func192.trans (congrArg some (by kernel_rfl))⟩
  f27 := ⟨Tryz.f193.name, by decide, Tryz.func193.trans (congrArg some (by kernel_rfl))⟩
  f28 := Tryz.func194.trans (congrArg some (by kernel_rfl))
  f29 := Tryz.func195.trans (congrArg some (by kernel_rfl))
  f46 := ⟨Tryz.f220.name, by decide, Tryz.func220.trans (congrArg some (by kernel_rfl))⟩
  f47 := Tryz.func221.trans (congrArg some (by kernel_rfl))
  f48 := Tryz.func222.trans (congrArg some (by kernel_rfl))
  f49 := ⟨Tryz.f223.name, by decide, Tryz.func223.trans (congrArg some (by kernel_rfl))⟩
  f50 := ⟨Tryz.f224.name, by decide, Tryz.func224.trans (congrArg some (by kernel_rfl))⟩
  f57 := ⟨Tryz.f234.name, by decide, Tryz.func234.trans (congrArg some (by kernel_rfl))⟩
  t0 := Tryz.underlying0
  a0 := Tryz.isAgg0
  z0 := Tryz.sizeOf0
  v0 := Tryz.zeroValue0
  t3 := Tryz.underlying3
  a3 := Tryz.isAgg3
  z3 := Tryz.sizeOf3
  v3 := Tryz.zeroValue3
  t4 := Tryz.underlying4
  a4 := Tryz.isAgg4
  z4 := Tryz.sizeOf4
  v4 := Tryz.zeroValue4
  t5 := Tryz.underlying5
  a5 := Tryz.isAgg5
  z5 := Tryz.sizeOf5
  v5 := Tryz.zeroValue5
  t9 := Tryz.underlying9
  a9 := Tryz.isAgg9
  z9 := Tryz.sizeOf9
  v9 := Tryz.zeroValue9
  t22 := Tryz.underlying33
  a22 := Tryz.isAgg33
  z22 := Tryz.sizeOf33
  v22 := Tryz.zeroValue33
  t25 := Tryz.underlying172
  a25 := Tryz.isAgg172
  z25 := Tryz.sizeOf172
  v25 := Tryz.zeroValue172
  t39 := Tryz.underlying142
  a39 := Tryz.isAgg142
  z39 := Tryz.sizeOf142
  v39 := Tryz.zeroValue142
  t45 := Tryz.underlying274
  a45 := Tryz.isAgg274
  z45 := Tryz.sizeOf274
  v45 := Tryz.zeroValue274
  t46 := Tryz.underlying275
  a46 := Tryz.isAgg275
  z46 := Tryz.sizeOf275
  v46 := Tryz.zeroValue275
  t50 := Tryz.underlying233
  a50 := Tryz.isAgg233
  z50 := Tryz.sizeOf233
  v50 := Tryz.zeroValue233
  t53 := Tryz.underlying52
  a53 := Tryz.isAgg52
  z53 := Tryz.sizeOf52
  v53 := Tryz.zeroValue52
  t55 := Tryz.underlying22
  a55 := Tryz.isAgg22
  z55 := Tryz.sizeOf22
  v55 := Tryz.zeroValue22
  t66 := Tryz.underlying300
  a66 := Tryz.isAgg300
  z66 := Tryz.sizeOf300
  v66 := Tryz.zeroValue300
  t70 := Tryz.underlying304
  a70 := Tryz.isAgg304
  z70 := Tryz.sizeOf304
  v70 := Tryz.zeroValue304
  t76 := Tryz.underlying314
  a76 := Tryz.isAgg314
  z76 := Tryz.sizeOf314
  v76 := Tryz.zeroValue314
  t77 := Tryz.underlying315
  a77 := Tryz.isAgg315
  z77 := Tryz.sizeOf315
  v77 := Tryz.zeroValue315 }
def Tryz.sortEnt_ren : Go.Shelf.Ren := ⟨fun | 14 => 296 | 20 => 299 | 21 => 300 | 22 => 301 | 23 => 302 | 24 => 303 | 25 => 304 | 26 => 305 | 27 => 306 | 46 => 308 | 47 => 221 | 48 => 222 | 49 => 309 | 50 => 310 | 15 => 149 | 57 => 313 | 28 => 194 | 29 => 195 | n => n, fun | 24 => 132 | 22 => 23 | 3 => 3 | 25 => 359 | 4 => 4 | 0 => 0 | 46 => 275 | 45 => 274 | 50 => 233 | 66 => 300 | 39 => 142 | 55 => 22 | 70 => 304 | 76 => 314 | 77 => 315 | 53 => 52 | 5 => 5 | 9 => 9 | n => n, fun | n => n⟩
theorem Tryz.sortEnt : Go.Proofs.SlLaysF0.n14 Tryz.prog Tryz.sortEnt_ren := {
  mixed := by kernel_rfl
  f14 := ⟨Tryz.f296.name, by decide, Tryz.func296.trans (congrArg some (by kernel_rfl))⟩
  f15 := Tryz.func149.trans (congrArg some (by kernel_rfl))
  f20 := ⟨Tryz.f299.name, by decide, Tryz.func299.trans (congrArg some (by kernel_rfl))⟩
  f21 := ⟨Tryz.f300.name, by decide, Tryz.func300.trans (congrArg some (by kernel_rfl))⟩
  f22 := ⟨Tryz.f301.name, by decide, Tryz.func301.trans (congrArg some (by kernel_rfl))⟩
  f23 := ⟨Tryz.f302.name, by decide, Tryz.func302.trans (congrArg some (by kernel_rfl))⟩
  f24 := ⟨Tryz.f303.name, by decide, Tryz.func303.trans (congrArg some (by kernel_rfl))⟩
  f25 := ⟨Tryz.f304.name, by decide, Tryz.func304.trans (congrArg some (by kernel_rfl))⟩
  f26 := ⟨Tryz.f305.name, by decide, Tryz.func305.trans (congrArg some (by kernel_rfl))⟩
  f27 := ⟨Tryz.f306.name, by decide, Tryz.func306.trans (congrArg some (by kernel_rfl))⟩
  f28 := Tryz.func194.trans (congrArg some (by kernel_rfl))
  f29 := Tryz.func195.trans (congrArg some (by kernel_rfl))
  f46 := ⟨Tryz.f308.name, by decide, Tryz.func308.trans (congrArg some (by kernel_rfl))⟩
  f47 := Tryz.func221.trans (congrArg some (by kernel_rfl))
  f48 := Tryz.func222.trans (congrArg some (by kernel_rfl))
  f49 := ⟨Tryz.f309.name, by decide, Tryz.func309.trans (congrArg some (by kernel_rfl))⟩
  f50 := ⟨Tryz.f310.name, by decide, Tryz.func310.trans (congrArg some (by kernel_rfl))⟩
  f57 := ⟨Tryz.f313.name, by decide, Tryz.func313.trans (congrArg some (by kernel_rfl))⟩
  t0 := Tryz.underlying0
  a0 := Tryz.isAgg0
  z0 := Tryz.sizeOf0
  v0 := Tryz.zeroValue0
  t3 := Tryz.underlying3
  a3 := Tryz.isAgg3
  z3 := Tryz.sizeOf3
  v3 := Tryz.zeroValue3
  t4 := Tryz.underlying4
  a4 := Tryz.isAgg4
  z4 := Tryz.sizeOf4
  v4 := Tryz.zeroValue4
  t5 := Tryz.underlying5
  a5 := Tryz.isAgg5
  z5 := Tryz.sizeOf5
  v5 := Tryz.zeroValue5
  t9 := Tryz.underlying9
  a9 := Tryz.isAgg9
  z9 := Tryz.sizeOf9
  v9 := Tryz.zeroValue9
  t22 := Tryz.underlying23
  a22 := Tryz.isAgg23
  z22 := Tryz.sizeOf23
  v22 := Tryz.zeroValue23
  t25 := Tryz.underlying359
  a25 := Tryz.isAgg359
  z25 := Tryz.sizeOf359
  v25 := Tryz.zeroValue359
  t39 := Tryz.underlying142
  a39 := Tryz.isAgg142
  z39 := Tryz.sizeOf142
  v39 := Tryz.zeroValue142
  t45 := Tryz.underlying274
  a45 := Tryz.isAgg274
  z45 := Tryz.sizeOf274
  v45 := Tryz.zeroValue274
  t46 := Tryz.underlying275
  a46 := Tryz.isAgg275
  z46 := Tryz.sizeOf275
  v46 := Tryz.zeroValue275
  t50 := Tryz.underlying233
  a50 := Tryz.isAgg233
  z50 := Tryz.sizeOf233
  v50 := Tryz.zeroValue233
  t53 := Tryz.underlying52
  a53 := Tryz.isAgg52
  z53 := Tryz.sizeOf52
  v53 := Tryz.zeroValue52
  t55 := Tryz.underlying22
  a55 := Tryz.isAgg22
  z55 := Tryz.sizeOf22
  v55 := Tryz.zeroValue22
  t66 := Tryz.underlying300
  a66 := Tryz.isAgg300
  z66 := Tryz.sizeOf300
  v66 := Tryz.zeroValue300
  t70 := Tryz.underlying304
  a70 := Tryz.isAgg304
  z70 := Tryz.sizeOf304
  v70 := Tryz.zeroValue304
  t76 := Tryz.underlying314
  a76 := Tryz.isAgg314
  z76 := Tryz.sizeOf314
  v76 := Tryz.zeroValue314
  t77 := Tryz.underlying315
  a77 := Tryz.isAgg315
  z77 := Tryz.sizeOf315
  v77 := Tryz.zeroValue315 }
def Tryz.cloneEnt_ren : Go.Shelf.Ren := ⟨fun | 41 => 287 | n => n, fun | 22 => 23 | 23 => 132 | 4 => 4 | n => n, fun | n => n⟩
theorem Tryz.cloneEnt : Go.Proofs.SlLaysE0.n41 Tryz.prog Tryz.cloneEnt_ren := {
  mixed := by kernel_rfl
  f41 := ⟨Tryz.f287.name, by decide, Tryz.func287.trans (congrArg some (by kernel_rfl))⟩
  t4 := Tryz.underlying4
  a4 := Tryz.isAgg4
  z4 := Tryz.sizeOf4
  v4 := Tryz.zeroValue4
  t22 := Tryz.underlying23
  a22 := Tryz.isAgg23
  z22 := Tryz.sizeOf23
  v22 := Tryz.zeroValue23 }
def Tryz.cloneDsc_ren : Go.Shelf.Ren := ⟨fun | 41 => 137 | n => n, fun | 22 => 24 | 23 => 132 | 4 => 4 | n => n, fun | n => n⟩
theorem Tryz.cloneDsc : Go.Proofs.SlLaysE0.n41 Tryz.prog Tryz.cloneDsc_ren := {
  mixed := by kernel_rfl
  f41 := ⟨Tryz.f137.name, by decide, Tryz.func137.trans (congrArg some (by kernel_rfl))⟩
  t4 := Tryz.underlying4
  a4 := Tryz.isAgg4
  z4 := Tryz.sizeOf4
  v4 := Tryz.zeroValue4
  t22 := Tryz.underlying24
  a22 := Tryz.isAgg24
  z22 := Tryz.sizeOf24
  v22 := Tryz.zeroValue24 }
end Go.Proofs
end

section
namespace Go.Proofs.YtgidfnhfgiehjaaGreatDoor
open Go.RowKit Go.PM Go.Sort
set_option maxRecDepth 100000
set_option maxHeartbeats 1000000
attribute [local go_sem ↓] Go.wp_at_zero Go.wp_at_succ
theorem isnan_any (n : Int) (w : World) : Calls Tryz.prog 150 #[.int .u64 n] w fun e w' => e = .returned (.bool false) ∧ w' = w := by
  go_enter Tryz.func150, Tryz.ntmps150
  go_wp2
  go_ret
  exact ⟨rfl, rfl⟩
/-- How two numbers stand. -/
def cmpN (x y : Nat) : Int := if x < y then -1 else if y < x then 1 else 0
theorem compare_any (x y : Nat) (w : World) : Calls Tryz.prog 93 #[.int .u64 (x : Int), .int .u64 (y : Int)] w fun e w' => e = .returned (.int .i64 (cmpN x y)) ∧ w' = w := by
  have HN : Hid (∀ (n : Int) (v : World), Calls Tryz.prog 150 #[.int .u64 n] v fun e w' => e = .returned (.bool false) ∧ w' = v) := isnan_any
  unfold cmpN
  by_cases h1 : x < y
  · rw [if_pos h1]
    have i1 : decide ((x : Int) < (y : Int)) = true := decide_eq_true (by omega)
    have j1 : decide (x < y) = true := decide_eq_true h1
    go_enter Tryz.func93, Tryz.ntmps93
    go_wp2_with (go_at_call 150; refine (HN.out _ _).mono ?_; rintro e w' ⟨rfl, rfl⟩)
    go_ret
    exact ⟨rfl, rfl⟩
  · rw [if_neg h1]
    have i1 : decide ((x : Int) < (y : Int)) = false := decide_eq_false (by omega)
    have j1 : decide (x < y) = false := decide_eq_false h1
    by_cases h2 : y < x
    · rw [if_pos h2]
      have i2 : decide ((y : Int) < (x : Int)) = true := decide_eq_true (by omega)
      have j2 : decide (y < x) = true := decide_eq_true h2
      go_enter Tryz.func93, Tryz.ntmps93
      go_wp2_with (go_at_call 150; refine (HN.out _ _).mono ?_; rintro e w' ⟨rfl, rfl⟩)
      go_ret
      exact ⟨rfl, rfl⟩
    · rw [if_neg h2]
      have i2 : decide ((y : Int) < (x : Int)) = false := decide_eq_false (by omega)
      have j2 : decide (y < x) = false := decide_eq_false h2
      go_enter Tryz.func93, Tryz.ntmps93
      go_wp2_with (go_at_call 150; refine (HN.out _ _).mono ?_; rintro e w' ⟨rfl, rfl⟩)
      go_ret
      exact ⟨rfl, rfl⟩
/-- A field, and where its own fields lie. -/
structure Fv where
  fl : Fl
  A : Option Addr
  c : Nat
instance : Inhabited Fv := ⟨⟨⟨0, 0, 0, ByteArray.empty, .nil⟩, none, 0⟩⟩
def encF (a : Fv) : List Value := [.int .u64 (a.fl.tag : Int), .int .i64 a.fl.ty, .int .u64 (a.fl.num : Int), .string a.fl.text, .slice a.A a.fl.inner.len a.c]
theorem encF_len (a : Fv) : (encF a).length = 5 := rfl
theorem encF_one (a : Fv) : ∀ v ∈ encF a, v.oneCell' = true := by
  intro v hv
  simp only [encF, List.mem_cons, List.not_mem_nil, or_false] at hv
  rcases hv with rfl | rfl | rfl | rfl | rfl <;> rfl
theorem cls_rows {w : World} {I : Nat → Prop} : ∀ {xs : List Value} {f : Fs}, Cls w I xs f → ∃ l : List Fv, xs = l.flatMap encF ∧ f = ofL (l.map Fv.fl) ∧ ∀ a ∈ l, SlV w I (.slice a.A a.fl.inner.len a.c) a.fl.inner
  | [], .nil, _ => ⟨[], rfl, rfl, by simp⟩
  | a :: b :: c :: d :: v :: xs, .cons t y n s i r, h => by
    obtain ⟨rfl, rfl, rfl, rfl, hs, hr⟩ := h
    obtain ⟨l, h1, h2, h3⟩ := cls_rows hr
    have hs2 := hs
    obtain ⟨A, cp, rfl, _⟩ := hs2
    refine ⟨⟨⟨t, y, n, s, i⟩, A, cp⟩ :: l, by rw [List.flatMap_cons, ← h1]; rfl, by rw [List.map_cons, ofL, ← h2], fun x hx => ?_⟩
    rcases List.mem_cons.1 hx with rfl | hx
    · exact hs
    · exact h3 x hx
  | [], .cons .., h => h.elim
  | _ :: _, .nil, h => by simp [Cls] at h
  | [_], .cons .., h => by simp [Cls] at h
  | [_, _], .cons .., h => by simp [Cls] at h
  | [_, _, _], .cons .., h => by simp [Cls] at h
  | [_, _, _, _], .cons .., h => by simp [Cls] at h
theorem rows_cls {w : World} {I : Nat → Prop} : ∀ l : List Fv, (∀ a ∈ l, SlV w I (.slice a.A a.fl.inner.len a.c) a.fl.inner) → Cls w I (l.flatMap encF) (ofL (l.map Fv.fl))
  | [], _ => trivial
  | a :: r, h => ⟨rfl, rfl, rfl, rfl, h a (by simp), rows_cls r fun x hx => h x (by simp [hx])⟩
theorem mcmp_any (x y : Fv) (W : World) : Calls Tryz.prog 92 #[.agg (encF x).toArray, .agg (encF y).toArray] W fun e w' => e = .returned (.int .i64 (cmpN x.fl.tag y.fl.tag)) ∧ ∃ q os', w' = grow (W.drewN q) os' := by
  have HC : Hid (∀ v : World, Calls Tryz.prog 93 #[.int .u64 (x.fl.tag : Int), .int .u64 (y.fl.tag : Int)] v fun e w' => e = .returned (.int .i64 (cmpN x.fl.tag y.fl.tag)) ∧ w' = v) := compare_any _ _
  show Calls _ _ #[.agg #[.int .u64 (x.fl.tag : Int), .int .i64 x.fl.ty, .int .u64 (x.fl.num : Int), .string x.fl.text, .slice x.A x.fl.inner.len x.c], .agg #[.int .u64 (y.fl.tag : Int), .int .i64 y.fl.ty, .int .u64 (y.fl.num : Int), .string y.fl.text, .slice y.A y.fl.inner.len y.c]] W _
  generalize cmpN x.fl.tag y.fl.tag = r at *
  go_enter Tryz.func92, Tryz.ntmps92
  go_wp2_with (go_at_call 93; refine (HC.out _).mono ?_; rintro e w' ⟨rfl, rfl⟩)
  go_ret
  exact ⟨rfl, 0, _, by rw [alloc_eq_grow, alloc_eq_grow, grow_grow]; rfl⟩
theorem ltOf_tag (x y : Fv) : ltOf (fun x y : Fv => cmpN x.fl.tag y.fl.tag) x y = decide (x.fl.tag < y.fl.tag) := by
  unfold ltOf cmpN
  by_cases h1 : x.fl.tag < y.fl.tag
  · simp [h1]
  · by_cases h2 : y.fl.tag < x.fl.tag <;> simp [h1, h2]
theorem swo_tag : SWO (ltOf fun x y : Fv => cmpN x.fl.tag y.fl.tag) where
  irrefl x := by rw [ltOf_tag]; simp
  trans x y z h1 h2 := by rw [ltOf_tag] at *; simp at *; omega
  ntrans x y z h1 h2 := by rw [ltOf_tag] at *; simp at *; omega
/-- What the sort leaves. -/
def SortEnd (w : World) (base g cap : Nat) (J : Nat → Prop) (F : Fs) (e : Ending) (w' : World) : Prop :=
  e = .returned (.tuple #[]) ∧ ∃ (l l' : List Fl) (xs' : List Value), F = ofL l ∧ l.Perm l' ∧ l'.Pairwise (fun a b => a.tag ≤ b.tag) ∧ w'.ownsRow base 47 5 (.slice (some ⟨g, 0, none⟩) F.len cap) F.len xs' ∧ Cls w' J xs' (ofL l') ∧ w.grownBy w' (some g)
theorem sort_any {w : World} {base g cap : Nat} {F : Fs} {xs : List Value} {J : Nat → Prop} (hown : w.ownsRow base 47 5 (.slice (some ⟨g, 0, none⟩) F.len cap) F.len xs) (hc : Cls w J xs F) (hJ : ∀ k, J k → k ≠ g) (hF : F.len ≤ 1000000) :
    Calls Tryz.prog 91 #[.slice (some ⟨g, 0, none⟩) F.len cap, .func (.func 92) #[] #[]] w (SortEnd w base g cap J F) := by
  obtain ⟨l, hx, hf, hs⟩ := cls_rows hc
  have hll : l.length = F.len := by rw [hf, ofL_len, List.length_map]
  have hdl : l.toArray.size = F.len := by simpa using hll
  obtain ⟨hH, hg, hbg⟩ := holdsK_own (enc := encF) (k := 5) encF_len (by decide) l.toArray hdl hown (by simpa using hx)
  have eg : ∀ args w, (callFunc 92 args).run Tryz.prog w = .ok (.enter 92 args) w := enters_of Tryz.func92 (by kernel_rfl) rfl
  have hcon := AnyQ.slices_SortFunc Tryz.sortFld 5 Tryz.isAgg47 Tryz.sizeOf47 encF encF_len encF_one (fun x y => cmpN x.fl.tag y.fl.tag) swo_tag 92 #[] g 0 cap l.toArray w eg
    (fun _ _ _ _ x y => mcmp_any x y _) hH hg (by omega)
  rw [hdl] at hcon
  change Calls Tryz.prog 91 _ _ _ at hcon
  refine hcon.mono ?_
  rintro e w' ⟨rfl, d', n, os, hp, hso, rfl⟩
  rw [← hdl] at hp
  have hp2 := permIn_all hp
  have hsz : d'.size = F.len := by rw [hp.1, hdl]
  have hs2 := sortedIn_all hso hsz
  have hgr := grownBy_sortedK (enc := encF) (k := 5) (w := w) (g := g) (m := n) (os := os) d'
  refine ⟨rfl, l.map Fv.fl, d'.toList.map Fv.fl, _, hf, (by simpa using hp2 : l.Perm d'.toList).map _, ?_, own_sortedK encF_len (by decide) d' hsz hown, ?_, hgr⟩
  · rw [List.pairwise_map]
    refine hs2.imp fun h => ?_
    rw [ltOf_tag] at h
    simpa using h
  · refine Cls.tch (S := fun k => some g = some k) (rows_cls _ fun a ha => ?_) (Tch.grown hgr fun k hk _ => hk) fun k hk e => hJ k hk (by injection e with e; exact e.symm)
    exact hs a ((by simpa using hp2 : l.Perm d'.toList).mem_iff.2 ha)
end Go.Proofs.YtgidfnhfgiehjaaGreatDoor
end

section
namespace Go.PM
/-- Fields that may be, as they are written. -/
def ftx : Fs → List UInt8
  | .nil => []
  | .cons t y n s i r => vput (4 * t + y.toNat) ++ ((if y = 0 then vput n else if y = 1 then vput s.size ++ s.data.toList else vput (ftx i).length ++ ftx i) ++ ftx r)
theorem ftx_app : ∀ f g : Fs, ftx (f.app g) = ftx f ++ ftx g
  | .nil, g => rfl
  | .cons t y n s i r, g => by simp only [Fs.app, ftx, ftx_app r g, List.append_assoc]
/-- A head's tag; the last one's tag. -/
def Fs.tag : Fs → Nat
  | .nil => 0
  | .cons t _ _ _ _ _ => t
def Fs.last : Fs → Nat → Nat
  | .nil, l => l
  | .cons t _ _ _ _ r, _ => r.last t
/-- Fields that may be, above a tag, within so many lists: as a fact. -/
def fcheckP : Fs → Nat → Nat → Prop
  | .nil, _, _ => True
  | .cons t y n s i r, ahead, within => (ahead < t ∧ 0 < t ∧ t ≤ 4294967296 ∧ In64 n ∧ (y = 0 ∧ s = ByteArray.empty ∧ i = .nil ∨ y = 1 ∧ n = 0 ∧ i = .nil ∧ s.size ≤ 9223372036854775807 ∨ y = 2 ∧ n = 0 ∧ s = ByteArray.empty ∧ within < 8 ∧ fcheckP i 0 (within + 1))) ∧ fcheckP r t within
/-- The field that a text begins with, where the text of a list reads so: the field, how many bytes, the code. -/
def fone (rec : List UInt8 → Fs × Nat) (s : List UInt8) (deep last : Nat) : Fs × Nat × Nat :=
  if (vget s).2.2 ≠ 0 then (.nil, 0, (vget s).2.2)
  else if (vget s).1 / 4 = 0 ∨ 4294967296 < (vget s).1 / 4 then (.nil, 0, 18)
  else if (vget s).1 % 4 = 3 then (.nil, 0, 8)
  else if (vget s).1 / 4 ≤ last then (.nil, 0, 7)
  else if (vget (s.drop (vget s).2.1)).2.2 ≠ 0 then (.nil, 0, (vget (s.drop (vget s).2.1)).2.2)
  else if (vget s).1 % 4 = 0 then (.cons ((vget s).1 / 4) 0 (vget (s.drop (vget s).2.1)).1 ByteArray.empty .nil .nil, (vget s).2.1 + (vget (s.drop (vget s).2.1)).2.1, 0)
  else if s.length - ((vget s).2.1 + (vget (s.drop (vget s).2.1)).2.1) < (vget (s.drop (vget s).2.1)).1 then (.nil, 0, 1)
  else if (vget s).1 % 4 = 1 then (.cons ((vget s).1 / 4) 1 0 (txt ((s.drop ((vget s).2.1 + (vget (s.drop (vget s).2.1)).2.1)).take (vget (s.drop (vget s).2.1)).1)) .nil .nil, (vget s).2.1 + (vget (s.drop (vget s).2.1)).2.1 + (vget (s.drop (vget s).2.1)).1, 0)
  else if deep = 8 then (.nil, 0, 9)
  else if (rec ((s.drop ((vget s).2.1 + (vget (s.drop (vget s).2.1)).2.1)).take (vget (s.drop (vget s).2.1)).1)).2 ≠ 0 then (.nil, 0, (rec ((s.drop ((vget s).2.1 + (vget (s.drop (vget s).2.1)).2.1)).take (vget (s.drop (vget s).2.1)).1)).2)
  else (.cons ((vget s).1 / 4) 2 0 ByteArray.empty (rec ((s.drop ((vget s).2.1 + (vget (s.drop (vget s).2.1)).2.1)).take (vget (s.drop (vget s).2.1)).1)).1 .nil, (vget s).2.1 + (vget (s.drop (vget s).2.1)).2.1 + (vget (s.drop (vget s).2.1)).1, 0)
/-- One, and the others behind it. -/
def fthen (f : Fs) (q : Fs × Nat) : Fs × Nat := if q.2 ≠ 0 then (.nil, q.2) else (f.app q.1, 0)
theorem fthen_ok {f : Fs} {q : Fs × Nat} (h : (fthen f q).2 = 0) : q.2 = 0 ∧ fthen f q = (f.app q.1, 0) := by
  unfold fthen at h ⊢
  by_cases e : q.2 ≠ 0
  · rw [if_pos e] at h; exact absurd h e
  · rw [if_neg e]; exact ⟨Classical.not_not.1 e, rfl⟩
theorem fthen_err {f : Fs} {q : Fs × Nat} (h : q.2 ≠ 0) : fthen f q = (.nil, q.2) := by unfold fthen; rw [if_pos h]
theorem fthen_yes {f : Fs} {q : Fs × Nat} (h : q.2 = 0) : fthen f q = (f.app q.1, 0) := by unfold fthen; rw [if_neg (by rw [h]; simp)]
def fgetN : Nat → List UInt8 → Nat → Nat → Fs × Nat
  | 0, _, _, _ => (.nil, 0)
  | N + 1, s, deep, last =>
    if s.length = 0 then (.nil, 0)
    else if (fone (fun t => fgetN N t (deep + 1) 0) s deep last).2.2 ≠ 0 then (.nil, (fone (fun t => fgetN N t (deep + 1) 0) s deep last).2.2)
    else fthen (fone (fun t => fgetN N t (deep + 1) 0) s deep last).1 (fgetN N (s.drop (fone (fun t => fgetN N t (deep + 1) 0) s deep last).2.1) deep (fone (fun t => fgetN N t (deep + 1) 0) s deep last).1.tag)
/-- The fields that a text is. -/
def fget (s : List UInt8) (deep last : Nat) : Fs × Nat := fgetN s.length s deep last
/-- The field that a text begins with. -/
def ffirst (s : List UInt8) (deep last : Nat) : Fs × Nat × Nat := fone (fun t => fget t (deep + 1) 0) s deep last
theorem fone_congr {rec rec' : List UInt8 → Fs × Nat} {s : List UInt8} (deep last : Nat) (h : ∀ t : List UInt8, t.length + 2 ≤ s.length → rec t = rec' t) : fone rec s deep last = fone rec' s deep last := by
  unfold fone
  by_cases h1 : (vget s).2.2 ≠ 0
  · rw [if_pos h1, if_pos h1]
  rw [if_neg h1, if_neg h1]
  have o1 := vget_ok (Classical.not_not.1 h1)
  by_cases h2 : (vget s).1 / 4 = 0 ∨ 4294967296 < (vget s).1 / 4
  · rw [if_pos h2, if_pos h2]
  rw [if_neg h2, if_neg h2]
  by_cases h3 : (vget s).1 % 4 = 3
  · rw [if_pos h3, if_pos h3]
  rw [if_neg h3, if_neg h3]
  by_cases h4 : (vget s).1 / 4 ≤ last
  · rw [if_pos h4, if_pos h4]
  rw [if_neg h4, if_neg h4]
  by_cases h5 : (vget (s.drop (vget s).2.1)).2.2 ≠ 0
  · rw [if_pos h5, if_pos h5]
  rw [if_neg h5, if_neg h5]
  have o2 := vget_ok (Classical.not_not.1 h5)
  rw [List.length_drop] at o2
  rw [h ((s.drop ((vget s).2.1 + (vget (s.drop (vget s).2.1)).2.1)).take (vget (s.drop (vget s).2.1)).1) (by rw [List.length_take, List.length_drop]; omega)]
/-- What a field that was read is. -/
theorem fone_ok {rec : List UInt8 → Fs × Nat} {s : List UInt8} {deep last : Nat} (h : (fone rec s deep last).2.2 = 0) :
    ∃ (t : Nat) (y : Int) (n : Nat) (x : ByteArray) (i : Fs) (k : Nat), fone rec s deep last = (.cons t y n x i .nil, k, 0) ∧ 2 ≤ k ∧ k ≤ s.length ∧ last < t ∧ 0 < t ∧ t ≤ 4294967296 ∧ In64 n ∧
      (y = 0 ∧ x = ByteArray.empty ∧ i = .nil ∧ s.take k = vput (4 * t) ++ vput n ∨
       y = 1 ∧ n = 0 ∧ i = .nil ∧ x.size ≤ s.length ∧ s.take k = vput (4 * t + 1) ++ (vput x.size ++ x.data.toList) ∨
       y = 2 ∧ n = 0 ∧ x = ByteArray.empty ∧ deep ≠ 8 ∧ ∃ u : List UInt8, u.length + 2 ≤ s.length ∧ rec u = (i, 0) ∧ s.take k = vput (4 * t + 2) ++ (vput u.length ++ u)) := by
  unfold fone at h ⊢
  by_cases h1 : (vget s).2.2 ≠ 0
  · rw [if_pos h1] at h; exact absurd h h1
  rw [if_neg h1] at h ⊢
  obtain ⟨a1, a2, _, a3, a4⟩ := vget_ok (Classical.not_not.1 h1)
  by_cases h2 : (vget s).1 / 4 = 0 ∨ 4294967296 < (vget s).1 / 4
  · rw [if_pos h2] at h; exact absurd h (by simp)
  rw [if_neg h2] at h ⊢
  by_cases h3 : (vget s).1 % 4 = 3
  · rw [if_pos h3] at h; exact absurd h (by simp)
  rw [if_neg h3] at h ⊢
  by_cases h4 : (vget s).1 / 4 ≤ last
  · rw [if_pos h4] at h; exact absurd h (by simp)
  rw [if_neg h4] at h ⊢
  by_cases h5 : (vget (s.drop (vget s).2.1)).2.2 ≠ 0
  · rw [if_pos h5] at h; exact absurd h h5
  rw [if_neg h5] at h ⊢
  obtain ⟨b1, b2, _, b3, b4⟩ := vget_ok (Classical.not_not.1 h5)
  generalize hn : (vget s).1 = n at *
  generalize hk : (vget s).2.1 = k at *
  generalize hm : (vget (s.drop k)).1 = m at *
  generalize hj : (vget (s.drop k)).2.1 = j at *
  rw [List.length_drop] at b2
  have htk : ∀ e, s.take (k + j + e) = vput n ++ (vput m ++ (s.drop (k + j)).take e) := fun e => by
    rw [List.take_add, List.take_add, ← a4, ← b4, List.append_assoc]
  by_cases h6 : n % 4 = 0
  · rw [if_pos h6] at h ⊢
    refine ⟨_, _, _, _, _, _, rfl, by omega, by omega, by omega, by omega, by omega, b3, .inl ⟨rfl, rfl, rfl, ?_⟩⟩
    have := htk 0
    simp only [Nat.add_zero, List.take_zero, List.append_nil] at this
    rw [this, show 4 * (n / 4) = n by omega]
  rw [if_neg h6] at h ⊢
  by_cases h7 : s.length - (k + j) < m
  · rw [if_pos h7] at h; exact absurd h (by simp)
  rw [if_neg h7] at h ⊢
  have htl : ((s.drop (k + j)).take m).length = m := by rw [List.length_take, List.length_drop]; omega
  by_cases h8 : n % 4 = 1
  · rw [if_pos h8] at h ⊢
    refine ⟨_, _, _, _, _, _, rfl, by omega, by omega, by omega, by omega, by omega, by unfold In64; omega, .inr (.inl ⟨rfl, rfl, rfl, by rw [txt_size, htl]; omega, ?_⟩)⟩
    rw [htk m, txt_size, txt_list, htl, show 4 * (n / 4) + 1 = n by omega]
  rw [if_neg h8] at h ⊢
  by_cases h9 : deep = 8
  · rw [if_pos h9] at h; exact absurd h (by simp)
  rw [if_neg h9] at h ⊢
  by_cases h10 : (rec ((s.drop (k + j)).take m)).2 ≠ 0
  · rw [if_pos h10] at h; exact absurd h h10
  rw [if_neg h10] at h ⊢
  refine ⟨_, _, _, _, _, _, rfl, by omega, by omega, by omega, by omega, by omega, by unfold In64; omega, .inr (.inr ⟨rfl, rfl, rfl, h9, (s.drop (k + j)).take m, by rw [htl]; omega, ?_, ?_⟩)⟩
  · exact Prod.ext rfl (Classical.not_not.1 h10)
  · rw [htk m, htl, show 4 * (n / 4) + 2 = n by omega]
theorem fgetN_more : ∀ (N : Nat) (s : List UInt8) (deep last : Nat), s.length ≤ N → fgetN (N + 1) s deep last = fgetN N s deep last
  | 0, s, deep, last, h => by
    have : s.length = 0 := by omega
    simp [fgetN, this]
  | N + 1, s, deep, last, h => by
    rw [fgetN.eq_def (N + 1 + 1), fgetN.eq_def (N + 1)]
    simp only []
    by_cases h0 : s.length = 0
    · rw [if_pos h0, if_pos h0]
    rw [if_neg h0, if_neg h0]
    have e : fone (fun t => fgetN (N + 1) t (deep + 1) 0) s deep last = fone (fun t => fgetN N t (deep + 1) 0) s deep last := fone_congr deep last fun t ht => fgetN_more N t _ _ (by omega)
    rw [e]
    by_cases h1 : (fone (fun t => fgetN N t (deep + 1) 0) s deep last).2.2 ≠ 0
    · rw [if_pos h1, if_pos h1]
    rw [if_neg h1, if_neg h1]
    obtain ⟨t, y, n, x, i, k, hf, hk, hks, _⟩ := fone_ok (Classical.not_not.1 h1)
    rw [hf]
    show fthen _ (fgetN (N + 1) (s.drop k) deep t) = fthen _ (fgetN N (s.drop k) deep t)
    rw [fgetN_more N (s.drop k) deep t (by rw [List.length_drop]; omega)]
theorem fgetN_big {N : Nat} {s : List UInt8} (deep last : Nat) (h : s.length ≤ N) : fgetN N s deep last = fget s deep last := by
  unfold fget
  obtain ⟨d, rfl⟩ := Nat.le.dest h
  clear h
  induction d with
  | zero => rfl
  | succ d ih => rw [← Nat.add_assoc, fgetN_more _ _ _ _ (by omega), ih]
theorem fget_nil (deep last : Nat) : fget [] deep last = (.nil, 0) := rfl
/-- One field, and the others. -/
theorem fget_err {s : List UInt8} {deep last : Nat} (h : s.length ≠ 0) (h1 : (ffirst s deep last).2.2 ≠ 0) : fget s deep last = (.nil, (ffirst s deep last).2.2) := by
  obtain ⟨N, hN⟩ : ∃ N, s.length = N + 1 := ⟨s.length - 1, by omega⟩
  have e : fone (fun t => fgetN N t (deep + 1) 0) s deep last = ffirst s deep last := fone_congr deep last fun t ht => fgetN_big _ _ (by omega)
  unfold fget
  rw [hN, fgetN, if_neg h, e, if_pos h1]
theorem fget_step {s : List UInt8} {deep last : Nat} (h : s.length ≠ 0) (h1 : (ffirst s deep last).2.2 = 0) :
    fget s deep last = fthen (ffirst s deep last).1 (fget (s.drop (ffirst s deep last).2.1) deep (ffirst s deep last).1.tag) := by
  obtain ⟨N, hN⟩ : ∃ N, s.length = N + 1 := ⟨s.length - 1, by omega⟩
  have e : fone (fun t => fgetN N t (deep + 1) 0) s deep last = ffirst s deep last := fone_congr deep last fun t ht => fgetN_big _ _ (by omega)
  obtain ⟨t, y, n, x, i, k, hf, hk, hks, _⟩ := fone_ok (show (fone (fun t => fget t (deep + 1) 0) s deep last).2.2 = 0 from h1)
  have hf' : ffirst s deep last = (.cons t y n x i .nil, k, 0) := hf
  have hu : fget s deep last = fgetN (N + 1) s deep last := by rw [← hN]; rfl
  rw [hu, fgetN, if_neg h, e, if_neg (by rw [h1]; simp), hf']
  show fthen _ (fgetN N (s.drop k) deep t) = fthen _ (fget (s.drop k) deep t)
  rw [fgetN_big _ _ (by rw [List.length_drop]; omega)]
/-- What is read may be, and is written so. -/
theorem fget_ok : ∀ (N : Nat) (s : List UInt8) (deep last : Nat), s.length ≤ N → deep ≤ 8 → s.length ≤ 1000000 → (fget s deep last).2 = 0 → ftx (fget s deep last).1 = s ∧ fcheckP (fget s deep last).1 last deep ∧ (fget s deep last).1.count ≤ s.length
  | N, s, deep, last, hN, hd, hs, h => by
    by_cases h0 : s.length = 0
    · obtain rfl : s = [] := List.eq_nil_of_length_eq_zero h0
      rw [fget_nil]
      exact ⟨rfl, trivial, Nat.le_refl _⟩
    by_cases h1 : (ffirst s deep last).2.2 ≠ 0
    · rw [fget_err h0 h1] at h; exact absurd h h1
    have h1' := Classical.not_not.1 h1
    rw [fget_step h0 h1'] at h ⊢
    obtain ⟨t, y, n, x, i, k, hf, hk, hks, ht, ht0, ht1, hn, hor⟩ := fone_ok (show (fone (fun t => fget t (deep + 1) 0) s deep last).2.2 = 0 from h1')
    have hf' : ffirst s deep last = (.cons t y n x i .nil, k, 0) := hf
    rw [hf'] at h ⊢
    have h3 : (fthen (.cons t y n x i .nil) (fget (s.drop k) deep t)).2 = 0 := h
    show ftx (fthen (.cons t y n x i .nil) (fget (s.drop k) deep t)).1 = s ∧ fcheckP (fthen (.cons t y n x i .nil) (fget (s.drop k) deep t)).1 last deep ∧ (fthen (.cons t y n x i .nil) (fget (s.drop k) deep t)).1.count ≤ s.length
    obtain ⟨h2, h4⟩ := fthen_ok h3
    rw [h4]
    clear h h3 h4
    match N, hN with
    | 0, hN => omega
    | N + 1, hN =>
      obtain ⟨g1, g2, g3⟩ := fget_ok N (s.drop k) deep t (by rw [List.length_drop]; omega) hd (by rw [List.length_drop]; omega) h2
      generalize (fget (s.drop k) deep t).1 = r at *
      rw [List.length_drop] at g3
      have hse : s = s.take k ++ s.drop k := (List.take_append_drop k s).symm
      rcases hor with ⟨rfl, rfl, rfl, htk⟩ | ⟨rfl, rfl, rfl, hx, htk⟩ | ⟨rfl, rfl, rfl, hd8, u, hu, hru, htk⟩
      · refine ⟨?_, ⟨⟨ht, ht0, ht1, hn, .inl ⟨rfl, rfl, rfl⟩⟩, g2⟩, ?_⟩
        · rw [hse, htk, ← g1]
          simp [Fs.app, ftx]
        · simp only [Fs.app, Fs.count]; omega
      · refine ⟨?_, ⟨⟨ht, ht0, ht1, hn, .inr (.inl ⟨rfl, rfl, rfl, by omega⟩)⟩, g2⟩, ?_⟩
        · rw [hse, htk, ← g1]
          simp [Fs.app, ftx]
        · simp only [Fs.app, Fs.count]; omega
      · have hu2 : (fget u (deep + 1) 0).2 = 0 := by rw [hru]
        obtain ⟨e1, e2, e3⟩ := fget_ok N u (deep + 1) 0 (by omega) (by omega) (by omega) hu2
        rw [hru] at e1 e2 e3
        simp only [] at e1 e2 e3
        have hul : u.length + 2 ≤ k := by
          have := congrArg List.length htk
          simp only [List.length_take, List.length_append, vput_length] at this
          have := vsz_pos (4 * t + 2)
          have := vsz_pos u.length
          omega
        refine ⟨?_, ⟨⟨ht, ht0, ht1, hn, .inr (.inr ⟨rfl, rfl, rfl, by omega, e2⟩)⟩, g2⟩, ?_⟩
        · rw [hse, htk, ← g1, ← e1]
          simp [Fs.app, ftx]
        · simp only [Fs.app, Fs.count]; omega
/-- What was written is read. -/
theorem fget_text (z : List UInt8) : ∀ (f : Fs) (deep last : Nat), deep ≤ 8 → fcheckP f last deep → (ftx f).length ≤ 1000000 →
    fget (ftx f ++ z) deep last = fthen f (fget z deep (f.last last))
  | .nil, deep, last, hd, _, _ => by
    show fget z deep last = fthen .nil (fget z deep last)
    by_cases h : (fget z deep last).2 ≠ 0
    · rw [fthen_err h]
      by_cases h0 : z.length = 0
      · obtain rfl : z = [] := List.eq_nil_of_length_eq_zero h0
        exact absurd rfl h
      by_cases h1 : (ffirst z deep last).2.2 ≠ 0
      · rw [fget_err h0 h1]
      · rw [fget_step h0 (Classical.not_not.1 h1)] at h ⊢
        generalize fget (z.drop (ffirst z deep last).2.1) deep (ffirst z deep last).1.tag = q at *
        by_cases hq : q.2 = 0
        · rw [fthen_yes hq] at h; exact absurd rfl h
        · rw [fthen_err hq]
    · rw [fthen_yes (Classical.not_not.1 h)]
      exact Prod.ext rfl (Classical.not_not.1 h)
  | .cons t y n x i r, deep, last, hd, hc, hl => by
    obtain ⟨⟨ht, ht0, ht1, hn, hor⟩, hcr⟩ := hc
    have hr := fget_text z r deep t hd hcr (by rw [ftx] at hl; simp only [List.length_append] at hl; omega)
    have h4 : 4 * t + y.toNat < 18446744073709551616 := by rcases hor with ⟨rfl, _⟩ | ⟨rfl, _⟩ | ⟨rfl, _⟩ <;> simp <;> omega
    have hsz := vsz_pos (4 * t + y.toNat)
    generalize hb : (if y = 0 then vput n else if y = 1 then vput x.size ++ x.data.toList else vput (ftx i).length ++ ftx i) = B at *
    have hft : ftx (.cons t y n x i r) ++ z = vput (4 * t + y.toNat) ++ (B ++ (ftx r ++ z)) := by rw [ftx, hb]; simp only [List.append_assoc]
    have hv1 := vget_put (4 * t + y.toNat) h4 (B ++ (ftx r ++ z))
    have hlb : (ftx (.cons t y n x i r)).length = vsz (4 * t + y.toNat) + (B.length + (ftx r).length) := by rw [ftx, hb]; simp only [List.length_append, vput_length]
    rw [hlb] at hl
    rw [hft]
    have hne : (vput (4 * t + y.toNat) ++ (B ++ (ftx r ++ z))).length ≠ 0 := by simp only [List.length_append, vput_length]; omega
    have hdr : (vput (4 * t + y.toNat) ++ (B ++ (ftx r ++ z))).drop (vsz (4 * t + y.toNat)) = B ++ (ftx r ++ z) := by
      rw [← vput_length, List.drop_left]
    have hdiv : (4 * t + y.toNat) / 4 = t ∧ (4 * t + y.toNat) % 4 = y.toNat := by rcases hor with ⟨rfl, _⟩ | ⟨rfl, _⟩ | ⟨rfl, _⟩ <;> simp <;> omega
    have hone : ffirst (vput (4 * t + y.toNat) ++ (B ++ (ftx r ++ z))) deep last = (.cons t y n x i .nil, vsz (4 * t + y.toNat) + B.length, 0) := by
      unfold ffirst fone
      rw [hv1]
      simp only [ne_eq, not_true_eq_false, if_false, hdiv.1, hdiv.2, hdr]
      rw [if_neg (by omega), if_neg (by rcases hor with ⟨rfl, _⟩ | ⟨rfl, _⟩ | ⟨rfl, _⟩ <;> simp), if_neg (by omega)]
      rcases hor with ⟨rfl, rfl, rfl⟩ | ⟨rfl, rfl, rfl, hx⟩ | ⟨rfl, rfl, rfl, hd8, hci⟩
      · have hB : B = vput n := by rw [← hb]; rfl
        have hv2 := vget_put n hn (ftx r ++ z)
        rw [hB, hv2, if_neg (by simp), vput_length]
        rfl
      · have hB : B = vput x.size ++ x.data.toList := by rw [← hb]; rfl
        have hx64 : x.size < 18446744073709551616 := by omega
        have hv2 := vget_put x.size hx64 (x.data.toList ++ (ftx r ++ z))
        rw [hB, List.append_assoc, hv2, if_neg (by simp)]
        have hxl : x.data.toList.length = x.size := len_list x
        rw [if_neg (by decide), if_neg (by simp only [List.length_append, vput_length, hxl]; omega), if_pos (by decide)]
        have e1 : (vput (4 * t + Int.toNat 1) ++ (vput x.size ++ (x.data.toList ++ (ftx r ++ z)))).drop (vsz (4 * t + Int.toNat 1) + vsz x.size) = x.data.toList ++ (ftx r ++ z) := by
          rw [← List.append_assoc, ← vput_length, ← vput_length, ← List.length_append, List.drop_left]
        rw [e1]
        have e2 : (x.data.toList ++ (ftx r ++ z)).take x.size = x.data.toList := by rw [← hxl, List.take_left]
        rw [e2, txt_of, List.length_append, vput_length, hxl, Nat.add_assoc]
      · have hB : B = vput (ftx i).length ++ ftx i := by rw [← hb]; rfl
        rw [hB, List.length_append] at hl
        have hx64 : (ftx i).length < 18446744073709551616 := by omega
        have hv2 := vget_put (ftx i).length hx64 (ftx i ++ (ftx r ++ z))
        rw [hB, List.append_assoc, hv2, if_neg (by simp)]
        rw [if_neg (by decide), if_neg (by simp only [List.length_append, vput_length]; omega), if_neg (by decide), if_neg (by omega)]
        have e1 : (vput (4 * t + Int.toNat 2) ++ (vput (ftx i).length ++ (ftx i ++ (ftx r ++ z)))).drop (vsz (4 * t + Int.toNat 2) + vsz (ftx i).length) = ftx i ++ (ftx r ++ z) := by
          rw [← List.append_assoc, ← vput_length, ← vput_length, ← List.length_append, List.drop_left]
        rw [e1]
        have e2 : (ftx i ++ (ftx r ++ z)).take (ftx i).length = ftx i := by rw [List.take_left]
        have hin := fget_text [] i (deep + 1) 0 (by omega) hci (by omega)
        rw [List.append_nil, fget_nil, fthen_yes rfl, Fs.app_nil] at hin
        rw [e2, hin]
        simp only [not_true_eq_false, if_false]
        rw [List.length_append, vput_length, Nat.add_assoc]
    have hdr2 : (vput (4 * t + y.toNat) ++ (B ++ (ftx r ++ z))).drop (vsz (4 * t + y.toNat) + B.length) = ftx r ++ z := by
      rw [← List.append_assoc, ← vput_length, ← List.length_append, List.drop_left]
    rw [fget_step hne (by rw [hone]), hone]
    show fthen (.cons t y n x i .nil) (fget ((vput (4 * t + y.toNat) ++ (B ++ (ftx r ++ z))).drop (vsz (4 * t + y.toNat) + B.length)) deep t) = _
    rw [hdr2, hr]
    show fthen (.cons t y n x i .nil) (fthen r (fget z deep (r.last t))) = fthen (.cons t y n x i r) (fget z deep (r.last t))
    generalize fget z deep (r.last t) = q
    by_cases hz : q.2 = 0
    · rw [fthen_yes hz, fthen_yes hz, fthen_yes rfl]; rfl
    · rw [fthen_err hz, fthen_err hz]; exact fthen_err hz
end Go.PM
end

section
namespace Go.Proofs.YtgidfnhfgiehjaaGreatDoor
open Go.RowKit Go.PM
theorem ftyped_iff {y : Int} {n : Nat} {s : ByteArray} {i : Fs} : ftyped y n s i.len = true ↔ y = 0 ∧ s = ByteArray.empty ∧ i = .nil ∨ y = 1 ∧ n = 0 ∧ i = .nil ∨ y = 2 ∧ n = 0 ∧ s = ByteArray.empty := by
  have hs : s.size = 0 ↔ s = ByteArray.empty := ⟨fun h => size_zero h, fun h => by rw [h]; rfl⟩
  have hi : i.len = 0 ↔ i = .nil := ⟨fun h => Fs.len_zero h, fun h => by rw [h]; rfl⟩
  unfold ftyped
  by_cases y0 : y = 0
  · subst y0; simp [hs, hi]
  by_cases y1 : y = 1
  · subst y1; simp [hi]
  by_cases y2 : y = 2
  · subst y2; simp [hs]
  · simp [y0, y1, y2]
theorem fcheck_iff : ∀ (f : Fs) (a w : Nat), f.All FKd → w ≤ 8 → (fcheck f a w = 0 ↔ fcheckP f a w)
  | .nil, a, w, _, _ => by simp [fcheck, fcheckP]
  | .cons t y n s i r, a, w, hk, hw => by
    have hr := fcheck_iff r t w hk.2.2 hw
    rw [fcheck, fcheckP]
    by_cases h1 : t = 0 ∨ 4294967296 < t
    · rw [if_pos h1]; constructor
      · intro h; cases h
      · rintro ⟨⟨_, _, _, _⟩, _⟩; omega
    rw [if_neg h1]
    by_cases h2 : t ≤ a
    · rw [if_pos h2]; constructor
      · intro h; cases h
      · rintro ⟨⟨_, _, _, _⟩, _⟩; omega
    rw [if_neg h2]
    by_cases h3 : ftyped y n s i.len = false
    · rw [if_pos h3]; constructor
      · intro h; cases h
      · rintro ⟨⟨_, _, _, _, h⟩, _⟩
        have : ftyped y n s i.len = true := ftyped_iff.2 (by
          rcases h with ⟨h1, h2, h3⟩ | ⟨h1, h2, h3, _⟩ | ⟨h1, h2, h3, _⟩
          · exact .inl ⟨h1, h2, h3⟩
          · exact .inr (.inl ⟨h1, h2, h3⟩)
          · exact .inr (.inr ⟨h1, h2, h3⟩))
        rw [this] at h3; cases h3
    rw [if_neg h3]
    have h3' := ftyped_iff.1 (by simpa using h3)
    have hbase : a < t ∧ 0 < t ∧ t ≤ 4294967296 ∧ In64 n := ⟨by omega, by omega, by omega, hk.1.2.2.1⟩
    by_cases h4 : y ≠ 2
    · rw [if_pos h4, hr]
      constructor
      · intro h
        refine ⟨⟨hbase.1, hbase.2.1, hbase.2.2.1, hbase.2.2.2, ?_⟩, h⟩
        rcases h3' with h | ⟨h1, h2, h3⟩ | h
        · exact .inl h
        · exact .inr (.inl ⟨h1, h2, h3, hk.1.2.2.2⟩)
        · exact absurd h.1 h4
      · exact fun h => h.2
    rw [if_neg h4]
    have hy : y = 2 := Classical.not_not.1 h4
    subst hy
    have h5 : n = 0 ∧ s = ByteArray.empty := by rcases h3' with ⟨h, _⟩ | ⟨h, _⟩ | ⟨_, h⟩; cases h; cases h; exact h
    by_cases h6 : 8 ≤ w
    · rw [if_pos h6]; constructor
      · intro h; cases h
      · rintro ⟨⟨_, _, _, _, h⟩, _⟩
        rcases h with ⟨h, _⟩ | ⟨h, _⟩ | ⟨_, _, _, h, _⟩
        · cases h
        · cases h
        · omega
    rw [if_neg h6]
    have hi := fcheck_iff i 0 (w + 1) hk.2.1 (by omega)
    by_cases h7 : fcheck i 0 (w + 1) ≠ 0
    · rw [if_pos h7]; constructor
      · intro h; exact absurd h h7
      · rintro ⟨⟨_, _, _, _, h⟩, _⟩
        rcases h with ⟨h, _⟩ | ⟨h, _⟩ | ⟨_, _, _, _, h⟩
        · cases h
        · cases h
        · exact absurd (hi.2 h) h7
    · rw [if_neg h7, hr]
      have h7' := hi.1 (Classical.not_not.1 h7)
      exact ⟨fun h => ⟨⟨hbase.1, hbase.2.1, hbase.2.2.1, hbase.2.2.2, .inr (.inr ⟨rfl, h5.1, h5.2, by omega, h7'⟩)⟩, h⟩, fun h => h.2⟩
end Go.Proofs.YtgidfnhfgiehjaaGreatDoor
namespace Go.PM
theorem fcheckP_mono : ∀ {f : Fs} {a a' w : Nat}, a' ≤ a → fcheckP f a w → fcheckP f a' w
  | .nil, _, _, _, _, _ => trivial
  | .cons .., _, _, _, h, hf => ⟨⟨by have := hf.1.1; omega, hf.1.2⟩, hf.2⟩
theorem fcheckP_app : ∀ {f g : Fs} {a w : Nat}, fcheckP (f.app g) a w ↔ fcheckP f a w ∧ fcheckP g (f.last a) w
  | .nil, g, a, w => by simp [Fs.app, fcheckP, Fs.last]
  | .cons t y n s i r, g, a, w => by simp only [Fs.app, fcheckP, Fs.last, fcheckP_app (f := r), and_assoc]
theorem Fs.take_drop : ∀ (f : Fs) (k : Nat), (f.take k).app (f.drop k) = f
  | f, 0 => by cases f <;> rfl
  | .nil, _ + 1 => rfl
  | .cons t y n s i r, k + 1 => by rw [Fs.take, Fs.drop, Fs.app, Fs.take_drop r k]
theorem Fs.All.take {P : Nat → Int → Nat → ByteArray → Prop} : ∀ {f : Fs} (k : Nat), f.All P → (f.take k).All P
  | f, 0, _ => by cases f <;> trivial
  | .nil, _ + 1, _ => trivial
  | .cons .., k + 1, h => ⟨h.1, h.2.1, Fs.All.take k h.2.2⟩
end Go.PM
end

section
namespace Go.Proofs.YtgidfnhfgiehjaaGreatDoor
open Go.RowKit Go.PM
set_option maxRecDepth 100000
set_option maxHeartbeats 1000000
attribute [local go_sem ↓] Go.wp_at_zero Go.wp_at_succ
end Go.Proofs.YtgidfnhfgiehjaaGreatDoor
end

section
namespace Go.Proofs.YtgidfnhfgiehjaaGreatDoor
open Go.RowKit Go.PM
set_option maxRecDepth 100000
set_option maxHeartbeats 8000000
attribute [local go_sem ↓] Go.wp_at_zero Go.wp_at_succ
end Go.Proofs.YtgidfnhfgiehjaaGreatDoor
end

section
namespace Go.PM
end Go.PM
namespace Go.Proofs.YtgidfnhfgiehjaaGreatDoor
open Go.RowKit Go.PM
set_option maxRecDepth 100000
set_option maxHeartbeats 2000000
attribute [local go_sem ↓] Go.wp_at_zero Go.wp_at_succ
end Go.Proofs.YtgidfnhfgiehjaaGreatDoor
end

section
namespace Go.PM
/-- Values that read, two by two, as pairs of lists of fields. -/
def W2 (w : World) (I : Nat → Prop) (xs : List Value) (L : List (Fs × Fs)) : Prop :=
  xs.length = 2 * L.length ∧ ∀ (j : Nat) (p : Fs × Fs), L[j]? = some p → ∃ x y, xs[2 * j]? = some x ∧ xs[2 * j + 1]? = some y ∧ SlV w I x p.1 ∧ SlV w I y p.2
theorem W2.nil {w : World} {I : Nat → Prop} : W2 w I [] [] := ⟨rfl, fun j p h => by simp at h⟩
theorem W2.push {w : World} {I : Nat → Prop} {xs : List Value} {L : List (Fs × Fs)} {x y : Value} {p : Fs × Fs} (h : W2 w I xs L) (hx : SlV w I x p.1) (hy : SlV w I y p.2) : W2 w I (xs ++ [x, y]) (L ++ [p]) := by
  refine ⟨by simp [h.1]; omega, fun j q hq => ?_⟩
  by_cases hj : j < L.length
  · rw [List.getElem?_append_left hj] at hq
    obtain ⟨a, b, h1, h2, h3⟩ := h.2 j q hq
    exact ⟨a, b, by rw [List.getElem?_append_left (by rw [h.1]; omega)]; exact h1, by rw [List.getElem?_append_left (by rw [h.1]; omega)]; exact h2, h3⟩
  · have hj2 : j = L.length := by
      have := (List.getElem?_eq_some_iff.1 hq).1
      simp at this; omega
    subst hj2
    rw [List.getElem?_append_right (Nat.le_refl _), Nat.sub_self] at hq
    injection hq with hq
    subst hq
    refine ⟨x, y, ?_, ?_, hx, hy⟩
    · rw [List.getElem?_append_right (by rw [h.1]; omega), h.1, Nat.sub_self]; rfl
    · rw [List.getElem?_append_right (by rw [h.1]; omega), h.1, show 2 * L.length + 1 - 2 * L.length = 1 by omega]; rfl
theorem W2.pop {w : World} {I : Nat → Prop} {xs : List Value} {L : List (Fs × Fs)} {n : Nat} (h : W2 w I xs L) (hn : L.length = n + 1) :
    ∃ L' p x y, L = L' ++ [p] ∧ L'.length = n ∧ xs[2 * n]? = some x ∧ xs[2 * n + 1]? = some y ∧ SlV w I x p.1 ∧ SlV w I y p.2 ∧ W2 w I (xs.take (n * 2)) L' := by
  have hL : n < L.length := by omega
  obtain ⟨x, y, h1, h2, h3, h4⟩ := h.2 n _ (List.getElem?_eq_getElem hL)
  refine ⟨L.take n, L[n], x, y, ?_, by rw [List.length_take]; omega, h1, h2, h3, h4, by rw [List.length_take, List.length_take, h.1]; omega, fun j q hq => ?_⟩
  · have h1 := List.take_append_getElem hL
    rw [h1, List.take_of_length_le (by omega)]
  · rw [List.getElem?_take] at hq
    by_cases hj : j < n
    · rw [if_pos hj] at hq
      obtain ⟨a, b, h1, h2, h3⟩ := h.2 j q hq
      exact ⟨a, b, by rw [List.getElem?_take, if_pos (by omega)]; exact h1, by rw [List.getElem?_take, if_pos (by omega)]; exact h2, h3⟩
    · rw [if_neg hj] at hq
      cases hq
def psum : List (Fs × Fs) → Nat
  | [] => 0
  | p :: L => p.1.count + p.2.count + psum L
def likeB (t t' : Nat) (y y' : Int) (n n' : Nat) (s s' : ByteArray) : Bool := decide (t = t' ∧ y = y' ∧ n = n' ∧ s = s')
end Go.PM
namespace Go.Proofs.YtgidfnhfgiehjaaGreatDoor
open Go.RowKit Go.PM
set_option maxRecDepth 100000
set_option maxHeartbeats 4000000
end Go.Proofs.YtgidfnhfgiehjaaGreatDoor
end

section
namespace Go.Proofs.YtgidfnhfgiehjaaGreatDoor
open Go.RowKit Go.PM
set_option maxRecDepth 100000
set_option maxHeartbeats 4000000
attribute [local go_sem ↓] Go.wp_at_zero Go.wp_at_succ
/-- Where the walk over the work list stands. -/
def PkAt (w : World) (I : Nat → Prop) (v : Value) (L : List (Fs × Fs)) (wr : World) : Prop :=
  ∃ (g cap : Nat) (xs : List Value), v = .slice (some ⟨g, 0, none⟩) L.length cap ∧ wr.ownsRow w.heap.size 193 2 v L.length xs ∧ W2 w I xs L ∧ Below w.heap.size w wr
/-- So, and a block apart from the row. -/
def PxAt (w : World) (I : Nat → Prop) (gb : Nat) (va vb v : Value) (L : List (Fs × Fs)) (wr : World) : Prop :=
  ∃ (g cap : Nat) (xs : List Value), v = .slice (some ⟨g, 0, none⟩) L.length cap ∧ wr.ownsRow w.heap.size 193 2 v L.length xs ∧ W2 w I xs L ∧ Below w.heap.size w wr ∧ g ≠ gb ∧ w.heap.size ≤ gb ∧ BlkAt wr gb 193 #[va, vb]
theorem PkAt.step {w wr w3 : World} {I : Nat → Prop} {gb g2 g3 cap3 cap2 M2 : Nat} {va vb x y : Value} {L2 : List (Fs × Fs)} {p : Fs × Fs} {xs2 : List Value} (hM : L2.length = M2) (hB2 : Below w.heap.size w wr) (hgb : w.heap.size ≤ gb) (hblk : BlkAt wr gb 193 #[va, vb]) (hne : g2 ≠ gb)
    (hW2 : W2 w I xs2 L2) (hx : SlV w I x p.1) (hy : SlV w I y p.2) (hg2 : w.heap.size ≤ g2)
    (hown3 : w3.ownsRow w.heap.size 193 2 (.slice (some ⟨g3, 0, none⟩) (M2 + 1) cap3) (M2 + 1) (xs2 ++ [x, y])) (hg3 : wr.grownBy w3 (Value.slice (some ⟨g2, 0, none⟩) M2 cap2).ownBlock) (hat : (Value.slice (some ⟨g2, 0, none⟩) M2 cap2).ownBlock = some g3 ∨ wr.heap.size ≤ g3) :
    PxAt w I gb va vb (.slice (some ⟨g3, 0, none⟩) (M2 + 1) cap3) (L2 ++ [p]) w3 := by
  refine ⟨g3, cap3, _, by simp [hM], by simp only [List.length_append, List.length_cons, List.length_nil, hM]; exact hown3, hW2.push hx hy, ?_, ?_, hgb, ?_⟩
  · exact hB2.trans (Tch.grown (S := fun k => some g2 = some k) hg3 (fun k hk _ => hk) |>.toBelowB hB2.size fun k hk e => by injection e with e; omega)
  · rcases hat with h | h
    · simp only [Value.ownBlock, Option.some.injEq] at h; omega
    · have := hblk.lt; omega
  · exact hblk.step hg3 (by intro e; simp only [Value.ownBlock, Option.some.injEq] at e; exact hne e.symm)
end Go.Proofs.YtgidfnhfgiehjaaGreatDoor
end

section
namespace Go.Proofs.YtgidfnhfgiehjaaGreatDoor
open Go.RowKit Go.PM
set_option maxRecDepth 100000
set_option maxHeartbeats 4000000
attribute [local go_sem ↓] Go.wp_at_zero Go.wp_at_succ
end Go.Proofs.YtgidfnhfgiehjaaGreatDoor
end
