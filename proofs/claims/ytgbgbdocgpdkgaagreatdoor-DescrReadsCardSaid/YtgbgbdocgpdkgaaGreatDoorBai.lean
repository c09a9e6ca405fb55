/-
  Texts of the proof, joined: Descr3 SortRow Shelf2 Descr4 Descr5 PlainPick. Conditions: as each names.
-/
import Derived.Test.YtgbgbdocgpdkgaaGreatDoorBaf
import Derived.Test.YtgbgbdocgpdkgaaGreatDoorBah
import Derived.Test.YtgbgbdocgpdkgaaGreatDoorBab
import Derived.Shelf.SlSortCmp.WholeK
import Derived.Shelf.SlSortCmp.NoneTotal
import Derived.Ground.SlsfProg
import Derived.Shelf.SlGeneric
import Derived.Shelf.SlicesE.Clone
import Derived.Ground.SlgnProg
import Derived.Test.YtgbgbdocgpdkgaaGreatDoorProg
import Derived.Test.YtgbgbdocgpdkgaaGreatDoorBac

section
/-
  Layer 12: whether a list of entries may be a descriptor. Conditions: texts within int; Go's tables of UTF-8 lie in memory.
-/
namespace Go.Proofs.YtgbgbdocgpdkgaaGreatDoor
open Go.RowKit Go.PM
set_option maxRecDepth 100000
set_option maxHeartbeats 1000000
attribute [local go_sem ↓] Go.wp_at_zero Go.wp_at_succ

/-- The key ahead of the place k. -/
def pk (l : List Ent) (k : Nat) : Option (List UInt8) := if k = 0 then none else (l[k - 1]?).map (·.1)
theorem pk_zero (l : List Ent) : pk l 0 = none := rfl
theorem pk_succ (l : List Ent) (k : Nat) (h : k < l.length) : pk l (k + 1) = some l[k].1 := by
  unfold pk
  rw [if_neg (by omega), Nat.add_sub_cancel, List.getElem?_eq_getElem h]
  rfl
theorem check12_any (A : Option Addr) (c : Nat) (l : List Ent) (w : World) (hr : Rd w A (ents l)) (hz : ESz l) (hl : l.length ≤ 9223372036854775807) (hT : Tabs w) :
    Calls Tryz.prog 19 #[.slice A l.length c] w fun e w' => e = .returned (.int .i64 (dchk echk l)) ∧ Below w.heap.size w w' := by
  have HR := Lib.hid hr
  have HZ := Lib.hid hz
  have HT := Lib.hid hT
  have wl : IntKind.u64.wrap (l.length : Int) = (l.length : Int) := by rw [IntKind.wrap_u64]; omega
  have HM : Hid (∀ x : World, Calls Tryz.prog 29 #[.int .u64 (l.length : Int)] x fun e w' => e = .returned (.int .i64 (dmany l.length)) ∧ w' = x) := fun x => many_any l.length x
  unfold dchk
  clear hr hz hT
  by_cases hm : dmany l.length = 0
  · rw [if_neg (by rw [hm]; simp)]
    rw [hm] at HM
    have H0 : Hid (dchk1 echk none l = dchk1 echk (pk l 0) (l.drop 0)) := rfl
    generalize dchk1 echk none l = F at H0 ⊢
    clear hm
    go_enter Tryz.func19, Tryz.ntmps19
    go_wp2_with fail
    refine (HM.out _).mono ?_
    rintro e w1 ⟨rfl, rfl⟩
    go_wp2_with fail
    go_loopg [17] l.length (fun gk ki wr => ∃ k : Nat, k ≤ l.length ∧ l.length - k ≤ gk ∧ ki = .int .i64 (k : Int) ∧ Hid (F = dchk1 echk (pk l k) (l.drop k)) ∧ Below w1.heap.size w1 wr)
    case atStart => exact ⟨0, Nat.zero_le _, by omega, rfl, H0, b0⟩
    case round =>
      obtain ⟨k, hk, hgk, rfl, HF, hbel⟩ := hrel
      by_cases hlt : k < l.length
      · obtain ⟨b, off, hA, hbl, c0, c1⟩ := (HR.out.below hbel).ent hlt
        have hf := HF.out
        rw [List.drop_eq_getElem_cons hlt, dchk1] at hf
        have hps := pk_succ l k hlt
        obtain ⟨z0, z1⟩ := HZ.out _ (List.getElem_mem hlt)
        generalize l[k] = x at *
        obtain ⟨x0, x1⟩ := x
        simp only at c0 c1 hf hps z0 z1
        rw [← hps] at hf
        have HFF := Lib.hid hf
        have hxe := BlkAt.made wr 32 #[.string (txt x0), .string (txt x1)]
        have HXE := Lib.hid hxe
        have HB := Lib.hid (ba hbel (.cells #[.string (txt x0), .string (txt x1)] 32))
        have HB1 := Lib.hid hbel
        have HC := Lib.hid (echeck_any (txt x0) (txt x1) (wr.alloc (.cells #[.string (txt x0), .string (txt x1)] 32)) (by rw [txt_size]; omega) (by rw [txt_size]; omega) (HT.out.below HB.out))
        rw [txt_list, txt_list] at HC
        clear hf hps hxe hbel HF H0 z0 z1
        subst hA
        by_cases hE : echk x0 x1 = 0
        · rw [hE] at HC
          have hf := HFF.out
          rw [if_neg (by rw [hE]; simp)] at hf
          have HF2 := Lib.hid hf
          clear hf HFF hE
          go_wp2_with fail
          refine HC.out.mono ?_
          rintro e w2 ⟨rfl, hb2⟩
          have HBW := Lib.hid (bb HB.out hb2)
          have hx2 := HXE.out.below hb2 HXE.out.lt
          have HX2 := Lib.hid hx2
          clear hb2 HC
          by_cases hk0 : k = 0
          · subst hk0
            have hf := HF2.out
            rw [pk_zero] at hf
            have HN : Hid (F = dchk1 echk (pk l (0 + 1)) (l.drop (0 + 1))) := by
              show _ = _
              rw [hf]
              exact if_neg (by simp [dbehO])
            clear hf hx2 HF2
            go_wp2_with fail
            go_roundg (l.length - (0 + 1))
            case measure => omega
            case rel => exact ⟨0 + 1, by omega, Nat.le_refl _, by go_num, HN, HBW.out⟩
          · obtain ⟨j, rfl⟩ : ∃ j, k = j + 1 := ⟨k - 1, by omega⟩
            have hf := HF2.out
            have hjl : j < l.length := by omega
            rw [pk_succ l j hjl] at hf
            have hji : ((j + 1 : Nat) : Int) - 1 = (j : Int) := by omega
            obtain ⟨b', off', hA', hbl', d0, d1⟩ := (HR.out.below HBW.out).ent hjl
            injection hA' with hA'
            injection hA' with e1 e2
            subst e1 e2
            generalize l[j] = y at *
            obtain ⟨y0, y1⟩ := y
            simp only at d0 d1
            change F = if dbeh y0 x0 ≠ 0 then dbeh y0 x0 else dchk1 echk (pk l (j + 1 + 1)) (l.drop (j + 1 + 1)) at hf
            obtain ⟨D, hDd⟩ : ∃ D, D = dbeh y0 x0 := ⟨_, rfl⟩
            rw [← hDd] at hf
            have HBH : Hid (∀ n : BelW w2, Calls Tryz.prog 43 #[.string (txt y0), .string (txt x0)] n.wld fun e w' => e = .returned (.int .i64 D) ∧ Below n.wld.heap.size n.wld w') := fun n => (behind_any (txt y0) (txt x0) n.wld).mono fun e w' ⟨h1, h2⟩ => ⟨by rw [h1, hDd]; rfl, by rw [h2]; exact b0⟩
            clear hDd
            have hbl2 : b < w2.heap.size := hbl'
            have n0 : ∀ n : BelW w2, n.wld.cell? ⟨b, off + j * 2, none⟩ = some (.string (txt y0)) := fun n => (World.cell?_of_block (a := ⟨b, off + j * 2, none⟩) (n.bel.block b hbl2)).trans d0
            have n1 : ∀ n : BelW w2, n.wld.cell? ⟨wr.heap.size, 0, none⟩ = some (.string (txt x0)) := fun n => (hx2.below n.bel hx2.lt).cell 0
            have hj1 : (j : Int) < (l.length : Int) := by omega
            clear d0 d1 hx2 HF2 c0 c1
            by_cases hD : D = 0
            · subst hD
              rw [if_neg (by simp)] at hf
              have HN := Lib.hid hf
              clear hf
              go_wp2_with fail
              refine wp_region_below_lit (by kernel_rfl) (by kernel_rfl) ?_
              repeat (first | go_big_quiet_skip | (go_big_quiet_want; go_big_quiet_op; first | go_big_quiet_on | (apply Exists.intro; refine ⟨fun nq => ?_, ?_⟩; (go_at_call 43; exact below_of (HBH.out _)); go_big_quiet_on)))
              refine wpQuiet_nil ?_
              intro wq hnq
              obtain ⟨nq, rfl⟩ := hnq
              have hq := nq.bel
              generalize nq.wld = wq at hq ⊢
              clear nq
              have HBQ := Lib.hid (bb HBW.out hq)
              clear hq n0 n1 HBH
              go_wp2_with fail
              go_roundg (l.length - (j + 1 + 1))
              case measure => omega
              case rel => exact ⟨j + 1 + 1, by omega, Nat.le_refl _, by go_num, HN, HBQ.out⟩
            · rw [if_pos hD] at hf
              subst hf
              have hDi : (F != 0) = true := by rw [bne_iff_ne]; exact hD
              clear hD
              go_wp2_with fail
              refine wp_region_below_lit (by kernel_rfl) (by kernel_rfl) ?_
              repeat (first | go_big_quiet_skip | (go_big_quiet_want; go_big_quiet_op; first | go_big_quiet_on | (apply Exists.intro; refine ⟨fun nq => ?_, ?_⟩; (go_at_call 43; exact below_of (HBH.out _)); go_big_quiet_on)))
              refine wpQuiet_nil ?_
              intro wq hnq
              obtain ⟨nq, rfl⟩ := hnq
              have hq := nq.bel
              generalize nq.wld = wq at hq ⊢
              clear nq
              have HBQ := Lib.hid (bb HBW.out hq)
              clear hq n0 n1 HBH
              go_wp2_with fail
              go_ret
              exact ⟨rfl, HBQ.out⟩
        · have hf := HFF.out
          rw [if_pos hE] at hf
          have hEi : (F != 0) = true := by rw [bne_iff_ne, hf]; exact hE
          rw [← hf] at HC
          clear HFF hE hf
          go_wp2_with fail
          refine HC.out.mono ?_
          rintro e w2 ⟨rfl, hb2⟩
          have HBW := Lib.hid (bb HB.out hb2)
          clear hb2 HC
          go_wp2_with fail
          go_ret
          exact ⟨rfl, HBW.out⟩
      · obtain rfl : k = l.length := by omega
        have hf := HF.out
        rw [List.drop_of_length_le (Nat.le_refl _), dchk1] at hf
        subst hf
        have HB := Lib.hid hbel
        clear hbel HF H0
        go_wp2_with fail
        go_ret
        exact ⟨rfl, HB.out⟩
  · rw [if_pos hm]
    have hmi : (dmany l.length != 0) = true := by rw [bne_iff_ne]; exact hm
    generalize dmany l.length = E at *
    clear hm
    go_enter Tryz.func19, Tryz.ntmps19
    go_wp2_with fail
    refine (HM.out _).mono ?_
    rintro e w1 ⟨rfl, rfl⟩
    go_wp2_with fail
    go_ret
    exact ⟨rfl, b0⟩
end Go.Proofs.YtgbgbdocgpdkgaaGreatDoor
end

section
/-
  Rows of structs that the library's sort has put in order. Plain theorems, over any program.
-/
namespace Go.PM
open Go.RowKit Go.Sort Go.Proofs
theorem flat_length {α : Type} {enc : α → List Value} {k : Nat} (hk : ∀ x, (enc x).length = k) : ∀ l : List α, (l.flatMap enc).length = l.length * k
  | [] => by simp
  | a :: r => by rw [List.flatMap_cons, List.length_append, hk, flat_length hk r, List.length_cons, Nat.add_mul, Nat.one_mul, Nat.add_comm]
section
variable {α : Type} [Inhabited α] {enc : α → List Value} {k : Nat}
theorem flat_at (hk : ∀ x, (enc x).length = k) (k0 : 0 < k) : ∀ (l : List α) (t : Nat), t < l.length * k → (l.flatMap enc)[t]? = some ((enc l[t / k]!)[t % k]!)
  | [], t, h => by simp at h
  | a :: r, t, h => by
    rw [List.flatMap_cons]
    by_cases ht : t < k
    · rw [List.getElem?_append_left (by rw [hk]; exact ht), Nat.div_eq_of_lt ht, Nat.mod_eq_of_lt ht]
      have : t < (enc a).length := by rw [hk]; exact ht
      simp [this]
    · obtain ⟨u, rfl⟩ : ∃ u, t = u + k := ⟨t - k, by omega⟩
      rw [List.getElem?_append_right (by rw [hk]; omega), hk, Nat.add_sub_cancel, flat_at hk k0 r u (by simp only [List.length_cons, Nat.add_mul, Nat.one_mul] at h; omega), Nat.add_div_right _ k0, Nat.add_mod_right]
      simp
theorem flatK_list (hk : ∀ x, (enc x).length = k) (k0 : 0 < k) (d : Array α) : (flatK enc k d).toList = d.toList.flatMap enc := by
  apply List.ext_getElem?
  intro t
  by_cases h : t < d.size * k
  · rw [flat_at hk k0 d.toList t (by simpa using h)]
    have h1 := get_flatK enc k d t h
    rw [Array.getElem?_toList, Array.getElem?_eq_getElem (by rw [size_flatK]; exact h)]
    rw [getElem!_pos _ _ (by rw [size_flatK]; exact h)] at h1
    have hq : t / k < d.size := (Nat.div_lt_iff_lt_mul k0).2 h
    rw [h1, getElem!_pos d.toList (t / k) (by simpa using hq), getElem!_pos d (t / k) hq, Array.getElem_toList]
  · rw [List.getElem?_eq_none (by rw [Array.length_toList, size_flatK]; omega), List.getElem?_eq_none (by rw [flat_length hk, Array.length_toList]; omega)]
theorem holdsK_own {w : World} {base n g cap : Nat} {e : TypeId} {xs : List Value} (hk : ∀ x, (enc x).length = k) (k0 : 0 < k) (d : Array α) (hd : d.size = n) (h : w.ownsRow base e k (.slice (some ⟨g, 0, none⟩) n cap) n xs) (hx : xs = d.toList.flatMap enc) :
    HoldsK enc k w g 0 d ∧ g < w.heap.size ∧ base ≤ g := by
  rcases h.2 with ⟨h0, _⟩ | ⟨g', cap', cur, hv, hg, hb, hn, hm, hs, ht⟩
  · cases h0
  injection hv with h1 h2 h3
  injection h1 with h1
  injection h1 with h1
  subst h1 h3
  refine ⟨fun j hj => ?_, (Array.getElem?_eq_some_iff.1 hb).1, hg⟩
  rw [size_flatK] at hj
  refine ⟨?_, by simp [World.frozen?, hb]⟩
  have h5 : (cur.toList.take (n * k))[j]? = (flatK enc k d).toList[j]? := by rw [ht, hx, flatK_list hk k0]
  rw [List.getElem?_take_of_lt (by rw [← hd]; exact hj), Array.getElem?_toList, Array.getElem?_toList, Array.getElem?_eq_getElem (xs := flatK enc k d) (by rw [size_flatK]; exact hj)] at h5
  simp only [World.cell?, hb, Nat.zero_add]
  simp only [Option.isSome_none, Bool.false_eq_true, if_false]
  rw [h5, getElem!_pos _ _ (by rw [size_flatK]; exact hj)]
  rfl
theorem heap_sortedK {w : World} {g m : Nat} {os : Array Obj} {cur : Array Value} {e : TypeId} {fr : Nat × Nat} (d : Array α) (hb : w.heap[g]? = some (.cells cur e fr)) :
    (sortWorldK enc k w g 0 m d os).heap[g]? = some (.cells (putCells id 0 (flatK enc k d) cur) e fr) := by
  have hg : g < w.heap.size := (Array.getElem?_eq_some_iff.1 hb).1
  unfold sortWorldK putRowK
  rw [heap_grow_old _ _ (by simpa [putRow, mapBlock, Sort.ahead] using hg)]
  simp [putRow, mapBlock, Sort.ahead, Array.getElem?_modify, hb, onCells]
theorem grownBy_sortedK {w : World} {g m : Nat} {os : Array Obj} (d : Array α) : w.grownBy (sortWorldK enc k w g 0 m d os) (some g) := by
  unfold sortWorldK putRowK
  refine ⟨rfl, rfl, rfl, by simp [grow, putRow, mapBlock, Sort.ahead], fun j hj hne => ?_⟩
  rw [heap_grow_old _ _ (by simpa [putRow, mapBlock, Sort.ahead] using hj)]
  have : g ≠ j := fun e => hne (by rw [e])
  simp [putRow, mapBlock, Sort.ahead, Array.getElem?_modify, this]
theorem take_putCellsK (cur : Array Value) (F : Array Value) (h : F.size ≤ cur.size) : (putCells id 0 F cur).toList.take F.size = F.toList := by
  apply List.ext_getElem?
  intro j
  by_cases hj : j < F.size
  · rw [List.getElem?_take_of_lt hj, Array.getElem?_toList, Array.getElem?_toList]
    simp [putCells, hj, show j < cur.size by omega]
  · rw [List.getElem?_take_eq_none (by omega), List.getElem?_eq_none (by simp; omega)]
theorem own_sortedK {w : World} {base n g cap m : Nat} {e : TypeId} {xs : List Value} {os : Array Obj} (hk : ∀ x, (enc x).length = k) (k0 : 0 < k) (d : Array α) (hd : d.size = n) (h : w.ownsRow base e k (.slice (some ⟨g, 0, none⟩) n cap) n xs) :
    (sortWorldK enc k w g 0 m d os).ownsRow base e k (.slice (some ⟨g, 0, none⟩) n cap) n (d.toList.flatMap enc) := by
  rcases h.2 with ⟨h0, _⟩ | ⟨g', cap', cur, hv, hg, hb, hn, hm, hs, ht⟩
  · cases h0
  injection hv with h1 h2 h3
  injection h1 with h1
  injection h1 with h1
  subst h1 h3
  refine ⟨by rw [flat_length hk, Array.length_toList, hd], .inr ⟨g, cap, _, rfl, hg, heap_sortedK d hb, hn, hm, by simp [putCells, hs], ?_⟩⟩
  have h6 := take_putCellsK cur (flatK enc k d) (by rw [size_flatK, hs, hd]; exact Nat.mul_le_mul_right k hn)
  rw [size_flatK, hd, flatK_list hk k0] at h6
  exact h6
theorem permIn_all {d d' : Array α} (h : PermIn 0 d.size d d') : d.toList.Perm d'.toList := by
  obtain ⟨h1, _, h3⟩ := h
  have e : d'.extract 0 d.size = d' := by rw [← h1]; simp
  rw [e] at h3
  simpa using h3.symm
theorem sortedIn_all {lt : α → α → Bool} {d : Array α} {n : Nat} (h : SortedIn lt 0 n d) (hn : d.size = n) : d.toList.Pairwise (fun a b => lt b a = false) := by
  rw [List.pairwise_iff_getElem]
  intro i j hi hj hij
  have := h i j (Nat.zero_le _) hij (by rw [← hn]; simpa using hj)
  rw [getElem!_pos d i (by simpa using hi), getElem!_pos d j (by simpa using hj)] at this
  simpa using this
end
end Go.PM
end

section
/-
  DERIVED: THE SHELF's CONTRACTS AT THIS DUMP, IN PLAIN WORDS (tools/lay-plain.mjs out of 'TryzShelf2.lean', which tools/lay-shelf.mjs wrote): THE SAME DECLARATIONS UNDER THE SAME NAMES: 'import', 'namespace', 'open', 'def', 'theorem' AND NOTHING ELSE: no command of the shelf's: FOR A HAND-IN. Each laying: the table of numbers ('.._ren') and one theorem, a field a fact of the dump's own or the kernel's comparison; each contract: ONE APPLICATION.
-/
namespace Go.Proofs
open Go.Shelf
def Tryz.sortFld_ren : Go.Shelf.Ren := ⟨fun | 6 => 94 | 15 => 53 | 14 => 100 | 28 => 73 | 29 => 74 | 20 => 106 | 21 => 107 | 22 => 108 | 23 => 109 | 24 => 110 | 25 => 111 | 26 => 112 | 27 => 113 | 46 => 117 | 47 => 81 | 48 => 82 | 49 => 118 | 50 => 119 | 57 => 122 | n => n, fun | 22 => 120 | 24 => 124 | 25 => 141 | 3 => 3 | 39 => 91 | 0 => 0 | 53 => 110 | 55 => 59 | 4 => 4 | 46 => 103 | 45 => 102 | 50 => 107 | 5 => 5 | 9 => 9 | 66 => 113 | 70 => 117 | 76 => 134 | 77 => 135 | n => n, fun | n => n⟩
theorem Tryz.sortFld : Go.Proofs.SlLaysF0.n6 Tryz.prog Tryz.sortFld_ren := {
  mixed := by kernel_rfl
  f6 := ⟨Tryz.f94.name, by decide, Tryz.func94.trans (congrArg some (by kernel_rfl))⟩
  f14 := ⟨Tryz.f100.name, by decide, Tryz.func100.trans (congrArg some (by kernel_rfl))⟩
  f15 := Tryz.func53.trans (congrArg some (by kernel_rfl))
  f20 := ⟨Tryz.f106.name, by decide, Tryz.func106.trans (congrArg some (by kernel_rfl))⟩
  f21 := ⟨Tryz.f107.name, by decide, Tryz.func107.trans (congrArg some (by kernel_rfl))⟩
  f22 := ⟨Tryz.f108.name, by decide, Tryz.func108.trans (congrArg some (by kernel_rfl))⟩
  f23 := ⟨Tryz.f109.name, by decide, Tryz.func109.trans (congrArg some (by kernel_rfl))⟩
  f24 := ⟨Tryz.f110.name, by decide, Tryz.func110.trans (congrArg some (by kernel_rfl))⟩
  f25 := ⟨Tryz.f111.name, by decide, Tryz.func111.trans (congrArg some (by kernel_rfl))⟩
  f26 := ⟨Tryz.f112.name, by decide, Tryz.func112.trans (congrArg some (by kernel_rfl))⟩
  f27 := ⟨Tryz.f113.name, by decide, Tryz.func113.trans (congrArg some (by kernel_rfl))⟩
  f28 := Tryz.func73.trans (congrArg some (by kernel_rfl))
  f29 := Tryz.func74.trans (congrArg some (by kernel_rfl))
  f46 := ⟨Tryz.f117.name, by decide, Tryz.func117.trans (congrArg some (by kernel_rfl))⟩
  f47 := Tryz.func81.trans (congrArg some (by kernel_rfl))
  f48 := Tryz.func82.trans (congrArg some (by kernel_rfl))
  f49 := ⟨Tryz.f118.name, by decide, Tryz.func118.trans (congrArg some (by kernel_rfl))⟩
  f50 := ⟨Tryz.f119.name, by decide, Tryz.func119.trans (congrArg some (by kernel_rfl))⟩
  f57 := ⟨Tryz.f122.name, by decide, Tryz.func122.trans (congrArg some (by kernel_rfl))⟩
  t0 := Tryz.underlying0
  a0 := Tryz.isAgg0
  z0 := Tryz.sizeOf0
  v0 := Tryz.zeroValue0
  t3 := Tryz.underlying3
  a3 := Tryz.isAgg3
  z3 := Tryz.sizeOf3
  v3 := Tryz.zeroValue3
  t4 := Tryz.underlying4
  a4 := Tryz.isAgg4
  z4 := Tryz.sizeOf4
  v4 := Tryz.zeroValue4
  t5 := Tryz.underlying5
  a5 := Tryz.isAgg5
  z5 := Tryz.sizeOf5
  v5 := Tryz.zeroValue5
  t9 := Tryz.underlying9
  a9 := Tryz.isAgg9
  z9 := Tryz.sizeOf9
  v9 := Tryz.zeroValue9
  t22 := Tryz.underlying120
  a22 := Tryz.isAgg120
  z22 := Tryz.sizeOf120
  v22 := Tryz.zeroValue120
  t25 := Tryz.underlying141
  a25 := Tryz.isAgg141
  z25 := Tryz.sizeOf141
  v25 := Tryz.zeroValue141
  t39 := Tryz.underlying91
  a39 := Tryz.isAgg91
  z39 := Tryz.sizeOf91
  v39 := Tryz.zeroValue91
  t45 := Tryz.underlying102
  a45 := Tryz.isAgg102
  z45 := Tryz.sizeOf102
  v45 := Tryz.zeroValue102
  t46 := Tryz.underlying103
  a46 := Tryz.isAgg103
  z46 := Tryz.sizeOf103
  v46 := Tryz.zeroValue103
  t50 := Tryz.underlying107
  a50 := Tryz.isAgg107
  z50 := Tryz.sizeOf107
  v50 := Tryz.zeroValue107
  t53 := Tryz.underlying110
  a53 := Tryz.isAgg110
  z53 := Tryz.sizeOf110
  v53 := Tryz.zeroValue110
  t55 := Tryz.underlying59
  a55 := Tryz.isAgg59
  z55 := Tryz.sizeOf59
  v55 := Tryz.zeroValue59
  t66 := Tryz.underlying113
  a66 := Tryz.isAgg113
  z66 := Tryz.sizeOf113
  v66 := Tryz.zeroValue113
  t70 := Tryz.underlying117
  a70 := Tryz.isAgg117
  z70 := Tryz.sizeOf117
  v70 := Tryz.zeroValue117
  t76 := Tryz.underlying134
  a76 := Tryz.isAgg134
  z76 := Tryz.sizeOf134
  v76 := Tryz.zeroValue134
  t77 := Tryz.underlying135
  a77 := Tryz.isAgg135
  z77 := Tryz.sizeOf135
  v77 := Tryz.zeroValue135 }
def Tryz.sortEnt_ren : Go.Shelf.Ren := ⟨fun | 14 => 52 | 20 => 65 | 21 => 66 | 22 => 67 | 23 => 68 | 24 => 69 | 25 => 70 | 26 => 71 | 27 => 72 | 46 => 80 | 47 => 81 | 48 => 82 | 49 => 83 | 50 => 84 | 15 => 53 | 57 => 92 | 28 => 73 | 29 => 74 | n => n, fun | 24 => 32 | 22 => 22 | 3 => 3 | 25 => 61 | 4 => 4 | 0 => 0 | 46 => 103 | 45 => 102 | 50 => 107 | 66 => 113 | 39 => 91 | 55 => 59 | 70 => 117 | 76 => 134 | 77 => 135 | 53 => 110 | 5 => 5 | 9 => 9 | n => n, fun | n => n⟩
theorem Tryz.sortEnt : Go.Proofs.SlLaysF0.n14 Tryz.prog Tryz.sortEnt_ren := {
  mixed := by kernel_rfl
  f14 := ⟨Tryz.f52.name, by decide, Tryz.func52.trans (congrArg some (by kernel_rfl))⟩
  f15 := Tryz.func53.trans (congrArg some (by kernel_rfl))
  f20 := ⟨Tryz.f65.name, by decide, Tryz.func65.trans (congrArg some (by kernel_rfl))⟩
  f21 := ⟨Tryz.f66.name, by decide, Tryz.func66.trans (congrArg some (by kernel_rfl))⟩
  f22 := ⟨Tryz.f67.name, by decide, Tryz.func67.trans (congrArg some (by kernel_rfl))⟩
  f23 := ⟨Tryz.f68.name, by decide, Tryz.func68.trans (congrArg some (by kernel_rfl))⟩
  f24 := ⟨Tryz.f69.name, by decide, Tryz.func69.trans (congrArg some (by kernel_rfl))⟩
  f25 := ⟨Tryz.f70.name, by decide, Tryz.func70.trans (congrArg some (by kernel_rfl))⟩
  f26 := ⟨Tryz.f71.name, by decide, Tryz.func71.trans (congrArg some (by kernel_rfl))⟩
  f27 := ⟨Tryz.f72.name, by decide, Tryz.func72.trans (congrArg some (by kernel_rfl))⟩
  f28 := Tryz.func73.trans (congrArg some (by kernel_rfl))
  f29 := Tryz.func74.trans (congrArg some (by kernel_rfl))
  f46 := ⟨Tryz.f80.name, by decide, Tryz.func80.trans (congrArg some (by kernel_rfl))⟩
  f47 := Tryz.func81.trans (congrArg some (by kernel_rfl))
  f48 := Tryz.func82.trans (congrArg some (by kernel_rfl))
  f49 := ⟨Tryz.f83.name, by decide, Tryz.func83.trans (congrArg some (by kernel_rfl))⟩
  f50 := ⟨Tryz.f84.name, by decide, Tryz.func84.trans (congrArg some (by kernel_rfl))⟩
  f57 := ⟨Tryz.f92.name, by decide, Tryz.func92.trans (congrArg some (by kernel_rfl))⟩
  t0 := Tryz.underlying0
  a0 := Tryz.isAgg0
  z0 := Tryz.sizeOf0
  v0 := Tryz.zeroValue0
  t3 := Tryz.underlying3
  a3 := Tryz.isAgg3
  z3 := Tryz.sizeOf3
  v3 := Tryz.zeroValue3
  t4 := Tryz.underlying4
  a4 := Tryz.isAgg4
  z4 := Tryz.sizeOf4
  v4 := Tryz.zeroValue4
  t5 := Tryz.underlying5
  a5 := Tryz.isAgg5
  z5 := Tryz.sizeOf5
  v5 := Tryz.zeroValue5
  t9 := Tryz.underlying9
  a9 := Tryz.isAgg9
  z9 := Tryz.sizeOf9
  v9 := Tryz.zeroValue9
  t22 := Tryz.underlying22
  a22 := Tryz.isAgg22
  z22 := Tryz.sizeOf22
  v22 := Tryz.zeroValue22
  t25 := Tryz.underlying61
  a25 := Tryz.isAgg61
  z25 := Tryz.sizeOf61
  v25 := Tryz.zeroValue61
  t39 := Tryz.underlying91
  a39 := Tryz.isAgg91
  z39 := Tryz.sizeOf91
  v39 := Tryz.zeroValue91
  t45 := Tryz.underlying102
  a45 := Tryz.isAgg102
  z45 := Tryz.sizeOf102
  v45 := Tryz.zeroValue102
  t46 := Tryz.underlying103
  a46 := Tryz.isAgg103
  z46 := Tryz.sizeOf103
  v46 := Tryz.zeroValue103
  t50 := Tryz.underlying107
  a50 := Tryz.isAgg107
  z50 := Tryz.sizeOf107
  v50 := Tryz.zeroValue107
  t53 := Tryz.underlying110
  a53 := Tryz.isAgg110
  z53 := Tryz.sizeOf110
  v53 := Tryz.zeroValue110
  t55 := Tryz.underlying59
  a55 := Tryz.isAgg59
  z55 := Tryz.sizeOf59
  v55 := Tryz.zeroValue59
  t66 := Tryz.underlying113
  a66 := Tryz.isAgg113
  z66 := Tryz.sizeOf113
  v66 := Tryz.zeroValue113
  t70 := Tryz.underlying117
  a70 := Tryz.isAgg117
  z70 := Tryz.sizeOf117
  v70 := Tryz.zeroValue117
  t76 := Tryz.underlying134
  a76 := Tryz.isAgg134
  z76 := Tryz.sizeOf134
  v76 := Tryz.zeroValue134
  t77 := Tryz.underlying135
  a77 := Tryz.isAgg135
  z77 := Tryz.sizeOf135
  v77 := Tryz.zeroValue135 }
def Tryz.cloneEnt_ren : Go.Shelf.Ren := ⟨fun | 41 => 27 | n => n, fun | 22 => 22 | 23 => 32 | 4 => 4 | n => n, fun | n => n⟩
theorem Tryz.cloneEnt : Go.Proofs.SlLaysE0.n41 Tryz.prog Tryz.cloneEnt_ren := {
  mixed := by kernel_rfl
  f41 := ⟨Tryz.f27.name, by decide, Tryz.func27.trans (congrArg some (by kernel_rfl))⟩
  t4 := Tryz.underlying4
  a4 := Tryz.isAgg4
  z4 := Tryz.sizeOf4
  v4 := Tryz.zeroValue4
  t22 := Tryz.underlying22
  a22 := Tryz.isAgg22
  z22 := Tryz.sizeOf22
  v22 := Tryz.zeroValue22 }
end Go.Proofs
end

section
/-
  Layer 12: entries put in order by the library's sort; a copy of some. Conditions: a row of the call's own; at most a million entries.
-/
namespace Go.Proofs.YtgbgbdocgpdkgaaGreatDoor
open Go.RowKit Go.PM Go.Sort
set_option maxRecDepth 100000
set_option maxHeartbeats 1000000
attribute [local go_sem ↓] Go.wp_at_zero Go.wp_at_succ

theorem ltOf_ecm (x y : Ent) : ltOf ecm x y = decide (ecm x y < 0) := rfl
theorem swo_ecm : SWO (ltOf ecm) where
  irrefl x := by rw [ltOf_ecm, (ecm_iff x x).2 rfl]; rfl
  trans x y z h1 h2 := by
    rw [ltOf_ecm] at *
    simp only [decide_eq_true_eq] at *
    exact ecm_trans h1 h2
  ntrans x y z h1 h2 := by
    rw [ltOf_ecm] at *
    simp only [decide_eq_false_iff_not] at *
    have a1 := ecm_neg x y
    have a2 := ecm_neg y z
    have a3 := ecm_neg x z
    have := ecm_le_trans (a := z) (b := y) (c := x) (by omega) (by omega)
    omega
theorem ecmpG_any (x y : Ent) (W : World) : Calls Tryz.prog 32 #[.agg (encE x).toArray, .agg (encE y).toArray] W fun e w' => e = .returned (.int .i64 (ecm x y)) ∧ ∃ q os', w' = grow (W.drewN q) os' := by
  refine (ecmp_any (txt x.1) (txt x.2) (txt y.1) (txt y.2) W).mono ?_
  rintro e w' ⟨rfl, rfl⟩
  exact ⟨rfl, 0, _, by rw [alloc_eq_grow, alloc_eq_grow, grow_grow]; rfl⟩
/-- What the sort leaves. -/
def SortEnd12 (w : World) (base g cap : Nat) (l : List Ent) (e : Ending) (w' : World) : Prop :=
  e = .returned (.tuple #[]) ∧ w'.ownsRow base 32 2 (.slice (some ⟨g, 0, none⟩) l.length cap) l.length (ents (esort l)) ∧ w.grownBy w' (some g)
theorem sort12_any {w : World} {base g cap : Nat} {l : List Ent} (hown : w.ownsRow base 32 2 (.slice (some ⟨g, 0, none⟩) l.length cap) l.length (ents l)) (hl : l.length ≤ 1000000) :
    Calls Tryz.prog 31 #[.slice (some ⟨g, 0, none⟩) l.length cap, .func (.func 32) #[] #[]] w (SortEnd12 w base g cap l) := by
  have hdl : l.toArray.size = l.length := by simp
  obtain ⟨hH, hg, hbg⟩ := holdsK_own (enc := encE) (k := 2) encE_len (by decide) l.toArray hdl hown (by simp [ents])
  have eg : ∀ args w, (callFunc 32 args).run Tryz.prog w = .ok (.enter 32 args) w := enters_of Tryz.func32 (by kernel_rfl) rfl
  have hlim : Lib.bitLen l.toArray.size < 4611686018427387904 := Nat.lt_of_le_of_lt (Lib.bitLen_le l.toArray.size 62 (by omega) (by omega)) (by omega)
  have hp := AnyQ.pdqsortCmpFunc_all Tryz.sortEnt 2 Tryz.isAgg32 Tryz.sizeOf32 encE ecm 32 #[] swo_ecm g 0 cap l.toArray w eg
    (fun _ _ _ _ x y => ecmpG_any x y _) ⟨encE_len, encE_one, hH, hg⟩ (l.toArray.size + 1) 0 l.toArray.size (Lib.bitLen l.toArray.size) l.toArray w (by omega) rfl (SWK.start hH) (Nat.zero_le _) (Nat.le_refl _) (by omega) hlim (Or.inl rfl)
  rw [hdl] at hp hlim
  change Calls Tryz.prog 52 _ _ _ at hp
  have hbl := Tryz.bits_Len (l.length : Int) w (by omega) (by omega)
  rw [Int.toNat_natCast] at hbl
  have wr : IntKind.u64.wrap (l.length : Int) = l.length := by rw [IntKind.wrap_u64]; omega
  have HP := Lib.hid hp
  have HL := Lib.hid hbl
  have HE : Hid (∀ n os, SortEnd12 w base g cap l (.returned (.tuple #[])) (sortWorldK encE 2 w g 0 n (pdq (ltOf ecm) l.toArray 0 l.length (Lib.bitLen l.length) true true) os)) := fun n os => by
    obtain ⟨h1, h2⟩ := pdq_sorts (ltOf ecm) swo_ecm l.toArray 0 l.length (Lib.bitLen l.length) true true (Nat.zero_le _) (by omega) (Or.inl rfl)
    generalize pdq (ltOf ecm) l.toArray 0 l.length (Lib.bitLen l.length) true true = d' at h1 h2
    rw [← hdl] at h1
    have hp2 := permIn_all h1
    have hsz : d'.size = l.length := by rw [h1.1, hdl]
    have hs2 := sortedIn_all h2 hsz
    have e1 : d'.toList = esort l := by
      refine esort_of (by simpa using hp2) (hs2.imp fun {a b} h => ?_)
      rw [ltOf_ecm, decide_eq_false_iff_not] at h
      have := ecm_neg a b
      omega
    refine ⟨rfl, ?_, grownBy_sortedK d'⟩
    have := own_sortedK (enc := encE) (k := 2) (m := n) (os := os) encE_len (by decide) d' hsz hown
    rw [e1] at this
    exact this
  clear hp hbl hH hown eg hlim hdl
  generalize Lib.bitLen l.length = B at *
  go_enter Tryz.func31, Tryz.ntmps31
  go_wp2_with fail
  refine HL.out.mono ?_
  rintro e w1 ⟨rfl, rfl⟩
  go_wp2_with fail
  refine HP.out.mono ?_
  rintro e w2 ⟨rfl, n, os, rfl⟩
  go_wp2_with fail
  go_end0
  exact HE.out n os
/-- A copy in memory of the call's own. -/
theorem clone12_any {w : World} {A : Option Addr} {c : Nat} {l : List Ent} (hr : Rd w A (ents l)) (hl : l.length ≤ 1000000) (h0 : l ≠ []) :
    Calls Tryz.prog 27 #[.slice A l.length c] w fun e w' => ∃ g cap, e = .returned (.slice (some ⟨g, 0, none⟩) l.length cap) ∧ w'.ownsRow w.heap.size 32 2 (.slice (some ⟨g, 0, none⟩) l.length cap) l.length (ents l) ∧ Below w.heap.size w w' := by
  obtain ⟨i0, hi0, hz0, hz1, hz2⟩ := info_parts info_ent
  have hpos := List.length_pos_iff.2 h0
  obtain ⟨b, off, rfl, hb, _, _⟩ := hr.ent hpos
  have hc : ∀ j u, (ents l)[j]? = some u → w.cell? ⟨b, off + j, none⟩ = some u := by
    rcases hr with h | ⟨b', off', e, _, hc⟩
    · have h1 := ents_len l
      rw [h] at h1
      simp only [List.length_nil] at h1
      omega
    · injection e with e
      injection e with e1 e2
      subst e1 e2
      exact hc
  refine (AnyE.slices_Clone Tryz.cloneEnt i0 zent 2 32 hi0 hz0 hz1 hz2 rfl (by decide) Tryz.sizeOf32 b off l.length c (ents l) w (ents_len l) (by unfold maxLen; omega) (by omega) hc (ents_one l)).mono ?_
  rintro e w' ⟨v', rfl, hown, hne, hbel⟩
  rcases hown.2 with ⟨h1, _⟩ | ⟨g, cap, cur, h1, _⟩
  · exact absurd h1 hne
  · subst h1
    exact ⟨g, cap, rfl, hown, hbel⟩
end Go.Proofs.YtgbgbdocgpdkgaaGreatDoor
end

section
/-
  Layer 12: what comes of any entries. Conditions: texts within int; at most a million entries; Go's tables of UTF-8 lie in memory.
-/
namespace Go.Proofs.YtgbgbdocgpdkgaaGreatDoor
open Go.RowKit Go.PM
set_option maxRecDepth 100000
set_option maxHeartbeats 2000000
attribute [local go_sem ↓] Go.wp_at_zero Go.wp_at_succ

/-- The end of Of. -/
def OfEnd12 (w : World) (l : List Ent) (e : Ending) (w' : World) : Prop := ∃ v, e = .returned (.tuple #[v, .int .i64 (dof echk l).2]) ∧ SlE w' v (dof echk l).1 ∧ Below w.heap.size w w'
theorem sle_nil (w : World) : SlE w (.slice none 0 0) [] := ⟨none, 0, rfl, .inl rfl, Nat.le_refl _⟩
theorem dtw_drop (l : List Ent) (j : Nat) (h : j + 1 < l.length) : dtw (l.drop j) = (decide ((l[j + 1]).1 = (l[j]).1) || dtw (l.drop (j + 1))) := by
  rw [List.drop_eq_getElem_cons (by omega : j < l.length), List.drop_eq_getElem_cons h]
  rfl
theorem dtw_last (l : List Ent) (j : Nat) (h : l.length ≤ j + 1) : dtw (l.drop j) = false := by
  by_cases hj : j < l.length
  · rw [List.drop_eq_getElem_cons hj, List.drop_of_length_le h]
    rfl
  · rw [List.drop_of_length_le (by omega)]
    rfl
theorem of12_any (A : Option Addr) (c : Nat) (l : List Ent) (w : World) (hr : Rd w A (ents l)) (hz : ESz l) (hl : l.length ≤ 9223372036854775807) (hT : Tabs w) :
    Calls Tryz.prog 9 #[.slice A l.length c] w (OfEnd12 w l) := by
  have HR := Lib.hid hr
  have HZ := Lib.hid hz
  have HT := Lib.hid hT
  have wl : IntKind.u64.wrap (l.length : Int) = (l.length : Int) := by rw [IntKind.wrap_u64]; omega
  have HM : Hid (∀ x : World, Calls Tryz.prog 29 #[.int .u64 (l.length : Int)] x fun e w' => e = .returned (.int .i64 (dmany l.length)) ∧ w' = x) := fun x => many_any l.length x
  have HNO : Hid (∀ E w', dof echk l = ([], E) → Below w.heap.size w w' → OfEnd12 w l (.returned (.tuple #[.slice none 0 0, .int .i64 E])) w') := fun E w' h hb => by
    unfold OfEnd12
    rw [h]
    exact ⟨_, rfl, sle_nil w', hb⟩
  clear hr hz hT
  by_cases hm : dmany l.length = 0
  · have hl16 : l.length ≤ 16 ∧ l ≠ [] := by
      unfold dmany at hm
      by_cases h0 : l.length = 0
      · rw [if_pos h0] at hm; exact absurd hm (by decide)
      by_cases h1 : 16 < l.length
      · rw [if_neg h0, if_pos h1] at hm; exact absurd hm (by decide)
      exact ⟨by omega, fun e => h0 (by rw [e]; rfl)⟩
    have HD1 : Hid (dall echk l ≠ 0 → dof echk l = ([], dall echk l)) := fun h => by unfold dof; rw [if_neg (by rw [hm]; simp), if_pos h]
    have HD2 : Hid (dall echk l = 0 → dtw (esort l) = true → dof echk l = ([], 14)) := fun h h2 => by unfold dof; rw [if_neg (by rw [hm]; simp), if_neg (by rw [h]; simp), if_pos h2]
    have HD3 : Hid (dall echk l = 0 → dtw (esort l) = false → dof echk l = (esort l, 0)) := fun h h2 => by unfold dof; rw [if_neg (by rw [hm]; simp), if_neg (by rw [h]; simp), if_neg (by rw [h2]; simp)]
    rw [hm] at HM
    have H0 : Hid (dall echk l = dall echk (l.drop 0)) := rfl
    have HL16 := Lib.hid hl16
    clear hm hl16
    go_enter Tryz.func9, Tryz.ntmps9
    go_wp2_with fail
    refine (HM.out _).mono ?_
    rintro e w1 ⟨rfl, rfl⟩
    go_wp2_with fail
    go_loopg [19] l.length (fun gk ki wr => ∃ k : Nat, k ≤ l.length ∧ l.length - k ≤ gk ∧ ki = .int .i64 (k : Int) ∧ Hid (dall echk l = dall echk (l.drop k)) ∧ Below w1.heap.size w1 wr)
    case atStart => exact ⟨0, Nat.zero_le _, by omega, rfl, H0, b0⟩
    case round =>
      obtain ⟨k, hk, hgk, rfl, HF, hbel⟩ := hrel
      by_cases hlt : k < l.length
      · obtain ⟨b, off, hA, hbl, c0, c1⟩ := (HR.out.below hbel).ent hlt
        have hf := HF.out
        rw [List.drop_eq_getElem_cons hlt, dall] at hf
        obtain ⟨z0, z1⟩ := HZ.out _ (List.getElem_mem hlt)
        generalize l[k] = x at *
        obtain ⟨x0, x1⟩ := x
        simp only at c0 c1 hf z0 z1
        have HFF := Lib.hid hf
        have HB := Lib.hid (ba hbel (.cells #[.string (txt x0), .string (txt x1)] 32))
        have HC := Lib.hid (echeck_any (txt x0) (txt x1) (wr.alloc (.cells #[.string (txt x0), .string (txt x1)] 32)) (by rw [txt_size]; omega) (by rw [txt_size]; omega) (HT.out.below HB.out))
        rw [txt_list, txt_list] at HC
        clear hf hbel HF H0 z0 z1
        subst hA
        by_cases hE : echk x0 x1 = 0
        · have hf := HFF.out
          rw [if_neg (by rw [hE]; simp)] at hf
          have HN := Lib.hid hf
          rw [hE] at HC
          clear hf HFF hE
          go_wp2_with fail
          refine HC.out.mono ?_
          rintro e w2 ⟨rfl, hb2⟩
          have HBW := Lib.hid (bb HB.out hb2)
          clear hb2 HC
          go_wp2_with fail
          go_roundg (l.length - (k + 1))
          case measure => omega
          case rel => exact ⟨k + 1, by omega, Nat.le_refl _, by go_num, HN, HBW.out⟩
        · have hf := HFF.out
          rw [if_pos hE] at hf
          obtain ⟨E, hEd⟩ : ∃ E, E = echk x0 x1 := ⟨_, rfl⟩
          rw [← hEd] at hE HC hf
          have hEi : (E != 0) = true := by rw [bne_iff_ne]; exact hE
          have HE : Hid (∀ w', Below w1.heap.size w1 w' → OfEnd12 w1 l (.returned (.tuple #[.slice none 0 0, .int .i64 E])) w') := fun w' hb => HNO.out E w' (by rw [HD1.out (by rw [hf]; exact hE), hf]) hb
          clear HFF hE hf hEd
          go_wp2_with fail
          refine HC.out.mono ?_
          rintro e w2 ⟨rfl, hb2⟩
          have HBW := Lib.hid (bb HB.out hb2)
          clear hb2 HC
          go_wp2_with fail
          go_ret2
          exact HE.out _ HBW.out
      · obtain rfl : k = l.length := by omega
        have hf := HF.out
        rw [List.drop_of_length_le (Nat.le_refl _), dall] at hf
        have HB := Lib.hid hbel
        have HCL := Lib.hid (clone12_any (c := c) (HR.out.below hbel) (by have := HL16.out.1; omega) HL16.out.2)
        have HY : Hid (dtw (esort l) = true → dof echk l = ([], 14)) := HD2.out hf
        have HN : Hid (dtw (esort l) = false → dof echk l = (esort l, 0)) := HD3.out hf
        clear hf hbel HF H0
        go_wp2_with fail
        refine HCL.out.mono ?_
        rintro e w2 ⟨g, cap, rfl, hown, hb2⟩
        have HSO := Lib.hid (sort12_any hown (by have := HL16.out.1; omega))
        have hglt := (hown.lt g rfl).1
        have HB2 := Lib.hid (bb HB.out hb2)
        clear hown hb2 HCL
        have hlsz := (esort_perm l).length_eq
        go_wp2_with fail
        refine HSO.out.mono ?_
        rintro e w3 ⟨rfl, hown3, hg3⟩
        have HB3 := Lib.hid (bg HB2.out hg3 (Nat.le_trans HB.out.size hglt))
        obtain ⟨A4, c4, hv4, hrd4, hc4, _⟩ := Rd.own hown3
        injection hv4 with e1 e2 e3
        subst e1 e3
        have HRS := Lib.hid hrd4
        have hc4i : (l.length : Int) ≤ (cap : Int) := by omega
        have HES : Hid (∀ x : World, Below w3.heap.size w3 x → dtw (esort l) = false → OfEnd12 w1 l (.returned (.tuple #[.slice (some ⟨g, 0, none⟩) l.length cap, .int .i64 0])) x) := fun x hx h => by
          unfold OfEnd12
          rw [HN.out h]
          refine ⟨_, rfl, ⟨some ⟨g, 0, none⟩, cap, by rw [hlsz], HRS.out.below hx, by rw [hlsz]; exact hc4⟩, bb HB3.out hx⟩
        have H0 : Hid (dtw (esort l) = dtw ((esort l).drop (1 - 1))) := rfl
        clear hown3 hg3 hrd4 HSO HN
        go_wp2_with fail
        generalize hS : esort l = S at *
        clear hS
        go_loopg [9] l.length (fun gk2 vi wr => ∃ i : Nat, 1 ≤ i ∧ i ≤ l.length ∧ l.length - i ≤ gk2 ∧ vi = .int .i64 (i : Int) ∧ Below w3.heap.size w3 wr ∧ Hid (dtw S = dtw (S.drop (i - 1))))
        case atStart => exact ⟨1, Nat.le_refl _, List.length_pos_iff.2 HL16.out.2, by omega, rfl, b0, H0⟩
        case round =>
          obtain ⟨i, hi1, hi2, hgk2, rfl, hb4, HD⟩ := hrel
          obtain ⟨j, rfl⟩ : ∃ j, i = j + 1 := ⟨i - 1, by omega⟩
          have hji : ((j + 1 : Nat) : Int) - 1 = (j : Int) := by omega
          rw [Nat.add_sub_cancel] at HD
          by_cases hil : j + 1 < l.length
          · obtain ⟨b', off', hA', hbl', c0, _⟩ := (HRS.out.below hb4).ent (k := j + 1) (by omega)
            obtain ⟨b'', off'', hA'', _, d0, _⟩ := (HRS.out.below hb4).ent (k := j) (by omega)
            injection hA' with hA'
            injection hA' with e1 e2
            injection hA'' with hA''
            injection hA'' with e3 e4
            subst e1 e2 e3 e4
            have hd := HD.out
            rw [dtw_drop S j (by omega)] at hd
            generalize S[j + 1] = x at *
            generalize S[j] = y at *
            obtain ⟨x0, x1⟩ := x
            obtain ⟨y0, y1⟩ := y
            simp only at c0 d0 hd
            have HD2 := Lib.hid hd
            have hjl : (j : Int) < (l.length : Int) := by omega
            have hjl1 : ((j + 1 : Nat) : Int) < (l.length : Int) := by omega
            have HB4 := Lib.hid hb4
            simp only [Nat.zero_add] at c0 d0
            clear hd HD hb4 H0
            by_cases he : x0 = y0
            · have hs : ((txt x0).toList == (txt y0).toList) = true := str_same (by rw [he])
              have HE : Hid (∀ x, Below w3.heap.size w3 x → OfEnd12 w1 l (.returned (.tuple #[.slice none 0 0, .int .i64 14])) x) := fun x hx => by
                refine HNO.out 14 x (HY.out ?_) (bb HB3.out hx)
                rw [HD2.out, he]
                simp
              clear he HD2
              go_wp2_with fail
              go_quiet (fail)
              go_wp2_with fail
              go_ret2
              exact HE.out _ (bn HB4.out _)
            · have hs : ((txt x0).toList == (txt y0).toList) = false := str_else fun e => he (txt_inj.1 e)
              have HNX : Hid (dtw S = dtw (S.drop (j + 1 + 1 - 1))) := by
                show _ = _
                rw [HD2.out, decide_eq_false he, Bool.false_or, Nat.add_sub_cancel]
              clear he HD2
              go_wp2_with fail
              go_quiet (fail)
              go_wp2_with fail
              go_roundg (l.length - (j + 1 + 1))
              case measure => omega
              case rel => exact ⟨j + 1 + 1, by omega, by omega, Nat.le_refl _, by go_num, bn HB4.out _, HNX⟩
          · have hd := HD.out
            rw [dtw_last S j (by omega)] at hd
            have HE := Lib.hid (HES.out _ hb4 hd)
            clear hd HD hb4 H0
            have hjl2 : ¬ ((j + 1 : Nat) : Int) < (l.length : Int) := by omega
            go_wp2_with fail
            go_ret2
            exact HE.out
  · have hmi : (dmany l.length != 0) = true := by rw [bne_iff_ne]; exact hm
    have HE : Hid (∀ w', Below w.heap.size w w' → OfEnd12 w l (.returned (.tuple #[.slice none 0 0, .int .i64 (dmany l.length)])) w') := fun w' hb => HNO.out _ w' (by unfold dof; rw [if_pos hm]) hb
    generalize dmany l.length = E at *
    clear hm
    go_enter Tryz.func9, Tryz.ntmps9
    go_wp2_with fail
    refine (HM.out _).mono ?_
    rintro e w1 ⟨rfl, rfl⟩
    go_wp2_with fail
    go_ret2
    exact HE.out _ b0
end Go.Proofs.YtgbgbdocgpdkgaaGreatDoor
end

section
/-
  The plain law of layer 10: lists brought together by rising keys; what of two ways of sorting is one. Plain theorems; no condition beside what each names.
-/
namespace Go.PM

section
variable {X : Type} (key : X → Nat)
/-- Put at its place, behind all of a lesser key. -/
def kins (x : X) : List X → List X
  | [] => [x]
  | y :: r => if key y < key x then y :: kins x r else x :: y :: r
def kfold : List X → List X → List X
  | acc, [] => acc
  | acc, x :: r => kfold (kins key x acc) r
def ksort (l : List X) : List X := kfold key [] l
theorem kins_perm (x : X) : ∀ l : List X, (kins key x l).Perm (x :: l)
  | [] => List.Perm.refl _
  | y :: r => by
    rw [kins]
    split
    · exact ((kins_perm x r).cons y).trans (List.Perm.swap x y r)
    · exact List.Perm.refl _
theorem kfold_perm : ∀ (l acc : List X), (kfold key acc l).Perm (acc ++ l)
  | [], acc => by rw [kfold, List.append_nil]
  | x :: r, acc => by
    rw [kfold]
    refine (kfold_perm r _).trans (((kins_perm key x acc).append_right r).trans ?_)
    exact List.perm_middle.symm
theorem ksort_perm (l : List X) : (ksort key l).Perm l := kfold_perm key l []
theorem kins_le (x : X) : ∀ l : List X, l.Pairwise (fun a b => key a ≤ key b) → (kins key x l).Pairwise (fun a b => key a ≤ key b)
  | [], _ => by simp [kins]
  | y :: r, h => by
    rw [List.pairwise_cons] at h
    rw [kins]
    split
    · rename_i hlt
      rw [List.pairwise_cons]
      refine ⟨fun b hb => ?_, kins_le x r h.2⟩
      rcases List.mem_cons.1 ((kins_perm key x r).mem_iff.1 hb) with rfl | hb
      · omega
      · exact h.1 b hb
    · rename_i hlt
      rw [List.pairwise_cons]
      refine ⟨fun b hb => ?_, by rw [List.pairwise_cons]; exact h⟩
      rcases List.mem_cons.1 hb with rfl | hb
      · omega
      · have := h.1 b hb; omega
theorem kfold_le : ∀ (l acc : List X), acc.Pairwise (fun a b => key a ≤ key b) → (kfold key acc l).Pairwise (fun a b => key a ≤ key b)
  | [], _, h => h
  | x :: r, acc, h => by rw [kfold]; exact kfold_le r _ (kins_le key x acc h)
theorem ksort_le (l : List X) : (ksort key l).Pairwise (fun a b => key a ≤ key b) := kfold_le key l [] List.Pairwise.nil
/-- Rising lists of the same elements are one. -/
theorem krise_one : ∀ l l' : List X, l.Perm l' → l.Pairwise (fun a b => key a < key b) → l'.Pairwise (fun a b => key a < key b) → l = l'
  | [], l', hp, _, _ => (List.nil_perm.1 hp).symm
  | x :: r, [], hp, _, _ => absurd (List.perm_nil.1 hp) (by simp)
  | x :: r, y :: s, hp, h, h' => by
    rw [List.pairwise_cons] at h h'
    have hx : x ∈ y :: s := hp.mem_iff.1 (by simp)
    have hy : y ∈ x :: r := hp.mem_iff.2 (by simp)
    have e : x = y := by
      rcases List.mem_cons.1 hx with e | hx
      · exact e
      rcases List.mem_cons.1 hy with e | hy
      · exact e.symm
      have h1 := h'.1 x hx
      have h2 := h.1 y hy
      omega
    subst e
    rw [krise_one r s (List.Perm.cons_inv hp) h.2 h'.2]
theorem krise_of {l : List X} (h : l.Pairwise (fun a b => key a ≤ key b)) (hn : (l.map key).Nodup) : l.Pairwise (fun a b => key a < key b) := by
  rw [List.Nodup, List.pairwise_map] at hn
  exact (h.and hn).imp fun ⟨h1, h2⟩ => by omega
theorem krise_nodup {l : List X} (h : l.Pairwise (fun a b => key a < key b)) : (l.map key).Nodup := by
  rw [List.Nodup, List.pairwise_map]
  exact h.imp fun h => by omega
theorem ksort_of {l l' : List X} (hp : l.Perm l') (hs : l'.Pairwise (fun a b => key a ≤ key b)) (hn : (l.map key).Nodup) : l' = ksort key l :=
  krise_one key l' _ (hp.symm.trans (ksort_perm key l).symm) (krise_of key hs ((hp.map key).nodup hn)) (krise_of key (ksort_le key l) (((ksort_perm key l).symm.map key).nodup hn))
/-- Neighbours that part: all rise. -/
theorem krise_next : ∀ {l : List X}, l.Pairwise (fun a b => key a ≤ key b) → (∀ i (h : i + 1 < l.length), key l[i] ≠ key l[i + 1]) → l.Pairwise (fun a b => key a < key b)
  | [], _, _ => List.Pairwise.nil
  | [x], _, _ => by simp
  | x :: y :: r, h, hn => by
    have ih := krise_next (l := y :: r) (List.pairwise_cons.1 h).2 fun i hi => hn (i + 1) (by simp at hi ⊢; omega)
    have h0 : key x ≠ key y := hn 0 (by simp)
    have h1 := (List.pairwise_cons.1 h).1
    rw [List.pairwise_cons]
    refine ⟨fun b hb => ?_, ih⟩
    have hxy := h1 y (by simp)
    rcases List.mem_cons.1 hb with rfl | hb
    · omega
    · have := (List.pairwise_cons.1 ih).1 b hb; omega
/-- Two neighbours of one key: some key stands twice. -/
theorem ktwice {l l' : List X} (hp : l.Perm l') {i : Nat} (h : i + 1 < l'.length) (he : key l'[i] = key l'[i + 1]) : ¬ (l.map key).Nodup := fun hn => by
  have hn' : (l'.map key).Nodup := (hp.map key).nodup hn
  rw [List.Nodup, List.pairwise_iff_getElem] at hn'
  exact hn' i (i + 1) (by simp; omega) (by simp; omega) (by omega) (by simpa using he)
/-- The place at which one is put. -/
theorem kins_at (x : X) : ∀ (l : List X) (k : Nat), k ≤ l.length → (∀ j (h : j < l.length), j < k → key l[j] < key x) → (∀ h : k < l.length, ¬ key l[k] < key x) → kins key x l = l.take k ++ x :: l.drop k
  | [], 0, _, _, _ => rfl
  | y :: r, 0, _, _, h => by
    have : ¬ key y < key x := h (by simp)
    rw [kins, if_neg this]
    rfl
  | y :: r, k + 1, hk, h1, h2 => by
    have : key y < key x := h1 0 (by simp) (by omega)
    rw [kins, if_pos this, kins_at x r k (by simpa using hk) (fun j hj hjk => h1 (j + 1) (by simp; omega) (by omega)) fun hk => h2 (by simp; omega)]
    rfl
  | [], k + 1, hk, _, _ => by simp at hk
end

/-- A field. -/
structure Fl where
  tag : Nat
  ty : Int
  num : Nat
  text : ByteArray
  inner : Fs
def Fs.toL : Fs → List Fl
  | .nil => []
  | .cons t y n s i r => ⟨t, y, n, s, i⟩ :: r.toL
def ofL : List Fl → Fs
  | [] => .nil
  | x :: r => .cons x.tag x.ty x.num x.text x.inner (ofL r)
theorem ofL_toL : ∀ f : Fs, ofL f.toL = f
  | .nil => rfl
  | .cons t y n s i r => by rw [Fs.toL, ofL, ofL_toL r]
theorem toL_ofL : ∀ l : List Fl, (ofL l).toL = l
  | [] => rfl
  | x :: r => by rw [ofL, Fs.toL, toL_ofL r]
theorem toL_len : ∀ f : Fs, f.toL.length = f.len
  | .nil => rfl
  | .cons t y n s i r => by rw [Fs.toL, List.length_cons, toL_len r, Fs.len]
theorem ofL_len (l : List Fl) : (ofL l).len = l.length := by rw [← toL_len, toL_ofL]
theorem toL_app : ∀ f g : Fs, (f.app g).toL = f.toL ++ g.toL
  | .nil, g => rfl
  | .cons t y n s i r, g => by rw [Fs.app, Fs.toL, toL_app r g, Fs.toL, List.cons_append]
theorem ofL_app (l m : List Fl) : ofL (l ++ m) = (ofL l).app (ofL m) := by
  rw [← ofL_toL ((ofL l).app (ofL m)), toL_app, toL_ofL, toL_ofL]
theorem ofL_count : ∀ l : List Fl, (ofL l).count = (l.map fun x => 1 + x.inner.count).sum
  | [] => rfl
  | x :: r => by rw [ofL, Fs.count, ofL_count r, List.map_cons, List.sum_cons]
theorem ofL_count_perm {l m : List Fl} (h : l.Perm m) : (ofL l).count = (ofL m).count := by
  rw [ofL_count, ofL_count]
  exact (h.map _).sum_nat
theorem ofL_all {P : Nat → Int → Nat → ByteArray → Prop} : ∀ l : List Fl, (ofL l).All P ↔ ∀ x ∈ l, P x.tag x.ty x.num x.text ∧ x.inner.All P
  | [] => by simp [ofL, Fs.All]
  | x :: r => by
    rw [ofL, Fs.All, ofL_all r]
    simp [and_assoc]
theorem ofL_all_perm {P : Nat → Int → Nat → ByteArray → Prop} {l m : List Fl} (h : l.Perm m) : (ofL l).All P ↔ (ofL m).All P := by
  rw [ofL_all, ofL_all]
  exact ⟨fun k x hx => k x (h.mem_iff.2 hx), fun k x hx => k x (h.mem_iff.1 hx)⟩
/-- Fields brought together: by rising tags, if none stands twice. -/
def fmrg (f : Fs) : Fs × Nat := if (f.toL.map Fl.tag).Nodup then (ofL (ksort Fl.tag f.toL), 0) else (.nil, 14)
def fcat : List Fs → Fs
  | [] => .nil
  | f :: r => f.app (fcat r)
theorem fmrg_yes {l l' : List Fl} (hp : l.Perm l') (hs : l'.Pairwise (fun a b => a.tag ≤ b.tag)) (hn : ∀ i (h : i + 1 < l'.length), l'[i].tag ≠ l'[i + 1].tag) : fmrg (ofL l) = (ofL l', 0) := by
  have h1 := krise_next Fl.tag hs hn
  have h2 : (l.map Fl.tag).Nodup := (hp.symm.map _).nodup (krise_nodup Fl.tag h1)
  unfold fmrg
  rw [toL_ofL, if_pos h2, ← ksort_of Fl.tag hp hs h2]
theorem fmrg_no {l l' : List Fl} (hp : l.Perm l') {i : Nat} (h : i + 1 < l'.length) (he : l'[i].tag = l'[i + 1].tag) : fmrg (ofL l) = (.nil, 14) := by
  unfold fmrg
  rw [toL_ofL, if_neg (ktwice Fl.tag hp h he)]
end Go.PM
namespace Go.Proofs.YtgbgbdocgpdkgaaGreatDoor
open Go.PM
/-- The first list that may not be. -/
def fbad : List Fs → Nat
  | [] => 0
  | f :: r => if fcheck f 0 0 ≠ 0 then fcheck f 0 0 else fbad r
def fmerge (l : List Fs) : Fs × Nat := if fbad l ≠ 0 then (.nil, fbad l) else fmrg (fcat l)
end Go.Proofs.YtgbgbdocgpdkgaaGreatDoor
end
