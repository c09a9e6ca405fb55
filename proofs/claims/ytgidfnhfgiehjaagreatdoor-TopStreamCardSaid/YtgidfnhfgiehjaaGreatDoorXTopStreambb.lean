/-
  Texts of the proof, joined: Awake16 SetEx PlainTop TopF TopS. Conditions: as each names.
-/
import Derived.Test.YtgidfnhfgiehjaaGreatDoorXTopStreamba
import Derived.Test.YtgidfnhfgiehjaaGreatDoorXTopStreamad
import Derived.Test.YtgidfnhfgiehjaaGreatDoorXTopStreamah
import Derived.Test.YtgidfnhfgiehjaaGreatDoorXTopStreamax
import Derived.Test.YtgidfnhfgiehjaaGreatDoorXTopStreamai

section
namespace Go.Proofs.YtgidfnhfgiehjaaGreatDoor
open Go.RowKit Go.PM
set_option maxRecDepth 100000
set_option maxHeartbeats 4000000
attribute [local go_sem ↓] Go.wp_at_zero Go.wp_at_succ
theorem dbeh_none (k : List UInt8) : dbehO none k = 0 := rfl
theorem exam16a (a : UInt8) (n : Nat) (ha : ugood [a] = true) (hn : n ≠ 0) : tchk echk [([([a], [])], n)] = 0 := by
  unfold tchk
  rw [if_neg (by simp), tchk1, if_neg (by rw [exam13r a n ha hn]; decide), if_neg (by rw [dbeh_none]; decide)]
  rfl
theorem exam16b : tchk echk [([([97], [])], 3), ([([98], [])], 2)] = 0 := by
  unfold tchk
  rw [if_neg (by simp), tchk1, if_neg (by rw [exam13r 97 3 exam13a (by decide)]; decide), if_neg (by rw [dbeh_none]; decide), tchk1, if_neg (by rw [exam13r 98 2 exam13b (by decide)]; decide), if_neg (by rw [exam13k, exam13k]; decide)]
  rfl
theorem awake16 (w : World) (hT : Tabs w) :
    Calls Tryz.prog 241 #[] w fun e w' => e = .returned (.bool true) ∧ Below w.heap.size w w' := by
  have hx0 := BlkAt.made w 132 #[.string ⟨#[97]⟩, .string ⟨#[]⟩]
  have hb0 := ba (a := w) b0 (.cells #[.string ⟨#[97]⟩, .string ⟨#[]⟩] 132)
  obtain ⟨wa, hwa⟩ : ∃ wa, wa = w.alloc (.cells #[.string ⟨#[97]⟩, .string ⟨#[]⟩] 132) := ⟨_, rfl⟩
  have hsa : wa.heap.size = w.heap.size + 1 := by rw [hwa]; simp
  rw [← hwa] at hx0 hb0
  have hx1 := BlkAt.made wa 132 #[.string ⟨#[98]⟩, .string ⟨#[]⟩]
  have hb1 := ba hb0 (.cells #[.string ⟨#[98]⟩, .string ⟨#[]⟩] 132)
  have hx0b := hx0.more (.cells #[.string ⟨#[98]⟩, .string ⟨#[]⟩] 132)
  obtain ⟨wb, hwb⟩ : ∃ wb, wb = wa.alloc (.cells #[.string ⟨#[98]⟩, .string ⟨#[]⟩] 132) := ⟨_, rfl⟩
  have hsb : wb.heap.size = w.heap.size + 1 + 1 := by rw [hwb]; simp [hsa]
  rw [← hwb] at hx1 hb1 hx0b
  rw [hsa] at hx1
  have hx2 := BlkAt.made wb 134 #[.slice (some ⟨w.heap.size, 0, none⟩) 1 1, .int .u64 1]
  have hb2 := ba hb1 (.cells #[.slice (some ⟨w.heap.size, 0, none⟩) 1 1, .int .u64 1] 134)
  have hx0c := hx0b.more (.cells #[.slice (some ⟨w.heap.size, 0, none⟩) 1 1, .int .u64 1] 134)
  have hx1c := hx1.more (.cells #[.slice (some ⟨w.heap.size, 0, none⟩) 1 1, .int .u64 1] 134)
  obtain ⟨wc, hwc⟩ : ∃ wc, wc = wb.alloc (.cells #[.slice (some ⟨w.heap.size, 0, none⟩) 1 1, .int .u64 1] 134) := ⟨_, rfl⟩
  have hsc : wc.heap.size = w.heap.size + 1 + 1 + 1 := by rw [hwc]; simp [hsb]
  rw [← hwc] at hx2 hb2 hx0c hx1c
  rw [hsb] at hx2
  have hx3 := BlkAt.made wc 134 #[.slice (some ⟨w.heap.size, 0, none⟩) 1 1, .int .u64 3, .slice (some ⟨w.heap.size + 1, 0, none⟩) 1 1, .int .u64 2]
  have hb3 := ba hb2 (.cells #[.slice (some ⟨w.heap.size, 0, none⟩) 1 1, .int .u64 3, .slice (some ⟨w.heap.size + 1, 0, none⟩) 1 1, .int .u64 2] 134)
  have hx0d := hx0c.more (.cells #[.slice (some ⟨w.heap.size, 0, none⟩) 1 1, .int .u64 3, .slice (some ⟨w.heap.size + 1, 0, none⟩) 1 1, .int .u64 2] 134)
  have hx1d := hx1c.more (.cells #[.slice (some ⟨w.heap.size, 0, none⟩) 1 1, .int .u64 3, .slice (some ⟨w.heap.size + 1, 0, none⟩) 1 1, .int .u64 2] 134)
  have hx2d := hx2.more (.cells #[.slice (some ⟨w.heap.size, 0, none⟩) 1 1, .int .u64 3, .slice (some ⟨w.heap.size + 1, 0, none⟩) 1 1, .int .u64 2] 134)
  obtain ⟨wd, hwd⟩ : ∃ wd, wd = wc.alloc (.cells #[.slice (some ⟨w.heap.size, 0, none⟩) 1 1, .int .u64 3, .slice (some ⟨w.heap.size + 1, 0, none⟩) 1 1, .int .u64 2] 134) := ⟨_, rfl⟩
  rw [← hwd] at hx3 hb3 hx0d hx1d hx2d
  rw [hsc] at hx3
  have hA : Rd wd (some ⟨w.heap.size + 1 + 1 + 1, 0, none⟩) (rvs [⟨[([97], [])], some ⟨w.heap.size, 0, none⟩, 1, 3⟩, ⟨[([98], [])], some ⟨w.heap.size + 1, 0, none⟩, 1, 2⟩]) := by
    refine .inr ⟨_, 0, rfl, hx3.lt, fun j u hj => ?_⟩
    rw [Nat.zero_add, hx3.cell j, List.getElem?_toArray]
    exact hj
  have hB : Rd wd (some ⟨w.heap.size + 1 + 1, 0, none⟩) (rvs [⟨[([97], [])], some ⟨w.heap.size, 0, none⟩, 1, 1⟩]) := by
    refine .inr ⟨_, 0, rfl, hx2d.lt, fun j u hj => ?_⟩
    rw [Nat.zero_add, hx2d.cell j, List.getElem?_toArray]
    exact hj
  have hro : ∀ r ∈ ([⟨[([97], [])], some ⟨w.heap.size, 0, none⟩, 1, 3⟩, ⟨[([98], [])], some ⟨w.heap.size + 1, 0, none⟩, 1, 2⟩, ⟨[([97], [])], some ⟨w.heap.size, 0, none⟩, 1, 1⟩] : List Rv), RvOk wd (fun _ => True) r := fun r hr => by
    simp only [List.mem_cons, List.not_mem_nil, or_false] at hr
    rcases hr with rfl | rfl | rfl
    · exact ⟨Nat.le_refl 1, (rd_ent1 hx0d).rdI fun _ _ _ => trivial⟩
    · exact ⟨Nat.le_refl 1, (rd_ent1 hx1d).rdI fun _ _ _ => trivial⟩
    · exact ⟨Nat.le_refl 1, (rd_ent1 hx0d).rdI fun _ _ _ => trivial⟩
  have hz : ∀ r ∈ ([⟨[([97], [])], some ⟨w.heap.size, 0, none⟩, 1, 3⟩, ⟨[([98], [])], some ⟨w.heap.size + 1, 0, none⟩, 1, 2⟩, ⟨[([97], [])], some ⟨w.heap.size, 0, none⟩, 1, 1⟩] : List Rv), ESz r.d ∧ r.d.length ≤ 9223372036854775807 := fun r hr => by
    simp only [List.mem_cons, List.not_mem_nil, or_false] at hr
    rcases hr with rfl | rfl | rfl <;> exact ⟨fun e he => by simp only [List.mem_cons, List.not_mem_nil, or_false] at he; subst he; simp, by simp⟩
  have HO := Lib.hid (diff16 _ _ _ _ _ 2 1 1 1 _ _ _ wd (hT.below hb3) rfl rfl rfl hA hB hro hz exam16b (exam16a 97 1 exam13a (by decide)))
  have HB3 := Lib.hid hb3
  have HA : Hid (∀ x : World, Below w.heap.size w x → Calls Tryz.prog 243 #[] x fun e w' => e = .returned (.bool true) ∧ Below x.heap.size x w') := fun x hx => awakeE15 x (hT.below hx)
  clear hA hB hro hz hx0 hx0b hx0c hx0d hx1 hx1c hx1d hx2 hx2d hx3 hb0 hb1 hb2 hb3 hT hsa hsb hsc
  subst hwd hwc hwb hwa
  go_enter Tryz.func241, Tryz.ntmps241
  go_wp2_with fail
  refine HO.out.mono ?_
  rintro e w3 ⟨A', c2, bb0, ee0, rfl, ⟨l, A, c, hs, hl, hrl, hol, hlc, hfr⟩, hb4⟩
  obtain ⟨r0, r1, rfl⟩ : ∃ r0 r1, l = [r0, r1] := list_two (by have := congrArg List.length hl; rw [List.length_map] at this; exact this.symm)
  have hn0 : r0.n = 2 := by simp only [List.map_cons, List.cons.injEq] at hl; have := congrArg Prod.snd hl.1; simpa [Rv.rw] using this.symm
  have hn1 : r1.n = 2 := by simp only [List.map_cons, List.cons.injEq] at hl; have := congrArg Prod.snd hl.2.1; simpa [Rv.rw] using this.symm
  injection hs with e1 _ e3
  subst e1 e3
  have HB4 := Lib.hid (bb HB3.out hb4)
  have hbd := ba (a := w3) b0 (.cells #[.int .u64 bb0, .int .u64 ee0, .slice A' 2 c2] 321)
  have HX := Lib.hid (BlkAt.made w3 321 #[.int .u64 bb0, .int .u64 ee0, .slice A' 2 c2])
  have HRL := Lib.hid (hrl.below hbd)
  have HBD := Lib.hid (bb HB4.out hbd)
  clear hl hol hlc hfr hb4 hrl HO HB3 hbd
  go_wp2_with fail
  refine (HA.out _ HBD.out).mono ?_
  rintro e w4 ⟨rfl, hb5⟩
  have hrd4 := HRL.out.below hb5
  have hx4 := HX.out.below hb5 HX.out.lt
  have d2 := hx4.cell 2
  have hlx := hx4.lt
  simp at d2
  obtain ⟨b, off, hA, hbl, _, c1⟩ := hrd4.row (k := 0) (by simp)
  obtain ⟨b', off', hA', _, _, c3⟩ := hrd4.row (k := 1) (by simp)
  rw [hA] at hA'
  injection hA' with hA'
  injection hA' with e1 e2
  subst e1 e2 hA
  simp only [List.getElem_cons_zero, List.getElem_cons_succ, hn0, hn1, Nat.zero_mul, Nat.one_mul, Nat.add_zero] at c1 c3
  have HB6 := Lib.hid (bb HBD.out hb5)
  clear hb5 hrd4 HRL HA HB4 HBD hn0 hn1 hx4 HX
  go_wp2_with fail
  go_ret
  exact ⟨rfl, HB6.out⟩
theorem awakeE16 (w : World) (hT : Tabs w) : Calls Tryz.prog 238 #[] w fun e w' => e = .returned (.bool true) ∧ Below w.heap.size w w' := by
  have H := Lib.hid (awake16 w hT)
  clear hT
  go_enter Tryz.func238, Tryz.ntmps238
  go_wp2_with fail
  refine H.out.mono ?_
  rintro e w' ⟨rfl, hb⟩
  go_wp2
  go_ret
  exact ⟨rfl, hb⟩
theorem awake17 (w : World) (hT : Tabs w) :
    Calls Tryz.prog 237 #[] w fun e w' => e = .returned (.bool true) ∧ Below w.heap.size w w' := by
  have H := Lib.hid (awakeE16 w hT)
  have HTG : Hid (∀ x : World, Calls Tryz.prog 41 #[.int .i64 7, .int .i64 2] x fun e w' => ∃ A c, e = .returned (.slice A 1 c) ∧ Rd w' A (u64s [1]) ∧ 1 ≤ c ∧ Below x.heap.size x w') := fun x => tags17 7 2 x (by decide) (by decide) (by decide) (by decide)
  have HNM : Hid (∀ x : World, Calls Tryz.prog 240 #[.int .i64 7] x fun e w' => e = .returned (.string ⟨#[65, 99, 107]⟩) ∧ Below x.heap.size x w') := fun x => name17 7 x (by unfold InI64; decide)
  clear hT
  have hs : (ByteArray.mk #[65, 99, 107]).toList = [65, 99, 107] := by rw [ByteArray.toList_eq]
  go_enter Tryz.func237, Tryz.ntmps237
  go_wp2_with fail
  refine H.out.mono ?_
  rintro e w1 ⟨rfl, hb1⟩
  have HB1 := Lib.hid hb1
  clear hb1 H
  go_wp2_with fail
  refine (HTG.out _).mono ?_
  rintro e w2 ⟨A, c, rfl, hrd, hc, hb2⟩
  have HB2 := Lib.hid (bb HB1.out hb2)
  have hx := BlkAt.made w2 22 #[.int .u64 1]
  have hbx := ba (a := w2) b0 (.cells #[.int .u64 1] 22)
  have hr2 : Rd (w2.alloc (.cells #[.int .u64 1] 22)) (some ⟨w2.heap.size, 0, none⟩) (u64s [1]) := by
    refine .inr ⟨_, 0, rfl, hx.lt, fun j u hj => ?_⟩
    rw [Nat.zero_add, hx.cell j, List.getElem?_toArray]
    exact hj
  have HEQ := Lib.hid (equ64 A _ c 1 [1] _ (hrd.below hbx) hr2 (by decide))
  have HBX := Lib.hid (bb HB2.out hbx)
  clear hrd hc hb2 hx hbx hr2
  go_wp2_with fail
  refine HEQ.out.mono ?_
  rintro e w3 ⟨rfl, hb3⟩
  have HB3 := Lib.hid (bb HBX.out hb3)
  clear hb3 HEQ
  go_wp2_with fail
  refine (HNM.out _).mono ?_
  rintro e w4 ⟨rfl, hb4⟩
  have HB4 := Lib.hid (bb HB3.out hb4)
  clear hb4
  go_wp2_with fail
  go_ret
  exact ⟨rfl, HB4.out⟩
theorem awakeE17 (w : World) (hT : Tabs w) : Calls Tryz.prog 236 #[] w fun e w' => e = .returned (.bool true) ∧ Below w.heap.size w w' := by
  have H := Lib.hid (awake17 w hT)
  clear hT
  go_enter Tryz.func236, Tryz.ntmps236
  go_wp2_with fail
  refine H.out.mono ?_
  rintro e w' ⟨rfl, hb⟩
  go_wp2
  go_ret
  exact ⟨rfl, hb⟩
end Go.Proofs.YtgidfnhfgiehjaaGreatDoor
end

section
namespace Go.Proofs.YtgidfnhfgiehjaaGreatDoor
open Go.RowKit Go.PM
set_option maxRecDepth 100000
set_option maxHeartbeats 4000000
attribute [local go_sem ↓] Go.wp_at_zero Go.wp_at_succ
theorem wpList_load_blk_w {P : Program} {ops : Array Oper} {rest : List Oper} {op : Oper} {a : Act} {w : World} {Q : Exit → Act → World → Prop} (hw : Region.wanted op (yielded ops a.tmps) = true) (ty : TypeId) (x : Operand) (ho : op.op = .load ty x)
    (b : Nat) (hx : a.eval x = .pointer (some ⟨b, 0, none⟩)) {t : TypeId} (cs : Array Value) (hc : BlkAt w b t cs) {d : TypeDesc}
    (hu : P.underlying ty = some d) (hd : d.isRow = true) (hi : (P.info? ty).map (·.size) = some cs.size)
    (h : wpList P ops Q rest (a.put op.dst (.agg cs)) w) : wpList P ops Q (op :: rest) a w :=
  wpList_step fun K hK => by
    rw [if_pos hw]
    exact wp_load_mid ty x ho b 0 hx cs.toList d (fun j v hv => by rw [Nat.zero_add, hc.cell j, ← Array.getElem?_toList]; exact hv) hu hd (by rw [hi]; simp) (hK _ _ (by simpa using h))
theorem mgv_nil (w : World) (m : Mp) (hd : m.d = []) (ht : m.t = []) (hr : m.rest = .nil) : MgV w (fun _ => True) m (.slice none 0 0) (.slice none 0 0) (.slice none 0 0) := by
  refine ⟨⟨none, 0, by rw [hd]; rfl, by rw [hd]; exact Nat.le_refl _, .inl hd⟩, by rw [ht]; exact TbV.nil _ _, by rw [hr]; exact SlV.nil _ _ _ _⟩
theorem msz_small {m : Mp} (hk : InI64 m.kind) (hm : ∀ i, i < 22 → (m.val i).may = 0) (hg : ∀ i, i < 22 → (m.val i).good) (hr : m.rest = .nil) : Msz m := by
  refine msz_of hk hm hg ?_ ?_ ?_ <;> rw [hr]
  · trivial
  · exact Nat.zero_le _
  · exact Nat.zero_le _
theorem e18_sz : Msz e18 := msz_small (by unfold InI64; decide) m0_may m0_good rfl
theorem e18b_sz : Msz e18b := msz_small (by unfold InI64; decide) (by refine cases22 ?_ ?_ ?_ ?_ ?_ ?_ ?_ ?_ ?_ ?_ ?_ ?_ ?_ ?_ ?_ ?_ ?_ ?_ ?_ ?_ ?_ ?_ <;> first | rfl | exact uchk_nil) (by
  refine cases22 ?_ ?_ ?_ ?_ ?_ ?_ ?_ ?_ ?_ ?_ ?_ ?_ ?_ ?_ ?_ ?_ ?_ ?_ ?_ ?_ ?_ ?_ <;> simp [e18b, m0, Mp.val, Mv.good, InI64]) rfl
theorem e19_sz : Msz e19 := msz_small (by unfold InI64; decide) (by refine cases22 ?_ ?_ ?_ ?_ ?_ ?_ ?_ ?_ ?_ ?_ ?_ ?_ ?_ ?_ ?_ ?_ ?_ ?_ ?_ ?_ ?_ ?_ <;> first | rfl | exact uchk_nil) (by
  refine cases22 ?_ ?_ ?_ ?_ ?_ ?_ ?_ ?_ ?_ ?_ ?_ ?_ ?_ ?_ ?_ ?_ ?_ ?_ ?_ ?_ ?_ ?_ <;> simp [e19, m0, Mp.val, Mv.good, InI64]) rfl
theorem e20_sz : Msz e20 := msz_small (by unfold InI64; decide) (by refine cases22 ?_ ?_ ?_ ?_ ?_ ?_ ?_ ?_ ?_ ?_ ?_ ?_ ?_ ?_ ?_ ?_ ?_ ?_ ?_ ?_ ?_ ?_ <;> first | rfl | exact uchk_nil | exact uchk_eu) (by
  refine cases22 ?_ ?_ ?_ ?_ ?_ ?_ ?_ ?_ ?_ ?_ ?_ ?_ ?_ ?_ ?_ ?_ ?_ ?_ ?_ ?_ ?_ ?_ <;> simp [e20, m0, Mp.val, Mv.good, InI64]) rfl
theorem awake18 (w : World) (hT : Tabs w) :
    Calls Tryz.prog 231 #[] w fun e w' => e = .returned (.bool true) ∧ Below w.heap.size w w' := by
  have HA : Hid (∀ x : World, Below w.heap.size w x → Calls Tryz.prog 236 #[] x fun e w' => e = .returned (.bool true) ∧ Below x.heap.size x w') := fun x hx => awakeE17 x (hT.below hx)
  have HC1 : Hid (∀ x : World, Below w.heap.size w x → Calls Tryz.prog 43 #[.agg (mvs e18 (.slice none 0 0) (.slice none 0 0) (.slice none 0 0)), .int .i64 1] x fun e w' => e = .returned (.int .i64 0) ∧ Below x.heap.size x w') := fun x hx => by
    have := mcheck_any 1 (by decide) (by decide) x (mgv_nil x e18 rfl rfl rfl) e18_sz (hT.below hx)
    unfold CkEnd at this
    rw [ex18a] at this
    exact this
  have HC2 : Hid (∀ x : World, Below w.heap.size w x → Calls Tryz.prog 43 #[.agg (mvs e18b (.slice none 0 0) (.slice none 0 0) (.slice none 0 0)), .int .i64 2] x fun e w' => e = .returned (.int .i64 26) ∧ Below x.heap.size x w') := fun x hx => by
    have := mcheck_any 2 (by decide) (by decide) x (mgv_nil x e18b rfl rfl rfl) e18b_sz (hT.below hx)
    unfold CkEnd at this
    rw [ex18b] at this
    exact this
  have HC3 : Hid (∀ x : World, Below w.heap.size w x → Calls Tryz.prog 43 #[.agg (mvs e18b (.slice none 0 0) (.slice none 0 0) (.slice none 0 0)), .int .i64 3] x fun e w' => e = .returned (.int .i64 0) ∧ Below x.heap.size x w') := fun x hx => by
    have := mcheck_any 3 (by decide) (by decide) x (mgv_nil x e18b rfl rfl rfl) e18b_sz (hT.below hx)
    unfold CkEnd at this
    rw [ex18c] at this
    exact this
  clear hT
  have hm1 := BlkAt.made w 35 zmvs
  have hm2 := putAll_at (ds := mvs e18 (.slice none 0 0) (.slice none 0 0) (.slice none 0 0)) hm1 rfl
  have hs1 : (World.putAll (w.alloc (.cells zmvs 35)) w.heap.size (mvs e18 (.slice none 0 0) (.slice none 0 0) (.slice none 0 0))).heap.size = w.heap.size + 1 := by rw [putAll_size]; simp
  have hb1 : Below w.heap.size w (World.putAll (w.alloc (.cells zmvs 35)) w.heap.size (mvs e18 (.slice none 0 0) (.slice none 0 0) (.slice none 0 0))) :=
    (ba (a := w) b0 (.cells zmvs 35)).trans ((putAll_tch _ w.heap.size _).toBelowB (by simp) fun g hg e => by omega)
  obtain ⟨w1, hw1⟩ : ∃ w1, w1 = World.putAll (w.alloc (.cells zmvs 35)) w.heap.size (mvs e18 (.slice none 0 0) (.slice none 0 0) (.slice none 0 0)) := ⟨_, rfl⟩
  rw [← hw1] at hm2 hs1 hb1
  have hn1 := BlkAt.made w1 35 zmvs
  have hn2 := putAll_at (ds := mvs e18b (.slice none 0 0) (.slice none 0 0) (.slice none 0 0)) hn1 rfl
  have hs2 : (World.putAll (w1.alloc (.cells zmvs 35)) w1.heap.size (mvs e18b (.slice none 0 0) (.slice none 0 0) (.slice none 0 0))).heap.size = w1.heap.size + 1 := by rw [putAll_size]; simp
  have hb2 : Below w1.heap.size w1 (World.putAll (w1.alloc (.cells zmvs 35)) w1.heap.size (mvs e18b (.slice none 0 0) (.slice none 0 0) (.slice none 0 0))) :=
    (ba (a := w1) b0 (.cells zmvs 35)).trans ((putAll_tch _ w1.heap.size _).toBelowB (by simp) fun g hg e => by omega)
  obtain ⟨w2, hw2⟩ : ∃ w2, w2 = World.putAll (w1.alloc (.cells zmvs 35)) w1.heap.size (mvs e18b (.slice none 0 0) (.slice none 0 0) (.slice none 0 0)) := ⟨_, rfl⟩
  rw [← hw2] at hn2 hs2 hb2
  have HM1 := Lib.hid hm1
  have HN1 := Lib.hid hn1
  have HMM := Lib.hid (hm2.below hb2 hm2.lt)
  have HNN := Lib.hid hn2
  have HB2 := Lib.hid (bb hb1 hb2)
  simp only [zmvs] at HM1 HN1 hw1 hw2
  clear hm1 hm2 hb1 hn1 hn2 hb2 hs2 hs1
  go_enter Tryz.func231, Tryz.ntmps231
  go_wp2_with
    (with_reducible show wpList _ _ _ (Oper.mk _ (Op.store 35 _ _) _ _ _ _ :: _) _ _; apply pin)
  refine wpList_store_blk rfl _ _ _ rfl _ (mvs e18 (.slice none 0 0) (.slice none 0 0) (.slice none 0 0)) rfl rfl HM1.out rfl (info_msg _ _ _ _) mvs_one ?_
  rw [← hw1]
  clear hw1 HM1
  simp only [Act.put]
  go_wp2_with
    (with_reducible show wpList _ _ _ (Oper.mk _ (Op.store 35 _ _) _ _ _ _ :: _) _ _; apply pin)
  refine wpList_store_blk rfl _ _ _ rfl _ (mvs e18b (.slice none 0 0) (.slice none 0 0) (.slice none 0 0)) rfl rfl HN1.out rfl (info_msg _ _ _ _) mvs_one ?_
  rw [← hw2]
  clear hw2 HN1
  simp only [Act.put]
  go_wp2_with fail
  refine (HA.out _ HB2.out).mono ?_
  rintro e w3 ⟨rfl, hb3⟩
  have HM3 := Lib.hid (HMM.out.below hb3 HMM.out.lt)
  have HN3 := Lib.hid (HNN.out.below hb3 HNN.out.lt)
  have HB3 := Lib.hid (bb HB2.out hb3)
  clear hb3 HMM HNN HB2
  go_wp2_with
    (with_reducible show wpList _ _ _ (Oper.mk _ (Op.load 35 _) _ _ _ _ :: _) _ _; apply pin)
  refine wpList_load_blk_w (by rfl) _ _ rfl _ rfl _ HM3.out Tryz.underlying35 rfl (info_msg _ _ _ _) ?_
  go_wp2_with fail
  refine (HC1.out _ HB3.out).mono ?_
  rintro e w4 ⟨rfl, hb4⟩
  have HN4 := Lib.hid (HN3.out.below hb4 HN3.out.lt)
  have HB4 := Lib.hid (bb HB3.out hb4)
  clear hb4 HM3 HN3 HB3
  go_wp2_with
    (with_reducible show wpList _ _ _ (Oper.mk _ (Op.load 35 _) _ _ _ _ :: _) _ _; apply pin)
  refine wpList_load_blk_w (by rfl) _ _ rfl _ rfl _ HN4.out Tryz.underlying35 rfl (info_msg _ _ _ _) ?_
  go_wp2_with fail
  refine (HC2.out _ HB4.out).mono ?_
  rintro e w5 ⟨rfl, hb5⟩
  have HN5 := Lib.hid (HN4.out.below hb5 HN4.out.lt)
  have HB5 := Lib.hid (bb HB4.out hb5)
  clear hb5 HN4 HB4
  go_wp2_with
    (with_reducible show wpList _ _ _ (Oper.mk _ (Op.load 35 _) _ _ _ _ :: _) _ _; apply pin)
  refine wpList_load_blk_w (by rfl) _ _ rfl _ rfl _ HN5.out Tryz.underlying35 rfl (info_msg _ _ _ _) ?_
  go_wp2_with fail
  refine (HC3.out _ HB5.out).mono ?_
  rintro e w6 ⟨rfl, hb6⟩
  have HB6 := Lib.hid (bb HB5.out hb6)
  clear hb6 HN5 HB5
  go_wp2_with fail
  go_ret
  exact ⟨rfl, HB6.out⟩
theorem awakeE18 (w : World) (hT : Tabs w) : Calls Tryz.prog 211 #[] w fun e w' => e = .returned (.bool true) ∧ Below w.heap.size w w' := by
  have H := Lib.hid (awake18 w hT)
  clear hT
  go_enter Tryz.func211, Tryz.ntmps211
  go_wp2_with fail
  refine H.out.mono ?_
  rintro e w' ⟨rfl, hb⟩
  go_wp2
  go_ret
  exact ⟨rfl, hb⟩
theorem awake19 (w : World) (hT : Tabs w) :
    Calls Tryz.prog 172 #[] w fun e w' => e = .returned (.bool true) ∧ Below w.heap.size w w' := by
  have HA : Hid (∀ x : World, Below w.heap.size w x → Calls Tryz.prog 211 #[] x fun e w' => e = .returned (.bool true) ∧ Below x.heap.size x w') := fun x hx => awakeE18 x (hT.below hx)
  have HC1 : Hid (Calls Tryz.prog 11 #[.agg (mvs e19 (.slice none 0 0) (.slice none 0 0) (.slice none 0 0)), .int .i64 1] w fun e w' => e = .returned (.tuple #[.string ⟨#[7, 4, 7]⟩, .int .i64 0]) ∧ Below w.heap.size w w') := by
    have := encode19 1 (by decide) (by decide) w (mgv_nil w e19 rfl rfl rfl) e19_sz hT
    unfold TxEnd at this
    rw [ex19] at this
    exact this
  clear hT
  simp only [mvs, e19, m0] at HC1
  have hs : (ByteArray.mk #[7, 4, 7]).toList = [7, 4, 7] := by rw [ByteArray.toList_eq]
  go_enter Tryz.func172, Tryz.ntmps172
  go_wp2_with fail
  refine HC1.out.mono ?_
  rintro e w1 ⟨rfl, hb1⟩
  have HB1 := Lib.hid hb1
  clear hb1 HC1
  go_wp2_with fail
  refine (HA.out _ HB1.out).mono ?_
  rintro e w2 ⟨rfl, hb2⟩
  have HB2 := Lib.hid (bb HB1.out hb2)
  clear hb2 HB1
  go_wp2_with fail
  go_ret
  exact ⟨rfl, HB2.out⟩
theorem awakeE19 (w : World) (hT : Tabs w) : Calls Tryz.prog 123 #[] w fun e w' => e = .returned (.bool true) ∧ Below w.heap.size w w' := by
  have H := Lib.hid (awake19 w hT)
  clear hT
  go_enter Tryz.func123, Tryz.ntmps123
  go_wp2_with fail
  refine H.out.mono ?_
  rintro e w' ⟨rfl, hb⟩
  go_wp2
  go_ret
  exact ⟨rfl, hb⟩
def s20 : List UInt8 := [1, 4, 1, 8, 2, 17, 2, 101, 117]
theorem across20 (w : World) (hT : Tabs w) : Calls Tryz.prog 171 #[.agg (mvs e20 (.slice none 0 0) (.slice none 0 0) (.slice none 0 0)), .int .i64 2, .int .i64 1] w (DecEnd w (e20r, 0)) := by
  have HT := Lib.hid hT
  clear hT
  have HM := Lib.hid (BlkAt.made w 35 (mvs e20 (.slice none 0 0) (.slice none 0 0) (.slice none 0 0)))
  obtain ⟨wz, hwz⟩ : ∃ wz, wz = w.alloc (.cells (mvs e20 (.slice none 0 0) (.slice none 0 0) (.slice none 0 0)) 35) := ⟨_, rfl⟩
  have hsz : wz.heap.size = w.heap.size + 1 := by rw [hwz]; simp
  have hbz : Below w.heap.size w wz := by rw [hwz]; exact ba b0 _
  rw [← hwz] at HM
  have hmr := BlkAt.made wz 35 zmvs
  rw [hsz] at hmr
  obtain ⟨wr, hwr⟩ : ∃ wr, wr = wz.alloc (.cells zmvs 35) := ⟨_, rfl⟩
  have hbr : Below w.heap.size w wr := by rw [hwr]; exact ba hbz _
  have hsr : wr.heap.size = w.heap.size + 1 + 1 := by rw [hwr, World.size_alloc, hsz]
  have hm2 : BlkAt wr w.heap.size 35 (mvs e20 (.slice none 0 0) (.slice none 0 0) (.slice none 0 0)) := by rw [hwr]; exact HM.out.more _
  rw [← hwr] at hmr
  have HMA := Lib.hid hm2
  have HMR := Lib.hid hmr
  have HBR := Lib.hid hbr
  simp only [mvs, e20, m0] at hwz
  simp only [zmvs] at hwr
  have hwr2 : (w.alloc (.cells #[.int .i64 1, .int .u64 0, .int .u64 1, .int .u64 2, .int .u64 0, .int .u64 0, .int .u64 0, .int .u64 0, .int .u64 0, .int .u64 0, .int .u64 0, .int .u64 0, .int .u64 0, .int .u64 0, .int .u64 0, .int .u64 0, .int .i64 0, .bool false, .string ⟨#[]⟩, .string ⟨#[101, 117]⟩, .string ⟨#[]⟩, .slice none 0 0, .slice none 0 0, .slice none 0 0] 35)).alloc (.cells #[.int .i64 0, .int .u64 0, .int .u64 0, .int .u64 0, .int .u64 0, .int .u64 0, .int .u64 0, .int .u64 0, .int .u64 0, .int .u64 0, .int .u64 0, .int .u64 0, .int .u64 0, .int .u64 0, .int .u64 0, .int .u64 0, .int .i64 0, .bool false, .string ⟨#[]⟩, .string ⟨#[]⟩, .string ⟨#[]⟩, .slice none 0 0, .slice none 0 0, .slice none 0 0] 35) = wr := by rw [hwr, hwz]; rfl
  have HWR := Lib.hid hwr2
  have HSR := Lib.hid hsr
  clear hmr hwr hwz HM hbz hsz hbr hwr2 hm2 hsr
  show Calls _ _ #[.agg #[.int .i64 1, .int .u64 0, .int .u64 1, .int .u64 2, .int .u64 0, .int .u64 0, .int .u64 0, .int .u64 0, .int .u64 0, .int .u64 0, .int .u64 0, .int .u64 0, .int .u64 0, .int .u64 0, .int .u64 0, .int .u64 0, .int .i64 0, .bool false, .string ⟨#[]⟩, .string ⟨#[101, 117]⟩, .string ⟨#[]⟩, .slice none 0 0, .slice none 0 0, .slice none 0 0], .int .i64 2, .int .i64 1] _ _
  have HEN : Hid (Calls Tryz.prog 11 #[.agg (mvs e20 (.slice none 0 0) (.slice none 0 0) (.slice none 0 0)), .int .i64 2] wr fun e w' => e = .returned (.tuple #[.string (txt s20), .int .i64 0]) ∧ Below wr.heap.size wr w') := by
    have := encode19 2 (by decide) (by decide) wr (mgv_nil wr e20 rfl rfl rfl) e20_sz (HT.out.below HBR.out)
    unfold TxEnd at this
    rw [ex20] at this
    exact this
  have HDE : Hid (∀ x, Below w.heap.size w x → Calls Tryz.prog 12 #[.string (txt s20), .int .i64 1] x (DecEnd x (e20r, 0))) := fun x hx => by
    have := decode19 1 (by decide) (by decide) (txt s20) (by rw [txt_size]; decide) x (HT.out.below hx)
    rw [show (txt s20).data.toList = s20 from by simp [txt], show mdecode s20 1 = (e20r, 0) from ex20d] at this
    exact this
  generalize txt s20 = S at *
  go_enter Tryz.func171, Tryz.ntmps171
  go_wp2_with
    (with_reducible show wpList _ _ _ (Oper.mk _ (Op.load 35 _) _ _ _ _ :: _) _ _; apply pin)
  rw [HWR.out]
  refine wpList_load_blk rfl _ _ rfl _ rfl _ HMA.out Tryz.underlying35 rfl (info_msg _ _ _ _) ?_
  simp only [Act.put]
  go_wp2_with fail
  refine HEN.out.mono ?_
  rintro e w1 ⟨rfl, hb1⟩
  have HB1 := Lib.hid (bb HBR.out hb1)
  have HR1 := Lib.hid (HMR.out.below hb1 HMR.out.lt)
  have HS1 := hb1.size
  have hsr := HSR.out
  clear hb1 HEN HMA HWR HMR
  go_wp2_with fail
  refine (HDE.out _ HB1.out).mono ?_
  rintro e w2 ⟨dv, tv, rv, rfl, hmg, hb2⟩
  have HB2 := Lib.hid (bb HB1.out hb2)
  have HR2 := Lib.hid (HR1.out.below hb2 HR1.out.lt)
  have HSB : Hid (w.heap.size + 1 < w1.heap.size) := by show _ < _; omega
  clear hb2 HDE HR1
  obtain ⟨dA, dc, tA, tc, rA, rc, rfl, rfl, rfl⟩ := hmg.slices
  go_wp2_with
    (with_reducible show wpList _ _ _ (Oper.mk _ (Op.store 35 _ _) _ _ _ _ :: _) _ _; apply pin)
  refine wpList_store_blk rfl _ _ _ rfl _ _ rfl rfl HR2.out rfl (info_msg _ _ _ _) mvs_one ?_
  simp only [Act.put]
  go_wp2_with fail
  refine bodyPost_ret (v := .tuple #[.agg (mvs e20r (.slice dA e20r.d.length dc) (.slice tA e20r.t.length tc) (.slice rA e20r.rest.len rc)), .int .i64 0]) (by exact results_blk_tmp rfl _ _ (w.heap.size + 1) 35 _ _ (.int .i64 0) rfl (putAll_at HR2.out rfl) Tryz.underlying35 rfl (info_msg _ _ _ _) rfl) rfl ?_
  have hpa := putAll_tch w2 (w.heap.size + 1) (mvs e20r (.slice dA e20r.d.length dc) (.slice tA e20r.t.length tc) (.slice rA e20r.rest.len rc))
  have hsb := HSB.out
  exact ⟨_, _, _, rfl, (hmg.tch hpa fun k hk e => by omega).mono (by omega), (HB2.out).trans (hpa.toBelowB (HB2.out).size fun g hg e => by omega)⟩
theorem lower20 (w : World) (hT : Tabs w) : Calls Tryz.prog 122 #[.agg (mvs e20 (.slice none 0 0) (.slice none 0 0) (.slice none 0 0)), .int .i64 2, .int .i64 1] w (DecEnd w (e20r, 0)) := by
  have HT := Lib.hid hT
  clear hT
  have HM := Lib.hid (BlkAt.made w 35 (mvs e20 (.slice none 0 0) (.slice none 0 0) (.slice none 0 0)))
  obtain ⟨wz, hwz⟩ : ∃ wz, wz = w.alloc (.cells (mvs e20 (.slice none 0 0) (.slice none 0 0) (.slice none 0 0)) 35) := ⟨_, rfl⟩
  have hsz : wz.heap.size = w.heap.size + 1 := by rw [hwz]; simp
  have hbz : Below w.heap.size w wz := by rw [hwz]; exact ba b0 _
  rw [← hwz] at HM
  have hmr := BlkAt.made wz 35 zmvs
  rw [hsz] at hmr
  obtain ⟨wr, hwr⟩ : ∃ wr, wr = wz.alloc (.cells zmvs 35) := ⟨_, rfl⟩
  have hbr : Below w.heap.size w wr := by rw [hwr]; exact ba hbz _
  have hsr : wr.heap.size = w.heap.size + 1 + 1 := by rw [hwr, World.size_alloc, hsz]
  have hm2 : BlkAt wr w.heap.size 35 (mvs e20 (.slice none 0 0) (.slice none 0 0) (.slice none 0 0)) := by rw [hwr]; exact HM.out.more _
  rw [← hwr] at hmr
  have HMA := Lib.hid hm2
  have HMR := Lib.hid hmr
  have HBR := Lib.hid hbr
  simp only [mvs, e20, m0] at hwz
  simp only [zmvs] at hwr
  have hwr2 : (w.alloc (.cells #[.int .i64 1, .int .u64 0, .int .u64 1, .int .u64 2, .int .u64 0, .int .u64 0, .int .u64 0, .int .u64 0, .int .u64 0, .int .u64 0, .int .u64 0, .int .u64 0, .int .u64 0, .int .u64 0, .int .u64 0, .int .u64 0, .int .i64 0, .bool false, .string ⟨#[]⟩, .string ⟨#[101, 117]⟩, .string ⟨#[]⟩, .slice none 0 0, .slice none 0 0, .slice none 0 0] 35)).alloc (.cells #[.int .i64 0, .int .u64 0, .int .u64 0, .int .u64 0, .int .u64 0, .int .u64 0, .int .u64 0, .int .u64 0, .int .u64 0, .int .u64 0, .int .u64 0, .int .u64 0, .int .u64 0, .int .u64 0, .int .u64 0, .int .u64 0, .int .i64 0, .bool false, .string ⟨#[]⟩, .string ⟨#[]⟩, .string ⟨#[]⟩, .slice none 0 0, .slice none 0 0, .slice none 0 0] 35) = wr := by rw [hwr, hwz]; rfl
  have HWR := Lib.hid hwr2
  have HSR := Lib.hid hsr
  clear hmr hwr hwz HM hbz hsz hbr hwr2 hm2 hsr
  show Calls _ _ #[.agg #[.int .i64 1, .int .u64 0, .int .u64 1, .int .u64 2, .int .u64 0, .int .u64 0, .int .u64 0, .int .u64 0, .int .u64 0, .int .u64 0, .int .u64 0, .int .u64 0, .int .u64 0, .int .u64 0, .int .u64 0, .int .u64 0, .int .i64 0, .bool false, .string ⟨#[]⟩, .string ⟨#[101, 117]⟩, .string ⟨#[]⟩, .slice none 0 0, .slice none 0 0, .slice none 0 0], .int .i64 2, .int .i64 1] _ _
  have HEN := Lib.hid (across20 wr (HT.out.below HBR.out))
  go_enter Tryz.func122, Tryz.ntmps122
  go_wp2_with
    (with_reducible show wpList _ _ _ (Oper.mk _ (Op.load 35 _) _ _ _ _ :: _) _ _; apply pin)
  rw [HWR.out]
  refine wpList_load_blk rfl _ _ rfl _ rfl _ HMA.out Tryz.underlying35 rfl (info_msg _ _ _ _) ?_
  simp only [Act.put]
  go_wp2_with fail
  refine HEN.out.mono ?_
  rintro e w2 ⟨dv, tv, rv, rfl, hmg, hb2⟩
  have HB2 := Lib.hid (bb HBR.out hb2)
  have HR2 := Lib.hid (HMR.out.below hb2 HMR.out.lt)
  have HSB : Hid (w.heap.size + 1 < wr.heap.size) := by
    have := HSR.out
    show _ < _
    omega
  clear hb2 HEN HMA HWR HMR
  obtain ⟨dA, dc, tA, tc, rA, rc, rfl, rfl, rfl⟩ := hmg.slices
  go_wp2_with
    (with_reducible show wpList _ _ _ (Oper.mk _ (Op.store 35 _ _) _ _ _ _ :: _) _ _; apply pin)
  refine wpList_store_blk rfl _ _ _ rfl _ _ rfl rfl HR2.out rfl (info_msg _ _ _ _) mvs_one ?_
  simp only [Act.put]
  go_wp2_with fail
  refine bodyPost_ret (v := .tuple #[.agg (mvs e20r (.slice dA e20r.d.length dc) (.slice tA e20r.t.length tc) (.slice rA e20r.rest.len rc)), .int .i64 0]) (by exact results_blk_tmp rfl _ _ (w.heap.size + 1) 35 _ _ (.int .i64 0) rfl (putAll_at HR2.out rfl) Tryz.underlying35 rfl (info_msg _ _ _ _) rfl) rfl ?_
  have hpa := putAll_tch w2 (w.heap.size + 1) (mvs e20r (.slice dA e20r.d.length dc) (.slice tA e20r.t.length tc) (.slice rA e20r.rest.len rc))
  have hsb := HSB.out
  exact ⟨_, _, _, rfl, (hmg.tch hpa fun k hk e => by omega).mono (by omega), (HB2.out).trans (hpa.toBelowB (HB2.out).size fun g hg e => by omega)⟩
theorem awake20 (w : World) (hT : Tabs w) :
    Calls Tryz.prog 75 #[] w fun e w' => e = .returned (.bool true) ∧ Below w.heap.size w w' := by
  have HA : Hid (∀ x : World, Below w.heap.size w x → Calls Tryz.prog 123 #[] x fun e w' => e = .returned (.bool true) ∧ Below x.heap.size x w') := fun x hx => awakeE19 x (hT.below hx)
  have HL : Hid (Calls Tryz.prog 122 #[.agg #[.int .i64 1, .int .u64 0, .int .u64 1, .int .u64 2, .int .u64 0, .int .u64 0, .int .u64 0, .int .u64 0, .int .u64 0, .int .u64 0, .int .u64 0, .int .u64 0, .int .u64 0, .int .u64 0, .int .u64 0, .int .u64 0, .int .i64 0, .bool false, .string ⟨#[]⟩, .string ⟨#[101, 117]⟩, .string ⟨#[]⟩, .slice none 0 0, .slice none 0 0, .slice none 0 0], .int .i64 2, .int .i64 1] w (DecEnd w (e20r, 0))) := lower20 w hT
  clear hT
  go_enter Tryz.func75, Tryz.ntmps75
  go_wp2_with fail
  refine HL.out.mono ?_
  rintro e w1 ⟨dv, tv, rv, rfl, hmg, hb1⟩
  obtain ⟨dA, dc, tA, tc, rA, rc, rfl, rfl, rfl⟩ := hmg.slices
  have hm1 := BlkAt.made w1 35 zmvs
  have hm2 := putAll_at (ds := mvs e20r (.slice dA e20r.d.length dc) (.slice tA e20r.t.length tc) (.slice rA e20r.rest.len rc)) hm1 rfl
  have hb2 : Below w1.heap.size w1 (World.putAll (w1.alloc (.cells zmvs 35)) w1.heap.size (mvs e20r (.slice dA e20r.d.length dc) (.slice tA e20r.t.length tc) (.slice rA e20r.rest.len rc))) :=
    (ba (a := w1) b0 (.cells zmvs 35)).trans ((putAll_tch _ w1.heap.size _).toBelowB (by simp) fun g hg e => by omega)
  obtain ⟨w2, hw2⟩ : ∃ w2, w2 = World.putAll (w1.alloc (.cells zmvs 35)) w1.heap.size (mvs e20r (.slice dA e20r.d.length dc) (.slice tA e20r.t.length tc) (.slice rA e20r.rest.len rc)) := ⟨_, rfl⟩
  rw [← hw2] at hm2 hb2
  obtain ⟨q, hq⟩ : ∃ q, q = w1.heap.size := ⟨_, rfl⟩
  rw [← hq] at hm2
  have HM1 := Lib.hid hm1
  have HM2 := Lib.hid hm2
  have HB2 := Lib.hid (bb hb1 hb2)
  have HS2 := Lib.hid (hmg.2.2.below hb2)
  simp only [zmvs] at HM1 hw2
  clear hm1 hm2 hb2 hb1 hmg HL
  go_wp2_with
    (with_reducible show wpList _ _ _ (Oper.mk _ (Op.store 35 _ _) _ _ _ _ :: _) _ _; apply pin)
  refine wpList_store_blk rfl _ _ _ rfl _ _ rfl rfl HM1.out rfl (info_msg _ _ _ _) mvs_one ?_
  rw [← hw2]
  clear hw2 HM1
  simp only [Act.put]
  rw [← hq]
  clear hq
  go_wp2_with fail
  refine (HA.out _ HB2.out).mono ?_
  rintro e w3 ⟨rfl, hb3⟩
  have hm3 := HM2.out.below hb3 HM2.out.lt
  have hlm := hm3.lt
  have c19 : w3.cell? ⟨q, 19, none⟩ = some (.string ⟨#[]⟩) := hm3.cell 19
  have c23 : w3.cell? ⟨q, 23, none⟩ = some (.slice rA 1 rc) := hm3.cell 23
  have HB3 := Lib.hid (bb HB2.out hb3)
  have hsl := HS2.out.below hb3
  obtain ⟨b, o, Ai, ci, hre, hbl, d0, _⟩ := slv_fl hsl 0 (by decide)
  subst hre
  have d0' : w3.cell? ⟨b, o, none⟩ = some (.int .u64 4) := by
    rw [Nat.zero_mul, Nat.add_zero] at d0
    exact d0
  clear hb3 HM2 HB2 HS2 hm3 hsl d0
  go_wp2_with fail
  go_ret
  exact ⟨rfl, HB3.out⟩
theorem awakeE20 (w : World) (hT : Tabs w) : Calls Tryz.prog 30 #[] w fun e w' => e = .returned (.bool true) ∧ Below w.heap.size w w' := by
  have H := Lib.hid (awake20 w hT)
  clear hT
  go_enter Tryz.func30, Tryz.ntmps30
  go_wp2_with fail
  refine H.out.mono ?_
  rintro e w' ⟨rfl, hb⟩
  go_wp2
  go_ret
  exact ⟨rfl, hb⟩
end Go.Proofs.YtgidfnhfgiehjaaGreatDoor
end

section
namespace Go.PM
/-- Frames, one behind the other. -/
def ftexts (P : List (List UInt8)) : List UInt8 := P.flatMap ftext
theorem ftexts_app (P Q : List (List UInt8)) : ftexts (P ++ Q) = ftexts P ++ ftexts Q := by simp [ftexts]
theorem fof_texts (t : List UInt8) : ∀ P : List (List UInt8), (∀ p ∈ P, p.length ≤ 65536) → fof (ftexts P ++ t) = (P ++ (fof t).1, (fof t).2)
  | [], _ => by simp [ftexts]
  | p :: P, h => by
    have e1 : ftexts (p :: P) ++ t = ftext p ++ (ftexts P ++ t) := by simp [ftexts]
    have e2 := fparse_text p (ftexts P ++ t) (h p (by simp))
    have ih := fof_texts t P fun q hq => h q (by simp [hq])
    rw [e1, fof_ok (by rw [e2]), e2]
    simp only
    rw [← ftext_length, List.drop_left, ih]
    rfl
/-- The longest beginning of whole frames: the payloads, what is behind. -/
def flong (s : List UInt8) : List (List UInt8) × List UInt8 :=
  if _h : (fparse s).2.2 = 0 then
    let x := flong (s.drop (fparse s).2.1)
    ((fparse s).1 :: x.1, x.2)
  else ([], s)
termination_by s.length
decreasing_by
  have := fparse_ok _h
  simp; omega
theorem flong_ok {s : List UInt8} (h : (fparse s).2.2 = 0) : flong s = ((fparse s).1 :: (flong (s.drop (fparse s).2.1)).1, (flong (s.drop (fparse s).2.1)).2) := by rw [flong, dif_pos h]
theorem flong_no {s : List UInt8} (h : (fparse s).2.2 ≠ 0) : flong s = ([], s) := by rw [flong, dif_neg h]
theorem flong_all : ∀ s : List UInt8, s = ftexts (flong s).1 ++ (flong s).2 ∧ (fparse (flong s).2).2.2 ≠ 0 ∧ (flong s).1 = (fof s).1 ∧ (fof s).2.1 = (if (fparse (flong s).2).2.2 = 1 then 0 else (fparse (flong s).2).2.2) ∧ ∀ p ∈ (flong s).1, p.length ≤ 65536 := by
  refine fof_ind ?_ ?_ ?_
  · intro s h
    rw [flong_no (by omega), fof_short h]
    exact ⟨by simp [ftexts], by simp only; omega, rfl, by rw [if_pos h], by simp⟩
  · intro s h ih
    obtain ⟨i1, i2, i3, i4, i5⟩ := ih
    have hk := fparse_ok h
    rw [flong_ok h, fof_ok h]
    simp only
    refine ⟨?_, i2, by rw [i3], i4, fun p hp => ?_⟩
    · have e1 : ftexts ((fparse s).1 :: (flong (s.drop (fparse s).2.1)).1) ++ (flong (s.drop (fparse s).2.1)).2 = ftext (fparse s).1 ++ (ftexts (flong (s.drop (fparse s).2.1)).1 ++ (flong (s.drop (fparse s).2.1)).2) := by simp [ftexts]
      rw [e1, ← i1, ← hk.2.2.2.2, List.take_append_drop]
    · rcases List.mem_cons.1 hp with rfl | hp
      · exact hk.2.2.1
      · exact i5 p hp
  · intro s h h1
    rw [flong_no h, fof_bad h h1]
    exact ⟨by simp [ftexts], h, rfl, by rw [if_neg h1], by simp⟩
/-- The payloads' frames are what was taken. -/
theorem flong_taken (s : List UInt8) : s.take (s.length - (flong s).2.length) = ftexts (flong s).1 := by
  obtain ⟨h, _⟩ := flong_all s
  have hl : (flong s).2.length ≤ s.length := by
    have := congrArg List.length h
    rw [List.length_append] at this
    omega
  have h2 : s.length - (flong s).2.length = (ftexts (flong s).1).length := by
    have := congrArg List.length h
    rw [List.length_append] at this
    omega
  rw [h2]
  generalize (flong s).1 = X at *
  generalize (flong s).2 = Y at *
  rw [h, List.take_left]
/-- A sum that stands in what was taken. -/
theorem ftexts_sum (P : List (List UInt8)) (p : List UInt8) (h : p ∈ P) : ∃ a b, ftexts P = a ++ cput (csum p) ++ b := by
  obtain ⟨X, Y, rfl⟩ := List.append_of_mem h
  refine ⟨ftexts X ++ ([81, 70] ++ vput p.length ++ p), ftexts Y, ?_⟩
  rw [ftexts_app]
  simp [ftexts, ftext]
end Go.PM
end

section
namespace Go.Proofs.YtgidfnhfgiehjaaGreatDoor
open Go.RowKit Go.PM
set_option maxRecDepth 100000
set_option maxHeartbeats 4000000
attribute [local go_sem ↓] Go.wp_at_zero Go.wp_at_succ
def cuts16 (l : List Nat) : List Value := l.map fun n : Nat => .int .u16 (n : Int)
theorem alive20 (w : World) (hT : Tabs w) : Calls Tryz.prog 8 #[] w fun e w' => e = .returned (.bool true) ∧ Below w.heap.size w w' := by
  have H := Lib.hid (awakeE20 w hT)
  clear hT
  go_enter Tryz.func8, Tryz.ntmps8
  go_wp2_with fail
  refine H.out.mono ?_
  rintro e w' ⟨rfl, hb⟩
  go_wp2
  go_ret
  exact ⟨rfl, hb⟩
/-- Pieces of a text. -/
def PcEnd (w : World) (s : ByteArray) (n : Nat) (e : Ending) (w' : World) : Prop :=
  ∃ (P : List ByteArray) (A : Option Addr) (c : Nat), e = .returned (.slice A P.length c) ∧ P.length = n + 1 ∧ flat P = s.data.toList ∧ Rd w' A (strs P) ∧ (∀ b off, A = some ⟨b, off, none⟩ → w.heap.size ≤ b) ∧ Below w.heap.size w w'
/-- Where the loop of the cuts stands. -/
def PcAt (w : World) (s : ByteArray) (j : Nat) (S : ByteArray) (vv : Value) (wr : World) : Prop := ∃ P : List ByteArray, P.length = j ∧ wr.ownsRow w.heap.size 9 1 vv j (strs P) ∧ flat P ++ S.data.toList = s.data.toList ∧ Below w.heap.size w wr
theorem flat_snoc (P : List ByteArray) (x : ByteArray) : flat (P ++ [x]) = flat P ++ x.data.toList := by simp [flat]
theorem pieces_any (s : ByteArray) (A : Option Addr) (cap : Nat) (l : List Nat) (w : World) (hs : s.size ≤ 1000000) (hr : Rd w A (cuts16 l)) (hl : l.length ≤ 1000000) (hm : ∀ x ∈ l, x < 65536) :
    Calls Tryz.prog 54 #[.string s, .slice A l.length cap] w (PcEnd w s l.length) := by
  obtain ⟨i0, hi0, hz0, hz1, hz2⟩ := info_parts info_str
  have HR := Lib.hid hr
  have HM := Lib.hid hm
  have H0 : Hid (PcAt w s 0 s (.slice none 0 0) w) := ⟨[], rfl, World.ownsRow_nil _ _ _ _, rfl, b0⟩
  clear hr hm
  go_enter Tryz.func54, Tryz.ntmps54
  go_wp2_with fail
  go_loopg [0, 5, 11] l.length (fun gk sv vv ki wr => ∃ (j : Nat) (S : ByteArray), j ≤ l.length ∧ l.length - j ≤ gk ∧ ki = .int .i64 (j : Int) ∧ sv = .string S ∧ S.size ≤ 1000000 ∧ Hid (PcAt w s j S vv wr))
  case atStart => exact ⟨0, s, Nat.zero_le _, by omega, rfl, rfl, hs, H0⟩
  case round =>
    obtain ⟨j, S, hj, hgj, rfl, rfl, hSs, HS⟩ := hrel
    obtain ⟨P, hPl, hown, hfl, hbel⟩ := HS.out
    by_cases hlt : j < l.length
    · obtain ⟨b, off, hAe, hbl, hc⟩ := (HR.out.below hbel).at_ (k := j) (by simpa [cuts16] using hlt)
      subst hAe
      have hcv : (cuts16 l)[j]'(by simpa [cuts16] using hlt) = .int .u16 (l[j] : Int) := by simp [cuts16]
      rw [hcv] at hc
      have hx := HM.out l[j] (List.getElem_mem hlt)
      generalize l[j] = x at *
      have hwx : IntKind.i64.wrap (x : Int) = (x : Int) := by rw [IntKind.wrap_i64]; omega
      have hmx : (x : Int) % ((S.size : Int) + 1) = ((x % (S.size + 1) : Nat) : Int) := by simp
      have hK : x % (S.size + 1) ≤ S.size := Nat.le_of_lt_succ (Nat.mod_lt _ (by omega))
      generalize x % (S.size + 1) = K at *
      have hnz : ¬ ((S.size : Int) + 1) = 0 := by omega
      have hKi : (K : Int) ≤ (S.size : Int) := by omega
      have htk : ((K : Int)).toNat = K := by omega
      have HOWN := Lib.hid hown
      have HBEL := Lib.hid hbel
      have HFL := Lib.hid hfl
      clear hcv hown hbel hfl HS H0
      go_wp2_with fail
      go_region_held3 (fun _ => True) (trivial)
        ((refine step_append_lies _ (by rfl) _ _ _ (by rfl) w.heap.size 9 i0 _ 1 16 Tryz.underlying50 hi0 hz0 hz1 hz2 rfl (by omega) u5 j (strs P) (by rfl) (HOWN.out.alloc (.cells #[.string (S.extract 0 K)] 9)) ⟨wr.heap.size, 0, none⟩ 1 1 [.string (S.extract 0 K)] (by rfl) (by rfl) (World.news_of_block (cs := #[.string (S.extract 0 K)]) (t := 9) (fr := (0, 0)) (heap_alloc_new wr _)) (by simp [Value.oneCell']) (by omega) (by unfold maxLen; omega) (by omega) (by have := HBEL.out.size; simp; omega) (wr.heap.size + 1) (by simp) ?_; intro g cap3 w3 hown3 hg3 hat3 hlt3; have HG3 := Lib.hid hg3))
      go_wp2_with fail
      go_roundg (l.length - (j + 1))
      case measure => omega
      case rel =>
        refine ⟨j + 1, S.extract K S.size, by omega, Nat.le_refl _, by go_num, rfl, by rw [ByteArray.size_extract]; omega, P ++ [S.extract 0 K], by simp [hPl], ?_, ?_, (bd (ba HBEL.out _)).grown HG3.out (bd (ba HBEL.out _)).size fun q hq => (HOWN.out.lt q hq).1⟩
        · rw [show strs (P ++ [S.extract 0 K]) = strs P ++ [.string (S.extract 0 K)] by simp [strs]]
          exact hown3
        · rw [flat_snoc, List.append_assoc, ← HFL.out]
          congr 1
          have e1 : (S.data.toList.drop K).take (S.size - K) = S.data.toList.drop K := List.take_of_length_le (by rw [List.length_drop, len_list]; exact Nat.le_refl _)
          rw [ext_list, ext_list, List.drop_zero, Nat.sub_zero, e1, List.take_append_drop]
    · obtain rfl : j = l.length := by omega
      have HOWN := Lib.hid hown
      have HBEL := Lib.hid hbel
      have HFL := Lib.hid hfl
      have hnew := one_new wr (.string S) 9
      clear hown hbel hfl HS H0
      go_wp2_with (at_builtin; go_must (refine wpList_append_lies _ rfl _ _ 50 rfl w.heap.size 9 i0 (.string ByteArray.empty) 1 16 Tryz.underlying50 hi0 hz0 hz1 hz2 rfl (by decide) _ _ _ rfl (HOWN.out.alloc _) ⟨wr.heap.size, 0, none⟩ 1 1 [.string S] rfl rfl hnew (one_cell_str _) (by decide) (by unfold maxLen; omega) (by omega) (by have := HBEL.out.size; simp; omega) (wr.heap.size + 1) (by simp) ?_); intro g3 cap3 w3 hown3 hg3 hat3 hlt3)
      have hb3 : Below w.heap.size w w3 := (ba HBEL.out _).grown hg3 (ba HBEL.out _).size fun q hq => (HOWN.out.lt q hq).1
      obtain ⟨A9, c9, hv9, hrd9, hc9, hfr9⟩ := Rd.own hown3
      injection hv9 with e1 e2 e3
      subst e1 e3
      have HE : Hid (PcEnd w s l.length (.returned (.slice (some ⟨g3, 0, none⟩) (l.length + 1) cap3)) w3) := by
        refine ⟨P ++ [S], some ⟨g3, 0, none⟩, cap3, by rw [List.length_append, hPl]; rfl, by simp [hPl], by rw [flat_snoc]; exact HFL.out, ?_, fun b off e => (hfr9 b off e).2, hb3⟩
        rw [show strs (P ++ [S]) = strs P ++ [.string S] by simp [strs]]
        exact hrd9
      clear hown3 hg3 hat3 hb3 hrd9 hfr9
      go_wp2_with fail
      go_ret
      exact HE.out
/-- What is delivered, and how it ends. -/
def FeEnd (w : World) (s : List UInt8) (e : Ending) (w' : World) : Prop :=
  ∃ (A : Option Addr) (c : Nat), e = .returned (.tuple #[.slice A (fof s).1.length c, .int .i64 ((fof s).2.1 : Int), .int .i64 ((fof s).2.2.length : Int)]) ∧ Rd w' A (strs ((fof s).1.map txt)) ∧ (fof s).1.length ≤ c ∧ Below w.heap.size w w'
theorem fed_any (s : ByteArray) (A : Option Addr) (cap : Nat) (l : List Nat) (w : World) (hs : s.size ≤ 900000) (hr : Rd w A (cuts16 l)) (hl : l.length ≤ 1000000) (hm : ∀ x ∈ l, x < 65536) :
    Calls Tryz.prog 17 #[.string s, .slice A l.length cap] w (FeEnd w s.data.toList) := by
  have HP : Hid (∀ x, Below w.heap.size w x → Calls Tryz.prog 54 #[.string s, .slice A l.length cap] x (PcEnd x s l.length)) := fun x hx => pieces_any s A cap l x (by omega) (hr.below hx) hl hm
  clear hr hm
  go_enter Tryz.func17, Tryz.ntmps17
  go_wp2_with fail
  refine (new_B w).mono ?_
  rintro e w1 ⟨d, rfl, hd, hF, hb1⟩
  have HF := Lib.hid hF
  have HB1 := Lib.hid hb1
  have hld := hF.1.1.lt
  clear hF hb1
  go_wp2_with fail
  refine (HP.out _ HB1.out).mono ?_
  rintro e w2 ⟨P, A2, c2, rfl, hPl, hfl, hrd, hfr, hb2⟩
  have hfd := feed_B w.heap.size d (.slice none 0 0) [] 0 0 0 A2 c2 P w2 (HF.out.below hb2) (bb HB1.out hb2).size hrd (fun b off e => ⟨by have := hfr b off e; omega, by simp [foot]⟩) (by rw [hfl, len_list]; simp; omega) (by omega) (by decide)
  rw [hfl, feedOf_start] at hfd
  have HFD := Lib.hid hfd
  have HB2 := Lib.hid (bb HB1.out hb2)
  have hsz := len_list s
  clear hfd hrd hfr hb2 HF HP hfl hsz hPl
  have HFE : Hid (∀ A c w', Rd w' A (strs ((fof s.data.toList).1.map txt)) → (fof s.data.toList).1.length ≤ c → Below w.heap.size w w' → FeEnd w s.data.toList (.returned (.tuple #[.slice A (fof s.data.toList).1.length c, .int .i64 ((fof s.data.toList).2.1 : Int), .int .i64 ((fof s.data.toList).2.2.length : Int)])) w') := fun A c w' h1 h2 h3 => ⟨A, c, rfl, h1, h2, h3⟩
  generalize fof s.data.toList = X at *
  go_wp2_with fail
  refine HFD.out.mono ?_
  rintro e w3 ⟨r, v', need', rfl, hown, htch, hb3, hF3, _⟩
  obtain ⟨A9, c9, hv9, hrd9, hc9, _⟩ := Rd.own hown
  subst hv9
  have HER := Lib.hid (fun x (hx : Below w3.heap.size w3 x) => err_any d v' X.2.2 need' X.2.1 (0 + X.1.length) x (hF3.below hx).1)
  have HWA := Lib.hid (fun x (hx : Below w3.heap.size w3 x) => waits_any d v' X.2.2 need' X.2.1 (0 + X.1.length) x (hF3.below hx).1)
  have HB3 := Lib.hid (HB2.out.trans (hb3.mono (Nat.le_refl _)))
  have HRD := Lib.hid hrd9
  have HC9 := Lib.hid hc9
  clear hown htch hb3 hF3 hrd9 HFD hc9
  have HE : Hid (∀ w', Below w3.heap.size w3 w' → FeEnd w s.data.toList (.returned (.tuple #[.slice A9 X.1.length c9, .int .i64 (X.2.1 : Int), .int .i64 (X.2.2.length : Int)])) w') :=
    fun w' h => HFE.out A9 c9 w' (HRD.out.below h) HC9.out (bb HB3.out h)
  clear HFE
  generalize X.1.length = XN at *
  generalize X.2.1 = XE at *
  generalize X.2.2.length = XW at *
  go_wp2_with fail
  refine (HER.out _ b0).mono ?_
  rintro e w4 ⟨rfl, hb4⟩
  have HB4 := Lib.hid hb4
  clear hb4 HER
  go_wp2_with fail
  refine (HWA.out _ HB4.out).mono ?_
  rintro e w5 ⟨rfl, hb5⟩
  have HB5 := Lib.hid (bb HB4.out hb5)
  clear hb5 HWA
  go_wp2_with fail
  exact bodyPost_ret (v := .tuple #[.slice A9 XN c9, .int .i64 (XE : Int), .int .i64 (XW : Int)]) (by simp [results, Tryz.results17, go_sem]; try rfl) rfl (HE.out _ HB5.out)
end Go.Proofs.YtgidfnhfgiehjaaGreatDoor
end

section
namespace Go.Proofs.YtgidfnhfgiehjaaGreatDoor
open Go.RowKit Go.PM
set_option maxRecDepth 100000
set_option maxHeartbeats 4000000
attribute [local go_sem ↓] Go.wp_at_zero Go.wp_at_succ
/-- The longest beginning of whole frames. -/
def LgEnd (w : World) (s : List UInt8) (e : Ending) (w' : World) : Prop :=
  ∃ (A : Option Addr) (c : Nat), e = .returned (.tuple #[.slice A (flong s).1.length c, .string (txt (flong s).2)]) ∧ Rd w' A (strs ((flong s).1.map txt)) ∧ (flong s).1.length ≤ c ∧ Below w.heap.size w w'
/-- Where its loop stands. -/
def LgAt (w : World) (s : List UInt8) (S : ByteArray) (vv : Value) (wr : World) : Prop := ∃ Q : List (List UInt8), wr.ownsRow w.heap.size 9 1 vv Q.length (strs (Q.map txt)) ∧ Q.length + S.size ≤ 1000000 ∧ flong s = (Q ++ (flong S.data.toList).1, (flong S.data.toList).2) ∧ Below w.heap.size w wr
theorem longest_any (s : ByteArray) (w : World) (hs : s.size ≤ 1000000) : Calls Tryz.prog 24 #[.string s] w (LgEnd w s.data.toList) := by
  obtain ⟨i0, hi0, hz0, hz1, hz2⟩ := info_parts info_str
  have H0 : Hid (LgAt w s.data.toList s (.slice none 0 0) w) := ⟨[], World.ownsRow_nil _ _ _ _, by simpa using hs, by simp, b0⟩
  go_enter Tryz.func24, Tryz.ntmps24
  go_wp2_with fail
  go_loopg [0, 4] s.size (fun gk sv vv wr => ∃ S : ByteArray, sv = .string S ∧ S.size ≤ gk ∧ S.size ≤ 1000000 ∧ Hid (LgAt w s.data.toList S vv wr))
  case atStart => exact ⟨s, rfl, Nat.le_refl _, hs, H0⟩
  case round =>
    obtain ⟨S, rfl, hgk, hSs, HS⟩ := hrel
    obtain ⟨Q, hown, hQS, hfl, hbel⟩ := HS.out
    have HP := Lib.hid (parse_any S wr (by omega))
    have hF0 : ∀ y : List UInt8 × Nat × Nat, fparse S.data.toList = y → y = fparse S.data.toList := fun y h => h.symm
    by_cases hc : (fparse S.data.toList).2.2 = 0
    · obtain ⟨k1, k2, k3, k4, k5⟩ := fparse_ok hc
      have hF := flong_ok hc
      have HP0 : Hid (Calls Tryz.prog 29 #[.string S] wr fun e w' => e = .returned (.tuple #[.string (txt (fparse S.data.toList).1), .int .i64 ((fparse S.data.toList).2.1 : Int), .int .i64 0]) ∧ Below wr.heap.size wr w') := by
        have := HP.out
        rw [hc] at this
        exact this
      have HF : Hid (flong s.data.toList = ((Q ++ [(fparse S.data.toList).1]) ++ (flong (S.extract (fparse S.data.toList).2.1 S.size).data.toList).1, (flong (S.extract (fparse S.data.toList).2.1 S.size).data.toList).2)) := by
        rw [hfl, hF, ext_list, List.take_of_length_le (by rw [List.length_drop, len_list]; exact Nat.le_refl _), List.append_assoc]
        rfl
      rw [len_list] at k2
      have HZ : Hid ((S.extract (fparse S.data.toList).2.1 S.size).size = S.size - (fparse S.data.toList).2.1) := Lib.hid (by rw [ByteArray.size_extract]; omega)
      have hQ := hQS
      clear HP hF hF0 hfl HS H0 hc k3 k4 k5
      generalize fparse S.data.toList = X at *
      generalize X.2.1 = m at *
      generalize X.1 = p at *
      have hmI : (m : Int) ≤ (S.size : Int) := by omega
      have htk : ((m : Int)).toNat = m := by omega
      have HOW := Lib.hid hown
      have HBE := Lib.hid hbel
      clear hown hbel
      go_wp2_with fail
      refine HP0.out.mono ?_
      rintro e w1 ⟨rfl, hb1⟩
      have HOWN := Lib.hid (own_below HOW.out hb1)
      have HBEL := Lib.hid (bb HBE.out hb1)
      clear HOW HBE hb1 HP0
      go_wp2_with fail
      go_region_held3 (fun _ => True) (trivial)
        ((refine step_append_lies _ (by rfl) _ _ _ (by rfl) w.heap.size 9 i0 _ 1 16 Tryz.underlying50 hi0 hz0 hz1 hz2 rfl (by omega) u4 Q.length (strs (Q.map txt)) (by rfl) (HOWN.out.alloc (.cells #[.string (txt p)] 9)) ⟨w1.heap.size, 0, none⟩ 1 1 [.string (txt p)] (by rfl) (by rfl) (World.news_of_block (cs := #[.string (txt p)]) (t := 9) (fr := (0, 0)) (heap_alloc_new w1 _)) (by simp [Value.oneCell']) (by omega) (by unfold maxLen; omega) (by omega) (by have := HBEL.out.size; simp; omega) (w1.heap.size + 1) (by simp) ?_; intro g cap3 w3 hown3 hg3 hat3 hlt3; have HG3 := Lib.hid hg3))
      go_wp2_with fail
      go_roundg (S.size - m)
      case measure => omega
      case rel =>
        refine ⟨S.extract m S.size, rfl, by rw [HZ.out]; exact Nat.le_refl _, by rw [HZ.out]; omega, Q ++ [p], ?_, by rw [HZ.out, List.length_append, List.length_singleton]; omega, HF.out, (bd (ba HBEL.out _)).grown HG3.out (bd (ba HBEL.out _)).size fun q hq => (HOWN.out.lt q hq).1⟩
        rw [List.length_append, List.length_singleton, show strs ((Q ++ [p]).map txt) = strs (Q.map txt) ++ [.string (txt p)] by simp [strs]]
        exact hown3
    · have hF := flong_no hc
      rw [hF, List.append_nil] at hfl
      obtain ⟨A9, c9, hv9, hrd9, hc9, _⟩ := Rd.own hown
      subst hv9
      have hcI : ¬ (((fparse S.data.toList).2.2 : Nat) : Int) = 0 := by omega
      have HR := Lib.hid hrd9
      have HB := Lib.hid hbel
      have HE : Hid (∀ w', Below wr.heap.size wr w' → LgEnd w s.data.toList (.returned (.tuple #[.slice A9 Q.length c9, .string S])) w') := fun w' h => by
        unfold LgEnd
        rw [hfl]
        exact ⟨A9, c9, by rw [txt_of], HR.out.below h, hc9, bb HB.out h⟩
      clear hown hfl hbel HS H0 hF hrd9 HR HB hF0 hc hQS
      generalize fparse S.data.toList = X at *
      generalize X.2.2 = n at *
      generalize X.2.1 = m at *
      generalize X.1 = p at *
      generalize Q.length = QL at *
      go_wp2_with fail
      refine HP.out.mono ?_
      rintro e w1 ⟨rfl, hb1⟩
      go_wp2_with fail
      go_ret2
      exact HE.out _ hb1
end Go.Proofs.YtgidfnhfgiehjaaGreatDoor
end
