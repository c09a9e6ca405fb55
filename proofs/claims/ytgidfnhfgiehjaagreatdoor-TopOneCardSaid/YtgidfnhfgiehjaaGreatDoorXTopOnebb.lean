/-
  Texts of the proof, joined: Awake16 SetEx PlainTop TopF Same1 Same2. Conditions: as each names.
-/
import Derived.Test.YtgidfnhfgiehjaaGreatDoorXTopOneba
import Derived.Test.YtgidfnhfgiehjaaGreatDoorXTopOnead
import Derived.Test.YtgidfnhfgiehjaaGreatDoorXTopOneah
import Derived.Test.YtgidfnhfgiehjaaGreatDoorXTopOneax
import Derived.Test.YtgidfnhfgiehjaaGreatDoorXTopOneai
import Derived.Test.YtgidfnhfgiehjaaGreatDoorXTopOneaj
import Derived.Test.YtgidfnhfgiehjaaGreatDoorXTopOneau
import Derived.Test.YtgidfnhfgiehjaaGreatDoorXTopOnean
import Derived.Test.YtgidfnhfgiehjaaGreatDoorXTopOneav

section
namespace Go.Proofs.YtgidfnhfgiehjaaGreatDoor
open Go.RowKit Go.PM
set_option maxRecDepth 100000
set_option maxHeartbeats 4000000
attribute [local go_sem ↓] Go.wp_at_zero Go.wp_at_succ
theorem dbeh_none (k : List UInt8) : dbehO none k = 0 := rfl
theorem exam16a (a : UInt8) (n : Nat) (ha : ugood [a] = true) (hn : n ≠ 0) : tchk echk [([([a], [])], n)] = 0 := by
  unfold tchk
  rw [if_neg (by simp), tchk1, if_neg (by rw [exam13r a n ha hn]; decide), if_neg (by rw [dbeh_none]; decide)]
  rfl
theorem exam16b : tchk echk [([([97], [])], 3), ([([98], [])], 2)] = 0 := by
  unfold tchk
  rw [if_neg (by simp), tchk1, if_neg (by rw [exam13r 97 3 exam13a (by decide)]; decide), if_neg (by rw [dbeh_none]; decide), tchk1, if_neg (by rw [exam13r 98 2 exam13b (by decide)]; decide), if_neg (by rw [exam13k, exam13k]; decide)]
  rfl
theorem awake16 (w : World) (hT : Tabs w) :
    Calls Tryz.prog 241 #[] w fun e w' => e = .returned (.bool true) ∧ Below w.heap.size w w' := by
  have hx0 := BlkAt.made w 132 #[.string ⟨#[97]⟩, .string ⟨#[]⟩]
  have hb0 := ba (a := w) b0 (.cells #[.string ⟨#[97]⟩, .string ⟨#[]⟩] 132)
  obtain ⟨wa, hwa⟩ : ∃ wa, wa = w.alloc (.cells #[.string ⟨#[97]⟩, .string ⟨#[]⟩] 132) := ⟨_, rfl⟩
  have hsa : wa.heap.size = w.heap.size + 1 := by rw [hwa]; simp
  rw [← hwa] at hx0 hb0
  have hx1 := BlkAt.made wa 132 #[.string ⟨#[98]⟩, .string ⟨#[]⟩]
  have hb1 := ba hb0 (.cells #[.string ⟨#[98]⟩, .string ⟨#[]⟩] 132)
  have hx0b := hx0.more (.cells #[.string ⟨#[98]⟩, .string ⟨#[]⟩] 132)
  obtain ⟨wb, hwb⟩ : ∃ wb, wb = wa.alloc (.cells #[.string ⟨#[98]⟩, .string ⟨#[]⟩] 132) := ⟨_, rfl⟩
  have hsb : wb.heap.size = w.heap.size + 1 + 1 := by rw [hwb]; simp [hsa]
  rw [← hwb] at hx1 hb1 hx0b
  rw [hsa] at hx1
  have hx2 := BlkAt.made wb 134 #[.slice (some ⟨w.heap.size, 0, none⟩) 1 1, .int .u64 1]
  have hb2 := ba hb1 (.cells #[.slice (some ⟨w.heap.size, 0, none⟩) 1 1, .int .u64 1] 134)
  have hx0c := hx0b.more (.cells #[.slice (some ⟨w.heap.size, 0, none⟩) 1 1, .int .u64 1] 134)
  have hx1c := hx1.more (.cells #[.slice (some ⟨w.heap.size, 0, none⟩) 1 1, .int .u64 1] 134)
  obtain ⟨wc, hwc⟩ : ∃ wc, wc = wb.alloc (.cells #[.slice (some ⟨w.heap.size, 0, none⟩) 1 1, .int .u64 1] 134) := ⟨_, rfl⟩
  have hsc : wc.heap.size = w.heap.size + 1 + 1 + 1 := by rw [hwc]; simp [hsb]
  rw [← hwc] at hx2 hb2 hx0c hx1c
  rw [hsb] at hx2
  have hx3 := BlkAt.made wc 134 #[.slice (some ⟨w.heap.size, 0, none⟩) 1 1, .int .u64 3, .slice (some ⟨w.heap.size + 1, 0, none⟩) 1 1, .int .u64 2]
  have hb3 := ba hb2 (.cells #[.slice (some ⟨w.heap.size, 0, none⟩) 1 1, .int .u64 3, .slice (some ⟨w.heap.size + 1, 0, none⟩) 1 1, .int .u64 2] 134)
  have hx0d := hx0c.more (.cells #[.slice (some ⟨w.heap.size, 0, none⟩) 1 1, .int .u64 3, .slice (some ⟨w.heap.size + 1, 0, none⟩) 1 1, .int .u64 2] 134)
  have hx1d := hx1c.more (.cells #[.slice (some ⟨w.heap.size, 0, none⟩) 1 1, .int .u64 3, .slice (some ⟨w.heap.size + 1, 0, none⟩) 1 1, .int .u64 2] 134)
  have hx2d := hx2.more (.cells #[.slice (some ⟨w.heap.size, 0, none⟩) 1 1, .int .u64 3, .slice (some ⟨w.heap.size + 1, 0, none⟩) 1 1, .int .u64 2] 134)
  obtain ⟨wd, hwd⟩ : ∃ wd, wd = wc.alloc (.cells #[.slice (some ⟨w.heap.size, 0, none⟩) 1 1, .int .u64 3, .slice (some ⟨w.heap.size + 1, 0, none⟩) 1 1, .int .u64 2] 134) := ⟨_, rfl⟩
  rw [← hwd] at hx3 hb3 hx0d hx1d hx2d
  rw [hsc] at hx3
  have hA : Rd wd (some ⟨w.heap.size + 1 + 1 + 1, 0, none⟩) (rvs [⟨[([97], [])], some ⟨w.heap.size, 0, none⟩, 1, 3⟩, ⟨[([98], [])], some ⟨w.heap.size + 1, 0, none⟩, 1, 2⟩]) := by
    refine .inr ⟨_, 0, rfl, hx3.lt, fun j u hj => ?_⟩
    rw [Nat.zero_add, hx3.cell j, List.getElem?_toArray]
    exact hj
  have hB : Rd wd (some ⟨w.heap.size + 1 + 1, 0, none⟩) (rvs [⟨[([97], [])], some ⟨w.heap.size, 0, none⟩, 1, 1⟩]) := by
    refine .inr ⟨_, 0, rfl, hx2d.lt, fun j u hj => ?_⟩
    rw [Nat.zero_add, hx2d.cell j, List.getElem?_toArray]
    exact hj
  have hro : ∀ r ∈ ([⟨[([97], [])], some ⟨w.heap.size, 0, none⟩, 1, 3⟩, ⟨[([98], [])], some ⟨w.heap.size + 1, 0, none⟩, 1, 2⟩, ⟨[([97], [])], some ⟨w.heap.size, 0, none⟩, 1, 1⟩] : List Rv), RvOk wd (fun _ => True) r := fun r hr => by
    simp only [List.mem_cons, List.not_mem_nil, or_false] at hr
    rcases hr with rfl | rfl | rfl
    · exact ⟨Nat.le_refl 1, (rd_ent1 hx0d).rdI fun _ _ _ => trivial⟩
    · exact ⟨Nat.le_refl 1, (rd_ent1 hx1d).rdI fun _ _ _ => trivial⟩
    · exact ⟨Nat.le_refl 1, (rd_ent1 hx0d).rdI fun _ _ _ => trivial⟩
  have hz : ∀ r ∈ ([⟨[([97], [])], some ⟨w.heap.size, 0, none⟩, 1, 3⟩, ⟨[([98], [])], some ⟨w.heap.size + 1, 0, none⟩, 1, 2⟩, ⟨[([97], [])], some ⟨w.heap.size, 0, none⟩, 1, 1⟩] : List Rv), ESz r.d ∧ r.d.length ≤ 9223372036854775807 := fun r hr => by
    simp only [List.mem_cons, List.not_mem_nil, or_false] at hr
    rcases hr with rfl | rfl | rfl <;> exact ⟨fun e he => by simp only [List.mem_cons, List.not_mem_nil, or_false] at he; subst he; simp, by simp⟩
  have HO := Lib.hid (diff16 _ _ _ _ _ 2 1 1 1 _ _ _ wd (hT.below hb3) rfl rfl rfl hA hB hro hz exam16b (exam16a 97 1 exam13a (by decide)))
  have HB3 := Lib.hid hb3
  have HA : Hid (∀ x : World, Below w.heap.size w x → Calls Tryz.prog 243 #[] x fun e w' => e = .returned (.bool true) ∧ Below x.heap.size x w') := fun x hx => awakeE15 x (hT.below hx)
  clear hA hB hro hz hx0 hx0b hx0c hx0d hx1 hx1c hx1d hx2 hx2d hx3 hb0 hb1 hb2 hb3 hT hsa hsb hsc
  subst hwd hwc hwb hwa
  go_enter Tryz.func241, Tryz.ntmps241
  go_wp2_with fail
  refine HO.out.mono ?_
  rintro e w3 ⟨A', c2, bb0, ee0, rfl, ⟨l, A, c, hs, hl, hrl, hol, hlc, hfr⟩, hb4⟩
  obtain ⟨r0, r1, rfl⟩ : ∃ r0 r1, l = [r0, r1] := list_two (by have := congrArg List.length hl; rw [List.length_map] at this; exact this.symm)
  have hn0 : r0.n = 2 := by simp only [List.map_cons, List.cons.injEq] at hl; have := congrArg Prod.snd hl.1; simpa [Rv.rw] using this.symm
  have hn1 : r1.n = 2 := by simp only [List.map_cons, List.cons.injEq] at hl; have := congrArg Prod.snd hl.2.1; simpa [Rv.rw] using this.symm
  injection hs with e1 _ e3
  subst e1 e3
  have HB4 := Lib.hid (bb HB3.out hb4)
  have hbd := ba (a := w3) b0 (.cells #[.int .u64 bb0, .int .u64 ee0, .slice A' 2 c2] 321)
  have HX := Lib.hid (BlkAt.made w3 321 #[.int .u64 bb0, .int .u64 ee0, .slice A' 2 c2])
  have HRL := Lib.hid (hrl.below hbd)
  have HBD := Lib.hid (bb HB4.out hbd)
  clear hl hol hlc hfr hb4 hrl HO HB3 hbd
  go_wp2_with fail
  refine (HA.out _ HBD.out).mono ?_
  rintro e w4 ⟨rfl, hb5⟩
  have hrd4 := HRL.out.below hb5
  have hx4 := HX.out.below hb5 HX.out.lt
  have d2 := hx4.cell 2
  have hlx := hx4.lt
  simp at d2
  obtain ⟨b, off, hA, hbl, _, c1⟩ := hrd4.row (k := 0) (by simp)
  obtain ⟨b', off', hA', _, _, c3⟩ := hrd4.row (k := 1) (by simp)
  rw [hA] at hA'
  injection hA' with hA'
  injection hA' with e1 e2
  subst e1 e2 hA
  simp only [List.getElem_cons_zero, List.getElem_cons_succ, hn0, hn1, Nat.zero_mul, Nat.one_mul, Nat.add_zero] at c1 c3
  have HB6 := Lib.hid (bb HBD.out hb5)
  clear hb5 hrd4 HRL HA HB4 HBD hn0 hn1 hx4 HX
  go_wp2_with fail
  go_ret
  exact ⟨rfl, HB6.out⟩
theorem awakeE16 (w : World) (hT : Tabs w) : Calls Tryz.prog 238 #[] w fun e w' => e = .returned (.bool true) ∧ Below w.heap.size w w' := by
  have H := Lib.hid (awake16 w hT)
  clear hT
  go_enter Tryz.func238, Tryz.ntmps238
  go_wp2_with fail
  refine H.out.mono ?_
  rintro e w' ⟨rfl, hb⟩
  go_wp2
  go_ret
  exact ⟨rfl, hb⟩
theorem awake17 (w : World) (hT : Tabs w) :
    Calls Tryz.prog 237 #[] w fun e w' => e = .returned (.bool true) ∧ Below w.heap.size w w' := by
  have H := Lib.hid (awakeE16 w hT)
  have HTG : Hid (∀ x : World, Calls Tryz.prog 41 #[.int .i64 7, .int .i64 2] x fun e w' => ∃ A c, e = .returned (.slice A 1 c) ∧ Rd w' A (u64s [1]) ∧ 1 ≤ c ∧ Below x.heap.size x w') := fun x => tags17 7 2 x (by decide) (by decide) (by decide) (by decide)
  have HNM : Hid (∀ x : World, Calls Tryz.prog 240 #[.int .i64 7] x fun e w' => e = .returned (.string ⟨#[65, 99, 107]⟩) ∧ Below x.heap.size x w') := fun x => name17 7 x (by unfold InI64; decide)
  clear hT
  have hs : (ByteArray.mk #[65, 99, 107]).toList = [65, 99, 107] := by rw [ByteArray.toList_eq]
  go_enter Tryz.func237, Tryz.ntmps237
  go_wp2_with fail
  refine H.out.mono ?_
  rintro e w1 ⟨rfl, hb1⟩
  have HB1 := Lib.hid hb1
  clear hb1 H
  go_wp2_with fail
  refine (HTG.out _).mono ?_
  rintro e w2 ⟨A, c, rfl, hrd, hc, hb2⟩
  have HB2 := Lib.hid (bb HB1.out hb2)
  have hx := BlkAt.made w2 22 #[.int .u64 1]
  have hbx := ba (a := w2) b0 (.cells #[.int .u64 1] 22)
  have hr2 : Rd (w2.alloc (.cells #[.int .u64 1] 22)) (some ⟨w2.heap.size, 0, none⟩) (u64s [1]) := by
    refine .inr ⟨_, 0, rfl, hx.lt, fun j u hj => ?_⟩
    rw [Nat.zero_add, hx.cell j, List.getElem?_toArray]
    exact hj
  have HEQ := Lib.hid (equ64 A _ c 1 [1] _ (hrd.below hbx) hr2 (by decide))
  have HBX := Lib.hid (bb HB2.out hbx)
  clear hrd hc hb2 hx hbx hr2
  go_wp2_with fail
  refine HEQ.out.mono ?_
  rintro e w3 ⟨rfl, hb3⟩
  have HB3 := Lib.hid (bb HBX.out hb3)
  clear hb3 HEQ
  go_wp2_with fail
  refine (HNM.out _).mono ?_
  rintro e w4 ⟨rfl, hb4⟩
  have HB4 := Lib.hid (bb HB3.out hb4)
  clear hb4
  go_wp2_with fail
  go_ret
  exact ⟨rfl, HB4.out⟩
theorem awakeE17 (w : World) (hT : Tabs w) : Calls Tryz.prog 236 #[] w fun e w' => e = .returned (.bool true) ∧ Below w.heap.size w w' := by
  have H := Lib.hid (awake17 w hT)
  clear hT
  go_enter Tryz.func236, Tryz.ntmps236
  go_wp2_with fail
  refine H.out.mono ?_
  rintro e w' ⟨rfl, hb⟩
  go_wp2
  go_ret
  exact ⟨rfl, hb⟩
end Go.Proofs.YtgidfnhfgiehjaaGreatDoor
end

section
namespace Go.Proofs.YtgidfnhfgiehjaaGreatDoor
open Go.RowKit Go.PM
set_option maxRecDepth 100000
set_option maxHeartbeats 4000000
attribute [local go_sem ↓] Go.wp_at_zero Go.wp_at_succ
theorem wpList_load_blk_w {P : Program} {ops : Array Oper} {rest : List Oper} {op : Oper} {a : Act} {w : World} {Q : Exit → Act → World → Prop} (hw : Region.wanted op (yielded ops a.tmps) = true) (ty : TypeId) (x : Operand) (ho : op.op = .load ty x)
    (b : Nat) (hx : a.eval x = .pointer (some ⟨b, 0, none⟩)) {t : TypeId} (cs : Array Value) (hc : BlkAt w b t cs) {d : TypeDesc}
    (hu : P.underlying ty = some d) (hd : d.isRow = true) (hi : (P.info? ty).map (·.size) = some cs.size)
    (h : wpList P ops Q rest (a.put op.dst (.agg cs)) w) : wpList P ops Q (op :: rest) a w :=
  wpList_step fun K hK => by
    rw [if_pos hw]
    exact wp_load_mid ty x ho b 0 hx cs.toList d (fun j v hv => by rw [Nat.zero_add, hc.cell j, ← Array.getElem?_toList]; exact hv) hu hd (by rw [hi]; simp) (hK _ _ (by simpa using h))
theorem mgv_nil (w : World) (m : Mp) (hd : m.d = []) (ht : m.t = []) (hr : m.rest = .nil) : MgV w (fun _ => True) m (.slice none 0 0) (.slice none 0 0) (.slice none 0 0) := by
  refine ⟨⟨none, 0, by rw [hd]; rfl, by rw [hd]; exact Nat.le_refl _, .inl hd⟩, by rw [ht]; exact TbV.nil _ _, by rw [hr]; exact SlV.nil _ _ _ _⟩
theorem msz_small {m : Mp} (hk : InI64 m.kind) (hm : ∀ i, i < 22 → (m.val i).may = 0) (hg : ∀ i, i < 22 → (m.val i).good) (hr : m.rest = .nil) : Msz m := by
  refine msz_of hk hm hg ?_ ?_ ?_ <;> rw [hr]
  · trivial
  · exact Nat.zero_le _
  · exact Nat.zero_le _
theorem e18_sz : Msz e18 := msz_small (by unfold InI64; decide) m0_may m0_good rfl
theorem e18b_sz : Msz e18b := msz_small (by unfold InI64; decide) (by refine cases22 ?_ ?_ ?_ ?_ ?_ ?_ ?_ ?_ ?_ ?_ ?_ ?_ ?_ ?_ ?_ ?_ ?_ ?_ ?_ ?_ ?_ ?_ <;> first | rfl | exact uchk_nil) (by
  refine cases22 ?_ ?_ ?_ ?_ ?_ ?_ ?_ ?_ ?_ ?_ ?_ ?_ ?_ ?_ ?_ ?_ ?_ ?_ ?_ ?_ ?_ ?_ <;> simp [e18b, m0, Mp.val, Mv.good, InI64]) rfl
theorem e19_sz : Msz e19 := msz_small (by unfold InI64; decide) (by refine cases22 ?_ ?_ ?_ ?_ ?_ ?_ ?_ ?_ ?_ ?_ ?_ ?_ ?_ ?_ ?_ ?_ ?_ ?_ ?_ ?_ ?_ ?_ <;> first | rfl | exact uchk_nil) (by
  refine cases22 ?_ ?_ ?_ ?_ ?_ ?_ ?_ ?_ ?_ ?_ ?_ ?_ ?_ ?_ ?_ ?_ ?_ ?_ ?_ ?_ ?_ ?_ <;> simp [e19, m0, Mp.val, Mv.good, InI64]) rfl
theorem e20_sz : Msz e20 := msz_small (by unfold InI64; decide) (by refine cases22 ?_ ?_ ?_ ?_ ?_ ?_ ?_ ?_ ?_ ?_ ?_ ?_ ?_ ?_ ?_ ?_ ?_ ?_ ?_ ?_ ?_ ?_ <;> first | rfl | exact uchk_nil | exact uchk_eu) (by
  refine cases22 ?_ ?_ ?_ ?_ ?_ ?_ ?_ ?_ ?_ ?_ ?_ ?_ ?_ ?_ ?_ ?_ ?_ ?_ ?_ ?_ ?_ ?_ <;> simp [e20, m0, Mp.val, Mv.good, InI64]) rfl
theorem awake18 (w : World) (hT : Tabs w) :
    Calls Tryz.prog 231 #[] w fun e w' => e = .returned (.bool true) ∧ Below w.heap.size w w' := by
  have HA : Hid (∀ x : World, Below w.heap.size w x → Calls Tryz.prog 236 #[] x fun e w' => e = .returned (.bool true) ∧ Below x.heap.size x w') := fun x hx => awakeE17 x (hT.below hx)
  have HC1 : Hid (∀ x : World, Below w.heap.size w x → Calls Tryz.prog 43 #[.agg (mvs e18 (.slice none 0 0) (.slice none 0 0) (.slice none 0 0)), .int .i64 1] x fun e w' => e = .returned (.int .i64 0) ∧ Below x.heap.size x w') := fun x hx => by
    have := mcheck_any 1 (by decide) (by decide) x (mgv_nil x e18 rfl rfl rfl) e18_sz (hT.below hx)
    unfold CkEnd at this
    rw [ex18a] at this
    exact this
  have HC2 : Hid (∀ x : World, Below w.heap.size w x → Calls Tryz.prog 43 #[.agg (mvs e18b (.slice none 0 0) (.slice none 0 0) (.slice none 0 0)), .int .i64 2] x fun e w' => e = .returned (.int .i64 26) ∧ Below x.heap.size x w') := fun x hx => by
    have := mcheck_any 2 (by decide) (by decide) x (mgv_nil x e18b rfl rfl rfl) e18b_sz (hT.below hx)
    unfold CkEnd at this
    rw [ex18b] at this
    exact this
  have HC3 : Hid (∀ x : World, Below w.heap.size w x → Calls Tryz.prog 43 #[.agg (mvs e18b (.slice none 0 0) (.slice none 0 0) (.slice none 0 0)), .int .i64 3] x fun e w' => e = .returned (.int .i64 0) ∧ Below x.heap.size x w') := fun x hx => by
    have := mcheck_any 3 (by decide) (by decide) x (mgv_nil x e18b rfl rfl rfl) e18b_sz (hT.below hx)
    unfold CkEnd at this
    rw [ex18c] at this
    exact this
  clear hT
  have hm1 := BlkAt.made w 35 zmvs
  have hm2 := putAll_at (ds := mvs e18 (.slice none 0 0) (.slice none 0 0) (.slice none 0 0)) hm1 rfl
  have hs1 : (World.putAll (w.alloc (.cells zmvs 35)) w.heap.size (mvs e18 (.slice none 0 0) (.slice none 0 0) (.slice none 0 0))).heap.size = w.heap.size + 1 := by rw [putAll_size]; simp
  have hb1 : Below w.heap.size w (World.putAll (w.alloc (.cells zmvs 35)) w.heap.size (mvs e18 (.slice none 0 0) (.slice none 0 0) (.slice none 0 0))) :=
    (ba (a := w) b0 (.cells zmvs 35)).trans ((putAll_tch _ w.heap.size _).toBelowB (by simp) fun g hg e => by omega)
  obtain ⟨w1, hw1⟩ : ∃ w1, w1 = World.putAll (w.alloc (.cells zmvs 35)) w.heap.size (mvs e18 (.slice none 0 0) (.slice none 0 0) (.slice none 0 0)) := ⟨_, rfl⟩
  rw [← hw1] at hm2 hs1 hb1
  have hn1 := BlkAt.made w1 35 zmvs
  have hn2 := putAll_at (ds := mvs e18b (.slice none 0 0) (.slice none 0 0) (.slice none 0 0)) hn1 rfl
  have hs2 : (World.putAll (w1.alloc (.cells zmvs 35)) w1.heap.size (mvs e18b (.slice none 0 0) (.slice none 0 0) (.slice none 0 0))).heap.size = w1.heap.size + 1 := by rw [putAll_size]; simp
  have hb2 : Below w1.heap.size w1 (World.putAll (w1.alloc (.cells zmvs 35)) w1.heap.size (mvs e18b (.slice none 0 0) (.slice none 0 0) (.slice none 0 0))) :=
    (ba (a := w1) b0 (.cells zmvs 35)).trans ((putAll_tch _ w1.heap.size _).toBelowB (by simp) fun g hg e => by omega)
  obtain ⟨w2, hw2⟩ : ∃ w2, w2 = World.putAll (w1.alloc (.cells zmvs 35)) w1.heap.size (mvs e18b (.slice none 0 0) (.slice none 0 0) (.slice none 0 0)) := ⟨_, rfl⟩
  rw [← hw2] at hn2 hs2 hb2
  have HM1 := Lib.hid hm1
  have HN1 := Lib.hid hn1
  have HMM := Lib.hid (hm2.below hb2 hm2.lt)
  have HNN := Lib.hid hn2
  have HB2 := Lib.hid (bb hb1 hb2)
  simp only [zmvs] at HM1 HN1 hw1 hw2
  clear hm1 hm2 hb1 hn1 hn2 hb2 hs2 hs1
  go_enter Tryz.func231, Tryz.ntmps231
  go_wp2_with
    (with_reducible show wpList _ _ _ (Oper.mk _ (Op.store 35 _ _) _ _ _ _ :: _) _ _; apply pin)
  refine wpList_store_blk rfl _ _ _ rfl _ (mvs e18 (.slice none 0 0) (.slice none 0 0) (.slice none 0 0)) rfl rfl HM1.out rfl (info_msg _ _ _ _) mvs_one ?_
  rw [← hw1]
  clear hw1 HM1
  simp only [Act.put]
  go_wp2_with
    (with_reducible show wpList _ _ _ (Oper.mk _ (Op.store 35 _ _) _ _ _ _ :: _) _ _; apply pin)
  refine wpList_store_blk rfl _ _ _ rfl _ (mvs e18b (.slice none 0 0) (.slice none 0 0) (.slice none 0 0)) rfl rfl HN1.out rfl (info_msg _ _ _ _) mvs_one ?_
  rw [← hw2]
  clear hw2 HN1
  simp only [Act.put]
  go_wp2_with fail
  refine (HA.out _ HB2.out).mono ?_
  rintro e w3 ⟨rfl, hb3⟩
  have HM3 := Lib.hid (HMM.out.below hb3 HMM.out.lt)
  have HN3 := Lib.hid (HNN.out.below hb3 HNN.out.lt)
  have HB3 := Lib.hid (bb HB2.out hb3)
  clear hb3 HMM HNN HB2
  go_wp2_with
    (with_reducible show wpList _ _ _ (Oper.mk _ (Op.load 35 _) _ _ _ _ :: _) _ _; apply pin)
  refine wpList_load_blk_w (by rfl) _ _ rfl _ rfl _ HM3.out Tryz.underlying35 rfl (info_msg _ _ _ _) ?_
  go_wp2_with fail
  refine (HC1.out _ HB3.out).mono ?_
  rintro e w4 ⟨rfl, hb4⟩
  have HN4 := Lib.hid (HN3.out.below hb4 HN3.out.lt)
  have HB4 := Lib.hid (bb HB3.out hb4)
  clear hb4 HM3 HN3 HB3
  go_wp2_with
    (with_reducible show wpList _ _ _ (Oper.mk _ (Op.load 35 _) _ _ _ _ :: _) _ _; apply pin)
  refine wpList_load_blk_w (by rfl) _ _ rfl _ rfl _ HN4.out Tryz.underlying35 rfl (info_msg _ _ _ _) ?_
  go_wp2_with fail
  refine (HC2.out _ HB4.out).mono ?_
  rintro e w5 ⟨rfl, hb5⟩
  have HN5 := Lib.hid (HN4.out.below hb5 HN4.out.lt)
  have HB5 := Lib.hid (bb HB4.out hb5)
  clear hb5 HN4 HB4
  go_wp2_with
    (with_reducible show wpList _ _ _ (Oper.mk _ (Op.load 35 _) _ _ _ _ :: _) _ _; apply pin)
  refine wpList_load_blk_w (by rfl) _ _ rfl _ rfl _ HN5.out Tryz.underlying35 rfl (info_msg _ _ _ _) ?_
  go_wp2_with fail
  refine (HC3.out _ HB5.out).mono ?_
  rintro e w6 ⟨rfl, hb6⟩
  have HB6 := Lib.hid (bb HB5.out hb6)
  clear hb6 HN5 HB5
  go_wp2_with fail
  go_ret
  exact ⟨rfl, HB6.out⟩
theorem awakeE18 (w : World) (hT : Tabs w) : Calls Tryz.prog 211 #[] w fun e w' => e = .returned (.bool true) ∧ Below w.heap.size w w' := by
  have H := Lib.hid (awake18 w hT)
  clear hT
  go_enter Tryz.func211, Tryz.ntmps211
  go_wp2_with fail
  refine H.out.mono ?_
  rintro e w' ⟨rfl, hb⟩
  go_wp2
  go_ret
  exact ⟨rfl, hb⟩
theorem awake19 (w : World) (hT : Tabs w) :
    Calls Tryz.prog 172 #[] w fun e w' => e = .returned (.bool true) ∧ Below w.heap.size w w' := by
  have HA : Hid (∀ x : World, Below w.heap.size w x → Calls Tryz.prog 211 #[] x fun e w' => e = .returned (.bool true) ∧ Below x.heap.size x w') := fun x hx => awakeE18 x (hT.below hx)
  have HC1 : Hid (Calls Tryz.prog 11 #[.agg (mvs e19 (.slice none 0 0) (.slice none 0 0) (.slice none 0 0)), .int .i64 1] w fun e w' => e = .returned (.tuple #[.string ⟨#[7, 4, 7]⟩, .int .i64 0]) ∧ Below w.heap.size w w') := by
    have := encode19 1 (by decide) (by decide) w (mgv_nil w e19 rfl rfl rfl) e19_sz hT
    unfold TxEnd at this
    rw [ex19] at this
    exact this
  clear hT
  simp only [mvs, e19, m0] at HC1
  have hs : (ByteArray.mk #[7, 4, 7]).toList = [7, 4, 7] := by rw [ByteArray.toList_eq]
  go_enter Tryz.func172, Tryz.ntmps172
  go_wp2_with fail
  refine HC1.out.mono ?_
  rintro e w1 ⟨rfl, hb1⟩
  have HB1 := Lib.hid hb1
  clear hb1 HC1
  go_wp2_with fail
  refine (HA.out _ HB1.out).mono ?_
  rintro e w2 ⟨rfl, hb2⟩
  have HB2 := Lib.hid (bb HB1.out hb2)
  clear hb2 HB1
  go_wp2_with fail
  go_ret
  exact ⟨rfl, HB2.out⟩
theorem awakeE19 (w : World) (hT : Tabs w) : Calls Tryz.prog 123 #[] w fun e w' => e = .returned (.bool true) ∧ Below w.heap.size w w' := by
  have H := Lib.hid (awake19 w hT)
  clear hT
  go_enter Tryz.func123, Tryz.ntmps123
  go_wp2_with fail
  refine H.out.mono ?_
  rintro e w' ⟨rfl, hb⟩
  go_wp2
  go_ret
  exact ⟨rfl, hb⟩
def s20 : List UInt8 := [1, 4, 1, 8, 2, 17, 2, 101, 117]
theorem across20 (w : World) (hT : Tabs w) : Calls Tryz.prog 171 #[.agg (mvs e20 (.slice none 0 0) (.slice none 0 0) (.slice none 0 0)), .int .i64 2, .int .i64 1] w (DecEnd w (e20r, 0)) := by
  have HT := Lib.hid hT
  clear hT
  have HM := Lib.hid (BlkAt.made w 35 (mvs e20 (.slice none 0 0) (.slice none 0 0) (.slice none 0 0)))
  obtain ⟨wz, hwz⟩ : ∃ wz, wz = w.alloc (.cells (mvs e20 (.slice none 0 0) (.slice none 0 0) (.slice none 0 0)) 35) := ⟨_, rfl⟩
  have hsz : wz.heap.size = w.heap.size + 1 := by rw [hwz]; simp
  have hbz : Below w.heap.size w wz := by rw [hwz]; exact ba b0 _
  rw [← hwz] at HM
  have hmr := BlkAt.made wz 35 zmvs
  rw [hsz] at hmr
  obtain ⟨wr, hwr⟩ : ∃ wr, wr = wz.alloc (.cells zmvs 35) := ⟨_, rfl⟩
  have hbr : Below w.heap.size w wr := by rw [hwr]; exact ba hbz _
  have hsr : wr.heap.size = w.heap.size + 1 + 1 := by rw [hwr, World.size_alloc, hsz]
  have hm2 : BlkAt wr w.heap.size 35 (mvs e20 (.slice none 0 0) (.slice none 0 0) (.slice none 0 0)) := by rw [hwr]; exact HM.out.more _
  rw [← hwr] at hmr
  have HMA := Lib.hid hm2
  have HMR := Lib.hid hmr
  have HBR := Lib.hid hbr
  simp only [mvs, e20, m0] at hwz
  simp only [zmvs] at hwr
  have hwr2 : (w.alloc (.cells #[.int .i64 1, .int .u64 0, .int .u64 1, .int .u64 2, .int .u64 0, .int .u64 0, .int .u64 0, .int .u64 0, .int .u64 0, .int .u64 0, .int .u64 0, .int .u64 0, .int .u64 0, .int .u64 0, .int .u64 0, .int .u64 0, .int .i64 0, .bool false, .string ⟨#[]⟩, .string ⟨#[101, 117]⟩, .string ⟨#[]⟩, .slice none 0 0, .slice none 0 0, .slice none 0 0] 35)).alloc (.cells #[.int .i64 0, .int .u64 0, .int .u64 0, .int .u64 0, .int .u64 0, .int .u64 0, .int .u64 0, .int .u64 0, .int .u64 0, .int .u64 0, .int .u64 0, .int .u64 0, .int .u64 0, .int .u64 0, .int .u64 0, .int .u64 0, .int .i64 0, .bool false, .string ⟨#[]⟩, .string ⟨#[]⟩, .string ⟨#[]⟩, .slice none 0 0, .slice none 0 0, .slice none 0 0] 35) = wr := by rw [hwr, hwz]; rfl
  have HWR := Lib.hid hwr2
  have HSR := Lib.hid hsr
  clear hmr hwr hwz HM hbz hsz hbr hwr2 hm2 hsr
  show Calls _ _ #[.agg #[.int .i64 1, .int .u64 0, .int .u64 1, .int .u64 2, .int .u64 0, .int .u64 0, .int .u64 0, .int .u64 0, .int .u64 0, .int .u64 0, .int .u64 0, .int .u64 0, .int .u64 0, .int .u64 0, .int .u64 0, .int .u64 0, .int .i64 0, .bool false, .string ⟨#[]⟩, .string ⟨#[101, 117]⟩, .string ⟨#[]⟩, .slice none 0 0, .slice none 0 0, .slice none 0 0], .int .i64 2, .int .i64 1] _ _
  have HEN : Hid (Calls Tryz.prog 11 #[.agg (mvs e20 (.slice none 0 0) (.slice none 0 0) (.slice none 0 0)), .int .i64 2] wr fun e w' => e = .returned (.tuple #[.string (txt s20), .int .i64 0]) ∧ Below wr.heap.size wr w') := by
    have := encode19 2 (by decide) (by decide) wr (mgv_nil wr e20 rfl rfl rfl) e20_sz (HT.out.below HBR.out)
    unfold TxEnd at this
    rw [ex20] at this
    exact this
  have HDE : Hid (∀ x, Below w.heap.size w x → Calls Tryz.prog 12 #[.string (txt s20), .int .i64 1] x (DecEnd x (e20r, 0))) := fun x hx => by
    have := decode19 1 (by decide) (by decide) (txt s20) (by rw [txt_size]; decide) x (HT.out.below hx)
    rw [show (txt s20).data.toList = s20 from by simp [txt], show mdecode s20 1 = (e20r, 0) from ex20d] at this
    exact this
  generalize txt s20 = S at *
  go_enter Tryz.func171, Tryz.ntmps171
  go_wp2_with
    (with_reducible show wpList _ _ _ (Oper.mk _ (Op.load 35 _) _ _ _ _ :: _) _ _; apply pin)
  rw [HWR.out]
  refine wpList_load_blk rfl _ _ rfl _ rfl _ HMA.out Tryz.underlying35 rfl (info_msg _ _ _ _) ?_
  simp only [Act.put]
  go_wp2_with fail
  refine HEN.out.mono ?_
  rintro e w1 ⟨rfl, hb1⟩
  have HB1 := Lib.hid (bb HBR.out hb1)
  have HR1 := Lib.hid (HMR.out.below hb1 HMR.out.lt)
  have HS1 := hb1.size
  have hsr := HSR.out
  clear hb1 HEN HMA HWR HMR
  go_wp2_with fail
  refine (HDE.out _ HB1.out).mono ?_
  rintro e w2 ⟨dv, tv, rv, rfl, hmg, hb2⟩
  have HB2 := Lib.hid (bb HB1.out hb2)
  have HR2 := Lib.hid (HR1.out.below hb2 HR1.out.lt)
  have HSB : Hid (w.heap.size + 1 < w1.heap.size) := by show _ < _; omega
  clear hb2 HDE HR1
  obtain ⟨dA, dc, tA, tc, rA, rc, rfl, rfl, rfl⟩ := hmg.slices
  go_wp2_with
    (with_reducible show wpList _ _ _ (Oper.mk _ (Op.store 35 _ _) _ _ _ _ :: _) _ _; apply pin)
  refine wpList_store_blk rfl _ _ _ rfl _ _ rfl rfl HR2.out rfl (info_msg _ _ _ _) mvs_one ?_
  simp only [Act.put]
  go_wp2_with fail
  refine bodyPost_ret (v := .tuple #[.agg (mvs e20r (.slice dA e20r.d.length dc) (.slice tA e20r.t.length tc) (.slice rA e20r.rest.len rc)), .int .i64 0]) (by exact results_blk_tmp rfl _ _ (w.heap.size + 1) 35 _ _ (.int .i64 0) rfl (putAll_at HR2.out rfl) Tryz.underlying35 rfl (info_msg _ _ _ _) rfl) rfl ?_
  have hpa := putAll_tch w2 (w.heap.size + 1) (mvs e20r (.slice dA e20r.d.length dc) (.slice tA e20r.t.length tc) (.slice rA e20r.rest.len rc))
  have hsb := HSB.out
  exact ⟨_, _, _, rfl, (hmg.tch hpa fun k hk e => by omega).mono (by omega), (HB2.out).trans (hpa.toBelowB (HB2.out).size fun g hg e => by omega)⟩
theorem lower20 (w : World) (hT : Tabs w) : Calls Tryz.prog 122 #[.agg (mvs e20 (.slice none 0 0) (.slice none 0 0) (.slice none 0 0)), .int .i64 2, .int .i64 1] w (DecEnd w (e20r, 0)) := by
  have HT := Lib.hid hT
  clear hT
  have HM := Lib.hid (BlkAt.made w 35 (mvs e20 (.slice none 0 0) (.slice none 0 0) (.slice none 0 0)))
  obtain ⟨wz, hwz⟩ : ∃ wz, wz = w.alloc (.cells (mvs e20 (.slice none 0 0) (.slice none 0 0) (.slice none 0 0)) 35) := ⟨_, rfl⟩
  have hsz : wz.heap.size = w.heap.size + 1 := by rw [hwz]; simp
  have hbz : Below w.heap.size w wz := by rw [hwz]; exact ba b0 _
  rw [← hwz] at HM
  have hmr := BlkAt.made wz 35 zmvs
  rw [hsz] at hmr
  obtain ⟨wr, hwr⟩ : ∃ wr, wr = wz.alloc (.cells zmvs 35) := ⟨_, rfl⟩
  have hbr : Below w.heap.size w wr := by rw [hwr]; exact ba hbz _
  have hsr : wr.heap.size = w.heap.size + 1 + 1 := by rw [hwr, World.size_alloc, hsz]
  have hm2 : BlkAt wr w.heap.size 35 (mvs e20 (.slice none 0 0) (.slice none 0 0) (.slice none 0 0)) := by rw [hwr]; exact HM.out.more _
  rw [← hwr] at hmr
  have HMA := Lib.hid hm2
  have HMR := Lib.hid hmr
  have HBR := Lib.hid hbr
  simp only [mvs, e20, m0] at hwz
  simp only [zmvs] at hwr
  have hwr2 : (w.alloc (.cells #[.int .i64 1, .int .u64 0, .int .u64 1, .int .u64 2, .int .u64 0, .int .u64 0, .int .u64 0, .int .u64 0, .int .u64 0, .int .u64 0, .int .u64 0, .int .u64 0, .int .u64 0, .int .u64 0, .int .u64 0, .int .u64 0, .int .i64 0, .bool false, .string ⟨#[]⟩, .string ⟨#[101, 117]⟩, .string ⟨#[]⟩, .slice none 0 0, .slice none 0 0, .slice none 0 0] 35)).alloc (.cells #[.int .i64 0, .int .u64 0, .int .u64 0, .int .u64 0, .int .u64 0, .int .u64 0, .int .u64 0, .int .u64 0, .int .u64 0, .int .u64 0, .int .u64 0, .int .u64 0, .int .u64 0, .int .u64 0, .int .u64 0, .int .u64 0, .int .i64 0, .bool false, .string ⟨#[]⟩, .string ⟨#[]⟩, .string ⟨#[]⟩, .slice none 0 0, .slice none 0 0, .slice none 0 0] 35) = wr := by rw [hwr, hwz]; rfl
  have HWR := Lib.hid hwr2
  have HSR := Lib.hid hsr
  clear hmr hwr hwz HM hbz hsz hbr hwr2 hm2 hsr
  show Calls _ _ #[.agg #[.int .i64 1, .int .u64 0, .int .u64 1, .int .u64 2, .int .u64 0, .int .u64 0, .int .u64 0, .int .u64 0, .int .u64 0, .int .u64 0, .int .u64 0, .int .u64 0, .int .u64 0, .int .u64 0, .int .u64 0, .int .u64 0, .int .i64 0, .bool false, .string ⟨#[]⟩, .string ⟨#[101, 117]⟩, .string ⟨#[]⟩, .slice none 0 0, .slice none 0 0, .slice none 0 0], .int .i64 2, .int .i64 1] _ _
  have HEN := Lib.hid (across20 wr (HT.out.below HBR.out))
  go_enter Tryz.func122, Tryz.ntmps122
  go_wp2_with
    (with_reducible show wpList _ _ _ (Oper.mk _ (Op.load 35 _) _ _ _ _ :: _) _ _; apply pin)
  rw [HWR.out]
  refine wpList_load_blk rfl _ _ rfl _ rfl _ HMA.out Tryz.underlying35 rfl (info_msg _ _ _ _) ?_
  simp only [Act.put]
  go_wp2_with fail
  refine HEN.out.mono ?_
  rintro e w2 ⟨dv, tv, rv, rfl, hmg, hb2⟩
  have HB2 := Lib.hid (bb HBR.out hb2)
  have HR2 := Lib.hid (HMR.out.below hb2 HMR.out.lt)
  have HSB : Hid (w.heap.size + 1 < wr.heap.size) := by
    have := HSR.out
    show _ < _
    omega
  clear hb2 HEN HMA HWR HMR
  obtain ⟨dA, dc, tA, tc, rA, rc, rfl, rfl, rfl⟩ := hmg.slices
  go_wp2_with
    (with_reducible show wpList _ _ _ (Oper.mk _ (Op.store 35 _ _) _ _ _ _ :: _) _ _; apply pin)
  refine wpList_store_blk rfl _ _ _ rfl _ _ rfl rfl HR2.out rfl (info_msg _ _ _ _) mvs_one ?_
  simp only [Act.put]
  go_wp2_with fail
  refine bodyPost_ret (v := .tuple #[.agg (mvs e20r (.slice dA e20r.d.length dc) (.slice tA e20r.t.length tc) (.slice rA e20r.rest.len rc)), .int .i64 0]) (by exact results_blk_tmp rfl _ _ (w.heap.size + 1) 35 _ _ (.int .i64 0) rfl (putAll_at HR2.out rfl) Tryz.underlying35 rfl (info_msg _ _ _ _) rfl) rfl ?_
  have hpa := putAll_tch w2 (w.heap.size + 1) (mvs e20r (.slice dA e20r.d.length dc) (.slice tA e20r.t.length tc) (.slice rA e20r.rest.len rc))
  have hsb := HSB.out
  exact ⟨_, _, _, rfl, (hmg.tch hpa fun k hk e => by omega).mono (by omega), (HB2.out).trans (hpa.toBelowB (HB2.out).size fun g hg e => by omega)⟩
theorem awake20 (w : World) (hT : Tabs w) :
    Calls Tryz.prog 75 #[] w fun e w' => e = .returned (.bool true) ∧ Below w.heap.size w w' := by
  have HA : Hid (∀ x : World, Below w.heap.size w x → Calls Tryz.prog 123 #[] x fun e w' => e = .returned (.bool true) ∧ Below x.heap.size x w') := fun x hx => awakeE19 x (hT.below hx)
  have HL : Hid (Calls Tryz.prog 122 #[.agg #[.int .i64 1, .int .u64 0, .int .u64 1, .int .u64 2, .int .u64 0, .int .u64 0, .int .u64 0, .int .u64 0, .int .u64 0, .int .u64 0, .int .u64 0, .int .u64 0, .int .u64 0, .int .u64 0, .int .u64 0, .int .u64 0, .int .i64 0, .bool false, .string ⟨#[]⟩, .string ⟨#[101, 117]⟩, .string ⟨#[]⟩, .slice none 0 0, .slice none 0 0, .slice none 0 0], .int .i64 2, .int .i64 1] w (DecEnd w (e20r, 0))) := lower20 w hT
  clear hT
  go_enter Tryz.func75, Tryz.ntmps75
  go_wp2_with fail
  refine HL.out.mono ?_
  rintro e w1 ⟨dv, tv, rv, rfl, hmg, hb1⟩
  obtain ⟨dA, dc, tA, tc, rA, rc, rfl, rfl, rfl⟩ := hmg.slices
  have hm1 := BlkAt.made w1 35 zmvs
  have hm2 := putAll_at (ds := mvs e20r (.slice dA e20r.d.length dc) (.slice tA e20r.t.length tc) (.slice rA e20r.rest.len rc)) hm1 rfl
  have hb2 : Below w1.heap.size w1 (World.putAll (w1.alloc (.cells zmvs 35)) w1.heap.size (mvs e20r (.slice dA e20r.d.length dc) (.slice tA e20r.t.length tc) (.slice rA e20r.rest.len rc))) :=
    (ba (a := w1) b0 (.cells zmvs 35)).trans ((putAll_tch _ w1.heap.size _).toBelowB (by simp) fun g hg e => by omega)
  obtain ⟨w2, hw2⟩ : ∃ w2, w2 = World.putAll (w1.alloc (.cells zmvs 35)) w1.heap.size (mvs e20r (.slice dA e20r.d.length dc) (.slice tA e20r.t.length tc) (.slice rA e20r.rest.len rc)) := ⟨_, rfl⟩
  rw [← hw2] at hm2 hb2
  obtain ⟨q, hq⟩ : ∃ q, q = w1.heap.size := ⟨_, rfl⟩
  rw [← hq] at hm2
  have HM1 := Lib.hid hm1
  have HM2 := Lib.hid hm2
  have HB2 := Lib.hid (bb hb1 hb2)
  have HS2 := Lib.hid (hmg.2.2.below hb2)
  simp only [zmvs] at HM1 hw2
  clear hm1 hm2 hb2 hb1 hmg HL
  go_wp2_with
    (with_reducible show wpList _ _ _ (Oper.mk _ (Op.store 35 _ _) _ _ _ _ :: _) _ _; apply pin)
  refine wpList_store_blk rfl _ _ _ rfl _ _ rfl rfl HM1.out rfl (info_msg _ _ _ _) mvs_one ?_
  rw [← hw2]
  clear hw2 HM1
  simp only [Act.put]
  rw [← hq]
  clear hq
  go_wp2_with fail
  refine (HA.out _ HB2.out).mono ?_
  rintro e w3 ⟨rfl, hb3⟩
  have hm3 := HM2.out.below hb3 HM2.out.lt
  have hlm := hm3.lt
  have c19 : w3.cell? ⟨q, 19, none⟩ = some (.string ⟨#[]⟩) := hm3.cell 19
  have c23 : w3.cell? ⟨q, 23, none⟩ = some (.slice rA 1 rc) := hm3.cell 23
  have HB3 := Lib.hid (bb HB2.out hb3)
  have hsl := HS2.out.below hb3
  obtain ⟨b, o, Ai, ci, hre, hbl, d0, _⟩ := slv_fl hsl 0 (by decide)
  subst hre
  have d0' : w3.cell? ⟨b, o, none⟩ = some (.int .u64 4) := by
    rw [Nat.zero_mul, Nat.add_zero] at d0
    exact d0
  clear hb3 HM2 HB2 HS2 hm3 hsl d0
  go_wp2_with fail
  go_ret
  exact ⟨rfl, HB3.out⟩
theorem awakeE20 (w : World) (hT : Tabs w) : Calls Tryz.prog 30 #[] w fun e w' => e = .returned (.bool true) ∧ Below w.heap.size w w' := by
  have H := Lib.hid (awake20 w hT)
  clear hT
  go_enter Tryz.func30, Tryz.ntmps30
  go_wp2_with fail
  refine H.out.mono ?_
  rintro e w' ⟨rfl, hb⟩
  go_wp2
  go_ret
  exact ⟨rfl, hb⟩
end Go.Proofs.YtgidfnhfgiehjaaGreatDoor
end

section
namespace Go.PM
end Go.PM
end

section
namespace Go.Proofs.YtgidfnhfgiehjaaGreatDoor
open Go.RowKit Go.PM
set_option maxRecDepth 100000
set_option maxHeartbeats 4000000
attribute [local go_sem ↓] Go.wp_at_zero Go.wp_at_succ
theorem alive20 (w : World) (hT : Tabs w) : Calls Tryz.prog 8 #[] w fun e w' => e = .returned (.bool true) ∧ Below w.heap.size w w' := by
  have H := Lib.hid (awakeE20 w hT)
  clear hT
  go_enter Tryz.func8, Tryz.ntmps8
  go_wp2_with fail
  refine H.out.mono ?_
  rintro e w' ⟨rfl, hb⟩
  go_wp2
  go_ret
  exact ⟨rfl, hb⟩
end Go.Proofs.YtgidfnhfgiehjaaGreatDoor
end

section
namespace Go.Proofs.YtgidfnhfgiehjaaGreatDoor
open Go.RowKit Go.PM
set_option maxRecDepth 100000
set_option maxHeartbeats 4000000
attribute [local go_sem ↓] Go.wp_at_zero Go.wp_at_succ
theorem rsm_any (A B : Option Addr) (c c' : Nat) (d d' : List Ent) (n n' : Nat) (w : World) (hA : Rd w A (ents d)) (hB : Rd w B (ents d')) (hl : d.length ≤ 9223372036854775807) :
    Calls Tryz.prog 156 #[.agg #[.slice A d.length c, .int .u64 (n : Int)], .agg #[.slice B d'.length c', .int .u64 (n' : Int)]] w fun e w' => e = .returned (.bool (decide (d = d' ∧ n = n'))) ∧ Below w.heap.size w w' := by
  have HE : Hid (∀ x, Below w.heap.size w x → Calls Tryz.prog 101 #[.slice A d.length c, .slice B d'.length c'] x fun e w' => e = .returned (.bool (decide (d = d'))) ∧ Below x.heap.size x w') := fun x hx => eequ_any A B c c' d d' x (hA.below hx) (hB.below hx) hl
  clear hA hB hl
  by_cases hn : n = n'
  · subst hn
    have hq : decide (d = d' ∧ n = n) = decide (d = d') := by simp
    rw [hq]
    clear hq
    generalize decide (d = d') = F at *
    generalize d.length = dl at *
    generalize d'.length = dl' at *
    go_enter Tryz.func156, Tryz.ntmps156
    go_wp2_with fail
    refine (HE.out _ (ba (ba b0 _) _)).mono ?_
    rintro e w1 ⟨rfl, hb1⟩
    have HB := Lib.hid (bb (ba (ba b0 _) _) hb1)
    clear hb1
    go_wp2_with fail
    go_ret
    exact ⟨rfl, HB.out⟩
  · have hq : decide (d = d' ∧ n = n') = false := by simp; exact fun _ => hn
    rw [hq]
    have hni : ((n : Int) == (n' : Int)) = false := by rw [beq_eq_false_iff_ne]; omega
    clear hq HE hn
    go_enter Tryz.func156, Tryz.ntmps156
    go_wp2_with fail
    go_ret
    exact ⟨rfl, ba (ba b0 _) _⟩
theorem rws_cons (r : Rv) (l : List Rv) (s : Rv) (m : List Rv) : decide ((r :: l).map Rv.rw = (s :: m).map Rv.rw) = (decide (r.d = s.d ∧ r.n = s.n) && decide (l.map Rv.rw = m.map Rv.rw)) := by
  rw [List.map_cons, List.map_cons, ← Bool.decide_and, decide_eq_decide, List.cons.injEq]
  simp only [Rv.rw, Prod.mk.injEq]
theorem teqf_any (A B : Option Addr) (c c' : Nat) (l m : List Rv) (I : Nat → Prop) (w : World) (hA : Rd w A (rvs l)) (hB : Rd w B (rvs m)) (hl : ∀ r ∈ l, RvOk w I r ∧ r.d.length ≤ 9223372036854775807) (hm : ∀ r ∈ m, RvOk w I r) (hll : l.length ≤ 9223372036854775807) :
    Calls Tryz.prog 155 #[.slice A l.length c, .slice B m.length c', .func (.func 156) #[] #[]] w fun e w' => e = .returned (.bool (decide (l.map Rv.rw = m.map Rv.rw))) ∧ Below w.heap.size w w' := by
  have HA := Lib.hid hA
  have HB := Lib.hid hB
  have HL := Lib.hid hl
  have HM := Lib.hid hm
  clear hA hB hl hm
  generalize hF : decide (l.map Rv.rw = m.map Rv.rw) = F
  by_cases hlm : l.length = m.length
  · have H0 : Hid (F = decide ((l.drop 0).map Rv.rw = (m.drop 0).map Rv.rw)) := hF.symm
    clear hF
    go_enter Tryz.func155, Tryz.ntmps155
    have hnm : (((l.length : Nat) : Int) != ((m.length : Nat) : Int)) = false := by rw [hlm]; simp
    have HLM := Lib.hid hlm
    clear hlm
    go_wp2_with fail
    go_loopg [17] l.length (fun gk ki wr => ∃ k : Nat, k ≤ l.length ∧ l.length - k ≤ gk ∧ ki = .int .i64 (k : Int) ∧ Hid (F = decide ((l.drop k).map Rv.rw = (m.drop k).map Rv.rw)) ∧ Hid (Below w.heap.size w wr))
    case atStart => exact ⟨0, Nat.zero_le _, by omega, rfl, H0, b0⟩
    case round =>
      obtain ⟨k, hk, hgk, rfl, HD, HBE⟩ := hrel
      by_cases hlt : k < l.length
      · have hlt2 : k < m.length := by have := HLM.out; omega
        obtain ⟨b, off, rfl, hbl, c0, c1⟩ := (HA.out.below HBE.out).row hlt
        obtain ⟨b', off', rfl, hbl', e0, e1⟩ := (HB.out.below HBE.out).row hlt2
        have hm := HD.out
        rw [List.drop_eq_getElem_cons hlt, List.drop_eq_getElem_cons hlt2, rws_cons] at hm
        have HD2 := Lib.hid hm
        have hlk := HL.out _ (List.getElem_mem hlt)
        have hmk := HM.out _ (List.getElem_mem hlt2)
        generalize l[k] = x at *
        generalize m[k] = y at *
        obtain ⟨xd, xA, xc, xn⟩ := x
        obtain ⟨yd, yA, yc, yn⟩ := y
        simp only at c0 c1 e0 e1
        have HR := Lib.hid (fun z (hz : Below w.heap.size w z) => rsm_any xA yA xc yc xd yd xn yn z (hlk.1.2.rd.below hz) (hmk.2.rd.below hz) hlk.2)
        clear hm hlk hmk HD H0
        generalize xd.length = xl at *
        generalize yd.length = yl at *
        go_wp2_with fail
        refine (HR.out _ (ba (ba HBE.out _) _)).mono ?_
        rintro e w1 ⟨rfl, hb1⟩
        have HB1 := Lib.hid (bb (ba (ba HBE.out _) _) hb1)
        clear hb1 HR
        by_cases hs : xd = yd ∧ xn = yn
        · have hd1 := HD2.out
          rw [decide_eq_true hs, Bool.true_and] at hd1
          have HD3 := Lib.hid hd1
          rw [decide_eq_true hs]
          clear hd1 HD2 hs
          go_wp2_with fail
          go_roundg (l.length - (k + 1))
          case measure => omega
          case rel => exact ⟨k + 1, by omega, Nat.le_refl _, by go_num, HD3.out, HB1.out⟩
        · have hd1 := HD2.out
          rw [decide_eq_false hs, Bool.false_and] at hd1
          rw [decide_eq_false hs]
          subst hd1
          clear HD2 hs
          go_wp2_with fail
          go_ret
          exact ⟨rfl, HB1.out⟩
      · obtain rfl : k = l.length := by omega
        have hT : F = true := by
          rw [HD.out, List.drop_eq_nil_of_le (Nat.le_refl _), List.drop_eq_nil_of_le (by have := HLM.out; omega)]
          rfl
        have HBB := HBE
        clear HD HBE H0
        subst hT
        go_wp2_with fail
        go_ret
        exact ⟨rfl, HBB.out⟩
  · have hT : F = false := by
      rw [← hF, decide_eq_false_iff_not]
      intro h
      have := congrArg List.length h
      rw [List.length_map, List.length_map] at this
      exact hlm this
    subst hT
    have hnm : (((l.length : Nat) : Int) != ((m.length : Nat) : Int)) = true := by simp; omega
    clear hF hlm
    go_enter Tryz.func155, Tryz.ntmps155
    go_wp2_with fail
    go_ret
    exact ⟨rfl, b0⟩
theorem tsame_any (m : List Rw) (va vb : Value) (l : List Rw) (I : Nat → Prop) (w : World) (ha : TbV w I va l) (hb : TbV w I vb m) (hl : ∀ r ∈ l, r.1.length ≤ 9223372036854775807) (hll : l.length ≤ 9223372036854775807) :
    Calls Tryz.prog 102 #[va, vb] w fun e w' => e = .returned (.bool (decide (l = m))) ∧ Below w.heap.size w w' := by
  obtain ⟨x, A, c, rfl, rfl, h3, h4, h5⟩ := ha
  obtain ⟨y, B, c', rfl, rfl, k3, k4, k5⟩ := hb
  have HT := Lib.hid (teqf_any A B c c' x y I w h3 k3 (fun r hr => ⟨h4 r hr, hl _ (List.mem_map_of_mem hr)⟩) k4 (by rw [List.length_map] at hll; exact hll))
  clear h3 h4 h5 k3 k4 k5 hl hll
  generalize decide (x.map Rv.rw = y.map Rv.rw) = F at *
  generalize x.length = xl at *
  generalize y.length = yl at *
  go_enter Tryz.func102, Tryz.ntmps102
  go_wp2_with fail
  refine HT.out.mono ?_
  rintro e w1 ⟨rfl, hb1⟩
  go_wp2_with fail
  go_ret
  exact ⟨rfl, hb1⟩
end Go.Proofs.YtgidfnhfgiehjaaGreatDoor
end

section
namespace Go.Proofs.YtgidfnhfgiehjaaGreatDoor
open Go.RowKit Go.PM
set_option maxRecDepth 100000
set_option maxHeartbeats 4000000
attribute [local go_sem ↓] Go.wp_at_zero Go.wp_at_succ
theorem alike0 (b i b' i' : Nat) (x y : Nat) (w : World) (hb : b < w.heap.size) (hb' : b' < w.heap.size) (h1 : w.cell? ⟨b, i, none⟩ = some (.int .u64 (x : Int))) (h2 : w.cell? ⟨b', i', none⟩ = some (.int .u64 (y : Int))) :
    Calls Tryz.prog 58 #[.iface (ptrT 0) (.pointer (some ⟨b, i, none⟩)), .iface (ptrT 0) (.pointer (some ⟨b', i', none⟩))] w fun e w' => e = .returned (.bool (decide (x = y))) ∧ Below w.heap.size w w' := by
  have hq : ((x : Int) == (y : Int)) = decide (x = y) := by
    (rw [Bool.eq_iff_iff, beq_iff_eq, decide_eq_true_iff]; omega)
  generalize decide (x = y) = F at *
  have y0 := as_yes 0
  simp only [ptrT] at *
  have n0 : ∀ n : BelW w, n.wld.cell? ⟨b, i, none⟩ = some (.int .u64 (x : Int)) := fun n => (n.bel.cell (p := ⟨b, i, none⟩) hb).trans h1
  have n1 : ∀ n : BelW w, n.wld.cell? ⟨b', i', none⟩ = some (.int .u64 (y : Int)) := fun n => (n.bel.cell (p := ⟨b', i', none⟩) hb').trans h2
  go_enter Tryz.func58, Tryz.ntmps58
  go_wp2_with fail
  refine wp_region_below_lit (by kernel_rfl) (by kernel_rfl) ?_
  repeat (first | go_big_quiet_skip | (go_big_quiet_want; go_big_quiet_op; first | go_big_quiet_on | (apply Exists.intro; refine ⟨fun nq => ?_, ?_⟩; (fail); go_big_quiet_on)))
  refine wpQuiet_nil ?_
  intro wq hnq
  obtain ⟨nq, rfl⟩ := hnq
  have hq := nq.bel
  generalize nq.wld = wq at hq ⊢
  clear nq
  go_wp2_with fail
  go_ret
  exact ⟨rfl, by assumption⟩
theorem alike1 (b i b' i' : Nat) (x y : Bool) (w : World) (hb : b < w.heap.size) (hb' : b' < w.heap.size) (h1 : w.cell? ⟨b, i, none⟩ = some (.bool x)) (h2 : w.cell? ⟨b', i', none⟩ = some (.bool y)) :
    Calls Tryz.prog 58 #[.iface (ptrT 1) (.pointer (some ⟨b, i, none⟩)), .iface (ptrT 1) (.pointer (some ⟨b', i', none⟩))] w fun e w' => e = .returned (.bool (decide (x = y))) ∧ Below w.heap.size w w' := by
  have hq : (x == y) = decide (x = y) := by
    (cases x <;> cases y <;> rfl)
  generalize decide (x = y) = F at *
  have y1 := as_yes 1
  have n0 := as_no10
  simp only [ptrT] at *
  have n0 : ∀ n : BelW w, n.wld.cell? ⟨b, i, none⟩ = some (.bool x) := fun n => (n.bel.cell (p := ⟨b, i, none⟩) hb).trans h1
  have n1 : ∀ n : BelW w, n.wld.cell? ⟨b', i', none⟩ = some (.bool y) := fun n => (n.bel.cell (p := ⟨b', i', none⟩) hb').trans h2
  go_enter Tryz.func58, Tryz.ntmps58
  go_wp2_with fail
  refine wp_region_below_lit (by kernel_rfl) (by kernel_rfl) ?_
  repeat (first | go_big_quiet_skip | (go_big_quiet_want; go_big_quiet_op; first | go_big_quiet_on | (apply Exists.intro; refine ⟨fun nq => ?_, ?_⟩; (fail); go_big_quiet_on)))
  refine wpQuiet_nil ?_
  intro wq hnq
  obtain ⟨nq, rfl⟩ := hnq
  have hq := nq.bel
  generalize nq.wld = wq at hq ⊢
  clear nq
  go_wp2_with fail
  go_ret
  exact ⟨rfl, by assumption⟩
theorem alike2 (b i b' i' : Nat) (x y : Int) (w : World) (hb : b < w.heap.size) (hb' : b' < w.heap.size) (h1 : w.cell? ⟨b, i, none⟩ = some (.int .i64 x)) (h2 : w.cell? ⟨b', i', none⟩ = some (.int .i64 y)) :
    Calls Tryz.prog 58 #[.iface (ptrT 2) (.pointer (some ⟨b, i, none⟩)), .iface (ptrT 2) (.pointer (some ⟨b', i', none⟩))] w fun e w' => e = .returned (.bool (decide (x = y))) ∧ Below w.heap.size w w' := by
  have hq : (x == y) = decide (x = y) := by
    (rw [Bool.eq_iff_iff, beq_iff_eq, decide_eq_true_iff])
  generalize decide (x = y) = F at *
  have y2 := as_yes 2
  have n0 := as_no20
  have n1 := as_no21
  simp only [ptrT] at *
  have n0 : ∀ n : BelW w, n.wld.cell? ⟨b, i, none⟩ = some (.int .i64 x) := fun n => (n.bel.cell (p := ⟨b, i, none⟩) hb).trans h1
  have n1 : ∀ n : BelW w, n.wld.cell? ⟨b', i', none⟩ = some (.int .i64 y) := fun n => (n.bel.cell (p := ⟨b', i', none⟩) hb').trans h2
  go_enter Tryz.func58, Tryz.ntmps58
  go_wp2_with fail
  refine wp_region_below_lit (by kernel_rfl) (by kernel_rfl) ?_
  repeat (first | go_big_quiet_skip | (go_big_quiet_want; go_big_quiet_op; first | go_big_quiet_on | (apply Exists.intro; refine ⟨fun nq => ?_, ?_⟩; (fail); go_big_quiet_on)))
  refine wpQuiet_nil ?_
  intro wq hnq
  obtain ⟨nq, rfl⟩ := hnq
  have hq := nq.bel
  generalize nq.wld = wq at hq ⊢
  clear nq
  go_wp2_with fail
  go_ret
  exact ⟨rfl, by assumption⟩
theorem alike3 (b i b' i' : Nat) (x y : List UInt8) (w : World) (hb : b < w.heap.size) (hb' : b' < w.heap.size) (h1 : w.cell? ⟨b, i, none⟩ = some (.string (txt x))) (h2 : w.cell? ⟨b', i', none⟩ = some (.string (txt y))) :
    Calls Tryz.prog 58 #[.iface (ptrT 3) (.pointer (some ⟨b, i, none⟩)), .iface (ptrT 3) (.pointer (some ⟨b', i', none⟩))] w fun e w' => e = .returned (.bool (decide (x = y))) ∧ Below w.heap.size w w' := by
  have hq : ((txt x).toList == (txt y).toList) = decide (x = y) := by
    (rw [ByteArray.toList_eq, ByteArray.toList_eq, txt_list, txt_list, Bool.eq_iff_iff, beq_iff_eq, decide_eq_true_iff])
  generalize decide (x = y) = F at *
  have y3 := as_yes 3
  have n0 := as_no30
  have n1 := as_no31
  have n2 := as_no32
  simp only [ptrT] at *
  have n0 : ∀ n : BelW w, n.wld.cell? ⟨b, i, none⟩ = some (.string (txt x)) := fun n => (n.bel.cell (p := ⟨b, i, none⟩) hb).trans h1
  have n1 : ∀ n : BelW w, n.wld.cell? ⟨b', i', none⟩ = some (.string (txt y)) := fun n => (n.bel.cell (p := ⟨b', i', none⟩) hb').trans h2
  go_enter Tryz.func58, Tryz.ntmps58
  go_wp2_with fail
  refine wp_region_below_lit (by kernel_rfl) (by kernel_rfl) ?_
  repeat (first | go_big_quiet_skip | (go_big_quiet_want; go_big_quiet_op; first | go_big_quiet_on | (apply Exists.intro; refine ⟨fun nq => ?_, ?_⟩; (fail); go_big_quiet_on)))
  refine wpQuiet_nil ?_
  intro wq hnq
  obtain ⟨nq, rfl⟩ := hnq
  have hq := nq.bel
  generalize nq.wld = wq at hq ⊢
  clear nq
  go_wp2_with fail
  go_ret
  exact ⟨rfl, by assumption⟩
theorem alike4 (b i b' i' : Nat) (x y : List Ent) (A B : Option Addr) (c d : Nat) (w : World) (hb : b < w.heap.size) (hb' : b' < w.heap.size) (h1 : w.cell? ⟨b, i, none⟩ = some (.slice A x.length c)) (h2 : w.cell? ⟨b', i', none⟩ = some (.slice B y.length d)) (hx : Rd w A (ents x)) (hy : Rd w B (ents y)) (hl : x.length ≤ 9223372036854775807) :
    Calls Tryz.prog 58 #[.iface (ptrT 4) (.pointer (some ⟨b, i, none⟩)), .iface (ptrT 4) (.pointer (some ⟨b', i', none⟩))] w fun e w' => e = .returned (.bool (decide (x = y))) ∧ Below w.heap.size w w' := by
  have HE : Hid (∀ n : BelW w, Calls Tryz.prog 101 #[.slice A x.length c, .slice B y.length d] n.wld fun e w' => e = .returned (.bool (decide (x = y))) ∧ Below n.wld.heap.size n.wld w') := fun n => eequ_any A B c d x y n.wld (hx.below n.bel) (hy.below n.bel) hl
  clear hx hy hl
  generalize decide (x = y) = F at *
  generalize x.length = xl at *
  generalize y.length = yl at *
  generalize hvx : Value.slice A xl c = vx at h1
  generalize hvy : Value.slice B yl d = vy at h2
  have n9 : ∀ n : BelW w, n.wld.cell? ⟨b, i, none⟩ = some vx := fun n => (n.bel.cell (p := ⟨b, i, none⟩) hb).trans h1
  have n8 : ∀ n : BelW w, n.wld.cell? ⟨b', i', none⟩ = some vy := fun n => (n.bel.cell (p := ⟨b', i', none⟩) hb').trans h2
  subst hvx hvy
  clear h1 h2
  have y4 := as_yes 4
  have n0 := as_no40
  have n1 := as_no41
  have n2 := as_no42
  have n3 := as_no43
  simp only [ptrT] at *
  go_enter Tryz.func58, Tryz.ntmps58
  go_wp2_with fail
  refine wp_region_below_lit (by kernel_rfl) (by kernel_rfl) ?_
  repeat (first | go_big_quiet_skip | (go_big_quiet_want; go_big_quiet_op; first | go_big_quiet_on | (apply Exists.intro; refine ⟨fun nq => ?_, ?_⟩; (go_at_call 101; exact below_of (HE.out _)); go_big_quiet_on)))
  refine wpQuiet_nil ?_
  intro wq hnq
  obtain ⟨nq, rfl⟩ := hnq
  have hq := nq.bel
  generalize nq.wld = wq at hq ⊢
  clear nq
  go_wp2_with fail
  go_ret
  exact ⟨rfl, by assumption⟩
theorem alike5 (b i b' i' : Nat) (x y : List Rw) (vx vy : Value) (I : Nat → Prop) (w : World) (hb : b < w.heap.size) (hb' : b' < w.heap.size) (h1 : w.cell? ⟨b, i, none⟩ = some vx) (h2 : w.cell? ⟨b', i', none⟩ = some vy) (hx : TbV w I vx x) (hy : TbV w I vy y) (hl : ∀ r ∈ x, r.1.length ≤ 9223372036854775807) (hll : x.length ≤ 9223372036854775807) :
    Calls Tryz.prog 58 #[.iface (ptrT 5) (.pointer (some ⟨b, i, none⟩)), .iface (ptrT 5) (.pointer (some ⟨b', i', none⟩))] w fun e w' => e = .returned (.bool (decide (x = y))) ∧ Below w.heap.size w w' := by
  have HE : Hid (∀ n : BelW w, Calls Tryz.prog 102 #[vx, vy] n.wld fun e w' => e = .returned (.bool (decide (x = y))) ∧ Below n.wld.heap.size n.wld w') := fun n => tsame_any y vx vy x I n.wld (hx.below n.bel) (hy.below n.bel) hl hll
  obtain ⟨lx, A, c, hvx, _⟩ := hx
  obtain ⟨ly, B, d, hvy, _⟩ := hy
  clear hl hll
  generalize decide (x = y) = F at *
  have n9 : ∀ n : BelW w, n.wld.cell? ⟨b, i, none⟩ = some vx := fun n => (n.bel.cell (p := ⟨b, i, none⟩) hb).trans h1
  have n8 : ∀ n : BelW w, n.wld.cell? ⟨b', i', none⟩ = some vy := fun n => (n.bel.cell (p := ⟨b', i', none⟩) hb').trans h2
  subst hvx hvy
  generalize lx.length = xl at *
  generalize ly.length = yl at *
  clear h1 h2
  have y5 := as_yes 5
  have n0 := as_no50
  have n1 := as_no51
  have n2 := as_no52
  have n3 := as_no53
  have n4 := as_no54
  simp only [ptrT] at *
  go_enter Tryz.func58, Tryz.ntmps58
  go_wp2_with fail
  refine wp_region_below_lit (by kernel_rfl) (by kernel_rfl) ?_
  repeat (first | go_big_quiet_skip | (go_big_quiet_want; go_big_quiet_op; first | go_big_quiet_on | (apply Exists.intro; refine ⟨fun nq => ?_, ?_⟩; (go_at_call 102; exact below_of (HE.out _)); go_big_quiet_on)))
  refine wpQuiet_nil ?_
  intro wq hnq
  obtain ⟨nq, rfl⟩ := hnq
  have hq := nq.bel
  generalize nq.wld = wq at hq ⊢
  clear nq
  go_wp2_with fail
  go_ret
  exact ⟨rfl, by assumption⟩
end Go.Proofs.YtgidfnhfgiehjaaGreatDoor
end
