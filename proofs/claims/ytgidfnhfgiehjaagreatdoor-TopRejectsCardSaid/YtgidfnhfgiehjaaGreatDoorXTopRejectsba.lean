/-
  Texts of the proof, joined: Awake16 SetEx PlainTop TopF Open Open5 Open3 Open6. Conditions: as each names.
-/
import Derived.Test.YtgidfnhfgiehjaaGreatDoorXTopRejectsaz
import Derived.Test.YtgidfnhfgiehjaaGreatDoorXTopRejectsae
import Derived.Test.YtgidfnhfgiehjaaGreatDoorXTopRejectsah
import Derived.Test.YtgidfnhfgiehjaaGreatDoorXTopRejectsaw
import Derived.Test.YtgidfnhfgiehjaaGreatDoorXTopRejectsai
import Derived.Test.YtgidfnhfgiehjaaGreatDoorXTopRejectsab
import Derived.ProofKit
import Derived.OpenShut
import Derived.Deep.SlicePairs
import Derived.Test.YtgidfnhfgiehjaaGreatDoorXTopRejectsam
import Derived.Test.YtgidfnhfgiehjaaGreatDoorXTopRejectsac
import Derived.Lib.SmallJoins

section
namespace Go.Proofs.YtgidfnhfgiehjaaGreatDoor
open Go.RowKit Go.PM
set_option maxRecDepth 100000
set_option maxHeartbeats 4000000
attribute [local go_sem ↓] Go.wp_at_zero Go.wp_at_succ
theorem dbeh_none (k:List UInt8):dbehO none k=0:=rfl
theorem exam16a (a:UInt8) (n:Nat) (ha:ugood [a]=true) (hn:n≠0):tchk echk [([([a],[])],n)]=0:=by
 unfold tchk
 rw [if_neg (by simp),tchk1,if_neg (by rw [exam13r a n ha hn];decide),if_neg (by rw [dbeh_none];decide)]
 rfl
theorem exam16b:tchk echk [([([97],[])],3),([([98],[])],2)]=0:=by
 unfold tchk
 rw [if_neg (by simp),tchk1,if_neg (by rw [exam13r 97 3 exam13a (by decide)];decide),if_neg (by rw [dbeh_none];decide),tchk1,if_neg (by rw [exam13r 98 2 exam13b (by decide)];decide),if_neg (by rw [exam13k,exam13k];decide)]
 rfl
theorem awake16 (w:World) (hT:Tabs w) :
 Calls Tryz.prog 241 #[] w fun e w' => e=.returned (.bool true)∧Below w.heap.size w w':=by
 have hx0:=BlkAt.made w 132 #[.string ⟨#[97]⟩,.string ⟨#[]⟩]
 have hb0:=ba (a:=w) b0 (.cells #[.string ⟨#[97]⟩,.string ⟨#[]⟩] 132)
 obtain ⟨wa,hwa⟩:∃ wa,wa=w.alloc (.cells #[.string ⟨#[97]⟩,.string ⟨#[]⟩] 132):=⟨_,rfl⟩
 have hsa:wa.heap.size=w.heap.size+1:=by rw [hwa];simp
 rw [← hwa] at hx0 hb0
 have hx1:=BlkAt.made wa 132 #[.string ⟨#[98]⟩,.string ⟨#[]⟩]
 have hb1:=ba hb0 (.cells #[.string ⟨#[98]⟩,.string ⟨#[]⟩] 132)
 have hx0b:=hx0.more (.cells #[.string ⟨#[98]⟩,.string ⟨#[]⟩] 132)
 obtain ⟨wb,hwb⟩:∃ wb,wb=wa.alloc (.cells #[.string ⟨#[98]⟩,.string ⟨#[]⟩] 132):=⟨_,rfl⟩
 have hsb:wb.heap.size=w.heap.size+1+1:=by rw [hwb];simp [hsa]
 rw [← hwb] at hx1 hb1 hx0b
 rw [hsa] at hx1
 have hx2:=BlkAt.made wb 134 #[.slice (some ⟨w.heap.size,0,none⟩) 1 1,.int .u64 1]
 have hb2:=ba hb1 (.cells #[.slice (some ⟨w.heap.size,0,none⟩) 1 1,.int .u64 1] 134)
 have hx0c:=hx0b.more (.cells #[.slice (some ⟨w.heap.size,0,none⟩) 1 1,.int .u64 1] 134)
 have hx1c:=hx1.more (.cells #[.slice (some ⟨w.heap.size,0,none⟩) 1 1,.int .u64 1] 134)
 obtain ⟨wc,hwc⟩:∃ wc,wc=wb.alloc (.cells #[.slice (some ⟨w.heap.size,0,none⟩) 1 1,.int .u64 1] 134):=⟨_,rfl⟩
 have hsc:wc.heap.size=w.heap.size+1+1+1:=by rw [hwc];simp [hsb]
 rw [← hwc] at hx2 hb2 hx0c hx1c
 rw [hsb] at hx2
 have hx3:=BlkAt.made wc 134 #[.slice (some ⟨w.heap.size,0,none⟩) 1 1,.int .u64 3,.slice (some ⟨w.heap.size+1,0,none⟩) 1 1,.int .u64 2]
 have hb3:=ba hb2 (.cells #[.slice (some ⟨w.heap.size,0,none⟩) 1 1,.int .u64 3,.slice (some ⟨w.heap.size+1,0,none⟩) 1 1,.int .u64 2] 134)
 have hx0d:=hx0c.more (.cells #[.slice (some ⟨w.heap.size,0,none⟩) 1 1,.int .u64 3,.slice (some ⟨w.heap.size+1,0,none⟩) 1 1,.int .u64 2] 134)
 have hx1d:=hx1c.more (.cells #[.slice (some ⟨w.heap.size,0,none⟩) 1 1,.int .u64 3,.slice (some ⟨w.heap.size+1,0,none⟩) 1 1,.int .u64 2] 134)
 have hx2d:=hx2.more (.cells #[.slice (some ⟨w.heap.size,0,none⟩) 1 1,.int .u64 3,.slice (some ⟨w.heap.size+1,0,none⟩) 1 1,.int .u64 2] 134)
 obtain ⟨wd,hwd⟩:∃ wd,wd=wc.alloc (.cells #[.slice (some ⟨w.heap.size,0,none⟩) 1 1,.int .u64 3,.slice (some ⟨w.heap.size+1,0,none⟩) 1 1,.int .u64 2] 134):=⟨_,rfl⟩
 rw [← hwd] at hx3 hb3 hx0d hx1d hx2d
 rw [hsc] at hx3
 have hA:Rd wd (some ⟨w.heap.size+1+1+1,0,none⟩) (rvs [⟨[([97],[])],some ⟨w.heap.size,0,none⟩,1,3⟩,⟨[([98],[])],some ⟨w.heap.size+1,0,none⟩,1,2⟩]):=by
  refine .inr ⟨_,0,rfl,hx3.lt,fun j u hj => ?_⟩
  rw [Nat.zero_add,hx3.cell j,List.getElem?_toArray]
  exact hj
 have hB:Rd wd (some ⟨w.heap.size+1+1,0,none⟩) (rvs [⟨[([97],[])],some ⟨w.heap.size,0,none⟩,1,1⟩]):=by
  refine .inr ⟨_,0,rfl,hx2d.lt,fun j u hj => ?_⟩
  rw [Nat.zero_add,hx2d.cell j,List.getElem?_toArray]
  exact hj
 have hro:∀ r ∈ ([⟨[([97],[])],some ⟨w.heap.size,0,none⟩,1,3⟩,⟨[([98],[])],some ⟨w.heap.size+1,0,none⟩,1,2⟩,⟨[([97],[])],some ⟨w.heap.size,0,none⟩,1,1⟩]:List Rv),RvOk wd (fun _ => True) r:=fun r hr => by
  simp only [List.mem_cons,List.not_mem_nil,or_false] at hr
  rcases hr with rfl | rfl | rfl
  · exact ⟨Nat.le_refl 1,(rd_ent1 hx0d).rdI fun _ _ _ => trivial⟩
  · exact ⟨Nat.le_refl 1,(rd_ent1 hx1d).rdI fun _ _ _ => trivial⟩
  · exact ⟨Nat.le_refl 1,(rd_ent1 hx0d).rdI fun _ _ _ => trivial⟩
 have hz:∀ r ∈ ([⟨[([97],[])],some ⟨w.heap.size,0,none⟩,1,3⟩,⟨[([98],[])],some ⟨w.heap.size+1,0,none⟩,1,2⟩,⟨[([97],[])],some ⟨w.heap.size,0,none⟩,1,1⟩]:List Rv),ESz r.d∧r.d.length≤9223372036854775807:=fun r hr => by
  simp only [List.mem_cons,List.not_mem_nil,or_false] at hr
  rcases hr with rfl | rfl | rfl <;> exact ⟨fun e he => by simp only [List.mem_cons,List.not_mem_nil,or_false] at he;subst he;simp,by simp⟩
 have HO:=Lib.hid (diff16 _ _ _ _ _ 2 1 1 1 _ _ _ wd (hT.below hb3) rfl rfl rfl hA hB hro hz exam16b (exam16a 97 1 exam13a (by decide)))
 have HB3:=Lib.hid hb3
 have HA:Hid (∀ x:World,Below w.heap.size w x→Calls Tryz.prog 243 #[] x fun e w' => e=.returned (.bool true)∧Below x.heap.size x w'):=fun x hx => awakeE15 x (hT.below hx)
 clear hA hB hro hz hx0 hx0b hx0c hx0d hx1 hx1c hx1d hx2 hx2d hx3 hb0 hb1 hb2 hb3 hT hsa hsb hsc
 subst hwd hwc hwb hwa
 go_enter Tryz.func241,Tryz.ntmps241
 go_wp2_with fail
 refine HO.out.mono ?_
 rintro e w3 ⟨A',c2,bb0,ee0,rfl,⟨l,A,c,hs,hl,hrl,hol,hlc,hfr⟩,hb4⟩
 obtain ⟨r0,r1,rfl⟩:∃ r0 r1,l=[r0,r1]:=list_two (by have:=congrArg List.length hl;rw [List.length_map] at this;exact this.symm)
 have hn0:r0.n=2:=by simp only [List.map_cons,List.cons.injEq] at hl;have:=congrArg Prod.snd hl.1;simpa [Rv.rw] using this.symm
 have hn1:r1.n=2:=by simp only [List.map_cons,List.cons.injEq] at hl;have:=congrArg Prod.snd hl.2.1;simpa [Rv.rw] using this.symm
 injection hs with e1 _ e3
 subst e1 e3
 have HB4:=Lib.hid (bb HB3.out hb4)
 have hbd:=ba (a:=w3) b0 (.cells #[.int .u64 bb0,.int .u64 ee0,.slice A' 2 c2] 321)
 have HX:=Lib.hid (BlkAt.made w3 321 #[.int .u64 bb0,.int .u64 ee0,.slice A' 2 c2])
 have HRL:=Lib.hid (hrl.below hbd)
 have HBD:=Lib.hid (bb HB4.out hbd)
 clear hl hol hlc hfr hb4 hrl HO HB3 hbd
 go_wp2_with fail
 refine (HA.out _ HBD.out).mono ?_
 rintro e w4 ⟨rfl,hb5⟩
 have hrd4:=HRL.out.below hb5
 have hx4:=HX.out.below hb5 HX.out.lt
 have d2:=hx4.cell 2
 have hlx:=hx4.lt
 simp at d2
 obtain ⟨b,off,hA,hbl,_,c1⟩:=hrd4.row (k:=0) (by simp)
 obtain ⟨b',off',hA',_,_,c3⟩:=hrd4.row (k:=1) (by simp)
 rw [hA] at hA'
 injection hA' with hA'
 injection hA' with e1 e2
 subst e1 e2 hA
 simp only [List.getElem_cons_zero,List.getElem_cons_succ,hn0,hn1,Nat.zero_mul,Nat.one_mul,Nat.add_zero] at c1 c3
 have HB6:=Lib.hid (bb HBD.out hb5)
 clear hb5 hrd4 HRL HA HB4 HBD hn0 hn1 hx4 HX
 go_wp2_with fail
 go_ret
 exact ⟨rfl,HB6.out⟩
theorem awakeE16 (w:World) (hT:Tabs w):Calls Tryz.prog 238 #[] w fun e w' => e=.returned (.bool true)∧Below w.heap.size w w':=by
 have H:=Lib.hid (awake16 w hT)
 clear hT
 go_enter Tryz.func238,Tryz.ntmps238
 go_wp2_with fail
 refine H.out.mono ?_
 rintro e w' ⟨rfl,hb⟩
 go_wp2
 go_ret
 exact ⟨rfl,hb⟩
theorem awake17 (w:World) (hT:Tabs w) :
 Calls Tryz.prog 237 #[] w fun e w' => e=.returned (.bool true)∧Below w.heap.size w w':=by
 have H:=Lib.hid (awakeE16 w hT)
 have HTG:Hid (∀ x:World,Calls Tryz.prog 41 #[.int .i64 7,.int .i64 2] x fun e w' => ∃ A c,e=.returned (.slice A 1 c)∧Rd w' A (u64s [1])∧1≤c∧Below x.heap.size x w'):=fun x => tags17 7 2 x (by decide) (by decide) (by decide) (by decide)
 have HNM:Hid (∀ x:World,Calls Tryz.prog 240 #[.int .i64 7] x fun e w' => e=.returned (.string ⟨#[65,99,107]⟩)∧Below x.heap.size x w'):=fun x => name17 7 x (by unfold InI64;decide)
 clear hT
 have hs:(ByteArray.mk #[65,99,107]).toList=[65,99,107]:=by rw [ByteArray.toList_eq]
 go_enter Tryz.func237,Tryz.ntmps237
 go_wp2_with fail
 refine H.out.mono ?_
 rintro e w1 ⟨rfl,hb1⟩
 have HB1:=Lib.hid hb1
 clear hb1 H
 go_wp2_with fail
 refine (HTG.out _).mono ?_
 rintro e w2 ⟨A,c,rfl,hrd,hc,hb2⟩
 have HB2:=Lib.hid (bb HB1.out hb2)
 have hx:=BlkAt.made w2 22 #[.int .u64 1]
 have hbx:=ba (a:=w2) b0 (.cells #[.int .u64 1] 22)
 have hr2:Rd (w2.alloc (.cells #[.int .u64 1] 22)) (some ⟨w2.heap.size,0,none⟩) (u64s [1]):=by
  refine .inr ⟨_,0,rfl,hx.lt,fun j u hj => ?_⟩
  rw [Nat.zero_add,hx.cell j,List.getElem?_toArray]
  exact hj
 have HEQ:=Lib.hid (equ64 A _ c 1 [1] _ (hrd.below hbx) hr2 (by decide))
 have HBX:=Lib.hid (bb HB2.out hbx)
 clear hrd hc hb2 hx hbx hr2
 go_wp2_with fail
 refine HEQ.out.mono ?_
 rintro e w3 ⟨rfl,hb3⟩
 have HB3:=Lib.hid (bb HBX.out hb3)
 clear hb3 HEQ
 go_wp2_with fail
 refine (HNM.out _).mono ?_
 rintro e w4 ⟨rfl,hb4⟩
 have HB4:=Lib.hid (bb HB3.out hb4)
 clear hb4
 go_wp2_with fail
 go_ret
 exact ⟨rfl,HB4.out⟩
theorem awakeE17 (w:World) (hT:Tabs w):Calls Tryz.prog 236 #[] w fun e w' => e=.returned (.bool true)∧Below w.heap.size w w':=by
 have H:=Lib.hid (awake17 w hT)
 clear hT
 go_enter Tryz.func236,Tryz.ntmps236
 go_wp2_with fail
 refine H.out.mono ?_
 rintro e w' ⟨rfl,hb⟩
 go_wp2
 go_ret
 exact ⟨rfl,hb⟩
end Go.Proofs.YtgidfnhfgiehjaaGreatDoor
end

section
namespace Go.Proofs.YtgidfnhfgiehjaaGreatDoor
open Go.RowKit Go.PM
set_option maxRecDepth 100000
set_option maxHeartbeats 4000000
attribute [local go_sem ↓] Go.wp_at_zero Go.wp_at_succ
theorem wpList_load_blk_w {P:Program} {ops:Array Oper} {rest:List Oper} {op:Oper} {a:Act} {w:World} {Q:Exit→Act→World→Prop} (hw:Region.wanted op (yielded ops a.tmps)=true) (ty:TypeId) (x:Operand) (ho:op.op=.load ty x)
 (b:Nat) (hx:a.eval x=.pointer (some ⟨b,0,none⟩)) {t:TypeId} (cs:Array Value) (hc:BlkAt w b t cs) {d:TypeDesc}
 (hu:P.underlying ty=some d) (hd:d.isRow=true) (hi:(P.info? ty).map (·.size)=some cs.size)
 (h:wpList P ops Q rest (a.put op.dst (.agg cs)) w):wpList P ops Q (op :: rest) a w :=
 wpList_step fun K hK => by
  rw [if_pos hw]
  exact wp_load_mid ty x ho b 0 hx cs.toList d (fun j v hv => by rw [Nat.zero_add,hc.cell j,← Array.getElem?_toList];exact hv) hu hd (by rw [hi];simp) (hK _ _ (by simpa using h))
theorem mgv_nil (w:World) (m:Mp) (hd:m.d=[]) (ht:m.t=[]) (hr:m.rest=.nil):MgV w (fun _ => True) m (.slice none 0 0) (.slice none 0 0) (.slice none 0 0):=by
 refine ⟨⟨none,0,by rw [hd];rfl,by rw [hd];exact Nat.le_refl _,.inl hd⟩,by rw [ht];exact TbV.nil _ _,by rw [hr];exact SlV.nil _ _ _ _⟩
theorem msz_small {m:Mp} (hk:InI64 m.kind) (hm:∀ i,i < 22→(m.val i).may=0) (hg:∀ i,i < 22→(m.val i).good) (hr:m.rest=.nil):Msz m:=by
 refine msz_of hk hm hg ?_ ?_ ?_ <;> rw [hr]
 · trivial
 · exact Nat.zero_le _
 · exact Nat.zero_le _
theorem e18_sz:Msz e18:=msz_small (by unfold InI64;decide) m0_may m0_good rfl
theorem e18b_sz:Msz e18b:=msz_small (by unfold InI64;decide) (by refine cases22 ?_ ?_ ?_ ?_ ?_ ?_ ?_ ?_ ?_ ?_ ?_ ?_ ?_ ?_ ?_ ?_ ?_ ?_ ?_ ?_ ?_ ?_ <;> first | rfl | exact uchk_nil) (by
 refine cases22 ?_ ?_ ?_ ?_ ?_ ?_ ?_ ?_ ?_ ?_ ?_ ?_ ?_ ?_ ?_ ?_ ?_ ?_ ?_ ?_ ?_ ?_ <;> simp [e18b,m0,Mp.val,Mv.good,InI64]) rfl
theorem e19_sz:Msz e19:=msz_small (by unfold InI64;decide) (by refine cases22 ?_ ?_ ?_ ?_ ?_ ?_ ?_ ?_ ?_ ?_ ?_ ?_ ?_ ?_ ?_ ?_ ?_ ?_ ?_ ?_ ?_ ?_ <;> first | rfl | exact uchk_nil) (by
 refine cases22 ?_ ?_ ?_ ?_ ?_ ?_ ?_ ?_ ?_ ?_ ?_ ?_ ?_ ?_ ?_ ?_ ?_ ?_ ?_ ?_ ?_ ?_ <;> simp [e19,m0,Mp.val,Mv.good,InI64]) rfl
theorem e20_sz:Msz e20:=msz_small (by unfold InI64;decide) (by refine cases22 ?_ ?_ ?_ ?_ ?_ ?_ ?_ ?_ ?_ ?_ ?_ ?_ ?_ ?_ ?_ ?_ ?_ ?_ ?_ ?_ ?_ ?_ <;> first | rfl | exact uchk_nil | exact uchk_eu) (by
 refine cases22 ?_ ?_ ?_ ?_ ?_ ?_ ?_ ?_ ?_ ?_ ?_ ?_ ?_ ?_ ?_ ?_ ?_ ?_ ?_ ?_ ?_ ?_ <;> simp [e20,m0,Mp.val,Mv.good,InI64]) rfl
theorem awake18 (w:World) (hT:Tabs w) :
 Calls Tryz.prog 231 #[] w fun e w' => e=.returned (.bool true)∧Below w.heap.size w w':=by
 have HA:Hid (∀ x:World,Below w.heap.size w x→Calls Tryz.prog 236 #[] x fun e w' => e=.returned (.bool true)∧Below x.heap.size x w'):=fun x hx => awakeE17 x (hT.below hx)
 have HC1:Hid (∀ x:World,Below w.heap.size w x→Calls Tryz.prog 43 #[.agg (mvs e18 (.slice none 0 0) (.slice none 0 0) (.slice none 0 0)),.int .i64 1] x fun e w' => e=.returned (.int .i64 0)∧Below x.heap.size x w'):=fun x hx => by
  have:=mcheck_any 1 (by decide) (by decide) x (mgv_nil x e18 rfl rfl rfl) e18_sz (hT.below hx)
  unfold CkEnd at this
  rw [ex18a] at this
  exact this
 have HC2:Hid (∀ x:World,Below w.heap.size w x→Calls Tryz.prog 43 #[.agg (mvs e18b (.slice none 0 0) (.slice none 0 0) (.slice none 0 0)),.int .i64 2] x fun e w' => e=.returned (.int .i64 26)∧Below x.heap.size x w'):=fun x hx => by
  have:=mcheck_any 2 (by decide) (by decide) x (mgv_nil x e18b rfl rfl rfl) e18b_sz (hT.below hx)
  unfold CkEnd at this
  rw [ex18b] at this
  exact this
 have HC3:Hid (∀ x:World,Below w.heap.size w x→Calls Tryz.prog 43 #[.agg (mvs e18b (.slice none 0 0) (.slice none 0 0) (.slice none 0 0)),.int .i64 3] x fun e w' => e=.returned (.int .i64 0)∧Below x.heap.size x w'):=fun x hx => by
  have:=mcheck_any 3 (by decide) (by decide) x (mgv_nil x e18b rfl rfl rfl) e18b_sz (hT.below hx)
  unfold CkEnd at this
  rw [ex18c] at this
  exact this
 clear hT
 have hm1:=BlkAt.made w 35 zmvs
 have hm2:=putAll_at (ds:=mvs e18 (.slice none 0 0) (.slice none 0 0) (.slice none 0 0)) hm1 rfl
 have hs1:(World.putAll (w.alloc (.cells zmvs 35)) w.heap.size (mvs e18 (.slice none 0 0) (.slice none 0 0) (.slice none 0 0))).heap.size=w.heap.size+1:=by rw [putAll_size];simp
 have hb1:Below w.heap.size w (World.putAll (w.alloc (.cells zmvs 35)) w.heap.size (mvs e18 (.slice none 0 0) (.slice none 0 0) (.slice none 0 0))) :=
  (ba (a:=w) b0 (.cells zmvs 35)).trans ((putAll_tch _ w.heap.size _).toBelowB (by simp) fun g hg e => by omega)
 obtain ⟨w1,hw1⟩:∃ w1,w1=World.putAll (w.alloc (.cells zmvs 35)) w.heap.size (mvs e18 (.slice none 0 0) (.slice none 0 0) (.slice none 0 0)):=⟨_,rfl⟩
 rw [← hw1] at hm2 hs1 hb1
 have hn1:=BlkAt.made w1 35 zmvs
 have hn2:=putAll_at (ds:=mvs e18b (.slice none 0 0) (.slice none 0 0) (.slice none 0 0)) hn1 rfl
 have hs2:(World.putAll (w1.alloc (.cells zmvs 35)) w1.heap.size (mvs e18b (.slice none 0 0) (.slice none 0 0) (.slice none 0 0))).heap.size=w1.heap.size+1:=by rw [putAll_size];simp
 have hb2:Below w1.heap.size w1 (World.putAll (w1.alloc (.cells zmvs 35)) w1.heap.size (mvs e18b (.slice none 0 0) (.slice none 0 0) (.slice none 0 0))) :=
  (ba (a:=w1) b0 (.cells zmvs 35)).trans ((putAll_tch _ w1.heap.size _).toBelowB (by simp) fun g hg e => by omega)
 obtain ⟨w2,hw2⟩:∃ w2,w2=World.putAll (w1.alloc (.cells zmvs 35)) w1.heap.size (mvs e18b (.slice none 0 0) (.slice none 0 0) (.slice none 0 0)):=⟨_,rfl⟩
 rw [← hw2] at hn2 hs2 hb2
 have HM1:=Lib.hid hm1
 have HN1:=Lib.hid hn1
 have HMM:=Lib.hid (hm2.below hb2 hm2.lt)
 have HNN:=Lib.hid hn2
 have HB2:=Lib.hid (bb hb1 hb2)
 simp only [zmvs] at HM1 HN1 hw1 hw2
 clear hm1 hm2 hb1 hn1 hn2 hb2 hs2 hs1
 go_enter Tryz.func231,Tryz.ntmps231
 go_wp2_with
  (with_reducible show wpList _ _ _ (Oper.mk _ (Op.store 35 _ _) _ _ _ _ :: _) _ _;apply pin)
 refine wpList_store_blk rfl _ _ _ rfl _ (mvs e18 (.slice none 0 0) (.slice none 0 0) (.slice none 0 0)) rfl rfl HM1.out rfl (info_msg _ _ _ _) mvs_one ?_
 rw [← hw1]
 clear hw1 HM1
 simp only [Act.put]
 go_wp2_with
  (with_reducible show wpList _ _ _ (Oper.mk _ (Op.store 35 _ _) _ _ _ _ :: _) _ _;apply pin)
 refine wpList_store_blk rfl _ _ _ rfl _ (mvs e18b (.slice none 0 0) (.slice none 0 0) (.slice none 0 0)) rfl rfl HN1.out rfl (info_msg _ _ _ _) mvs_one ?_
 rw [← hw2]
 clear hw2 HN1
 simp only [Act.put]
 go_wp2_with fail
 refine (HA.out _ HB2.out).mono ?_
 rintro e w3 ⟨rfl,hb3⟩
 have HM3:=Lib.hid (HMM.out.below hb3 HMM.out.lt)
 have HN3:=Lib.hid (HNN.out.below hb3 HNN.out.lt)
 have HB3:=Lib.hid (bb HB2.out hb3)
 clear hb3 HMM HNN HB2
 go_wp2_with
  (with_reducible show wpList _ _ _ (Oper.mk _ (Op.load 35 _) _ _ _ _ :: _) _ _;apply pin)
 refine wpList_load_blk_w (by rfl) _ _ rfl _ rfl _ HM3.out Tryz.underlying35 rfl (info_msg _ _ _ _) ?_
 go_wp2_with fail
 refine (HC1.out _ HB3.out).mono ?_
 rintro e w4 ⟨rfl,hb4⟩
 have HN4:=Lib.hid (HN3.out.below hb4 HN3.out.lt)
 have HB4:=Lib.hid (bb HB3.out hb4)
 clear hb4 HM3 HN3 HB3
 go_wp2_with
  (with_reducible show wpList _ _ _ (Oper.mk _ (Op.load 35 _) _ _ _ _ :: _) _ _;apply pin)
 refine wpList_load_blk_w (by rfl) _ _ rfl _ rfl _ HN4.out Tryz.underlying35 rfl (info_msg _ _ _ _) ?_
 go_wp2_with fail
 refine (HC2.out _ HB4.out).mono ?_
 rintro e w5 ⟨rfl,hb5⟩
 have HN5:=Lib.hid (HN4.out.below hb5 HN4.out.lt)
 have HB5:=Lib.hid (bb HB4.out hb5)
 clear hb5 HN4 HB4
 go_wp2_with
  (with_reducible show wpList _ _ _ (Oper.mk _ (Op.load 35 _) _ _ _ _ :: _) _ _;apply pin)
 refine wpList_load_blk_w (by rfl) _ _ rfl _ rfl _ HN5.out Tryz.underlying35 rfl (info_msg _ _ _ _) ?_
 go_wp2_with fail
 refine (HC3.out _ HB5.out).mono ?_
 rintro e w6 ⟨rfl,hb6⟩
 have HB6:=Lib.hid (bb HB5.out hb6)
 clear hb6 HN5 HB5
 go_wp2_with fail
 go_ret
 exact ⟨rfl,HB6.out⟩
theorem awakeE18 (w:World) (hT:Tabs w):Calls Tryz.prog 211 #[] w fun e w' => e=.returned (.bool true)∧Below w.heap.size w w':=by
 have H:=Lib.hid (awake18 w hT)
 clear hT
 go_enter Tryz.func211,Tryz.ntmps211
 go_wp2_with fail
 refine H.out.mono ?_
 rintro e w' ⟨rfl,hb⟩
 go_wp2
 go_ret
 exact ⟨rfl,hb⟩
theorem awake19 (w:World) (hT:Tabs w) :
 Calls Tryz.prog 172 #[] w fun e w' => e=.returned (.bool true)∧Below w.heap.size w w':=by
 have HA:Hid (∀ x:World,Below w.heap.size w x→Calls Tryz.prog 211 #[] x fun e w' => e=.returned (.bool true)∧Below x.heap.size x w'):=fun x hx => awakeE18 x (hT.below hx)
 have HC1:Hid (Calls Tryz.prog 11 #[.agg (mvs e19 (.slice none 0 0) (.slice none 0 0) (.slice none 0 0)),.int .i64 1] w fun e w' => e=.returned (.tuple #[.string ⟨#[7,4,7]⟩,.int .i64 0])∧Below w.heap.size w w'):=by
  have:=encode19 1 (by decide) (by decide) w (mgv_nil w e19 rfl rfl rfl) e19_sz hT
  unfold TxEnd at this
  rw [ex19] at this
  exact this
 clear hT
 simp only [mvs,e19,m0] at HC1
 have hs:(ByteArray.mk #[7,4,7]).toList=[7,4,7]:=by rw [ByteArray.toList_eq]
 go_enter Tryz.func172,Tryz.ntmps172
 go_wp2_with fail
 refine HC1.out.mono ?_
 rintro e w1 ⟨rfl,hb1⟩
 have HB1:=Lib.hid hb1
 clear hb1 HC1
 go_wp2_with fail
 refine (HA.out _ HB1.out).mono ?_
 rintro e w2 ⟨rfl,hb2⟩
 have HB2:=Lib.hid (bb HB1.out hb2)
 clear hb2 HB1
 go_wp2_with fail
 go_ret
 exact ⟨rfl,HB2.out⟩
theorem awakeE19 (w:World) (hT:Tabs w):Calls Tryz.prog 123 #[] w fun e w' => e=.returned (.bool true)∧Below w.heap.size w w':=by
 have H:=Lib.hid (awake19 w hT)
 clear hT
 go_enter Tryz.func123,Tryz.ntmps123
 go_wp2_with fail
 refine H.out.mono ?_
 rintro e w' ⟨rfl,hb⟩
 go_wp2
 go_ret
 exact ⟨rfl,hb⟩
def s20:List UInt8:=[1,4,1,8,2,17,2,101,117]
theorem across20 (w:World) (hT:Tabs w):Calls Tryz.prog 171 #[.agg (mvs e20 (.slice none 0 0) (.slice none 0 0) (.slice none 0 0)),.int .i64 2,.int .i64 1] w (DecEnd w (e20r,0)):=by
 have HT:=Lib.hid hT
 clear hT
 have HM:=Lib.hid (BlkAt.made w 35 (mvs e20 (.slice none 0 0) (.slice none 0 0) (.slice none 0 0)))
 obtain ⟨wz,hwz⟩:∃ wz,wz=w.alloc (.cells (mvs e20 (.slice none 0 0) (.slice none 0 0) (.slice none 0 0)) 35):=⟨_,rfl⟩
 have hsz:wz.heap.size=w.heap.size+1:=by rw [hwz];simp
 have hbz:Below w.heap.size w wz:=by rw [hwz];exact ba b0 _
 rw [← hwz] at HM
 have hmr:=BlkAt.made wz 35 zmvs
 rw [hsz] at hmr
 obtain ⟨wr,hwr⟩:∃ wr,wr=wz.alloc (.cells zmvs 35):=⟨_,rfl⟩
 have hbr:Below w.heap.size w wr:=by rw [hwr];exact ba hbz _
 have hsr:wr.heap.size=w.heap.size+1+1:=by rw [hwr,World.size_alloc,hsz]
 have hm2:BlkAt wr w.heap.size 35 (mvs e20 (.slice none 0 0) (.slice none 0 0) (.slice none 0 0)):=by rw [hwr];exact HM.out.more _
 rw [← hwr] at hmr
 have HMA:=Lib.hid hm2
 have HMR:=Lib.hid hmr
 have HBR:=Lib.hid hbr
 simp only [mvs,e20,m0] at hwz
 simp only [zmvs] at hwr
 have hwr2:(w.alloc (.cells #[.int .i64 1,.int .u64 0,.int .u64 1,.int .u64 2,.int .u64 0,.int .u64 0,.int .u64 0,.int .u64 0,.int .u64 0,.int .u64 0,.int .u64 0,.int .u64 0,.int .u64 0,.int .u64 0,.int .u64 0,.int .u64 0,.int .i64 0,.bool false,.string ⟨#[]⟩,.string ⟨#[101,117]⟩,.string ⟨#[]⟩,.slice none 0 0,.slice none 0 0,.slice none 0 0] 35)).alloc (.cells #[.int .i64 0,.int .u64 0,.int .u64 0,.int .u64 0,.int .u64 0,.int .u64 0,.int .u64 0,.int .u64 0,.int .u64 0,.int .u64 0,.int .u64 0,.int .u64 0,.int .u64 0,.int .u64 0,.int .u64 0,.int .u64 0,.int .i64 0,.bool false,.string ⟨#[]⟩,.string ⟨#[]⟩,.string ⟨#[]⟩,.slice none 0 0,.slice none 0 0,.slice none 0 0] 35)=wr:=by rw [hwr,hwz];rfl
 have HWR:=Lib.hid hwr2
 have HSR:=Lib.hid hsr
 clear hmr hwr hwz HM hbz hsz hbr hwr2 hm2 hsr
 show Calls _ _ #[.agg #[.int .i64 1,.int .u64 0,.int .u64 1,.int .u64 2,.int .u64 0,.int .u64 0,.int .u64 0,.int .u64 0,.int .u64 0,.int .u64 0,.int .u64 0,.int .u64 0,.int .u64 0,.int .u64 0,.int .u64 0,.int .u64 0,.int .i64 0,.bool false,.string ⟨#[]⟩,.string ⟨#[101,117]⟩,.string ⟨#[]⟩,.slice none 0 0,.slice none 0 0,.slice none 0 0],.int .i64 2,.int .i64 1] _ _
 have HEN:Hid (Calls Tryz.prog 11 #[.agg (mvs e20 (.slice none 0 0) (.slice none 0 0) (.slice none 0 0)),.int .i64 2] wr fun e w' => e=.returned (.tuple #[.string (txt s20),.int .i64 0])∧Below wr.heap.size wr w'):=by
  have:=encode19 2 (by decide) (by decide) wr (mgv_nil wr e20 rfl rfl rfl) e20_sz (HT.out.below HBR.out)
  unfold TxEnd at this
  rw [ex20] at this
  exact this
 have HDE:Hid (∀ x,Below w.heap.size w x→Calls Tryz.prog 12 #[.string (txt s20),.int .i64 1] x (DecEnd x (e20r,0))):=fun x hx => by
  have:=decode19 1 (by decide) (by decide) (txt s20) (by rw [txt_size];decide) x (HT.out.below hx)
  rw [show (txt s20).data.toList=s20 from by simp [txt],show mdecode s20 1=(e20r,0) from ex20d] at this
  exact this
 generalize txt s20=S at *
 go_enter Tryz.func171,Tryz.ntmps171
 go_wp2_with
  (with_reducible show wpList _ _ _ (Oper.mk _ (Op.load 35 _) _ _ _ _ :: _) _ _;apply pin)
 rw [HWR.out]
 refine wpList_load_blk rfl _ _ rfl _ rfl _ HMA.out Tryz.underlying35 rfl (info_msg _ _ _ _) ?_
 simp only [Act.put]
 go_wp2_with fail
 refine HEN.out.mono ?_
 rintro e w1 ⟨rfl,hb1⟩
 have HB1:=Lib.hid (bb HBR.out hb1)
 have HR1:=Lib.hid (HMR.out.below hb1 HMR.out.lt)
 have HS1:=hb1.size
 have hsr:=HSR.out
 clear hb1 HEN HMA HWR HMR
 go_wp2_with fail
 refine (HDE.out _ HB1.out).mono ?_
 rintro e w2 ⟨dv,tv,rv,rfl,hmg,hb2⟩
 have HB2:=Lib.hid (bb HB1.out hb2)
 have HR2:=Lib.hid (HR1.out.below hb2 HR1.out.lt)
 have HSB:Hid (w.heap.size+1 < w1.heap.size):=by show _ < _;omega
 clear hb2 HDE HR1
 obtain ⟨dA,dc,tA,tc,rA,rc,rfl,rfl,rfl⟩:=hmg.slices
 go_wp2_with
  (with_reducible show wpList _ _ _ (Oper.mk _ (Op.store 35 _ _) _ _ _ _ :: _) _ _;apply pin)
 refine wpList_store_blk rfl _ _ _ rfl _ _ rfl rfl HR2.out rfl (info_msg _ _ _ _) mvs_one ?_
 simp only [Act.put]
 go_wp2_with fail
 refine bodyPost_ret (v:=.tuple #[.agg (mvs e20r (.slice dA e20r.d.length dc) (.slice tA e20r.t.length tc) (.slice rA e20r.rest.len rc)),.int .i64 0]) (by exact results_blk_tmp rfl _ _ (w.heap.size+1) 35 _ _ (.int .i64 0) rfl (putAll_at HR2.out rfl) Tryz.underlying35 rfl (info_msg _ _ _ _) rfl) rfl ?_
 have hpa:=putAll_tch w2 (w.heap.size+1) (mvs e20r (.slice dA e20r.d.length dc) (.slice tA e20r.t.length tc) (.slice rA e20r.rest.len rc))
 have hsb:=HSB.out
 exact ⟨_,_,_,rfl,(hmg.tch hpa fun k hk e => by omega).mono (by omega),(HB2.out).trans (hpa.toBelowB (HB2.out).size fun g hg e => by omega)⟩
theorem lower20 (w:World) (hT:Tabs w):Calls Tryz.prog 122 #[.agg (mvs e20 (.slice none 0 0) (.slice none 0 0) (.slice none 0 0)),.int .i64 2,.int .i64 1] w (DecEnd w (e20r,0)):=by
 have HT:=Lib.hid hT
 clear hT
 have HM:=Lib.hid (BlkAt.made w 35 (mvs e20 (.slice none 0 0) (.slice none 0 0) (.slice none 0 0)))
 obtain ⟨wz,hwz⟩:∃ wz,wz=w.alloc (.cells (mvs e20 (.slice none 0 0) (.slice none 0 0) (.slice none 0 0)) 35):=⟨_,rfl⟩
 have hsz:wz.heap.size=w.heap.size+1:=by rw [hwz];simp
 have hbz:Below w.heap.size w wz:=by rw [hwz];exact ba b0 _
 rw [← hwz] at HM
 have hmr:=BlkAt.made wz 35 zmvs
 rw [hsz] at hmr
 obtain ⟨wr,hwr⟩:∃ wr,wr=wz.alloc (.cells zmvs 35):=⟨_,rfl⟩
 have hbr:Below w.heap.size w wr:=by rw [hwr];exact ba hbz _
 have hsr:wr.heap.size=w.heap.size+1+1:=by rw [hwr,World.size_alloc,hsz]
 have hm2:BlkAt wr w.heap.size 35 (mvs e20 (.slice none 0 0) (.slice none 0 0) (.slice none 0 0)):=by rw [hwr];exact HM.out.more _
 rw [← hwr] at hmr
 have HMA:=Lib.hid hm2
 have HMR:=Lib.hid hmr
 have HBR:=Lib.hid hbr
 simp only [mvs,e20,m0] at hwz
 simp only [zmvs] at hwr
 have hwr2:(w.alloc (.cells #[.int .i64 1,.int .u64 0,.int .u64 1,.int .u64 2,.int .u64 0,.int .u64 0,.int .u64 0,.int .u64 0,.int .u64 0,.int .u64 0,.int .u64 0,.int .u64 0,.int .u64 0,.int .u64 0,.int .u64 0,.int .u64 0,.int .i64 0,.bool false,.string ⟨#[]⟩,.string ⟨#[101,117]⟩,.string ⟨#[]⟩,.slice none 0 0,.slice none 0 0,.slice none 0 0] 35)).alloc (.cells #[.int .i64 0,.int .u64 0,.int .u64 0,.int .u64 0,.int .u64 0,.int .u64 0,.int .u64 0,.int .u64 0,.int .u64 0,.int .u64 0,.int .u64 0,.int .u64 0,.int .u64 0,.int .u64 0,.int .u64 0,.int .u64 0,.int .i64 0,.bool false,.string ⟨#[]⟩,.string ⟨#[]⟩,.string ⟨#[]⟩,.slice none 0 0,.slice none 0 0,.slice none 0 0] 35)=wr:=by rw [hwr,hwz];rfl
 have HWR:=Lib.hid hwr2
 have HSR:=Lib.hid hsr
 clear hmr hwr hwz HM hbz hsz hbr hwr2 hm2 hsr
 show Calls _ _ #[.agg #[.int .i64 1,.int .u64 0,.int .u64 1,.int .u64 2,.int .u64 0,.int .u64 0,.int .u64 0,.int .u64 0,.int .u64 0,.int .u64 0,.int .u64 0,.int .u64 0,.int .u64 0,.int .u64 0,.int .u64 0,.int .u64 0,.int .i64 0,.bool false,.string ⟨#[]⟩,.string ⟨#[101,117]⟩,.string ⟨#[]⟩,.slice none 0 0,.slice none 0 0,.slice none 0 0],.int .i64 2,.int .i64 1] _ _
 have HEN:=Lib.hid (across20 wr (HT.out.below HBR.out))
 go_enter Tryz.func122,Tryz.ntmps122
 go_wp2_with
  (with_reducible show wpList _ _ _ (Oper.mk _ (Op.load 35 _) _ _ _ _ :: _) _ _;apply pin)
 rw [HWR.out]
 refine wpList_load_blk rfl _ _ rfl _ rfl _ HMA.out Tryz.underlying35 rfl (info_msg _ _ _ _) ?_
 simp only [Act.put]
 go_wp2_with fail
 refine HEN.out.mono ?_
 rintro e w2 ⟨dv,tv,rv,rfl,hmg,hb2⟩
 have HB2:=Lib.hid (bb HBR.out hb2)
 have HR2:=Lib.hid (HMR.out.below hb2 HMR.out.lt)
 have HSB:Hid (w.heap.size+1 < wr.heap.size):=by
  have:=HSR.out
  show _ < _
  omega
 clear hb2 HEN HMA HWR HMR
 obtain ⟨dA,dc,tA,tc,rA,rc,rfl,rfl,rfl⟩:=hmg.slices
 go_wp2_with
  (with_reducible show wpList _ _ _ (Oper.mk _ (Op.store 35 _ _) _ _ _ _ :: _) _ _;apply pin)
 refine wpList_store_blk rfl _ _ _ rfl _ _ rfl rfl HR2.out rfl (info_msg _ _ _ _) mvs_one ?_
 simp only [Act.put]
 go_wp2_with fail
 refine bodyPost_ret (v:=.tuple #[.agg (mvs e20r (.slice dA e20r.d.length dc) (.slice tA e20r.t.length tc) (.slice rA e20r.rest.len rc)),.int .i64 0]) (by exact results_blk_tmp rfl _ _ (w.heap.size+1) 35 _ _ (.int .i64 0) rfl (putAll_at HR2.out rfl) Tryz.underlying35 rfl (info_msg _ _ _ _) rfl) rfl ?_
 have hpa:=putAll_tch w2 (w.heap.size+1) (mvs e20r (.slice dA e20r.d.length dc) (.slice tA e20r.t.length tc) (.slice rA e20r.rest.len rc))
 have hsb:=HSB.out
 exact ⟨_,_,_,rfl,(hmg.tch hpa fun k hk e => by omega).mono (by omega),(HB2.out).trans (hpa.toBelowB (HB2.out).size fun g hg e => by omega)⟩
theorem awake20 (w:World) (hT:Tabs w) :
 Calls Tryz.prog 75 #[] w fun e w' => e=.returned (.bool true)∧Below w.heap.size w w':=by
 have HA:Hid (∀ x:World,Below w.heap.size w x→Calls Tryz.prog 123 #[] x fun e w' => e=.returned (.bool true)∧Below x.heap.size x w'):=fun x hx => awakeE19 x (hT.below hx)
 have HL:Hid (Calls Tryz.prog 122 #[.agg #[.int .i64 1,.int .u64 0,.int .u64 1,.int .u64 2,.int .u64 0,.int .u64 0,.int .u64 0,.int .u64 0,.int .u64 0,.int .u64 0,.int .u64 0,.int .u64 0,.int .u64 0,.int .u64 0,.int .u64 0,.int .u64 0,.int .i64 0,.bool false,.string ⟨#[]⟩,.string ⟨#[101,117]⟩,.string ⟨#[]⟩,.slice none 0 0,.slice none 0 0,.slice none 0 0],.int .i64 2,.int .i64 1] w (DecEnd w (e20r,0))):=lower20 w hT
 clear hT
 go_enter Tryz.func75,Tryz.ntmps75
 go_wp2_with fail
 refine HL.out.mono ?_
 rintro e w1 ⟨dv,tv,rv,rfl,hmg,hb1⟩
 obtain ⟨dA,dc,tA,tc,rA,rc,rfl,rfl,rfl⟩:=hmg.slices
 have hm1:=BlkAt.made w1 35 zmvs
 have hm2:=putAll_at (ds:=mvs e20r (.slice dA e20r.d.length dc) (.slice tA e20r.t.length tc) (.slice rA e20r.rest.len rc)) hm1 rfl
 have hb2:Below w1.heap.size w1 (World.putAll (w1.alloc (.cells zmvs 35)) w1.heap.size (mvs e20r (.slice dA e20r.d.length dc) (.slice tA e20r.t.length tc) (.slice rA e20r.rest.len rc))) :=
  (ba (a:=w1) b0 (.cells zmvs 35)).trans ((putAll_tch _ w1.heap.size _).toBelowB (by simp) fun g hg e => by omega)
 obtain ⟨w2,hw2⟩:∃ w2,w2=World.putAll (w1.alloc (.cells zmvs 35)) w1.heap.size (mvs e20r (.slice dA e20r.d.length dc) (.slice tA e20r.t.length tc) (.slice rA e20r.rest.len rc)):=⟨_,rfl⟩
 rw [← hw2] at hm2 hb2
 obtain ⟨q,hq⟩:∃ q,q=w1.heap.size:=⟨_,rfl⟩
 rw [← hq] at hm2
 have HM1:=Lib.hid hm1
 have HM2:=Lib.hid hm2
 have HB2:=Lib.hid (bb hb1 hb2)
 have HS2:=Lib.hid (hmg.2.2.below hb2)
 simp only [zmvs] at HM1 hw2
 clear hm1 hm2 hb2 hb1 hmg HL
 go_wp2_with
  (with_reducible show wpList _ _ _ (Oper.mk _ (Op.store 35 _ _) _ _ _ _ :: _) _ _;apply pin)
 refine wpList_store_blk rfl _ _ _ rfl _ _ rfl rfl HM1.out rfl (info_msg _ _ _ _) mvs_one ?_
 rw [← hw2]
 clear hw2 HM1
 simp only [Act.put]
 rw [← hq]
 clear hq
 go_wp2_with fail
 refine (HA.out _ HB2.out).mono ?_
 rintro e w3 ⟨rfl,hb3⟩
 have hm3:=HM2.out.below hb3 HM2.out.lt
 have hlm:=hm3.lt
 have c19:w3.cell? ⟨q,19,none⟩=some (.string ⟨#[]⟩):=hm3.cell 19
 have c23:w3.cell? ⟨q,23,none⟩=some (.slice rA 1 rc):=hm3.cell 23
 have HB3:=Lib.hid (bb HB2.out hb3)
 have hsl:=HS2.out.below hb3
 obtain ⟨b,o,Ai,ci,hre,hbl,d0,_⟩:=slv_fl hsl 0 (by decide)
 subst hre
 have d0':w3.cell? ⟨b,o,none⟩=some (.int .u64 4):=by
  rw [Nat.zero_mul,Nat.add_zero] at d0
  exact d0
 clear hb3 HM2 HB2 HS2 hm3 hsl d0
 go_wp2_with fail
 go_ret
 exact ⟨rfl,HB3.out⟩
theorem awakeE20 (w:World) (hT:Tabs w):Calls Tryz.prog 30 #[] w fun e w' => e=.returned (.bool true)∧Below w.heap.size w w':=by
 have H:=Lib.hid (awake20 w hT)
 clear hT
 go_enter Tryz.func30,Tryz.ntmps30
 go_wp2_with fail
 refine H.out.mono ?_
 rintro e w' ⟨rfl,hb⟩
 go_wp2
 go_ret
 exact ⟨rfl,hb⟩
end Go.Proofs.YtgidfnhfgiehjaaGreatDoor
end

section
namespace Go.PM
end Go.PM
end

section
namespace Go.Proofs.YtgidfnhfgiehjaaGreatDoor
open Go.RowKit Go.PM
set_option maxRecDepth 100000
set_option maxHeartbeats 4000000
attribute [local go_sem ↓] Go.wp_at_zero Go.wp_at_succ
theorem alive20 (w:World) (hT:Tabs w):Calls Tryz.prog 8 #[] w fun e w' => e=.returned (.bool true)∧Below w.heap.size w w':=by
 have H:=Lib.hid (awakeE20 w hT)
 clear hT
 go_enter Tryz.func8,Tryz.ntmps8
 go_wp2_with fail
 refine H.out.mono ?_
 rintro e w' ⟨rfl,hb⟩
 go_wp2
 go_ret
 exact ⟨rfl,hb⟩
end Go.Proofs.YtgidfnhfgiehjaaGreatDoor
end

section
namespace Go.PM
open Go.RowKit Go.ChangeShapes Go.WideShapes Go.Deep
section
variable {H:Type} {enc:TypeId × Value→H} {P:Program} {w:World} {spare:Nat→Bool} {held:Bool}
end
end Go.PM
end

section
namespace Go.Proofs.YtgidfnhfgiehjaaGreatDoor
open Go.RowKit Go.ChangeShapes Go.WideShapes Go.Deep Go.PM
section
variable {H:Type} {enc:TypeId × Value→H} {P:Program} {w:World} {spare:Nat→Bool} {held:Bool}
theorem weightsAll_mem {e:TypeId} {n:Nat}:∀ {ds:List (DataW H)} {d:DataW H},d ∈ ds→n ∈ DataW.weights P e d→n ∈ DataW.weightsAll P e ds
 | [],_,h,_ => by cases h
 | x :: r,d,h,hn => by
   rw [DataW.weightsAll,List.mem_append]
   rcases List.mem_cons.1 h with rfl | h
   · exact .inl hn
   · exact .inr (weightsAll_mem h hn)
theorem open_ents {t e:TypeId} {f0 f1:Field} {a:Option Addr} {len cap:Nat} {d:DataW H} {ps:List MemPlace} (ht:P.underlying t=some (.slice e)) (he:P.underlying e=some (.struct #[f0,f1])) (ce:P.cellsOf e=2)
 (o:f0.offset=0∧f1.offset=1) (c:P.cellsOf f0.type=1∧P.cellsOf f1.type=1) (t0:P.underlying f0.type=some .string) (t1:P.underlying f1.type=some .string)
 (h:DataW.Trod enc P w 0 spare held t (.slice a len cap) d ps) (hw:∀ n ∈ DataW.weights P t d,n≤140737488351232) :
 ∃ l:List Ent,l.length=len∧Rd w a (ents l)∧ESz l∧len≤cap∧cap≤maxLen:=by
 obtain ⟨fuel,hf⟩:=h
 obtain ⟨o0,o1⟩:=o
 obtain ⟨c0,c1⟩:=c
 rcases open_slice ht hf with ⟨hcs,_⟩ | ⟨x,ln,c',m,n,D,Pl,hcs,_,hl,hm,hmm,hx,hall⟩
 · simp [Value.cells] at hcs
   obtain ⟨rfl,rfl,rfl⟩:=hcs
   exact ⟨[],rfl,.inl rfl,(fun e he => by cases he),by omega,by unfold maxLen;omega⟩
 · simp [Value.cells] at hcs
   obtain ⟨rfl,rfl,rfl⟩:=hcs
   injection hx with hd _
   have hlm:len≤m:=by rw [hmm];split <;> omega
   by_cases hz:len=0
   · subst hz
     exact ⟨[],rfl,.inl rfl,(fun e he => by cases he),hl,hm⟩
   obtain ⟨b,off,spot⟩:=x
   have hs:spot=none:=by
    obtain ⟨cs,h1,_⟩:=hall 0 (by omega)
    obtain ⟨_,hlen,hcell⟩:=World.cells?_some h1
    have h0:=hcell 0 (by rw [ce];decide)
    rw [List.getElem?_eq_getElem (by omega)] at h0
    simpa [Addr.add] using World.cell?_spot h0
   subst hs
   have ha:∀ q j,(⟨b,q,none⟩:Addr).add j=⟨b,q+j,none⟩:=fun q j => by unfold Addr.add;split <;> simp_all
   have each:∀ i,i < len→∃ y:Ent,w.cell? ⟨b,off+i * 2,none⟩=some (.string (txt y.1))∧w.cell? ⟨b,off+i * 2+1,none⟩=some (.string (txt y.2))∧y.1.length≤140737488351232∧y.2.length≤140737488351232:=by
    intro i hi
    obtain ⟨cs,h1,h2⟩:=hall i (by omega)
    obtain ⟨_,hlen,hcell⟩:=World.cells?_some h1
    rw [ce] at hlen hcell
    obtain ⟨xs,k,_,hxe,_,hxl,hf2⟩:=DataW.trod_struct he h2
    match xs,hxl,cs,hlen with
    | [y0,y1],_,[v0,v1],_ =>
      have g0:=hf2 0 f0 rfl
      have g1:=hf2 1 f1 rfl
      simp [o0,o1,c0,c1] at g0 g1
      obtain ⟨s0,e0,q0,_⟩:=DataW.trod_string t0 g0
      obtain ⟨s1,e1,q1,_⟩:=DataW.trod_string t1 g1
      simp only [List.cons.injEq,and_true] at e0 e1
      subst e0 e1 q0 q1
      have k0:=hcell 0 (by decide)
      have k1:=hcell 1 (by decide)
      rw [ha,ha] at k0 k1
      injection hxe with hxd _
      have hin:∀ q ∈ DataW.weights P e (D i),q≤140737488351232:=fun q hq => by
       refine hw q ?_
       rw [hd]
       unfold DataW.weights
       rw [ht]
       simp only [List.mem_cons,List.mem_append]
       exact .inr (.inl (weightsAll_mem (List.mem_map.2 ⟨i,List.mem_range.2 hi,rfl⟩) hq))
      rw [hxd] at hin
      have hwe:DataW.weights (H:=H) P e (.agg [.lit (.string s0.data.toList),.lit (.string s1.data.toList)])=[s0.data.toList.length,s1.data.toList.length]:=by
       simp [DataW.weights,DataW.weightsEach,he]
      simp only [List.map_cons,List.map_nil] at hin
      rw [hwe] at hin
      exact ⟨(s0.data.toList,s1.data.toList),by rw [txt_of];simpa using k0,by rw [txt_of];simpa using k1,hin _ (by simp),hin _ (by simp)⟩
   obtain ⟨q,hq⟩:=choose_lt each
   have hb:b < w.heap.size:=World.block_lt_of_cell? w _ (hq 0 (by omega)).1
   have hlq:((List.range len).map q).length=len:=by simp
   refine ⟨(List.range len).map q,hlq,.inr ⟨b,off,rfl,hb,fun j u hj => ?_⟩,fun y hy => ?_,hl,hm⟩
   · have hjl:j < len * 2:=by
      have:=(List.getElem?_eq_some_iff.1 hj).1
      rw [ents_len,hlq] at this
      exact this
     obtain ⟨p1,p2⟩:=ents_at ((List.range len).map q) (j / 2) (by rw [hlq];omega)
     simp only [List.getElem_map,List.getElem_range] at p1 p2
     obtain ⟨r1,r2,_⟩:=hq (j / 2) (by omega)
     by_cases hj2:j % 2=0
     · have e1:j=j / 2 * 2:=by omega
       rw [e1,p1] at hj
       injection hj with hj
       rw [e1,r1,hj]
     · have e1:j=j / 2 * 2+1:=by omega
       rw [e1,p2] at hj
       injection hj with hj
       rw [e1,← Nat.add_assoc,r2,hj]
   · obtain ⟨i,hi,rfl⟩:=List.mem_map.1 hy
     exact (hq i (List.mem_range.1 hi)).2.2
end
end Go.Proofs.YtgidfnhfgiehjaaGreatDoor
end

section
namespace Go.PM
open Go.RowKit Go.ChangeShapes Go.WideShapes Go.Deep
section
variable {H:Type} {enc:TypeId × Value→H} {P:Program} {w:World} {spare:Nat→Bool} {held:Bool}
theorem open_els {t e:TypeId} {a:Option Addr} {len cap:Nat} {d:DataW H} {ps:List MemPlace} (ht:P.underlying t=some (.slice e)) (hpos:0 < P.cellsOf e)
 (h:DataW.Trod enc P w 0 spare held t (.slice a len cap) d ps) :
 len≤cap∧cap≤maxLen∧(len=0∨∃ b off,a=some ⟨b,off,none⟩∧b < w.heap.size∧∀ i,i < len→∃ (cs:List Value) (D:DataW H) (Pl:List MemPlace) (n:Nat),cs.length=P.cellsOf e ∧
  (∀ j,j < P.cellsOf e→w.cell? ⟨b,off+i * P.cellsOf e+j,none⟩=cs[j]?)∧DataW.trod enc P w 0 spare held n e cs=some (D,Pl)):=by
 obtain ⟨fuel,hf⟩:=h
 rcases open_slice ht hf with ⟨hcs,_⟩ | ⟨x,ln,c,m,n,D,Pl,hcs,_,hl,hm,hmm,_,hall⟩
 · simp [Value.cells] at hcs
   obtain ⟨rfl,rfl,rfl⟩:=hcs
   exact ⟨by omega,by unfold maxLen;omega,.inl rfl⟩
 · simp [Value.cells] at hcs
   obtain ⟨rfl,rfl,rfl⟩:=hcs
   have hlm:len≤m:=by rw [hmm];split <;> omega
   refine ⟨hl,hm,?_⟩
   by_cases hz:len=0
   · exact .inl hz
   right
   obtain ⟨b,off,spot⟩:=x
   have hs:spot=none:=by
    obtain ⟨cs,h1,_⟩:=hall 0 (by omega)
    obtain ⟨_,hlen,hcell⟩:=World.cells?_some h1
    have h0:=hcell 0 hpos
    rw [List.getElem?_eq_getElem (by omega)] at h0
    simpa [Addr.add] using World.cell?_spot h0
   subst hs
   have ha:∀ j,(⟨b,off,none⟩:Addr).add j=⟨b,off+j,none⟩:=fun j => by unfold Addr.add;split <;> simp_all
   have hb':∀ q j,(⟨b,q,none⟩:Addr).add j=⟨b,q+j,none⟩:=fun q j => by unfold Addr.add;split <;> simp_all
   have each:∀ i,i < len→∃ (cs:List Value) (D:DataW H) (Pl:List MemPlace) (n:Nat),cs.length=P.cellsOf e ∧
    (∀ j,j < P.cellsOf e→w.cell? ⟨b,off+i * P.cellsOf e+j,none⟩=cs[j]?)∧DataW.trod enc P w 0 spare held n e cs=some (D,Pl):=fun i hi => by
    obtain ⟨cs,h1,h2⟩:=hall i (by omega)
    obtain ⟨_,hlen,hcell⟩:=World.cells?_some h1
    refine ⟨cs,_,_,_,hlen,fun j hj => ?_,h2⟩
    have:=hcell j hj
    rwa [ha,hb'] at this
   refine ⟨b,off,rfl,?_,each⟩
   obtain ⟨cs,_,_,_,hlen,hcell,_⟩:=each 0 (by omega)
   have h0:=hcell 0 hpos
   rw [List.getElem?_eq_getElem (by omega)] at h0
   exact World.block_lt_of_cell? w _ h0
theorem struct5 {e:TypeId} {f0 f1 f2 f3 f4:Field} {cs:List Value} {D:DataW H} {Pl:List MemPlace} {n:Nat} (he:P.underlying e=some (.struct #[f0,f1,f2,f3,f4])) (ce:P.cellsOf e=5)
 (o:f0.offset=0∧f1.offset=1∧f2.offset=2∧f3.offset=3∧f4.offset=4) (c:P.cellsOf f0.type=1∧P.cellsOf f1.type=1∧P.cellsOf f2.type=1∧P.cellsOf f3.type=1∧P.cellsOf f4.type=1)
 (h:DataW.trod enc P w 0 spare held n e cs=some (D,Pl)) :
 ∃ (v0 v1 v2 v3 v4:Value) (k:Nat) (y0 y1 y2 y3 y4:DataW H × List MemPlace),cs=[v0,v1,v2,v3,v4]∧DataW.trod enc P w 0 spare held k f0.type [v0]=some y0∧DataW.trod enc P w 0 spare held k f1.type [v1]=some y1 ∧
  DataW.trod enc P w 0 spare held k f2.type [v2]=some y2∧DataW.trod enc P w 0 spare held k f3.type [v3]=some y3∧DataW.trod enc P w 0 spare held k f4.type [v4]=some y4:=by
 obtain ⟨o0,o1,o2,o3,o4⟩:=o
 obtain ⟨c0,c1,c2,c3,c4⟩:=c
 obtain ⟨xs,k,_,_,hlen,hxl,hf⟩:=DataW.trod_struct he h
 rw [ce] at hlen
 match xs,hxl,cs,hlen with
 | [y0,y1,y2,y3,y4],_,[v0,v1,v2,v3,v4],_ =>
   have g0:=hf 0 f0 rfl
   have g1:=hf 1 f1 rfl
   have g2:=hf 2 f2 rfl
   have g3:=hf 3 f3 rfl
   have g4:=hf 4 f4 rfl
   simp [o0,o1,o2,o3,o4,c0,c1,c2,c3,c4] at g0 g1 g2 g3 g4
   exact ⟨v0,v1,v2,v3,v4,k,y0,y1,y2,y3,y4,rfl,g0,g1,g2,g3,g4⟩
instance:Inhabited One:=⟨⟨0,0,0,0,ByteArray.empty⟩⟩
theorem open_ones {t e:TypeId} {f0 f1 f2 f3 f4:Field} {a:Option Addr} {len cap:Nat} {d:DataW H} {ps:List MemPlace} (ht:P.underlying t=some (.slice e)) (he:P.underlying e=some (.struct #[f0,f1,f2,f3,f4])) (ce:P.cellsOf e=5)
 (o:f0.offset=0∧f1.offset=1∧f2.offset=2∧f3.offset=3∧f4.offset=4) (c:P.cellsOf f0.type=1∧P.cellsOf f1.type=1∧P.cellsOf f2.type=1∧P.cellsOf f3.type=1∧P.cellsOf f4.type=1)
 (t0:P.underlying f0.type=some (.int .u8)) (t1:P.underlying f1.type=some (.int .u64)) (t2:P.underlying f2.type=some (.int .i8)) (t3:P.underlying f3.type=some (.int .u64)) (t4:P.underlying f4.type=some .string)
 (h:DataW.Trod enc P w 0 spare held t (.slice a len cap) d ps) :
 ∃ l:List One,l.length=len∧OnesRd w.heap.size w a l∧(∀ x ∈ l,x.ok)∧len≤cap∧cap≤maxLen:=by
 obtain ⟨hl,hm,hor⟩:=open_els ht (by rw [ce];decide) h
 rcases hor with rfl | ⟨b,off,rfl,hb,hall⟩
 · exact ⟨[],rfl,.inl rfl,by simp,hl,hm⟩
 rw [ce] at hall
 have each:∀ i,i < len→∃ x:One,x.ok∧w.cell? ⟨b,off+i * 5,none⟩=some (.int .u8 (x.deep:Int))∧w.cell? ⟨b,off+i * 5+1,none⟩=some (.int .u64 (x.tag:Int))∧w.cell? ⟨b,off+i * 5+2,none⟩=some (.int .i8 x.ty) ∧
  w.cell? ⟨b,off+i * 5+3,none⟩=some (.int .u64 (x.num:Int))∧w.cell? ⟨b,off+i * 5+4,none⟩=some (.string x.text):=by
  intro i hi
  obtain ⟨cs,D,Pl,n,hlen,hcell,htr⟩:=hall i hi
  obtain ⟨v0,v1,v2,v3,v4,k,y0,y1,y2,y3,y4,rfl,g0,g1,g2,g3,g4⟩:=struct5 he ce o c htr
  obtain ⟨N0,h0,_,q0⟩:=DataW.trod_int t0 g0
  obtain ⟨N1,h1,_,q1⟩:=DataW.trod_int t1 g1
  obtain ⟨N2,h2,_,q2⟩:=DataW.trod_int t2 g2
  obtain ⟨N3,h3,_,q3⟩:=DataW.trod_int t3 g3
  obtain ⟨s,h4,_,q4⟩:=DataW.trod_string t4 g4
  simp only [List.cons.injEq,and_true] at h0 h1 h2 h3 h4
  subst h0 h1 h2 h3 h4
  have b0:=bounds_u8 q0
  have b1:=bounds_u64 q1
  have b2:=bounds_i8 q2
  have b3:=bounds_u64 q3
  obtain ⟨n0,rfl⟩:=Int.eq_ofNat_of_zero_le b0.1
  obtain ⟨n1,rfl⟩:=Int.eq_ofNat_of_zero_le b1.1
  obtain ⟨n3,rfl⟩:=Int.eq_ofNat_of_zero_le b3.1
  refine ⟨⟨n0,n1,N2,n3,s⟩,⟨by show n0 < 256;omega,by show n1 < _;omega,b2,by show n3 < _;omega,by unfold maxLen at q4;exact q4⟩,?_,?_,?_,?_,?_⟩
  · exact hcell 0 (by omega)
  · exact hcell 1 (by omega)
  · exact hcell 2 (by omega)
  · exact hcell 3 (by omega)
  · exact hcell 4 (by omega)
 obtain ⟨q,hq⟩:=choose_lt each
 refine ⟨(List.range len).map q,by simp,.inr ⟨b,off,rfl,hb,Nat.le_refl _,fun j x hj => ?_⟩,fun x hx => ?_,hl,hm⟩
 · rw [List.getElem?_map] at hj
   have hjl:j < len:=by
    by_cases h:j < len
    · exact h
    · rw [List.getElem?_eq_none (by simp;omega)] at hj;simp at hj
   rw [List.getElem?_range hjl] at hj
   simp at hj
   have:=hq j hjl
   rw [← hj]
   exact this.2
 · obtain ⟨i,hi,rfl⟩:=List.mem_map.1 hx
   exact (hq i (List.mem_range.1 hi)).1
end
end Go.PM
end

section
namespace Go.Proofs.YtgidfnhfgiehjaaGreatDoor
open Go.RowKit Go.ChangeShapes Go.WideShapes Go.Deep Go.PM
section
variable {H:Type} {enc:TypeId × Value→H} {P:Program} {w:World} {spare:Nat→Bool} {held:Bool}
theorem weightsEach_mem {n:Nat}:∀ {ts:List TypeId} {ds:List (DataW H)} {i:Nat} {t:TypeId} {d:DataW H},ts[i]? = some t→ds[i]? = some d→n ∈ DataW.weights P t d→n ∈ DataW.weightsEach P ts ds
 | [],_,_,_,_,h,_,_ => by simp at h
 | _ :: _,[],_,_,_,_,h,_ => by simp at h
 | t :: ts,d :: ds,0,_,_,h1,h2,hn => by
   simp only [List.getElem?_cons_zero,Option.some.injEq] at h1 h2
   subst h1 h2
   rw [DataW.weightsEach,List.mem_append]
   exact .inl hn
 | t :: ts,d :: ds,i+1,_,_,h1,h2,hn => by
   rw [DataW.weightsEach,List.mem_append]
   exact .inr (weightsEach_mem (by simpa using h1) (by simpa using h2) hn)
theorem weights_agg {e:TypeId} {fs:Array Field} {ds:List (DataW H)} {i:Nat} {f:Field} {d:DataW H} {n:Nat} (he:P.underlying e=some (.struct fs)) (hf:fs[i]? = some f) (hd:ds[i]? = some d) (hn:n ∈ DataW.weights P f.type d):n ∈ DataW.weights P e (.agg ds):=by
 unfold DataW.weights
 rw [he]
 exact weightsEach_mem (by rw [List.getElem?_map,Array.getElem?_toList,hf];rfl) hd hn
theorem struct_at {e:TypeId} {fs:Array Field} {n:Nat} {cs:List Value} {D:DataW H} {Pl:List MemPlace} (he:P.underlying e=some (.struct fs)) (hone:oneCellFields P fs=true) (hsz:P.cellsOf e=fs.size)
 (h:DataW.trod enc P w 0 spare held n e cs=some (D,Pl)) :
 cs.length=fs.size∧∃ (k:Nat) (ys:List (DataW H × List MemPlace)),D=.agg (ys.map (·.1))∧∀ (i:Nat) (f:Field) (v:Value),fs[i]? = some f→cs[i]? = some v→∃ y,ys[i]? = some y∧DataW.trod enc P w 0 spare held k f.type [v]=some y:=by
 obtain ⟨xs,k,_,hx,hlen,hxl,hf⟩:=DataW.trod_struct he h
 simp only [Prod.mk.injEq] at hx
 refine ⟨by rw [hlen,hsz],k,xs,hx.1,fun i f v hfi hv => ?_⟩
 obtain ⟨o,c⟩:=hone_of hone i f hfi
 have hy:=hf i f hfi
 have hlt:i < xs.length:=by rw [hxl];exact (Array.getElem?_eq_some_iff.1 hfi).1
 rw [List.getElem?_eq_getElem hlt,o,c] at hy
 have ht:(cs.drop i).take 1=[v]:=by
  obtain ⟨hi,e⟩:=List.getElem?_eq_some_iff.1 hv
  rw [List.drop_eq_getElem_cons hi,e]
  rfl
 rw [ht] at hy
 exact ⟨xs[i],List.getElem?_eq_getElem hlt,hy⟩
theorem open_entsV {t e:TypeId} {f0 f1:Field} {n:Nat} {v:Value} {d:DataW H} {ps:List MemPlace} (ht:P.underlying t=some (.slice e)) (he:P.underlying e=some (.struct #[f0,f1])) (ce:P.cellsOf e=2)
 (o:f0.offset=0∧f1.offset=1) (c:P.cellsOf f0.type=1∧P.cellsOf f1.type=1) (t0:P.underlying f0.type=some .string) (t1:P.underlying f1.type=some .string)
 (h:DataW.trod enc P w 0 spare held n t [v]=some (d,ps)) (hw:∀ n ∈ DataW.weights P t d,n≤140737488351232) :
 ∃ (A:Option Addr) (c:Nat) (l:List Ent),v=.slice A l.length c∧RdI w (fun _ => True) A l∧ESz l∧l.length≤c∧c≤maxLen:=by
 have hv:∃ A len c,v=.slice A len c:=by
  rcases open_slice ht h with ⟨hcs,_⟩ | ⟨x,ln,c',_,_,_,_,hcs,_⟩
  · simp only [List.cons.injEq,and_true] at hcs
    exact ⟨_,_,_,hcs⟩
  · simp only [List.cons.injEq,and_true] at hcs
    exact ⟨_,_,_,hcs⟩
 obtain ⟨A,len,cp,rfl⟩:=hv
 obtain ⟨l,rfl,hr,hz,hl,hm⟩:=open_ents ht he ce o c t0 t1 (a:=A) (len:=len) (cap:=cp) ⟨n,h⟩ hw
 exact ⟨A,cp,l,rfl,Rd.rdI hr fun _ _ _ => trivial,hz,hl,hm⟩
instance inhRv6:Inhabited Rv:=⟨⟨[],none,0,0⟩⟩
def RvIn (w:World) (r:Rv):Prop:=RvOk w (fun _ => True) r∧ESz r.d∧r.c≤maxLen∧r.n < 18446744073709551616
theorem open_rowsV {t e:TypeId} {g0 g1:Field} {n:Nat} {v:Value} {d:DataW H} {ps:List MemPlace} (ht:P.underlying t=some (.slice e)) (he:P.underlying e=some (.struct #[g0,g1])) (hone:oneCellFields P #[g0,g1]=true) (ce:P.cellsOf e=2)
 (t1:P.underlying g1.type=some (.int .u64))
 (hd:∀ (k:Nat) (v:Value) (d:DataW H) (ps:List MemPlace),DataW.trod enc P w 0 spare held k g0.type [v]=some (d,ps)→(∀ n ∈ DataW.weights P g0.type d,n≤140737488351232)→∃ (A:Option Addr) (c:Nat) (l:List Ent),v=.slice A l.length c∧RdI w (fun _ => True) A l∧ESz l∧l.length≤c∧c≤maxLen)
 (h:DataW.trod enc P w 0 spare held n t [v]=some (d,ps)) (hw:∀ n ∈ DataW.weights P t d,n≤140737488351232) :
 ∃ (A:Option Addr) (c:Nat) (l:List Rv),v=.slice A l.length c∧Rd w A (rvs l)∧(∀ r ∈ l,RvIn w r)∧l.length≤c∧c≤maxLen:=by
 rcases open_slice ht h with ⟨hcs,_⟩ | ⟨x,len,c',m,k,D,Pl,hcs,_,hl,hm,hmm,hx,hall⟩
 · simp only [List.cons.injEq,and_true] at hcs
   exact ⟨none,0,[],hcs,.inl rfl,(fun e he => by cases he),Nat.le_refl _,by unfold maxLen;omega⟩
 simp only [List.cons.injEq,and_true] at hcs
 subst hcs
 injection hx with hdd _
 have hlm:len≤m:=by rw [hmm];split <;> omega
 by_cases hz:len=0
 · subst hz
   exact ⟨_,c',[],rfl,.inl rfl,(fun e he => by cases he),hl,hm⟩
 obtain ⟨b,off,spot⟩:=x
 have hs:spot=none:=by
  obtain ⟨cs,h1,_⟩:=hall 0 (by omega)
  obtain ⟨_,hlen,hcell⟩:=World.cells?_some h1
  have h0:=hcell 0 (by rw [ce];decide)
  rw [List.getElem?_eq_getElem (by omega)] at h0
  simpa [Addr.add] using World.cell?_spot h0
 subst hs
 have ha:∀ q j,(⟨b,q,none⟩:Addr).add j=⟨b,q+j,none⟩:=fun q j => by unfold Addr.add;split <;> simp_all
 have each:∀ i,i < len→∃ r:Rv,w.cell? ⟨b,off+i * 2,none⟩=some (.slice r.A r.d.length r.c)∧w.cell? ⟨b,off+i * 2+1,none⟩=some (.int .u64 (r.n:Int))∧RvIn w r:=by
  intro i hi
  obtain ⟨cs,h1,h2⟩:=hall i (by omega)
  obtain ⟨_,hlen,hcell⟩:=World.cells?_some h1
  rw [ce] at hlen hcell
  obtain ⟨hcl,k2,ys,hD,hat⟩:=struct_at he hone (by rw [ce];rfl) h2
  match cs,hlen with
  | [v0,v1],_ =>
    obtain ⟨y0,hy0,q0⟩:=hat 0 g0 v0 rfl rfl
    obtain ⟨y1,hy1,q1⟩:=hat 1 g1 v1 rfl rfl
    obtain ⟨d0,p0⟩:=y0
    have hin:∀ q ∈ DataW.weights P e (D i),q≤140737488351232:=fun q hq => by
     refine hw q ?_
     rw [hdd]
     unfold DataW.weights
     rw [ht]
     simp only [List.mem_cons,List.mem_append]
     exact .inr (.inl (weightsAll_mem (List.mem_map.2 ⟨i,List.mem_range.2 hi,rfl⟩) hq))
    rw [hD] at hin
    obtain ⟨A,c,l,rfl,hr,hez,hlc,hcm⟩:=hd k2 v0 d0 p0 q0 fun q hq => hin q (weights_agg he (i:=0) rfl (by rw [List.getElem?_map,hy0];rfl) hq)
    obtain ⟨N,hN,_,hwf⟩:=DataW.trod_int t1 q1
    simp only [List.cons.injEq,and_true] at hN
    subst hN
    have hb:=bounds_u64 hwf
    obtain ⟨N,rfl⟩:=Int.eq_ofNat_of_zero_le hb.1
    have k0:=hcell 0 (by decide)
    have k1:=hcell 1 (by decide)
    rw [ha,ha] at k0 k1
    exact ⟨⟨l,A,c,N⟩,by simpa using k0,by simpa using k1,⟨hlc,hr⟩,hez,hcm,by show N < _;omega⟩
 obtain ⟨q,hq⟩:=choose_lt each
 have hb:b < w.heap.size:=World.block_lt_of_cell? w _ (hq 0 (by omega)).1
 have hlq:((List.range len).map q).length=len:=by simp
 refine ⟨some ⟨b,off,none⟩,c',(List.range len).map q,by rw [hlq],.inr ⟨b,off,rfl,hb,fun j u hj => ?_⟩,fun y hy => ?_,by rw [hlq];exact hl,hm⟩
 · have hjl:j < len * 2:=by
    have:=(List.getElem?_eq_some_iff.1 hj).1
    rw [rvs_len,hlq] at this
    exact this
   obtain ⟨p1,p2⟩:=rvs_at ((List.range len).map q) (j / 2) (by rw [hlq];omega)
   simp only [List.getElem_map,List.getElem_range] at p1 p2
   obtain ⟨r1,r2,_⟩:=hq (j / 2) (by omega)
   by_cases hj2:j % 2=0
   · have e1:j=j / 2 * 2:=by omega
     rw [e1,p1] at hj
     injection hj with hj
     rw [e1,r1,hj]
   · have e1:j=j / 2 * 2+1:=by omega
     rw [e1,p2] at hj
     injection hj with hj
     rw [e1,← Nat.add_assoc,r2,hj]
 · obtain ⟨i,hi,rfl⟩:=List.mem_map.1 hy
   exact (hq i (List.mem_range.1 hi)).2.2
end
end Go.Proofs.YtgidfnhfgiehjaaGreatDoor
end
