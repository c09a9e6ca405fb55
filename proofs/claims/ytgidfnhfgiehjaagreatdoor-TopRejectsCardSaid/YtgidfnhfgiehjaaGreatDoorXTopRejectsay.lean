/-
  Texts of the proof, joined: Awake13 Delta Delta2. Conditions: as each names.
-/
import Derived.Test.YtgidfnhfgiehjaaGreatDoorXTopRejectsax

section
namespace Go.Proofs.YtgidfnhfgiehjaaGreatDoor
open Go.RowKit Go.PM
set_option maxRecDepth 100000
set_option maxHeartbeats 4000000
attribute [local go_sem ↓] Go.wp_at_zero Go.wp_at_succ
theorem exam13g (a:UInt8) (ha:ugood [a]=true):echk [a] []=0:=by
 unfold echk uchk
 rw [ha,ugood_nil]
 simp
theorem exam13r (a:UInt8) (n:Nat) (ha:ugood [a]=true) (hn:n≠0):rwchk echk ([([a],[])],n)=0:=by
 have e1:=exam13g a ha
 have e2:dchk echk [([a],[])]=0:=by
  unfold dchk
  rw [if_neg (by show ¬ dmany 1≠0;decide),dchk1,if_neg (by rw [e1];decide),if_neg (by show ¬ (0:Int)≠0;decide)]
  rfl
 unfold rwchk
 rw [if_neg (by rw [e2];decide),if_neg hn]
theorem exam13k (a:UInt8):dkey [([a],[])]=[1,1,a,0]:=by
 have e1:vput 1=[1]:=by rw [vput_small (by omega)];rfl
 have e0:vput 0=[0]:=by rw [vput_small (by omega)];rfl
 show vput 1++((vput 1++([a]++(vput 0++[])))++[])=_
 rw [e1,e0]
 rfl
theorem exam13a:ugood [97]=true:=by rw [ugood_step (by decide)];exact ugood_nil
theorem exam13b:ugood [98]=true:=by rw [ugood_step (by decide)];exact ugood_nil
theorem awakeE12 (w:World) (hT:Tabs w):Calls Tryz.prog 259 #[] w fun e w' => e=.returned (.bool true)∧Below w.heap.size w w':=by
 have H:=Lib.hid (awake12 w hT)
 clear hT
 go_enter Tryz.func259,Tryz.ntmps259
 go_wp2_with fail
 refine H.out.mono ?_
 rintro e w' ⟨rfl,hb⟩
 go_wp2
 go_ret
 exact ⟨rfl,hb⟩
theorem rd_ent1 {w:World} {b:Nat} {a:UInt8} (h:BlkAt w b 132 #[.string ⟨#[a]⟩,.string ⟨#[]⟩]):Rd w (some ⟨b,0,none⟩) (ents [([a],[])]):=by
 refine .inr ⟨b,0,rfl,h.lt,fun j u hj => ?_⟩
 rw [Nat.zero_add,h.cell j,List.getElem?_toArray]
 exact hj
theorem list_two {α:Type}:∀ {l:List α},l.length=2→∃ a b,l=[a,b]
 | [a,b],_ => ⟨a,b,rfl⟩
 | [],h | [_],h | _ :: _ :: _ :: _,h => by simp at h
theorem list_one {α:Type}:∀ {l:List α},l.length=1→∃ a,l=[a]
 | [a],_ => ⟨a,rfl⟩
 | [],h | _ :: _ :: _,h => by simp at h
theorem awake13 (w:World) (hT:Tabs w) :
 Calls Tryz.prog 257 #[] w fun e w' => e=.returned (.bool true)∧Below w.heap.size w w':=by
 have hx0:=BlkAt.made w 132 #[.string ⟨#[97]⟩,.string ⟨#[]⟩]
 have hb0:=ba (a:=w) b0 (.cells #[.string ⟨#[97]⟩,.string ⟨#[]⟩] 132)
 obtain ⟨wa,hwa⟩:∃ wa,wa=w.alloc (.cells #[.string ⟨#[97]⟩,.string ⟨#[]⟩] 132):=⟨_,rfl⟩
 have hsa:wa.heap.size=w.heap.size+1:=by rw [hwa];simp
 rw [← hwa] at hx0 hb0
 have hx1:=BlkAt.made wa 132 #[.string ⟨#[98]⟩,.string ⟨#[]⟩]
 have hb1:=ba hb0 (.cells #[.string ⟨#[98]⟩,.string ⟨#[]⟩] 132)
 have hx0b:=hx0.more (.cells #[.string ⟨#[98]⟩,.string ⟨#[]⟩] 132)
 obtain ⟨wb,hwb⟩:∃ wb,wb=wa.alloc (.cells #[.string ⟨#[98]⟩,.string ⟨#[]⟩] 132):=⟨_,rfl⟩
 have hsb:wb.heap.size=w.heap.size+2:=by rw [hwb];simp [hsa]
 rw [← hwb] at hx1 hb1 hx0b
 rw [hsa] at hx1
 have hx2:=BlkAt.made wb 134 #[.slice (some ⟨w.heap.size+1,0,none⟩) 1 1,.int .u64 2,.slice (some ⟨w.heap.size,0,none⟩) 1 1,.int .u64 1]
 have hb2:=ba hb1 (.cells #[.slice (some ⟨w.heap.size+1,0,none⟩) 1 1,.int .u64 2,.slice (some ⟨w.heap.size,0,none⟩) 1 1,.int .u64 1] 134)
 have hx0c:=hx0b.more (.cells #[.slice (some ⟨w.heap.size+1,0,none⟩) 1 1,.int .u64 2,.slice (some ⟨w.heap.size,0,none⟩) 1 1,.int .u64 1] 134)
 have hx1c:=hx1.more (.cells #[.slice (some ⟨w.heap.size+1,0,none⟩) 1 1,.int .u64 2,.slice (some ⟨w.heap.size,0,none⟩) 1 1,.int .u64 1] 134)
 obtain ⟨wc,hwc⟩:∃ wc,wc=wb.alloc (.cells #[.slice (some ⟨w.heap.size+1,0,none⟩) 1 1,.int .u64 2,.slice (some ⟨w.heap.size,0,none⟩) 1 1,.int .u64 1] 134):=⟨_,rfl⟩
 rw [← hwc] at hx2 hb2 hx0c hx1c
 rw [hsb] at hx2
 have hrd:Rd wc (some ⟨w.heap.size+2,0,none⟩) (rvs [⟨[([98],[])],some ⟨w.heap.size+1,0,none⟩,1,2⟩,⟨[([97],[])],some ⟨w.heap.size,0,none⟩,1,1⟩]):=by
  refine .inr ⟨_,0,rfl,hx2.lt,fun j u hj => ?_⟩
  rw [Nat.zero_add,hx2.cell j,List.getElem?_toArray]
  exact hj
 have hro:∀ r ∈ ([⟨[([98],[])],some ⟨w.heap.size+1,0,none⟩,1,2⟩,⟨[([97],[])],some ⟨w.heap.size,0,none⟩,1,1⟩]:List Rv),RvOk wc (fun _ => True) r:=fun r hr => by
  simp only [List.mem_cons,List.not_mem_nil,or_false] at hr
  rcases hr with rfl | rfl
  · exact ⟨Nat.le_refl 1,(rd_ent1 hx1c).rdI fun _ _ _ => trivial⟩
  · exact ⟨Nat.le_refl 1,(rd_ent1 hx0c).rdI fun _ _ _ => trivial⟩
 have hz:∀ r ∈ ([⟨[([98],[])],some ⟨w.heap.size+1,0,none⟩,1,2⟩,⟨[([97],[])],some ⟨w.heap.size,0,none⟩,1,1⟩]:List Rv),ESz r.d∧r.d.length≤9223372036854775807:=fun r hr => by
  simp only [List.mem_cons,List.not_mem_nil,or_false] at hr
  rcases hr with rfl | rfl
  · exact ⟨fun e he => by simp only [List.mem_cons,List.not_mem_nil,or_false] at he;subst he;simp,by simp⟩
  · exact ⟨fun e he => by simp only [List.mem_cons,List.not_mem_nil,or_false] at he;subst he;simp,by simp⟩
 have hck:∀ r ∈ ([⟨[([98],[])],some ⟨w.heap.size+1,0,none⟩,1,2⟩,⟨[([97],[])],some ⟨w.heap.size,0,none⟩,1,1⟩]:List Rv),rwchk echk r.rw=0:=fun r hr => by
  simp only [List.mem_cons,List.not_mem_nil,or_false] at hr
  rcases hr with rfl | rfl
  · exact exam13r 98 2 exam13b (by decide)
  · exact exam13r 97 1 exam13a (by decide)
 have hof:=of13_two (some ⟨w.heap.size+2,0,none⟩) 2 _ _ _ (fun _ => True) wc rfl hrd hro hz hck (hT.below hb2) (by
  unfold keyLess
  rw [exam13k,exam13k,ByteArray.toList_eq,ByteArray.toList_eq]
  decide) (by
  rw [exam13k,exam13k,ByteArray.toList_eq,ByteArray.toList_eq]
  decide)
 have HO:=Lib.hid hof
 have HB2:=Lib.hid hb2
 have HA:Hid (∀ x:World,Below w.heap.size w x→Calls Tryz.prog 259 #[] x fun e w' => e=.returned (.bool true)∧Below x.heap.size x w'):=fun x hx => awakeE12 x (hT.below hx)
 clear hof hrd hro hz hck hx0 hx0b hx0c hx1 hx1c hx2 hb0 hb1 hb2 hT hsa hsb
 subst hwc hwb hwa
 go_enter Tryz.func257,Tryz.ntmps257
 go_wp2_with fail
 refine HO.out.mono ?_
 rintro e w3 ⟨v,rfl,⟨l,A,c,rfl,hl,hrl,hol,hlc,hfr⟩,hb3⟩
 obtain ⟨r0,r1,rfl⟩:∃ r0 r1,l=[r0,r1]:=list_two (by have:=congrArg List.length hl;rw [List.length_map] at this;exact this.symm)
 have hn0:r0.n=1:=by simp only [List.map_cons,List.cons.injEq] at hl;have:=congrArg Prod.snd hl.1;simpa [Rv.rw] using this.symm
 have hn1:r1.n=2:=by simp only [List.map_cons,List.cons.injEq] at hl;have:=congrArg Prod.snd hl.2.1;simpa [Rv.rw] using this.symm
 have HB3:=Lib.hid (bb HB2.out hb3)
 have HRL:=Lib.hid hrl
 clear hl hol hlc hfr hb3 hrl HO HB2
 go_wp2_with fail
 refine (HA.out _ HB3.out).mono ?_
 rintro e w4 ⟨rfl,hb4⟩
 have hrd4:=HRL.out.below hb4
 obtain ⟨b,off,hA,hbl,_,c1⟩:=hrd4.row (k:=0) (by simp)
 obtain ⟨b',off',hA',_,_,c3⟩:=hrd4.row (k:=1) (by simp)
 rw [hA] at hA'
 injection hA' with hA'
 injection hA' with e1 e2
 subst e1 e2 hA
 simp only [List.getElem_cons_zero,List.getElem_cons_succ,hn0,hn1,Nat.zero_mul,Nat.one_mul,Nat.add_zero] at c1 c3
 have HB4:=Lib.hid (bb HB3.out hb4)
 clear hb4 hrd4 HRL HA HB3 hn0 hn1
 go_wp2_with fail
 go_ret
 exact ⟨rfl,HB4.out⟩
theorem awakeE13 (w:World) (hT:Tabs w):Calls Tryz.prog 256 #[] w fun e w' => e=.returned (.bool true)∧Below w.heap.size w w':=by
 have H:=Lib.hid (awake13 w hT)
 clear hT
 go_enter Tryz.func256,Tryz.ntmps256
 go_wp2_with fail
 refine H.out.mono ?_
 rintro e w' ⟨rfl,hb⟩
 go_wp2
 go_ret
 exact ⟨rfl,hb⟩
theorem awake14 (w:World) (hT:Tabs w) :
 Calls Tryz.prog 253 #[] w fun e w' => e=.returned (.bool true)∧Below w.heap.size w w':=by
 have hx:=BlkAt.made w 9 #[.string ⟨#[117,115,101,114]⟩,.string ⟨#[117,115,101,114,115]⟩]
 have hb0:=ba (a:=w) b0 (.cells #[.string ⟨#[117,115,101,114]⟩,.string ⟨#[117,115,101,114,115]⟩] 9)
 have HP:=Lib.hid (put14_two w.heap.size 2 _ hx.lt (hx.cell 0) (hx.cell 1))
 have HA:Hid (∀ x:World,Below w.heap.size w x→Calls Tryz.prog 256 #[] x fun e w' => e=.returned (.bool true)∧Below x.heap.size x w'):=fun x hx => awakeE13 x (hT.below hx)
 have HB:=Lib.hid hb0
 clear hx hb0 hT
 go_enter Tryz.func253,Tryz.ntmps253
 go_wp2_with fail
 refine HP.out.mono ?_
 rintro e w1 ⟨rfl,hb1⟩
 have HB1:=Lib.hid (bb HB.out hb1)
 clear hb1
 go_wp2_with fail
 refine (HA.out _ HB1.out).mono ?_
 rintro e w2 ⟨rfl,hb2⟩
 have HB2:=Lib.hid (bb HB1.out hb2)
 clear hb2
 go_wp2_with fail
 go_ret
 exact ⟨rfl,HB2.out⟩
theorem awakeE14 (w:World) (hT:Tabs w):Calls Tryz.prog 251 #[] w fun e w' => e=.returned (.bool true)∧Below w.heap.size w w':=by
 have H:=Lib.hid (awake14 w hT)
 clear hT
 go_enter Tryz.func251,Tryz.ntmps251
 go_wp2_with fail
 refine H.out.mono ?_
 rintro e w' ⟨rfl,hb⟩
 go_wp2
 go_ret
 exact ⟨rfl,hb⟩
theorem exam15a:pktext [([([97],[])],5)]=[1,0,4,1,1,97,0,5]:=by
 have e0:vput 0=[0]:=by rw [vput_small (by omega)];rfl
 have e1:vput 1=[1]:=by rw [vput_small (by omega)];rfl
 have e4:vput 4=[4]:=by rw [vput_small (by omega)];rfl
 have e5:vput 5=[5]:=by rw [vput_small (by omega)];rfl
 have p:pcom [] [1,1,97,0]=0:=by decide
 have e6:pkrows [] [([([97],[])],5)]=pone [] (dkey [([97],[])])++(vput 5++[]):=rfl
 unfold pktext
 rw [e6,exam13k]
 unfold pone
 rw [p]
 show vput 1++((vput 0++(vput 4++_))++(vput 5++[]))=_
 rw [e0,e1,e4,e5]
 rfl
theorem exam15b:pkget echk [1,0,4,1,1,97,0,5]=([([([97],[])],5)],0):=by
 rw [← exam15a]
 refine pkget_put (chk:=echk) ?_ ?_
 · have e1:=exam13r 97 5 exam13a (by decide)
   unfold tchk
   rw [if_neg (by decide),tchk1,if_neg (by rw [e1];decide),if_neg (by show ¬ (0:Int)≠0;decide)]
   rfl
 · intro x hx
   simp only [List.mem_cons,List.not_mem_nil,or_false] at hx
   subst hx
   refine ⟨by decide,by rw [exam13k];decide,fun e he => ?_⟩
   simp only [List.mem_cons,List.not_mem_nil,or_false] at he
   subst he
   decide
theorem exam15c:pkput echk []=([0],0):=by
 have e0:vput 0=[0]:=by rw [vput_small (by omega)];rfl
 show (pktext [],(0:Int))=_
 show (vput 0++[],(0:Int))=_
 rw [e0]
 rfl
theorem awake15 (w:World) (hT:Tabs w) :
 Calls Tryz.prog 249 #[] w fun e w' => e=.returned (.bool true)∧Below w.heap.size w w':=by
 have HP:Hid (Calls Tryz.prog 90 #[.slice none 0 0] w fun e w' => e=.returned (.tuple #[.string ⟨#[0]⟩,.int .i64 0])∧Below w.heap.size w w'):=by
  have:=pput_any none 0 [] (fun _ => True) w (.inl rfl) (by simp) (by simp) (by simp) (by simp) hT
  rw [List.map_nil,exam15c] at this
  exact this
 have HG:Hid (∀ x:World,Below w.heap.size w x→Calls Tryz.prog 143 #[.string ⟨#[1,0,4,1,1,97,0,5]⟩] x fun e w' => ∃ v,e=.returned (.tuple #[v,.int .i64 0])∧TbN x.heap.size w' v [([([97],[])],5)]∧Below x.heap.size x w'):=fun x hx => by
  have:=pget_any ⟨#[1,0,4,1,1,97,0,5]⟩ x (hT.below hx) (by decide)
  unfold PGetEnd at this
  rw [show (ByteArray.mk #[1,0,4,1,1,97,0,5]).data.toList=[1,0,4,1,1,97,0,5] from rfl,exam15b] at this
  exact this
 have HA:Hid (∀ x:World,Below w.heap.size w x→Calls Tryz.prog 251 #[] x fun e w' => e=.returned (.bool true)∧Below x.heap.size x w'):=fun x hx => awakeE14 x (hT.below hx)
 clear hT
 go_enter Tryz.func249,Tryz.ntmps249
 go_wp2_with fail
 refine HP.out.mono ?_
 rintro e w1 ⟨rfl,hb1⟩
 have HB1:=Lib.hid hb1
 clear hb1
 go_wp2_with fail
 refine (HG.out _ HB1.out).mono ?_
 rintro e w3 ⟨v,rfl,⟨l,A,c,rfl,hl,hrl,hol,hlc,hfr⟩,hb3⟩
 obtain ⟨r0,rfl⟩:=list_one (l:=l) (by have:=congrArg List.length hl;rw [List.length_map] at this;exact this.symm)
 have hn0:r0.n=5:=by simp only [List.map_cons,List.cons.injEq] at hl;have:=congrArg Prod.snd hl.1;simpa [Rv.rw] using this.symm
 have HB3:=Lib.hid (bb HB1.out hb3)
 have HRL:=Lib.hid hrl
 clear hl hol hlc hfr hb3 hrl HG HP
 go_wp2_with fail
 refine (HA.out _ HB3.out).mono ?_
 rintro e w4 ⟨rfl,hb4⟩
 have hrd4:=HRL.out.below hb4
 obtain ⟨b,off,hA,hbl,_,c1⟩:=hrd4.row (k:=0) (by simp)
 subst hA
 simp only [List.getElem_cons_zero,hn0,Nat.zero_mul,Nat.add_zero] at c1
 have HB4:=Lib.hid (bb HB3.out hb4)
 clear hb4 hrd4 HRL HA HB3 hn0
 go_wp2_with fail
 go_ret
 exact ⟨rfl,HB4.out⟩
theorem awakeE15 (w:World) (hT:Tabs w):Calls Tryz.prog 243 #[] w fun e w' => e=.returned (.bool true)∧Below w.heap.size w w':=by
 have H:=Lib.hid (awake15 w hT)
 clear hT
 go_enter Tryz.func243,Tryz.ntmps243
 go_wp2_with fail
 refine H.out.mono ?_
 rintro e w' ⟨rfl,hb⟩
 go_wp2
 go_ret
 exact ⟨rfl,hb⟩
end Go.Proofs.YtgidfnhfgiehjaaGreatDoor
end

section
namespace Go.Proofs.YtgidfnhfgiehjaaGreatDoor
open Go.RowKit Go.PM
set_option maxRecDepth 100000
set_option maxHeartbeats 4000000
attribute [local go_sem ↓] Go.wp_at_zero Go.wp_at_succ
theorem dlrow_any {w:World} {A:Option Addr} {c n:Nat} {l:List Ent} (hr:Rd w A (ents l)) (hl:l.length≤1000000) (h0:l≠[]) :
 Calls Tryz.prog 248 #[.slice A l.length c,.int .u64 (n:Int)] w fun e w' => ∃ A' c',e=.returned (.agg #[.slice A' l.length c',.int .u64 (n:Int)])∧RvOk w' (w.heap.size≤·) ⟨l,A',c',n⟩∧Below w.heap.size w w':=by
 have hb1:=ba (a:=w) b0 (.cells #[.slice none 0 0,.int .u64 0] 134)
 have HY:=Lib.hid (BlkAt.made w 134 #[.slice none 0 0,.int .u64 0])
 have HR:=Lib.hid (hr.below hb1)
 have HB:=Lib.hid hb1
 have hsz:w.heap.size+1=(w.alloc (.cells #[.slice none 0 0,.int .u64 0] 134)).heap.size:=by simp
 have HZ:=Lib.hid hsz
 clear hr hb1 hsz
 go_enter Tryz.func248,Tryz.ntmps248
 go_wp2_with fail
 refine (clone13_any HR.out hl h0).mono ?_
 rintro e W1 ⟨A1,c1,rfl,hro,hb1'⟩
 have hbW:=hb1'
 generalize (w.alloc (.cells #[.slice none 0 0,.int .u64 0] 134))=wz at *
 have hy1:=HY.out.below hbW HY.out.lt
 have f0:=hy1.free 0
 have f1:=hy1.free 1
 have d0:=hy1.cell 0
 have d1:=hy1.cell 1
 have hlw:=hy1.lt
 simp at d0 d1
 have HE:Hid (∀ w',Tch (fun j => j=w.heap.size) W1 w'→RvOk w' (w.heap.size≤·) ⟨l,A1,c1,n⟩∧Below w.heap.size w w'):=fun w' ht =>
  ⟨((show RvOk W1 (wz.heap.size≤·) ⟨l,A1,c1,n⟩ from hro).tch ht fun g hg e => by have:=HZ.out;omega).imp fun g _ hg => by have:=HZ.out;omega,(HB.out.trans (hbW.mono HB.out.size)).trans (ht.toBelowB (by have:=hbW.size;have:=HZ.out;omega) fun g hg e => by omega)⟩
 clear hro hb1' hbW HY HR
 go_wp2_with fail
 refine bodyPost_ret (v:=.agg #[.slice A1 l.length c1,.int .u64 (n:Int)]) (by simp [results,Tryz.results248,go_sem,d0,d1];try rfl) rfl ⟨A1,c1,rfl,HE.out _ (res_two _ _ _ _)⟩
theorem scheck_any (ep:Int) (A:Option Addr) (c:Nat) (l:List Rv) (I:Nat→Prop) (w:World) (hr:Rd w A (rvs l)) (ho:∀ r ∈ l,RvOk w I r) (hz:∀ r ∈ l,ESz r.d∧r.d.length≤9223372036854775807) (hl:l.length≤9223372036854775807) (hT:Tabs w) :
 Calls Tryz.prog 245 #[.agg #[.int .u64 ep,.slice A l.length c]] w fun e w' => e=.returned (.int .i64 (tchk echk (l.map Rv.rw)))∧Below w.heap.size w w':=by
 have hbo:=ba (a:=w) b0 (.cells #[.int .u64 ep,.slice A l.length c] 325)
 have HC:=Lib.hid (tcheck_any A c l I _ (hr.below hbo) (fun r h => (ho r h).below hbo) hz hl (hT.below hbo))
 have HB:=Lib.hid hbo
 clear hr ho hz hT hbo
 generalize tchk echk (l.map Rv.rw)=E at *
 go_enter Tryz.func245,Tryz.ntmps245
 go_wp2_with fail
 refine HC.out.mono ?_
 rintro e w1 ⟨rfl,hb1⟩
 have HB1:=Lib.hid (bb HB.out hb1)
 clear hb1
 go_wp2_with fail
 go_ret
 exact ⟨rfl,HB1.out⟩
theorem dfirst_two (b c0:Nat) (u v:Value) (w:World) (hb:b < w.heap.size) (h0:w.cell? ⟨b,0,none⟩=some (.func (.func 245) #[u] #[])) (h1:w.cell? ⟨b,1,none⟩=some (.func (.func 245) #[v] #[]))
 (hu:Calls Tryz.prog 245 #[u] w fun e w' => e=.returned (.int .i64 0)∧Below w.heap.size w w') (hv:∀ x,Below w.heap.size w x→Calls Tryz.prog 245 #[v] x fun e w' => e=.returned (.int .i64 0)∧Below x.heap.size x w') :
 Calls Tryz.prog 244 #[.slice (some ⟨b,0,none⟩) 2 c0] w fun e w' => e=.returned (.int .i64 0)∧Below w.heap.size w w':=by
 have HU:=Lib.hid hu
 have HV:=Lib.hid hv
 clear hu hv
 go_enter Tryz.func244,Tryz.ntmps244
 go_wp2_with fail
 refine wp_loop_rounds 3 ?_
 rw [rounds_succ]
 go_wp2_with fail
 refine HU.out.mono ?_
 rintro e w1 ⟨rfl,hb1⟩
 have h1':=(hb1.cell (p:=⟨b,1,none⟩) hb).trans h1
 have HB1:=Lib.hid hb1
 clear hb1 h0 h1
 go_wp2_with fail
 rw [rounds_succ]
 go_wp2_with fail
 refine (HV.out _ HB1.out).mono ?_
 rintro e w2 ⟨rfl,hb2⟩
 have HB2:=Lib.hid (bb HB1.out hb2)
 clear hb2
 go_wp2_with fail
 rw [rounds_succ]
 go_wp2_with fail
 go_ret
 exact ⟨rfl,HB2.out⟩
end Go.Proofs.YtgidfnhfgiehjaaGreatDoor
end

section
namespace Go.Proofs.YtgidfnhfgiehjaaGreatDoor
open Go.RowKit Go.PM
set_option maxRecDepth 100000
set_option maxHeartbeats 4000000
attribute [local go_sem ↓] Go.wp_at_zero Go.wp_at_succ
theorem atleast13 (A B:Option Addr) (c c':Nat) (x y z:Rv) (w:World) (hA:Rd w A (rvs [x,y])) (hB:Rd w B (rvs [z])) (hx:Rd w x.A (ents x.d)) (hz:Rd w z.A (ents z.d)) (hmx:EMil x.d) (hd:x.d=z.d) (hn:z.n≤x.n)
 (hlt:Op.bytesLess (txt (dkey z.d)).toList (txt (dkey z.d)).toList=false) (hne:((txt (dkey z.d)).toList != (txt (dkey z.d)).toList)=false) :
 Calls Tryz.prog 246 #[.slice A 2 c,.slice B 1 c'] w fun e w' => e=.returned (.bool true)∧Below w.heap.size w w':=by
 obtain ⟨ba',oa,rfl,hla,a0,a1⟩:=hA.row (k:=0) (by simp)
 obtain ⟨bb',ob,rfl,hlb,b0',b1'⟩:=hB.row (k:=0) (by simp)
 obtain ⟨xd,xA,xc,xn⟩:=x
 obtain ⟨zd,zA,zc,zn⟩:=z
 simp only [List.getElem_cons_zero,Nat.zero_mul,Nat.add_zero] at a0 a1 b0' b1'
 simp only at hx hz hmx hd hn hlt hne
 subst hd
 have hbo:=ba (a:=w) b0 (.cells #[.slice zA xd.length zc,.int .u64 (zn:Int)] 134)
 have HX:=Lib.hid (BlkAt.made w 134 #[.slice zA xd.length zc,.int .u64 (zn:Int)])
 have HKZ:Hid (∀ q,Below w.heap.size w q→Calls Tryz.prog 76 #[.slice zA xd.length zc] q fun e w' => e=.returned (.string (txt (dkey xd)))∧Below q.heap.size q w'):=fun q hq => key12_any zA zc xd q (hz.below hq) hmx
 have HKX:Hid (∀ q,Below w.heap.size w q→Calls Tryz.prog 76 #[.slice xA xd.length xc] q fun e w' => e=.returned (.string (txt (dkey xd)))∧Below q.heap.size q w'):=fun q hq => key12_any xA xc xd q (hx.below hq) hmx
 have HB:=Lib.hid hbo
 have hnn:¬ (xn:Int) < (zn:Int):=by omega
 have HA0:Hid (∀ q,Below w.heap.size w q→q.cell? ⟨ba',oa,none⟩=some (.slice xA xd.length xc)∧q.cell? ⟨ba',oa+1,none⟩=some (.int .u64 (xn:Int))):=fun q hq => ⟨(hq.cell (p:=⟨ba',oa,none⟩) hla).trans a0,(hq.cell (p:=⟨ba',oa+1,none⟩) hla).trans a1⟩
 clear hA hB hx hz hmx hbo hn
 generalize txt (dkey xd)=K at *
 go_enter Tryz.func246,Tryz.ntmps246
 go_wp2_with fail
 refine wp_loop_rounds 2 ?_
 rw [rounds_succ]
 go_wp2_with fail
 refine (HKZ.out _ HB.out).mono ?_
 rintro e w1 ⟨rfl,hb1⟩
 have hx1:=HX.out.below hb1 HX.out.lt
 have HB1:=Lib.hid (bb HB.out hb1)
 obtain ⟨p0,p1⟩:=HA0.out _ HB1.out
 clear hb1 a0 a1 b0' b1' HB
 have HX1:=Lib.hid hx1
 clear hx1
 go_wp2_with fail
 refine wp_loop_rounds 1 ?_
 rw [rounds_succ]
 go_wp2_with fail
 refine (HKX.out _ HB1.out).mono ?_
 rintro e w2 ⟨rfl,hb2⟩
 have HB2:=Lib.hid (bb HB1.out hb2)
 have HX2:=Lib.hid (HX1.out.below hb2 HX1.out.lt)
 clear hb2 p0 p1
 go_wp2_with fail
 have n0:∀ n:BelW w2,n.wld.cell? ⟨ba',oa,none⟩=some (.slice xA xd.length xc):=fun n => (HA0.out _ (bb HB2.out n.bel)).1
 have n1:∀ n:BelW w2,n.wld.cell? ⟨ba',oa+1,none⟩=some (.int .u64 (xn:Int)):=fun n => (HA0.out _ (bb HB2.out n.bel)).2
 have n2:∀ n:BelW w2,n.wld.cell? ⟨w.heap.size,1,none⟩=some (.int .u64 (zn:Int)):=fun n => (HX2.out.below n.bel HX2.out.lt).cell 1
 have HKN:Hid (∀ n:BelW w2,Calls Tryz.prog 76 #[.slice xA xd.length xc] n.wld fun e w' => e=.returned (.string K)∧Below n.wld.heap.size n.wld w'):=fun n => HKX.out _ (bb HB2.out n.bel)
 refine wp_region_below_lit (by kernel_rfl) (by kernel_rfl) ?_
 repeat (first | go_big_quiet_skip | (go_big_quiet_want;go_big_quiet_op;first | go_big_quiet_on | (apply Exists.intro;refine ⟨fun nq => ?_,?_⟩;(go_at_call 76;exact below_of (HKN.out _));go_big_quiet_on)))
 refine wpQuiet_nil ?_
 intro wq hnq
 obtain ⟨nq,rfl⟩:=hnq
 have hq:=nq.bel
 generalize nq.wld=wq at hq ⊢
 clear nq
 go_wp2_with fail
 rw [rounds_succ]
 go_wp2_with fail
 go_ret
 exact ⟨rfl,bb HB2.out hq⟩
end Go.Proofs.YtgidfnhfgiehjaaGreatDoor
end
